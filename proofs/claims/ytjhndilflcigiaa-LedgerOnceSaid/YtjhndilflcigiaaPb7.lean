/-
  Lemmas (walks and plain laws), in one text.
-/
import Derived.Test.YtjhndilflcigiaaPb6
import Derived.Test.YtjhndilflcigiaaRows
import Derived.WalkKit
import Derived.WalkSpells
import Derived.WalkLawsBesides
import Derived.Lib.Hide
import Derived.Deep.QuietTactic
import Derived.BigQuiet
import Derived.Maps.AppendAt
import Derived.WalkSmall
import Derived.ProofKit
import Derived.OpenShut
import Derived.JoinedCond
import Derived.Deep.Slices
import Derived.Deep.Fields
import Derived.Carry
import Derived.Test.YtjhndilflcigiaaProg
import Derived.Deep.CutBlock
import Derived.Deep.DeepCutAuto
import Derived.Deep.AppendSrc
import Derived.Lib.AppendStr
import Derived.Laws.BytesArg
import Derived.Laws.CopyOwn
import Derived.Outline
import Derived.IntWalk
import Derived.Lib.EndianBits
import Derived.Laws.Tables
import Derived.Laws.Rows
import Derived.Shelf.Spec.TrailingZeros
import Derived.StillTail
import Derived.Lib.AppendZeros
import Derived.Deep.Quiet
import Derived.ChangeKeysEq
import Derived.Laws.StructEq
import Derived.Laws.LoneSync
namespace Go.Proofs.Ytjhndilflcigiaa
open Go.RowKit

theorem elemN : Elem Try.prog 44 102 5 48 := Elem.mk' Try.underlying44 (z := .agg #[.int .i64 0, .int .i64 0, .int .i64 0, .int .i64 0, .string ⟨#[]⟩]) (by kernel_rfl) rfl (by omega) (by omega)
set_option maxHeartbeats 400000 in
set_option maxRecDepth 4000 in
theorem c_Clone_n (l : List Node) (A : Option Addr) (c : Nat) (w : World) (h : In 5 Node.cells w A c l) :
    Calls Try.prog 71 #[.slice A l.length c] w (RetS 5 Node.cells 102 w l) := by
  have hL := h.1
  have hC := h.2.1
  have hS := h.2.2.1
  have EB := elemN
  rcases A with _ | ad
  · have hl : l = [] := by
      rcases h.2.2.2 with h | ⟨b, off, hh, _⟩
      · exact h
      · cases hh
    subst hl
    clear h
    have ke := fun (w : World) (n c : Nat) => Lib.run_eql_slice_nil (P := Try.prog) w 44 _ none n c 0 0 Try.underlying44
    go_enter Try.func71, Try.ntmps71
    go_wp2_with (fail)
    go_ret
    exact ⟨_, rfl, World.ownsRow_nil _ _ _ _, Below.refl _ _⟩
  · have ke := fun (w : World) (n c : Nat) => Lib.run_eql_slice_nil (P := Try.prog) w 44 _ (some ad) n c 0 0 Try.underlying44
    go_enter Try.func71, Try.ntmps71
    go_wp2_with ((at_builtin; refine Stop.out ?_))
    refine Stop.mk (wpList_app _ rfl (.tmp 5) (.tmp 6) EB rfl w.heap.size (.slice (some ⟨w.heap.size, 0, none⟩) 0 0) 0 [] rfl (World.ownsRow_lit w #[] 0 (Nat.le_refl _) (by unfold maxLen; omega) (by simp)) (some ad) l.length c (l.flatMap Node.cells) rfl (Src.of_in Node.cells_len (by omega) (h.alloc _)) (nodes_one _) (by omega) ?_ ?_)
    · simp only [World.size_alloc]; omega
    intro v2 w2 own2 _ hb2 _
    rw [Nat.zero_add, List.nil_append] at own2
    have hb3 : Below w.heap.size w w2 := Below.trans (b := w.alloc (.cells #[] 102)) (by repeat (first | exact Below.refl _ _ | refine Below.drew ?_ | refine Below.alloc ?_ (by first | omega | (simp; done) | (simp; omega)) _ | refine Below.setCell ?_ (by first | omega | (simp; done) | (simp; omega)) _ | refine Below.trans ?_ (Below.mono (by assumption) (by first | omega | (simp; done) | (simp; omega))))) hb2
    go_wp2_with (fail)
    go_ret
    exact ⟨_, rfl, own2, hb3⟩
theorem Kid.cells_len (x : Kid) : x.cells.length = 1 := rfl
end Go.Proofs.Ytjhndilflcigiaa
namespace Go.Proofs.Ytjhndilflcigiaa
open Go.RowKit

def joined (op : Int) (l : List Node) : List Node := ⟨op, 0, ⟨0, 0, []⟩⟩ :: l
theorem Tree.ahead {a : List Node} {d : Nat} (h : Tree a d) (q : List Node) : Trees 1 (a ++ q) q d := by
  obtain ⟨p, hp, hq⟩ := Trees.behind h
  rw [List.append_nil] at hp
  subst hp
  exact hq q
end Go.Proofs.Ytjhndilflcigiaa
namespace Go.Proofs.Ytjhndilflcigiaa
open Go.RowKit

theorem neq_node (x y : Node) (w : World) (h : x ≠ y) : (binOp .neq 102 x.val y.val).run Try.prog w = .ok (.bool true) w := by
  obtain ⟨o1, n1, k1, m1, s1⟩ := x
  obtain ⟨o2, n2, k2, m2, s2⟩ := y
  unfold Node.val
  by_cases h1 : o1 = o2
  · by_cases h2 : n1 = n2
    · by_cases h3 : k1 = k2
      · by_cases h4 : m1 = m2
        · have h5 : s1 ≠ s2 := fun e => h (by rw [h1, h2, h3, h4, e])
          have h7 : str s1 ≠ str s2 := fun e => h5 (str_inj e)
          simp [go_sem, h1, h2, h3, h4, h5]
        · simp [go_sem, h1, h2, h3, h4]
      · simp [go_sem, h1, h2, h3]
    · simp [go_sem, h1, h2]
  · simp [go_sem, h1]
set_option maxHeartbeats 400000 in
theorem c_ref10_Same (l1 l2 : List Node) (A1 A2 : Option Addr) (c1 c2 : Nat) (w : World) (h1 : InN w A1 c1 l1) (h2 : InN w A2 c2 l2) :
    Calls Try.prog 43 #[.slice A1 l1.length c1, .slice A2 l2.length c2] w (RetV w (.bool (decide (l1 = l2)))) := by
  have hL1 := h1.1
  have hC1 := h1.2.1
  have hS1 := h1.2.2.1
  have hL2 := h2.1
  have hC2 := h2.2.1
  have hS2 := h2.2.2.1
  by_cases hlen : l1.length = l2.length
  case neg =>
    have H : Hid (false = decide (l1 = l2)) := by
      show _ = _
      symm
      rw [decide_eq_false_iff_not]
      exact fun e => hlen (by rw [e])
    go_enter Try.func43, Try.ntmps43
    go_wp2_with (fail)
    go_ret
    exact RetV.bool H.out (by repeat (first | exact Below.refl _ _ | refine Below.drew ?_ | refine Below.alloc ?_ (by first | omega | (simp; done) | (simp; omega)) _ | refine Below.setCell ?_ (by first | omega | (simp; done) | (simp; omega)) _ | refine Below.trans ?_ (Below.mono (by assumption) (by first | omega | (simp; done) | (simp; omega)))))
  have hd : ((l1.length : Int) != (l2.length : Int)) = false := by rw [hlen]; simp
  have HL := Lib.hid hlen
  clear hlen
  go_enter Try.func43, Try.ntmps43
  go_wp2_with (fail)
  go_loopw [5] (fun i wr => ∃ k : Nat, k ≤ l1.length ∧ i = .int .i64 k ∧ Hid (decide (l1.drop k = l2.drop k) = decide (l1 = l2)) ∧ Below w.heap.size w wr) (fun i _ => l1.length - (intOf i).toNat)
  case atStart => exact ⟨0, by omega, rfl, by simp [Hid], Below.refl _ _⟩
  case round =>
    obtain ⟨k, hk, rfl, H, hbl⟩ := hrel
    have hbz := hbl.size
    by_cases hlt : k < l1.length
    · have hlt2 : k < l2.length := by have := HL.out; omega
      obtain ⟨b1, off1, rfl, hb1, hrow1⟩ := h1.at hlt
      obtain ⟨b2, off2, rfl, hb2, hrow2⟩ := h2.at hlt2
      obtain ⟨e0, e1, e2, e3, e4⟩ := (hrow1.below hbl hb1).node hlt rfl
      obtain ⟨f0, f1, f2, f3, f4⟩ := (hrow2.below hbl hb2).node hlt2 rfl
      have hbr1 : b1 < wr.heap.size := by omega
      have hbr2 : b2 < wr.heap.size := by omega
      have hi1 : (0 : Int) ≤ (k : Int) := by omega
      have hi2 : (k : Int) < (l1.length : Int) := by omega
      have hi3 : (k : Int) < (l2.length : Int) := by omega
      have hH := H.out
      rw [List.drop_eq_getElem_cons hlt, List.drop_eq_getElem_cons hlt2] at hH
      clear h1 h2 H
      by_cases hx : l1[k] = l2[k]
      · have HN : Hid (decide (l1.drop (k + 1) = l2.drop (k + 1)) = decide (l1 = l2)) := by show _ = _; rw [← hH, hx]; simp only [List.cons.injEq, true_and]
        rw [← hx] at f0 f1 f2 f3 f4
        clear hH hx
        go_wp2_with (fail)
        refine wp_region_grow (by kernel_rfl) (by kernel_rfl) ?_
        repeat (quiet_step ((first | fail)))
        refine wpQuiet_nil ?_
        intro w2 hb2
        go_wp2_with (fail)
        go_roundw
        case rel => exact ⟨k + 1, by omega, by go_num, HN.out, (by repeat (first | exact Below.refl _ _ | refine Below.drew ?_ | refine Below.alloc ?_ (by first | omega | (simp; done) | (simp; omega)) _ | refine Below.setCell ?_ (by first | omega | (simp; done) | (simp; omega)) _ | refine Below.trans ?_ (Below.mono (by assumption) (by first | omega | (simp; done) | (simp; omega)))))⟩
        case measure => simp [intOf]; omega
      · have HN : Hid (false = decide (l1 = l2)) := by show _ = _; rw [← hH]; symm; rw [decide_eq_false_iff_not]; intro e; injection e with e; exact hx e
        have kn := fun w => neq_node l1[k] l2[k] w hx
        clear hH
        go_wp2_with (fail)
        refine wp_region_grow (by kernel_rfl) (by kernel_rfl) ?_
        repeat (quiet_step ((first | fail)))
        refine wpQuiet_nil ?_
        intro w2 hb2
        go_wp2_with (fail)
        go_ret
        exact RetV.bool HN.out (by repeat (first | exact Below.refl _ _ | refine Below.drew ?_ | refine Below.alloc ?_ (by first | omega | (simp; done) | (simp; omega)) _ | refine Below.setCell ?_ (by first | omega | (simp; done) | (simp; omega)) _ | refine Below.trans ?_ (Below.mono (by assumption) (by first | omega | (simp; done) | (simp; omega)))))
    · have hH := H.out
      rw [List.drop_of_length_le (by omega), List.drop_of_length_le (by have := HL.out; omega)] at hH
      have HN : Hid (true = decide (l1 = l2)) := by show _ = _; rw [← hH]; simp
      clear hH H
      go_wp2_with (fail)
      go_ret
      exact RetV.bool HN.out hbl
end Go.Proofs.Ytjhndilflcigiaa
namespace Go.Proofs.Ytjhndilflcigiaa
open Go.RowKit

theorem InN.lit (w : World) (l : List Node) (t : TypeId) (n : Nat) (hn : n = l.length) (hl : l.length ≤ 4294967296) : InN (w.alloc (.cells (l.flatMap Node.cells).toArray t)) (some ⟨w.heap.size, 0, none⟩) n l := by
  subst hn
  refine ⟨Nat.le_refl _, by omega, hl, .inr ⟨_, 0, rfl, by simp, fun i hi j u hu => ?_⟩⟩
  have hj : j < 5 := by rw [← Node.cells_len l[i]]; exact (List.getElem?_eq_some_iff.1 hu).1
  rw [World.cell?_alloc_new, Nat.zero_add]
  have := flat_get (k := 5) Node.cells_len l i hi j hj
  rw [List.getElem?_toArray, this]; exact hu
end Go.Proofs.Ytjhndilflcigiaa
namespace Go.Proofs.Ytjhndilflcigiaa
open Go.RowKit

theorem In.lit {α : Type} {k : Nat} {cs : α → List Value} (hk : ∀ x, (cs x).length = k) (w : World) (l : List α) (t : TypeId) (n : Nat) (hn : n = l.length) (hl : l.length ≤ 4294967296) : In k cs (w.alloc (.cells (l.flatMap cs).toArray t)) (some ⟨w.heap.size, 0, none⟩) n l := by
  subst hn
  refine ⟨Nat.le_refl _, by omega, hl, .inr ⟨_, 0, rfl, by simp, fun i hi j u hu => ?_⟩⟩
  have hj : j < k := by rw [← hk l[i]]; exact (List.getElem?_eq_some_iff.1 hu).1
  rw [World.cell?_alloc_new, Nat.zero_add]
  have := flat_get (k := k) hk l i hi j hj
  rw [List.getElem?_toArray, this]; exact hu
end Go.Proofs.Ytjhndilflcigiaa
namespace Go.Proofs.Ytjhndilflcigiaa
open Go.RowKit

theorem rep_cells {w : World} {g : Nat} {a : Rep} {A : Option Addr} {c : Nat} (h : Blk w g (a.arr A c)) :
    w.cell? ⟨g, 0, none⟩ = some (.int .i64 a.kind) ∧ w.cell? ⟨g, 1, none⟩ = some (.int .i64 a.dev) ∧ w.cell? ⟨g, 2, none⟩ = some (.int .i64 a.req) ∧ w.cell? ⟨g, 3, none⟩ = some (.int .i64 a.code) ∧
    w.cell? ⟨g, 4, none⟩ = some (.int .i64 a.id) ∧ w.cell? ⟨g, 5, none⟩ = some (.int .i64 a.ver) ∧ w.cell? ⟨g, 6, none⟩ = some (.int .i64 a.seq) ∧ w.cell? ⟨g, 7, none⟩ = some (.int .i64 a.epoch) ∧
    w.cell? ⟨g, 8, none⟩ = some (.slice A a.f.length c) ∧ w.cell? ⟨g, 9, none⟩ = some (.int .u32 a.mask) :=
  ⟨h.cell rfl, h.cell rfl, h.cell rfl, h.cell rfl, h.cell rfl, h.cell rfl, h.cell rfl, h.cell rfl, h.cell rfl, h.cell rfl⟩
theorem rep_eq {a b : Rep} : decide (a = b) = ((a.kind == b.kind) && ((a.dev == b.dev) && ((a.req == b.req) && ((a.code == b.code) && ((a.id == b.id) && ((a.ver == b.ver) && ((a.seq == b.seq) && ((a.epoch == b.epoch) && (decide (a.f = b.f) && ((a.mask : Int) == (b.mask : Int))))))))))) := by
  rw [Bool.eq_iff_iff]
  obtain ⟨a0, a1, a2, a3, a4, a5, a6, a7, a8, a9⟩ := a
  obtain ⟨b0, b1, b2, b3, b4, b5, b6, b7, b8, b9⟩ := b
  simp only [decide_eq_true_eq, Rep.mk.injEq, Bool.and_eq_true, beq_iff_eq, Int.natCast_inj]
set_option maxHeartbeats 4000000 in
set_option maxRecDepth 4000 in
theorem c_ref30_Same (a b : Rep) (A B : Option Addr) (c d : Nat) (w : World) (ha : InN w A c a.f) (hb : InN w B d b.f) :
    Calls Try.prog 21 #[.agg (a.arr A c), .agg (b.arr B d)] w (RetV w (.bool (decide (a = b)))) := by
  have B0 := Lib.hid (At2.new w 47 47 (a.arr A c) (b.arr B d))
  obtain ⟨p0, p1, p2, p3, p4, p5, p6, p7, p8, p9⟩ := rep_cells B0.out.2.1; obtain ⟨q0, q1, q2, q3, q4, q5, q6, q7, q8, q9⟩ := rep_cells B0.out.2.2
  have HA := Lib.hid ha
  have HB := Lib.hid hb
  have E := Lib.hid (rep_eq (a := a) (b := b))
  clear ha hb
  go_enter Try.func21, Try.ntmps21
  go_wp2_with (go_at_call 43; refine (c_ref10_Same a.f b.f A B c d _ (HA.out.below B0.out.1) (HB.out.below B0.out.1)).mono ?_; rintro e w1 ⟨rfl, hb1⟩; replace B0 := Lib.hid (B0.out.step hb1); clear p0 p1 p2 p3 p4 p5 p6 p7 p8 p9 q0 q1 q2 q3 q4 q5 q6 q7 q8 q9 hb1; obtain ⟨p0, p1, p2, p3, p4, p5, p6, p7, p8, p9⟩ := rep_cells B0.out.2.1; obtain ⟨q0, q1, q2, q3, q4, q5, q6, q7, q8, q9⟩ := rep_cells B0.out.2.2)
  all_goals
    go_ret
    refine RetV.bool ?_ B0.out.1
    rw [E.out]
    simp [*]
end Go.Proofs.Ytjhndilflcigiaa
namespace Go.Proofs.Ytjhndilflcigiaa
open Go.RowKit

/-- Blocks from number B on, each known whole, no two the same. -/
def Blks (w : World) (B : Nat) : List (Nat × Array Value) → Prop
  | [] => True
  | x :: r => (Blk w x.1 x.2 ∧ B ≤ x.1 ∧ ∀ y ∈ r, y.1 ≠ x.1) ∧ Blks w B r
section
variable {w w' : World} {B : Nat} {l : List (Nat × Array Value)}
theorem Blks.kept {q : Option Nat} (h : Blks w B l) (k : Kept q w.heap.size w w') (hq : ∀ g, q = some g → g < B) : Blks w' B l := by
  induction l with
  | nil => trivial
  | cons x r ih =>
    obtain ⟨⟨h1, h2, h3⟩, h4⟩ := h
    exact ⟨⟨h1.kept k h1.lt (fun e => by have := hq _ e; omega), h2, h3⟩, ih h4⟩
theorem Blks.far {q : Nat} (h : Blks w B l) (k : Kept (some q) w.heap.size w w') (hq : ∀ y ∈ l, y.1 ≠ q) : Blks w' B l := by
  induction l with
  | nil => trivial
  | cons x r ih =>
    obtain ⟨⟨h1, h2, h3⟩, h4⟩ := h
    exact ⟨⟨h1.kept k h1.lt (fun e => by injection e with e; exact hq x (List.mem_cons_self ..) e.symm), h2, h3⟩, ih h4 (fun y hy => hq y (List.mem_cons_of_mem _ hy))⟩
theorem Blks.lt (h : Blks w B l) : ∀ y ∈ l, y.1 < w.heap.size := by
  induction l with
  | nil => intro y hy; cases hy
  | cons x r ih =>
    intro y hy
    rcases List.mem_cons.1 hy with rfl | hy
    · exact h.1.1.lt
    · exact ih h.2 y hy
end
theorem kept_set (w : World) (g off : Nat) (v : Value) : Kept (some g) w.heap.size w (w.setCell ⟨g, off, none⟩ v) := (Kept.refl (some g) _ w).setCell (q := ⟨g, off, none⟩) (.inr rfl) v
/-- The program's reader, and blocks of the call's own. -/
structure EnvP (p : Option Nat) (S : Rd) (w w' : World) (l : List (Nat × Array Value)) : Prop where
  low : ∀ g, p = some g → g < w.heap.size
  kept : Kept p w.heap.size w w'
  rd : RdP w' p S
  blks : Blks w' w.heap.size l
section
variable {p : Option Nat} {S S' : Rd} {w w1 w2 : World} {l : List (Nat × Array Value)} {g g0 : Nat} {cs c0 cs' : Array Value}
theorem EnvP.size (h : EnvP p S w w1 l) : w.heap.size ≤ w1.heap.size := h.kept.size
theorem EnvP.call (h : EnvP p S w w1 l) (r : RdP w2 p S') (k : Kept p w1.heap.size w1 w2) : EnvP p S' w w2 l :=
  ⟨h.low, h.kept.then_kept k h.size, r, h.blks.kept k h.low⟩
theorem EnvP.below (h : EnvP p S w w1 l) (k : Below w1.heap.size w1 w2) : EnvP p S w w2 l :=
  ⟨h.low, h.kept.then_below k h.size, h.rd.below k, h.blks.kept (q := none) (.of_below k) (fun _ e => by cases e)⟩
theorem EnvP.alloc (h : EnvP p S w w1 l) (t : TypeId) (cs : Array Value) : EnvP p S w (w1.alloc (.cells cs t)) ((w1.heap.size, cs) :: l) := by
  have h' := h.below ((Below.refl _ _).alloc (Nat.le_refl _) (.cells cs t))
  exact ⟨h.low, h'.kept, h'.rd, ⟨Blk.new _ _ _, h.size, fun y hy => by have := h.blks.lt y hy; simp only; omega⟩, h'.blks⟩
theorem EnvP.own (h : EnvP p S w w1 l) (hg : w.heap.size ≤ g) (k : Kept (some g) w1.heap.size w1 w2) : Kept p w.heap.size w w2 ∧ RdP w2 p S :=
  ⟨h.kept.trans (k.one h.size (.inl hg)), h.rd.kept k (fun a b ha hb => by injection hb with hb; have := h.low a ha; omega)⟩
theorem EnvP.b0 (h : EnvP p S w w1 ((g, cs) :: l)) : Blk w1 g cs := h.blks.1.1
theorem EnvP.b1 (h : EnvP p S w w1 ((g0, c0) :: (g, cs) :: l)) : Blk w1 g cs := h.blks.2.1.1
theorem EnvP.as (h : EnvP p S w w1 ((g, cs) :: l)) (e : cs = cs') : EnvP p S w w1 ((g, cs') :: l) := e ▸ h
end
/-- The reference's reader, and blocks of the call's own. -/
structure EnvR (p : Nat) (S : Rd) (w w' : World) (l : List (Nat × Array Value)) : Prop where
  low : p < w.heap.size
  kept : Kept (some p) w.heap.size w w'
  rd : RdR w' p S
  blks : Blks w' w.heap.size l
section
variable {p : Nat} {S S' : Rd} {w w1 w2 : World} {l : List (Nat × Array Value)} {g g0 : Nat} {cs c0 cs' : Array Value}
theorem EnvR.size (h : EnvR p S w w1 l) : w.heap.size ≤ w1.heap.size := h.kept.size
theorem EnvR.call (h : EnvR p S w w1 l) (r : RdR w2 p S') (k : Kept (some p) w1.heap.size w1 w2) : EnvR p S' w w2 l :=
  ⟨h.low, h.kept.then_kept k h.size, r, h.blks.kept k (fun g e => by injection e with e; have := h.low; omega)⟩
theorem EnvR.below (h : EnvR p S w w1 l) (k : Below w1.heap.size w1 w2) : EnvR p S w w2 l :=
  ⟨h.low, h.kept.then_below k h.size, h.rd.below k, h.blks.kept (q := none) (.of_below k) (fun _ e => by cases e)⟩
theorem EnvR.alloc (h : EnvR p S w w1 l) (t : TypeId) (cs : Array Value) : EnvR p S w (w1.alloc (.cells cs t)) ((w1.heap.size, cs) :: l) := by
  have h' := h.below ((Below.refl _ _).alloc (Nat.le_refl _) (.cells cs t))
  exact ⟨h.low, h'.kept, h'.rd, ⟨Blk.new _ _ _, h.size, fun y hy => by have := h.blks.lt y hy; simp only; omega⟩, h'.blks⟩
theorem EnvR.own (h : EnvR p S w w1 l) (hg : w.heap.size ≤ g) (k : Kept (some g) w1.heap.size w1 w2) : Kept (some p) w.heap.size w w2 ∧ RdR w2 p S :=
  ⟨h.kept.trans (k.one h.size (.inl hg)), h.rd.kept k (fun e => by injection e with e; have := h.low; omega)⟩
theorem EnvR.b0 (h : EnvR p S w w1 ((g, cs) :: l)) : Blk w1 g cs := h.blks.1.1
theorem EnvR.b1 (h : EnvR p S w w1 ((g0, c0) :: (g, cs) :: l)) : Blk w1 g cs := h.blks.2.1.1
theorem EnvR.as (h : EnvR p S w w1 ((g, cs) :: l)) (e : cs = cs') : EnvR p S w w1 ((g, cs') :: l) := e ▸ h
end
end Go.Proofs.Ytjhndilflcigiaa
namespace Go.Proofs.Ytjhndilflcigiaa
open Go.RowKit

structure LRow where
  last : Int
  ep : Int
  a : Rep
/-- A row, and where its answer's filter lies. -/
abbrev LR := LRow × Option Addr × Nat
def LR.cells (x : LR) : List Value := [.int .i64 x.1.last, .int .i64 x.1.ep] ++ (x.1.a.arr x.2.1 x.2.2).toList
theorem LR.cells_len (x : LR) : (LR.cells x).length = 12 := rfl
@[irreducible] def lgArr (l : List LR) : Array Value := (l.flatMap LR.cells).toArray
theorem lg_size (l : List LR) : (lgArr l).size = l.length * 12 := by unfold lgArr; rw [List.size_toArray, flat_length LR.cells_len]
theorem lg_get {l : List LR} {k : Nat} (h : k < l.length) (j : Nat) (hj : j < 12) : (lgArr l)[k * 12 + j]? = (LR.cells l[k])[j]? := by
  unfold lgArr; rw [List.getElem?_toArray]; exact flat_get LR.cells_len l k h j hj
theorem lg_part {l : List LR} {k : Nat} (h : k < l.length) {w : World} {g : Nat} (hb : Blk w g (lgArr l)) (j : Nat) (u : Value) (hu : (l[k].1.a.arr l[k].2.1 l[k].2.2)[j]? = some u) : w.cell? ⟨g, k * 12 + 2 + j, none⟩ = some u := by
  refine hb.cell ?_
  have hj : j < 10 := (Array.getElem?_eq_some_iff.1 hu).1
  rw [Nat.add_assoc, lg_get h (2 + j) (by omega)]
  unfold LR.cells
  rw [List.getElem?_append_right (by simp)]
  simpa using hu
/-- A call that hands back an answer of its own. -/
def RetOwn (w : World) (a : Rep) (e : Ending) (w' : World) : Prop :=
  ∃ A c, e = .returned (.agg (a.arr A c)) ∧ w'.ownsRow w.heap.size 102 5 (.slice A a.f.length c) a.f.length (a.f.flatMap Node.cells) ∧ Below w.heap.size w w'
set_option maxHeartbeats 1000000 in
set_option maxRecDepth 4000 in
theorem c_ledger_own (a : Rep) (A : Option Addr) (c : Nat) (w : World) (h : InN w A c a.f) : Calls Try.prog 40 #[.agg (a.arr A c)] w (RetOwn w a) := by
  have HI := Lib.hid h
  have B0 := Lib.hid (At2.new w 47 47 (a.arr A c) (Rep.arr rz none 0))
  obtain ⟨q0, q1, q2, q3, q4, q5, q6, q7, q8, q9⟩ := rep_cells B0.out.2.1
  clear h
  go_enter Try.func40, Try.ntmps40
  go_wp2_with (fail)
  refine (c_Clone_n a.f A c _ (HI.out.below B0.out.1)).mono ?_
  rintro e w1 ⟨v, rfl, own, hb1⟩
  obtain ⟨A1, c1, rfl, -⟩ := own_form own
  have O := Lib.hid own
  replace B0 := Lib.hid (B0.out.step hb1)
  clear q0 q1 q2 q3 q4 q5 q6 q7 q8 q9 hb1 own
  obtain ⟨q0, q1, q2, q3, q4, q5, q6, q7, q8, q9⟩ := rep_cells B0.out.2.1
  have ff := fun i => B0.out.2.1.frozen i
  have K1 := Lib.hid (kept_set w1 w.heap.size 8 (.slice A1 a.f.length c1))
  have B1 := Lib.hid (show Blk (w1.setCell ⟨w.heap.size, 8, none⟩ (.slice A1 a.f.length c1)) w.heap.size (a.arr A1 c1) from B0.out.2.1.store 8 _)
  have B2 := Lib.hid (B0.out.2.2.far (q := ⟨w.heap.size, 8, none⟩) (by simp) (.slice A1 a.f.length c1))
  have hz := B0.out.1.size
  have O1 := Lib.hid (own_kept O.out K1.out (fun g hg => by injection hg with hg; simp; omega))
  have KB := Lib.hid ((Kept.of_below B0.out.1 : Kept none _ _ _).trans (K1.out.one (p := none) hz (.inl (Nat.le_refl _))))
  go_wp2_with (with_reducible refine stop_load 47 (.tmp 1) rfl rfl ?_)
  refine Stop.mk (wpList_loadB rfl _ _ rfl w.heap.size rfl _ B1.out strRp rfl ?_)
  go_wp2_with (with_reducible refine stop_store 47 (.tmp 2) (.tmp 7) rfl rfl ?_)
  refine Stop.mk (wpList_storeB rfl _ _ _ rfl (w.heap.size + 1) _ (by first | rfl | simp) rfl _ B2.out strRp rfl rfl (by simp [Value.oneCell']) ?_)
  intro w9 hb9 hk9
  have O9 := own_kept O1.out hk9 (fun g hg => by injection hg with hg; simp; omega)
  go_wp2_with (fail)
  refine bodyPost_ret (results_B (g := w.heap.size + 1) rfl (by first | rfl | simp) hb9 strRp rfl) rfl ⟨A1, c1, rfl, own_base O9 (by simp; omega), ?_⟩
  exact (KB.out.trans (hk9.one (p := none) (by simpa [World.setCell] using hz) (.inl (by omega)))).below (Nat.le_refl _) (fun g hg => by cases hg)
theorem c_ledger_New (w : World) : Calls Try.prog 15 #[] w (fun e w' => e = .returned (.pointer (some ⟨w.heap.size, 0, none⟩)) ∧ Blk w' w.heap.size (lgArr (List.replicate 6 (⟨0, 0, rz⟩, none, 0))) ∧ Below w.heap.size w w') := by
  go_enter Try.func15, Try.ntmps15
  go_wp2_with (fail)
  go_ret
  exact ⟨rfl, by unfold lgArr; exact Blk.new _ _ _, (by repeat (first | exact Below.refl _ _ | refine Below.drew ?_ | refine Below.alloc ?_ (by first | omega | (simp; done) | (simp; omega)) _ | refine Below.setCell ?_ (by first | omega | (simp; done) | (simp; omega)) _ | refine Below.trans ?_ (Below.mono (by assumption) (by first | omega | (simp; done) | (simp; omega)))))⟩
end Go.Proofs.Ytjhndilflcigiaa
namespace Go.Proofs.Ytjhndilflcigiaa
open Go.RowKit

structure Card where
  id : Int
  ver : Int
  lab : Nat
  f : List Val
deriving DecidableEq
structure Patch where
  mask : Nat
  lab : Nat
  f : List Val
deriving DecidableEq
structure Edit where
  kind : Int
  id : Int
  group : Int
  p : Patch
deriving DecidableEq
@[irreducible] def farr (f : List Val) : Array Value := (f.flatMap Val.cells).toArray
@[irreducible] def Card.arr (c : Card) : Array Value := (([.int .i64 c.id, .int .i64 c.ver, .int .u32 c.lab] : List Value) ++ c.f.flatMap Val.cells).toArray
@[irreducible] def Patch.arr (p : Patch) : Array Value := (([.int .u32 p.mask, .int .u32 p.lab] : List Value) ++ p.f.flatMap Val.cells).toArray
@[irreducible] def Edit.arr (e : Edit) : Array Value := (([.int .i64 e.kind, .int .i64 e.id, .int .i64 e.group, .int .u32 e.p.mask, .int .u32 e.p.lab] : List Value) ++ e.p.f.flatMap Val.cells).toArray
section
variable {f : List Val} {k : Nat}
end
end Go.Proofs.Ytjhndilflcigiaa
