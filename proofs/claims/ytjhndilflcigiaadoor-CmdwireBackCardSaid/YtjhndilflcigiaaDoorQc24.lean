/-
  Lemmas (walks and plain laws), in one text.
-/
import Derived.Test.YtjhndilflcigiaaDoorQc23
import Derived.Test.YtjhndilflcigiaaDoorRows
import Derived.WalkKit
import Derived.WalkSpells
import Derived.WalkLawsBesides
import Derived.Lib.Hide
import Derived.Deep.QuietTactic
import Derived.BigQuiet
import Derived.Maps.AppendAt
import Derived.WalkSmall
import Derived.ProofKit
import Derived.OpenShut
import Derived.JoinedCond
import Derived.Deep.Slices
import Derived.Deep.Fields
import Derived.Carry
import Derived.Deep.AppendSrc
import Derived.Lib.AppendStr
import Derived.Laws.BytesArg
import Derived.Test.YtjhndilflcigiaaDoorProg
import Derived.Shelf.Spec.TrailingZeros
import Derived.RangeFuncNested
import Derived.RangeFuncBound
import Derived.RangeFuncCalls
import Derived.RangeFuncLeaves
import Derived.Shelf.Abstract
import Derived.Shelf.RegionOpen
import Derived.OwnWalkIn
import Derived.TacticsInMore
import Derived.LoopNIn
import Derived.LoopIn
import Derived.Test.YtjhndilflcigiaaDoorTie
import Derived.Lib.LaidTab
import Derived.LaidMore
import Derived.SevenTiedAt
import Derived.Test.YtjhndilflcigiaaDoorCards
import Derived.Laws.Tables
import Derived.Laws.Rows
import Derived.ChangeKeysEq
import Derived.Laws.StructEq
import Derived.Deep.CutBlock
import Derived.Deep.DeepCutAuto
import Derived.Laws.CopyOwn
import Derived.Outline
import Derived.IntWalk
import Derived.Lib.EndianBits
import Derived.StillTail
import Derived.Lib.AppendZeros
import Derived.Deep.Quiet
import Derived.Maps.Own
import Derived.WalkMore
namespace Go.Proofs.YtjhndilflcigiaaDoor
open Go.RowKit

/-- Blocks from number B on, each known whole, no two the same. -/
def Blks (w : World) (B : Nat) : List (Nat × Array Value) → Prop
  | [] => True
  | x :: r => (Blk w x.1 x.2 ∧ B ≤ x.1 ∧ ∀ y ∈ r, y.1 ≠ x.1) ∧ Blks w B r
section
variable {w w' : World} {B : Nat} {l : List (Nat × Array Value)}
theorem Blks.kept {q : Option Nat} (h : Blks w B l) (k : Kept q w.heap.size w w') (hq : ∀ g, q = some g → g < B) : Blks w' B l := by
  induction l with
  | nil => trivial
  | cons x r ih =>
    obtain ⟨⟨h1, h2, h3⟩, h4⟩ := h
    exact ⟨⟨h1.kept k h1.lt (fun e => by have := hq _ e; omega), h2, h3⟩, ih h4⟩
theorem Blks.far {q : Nat} (h : Blks w B l) (k : Kept (some q) w.heap.size w w') (hq : ∀ y ∈ l, y.1 ≠ q) : Blks w' B l := by
  induction l with
  | nil => trivial
  | cons x r ih =>
    obtain ⟨⟨h1, h2, h3⟩, h4⟩ := h
    exact ⟨⟨h1.kept k h1.lt (fun e => by injection e with e; exact hq x (List.mem_cons_self ..) e.symm), h2, h3⟩, ih h4 (fun y hy => hq y (List.mem_cons_of_mem _ hy))⟩
theorem Blks.lt (h : Blks w B l) : ∀ y ∈ l, y.1 < w.heap.size := by
  induction l with
  | nil => intro y hy; cases hy
  | cons x r ih =>
    intro y hy
    rcases List.mem_cons.1 hy with rfl | hy
    · exact h.1.1.lt
    · exact ih h.2 y hy
end
theorem kept_set (w : World) (g off : Nat) (v : Value) : Kept (some g) w.heap.size w (w.setCell ⟨g, off, none⟩ v) := (Kept.refl (some g) _ w).setCell (q := ⟨g, off, none⟩) (.inr rfl) v
/-- The program's reader, and blocks of the call's own. -/
structure EnvP (p : Option Nat) (S : Rd) (w w' : World) (l : List (Nat × Array Value)) : Prop where
  low : ∀ g, p = some g → g < w.heap.size
  kept : Kept p w.heap.size w w'
  rd : RdP w' p S
  blks : Blks w' w.heap.size l
section
variable {p : Option Nat} {S S' : Rd} {w w1 w2 : World} {l : List (Nat × Array Value)} {g g0 : Nat} {cs c0 cs' : Array Value}
theorem EnvP.start (r : RdP w p S) : EnvP p S w w [] := ⟨fun _ hg => r.lt hg, Kept.refl _ _ _, r, trivial⟩
theorem EnvP.size (h : EnvP p S w w1 l) : w.heap.size ≤ w1.heap.size := h.kept.size
theorem EnvP.call (h : EnvP p S w w1 l) (r : RdP w2 p S') (k : Kept p w1.heap.size w1 w2) : EnvP p S' w w2 l :=
  ⟨h.low, h.kept.then_kept k h.size, r, h.blks.kept k h.low⟩
theorem EnvP.below (h : EnvP p S w w1 l) (k : Below w1.heap.size w1 w2) : EnvP p S w w2 l :=
  ⟨h.low, h.kept.then_below k h.size, h.rd.below k, h.blks.kept (q := none) (.of_below k) (fun _ e => by cases e)⟩
theorem EnvP.alloc (h : EnvP p S w w1 l) (t : TypeId) (cs : Array Value) : EnvP p S w (w1.alloc (.cells cs t)) ((w1.heap.size, cs) :: l) := by
  have h' := h.below ((Below.refl _ _).alloc (Nat.le_refl _) (.cells cs t))
  exact ⟨h.low, h'.kept, h'.rd, ⟨Blk.new _ _ _, h.size, fun y hy => by have := h.blks.lt y hy; simp only; omega⟩, h'.blks⟩
theorem EnvP.own (h : EnvP p S w w1 l) (hg : w.heap.size ≤ g) (k : Kept (some g) w1.heap.size w1 w2) : Kept p w.heap.size w w2 ∧ RdP w2 p S :=
  ⟨h.kept.trans (k.one h.size (.inl hg)), h.rd.kept k (fun a b ha hb => by injection hb with hb; have := h.low a ha; omega)⟩
theorem EnvP.put0 (h : EnvP p S w w1 ((g, cs) :: l)) (b : Blk w2 g cs') (k : Kept (some g) w1.heap.size w1 w2) : EnvP p S w w2 ((g, cs') :: l) := by
  obtain ⟨⟨h1, h2, h3⟩, h4⟩ := h.blks
  obtain ⟨a, r⟩ := h.own h2 k
  exact ⟨h.low, a, r, ⟨b, h2, h3⟩, h4.far k h3⟩
theorem EnvP.put1 (h : EnvP p S w w1 ((g0, c0) :: (g, cs) :: l)) (b : Blk w2 g cs') (k : Kept (some g) w1.heap.size w1 w2) : EnvP p S w w2 ((g0, c0) :: (g, cs') :: l) := by
  obtain ⟨⟨a1, a2, a3⟩, ⟨h1, h2, h3⟩, h4⟩ := h.blks
  obtain ⟨a, r⟩ := h.own h2 k
  have hne := a3 (g, cs) (List.mem_cons_self ..)
  refine ⟨h.low, a, r, ⟨a1.kept k a1.lt (fun e => by injection e with e; exact hne e), a2, fun y hy => ?_⟩, ⟨b, h2, h3⟩, h4.far k h3⟩
  rcases List.mem_cons.1 hy with rfl | hy
  · exact hne
  · exact a3 y (List.mem_cons_of_mem _ hy)
theorem EnvP.b0 (h : EnvP p S w w1 ((g, cs) :: l)) : Blk w1 g cs := h.blks.1.1
theorem EnvP.b1 (h : EnvP p S w w1 ((g0, c0) :: (g, cs) :: l)) : Blk w1 g cs := h.blks.2.1.1
theorem EnvP.store1 (h : EnvP p S w w1 ((g0, c0) :: (g, cs) :: l)) (off : Nat) (v : Value) : EnvP p S w (w1.setCell ⟨g, off, none⟩ v) ((g0, c0) :: (g, cs.setIfInBounds off v) :: l) := h.put1 (h.b1.store off v) (kept_set w1 g off v)
theorem EnvP.as (h : EnvP p S w w1 ((g, cs) :: l)) (e : cs = cs') : EnvP p S w w1 ((g, cs') :: l) := e ▸ h
theorem EnvP.state (h : EnvP p S w w1 l) (e : S = S') : EnvP p S' w w1 l := e ▸ h
end
/-- The reference's reader, and blocks of the call's own. -/
structure EnvR (p : Nat) (S : Rd) (w w' : World) (l : List (Nat × Array Value)) : Prop where
  low : p < w.heap.size
  kept : Kept (some p) w.heap.size w w'
  rd : RdR w' p S
  blks : Blks w' w.heap.size l
section
variable {p : Nat} {S S' : Rd} {w w1 w2 : World} {l : List (Nat × Array Value)} {g g0 : Nat} {cs c0 cs' : Array Value}
theorem EnvR.start (r : RdR w p S) : EnvR p S w w [] := ⟨r.lt, Kept.refl _ _ _, r, trivial⟩
theorem EnvR.size (h : EnvR p S w w1 l) : w.heap.size ≤ w1.heap.size := h.kept.size
theorem EnvR.call (h : EnvR p S w w1 l) (r : RdR w2 p S') (k : Kept (some p) w1.heap.size w1 w2) : EnvR p S' w w2 l :=
  ⟨h.low, h.kept.then_kept k h.size, r, h.blks.kept k (fun g e => by injection e with e; have := h.low; omega)⟩
theorem EnvR.below (h : EnvR p S w w1 l) (k : Below w1.heap.size w1 w2) : EnvR p S w w2 l :=
  ⟨h.low, h.kept.then_below k h.size, h.rd.below k, h.blks.kept (q := none) (.of_below k) (fun _ e => by cases e)⟩
theorem EnvR.alloc (h : EnvR p S w w1 l) (t : TypeId) (cs : Array Value) : EnvR p S w (w1.alloc (.cells cs t)) ((w1.heap.size, cs) :: l) := by
  have h' := h.below ((Below.refl _ _).alloc (Nat.le_refl _) (.cells cs t))
  exact ⟨h.low, h'.kept, h'.rd, ⟨Blk.new _ _ _, h.size, fun y hy => by have := h.blks.lt y hy; simp only; omega⟩, h'.blks⟩
theorem EnvR.own (h : EnvR p S w w1 l) (hg : w.heap.size ≤ g) (k : Kept (some g) w1.heap.size w1 w2) : Kept (some p) w.heap.size w w2 ∧ RdR w2 p S :=
  ⟨h.kept.trans (k.one h.size (.inl hg)), h.rd.kept k (fun e => by injection e with e; have := h.low; omega)⟩
theorem EnvR.put0 (h : EnvR p S w w1 ((g, cs) :: l)) (b : Blk w2 g cs') (k : Kept (some g) w1.heap.size w1 w2) : EnvR p S w w2 ((g, cs') :: l) := by
  obtain ⟨⟨h1, h2, h3⟩, h4⟩ := h.blks
  obtain ⟨a, r⟩ := h.own h2 k
  exact ⟨h.low, a, r, ⟨b, h2, h3⟩, h4.far k h3⟩
theorem EnvR.put1 (h : EnvR p S w w1 ((g0, c0) :: (g, cs) :: l)) (b : Blk w2 g cs') (k : Kept (some g) w1.heap.size w1 w2) : EnvR p S w w2 ((g0, c0) :: (g, cs') :: l) := by
  obtain ⟨⟨a1, a2, a3⟩, ⟨h1, h2, h3⟩, h4⟩ := h.blks
  obtain ⟨a, r⟩ := h.own h2 k
  have hne := a3 (g, cs) (List.mem_cons_self ..)
  refine ⟨h.low, a, r, ⟨a1.kept k a1.lt (fun e => by injection e with e; exact hne e), a2, fun y hy => ?_⟩, ⟨b, h2, h3⟩, h4.far k h3⟩
  rcases List.mem_cons.1 hy with rfl | hy
  · exact hne
  · exact a3 y (List.mem_cons_of_mem _ hy)
theorem EnvR.b0 (h : EnvR p S w w1 ((g, cs) :: l)) : Blk w1 g cs := h.blks.1.1
theorem EnvR.b1 (h : EnvR p S w w1 ((g0, c0) :: (g, cs) :: l)) : Blk w1 g cs := h.blks.2.1.1
theorem EnvR.store1 (h : EnvR p S w w1 ((g0, c0) :: (g, cs) :: l)) (off : Nat) (v : Value) : EnvR p S w (w1.setCell ⟨g, off, none⟩ v) ((g0, c0) :: (g, cs.setIfInBounds off v) :: l) := h.put1 (h.b1.store off v) (kept_set w1 g off v)
theorem EnvR.as (h : EnvR p S w w1 ((g, cs) :: l)) (e : cs = cs') : EnvR p S w w1 ((g, cs') :: l) := e ▸ h
theorem EnvR.state (h : EnvR p S w w1 l) (e : S = S') : EnvR p S' w w1 l := e ▸ h
end
end Go.Proofs.YtjhndilflcigiaaDoor
namespace Go.Proofs.YtjhndilflcigiaaDoor
open Go.RowKit

theorem gOk_iff' {e : Edit} (h : e.gOk = true) : hasG e.kind = false → e.group = 0 := by
  unfold Edit.gOk at h
  simp only [Bool.and_eq_true, Bool.or_eq_true, decide_eq_true_eq] at h
  exact fun hg => h.2.resolve_left (by simp [hg])
theorem iOk_iff' {e : Edit} (h : e.iOk = true) : hasI e.kind = false → e.id = 0 := by
  unfold Edit.iOk at h
  intro hi
  rw [hi] at h
  simpa using h
theorem Edit.code_gi {e : Edit} (h : ¬ (e.gOk = true ∧ e.iOk = true)) : e.code = 1 := by unfold Edit.code; rw [if_neg]; intro h'; exact h ⟨h'.2.2.1, h'.2.2.2⟩
theorem Edit.code_pz {e : Edit} (hp : hasP e.kind = false) (h : e.p ≠ pz) : e.code = 1 := by
  unfold Edit.code
  split
  · rw [hp]; simp
  · rfl
set_option maxHeartbeats 1000000 in
theorem ref19_Check_kind (e : Edit) (w : World) (hk : ¬ (1 ≤ e.kind ∧ e.kind ≤ 7)) : Calls Tryd.prog 85 #[.agg e.arr] w (RetV w (.int .i64 e.code)) := by
  have E := Lib.hid (Edit.code_kind hk)
  have BC := Lib.hid (At.new w 29 e.arr)
  obtain ⟨q0, q1, q2⟩ := BC.out.edit
  have hk' : e.kind < 1 ∨ (1 ≤ e.kind ∧ 7 < e.kind) := by omega
  clear hk
  rcases hk' with hk | ⟨hk, hk2⟩
  · have k1 : decide (e.kind < 1) = true := by simpa using hk
    clear hk
    go_enter Tryd.func85, Tryd.ntmps85
    go_wp2_with (fail)
    go_ret
    exact RetV.int E.out.symm BC.out.1
  · have k1 : decide (e.kind < 1) = false := by simpa using hk
    have k2 : decide (7 < e.kind) = true := by simpa using hk2
    clear hk hk2
    go_enter Tryd.func85, Tryd.ntmps85
    go_wp2_with (fail)
    go_ret
    exact RetV.int E.out.symm BC.out.1
set_option maxHeartbeats 8000000 in
set_option maxRecDepth 4000 in
theorem ref19_Check_a (e : Edit) (w : World) (hf : e.p.f.length = 8) (h1 : 1 ≤ e.kind) (h7 : e.kind ≤ 7) (hg : hasG e.kind = false) (hg0 : e.group ≠ 0) : Calls Tryd.prog 85 #[.agg e.arr] w (RetV w (.int .i64 e.code)) := by
  have k1 : decide (e.kind < 1) = false := by simpa using h1
  have k2 : decide (7 < e.kind) = false := by simpa using h7
  have HF := Lib.hid hf
  have hsz : e.p.arr.size = 26 := by rw [Patch.arr_size, hf]
  have HZ := Lib.hid hsz
  clear hsz hf
  have BC0 := Lib.hid (At.new w 29 e.arr)
  obtain ⟨q0, q1, q2⟩ := BC0.out.edit
  have E := Lib.hid (Edit.code_gi (e := e) (fun h => hg0 ((gOk_iff' h.1) hg)))
  have kg : (e.group != 0) = true := by simpa using hg0
  clear hg0
  go_enter Tryd.func85, Tryd.ntmps85
  go_wp2_with (with_reducible refine stop_store 27 (.tmp 3) (.tmp 12) rfl rfl ?_)
  refine Stop.mk (wpList_storeB rfl _ _ _ rfl (w.heap.size + 1) _ (by simp [go_sem]) rfl _ (by simpa using Blk.new (w.alloc _) _ _) strP rfl rfl (by simp [Value.oneCell']) ?_)
  intro w2 hb2 hk2
  have BC := Lib.hid (BC0.out.step (((Below.refl _ _).alloc (Nat.le_refl _) _).trans (hk2.oneB (by simp) (by simp))))
  have BN := Lib.hid (show Blk w2 (w.heap.size + 1) pz.arr by rw [pz_cells]; exact hb2)
  clear hb2 hk2 q0 q1 q2
  obtain ⟨q0, q1, q2⟩ := BC.out.edit
  go_wp2_with (first
    | (go_at_call 100; refine (c_ref19_group e.kind _ (by omega) h7).mono ?_; rintro e1 w1 ⟨rfl, hb1⟩; replace BC := Lib.hid (BC.out.step hb1); replace BN := Lib.hid (BN.out.below hb1 BN.out.lt); clear q0 q1 q2; obtain ⟨q0, q1, q2⟩ := BC.out.edit))
  go_ret
  exact RetV.int E.out.symm BC.out.1
set_option maxHeartbeats 8000000 in
set_option maxRecDepth 4000 in
theorem ref19_Check_b (e : Edit) (w : World) (hf : e.p.f.length = 8) (h1 : 1 ≤ e.kind) (h7 : e.kind ≤ 7) (hg : hasG e.kind = true ∨ (hasG e.kind = false ∧ e.group = 0)) (hi : hasI e.kind = false) (hi0 : e.id ≠ 0) : Calls Tryd.prog 85 #[.agg e.arr] w (RetV w (.int .i64 e.code)) := by
  have k1 : decide (e.kind < 1) = false := by simpa using h1
  have k2 : decide (7 < e.kind) = false := by simpa using h7
  have HF := Lib.hid hf
  have hsz : e.p.arr.size = 26 := by rw [Patch.arr_size, hf]
  have HZ := Lib.hid hsz
  clear hsz hf
  have BC0 := Lib.hid (At.new w 29 e.arr)
  obtain ⟨q0, q1, q2⟩ := BC0.out.edit
  have E := Lib.hid (Edit.code_gi (e := e) (fun h => hi0 ((iOk_iff' h.2) hi)))
  have ki : (e.id != 0) = true := by simpa using hi0
  clear hi0
  rcases hg with hg | ⟨hg, hg0⟩
  all_goals
    (try (have kg : (e.group != 0) = false := by simpa using hg0))
    (try clear hg0)
    go_enter Tryd.func85, Tryd.ntmps85
    go_wp2_with (with_reducible refine stop_store 27 (.tmp 3) (.tmp 12) rfl rfl ?_)
    refine Stop.mk (wpList_storeB rfl _ _ _ rfl (w.heap.size + 1) _ (by simp [go_sem]) rfl _ (by simpa using Blk.new (w.alloc _) _ _) strP rfl rfl (by simp [Value.oneCell']) ?_)
    intro w2 hb2 hk2
    have BC := Lib.hid (BC0.out.step (((Below.refl _ _).alloc (Nat.le_refl _) _).trans (hk2.oneB (by simp) (by simp))))
    have BN := Lib.hid (show Blk w2 (w.heap.size + 1) pz.arr by rw [pz_cells]; exact hb2)
    clear hb2 hk2 q0 q1 q2
    obtain ⟨q0, q1, q2⟩ := BC.out.edit
    go_wp2_with (first
      | (go_at_call 100; refine (c_ref19_group e.kind _ (by omega) h7).mono ?_; rintro e1 w1 ⟨rfl, hb1⟩; replace BC := Lib.hid (BC.out.step hb1); replace BN := Lib.hid (BN.out.below hb1 BN.out.lt); clear q0 q1 q2; obtain ⟨q0, q1, q2⟩ := BC.out.edit)
      | (go_at_call 101; refine (c_ref19_id e.kind _ (by omega) h7).mono ?_; rintro e1 w1 ⟨rfl, hb1⟩; replace BC := Lib.hid (BC.out.step hb1); replace BN := Lib.hid (BN.out.below hb1 BN.out.lt); clear q0 q1 q2; obtain ⟨q0, q1, q2⟩ := BC.out.edit))
    go_ret
    exact RetV.int E.out.symm BC.out.1
set_option maxHeartbeats 8000000 in
set_option maxRecDepth 4000 in
theorem ref19_Check_c (e : Edit) (w : World) (hf : e.p.f.length = 8) (h1 : 1 ≤ e.kind) (h7 : e.kind ≤ 7) (hg : hasG e.kind = true ∨ (hasG e.kind = false ∧ e.group = 0)) (hi : hasI e.kind = true ∨ (hasI e.kind = false ∧ e.id = 0)) (hp : hasP e.kind = false) (hp0 : e.p ≠ pz) : Calls Tryd.prog 85 #[.agg e.arr] w (RetV w (.int .i64 e.code)) := by
  have k1 : decide (e.kind < 1) = false := by simpa using h1
  have k2 : decide (7 < e.kind) = false := by simpa using h7
  have HF := Lib.hid hf
  have hsz : e.p.arr.size = 26 := by rw [Patch.arr_size, hf]
  have HZ := Lib.hid hsz
  clear hsz hf
  have BC0 := Lib.hid (At.new w 29 e.arr)
  obtain ⟨q0, q1, q2⟩ := BC0.out.edit
  have E := Lib.hid (Edit.code_pz hp hp0)
  have hz : decide (e.p = pz) = false := by simpa using hp0
  clear hp0
  rcases hg with hg | ⟨hg, hg0⟩
  all_goals
    (try (have kg : (e.group != 0) = false := by simpa using hg0))
    (try clear hg0)
    rcases hi with hi | ⟨hi, hi0⟩
    all_goals
      (try (have ki : (e.id != 0) = false := by simpa using hi0))
      (try clear hi0)
      go_enter Tryd.func85, Tryd.ntmps85
      go_wp2_with (with_reducible refine stop_store 27 (.tmp 3) (.tmp 12) rfl rfl ?_)
      refine Stop.mk (wpList_storeB rfl _ _ _ rfl (w.heap.size + 1) _ (by simp [go_sem]) rfl _ (by simpa using Blk.new (w.alloc _) _ _) strP rfl rfl (by simp [Value.oneCell']) ?_)
      intro w2 hb2 hk2
      have BC := Lib.hid (BC0.out.step (((Below.refl _ _).alloc (Nat.le_refl _) _).trans (hk2.oneB (by simp) (by simp))))
      have BN := Lib.hid (show Blk w2 (w.heap.size + 1) pz.arr by rw [pz_cells]; exact hb2)
      clear hb2 hk2 q0 q1 q2
      obtain ⟨q0, q1, q2⟩ := BC.out.edit
      go_wp2_with (first
        | (go_at_call 100; refine (c_ref19_group e.kind _ (by omega) h7).mono ?_; rintro e1 w1 ⟨rfl, hb1⟩; replace BC := Lib.hid (BC.out.step hb1); replace BN := Lib.hid (BN.out.below hb1 BN.out.lt); clear q0 q1 q2; obtain ⟨q0, q1, q2⟩ := BC.out.edit)
        | (go_at_call 101; refine (c_ref19_id e.kind _ (by omega) h7).mono ?_; rintro e1 w1 ⟨rfl, hb1⟩; replace BC := Lib.hid (BC.out.step hb1); replace BN := Lib.hid (BN.out.below hb1 BN.out.lt); clear q0 q1 q2; obtain ⟨q0, q1, q2⟩ := BC.out.edit)
        | (go_at_call 102; refine (c_ref19_patch e.kind _ (by omega) h7).mono ?_; rintro e1 w1 ⟨rfl, hb1⟩; replace BC := Lib.hid (BC.out.step hb1); replace BN := Lib.hid (BN.out.below hb1 BN.out.lt); clear q0 q1 q2; obtain ⟨q0, q1, q2⟩ := BC.out.edit)
        | (with_reducible refine stop_loadG 27 (.tmp 39) rfl ?_))
      refine Stop.mk (wpList_loadAtG (by rfl) _ _ rfl w.heap.size 3 rfl e.p.arr (Edit.part BC.out.2) strP HZ.out ?_)
      go_wp2_with (with_reducible refine stop_loadG 27 (.tmp 3) rfl ?_)
      refine Stop.mk (wpList_loadAtG (by rfl) _ _ rfl (w.heap.size + 1) 0 rfl pz.arr BN.out.all strP (by rw [Patch.arr_size]; rfl) ?_)
      go_wp2_with (with_reducible refine stop_bin .neq 27 (.tmp 40) (.tmp 41) 27 rfl ?_)
      refine Stop.mk (wpList_neqS (by rfl) _ _ _ _ rfl e.p.arr pz.arr rfl rfl gP _ ((eq_patch HF.out rfl 9996 _).trans (by rw [hz])) ?_)
      go_wp2_with (first
        | (go_at_call 100; refine (c_ref19_group e.kind _ (by omega) h7).mono ?_; rintro e1 w1 ⟨rfl, hb1⟩; replace BC := Lib.hid (BC.out.step hb1); replace BN := Lib.hid (BN.out.below hb1 BN.out.lt); clear q0 q1 q2; obtain ⟨q0, q1, q2⟩ := BC.out.edit)
        | (go_at_call 101; refine (c_ref19_id e.kind _ (by omega) h7).mono ?_; rintro e1 w1 ⟨rfl, hb1⟩; replace BC := Lib.hid (BC.out.step hb1); replace BN := Lib.hid (BN.out.below hb1 BN.out.lt); clear q0 q1 q2; obtain ⟨q0, q1, q2⟩ := BC.out.edit)
        | (go_at_call 102; refine (c_ref19_patch e.kind _ (by omega) h7).mono ?_; rintro e1 w1 ⟨rfl, hb1⟩; replace BC := Lib.hid (BC.out.step hb1); replace BN := Lib.hid (BN.out.below hb1 BN.out.lt); clear q0 q1 q2; obtain ⟨q0, q1, q2⟩ := BC.out.edit))
      go_ret
      exact RetV.int E.out.symm BC.out.1
end Go.Proofs.YtjhndilflcigiaaDoor
namespace Go.Proofs.YtjhndilflcigiaaDoor
open Go.RowKit

set_option maxHeartbeats 8000000 in
set_option maxRecDepth 4000 in
theorem ref19_Check_dP (e : Edit) (w : World) (hf : e.p.f.length = 8) (h1 : 1 ≤ e.kind) (h7 : e.kind ≤ 7) (hg : hasG e.kind = true ∨ (hasG e.kind = false ∧ e.group = 0)) (hi : hasI e.kind = true ∨ (hasI e.kind = false ∧ e.id = 0)) (hr : e.group < 0 ∨ (0 ≤ e.group ∧ 16 ≤ e.group)) (hp : hasP e.kind = true) : Calls Tryd.prog 85 #[.agg e.arr] w (RetV w (.int .i64 e.code)) := by
  have k1 : decide (e.kind < 1) = false := by simpa using h1
  have k2 : decide (7 < e.kind) = false := by simpa using h7
  have HF := Lib.hid hf
  have hsz : e.p.arr.size = 26 := by rw [Patch.arr_size, hf]
  have HZ := Lib.hid hsz
  clear hsz hf
  have BC0 := Lib.hid (At.new w 29 e.arr)
  obtain ⟨q0, q1, q2⟩ := BC0.out.edit
  have E := Lib.hid (Edit.code_gi (e := e) (fun h => by have := (gOk_ok h.1).1; have := (gOk_ok h.1).2.1; omega))
  have hr' : decide (e.group < 0) = true ∨ (decide (e.group < 0) = false ∧ decide (16 ≤ e.group) = true) := by
    rcases hr with hr | ⟨ha, hr⟩
    · exact .inl (by simpa using hr)
    · exact .inr ⟨by simpa using ha, by simpa using hr⟩
  clear hr
  rcases hg with hg | ⟨hg, hg0⟩
  all_goals
    (try (have kg : (e.group != 0) = false := by simpa using hg0))
    (try clear hg0)
    rcases hi with hi | ⟨hi, hi0⟩
    all_goals
      (try (have ki : (e.id != 0) = false := by simpa using hi0))
      rcases hr' with hr | ⟨ha, hr⟩
      all_goals
        go_enter Tryd.func85, Tryd.ntmps85
        go_wp2_with (with_reducible refine stop_store 27 (.tmp 3) (.tmp 12) rfl rfl ?_)
        refine Stop.mk (wpList_storeB rfl _ _ _ rfl (w.heap.size + 1) _ (by simp [go_sem]) rfl _ (by simpa using Blk.new (w.alloc _) _ _) strP rfl rfl (by simp [Value.oneCell']) ?_)
        intro w2 hb2 hk2
        have BC := Lib.hid (BC0.out.step (((Below.refl _ _).alloc (Nat.le_refl _) _).trans (hk2.oneB (by simp) (by simp))))
        have BN := Lib.hid (show Blk w2 (w.heap.size + 1) pz.arr by rw [pz_cells]; exact hb2)
        clear hb2 hk2 q0 q1 q2
        obtain ⟨q0, q1, q2⟩ := BC.out.edit
        go_wp2_with (first
          | (go_at_call 100; refine (c_ref19_group e.kind _ (by omega) h7).mono ?_; rintro e1 w1 ⟨rfl, hb1⟩; replace BC := Lib.hid (BC.out.step hb1); replace BN := Lib.hid (BN.out.below hb1 BN.out.lt); clear q0 q1 q2; obtain ⟨q0, q1, q2⟩ := BC.out.edit)
          | (go_at_call 101; refine (c_ref19_id e.kind _ (by omega) h7).mono ?_; rintro e1 w1 ⟨rfl, hb1⟩; replace BC := Lib.hid (BC.out.step hb1); replace BN := Lib.hid (BN.out.below hb1 BN.out.lt); clear q0 q1 q2; obtain ⟨q0, q1, q2⟩ := BC.out.edit)
          | (go_at_call 102; refine (c_ref19_patch e.kind _ (by omega) h7).mono ?_; rintro e1 w1 ⟨rfl, hb1⟩; replace BC := Lib.hid (BC.out.step hb1); replace BN := Lib.hid (BN.out.below hb1 BN.out.lt); clear q0 q1 q2; obtain ⟨q0, q1, q2⟩ := BC.out.edit))
        go_ret
        exact RetV.int E.out.symm BC.out.1
set_option maxHeartbeats 8000000 in
set_option maxRecDepth 4000 in
theorem ref19_Check_dN (e : Edit) (w : World) (hf : e.p.f.length = 8) (h1 : 1 ≤ e.kind) (h7 : e.kind ≤ 7) (hg : hasG e.kind = true ∨ (hasG e.kind = false ∧ e.group = 0)) (hi : hasI e.kind = true ∨ (hasI e.kind = false ∧ e.id = 0)) (hr : e.group < 0 ∨ (0 ≤ e.group ∧ 16 ≤ e.group)) (hp : hasP e.kind = false) (hp0 : e.p = pz) : Calls Tryd.prog 85 #[.agg e.arr] w (RetV w (.int .i64 e.code)) := by
  have k1 : decide (e.kind < 1) = false := by simpa using h1
  have k2 : decide (7 < e.kind) = false := by simpa using h7
  have HF := Lib.hid hf
  have hsz : e.p.arr.size = 26 := by rw [Patch.arr_size, hf]
  have HZ := Lib.hid hsz
  clear hsz hf
  have BC0 := Lib.hid (At.new w 29 e.arr)
  obtain ⟨q0, q1, q2⟩ := BC0.out.edit
  have E := Lib.hid (Edit.code_gi (e := e) (fun h => by have := (gOk_ok h.1).1; have := (gOk_ok h.1).2.1; omega))
  have hr' : decide (e.group < 0) = true ∨ (decide (e.group < 0) = false ∧ decide (16 ≤ e.group) = true) := by
    rcases hr with hr | ⟨ha, hr⟩
    · exact .inl (by simpa using hr)
    · exact .inr ⟨by simpa using ha, by simpa using hr⟩
  clear hr
  have hz : decide (e.p = pz) = true := by simpa using hp0
  clear hp0
  rcases hg with hg | ⟨hg, hg0⟩
  all_goals
    (try (have kg : (e.group != 0) = false := by simpa using hg0))
    (try clear hg0)
    rcases hi with hi | ⟨hi, hi0⟩
    all_goals
      (try (have ki : (e.id != 0) = false := by simpa using hi0))
      rcases hr' with hr | ⟨ha, hr⟩
      all_goals
        go_enter Tryd.func85, Tryd.ntmps85
        go_wp2_with (with_reducible refine stop_store 27 (.tmp 3) (.tmp 12) rfl rfl ?_)
        refine Stop.mk (wpList_storeB rfl _ _ _ rfl (w.heap.size + 1) _ (by simp [go_sem]) rfl _ (by simpa using Blk.new (w.alloc _) _ _) strP rfl rfl (by simp [Value.oneCell']) ?_)
        intro w2 hb2 hk2
        have BC := Lib.hid (BC0.out.step (((Below.refl _ _).alloc (Nat.le_refl _) _).trans (hk2.oneB (by simp) (by simp))))
        have BN := Lib.hid (show Blk w2 (w.heap.size + 1) pz.arr by rw [pz_cells]; exact hb2)
        clear hb2 hk2 q0 q1 q2
        obtain ⟨q0, q1, q2⟩ := BC.out.edit
        go_wp2_with (first
          | (go_at_call 100; refine (c_ref19_group e.kind _ (by omega) h7).mono ?_; rintro e1 w1 ⟨rfl, hb1⟩; replace BC := Lib.hid (BC.out.step hb1); replace BN := Lib.hid (BN.out.below hb1 BN.out.lt); clear q0 q1 q2; obtain ⟨q0, q1, q2⟩ := BC.out.edit)
          | (go_at_call 101; refine (c_ref19_id e.kind _ (by omega) h7).mono ?_; rintro e1 w1 ⟨rfl, hb1⟩; replace BC := Lib.hid (BC.out.step hb1); replace BN := Lib.hid (BN.out.below hb1 BN.out.lt); clear q0 q1 q2; obtain ⟨q0, q1, q2⟩ := BC.out.edit)
          | (go_at_call 102; refine (c_ref19_patch e.kind _ (by omega) h7).mono ?_; rintro e1 w1 ⟨rfl, hb1⟩; replace BC := Lib.hid (BC.out.step hb1); replace BN := Lib.hid (BN.out.below hb1 BN.out.lt); clear q0 q1 q2; obtain ⟨q0, q1, q2⟩ := BC.out.edit)
          | (with_reducible refine stop_loadG 27 (.tmp 39) rfl ?_))
        refine Stop.mk (wpList_loadAtG (by rfl) _ _ rfl w.heap.size 3 rfl e.p.arr (Edit.part BC.out.2) strP HZ.out ?_)
        go_wp2_with (with_reducible refine stop_loadG 27 (.tmp 3) rfl ?_)
        refine Stop.mk (wpList_loadAtG (by rfl) _ _ rfl (w.heap.size + 1) 0 rfl pz.arr BN.out.all strP (by rw [Patch.arr_size]; rfl) ?_)
        go_wp2_with (with_reducible refine stop_bin .neq 27 (.tmp 40) (.tmp 41) 27 rfl ?_)
        refine Stop.mk (wpList_neqS (by rfl) _ _ _ _ rfl e.p.arr pz.arr rfl rfl gP _ ((eq_patch HF.out rfl 9996 _).trans (by rw [hz])) ?_)
        go_wp2_with (first
          | (go_at_call 100; refine (c_ref19_group e.kind _ (by omega) h7).mono ?_; rintro e1 w1 ⟨rfl, hb1⟩; replace BC := Lib.hid (BC.out.step hb1); replace BN := Lib.hid (BN.out.below hb1 BN.out.lt); clear q0 q1 q2; obtain ⟨q0, q1, q2⟩ := BC.out.edit)
          | (go_at_call 101; refine (c_ref19_id e.kind _ (by omega) h7).mono ?_; rintro e1 w1 ⟨rfl, hb1⟩; replace BC := Lib.hid (BC.out.step hb1); replace BN := Lib.hid (BN.out.below hb1 BN.out.lt); clear q0 q1 q2; obtain ⟨q0, q1, q2⟩ := BC.out.edit)
          | (go_at_call 102; refine (c_ref19_patch e.kind _ (by omega) h7).mono ?_; rintro e1 w1 ⟨rfl, hb1⟩; replace BC := Lib.hid (BC.out.step hb1); replace BN := Lib.hid (BN.out.below hb1 BN.out.lt); clear q0 q1 q2; obtain ⟨q0, q1, q2⟩ := BC.out.edit))
        go_ret
        exact RetV.int E.out.symm BC.out.1
end Go.Proofs.YtjhndilflcigiaaDoor
