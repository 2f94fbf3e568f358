/-
  Lemmas (walks and plain laws), in one text.
-/
import Derived.Test.YtjhndilflcigiaaPc15
import Derived.Test.YtjhndilflcigiaaRows
import Derived.WalkKit
import Derived.WalkSpells
import Derived.WalkLawsBesides
import Derived.Lib.Hide
import Derived.Deep.QuietTactic
import Derived.BigQuiet
import Derived.Maps.AppendAt
import Derived.WalkSmall
import Derived.ProofKit
import Derived.OpenShut
import Derived.JoinedCond
import Derived.Deep.Slices
import Derived.Deep.Fields
import Derived.Carry
import Derived.Test.YtjhndilflcigiaaProg
import Derived.Deep.CutBlock
import Derived.Deep.DeepCutAuto
import Derived.Deep.AppendSrc
import Derived.Lib.AppendStr
import Derived.Laws.BytesArg
import Derived.Laws.CopyOwn
import Derived.Outline
import Derived.IntWalk
import Derived.Lib.EndianBits
import Derived.Laws.Tables
import Derived.Laws.Rows
import Derived.Shelf.Spec.TrailingZeros
import Derived.StillTail
import Derived.Lib.AppendZeros
import Derived.Deep.Quiet
import Derived.ChangeKeysEq
import Derived.Laws.StructEq
import Derived.Laws.LoneSync
namespace Go.Proofs.Ytjhndilflcigiaa
open Go.RowKit

/-- A slice of rows that can be read, each filter in its place. -/
def InRw (w : World) (A : Option Addr) (c : Nat) (l : List LR) : Prop := In 12 LR.cells w A c l ∧ ∀ x ∈ l, InN w x.2.1 x.2.2 x.1.a.f
theorem InRw.below {w w' : World} {A : Option Addr} {c : Nat} {l : List LR} (h : InRw w A c l) (hb : Below w.heap.size w w') : InRw w' A c l := ⟨h.1.below hb, fun x hx => (h.2 x hx).below hb⟩
/-- Where a row lies, and what its cells are. -/
def RowAt (w : World) (b o : Nat) (x : LR) : Prop := b < w.heap.size ∧ ∀ w', Below w.heap.size w w' → w'.cell? ⟨b, o, none⟩ = some (.int .i64 x.1.last) ∧ w'.cell? ⟨b, o + 1, none⟩ = some (.int .i64 x.1.ep) ∧ ∀ j u, (x.1.a.arr x.2.1 x.2.2)[j]? = some u → w'.cell? ⟨b, o + 2 + j, none⟩ = some u
theorem InRw.row {w : World} {A : Option Addr} {c : Nat} {l : List LR} (h : InRw w A c l) {k : Nat} (hk : k < l.length) : ∃ b off, A = some ⟨b, off, none⟩ ∧ RowAt w b (off + k * 12) l[k] := by
  obtain ⟨b, off, hA, hb, hrow⟩ := h.1.at hk
  refine ⟨b, off, hA, hb, fun w' hw => ?_⟩
  have hr := hrow.below hw hb
  refine ⟨hr k hk 0 _ rfl, hr k hk 1 _ rfl, fun j u hu => ?_⟩
  have hj : j < 10 := (Array.getElem?_eq_some_iff.1 hu).1
  have := hr k hk (2 + j) u (by
    unfold LR.cells
    rw [List.getElem?_append_right (by simp)]
    simpa using hu)
  rwa [show off + k * 12 + (2 + j) = off + k * 12 + 2 + j by omega] at this
theorem RowAt.below {w w' : World} {b o : Nat} {x : LR} (h : RowAt w b o x) (hb : Below w.heap.size w w') : RowAt w' b o x := ⟨Nat.lt_of_lt_of_le h.1 hb.size, fun w2 h2 => h.2 w2 (hb.trans (h2.mono hb.size))⟩
/-- The end of the reference's Ask. -/
def RetAskR (w : World) (a : Rep) (code : Int) (e : Ending) (w' : World) : Prop :=
  ∃ A c, e = .returned (.tuple #[.agg (a.arr A c), .int .i64 code]) ∧ InN w' A c a.f ∧ Below w.heap.size w w'
set_option maxHeartbeats 1000000 in
set_option maxRecDepth 4000 in
theorem ref30_Ask_arg (A : Option Addr) (n c : Nat) (dev req : Int) (w : World) (h : dev < 0 ∨ 6 ≤ dev ∨ req < 1 ∨ 1099511627776 < req) : Calls Try.prog 23 #[.slice A n c, .int .i64 dev, .int .i64 req] w (RetAskR w rz 1) := by
  have B0 := Lib.hid (At.new w 47 (Rep.arr rz none 0))
  have hcs : dev < 0 ∨ (0 ≤ dev ∧ 6 ≤ dev) ∨ (0 ≤ dev ∧ dev < 6 ∧ req < 1) ∨ (0 ≤ dev ∧ dev < 6 ∧ 1 ≤ req ∧ 1099511627776 < req) := by omega
  clear h
  rcases hcs with h1 | ⟨h1, h2⟩ | ⟨h1, h2, h3⟩ | ⟨h1, h2, h3, h4⟩
  all_goals
    go_enter Try.func23, Try.ntmps23
    go_wp2_with (with_reducible refine stop_store 47 (.tmp 6) (.tmp 22) rfl rfl ?_)
    refine Stop.mk (wpList_storeB rfl _ _ _ rfl w.heap.size _ rfl rfl _ B0.out.2 strRp rfl rfl (by simp [Value.oneCell']) ?_)
    intro w9 hb9 hk9
    go_wp2_with (fail)
    exact bodyPost_ret (results_B2 rfl rfl rfl hb9 strRp rfl) rfl ⟨none, 0, rfl, In.nil (by omega), B0.out.1.trans (hk9.oneB B0.out.1.size (Nat.le_refl _))⟩
set_option maxHeartbeats 1000000 in
set_option maxRecDepth 4000 in
theorem ref30_Ask_no (b off c k : Nat) (L req : Int) (w : World) (hk : k < 6) (_hc : 6 ≤ c) (_hc2 : c ≤ 9223372036854775807) (hb : b < w.heap.size) (r1 : 1 ≤ req) (r2 : req ≤ 1099511627776) (q : w.cell? ⟨b, off + k * 12, none⟩ = some (.int .i64 L)) (hne : req ≠ L) :
    Calls Try.prog 23 #[.slice (some ⟨b, off, none⟩) 6 c, .int .i64 k, .int .i64 req] w (RetAskR w rz (if req < L then 13 else 0)) := by
  have B0 := Lib.hid (At.new w 47 (Rep.arr rz none 0))
  have k1 : decide (req < 1) = false := by simpa using r1
  have k2 : decide (1099511627776 < req) = false := by simpa using r2
  have k3 : decide (6 ≤ (k : Int)) = false := by simp; omega
  by_cases hlt : req < L
  · rw [if_pos hlt]
    have j1 : decide (req < L) = true := by simpa using hlt
    clear hlt hne
    go_enter Try.func23, Try.ntmps23
    go_wp2_with (with_reducible refine stop_store 47 (.tmp 6) (.tmp 30) rfl rfl ?_)
    refine Stop.mk (wpList_storeB rfl _ _ _ rfl w.heap.size _ rfl rfl _ B0.out.2 strRp rfl rfl (by simp [Value.oneCell']) ?_)
    intro w9 hb9 hk9
    go_wp2_with (fail)
    exact bodyPost_ret (results_B2 rfl rfl rfl hb9 strRp rfl) rfl ⟨none, 0, rfl, In.nil (by omega), B0.out.1.trans (hk9.oneB B0.out.1.size (Nat.le_refl _))⟩
  · rw [if_neg hlt]
    have j1 : decide (req < L) = false := by simpa using hlt
    have j2 : (req == L) = false := by simpa using hne
    clear hlt hne
    go_enter Try.func23, Try.ntmps23
    go_wp2_with (with_reducible refine stop_store 47 (.tmp 6) (.tmp 43) rfl rfl ?_)
    refine Stop.mk (wpList_storeB rfl _ _ _ rfl w.heap.size _ rfl rfl _ B0.out.2 strRp rfl rfl (by simp [Value.oneCell']) ?_)
    intro w9 hb9 hk9
    go_wp2_with (fail)
    exact bodyPost_ret (results_B2 rfl rfl rfl hb9 strRp rfl) rfl ⟨none, 0, rfl, In.nil (by omega), B0.out.1.trans (hk9.oneB B0.out.1.size (Nat.le_refl _))⟩
set_option maxHeartbeats 2000000 in
set_option maxRecDepth 4000 in
theorem ref30_Ask_there (b off c k : Nat) (req : Int) (x : LR) (w : World) (hk : k < 6) (_hc : 6 ≤ c) (_hc2 : c ≤ 9223372036854775807) (r1 : 1 ≤ req) (r2 : req ≤ 1099511627776) (h : RowAt w b (off + k * 12) x) (hf : InN w x.2.1 x.2.2 x.1.a.f) (he : req = x.1.last) :
    Calls Try.prog 23 #[.slice (some ⟨b, off, none⟩) 6 c, .int .i64 k, .int .i64 req] w (RetAskR w x.1.a 7) := by
  have B0 := Lib.hid (At.new w 47 (Rep.arr rz none 0))
  have HI := Lib.hid hf
  have q' : w.cell? ⟨b, off + k * 12, none⟩ = some (.int .i64 req) := by rw [he]; exact (h.2 _ (Below.refl _ _)).1
  have hb := h.1
  have PT := Lib.hid (h.2 _ B0.out.1).2.2
  have k1 : decide (req < 1) = false := by simpa using r1
  have k2 : decide (1099511627776 < req) = false := by simpa using r2
  have k3 : decide (6 ≤ (k : Int)) = false := by simp; omega
  clear he h hf
  go_enter Try.func23, Try.ntmps23
  go_wp2_with (with_reducible refine stop_load 47 (.tmp 41) rfl rfl ?_)
  refine Stop.mk (wpList_loadAt rfl _ _ rfl b _ rfl (x.1.a.arr x.2.1 x.2.2) PT.out strRp rfl ?_)
  go_wp2_with (with_reducible refine stop_store 47 (.tmp 6) (.tmp 42) rfl rfl ?_)
  refine Stop.mk (wpList_storeB rfl _ _ _ rfl w.heap.size _ rfl rfl _ B0.out.2 strRp rfl rfl (by simp [Value.oneCell']) ?_)
  intro w9 hb9 hk9
  go_wp2_with (fail)
  have hB := B0.out.1.trans (hk9.oneB B0.out.1.size (Nat.le_refl _))
  exact bodyPost_ret (results_B2 rfl rfl rfl hb9 strRp rfl) rfl ⟨_, _, rfl, HI.out.below hB, hB⟩
theorem c_ref30_Ask (A : Option Addr) (c : Nat) (l : List LR) (dev req : Int) (w : World) (h : InRw w A c l) (h6 : l.length = 6) :
    Calls Try.prog 23 #[.slice A l.length c, .int .i64 dev, .int .i64 req] w (RetAskR w (askA (rowsOf l) dev req) (askE (rowsOf l) dev req)) := by
  unfold askA askE
  by_cases hb : askBad dev req
  · rw [if_pos hb, if_pos hb]; exact ref30_Ask_arg A _ c dev req w hb
  · rw [if_neg hb, if_neg hb]
    unfold askBad at hb
    obtain ⟨k, rfl⟩ : ∃ k : Nat, dev = k := ⟨dev.toNat, by omega⟩
    have hk : k < 6 := by omega
    have hkl : k < l.length := by rw [h6]; exact hk
    obtain ⟨b, off, rfl, hr⟩ := h.row hkl
    have hc := h.1.1
    have hc2 := h.1.2.1
    have hf := h.2 _ (List.getElem_mem hkl)
    rw [rowAt_of hkl]
    obtain ⟨x, hx⟩ : ∃ x, x = l[k] := ⟨_, rfl⟩
    rw [← hx] at hr hf ⊢
    rw [h6] at hc ⊢
    by_cases he : req = x.1.last
    · rw [if_pos he, if_neg (by omega), if_pos he]
      exact ref30_Ask_there b off c k req x w hk hc hc2 (by omega) (by omega) hr hf he
    · rw [if_neg he, if_neg he]
      exact ref30_Ask_no b off c k _ req w hk hc hc2 hr.1 (by omega) (by omega) (hr.2 _ (Below.refl _ _)).1 he
end Go.Proofs.Ytjhndilflcigiaa
namespace Go.Proofs.Ytjhndilflcigiaa
open Go.RowKit

theorem strRow : Str Try.prog 77 12 := ⟨⟨_, Try.underlying77, rfl⟩, by kernel_rfl⟩
theorem own_blk {w : World} {base : Nat} {e : TypeId} {k n : Nat} {v : Value} {xs : List Value} (h : w.ownsRow base e k v n xs) (hn : 0 < n) : ∃ g cap cur, v = .slice (some ⟨g, 0, none⟩) n cap ∧ base ≤ g ∧ Blk w g cur ∧ n ≤ cap ∧ cap ≤ 9223372036854775807 ∧ n * k ≤ cur.size ∧ ∀ i, i < n * k → cur[i]? = xs[i]? := by
  rcases h.2 with ⟨_, h0⟩ | ⟨g, cap, cur, hv, hg, hh, hc, hm, hs, ht⟩
  · omega
  · refine ⟨g, cap, cur, hv, hg, ⟨e, hh⟩, hc, by unfold maxLen at hm; omega, by rw [hs]; exact Nat.mul_le_mul_right k hc, fun i hi => ?_⟩
    rw [← ht, List.getElem?_take_of_lt hi, Array.getElem?_toList]
theorem in_blk {α : Type} {k : Nat} {cs : α → List Value} {w : World} {g c : Nat} {cur : Array Value} {l : List α} (hk : ∀ x, (cs x).length = k) (hb : Blk w g cur) (h1 : l.length ≤ c) (h2 : c ≤ 9223372036854775807) (h3 : l.length ≤ 4294967296)
    (h : ∀ i, i < l.length * k → cur[i]? = (l.flatMap cs)[i]?) : In k cs w (some ⟨g, 0, none⟩) c l := by
  refine ⟨h1, h2, h3, .inr ⟨g, 0, rfl, hb.lt, fun i hi j u hu => ?_⟩⟩
  have hj : j < k := by rw [← hk l[i]]; exact (List.getElem?_eq_some_iff.1 hu).1
  have hij : i * k + j < l.length * k := by
    have : (i + 1) * k ≤ l.length * k := Nat.mul_le_mul_right k hi
    rw [Nat.add_mul] at this
    omega
  rw [Nat.zero_add]
  exact hb.cell (by rw [h _ hij, flat_get hk l i hi j hj]; exact hu)
theorem lrow_put {cur : Array Value} {l : List LR} {k : Nat} (hk : k < l.length) (row : LR) (hs : l.length * 12 ≤ cur.size) (h : ∀ i, i < l.length * 12 → cur[i]? = (l.flatMap LR.cells)[i]?) :
    ∀ i, i < (l.set k row).length * 12 → (putAt cur (k * 12) (LR.cells row))[i]? = ((l.set k row).flatMap LR.cells)[i]? := by
  intro i hi
  rw [List.length_set] at hi
  have hq : i / 12 < l.length := by omega
  have hr : i % 12 < 12 := Nat.mod_lt _ (by omega)
  have hir : i / 12 * 12 + i % 12 = i := by omega
  have e2 := flat_get LR.cells_len (l.set k row) (i / 12) (by rw [List.length_set]; exact hq) (i % 12) hr
  have e1 := flat_get LR.cells_len l (i / 12) hq (i % 12) hr
  rw [hir] at e1 e2
  rw [e2]
  by_cases hqk : i / 12 = k
  · rw [List.getElem_set, if_pos hqk.symm]
    have := putAt_in (LR.cells row) cur (k * 12) (i % 12) (by rw [LR.cells_len]; omega) (by rw [LR.cells_len]; omega)
    rwa [show k * 12 + i % 12 = i by omega] at this
  · rw [List.getElem_set, if_neg (fun e => hqk e.symm), putAt_far _ _ _ _ (by rw [LR.cells_len]; omega), h i hi, e1]
/-- A slice does not lie in block g. -/
def Off {α : Type} (g : Nat) (A : Option Addr) (l : List α) : Prop := l = [] ∨ ∀ ad, A = some ad → ad.block ≠ g
def OffRw (g : Nat) (A : Option Addr) (l : List LR) : Prop := Off g A l ∧ ∀ x ∈ l, Off g x.2.1 x.1.a.f
theorem In.off_store {α : Type} {k : Nat} {cs : α → List Value} {A : Option Addr} {c : Nat} {f : List α} {w w' : World} {g : Nat} (h : In k cs w A c f) (hf : Off g A f) (hk : Kept (some g) w.heap.size w w') : In k cs w' A c f := by
  refine ⟨h.1, h.2.1, h.2.2.1, ?_⟩
  rcases h.2.2.2 with h0 | ⟨b, off, rfl, hb, hr⟩
  · exact .inl h0
  · rcases hf with h0 | hf
    · exact .inl h0
    · have hne := hf _ rfl
      exact .inr ⟨b, off, rfl, Nat.lt_of_lt_of_le hb hk.size, hr.keep fun o => hk.cell (by exact hb) (fun e => by injection e with e; exact hne e.symm)⟩
theorem InRw.off_store {A : Option Addr} {c : Nat} {l : List LR} {w w' : World} {g : Nat} (h : InRw w A c l) (hf : OffRw g A l) (hk : Kept (some g) w.heap.size w w') : InRw w' A c l :=
  ⟨h.1.off_store hf.1 hk, fun x hx => (h.2 x hx).off_store (hf.2 x hx) hk⟩
/-- Rows and a second result, handed back: they lie where they lay, or in a new block. -/
def RetRw (w : World) (B : Option Addr) (l0 : List LR) (A0 : Option Addr) (f0 : List Node) (l : List LRow) (v : Value) (e : Ending) (w' : World) : Prop :=
  ∃ A c l', e = .returned (.tuple #[.slice A 6 c, v]) ∧ InRw w' A c l' ∧ rowsOf l' = l ∧ Below w.heap.size w w' ∧ ∀ g0, g0 < w.heap.size → OffRw g0 B l0 → Off g0 A0 f0 → OffRw g0 A l'
theorem RetRw.len {_l l' : List LR} {r : List LRow} (h : rowsOf l' = r) (hr : r.length = 6) : l'.length = 6 := by rw [← hr, ← h]; unfold rowsOf; simp
set_option maxHeartbeats 2000000 in
set_option maxRecDepth 4000 in
theorem ref30_Note_no (l : List LR) (B : Option Addr) (cb : Nat) (a : Rep) (A : Option Addr) (c : Nat) (w : World) (h : InRw w B cb l) (h6 : l.length = 6) (ha : InN w A c a.f) (hs : ∀ x ∈ a.f, x.v.s.length ≤ 4294967000) (hm : a.mask < 4294967296) (hno : noteOk (rowsOf l) a = false) :
    Calls Try.prog 24 #[.slice B l.length cb, .agg (a.arr A c)] w (RetRw w B l A a.f (noteL (rowsOf l) a) (.bool (noteOk (rowsOf l) a))) := by
  have B0 := Lib.hid (At.new w 47 (a.arr A c))
  have HL := Lib.hid h
  have HI := Lib.hid ha
  have Hs := Lib.hid hs
  have hc1 := h.1.1
  have hc2 := h.1.2.1
  have H6 := Lib.hid h6
  have AK := Lib.hid (fun w' (hb : Below w.heap.size w w') => c_ref30_Ask B cb l a.dev a.req w' (h.below hb) h6)
  have fin : ∀ w', Below w.heap.size w w' → RetRw w B l A a.f (noteL (rowsOf l) a) (.bool (noteOk (rowsOf l) a)) (.returned (.tuple #[.slice B 6 cb, .bool false])) w' := fun w' hb => ⟨B, cb, l, by rw [hno], h.below hb, by unfold noteL; rw [hno]; rfl, hb, fun _ _ h _ => h⟩
  have Fin := Lib.hid fin
  obtain ⟨E, hE⟩ : ∃ E, E = askE (rowsOf l) a.dev a.req := ⟨_, rfl⟩
  have EE := Lib.hid hE
  unfold noteOk at hno
  rw [← hE] at hno
  obtain ⟨q0, q1, q2, q3, q4, q5, q6, q7, q8, q9⟩ := B0.out.rep
  have hno' : a.ok = false ∨ (a.ok = true ∧ E ≠ 0) := by
    cases hok : a.ok
    · exact .inl rfl
    · right; refine ⟨rfl, ?_⟩; rw [hok] at hno; simpa using hno
  rw [h6] at AK hc1 ⊢
  clear h ha hs fin hno hE h6
  rcases hno' with h0 | ⟨h1, h0⟩
  · go_enter Try.func24, Try.ntmps24
    go_wp2_with (with_reducible refine stop_load 47 (.tmp 3) rfl rfl ?_)
    refine Stop.mk (wpList_loadB rfl _ _ rfl w.heap.size rfl _ B0.out.2 strRp rfl ?_)
    go_wp2_with (fail)
    refine (c_ref30_Check a A c _ (HI.out.below B0.out.1) Hs.out hm).mono ?_
    rintro e w1 ⟨rfl, hb1⟩
    rw [h0]
    replace B0 := Lib.hid (B0.out.step hb1)
    clear h0 hb1
    go_wp2_with (fail)
    go_ret2
    exact Fin.out _ B0.out.1
  · have j0 : (E != 0) = true := by simpa using h0
    clear h0
    go_enter Try.func24, Try.ntmps24
    go_wp2_with (with_reducible refine stop_load 47 (.tmp 3) rfl rfl ?_)
    refine Stop.mk (wpList_loadB rfl _ _ rfl w.heap.size rfl _ B0.out.2 strRp rfl ?_)
    go_wp2_with (fail)
    refine (c_ref30_Check a A c _ (HI.out.below B0.out.1) Hs.out hm).mono ?_
    rintro e w1 ⟨rfl, hb1⟩
    rw [h1]
    replace B0 := Lib.hid (B0.out.step hb1)
    clear h1 hb1 q0 q1 q2 q3 q4 q5 q6 q7 q8 q9
    obtain ⟨q0, q1, q2, q3, q4, q5, q6, q7, q8, q9⟩ := B0.out.rep
    go_wp2_with (fail)
    refine (AK.out _ B0.out.1).mono ?_
    rintro e w2 ⟨A1, c1, rfl, -, hb2⟩
    rw [← EE.out]
    replace B0 := Lib.hid (B0.out.step hb2)
    clear hb2
    go_wp2_with (with_reducible refine stop_store 47 (.tmp 6) (.tmp 20) rfl rfl ?_)
    refine Stop.mk (wpList_storeB rfl _ _ _ rfl w2.heap.size _ rfl rfl _ (Blk.new _ _ _) strRp rfl rfl (by simp [Value.oneCell']) ?_)
    intro w3 hb3 hk3
    have hbw := Lib.hid (B0.out.1.trans ((fresh_below hk3).mono B0.out.1.size))
    clear hb3 hk3
    go_wp2_with (fail)
    go_ret2
    exact Fin.out _ hbw.out
set_option maxHeartbeats 4000000 in
set_option maxRecDepth 4000 in
theorem ref30_Note_yes (l : List LR) (b off cb : Nat) (a : Rep) (A : Option Addr) (c k : Nat) (w : World) (h : InRw w (some ⟨b, off, none⟩) cb l) (h6 : l.length = 6) (ha : InN w A c a.f) (hs : ∀ x ∈ a.f, x.v.s.length ≤ 4294967000) (hm : a.mask < 4294967296) (hyes : noteOk (rowsOf l) a = true)
    (hk6 : k < 6) (hk : a.dev = k) (x : LR) (hx : ∀ hq, l[k]'hq = x) (hR : RowAt w b (off + k * 12) x) :
    Calls Try.prog 24 #[.slice (some ⟨b, off, none⟩) l.length cb, .agg (a.arr A c)] w (RetRw w (some ⟨b, off, none⟩) l A a.f (noteL (rowsOf l) a) (.bool (noteOk (rowsOf l) a))) := by
  have B0 := Lib.hid (At.new w 47 (a.arr A c))
  have HL := Lib.hid h
  have HI := Lib.hid ha
  have Hs := Lib.hid hs
  have HY := Lib.hid hyes
  have hc1 := h.1.1
  have hc2 := h.1.2.1
  have H6 := Lib.hid h6
  have HX := Lib.hid hx
  have HK := Lib.hid hk
  have AK := Lib.hid (fun w' (hb : Below w.heap.size w w') => c_ref30_Ask (some ⟨b, off, none⟩) cb l a.dev a.req w' (h.below hb) h6)
  unfold noteOk at hyes
  obtain ⟨h0, h1⟩ := Bool.and_eq_true_iff.1 hyes
  have EE := Lib.hid (show askE (rowsOf l) a.dev a.req = 0 by simpa using h0)
  have Hok := Lib.hid h1
  obtain ⟨q0, q1, q2, q3, q4, q5, q6, q7, q8, q9⟩ := B0.out.rep
  rw [h6] at AK hc1 ⊢
  have RW := Lib.hid hR
  clear h ha hs hyes h0 h1 h6 hx hR hk
  go_enter Try.func24, Try.ntmps24
  go_wp2_with (with_reducible refine stop_load 47 (.tmp 3) rfl rfl ?_)
  refine Stop.mk (wpList_loadB rfl _ _ rfl w.heap.size rfl _ B0.out.2 strRp rfl ?_)
  go_wp2_with (fail)
  refine (c_ref30_Check a A c _ (HI.out.below B0.out.1) Hs.out hm).mono ?_
  rintro e w1 ⟨rfl, hb1⟩
  rw [Hok.out]
  replace B0 := Lib.hid (B0.out.step hb1)
  clear hb1 q0 q1 q2 q3 q4 q5 q6 q7 q8 q9
  obtain ⟨q0, q1, q2, q3, q4, q5, q6, q7, q8, q9⟩ := B0.out.rep
  go_wp2_with (fail)
  refine (AK.out _ B0.out.1).mono ?_
  rintro e w2 ⟨A1, c1, rfl, -, hb2⟩
  rw [EE.out]
  replace B0 := Lib.hid (B0.out.step hb2)
  clear hb2 q0 q1 q2 q3 q4 q5 q6 q7 q8 q9
  go_wp2_with (with_reducible refine stop_store 47 (.tmp 6) (.tmp 20) rfl rfl ?_)
  refine Stop.mk (wpList_storeB rfl _ _ _ rfl w2.heap.size _ rfl rfl _ (Blk.new _ _ _) strRp rfl rfl (by simp [Value.oneCell']) ?_)
  intro w3 hb3 hk3
  replace B0 := Lib.hid (B0.out.step (fresh_below hk3))
  clear hb3 hk3
  go_wp2_with ((at_builtin; refine Stop.out ?_))
  have HL3 := Lib.hid (HL.out.below B0.out.1)
  have HB3 := Lib.hid (show w.heap.size < w3.heap.size from B0.out.2.lt)
  refine Stop.mk (wpList_app _ rfl _ _ elemRow rfl w3.heap.size (.slice (some ⟨w3.heap.size, 0, none⟩) 0 0) 0 [] rfl (World.ownsRow_lit w3 #[] 0 (Nat.le_refl _) (by unfold maxLen; omega) (by simp)) (some ⟨b, off, none⟩) 6 cb (l.flatMap LR.cells) rfl (by have := Src.of_in LR.cells_len (by omega) (HL3.out.1.alloc (.cells #[] 77)); rw [H6.out] at this; exact this) (rows_one l) (by omega) (by simp) ?_)
  intro v4 w4 own4 _ hb4 _
  rw [Nat.zero_add, List.nil_append] at own4
  obtain ⟨g8, c8, cur, rfl, hg8, blk8, hc8, hm8, hs8, hcur⟩ := own_blk own4 (by omega)
  have hb34 : Below w3.heap.size w3 w4 := ((Below.refl _ _).alloc (Nat.le_refl _) _).trans hb4
  replace B0 := Lib.hid (B0.out.step hb34)
  have HL4 := Lib.hid (HL3.out.below hb34)
  have RX := Lib.hid (RW.out.below B0.out.1)
  have BK := Lib.hid blk8
  have HCU := Lib.hid hcur
  have hb8 := RX.out.1
  have hgl8 := blk8.lt
  have hw3 := B0.out.1.size
  have hgw := Lib.hid (show w.heap.size < g8 from Nat.lt_of_lt_of_le HB3.out hg8)
  clear own4 hb4 hb34 blk8 hcur HL3
  have QS := Lib.hid (show ∀ W2, Below w4.heap.size w4 W2 → W2.cell? ⟨w.heap.size, 1, none⟩ = some (.int .i64 k) ∧ W2.cell? ⟨w.heap.size, 2, none⟩ = some (.int .i64 a.req) ∧ Blk W2 w.heap.size (a.arr A c) from fun W2 hb2 => by
    have B2 := B0.out.2.below hb2 B0.out.2.lt
    exact ⟨by rw [← HK.out]; exact B2.cell rfl, B2.cell rfl, B2⟩)
  go_wp2_with (fail)
  refine wp_region_relT [Sp.eq (.slice (some ⟨g8, 0, none⟩) 6 c8), Sp.eq (.pointer (some ⟨w.heap.size, 1, none⟩)), Sp.eq (.int .i64 k), Sp.eq (.pointer (some ⟨w.heap.size, 2, none⟩)), Sp.eq (.int .i64 a.req), Sp.eq (.slice (some ⟨b, off, none⟩) 6 cb), Sp.eq (.pointer (some ⟨w.heap.size, 1, none⟩)), Sp.eq (.int .i64 k), Sp.eq (.pointer (some ⟨b, off + k * 12, none⟩)), Sp.eq (.pointer (some ⟨b, off + k * 12 + 1, none⟩)), Sp.eq (.int .i64 x.1.ep), Sp.eq (.agg (a.arr A c)), Sp.eq (.agg (LR.cells (⟨a.req, x.1.ep, a⟩, A, c)).toArray), Sp.eq (.pointer (some ⟨g8, k * 12, none⟩))] 43 14 (by kernel_rfl) (by decide) (by kernel_rfl) (by kernel_rfl) (by kernel_rfl) (by kernel_rfl) rfl rfl ?_ ?_
  · refine ⟨?_, ?_, ?_, ?_, ?_, ?_, ?_, ?_, ?_, ?_, ?_, ?_, ?_, ?_, trivial⟩
    all_goals (intro u W2 hb2 hd; simp [Deps, Region.binds, Sp.eq_holds] at hd; simp only [putDeps, dstOf, Region.binds])
    case refine_1 =>
      go_wp2_with (fail); exact RelEnd.mk rfl (Below.refl _ _) rfl
    case refine_2 =>
      go_wp2_with (fail); exact RelEnd.mk rfl (Below.refl _ _) rfl
    case refine_3 =>
      have q : World.cell? W2 ⟨w.heap.size, 1, none⟩ = some (.int .i64 k) := (QS.out W2 hb2).1
      go_wp2_with (fail); exact RelEnd.mk rfl (Below.refl _ _) rfl
    case refine_4 =>
      go_wp2_with (fail); exact RelEnd.mk rfl (Below.refl _ _) rfl
    case refine_5 =>
      have q : World.cell? W2 ⟨w.heap.size, 2, none⟩ = some (.int .i64 a.req) := (QS.out W2 hb2).2.1
      go_wp2_with (fail); exact RelEnd.mk rfl (Below.refl _ _) rfl
    case refine_6 =>
      go_wp2_with (fail); exact RelEnd.mk rfl (Below.refl _ _) rfl
    case refine_7 =>
      go_wp2_with (fail); exact RelEnd.mk rfl (Below.refl _ _) rfl
    case refine_8 =>
      have q : World.cell? W2 ⟨w.heap.size, 1, none⟩ = some (.int .i64 k) := (QS.out W2 hb2).1
      go_wp2_with (fail); exact RelEnd.mk rfl (Below.refl _ _) rfl
    case refine_9 =>
      go_wp2_with (fail); exact RelEnd.mk rfl (Below.refl _ _) rfl
    case refine_10 =>
      go_wp2_with (fail); exact RelEnd.mk rfl (Below.refl _ _) rfl
    case refine_11 =>
      have q : World.cell? W2 ⟨b, off + k * 12 + 1, none⟩ = some (.int .i64 x.1.ep) := ((RX.out.below hb2).2 _ (Below.refl _ _)).2.1
      go_wp2_with (fail); exact RelEnd.mk rfl (Below.refl _ _) rfl
    case refine_12 =>
      go_wp2_with (with_reducible refine stop_loadG 47 _ rfl ?_)
      refine Stop.mk (wpList_loadAtG (by simp [Region.wanted]) _ _ rfl w.heap.size 0 rfl (a.arr A c) ((QS.out W2 hb2).2.2.all) strRp (rfl) ?_)
      go_wp2_with (fail); exact RelEnd.mk rfl (Below.refl _ _) rfl
    case refine_13 =>
      go_wp2_with (fail); exact RelEnd.mk rfl (Below.refl _ _) rfl
    case refine_14 =>
      go_wp2_with (fail); exact RelEnd.mk rfl (Below.refl _ _) rfl
  · intro u W2 hb2 hold
    simp only [RelHold, Sp.eq_holds, Nat.reduceAdd] at hold
    obtain ⟨-, -, -, -, -, -, -, -, -, -, -, -, e40, e41, -⟩ := hold
    simp only [List.drop, List.take, putAll, Act.put, Nat.reduceAdd, List.setIfInBounds_toArray, List.set_cons_zero, List.set_cons_succ]
    rw [e40, e41]
    have BW := Lib.hid (BK.out.below hb2 hgl8)
    have HC := Lib.hid (HL4.out.below hb2)
    have hz4 := hb2.size
    refine wpList_storeAt rfl _ _ _ rfl g8 (k * 12) (LR.cells (⟨a.req, x.1.ep, a⟩, A, c)).toArray rfl rfl cur BW.out strRow rfl (by show k * 12 + 12 ≤ _; omega) (by simpa using rows_one [(⟨a.req, x.1.ep, a⟩, A, c)]) ?_
    intro w7 hb7 hk7
    have hB7 := Lib.hid (B0.out.1.trans ((hb2.mono hw3).trans (hk7.oneB (Nat.le_trans hw3 hz4) (Nat.le_of_lt hgw.out))))
    have hkl : k < l.length := by rw [H6.out]; exact hk6
    have I7 := Lib.hid (show In 12 LR.cells w7 (some ⟨g8, 0, none⟩) c8 (l.set k (⟨a.req, x.1.ep, a⟩, A, c)) from in_blk LR.cells_len hb7 (by rw [List.length_set, H6.out]; exact hc8) hm8 (by rw [List.length_set, H6.out]; omega) (lrow_put hkl _ (by rw [H6.out]; exact hs8) (by rw [H6.out]; exact HCU.out)))
    clear hb7 hk7 e40 e41 hb2
    go_wp2_with (fail)
    go_ret2
    refine ⟨_, c8, l.set k (⟨a.req, x.1.ep, a⟩, A, c), by rw [HY.out]; rfl, ⟨I7.out, fun y hy => ?_⟩, ?_, hB7.out, fun g0 hg0 ho hf => ⟨.inr fun ad had => ?_, fun y hy => ?_⟩⟩
    · rcases List.mem_or_eq_of_mem_set hy with hy | rfl
      · exact (HL.out.2 y hy).below hB7.out
      · exact HI.out.below hB7.out
    · have := HX.out hkl
      rw [← this]
      exact note_plain HK.out hkl HY.out
    · injection had with had
      rw [← had]
      have := hgw.out
      show g8 ≠ g0
      omega
    · rcases List.mem_or_eq_of_mem_set hy with hy | rfl
      · exact ho.2 y hy
      · exact hf
theorem c_ref30_Note (l : List LR) (B : Option Addr) (cb : Nat) (a : Rep) (A : Option Addr) (c : Nat) (w : World) (h : InRw w B cb l) (h6 : l.length = 6) (ha : InN w A c a.f) (hs : ∀ x ∈ a.f, x.v.s.length ≤ 4294967000) (hm : a.mask < 4294967296) :
    Calls Try.prog 24 #[.slice B l.length cb, .agg (a.arr A c)] w (RetRw w B l A a.f (noteL (rowsOf l) a) (.bool (noteOk (rowsOf l) a))) := by
  cases hy : noteOk (rowsOf l) a
  · have := ref30_Note_no l B cb a A c w h h6 ha hs hm hy
    rw [hy] at this; exact this
  · have h0 : askE (rowsOf l) a.dev a.req = 0 := by unfold noteOk at hy; simpa using (Bool.and_eq_true_iff.1 hy).1
    have hgood : ¬ askBad a.dev a.req := fun hb => by unfold askE at h0; rw [if_pos hb] at h0; cases h0
    unfold askBad at hgood
    obtain ⟨k, hk⟩ : ∃ k : Nat, a.dev = k := ⟨a.dev.toNat, by omega⟩
    have hk6 : k < 6 := by omega
    obtain ⟨b, off, rfl, hR⟩ := h.row (k := k) (by rw [h6]; exact hk6)
    have := ref30_Note_yes l b off cb a A c k w h h6 ha hs hm hy hk6 hk _ (fun _ => rfl) hR
    rw [hy] at this; exact this
end Go.Proofs.Ytjhndilflcigiaa
