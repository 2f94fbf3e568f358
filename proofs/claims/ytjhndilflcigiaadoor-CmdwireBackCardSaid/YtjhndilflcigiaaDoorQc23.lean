/-
  Lemmas (walks and plain laws), in one text.
-/
import Derived.Test.YtjhndilflcigiaaDoorQc22
import Derived.Test.YtjhndilflcigiaaDoorRows
import Derived.WalkKit
import Derived.WalkSpells
import Derived.WalkLawsBesides
import Derived.Lib.Hide
import Derived.Deep.QuietTactic
import Derived.BigQuiet
import Derived.Maps.AppendAt
import Derived.WalkSmall
import Derived.ProofKit
import Derived.OpenShut
import Derived.JoinedCond
import Derived.Deep.Slices
import Derived.Deep.Fields
import Derived.Carry
import Derived.Deep.AppendSrc
import Derived.Lib.AppendStr
import Derived.Laws.BytesArg
import Derived.Test.YtjhndilflcigiaaDoorProg
import Derived.Shelf.Spec.TrailingZeros
import Derived.RangeFuncNested
import Derived.RangeFuncBound
import Derived.RangeFuncCalls
import Derived.RangeFuncLeaves
import Derived.Shelf.Abstract
import Derived.Shelf.RegionOpen
import Derived.OwnWalkIn
import Derived.TacticsInMore
import Derived.LoopNIn
import Derived.LoopIn
import Derived.Test.YtjhndilflcigiaaDoorTie
import Derived.Lib.LaidTab
import Derived.LaidMore
import Derived.SevenTiedAt
import Derived.Test.YtjhndilflcigiaaDoorCards
import Derived.Laws.Tables
import Derived.Laws.Rows
import Derived.ChangeKeysEq
import Derived.Laws.StructEq
import Derived.Deep.CutBlock
import Derived.Deep.DeepCutAuto
import Derived.Laws.CopyOwn
import Derived.Outline
import Derived.IntWalk
import Derived.Lib.EndianBits
import Derived.StillTail
import Derived.Lib.AppendZeros
import Derived.Deep.Quiet
import Derived.Maps.Own
import Derived.WalkMore
namespace Go.Proofs.YtjhndilflcigiaaDoor
open Go.RowKit

@[irreducible] def Cmd.arr (c : Cmd) (A : Option Addr) (n : Nat) : Array Value :=
  (([.int .i64 c.kind] : List Value) ++ (c.e.arr.toList ++ (([.int .i64 c.dev, .int .i64 c.req, .int .i64 c.id, .int .i64 c.base, .int .i64 c.keep] : List Value) ++ (c.p.arr.toList ++ ([.slice A c.f.length n, .int .u32 c.mask] : List Value))))).toArray
structure Cmd.wf (c : Cmd) : Prop where
  e : c.e.p.f.length = 8
  p : c.p.f.length = 8
section
variable {c : Cmd} {A : Option Addr} {n : Nat}
theorem Cmd.le (h : c.wf) : c.e.arr.toList.length = 29 := by rw [Array.length_toList, Edit.arr_size, h.e]
theorem Cmd.lp (h : c.wf) : c.p.arr.toList.length = 26 := by rw [Array.length_toList, Patch.arr_size, h.p]
theorem Cmd.arr_size (h : c.wf) : (c.arr A n).size = 63 := by
  unfold Cmd.arr
  simp only [List.size_toArray, List.length_append, List.length_cons, List.length_nil, Cmd.le h, Cmd.lp h]
theorem Cmd.get0 : (c.arr A n)[0]? = some (.int .i64 c.kind) := by unfold Cmd.arr; rfl
theorem Cmd.getE (h : c.wf) (j : Nat) (hj : j < 29) : (c.arr A n)[1 + j]? = c.e.arr[j]? := by
  unfold Cmd.arr
  rw [List.getElem?_toArray, List.getElem?_append_right (by simp), List.getElem?_append_left (by rw [Cmd.le h]; simp <;> omega)]
  simp
theorem Cmd.getI (h : c.wf) (j : Nat) (hj : j < 5) : (c.arr A n)[30 + j]? = ([.int .i64 c.dev, .int .i64 c.req, .int .i64 c.id, .int .i64 c.base, .int .i64 c.keep] : List Value)[j]? := by
  unfold Cmd.arr
  rw [List.getElem?_toArray, List.getElem?_append_right (by simp <;> omega), List.getElem?_append_right (by rw [Cmd.le h]; simp <;> omega), List.getElem?_append_left (by rw [Cmd.le h]; simp <;> omega), Cmd.le h]
  congr 1
  simp <;> omega
theorem Cmd.getP (h : c.wf) (j : Nat) (hj : j < 26) : (c.arr A n)[35 + j]? = c.p.arr[j]? := by
  unfold Cmd.arr
  rw [List.getElem?_toArray, List.getElem?_append_right (by simp <;> omega), List.getElem?_append_right (by rw [Cmd.le h]; simp <;> omega), List.getElem?_append_right (by rw [Cmd.le h]; simp <;> omega), List.getElem?_append_left (by rw [Cmd.le h, Cmd.lp h]; simp <;> omega), Cmd.le h, Array.getElem?_toList]
  congr 1
  simp <;> omega
theorem Cmd.getF (h : c.wf) (j : Nat) (hj : j < 2) : (c.arr A n)[61 + j]? = ([.slice A c.f.length n, .int .u32 c.mask] : List Value)[j]? := by
  unfold Cmd.arr
  rw [List.getElem?_toArray, List.getElem?_append_right (by simp <;> omega), List.getElem?_append_right (by rw [Cmd.le h]; simp <;> omega), List.getElem?_append_right (by rw [Cmd.le h]; simp <;> omega), List.getElem?_append_right (by rw [Cmd.le h, Cmd.lp h]; simp <;> omega), Cmd.le h, Cmd.lp h]
  congr 1
  simp <;> omega
theorem Cmd.eq_of {d : Cmd} {B : Option Addr} {m : Nat} {X : Array Value} (hd : d.wf) (hs : X.size = 63) (h0 : X[0]? = some (.int .i64 d.kind)) (hE : ∀ j, j < 29 → X[1 + j]? = d.e.arr[j]?) (hI : ∀ j, j < 5 → X[30 + j]? = ([.int .i64 d.dev, .int .i64 d.req, .int .i64 d.id, .int .i64 d.base, .int .i64 d.keep] : List Value)[j]?)
    (hP : ∀ j, j < 26 → X[35 + j]? = d.p.arr[j]?) (hF : ∀ j, j < 2 → X[61 + j]? = ([.slice B d.f.length m, .int .u32 d.mask] : List Value)[j]?) : X = d.arr B m := by
  apply Array.ext_getElem?
  intro i
  by_cases h1 : i = 0
  · rw [h1, h0, Cmd.get0]
  by_cases h2 : i < 30
  · have := hE (i - 1) (by omega)
    rw [← Cmd.getE hd (A := B) (n := m) (i - 1) (by omega), show 1 + (i - 1) = i by omega] at this
    exact this
  by_cases h3 : i < 35
  · have := hI (i - 30) (by omega)
    rw [← Cmd.getI hd (A := B) (n := m) (i - 30) (by omega), show 30 + (i - 30) = i by omega] at this
    exact this
  by_cases h4 : i < 61
  · have := hP (i - 35) (by omega)
    rw [← Cmd.getP hd (A := B) (n := m) (i - 35) (by omega), show 35 + (i - 35) = i by omega] at this
    exact this
  by_cases h5 : i < 63
  · have := hF (i - 61) (by omega)
    rw [← Cmd.getF hd (A := B) (n := m) (i - 61) (by omega), show 61 + (i - 61) = i by omega] at this
    exact this
  · rw [Array.getElem?_eq_none (by omega), Array.getElem?_eq_none (by rw [Cmd.arr_size hd]; omega)]
theorem set_at {X : Array Value} {k : Nat} {v : Value} (i : Nat) (hk : k < X.size) : (X.setIfInBounds k v)[i]? = if i = k then some v else X[i]? := by
  by_cases h : i = k
  · rw [if_pos h, h, Array.getElem?_setIfInBounds_self_of_lt hk]
  · rw [if_neg h, Array.getElem?_setIfInBounds_ne (fun e => h e.symm)]
/-- One of the five numbers is stored. -/
theorem Cmd.setI (h : c.wf) (k : Nat) (hk : k < 5) (v : Int) : (c.arr A n).setIfInBounds (30 + k) (.int .i64 v) =
    Cmd.arr { c with dev := if k = 0 then v else c.dev, req := if k = 1 then v else c.req, id := if k = 2 then v else c.id, base := if k = 3 then v else c.base, keep := if k = 4 then v else c.keep } A n := by
  have hs := Cmd.arr_size h (A := A) (n := n)
  refine Cmd.eq_of ⟨h.e, h.p⟩ (by rw [Array.size_setIfInBounds, hs]) ?_ ?_ ?_ ?_ ?_
  · rw [set_at _ (by omega), if_neg (by omega)]; exact Cmd.get0
  · intro j hj; rw [set_at _ (by omega), if_neg (by omega)]; exact Cmd.getE h j hj
  · intro j hj
    rw [set_at _ (by omega)]
    by_cases e : j = k
    · subst e
      rw [if_pos rfl]
      have : j = 0 ∨ j = 1 ∨ j = 2 ∨ j = 3 ∨ j = 4 := by omega
      rcases this with rfl | rfl | rfl | rfl | rfl <;> rfl
    · rw [if_neg (by omega), Cmd.getI h j hj]
      have h1 : j = 0 ∨ j = 1 ∨ j = 2 ∨ j = 3 ∨ j = 4 := by omega
      have h2 : k = 0 ∨ k = 1 ∨ k = 2 ∨ k = 3 ∨ k = 4 := by omega
      rcases h1 with rfl | rfl | rfl | rfl | rfl <;> rcases h2 with rfl | rfl | rfl | rfl | rfl <;> first | rfl | exact absurd rfl e
  · intro j hj; rw [set_at _ (by omega), if_neg (by omega)]; exact Cmd.getP h j hj
  · intro j hj; rw [set_at _ (by omega), if_neg (by omega)]; exact Cmd.getF h j hj
theorem Cmd.setF (h : c.wf) (B : Option Addr) (l : List Node) (m : Nat) : (c.arr A n).setIfInBounds 61 (.slice B l.length m) = Cmd.arr { c with f := l } B m := by
  have hs := Cmd.arr_size h (A := A) (n := n)
  refine Cmd.eq_of ⟨h.e, h.p⟩ (by rw [Array.size_setIfInBounds, hs]) ?_ ?_ ?_ ?_ ?_
  · rw [set_at _ (by omega), if_neg (by omega)]; exact Cmd.get0
  · intro j hj; rw [set_at _ (by omega), if_neg (by omega)]; exact Cmd.getE h j hj
  · intro j hj; rw [set_at _ (by omega), if_neg (by omega)]; exact Cmd.getI h j hj
  · intro j hj; rw [set_at _ (by omega), if_neg (by omega)]; exact Cmd.getP h j hj
  · intro j hj
    rw [set_at _ (by omega)]
    have : j = 0 ∨ j = 1 := by omega
    rcases this with rfl | rfl
    · rw [if_pos rfl]; rfl
    · rw [if_neg (by omega)]; exact Cmd.getF h 1 (by omega)
theorem Cmd.setM (h : c.wf) (v : Nat) : (c.arr A n).setIfInBounds 62 (.int .u32 v) = Cmd.arr { c with mask := v } A n := by
  have hs := Cmd.arr_size h (A := A) (n := n)
  refine Cmd.eq_of ⟨h.e, h.p⟩ (by rw [Array.size_setIfInBounds, hs]) ?_ ?_ ?_ ?_ ?_
  · rw [set_at _ (by omega), if_neg (by omega)]; exact Cmd.get0
  · intro j hj; rw [set_at _ (by omega), if_neg (by omega)]; exact Cmd.getE h j hj
  · intro j hj; rw [set_at _ (by omega), if_neg (by omega)]; exact Cmd.getI h j hj
  · intro j hj; rw [set_at _ (by omega), if_neg (by omega)]; exact Cmd.getP h j hj
  · intro j hj
    rw [set_at _ (by omega)]
    have : j = 0 ∨ j = 1 := by omega
    rcases this with rfl | rfl
    · rw [if_neg (by omega)]; exact Cmd.getF h 0 (by omega)
    · rw [if_pos rfl]; rfl
theorem Cmd.putE (h : c.wf) (e : Edit) (he : e.p.f.length = 8) : putAt (c.arr A n) 1 e.arr.toList = Cmd.arr { c with e := e } A n := by
  have hs := Cmd.arr_size h (A := A) (n := n)
  have hl : e.arr.toList.length = 29 := by rw [Array.length_toList, Edit.arr_size, he]
  refine Cmd.eq_of ⟨he, h.p⟩ (by rw [putAt_size, hs]) ?_ ?_ ?_ ?_ ?_
  · rw [putAt_far _ _ _ _ (by omega)]; exact Cmd.get0
  · intro j hj; rw [putAt_in _ _ _ _ (by omega) (by omega), Array.getElem?_toList]
  · intro j hj; rw [putAt_far _ _ _ _ (by omega)]; exact Cmd.getI h j hj
  · intro j hj; rw [putAt_far _ _ _ _ (by omega)]; exact Cmd.getP h j hj
  · intro j hj; rw [putAt_far _ _ _ _ (by omega)]; exact Cmd.getF h j hj
theorem Cmd.putP (h : c.wf) (p : Patch) (hp : p.f.length = 8) : putAt (c.arr A n) 35 p.arr.toList = Cmd.arr { c with p := p } A n := by
  have hs := Cmd.arr_size h (A := A) (n := n)
  have hl : p.arr.toList.length = 26 := by rw [Array.length_toList, Patch.arr_size, hp]
  refine Cmd.eq_of ⟨h.e, hp⟩ (by rw [putAt_size, hs]) ?_ ?_ ?_ ?_ ?_
  · rw [putAt_far _ _ _ _ (by omega)]; exact Cmd.get0
  · intro j hj; rw [putAt_far _ _ _ _ (by omega)]; exact Cmd.getE h j hj
  · intro j hj; rw [putAt_far _ _ _ _ (by omega)]; exact Cmd.getI h j hj
  · intro j hj; rw [putAt_in _ _ _ _ (by omega) (by omega), Array.getElem?_toList]
  · intro j hj; rw [putAt_far _ _ _ _ (by omega)]; exact Cmd.getF h j hj
/-- A command's cells. -/
theorem cmd_cells {w : World} {g : Nat} (h : c.wf) (hb : Blk w g (c.arr A n)) :
    w.cell? ⟨g, 0, none⟩ = some (.int .i64 c.kind) ∧ w.cell? ⟨g, 30, none⟩ = some (.int .i64 c.dev) ∧ w.cell? ⟨g, 31, none⟩ = some (.int .i64 c.req) ∧ w.cell? ⟨g, 32, none⟩ = some (.int .i64 c.id) ∧ w.cell? ⟨g, 33, none⟩ = some (.int .i64 c.base) ∧
    w.cell? ⟨g, 34, none⟩ = some (.int .i64 c.keep) ∧ w.cell? ⟨g, 61, none⟩ = some (.slice A c.f.length n) ∧ w.cell? ⟨g, 62, none⟩ = some (.int .u32 c.mask) :=
  ⟨hb.cell Cmd.get0, hb.cell (Cmd.getI h 0 (by omega)), hb.cell (Cmd.getI h 1 (by omega)), hb.cell (Cmd.getI h 2 (by omega)), hb.cell (Cmd.getI h 3 (by omega)), hb.cell (Cmd.getI h 4 (by omega)), hb.cell (Cmd.getF h 0 (by omega)), hb.cell (Cmd.getF h 1 (by omega))⟩
theorem cmd_edit {w : World} {g : Nat} (h : c.wf) (hb : Blk w g (c.arr A n)) (j : Nat) (u : Value) (hu : c.e.arr[j]? = some u) : w.cell? ⟨g, 1 + j, none⟩ = some u := by
  have hj : j < c.e.arr.size := (Array.getElem?_eq_some_iff.1 hu).1
  rw [Edit.arr_size, h.e] at hj
  exact hb.cell (by rw [Cmd.getE h j (by omega)]; exact hu)
theorem cmd_patch {w : World} {g : Nat} (h : c.wf) (hb : Blk w g (c.arr A n)) (j : Nat) (u : Value) (hu : c.p.arr[j]? = some u) : w.cell? ⟨g, 35 + j, none⟩ = some u := by
  have hj : j < c.p.arr.size := (Array.getElem?_eq_some_iff.1 hu).1
  rw [Patch.arr_size, h.p] at hj
  exact hb.cell (by rw [Cmd.getP h j (by omega)]; exact hu)
theorem Cmd.arr_one (_h : c.wf) : ∀ v ∈ (c.arr A n).toList, v.oneCell' = true := by
  intro v hv
  unfold Cmd.arr at hv
  simp only [List.mem_append, List.mem_cons, List.not_mem_nil, or_false] at hv
  rcases hv with rfl | hv | (rfl | rfl | rfl | rfl | rfl) | hv | (rfl | rfl)
  all_goals first
    | rfl
    | (exact Edit.arr_one c.e v hv)
    | (exact Patch.arr_one c.p v hv)
end
end Go.Proofs.YtjhndilflcigiaaDoor
namespace Go.Proofs.YtjhndilflcigiaaDoor
open Go.RowKit

theorem i64_or_zero {x y : Int} (hx : -9223372036854775808 ≤ x ∧ x ≤ 9223372036854775807) (hy : -9223372036854775808 ≤ y ∧ y ≤ 9223372036854775807) : bits .or .i64 x y = 0 ↔ x = 0 ∧ y = 0 := by
  have key : (BitVec.ofInt 64 x ||| BitVec.ofInt 64 y).toNat = (x % ((2 ^ 64 : Nat) : Int)).toNat ||| (y % ((2 ^ 64 : Nat) : Int)).toNat := by
    rw [BitVec.toNat_or, BitVec.toNat_ofInt, BitVec.toNat_ofInt]
  have hlt : (BitVec.ofInt 64 x ||| BitVec.ofInt 64 y).toNat < 2 ^ 64 := BitVec.isLt _
  show IntKind.i64.wrap ((BitVec.ofInt 64 x ||| BitVec.ofInt 64 y).toNat : Nat) = 0 ↔ _
  rw [IntKind.wrap_i64]
  have h0 : (BitVec.ofInt 64 x ||| BitVec.ofInt 64 y).toNat = 0 ↔ x = 0 ∧ y = 0 := by
    rw [key, Nat.or_eq_zero_iff]
    omega
  rw [← h0]
  omega
theorem i64_or_rng (x y : Int) : -9223372036854775808 ≤ bits .or .i64 x y ∧ bits .or .i64 x y ≤ 9223372036854775807 := by
  show -9223372036854775808 ≤ IntKind.i64.wrap ((BitVec.ofInt 64 x ||| BitVec.ofInt 64 y).toNat : Nat) ∧ IntKind.i64.wrap ((BitVec.ofInt 64 x ||| BitVec.ofInt 64 y).toNat : Nat) ≤ 9223372036854775807
  rw [IntKind.wrap_i64]
  omega
def I6 (n : Int) : Prop := -9223372036854775808 ≤ n ∧ n ≤ 9223372036854775807
structure Cmd.rng (c : Cmd) : Prop where
  dev : I6 c.dev
  req : I6 c.req
  id : I6 c.id
  base : I6 c.base
  keep : I6 c.keep
def Cmd.numZ (c : Cmd) : Bool := decide (c.dev = 0 ∧ c.req = 0 ∧ c.id = 0 ∧ c.base = 0 ∧ c.keep = 0)
theorem Cmd.or_zero {c : Cmd} (h : c.rng) : (bits .or .i64 (bits .or .i64 (bits .or .i64 (bits .or .i64 c.dev c.req) c.id) c.base) c.keep == 0) = c.numZ := by
  rw [Bool.eq_iff_iff]
  unfold Cmd.numZ
  simp only [beq_iff_eq, decide_eq_true_eq]
  rw [i64_or_zero (i64_or_rng _ _) h.keep, i64_or_zero (i64_or_rng _ _) h.base, i64_or_zero (i64_or_rng _ _) h.id, i64_or_zero h.dev h.req]
  simp only [and_assoc]
theorem Cmd.bare_eq (c : Cmd) : c.bare = (c.numZ && (decide (c.e = ez) && (decide (c.p = pz) && (decide (c.f.length = 0) && decide (c.mask = 0))))) := by
  unfold Cmd.bare Cmd.numZ Cmd.eZ Cmd.pZ Cmd.fZ
  rw [Bool.eq_iff_iff]
  simp only [Bool.and_eq_true, decide_eq_true_eq, List.length_eq_zero_iff]
theorem beq_zi (n : Int) : (n == 0) = decide (n = 0) := by rw [Bool.eq_iff_iff]; simp
set_option maxHeartbeats 4000000 in
set_option maxRecDepth 4000 in
theorem c_core_bare (c : Cmd) (A : Option Addr) (n : Nat) (w : World) (hwf : c.wf) (hr : c.rng) : Calls Tryd.prog 89 #[.agg (c.arr A n)] w (RetV w (.bool c.bare)) := by
  rw [Cmd.bare_eq]
  have B0 := Lib.hid (At.new w 32 (c.arr A n))
  have hw := Lib.hid hwf
  have k0 := Cmd.or_zero hr
  obtain ⟨q0, q1, q2, q3, q4, q5, q6, q7⟩ := cmd_cells hw.out B0.out.2
  clear hwf hr
  cases hz : c.numZ
  case false =>
    rw [hz] at k0
    clear hz
    go_enter Tryd.func89, Tryd.ntmps89
    go_wp2_with (fail)
    go_ret
    exact RetV.bool rfl B0.out.1
  case true =>
    rw [hz] at k0
    clear hz
    cases he : decide (c.e = ez)
    case false =>
      have EE := Lib.hid he
      clear he
      go_enter Tryd.func89, Tryd.ntmps89
      go_wp2_with (with_reducible refine stop_loadG 29 (.tmp 21) rfl ?_)
      refine Stop.mk (wpList_loadAtG (by rfl) _ _ rfl w.heap.size 1 rfl c.e.arr (cmd_edit hw.out B0.out.2) strE (by rw [Edit.arr_size, hw.out.e]) ?_)
      go_wp2_with (with_reducible refine stop_bin .eql 29 (.tmp 22) (.tmp 23) 29 rfl ?_)
      refine Stop.mk (wpList_eqlS (by rfl) _ _ _ _ rfl c.e.arr ez.arr rfl (by rw [ez_cells]; rfl) gE false ((eq_edit hw.out.e rfl 9995 _).trans (by rw [EE.out])) ?_)
      go_wp2_with (fail)
      go_ret
      exact RetV.bool rfl B0.out.1
    case true =>
      have EE := Lib.hid he
      clear he
      cases hp : decide (c.p = pz)
      all_goals
        have EP := Lib.hid hp
        clear hp
        go_enter Tryd.func89, Tryd.ntmps89
        go_wp2_with (with_reducible refine stop_loadG 29 (.tmp 21) rfl ?_)
        refine Stop.mk (wpList_loadAtG (by rfl) _ _ rfl w.heap.size 1 rfl c.e.arr (cmd_edit hw.out B0.out.2) strE (by rw [Edit.arr_size, hw.out.e]) ?_)
        go_wp2_with (with_reducible refine stop_bin .eql 29 (.tmp 22) (.tmp 23) 29 rfl ?_)
        refine Stop.mk (wpList_eqlS (by rfl) _ _ _ _ rfl c.e.arr ez.arr rfl (by rw [ez_cells]; rfl) gE true ((eq_edit hw.out.e rfl 9995 _).trans (by rw [EE.out])) ?_)
        go_wp2_with (with_reducible refine stop_loadG 27 (.tmp 27) rfl ?_)
        refine Stop.mk (wpList_loadAtG (by rfl) _ _ rfl w.heap.size 35 rfl c.p.arr (cmd_patch hw.out B0.out.2) strP (by rw [Patch.arr_size, hw.out.p]) ?_)
        go_wp2_with (with_reducible refine stop_bin .eql 27 (.tmp 28) (.tmp 29) 27 rfl ?_)
        refine Stop.mk (wpList_eqlS (by rfl) _ _ _ _ rfl c.p.arr pz.arr rfl (by rw [pz_cells]; rfl) gP _ ((eq_patch hw.out.p rfl 9996 _).trans (by rw [EP.out])) ?_)
        go_wp2_with (fail)
        all_goals
          go_ret
          refine RetV.bool ?_ B0.out.1
          simp_all [beq_zi]
set_option maxHeartbeats 4000000 in
set_option maxRecDepth 4000 in
theorem c_ref32_Zero (c : Cmd) (A : Option Addr) (n : Nat) (w : World) (hwf : c.wf) : Calls Tryd.prog 84 #[.agg (c.arr A n)] w (RetV w (.bool c.bare)) := by
  have E0 := Lib.hid (Cmd.bare_eq c)
  have B0 := Lib.hid (At.new w 32 (c.arr A n))
  have hw := Lib.hid hwf
  obtain ⟨q0, q1, q2, q3, q4, q5, q6, q7⟩ := cmd_cells hw.out B0.out.2
  clear hwf
  cases he : decide (c.e = ez)
  case false =>
    have EE := Lib.hid he
    clear he
    go_enter Tryd.func84, Tryd.ntmps84
    go_wp2_with (with_reducible refine stop_loadG 29 (.tmp 3) rfl ?_)
    refine Stop.mk (wpList_loadAtG (by rfl) _ _ rfl w.heap.size 1 rfl c.e.arr (cmd_edit hw.out B0.out.2) strE (by rw [Edit.arr_size, hw.out.e]) ?_)
    go_wp2_with (with_reducible refine stop_bin .eql 29 (.tmp 4) (.tmp 5) 29 rfl ?_)
    refine Stop.mk (wpList_eqlS (by rfl) _ _ _ _ rfl c.e.arr ez.arr rfl (by rw [ez_cells]; rfl) gE false ((eq_edit hw.out.e rfl 9995 _).trans (by rw [EE.out])) ?_)
    go_wp2_with (fail)
    go_ret
    refine RetV.bool ?_ B0.out.1
    rw [E0.out, EE.out]
    simp
  case true =>
    have EE := Lib.hid he
    clear he
    cases hz : c.numZ
    case false =>
      have HZ := Lib.hid hz
      have HZ2 := Lib.hid (show ¬ (c.dev = 0 ∧ c.req = 0 ∧ c.id = 0 ∧ c.base = 0 ∧ c.keep = 0) by unfold Cmd.numZ at hz; simpa using hz)
      clear hz
      go_enter Tryd.func84, Tryd.ntmps84
      go_wp2_with (with_reducible refine stop_loadG 29 (.tmp 3) rfl ?_)
      refine Stop.mk (wpList_loadAtG (by rfl) _ _ rfl w.heap.size 1 rfl c.e.arr (cmd_edit hw.out B0.out.2) strE (by rw [Edit.arr_size, hw.out.e]) ?_)
      go_wp2_with (with_reducible refine stop_bin .eql 29 (.tmp 4) (.tmp 5) 29 rfl ?_)
      refine Stop.mk (wpList_eqlS (by rfl) _ _ _ _ rfl c.e.arr ez.arr rfl (by rw [ez_cells]; rfl) gE true ((eq_edit hw.out.e rfl 9995 _).trans (by rw [EE.out])) ?_)
      go_wp2_with (fail)
      all_goals first
        | (go_ret
           refine RetV.bool ?_ B0.out.1
           rw [E0.out, HZ.out]
           rfl)
        | (exfalso
           have := HZ2.out
           simp_all
           done)
    case true =>
      have HZ := Lib.hid hz
      obtain ⟨z0, z1, z2, z3, z4⟩ : c.dev = 0 ∧ c.req = 0 ∧ c.id = 0 ∧ c.base = 0 ∧ c.keep = 0 := by unfold Cmd.numZ at hz; simpa using hz
      have y0 : (c.dev == 0) = true := by simpa using z0
      have y1 : (c.req == 0) = true := by simpa using z1
      have y2 : (c.id == 0) = true := by simpa using z2
      have y3 : (c.base == 0) = true := by simpa using z3
      have y4 : (c.keep == 0) = true := by simpa using z4
      clear hz z0 z1 z2 z3 z4
      go_enter Tryd.func84, Tryd.ntmps84
      go_wp2_with (with_reducible refine stop_loadG 29 (.tmp 3) rfl ?_)
      refine Stop.mk (wpList_loadAtG (by rfl) _ _ rfl w.heap.size 1 rfl c.e.arr (cmd_edit hw.out B0.out.2) strE (by rw [Edit.arr_size, hw.out.e]) ?_)
      go_wp2_with (with_reducible refine stop_bin .eql 29 (.tmp 4) (.tmp 5) 29 rfl ?_)
      refine Stop.mk (wpList_eqlS (by rfl) _ _ _ _ rfl c.e.arr ez.arr rfl (by rw [ez_cells]; rfl) gE true ((eq_edit hw.out.e rfl 9995 _).trans (by rw [EE.out])) ?_)
      go_wp2_with (with_reducible refine stop_loadG 27 (.tmp 33) rfl ?_)
      refine Stop.mk (wpList_loadAtG (by rfl) _ _ rfl w.heap.size 35 rfl c.p.arr (cmd_patch hw.out B0.out.2) strP (by rw [Patch.arr_size, hw.out.p]) ?_)
      obtain ⟨q, hq⟩ : ∃ q, q = decide (c.p = pz) := ⟨_, rfl⟩
      have EP := Lib.hid hq
      clear hq
      go_wp2_with (with_reducible refine stop_bin .eql 27 (.tmp 34) (.tmp 35) 27 rfl ?_)
      refine Stop.mk (wpList_eqlS (by rfl) _ _ _ _ rfl c.p.arr pz.arr rfl (by rw [pz_cells]; rfl) gP q ((eq_patch hw.out.p rfl 9996 _).trans (by rw [EP.out])) ?_)
      cases q
      all_goals go_wp2_with (fail)
      all_goals
        go_ret
        refine RetV.bool ?_ B0.out.1
        rw [E0.out, EE.out, HZ.out, ← EP.out]
        simp_all [beq_zi]
end Go.Proofs.YtjhndilflcigiaaDoor
namespace Go.Proofs.YtjhndilflcigiaaDoor
open Go.ChangeShapes Go.WideShapes Go.ChangeAt Go.RowKit Go.Deep
open Go.ChangeMaps (open_string shut_string)

theorem list10c {α : Type} {l : List α} (h : l.length = 10) : ∃ a b c d e f g i j k, l = [a, b, c, d, e, f, g, i, j, k] := by
  match l, h with
  | [a, b, c, d, e, f, g, i, j, k], _ => exact ⟨a, b, c, d, e, f, g, i, j, k, rfl⟩
section
variable {H : Type} {enc : TypeId × Value → H} {w : World} {base : Nat} {spare : Nat → Bool} {held : Bool}
theorem c_cmd : Tryd.prog.cellsOf 32 = 63 := by kernel_rfl
theorem c_nodesK : Tryd.prog.cellsOf 30 = 1 := by kernel_rfl
theorem c_uint32K : Tryd.prog.cellsOf 22 = 1 := by kernel_rfl
theorem open_cmd {fuel : Nat} {cs : List Value} {x : DataW H × List MemPlace} (h : DataW.trod enc Tryd.prog w 0 spare held fuel 32 cs = some x) :
    ∃ (c : Cmd) (A : Option Addr) (n : Nat), cs = (c.arr A n).toList ∧ c.wf ∧ c.rng ∧ c.f.length ≤ n ∧ n ≤ 9223372036854775807 ∧ (c.f = [] ∨ ∃ b off, A = some ⟨b, off, none⟩ ∧ b < w.heap.size ∧ Row 5 Node.cells w b off c.f) ∧ (∀ v ∈ c.f, v.wf) ∧
      c.e.p.mask < 4294967296 ∧ c.p.mask < 4294967296 ∧ c.mask < 4294967296 ∧ (∀ v ∈ c.e.p.f, v.wf) ∧ (∀ v ∈ c.p.f, v.wf) := by
  obtain ⟨xs, n, _, _, hl, hxl, hf⟩ := DataW.trod_struct Tryd.underlying32 h
  rw [c_cmd] at hl
  obtain ⟨x0, x1, x2, x3, x4, x5, x6, x7, x8, x9, rfl⟩ := list10c (show xs.length = 10 from hxl)
  have h0 := hf 0
  have h1 := hf 1
  have h2 := hf 2
  have h3 := hf 3
  have h4 := hf 4
  have h5 := hf 5
  have h6 := hf 6
  have h7 := hf 7
  have h8 := hf 8
  have h9 := hf 9
  simp [c_int, c_edit, c_patch, c_nodesK, c_uint32K] at h0 h1 h2 h3 h4 h5 h6 h7 h8 h9
  obtain ⟨a0, e0, -⟩ := open_i64 h0
  obtain ⟨e, e1, ee1, ee2, -, -, -, -, ee3⟩ := open_edit h1
  obtain ⟨a2, e2, r2⟩ := open_i64 h2
  obtain ⟨a3, e3, r3⟩ := open_i64 h3
  obtain ⟨a4, e4, r4⟩ := open_i64 h4
  obtain ⟨a5, e5, r5⟩ := open_i64 h5
  obtain ⟨a6, e6, r6⟩ := open_i64 h6
  obtain ⟨p, e7, pp1, pp2, -, pp3⟩ := open_patch h7
  obtain ⟨A, cc, l, e8, k1, k2, k3, k4, -⟩ := open_nodes h8
  obtain ⟨m, e9, r9⟩ := open_u32 h9
  refine ⟨⟨a0, e, a2, a3, a4, a5, a6, p, l, m⟩, A, cc, ?_, ⟨ee1, pp1⟩, ⟨r2, r3, r4, r5, r6⟩, k1, k2, k3, k4, ee2, pp2, r9, ee3, pp3⟩
  have cut : ∀ k j : Nat, cs.drop k = (cs.drop k).take j ++ cs.drop (k + j) := fun k j => by rw [← List.drop_drop, List.take_append_drop]
  have c0 : cs = cs.take 1 ++ cs.drop 1 := (List.take_append_drop 1 cs).symm
  have c1 := cut 1 29
  have c2 := cut 30 1
  have c3 := cut 31 1
  have c4 := cut 32 1
  have c5 := cut 33 1
  have c6 := cut 34 1
  have c7 := cut 35 26
  have c8 := cut 61 1
  have c9 := cut 62 1
  have c10 : cs.drop 63 = [] := List.drop_of_length_le (by omega)
  rw [← List.drop_one] at e1
  simp only [Nat.reduceAdd] at c1 c2 c3 c4 c5 c6 c7 c8 c9
  rw [c10, e9] at c9
  rw [c9, e8] at c8
  rw [c8, e7] at c7
  rw [c7, e6] at c6
  rw [c6, e5] at c5
  rw [c5, e4] at c4
  rw [c4, e3] at c3
  rw [c3, e2] at c2
  rw [c2, e1] at c1
  rw [c1, e0] at c0
  rw [c0]
  unfold Cmd.arr
  simp
end
end Go.Proofs.YtjhndilflcigiaaDoor
