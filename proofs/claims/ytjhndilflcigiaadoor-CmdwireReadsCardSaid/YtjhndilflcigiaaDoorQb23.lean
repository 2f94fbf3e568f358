/-
  Lemmas (walks and plain laws), in one text.
-/
import Derived.Test.YtjhndilflcigiaaDoorQb22
import Derived.Test.YtjhndilflcigiaaDoorRows
import Derived.WalkKit
import Derived.WalkSpells
import Derived.WalkLawsBesides
import Derived.Lib.Hide
import Derived.Deep.QuietTactic
import Derived.BigQuiet
import Derived.Maps.AppendAt
import Derived.WalkSmall
import Derived.ProofKit
import Derived.OpenShut
import Derived.JoinedCond
import Derived.Deep.Slices
import Derived.Deep.Fields
import Derived.Carry
import Derived.Deep.AppendSrc
import Derived.Lib.AppendStr
import Derived.Laws.BytesArg
import Derived.Test.YtjhndilflcigiaaDoorProg
import Derived.Shelf.Spec.TrailingZeros
import Derived.RangeFuncNested
import Derived.RangeFuncBound
import Derived.RangeFuncCalls
import Derived.RangeFuncLeaves
import Derived.Shelf.Abstract
import Derived.Shelf.RegionOpen
import Derived.OwnWalkIn
import Derived.TacticsInMore
import Derived.LoopNIn
import Derived.LoopIn
import Derived.Test.YtjhndilflcigiaaDoorTie
import Derived.Lib.LaidTab
import Derived.LaidMore
import Derived.SevenTiedAt
import Derived.Test.YtjhndilflcigiaaDoorCards
import Derived.Laws.Tables
import Derived.Laws.Rows
import Derived.Maps.Own
import Derived.Deep.CutBlock
import Derived.Deep.DeepCutAuto
import Derived.ChangeKeysEq
import Derived.Laws.StructEq
import Derived.Laws.CopyOwn
import Derived.Outline
import Derived.IntWalk
import Derived.Lib.EndianBits
import Derived.Lib.AppendZeros
import Derived.WalkMore
import Derived.StillTail
import Derived.Deep.Quiet
namespace Go.Proofs.YtjhndilflcigiaaDoor
open Go.RowKit

@[irreducible] def Cmd.arr (c : Cmd) (A : Option Addr) (n : Nat) : Array Value :=
  (([.int .i64 c.kind] : List Value) ++ (c.e.arr.toList ++ (([.int .i64 c.dev, .int .i64 c.req, .int .i64 c.id, .int .i64 c.base, .int .i64 c.keep] : List Value) ++ (c.p.arr.toList ++ ([.slice A c.f.length n, .int .u32 c.mask] : List Value))))).toArray
structure Cmd.wf (c : Cmd) : Prop where
  e : c.e.p.f.length = 8
  p : c.p.f.length = 8
section
variable {c : Cmd} {A : Option Addr} {n : Nat}
theorem Cmd.le (h : c.wf) : c.e.arr.toList.length = 29 := by rw [Array.length_toList, Edit.arr_size, h.e]
theorem Cmd.lp (h : c.wf) : c.p.arr.toList.length = 26 := by rw [Array.length_toList, Patch.arr_size, h.p]
theorem Cmd.arr_size (h : c.wf) : (c.arr A n).size = 63 := by
  unfold Cmd.arr
  simp only [List.size_toArray, List.length_append, List.length_cons, List.length_nil, Cmd.le h, Cmd.lp h]
theorem Cmd.get0 : (c.arr A n)[0]? = some (.int .i64 c.kind) := by unfold Cmd.arr; rfl
theorem Cmd.getE (h : c.wf) (j : Nat) (hj : j < 29) : (c.arr A n)[1 + j]? = c.e.arr[j]? := by
  unfold Cmd.arr
  rw [List.getElem?_toArray, List.getElem?_append_right (by simp), List.getElem?_append_left (by rw [Cmd.le h]; simp <;> omega)]
  simp
theorem Cmd.getI (h : c.wf) (j : Nat) (hj : j < 5) : (c.arr A n)[30 + j]? = ([.int .i64 c.dev, .int .i64 c.req, .int .i64 c.id, .int .i64 c.base, .int .i64 c.keep] : List Value)[j]? := by
  unfold Cmd.arr
  rw [List.getElem?_toArray, List.getElem?_append_right (by simp <;> omega), List.getElem?_append_right (by rw [Cmd.le h]; simp <;> omega), List.getElem?_append_left (by rw [Cmd.le h]; simp <;> omega), Cmd.le h]
  congr 1
  simp <;> omega
theorem Cmd.getP (h : c.wf) (j : Nat) (hj : j < 26) : (c.arr A n)[35 + j]? = c.p.arr[j]? := by
  unfold Cmd.arr
  rw [List.getElem?_toArray, List.getElem?_append_right (by simp <;> omega), List.getElem?_append_right (by rw [Cmd.le h]; simp <;> omega), List.getElem?_append_right (by rw [Cmd.le h]; simp <;> omega), List.getElem?_append_left (by rw [Cmd.le h, Cmd.lp h]; simp <;> omega), Cmd.le h, Array.getElem?_toList]
  congr 1
  simp <;> omega
theorem Cmd.getF (h : c.wf) (j : Nat) (hj : j < 2) : (c.arr A n)[61 + j]? = ([.slice A c.f.length n, .int .u32 c.mask] : List Value)[j]? := by
  unfold Cmd.arr
  rw [List.getElem?_toArray, List.getElem?_append_right (by simp <;> omega), List.getElem?_append_right (by rw [Cmd.le h]; simp <;> omega), List.getElem?_append_right (by rw [Cmd.le h]; simp <;> omega), List.getElem?_append_right (by rw [Cmd.le h, Cmd.lp h]; simp <;> omega), Cmd.le h, Cmd.lp h]
  congr 1
  simp <;> omega
theorem Cmd.eq_of {d : Cmd} {B : Option Addr} {m : Nat} {X : Array Value} (hd : d.wf) (hs : X.size = 63) (h0 : X[0]? = some (.int .i64 d.kind)) (hE : ∀ j, j < 29 → X[1 + j]? = d.e.arr[j]?) (hI : ∀ j, j < 5 → X[30 + j]? = ([.int .i64 d.dev, .int .i64 d.req, .int .i64 d.id, .int .i64 d.base, .int .i64 d.keep] : List Value)[j]?)
    (hP : ∀ j, j < 26 → X[35 + j]? = d.p.arr[j]?) (hF : ∀ j, j < 2 → X[61 + j]? = ([.slice B d.f.length m, .int .u32 d.mask] : List Value)[j]?) : X = d.arr B m := by
  apply Array.ext_getElem?
  intro i
  by_cases h1 : i = 0
  · rw [h1, h0, Cmd.get0]
  by_cases h2 : i < 30
  · have := hE (i - 1) (by omega)
    rw [← Cmd.getE hd (A := B) (n := m) (i - 1) (by omega), show 1 + (i - 1) = i by omega] at this
    exact this
  by_cases h3 : i < 35
  · have := hI (i - 30) (by omega)
    rw [← Cmd.getI hd (A := B) (n := m) (i - 30) (by omega), show 30 + (i - 30) = i by omega] at this
    exact this
  by_cases h4 : i < 61
  · have := hP (i - 35) (by omega)
    rw [← Cmd.getP hd (A := B) (n := m) (i - 35) (by omega), show 35 + (i - 35) = i by omega] at this
    exact this
  by_cases h5 : i < 63
  · have := hF (i - 61) (by omega)
    rw [← Cmd.getF hd (A := B) (n := m) (i - 61) (by omega), show 61 + (i - 61) = i by omega] at this
    exact this
  · rw [Array.getElem?_eq_none (by omega), Array.getElem?_eq_none (by rw [Cmd.arr_size hd]; omega)]
theorem set_at {X : Array Value} {k : Nat} {v : Value} (i : Nat) (hk : k < X.size) : (X.setIfInBounds k v)[i]? = if i = k then some v else X[i]? := by
  by_cases h : i = k
  · rw [if_pos h, h, Array.getElem?_setIfInBounds_self_of_lt hk]
  · rw [if_neg h, Array.getElem?_setIfInBounds_ne (fun e => h e.symm)]
/-- One of the five numbers is stored. -/
theorem Cmd.setI (h : c.wf) (k : Nat) (hk : k < 5) (v : Int) : (c.arr A n).setIfInBounds (30 + k) (.int .i64 v) =
    Cmd.arr { c with dev := if k = 0 then v else c.dev, req := if k = 1 then v else c.req, id := if k = 2 then v else c.id, base := if k = 3 then v else c.base, keep := if k = 4 then v else c.keep } A n := by
  have hs := Cmd.arr_size h (A := A) (n := n)
  refine Cmd.eq_of ⟨h.e, h.p⟩ (by rw [Array.size_setIfInBounds, hs]) ?_ ?_ ?_ ?_ ?_
  · rw [set_at _ (by omega), if_neg (by omega)]; exact Cmd.get0
  · intro j hj; rw [set_at _ (by omega), if_neg (by omega)]; exact Cmd.getE h j hj
  · intro j hj
    rw [set_at _ (by omega)]
    by_cases e : j = k
    · subst e
      rw [if_pos rfl]
      have : j = 0 ∨ j = 1 ∨ j = 2 ∨ j = 3 ∨ j = 4 := by omega
      rcases this with rfl | rfl | rfl | rfl | rfl <;> rfl
    · rw [if_neg (by omega), Cmd.getI h j hj]
      have h1 : j = 0 ∨ j = 1 ∨ j = 2 ∨ j = 3 ∨ j = 4 := by omega
      have h2 : k = 0 ∨ k = 1 ∨ k = 2 ∨ k = 3 ∨ k = 4 := by omega
      rcases h1 with rfl | rfl | rfl | rfl | rfl <;> rcases h2 with rfl | rfl | rfl | rfl | rfl <;> first | rfl | exact absurd rfl e
  · intro j hj; rw [set_at _ (by omega), if_neg (by omega)]; exact Cmd.getP h j hj
  · intro j hj; rw [set_at _ (by omega), if_neg (by omega)]; exact Cmd.getF h j hj
theorem Cmd.setF (h : c.wf) (B : Option Addr) (l : List Node) (m : Nat) : (c.arr A n).setIfInBounds 61 (.slice B l.length m) = Cmd.arr { c with f := l } B m := by
  have hs := Cmd.arr_size h (A := A) (n := n)
  refine Cmd.eq_of ⟨h.e, h.p⟩ (by rw [Array.size_setIfInBounds, hs]) ?_ ?_ ?_ ?_ ?_
  · rw [set_at _ (by omega), if_neg (by omega)]; exact Cmd.get0
  · intro j hj; rw [set_at _ (by omega), if_neg (by omega)]; exact Cmd.getE h j hj
  · intro j hj; rw [set_at _ (by omega), if_neg (by omega)]; exact Cmd.getI h j hj
  · intro j hj; rw [set_at _ (by omega), if_neg (by omega)]; exact Cmd.getP h j hj
  · intro j hj
    rw [set_at _ (by omega)]
    have : j = 0 ∨ j = 1 := by omega
    rcases this with rfl | rfl
    · rw [if_pos rfl]; rfl
    · rw [if_neg (by omega)]; exact Cmd.getF h 1 (by omega)
theorem Cmd.setM (h : c.wf) (v : Nat) : (c.arr A n).setIfInBounds 62 (.int .u32 v) = Cmd.arr { c with mask := v } A n := by
  have hs := Cmd.arr_size h (A := A) (n := n)
  refine Cmd.eq_of ⟨h.e, h.p⟩ (by rw [Array.size_setIfInBounds, hs]) ?_ ?_ ?_ ?_ ?_
  · rw [set_at _ (by omega), if_neg (by omega)]; exact Cmd.get0
  · intro j hj; rw [set_at _ (by omega), if_neg (by omega)]; exact Cmd.getE h j hj
  · intro j hj; rw [set_at _ (by omega), if_neg (by omega)]; exact Cmd.getI h j hj
  · intro j hj; rw [set_at _ (by omega), if_neg (by omega)]; exact Cmd.getP h j hj
  · intro j hj
    rw [set_at _ (by omega)]
    have : j = 0 ∨ j = 1 := by omega
    rcases this with rfl | rfl
    · rw [if_neg (by omega)]; exact Cmd.getF h 0 (by omega)
    · rw [if_pos rfl]; rfl
theorem Cmd.putE (h : c.wf) (e : Edit) (he : e.p.f.length = 8) : putAt (c.arr A n) 1 e.arr.toList = Cmd.arr { c with e := e } A n := by
  have hs := Cmd.arr_size h (A := A) (n := n)
  have hl : e.arr.toList.length = 29 := by rw [Array.length_toList, Edit.arr_size, he]
  refine Cmd.eq_of ⟨he, h.p⟩ (by rw [putAt_size, hs]) ?_ ?_ ?_ ?_ ?_
  · rw [putAt_far _ _ _ _ (by omega)]; exact Cmd.get0
  · intro j hj; rw [putAt_in _ _ _ _ (by omega) (by omega), Array.getElem?_toList]
  · intro j hj; rw [putAt_far _ _ _ _ (by omega)]; exact Cmd.getI h j hj
  · intro j hj; rw [putAt_far _ _ _ _ (by omega)]; exact Cmd.getP h j hj
  · intro j hj; rw [putAt_far _ _ _ _ (by omega)]; exact Cmd.getF h j hj
theorem Cmd.putP (h : c.wf) (p : Patch) (hp : p.f.length = 8) : putAt (c.arr A n) 35 p.arr.toList = Cmd.arr { c with p := p } A n := by
  have hs := Cmd.arr_size h (A := A) (n := n)
  have hl : p.arr.toList.length = 26 := by rw [Array.length_toList, Patch.arr_size, hp]
  refine Cmd.eq_of ⟨h.e, hp⟩ (by rw [putAt_size, hs]) ?_ ?_ ?_ ?_ ?_
  · rw [putAt_far _ _ _ _ (by omega)]; exact Cmd.get0
  · intro j hj; rw [putAt_far _ _ _ _ (by omega)]; exact Cmd.getE h j hj
  · intro j hj; rw [putAt_far _ _ _ _ (by omega)]; exact Cmd.getI h j hj
  · intro j hj; rw [putAt_in _ _ _ _ (by omega) (by omega), Array.getElem?_toList]
  · intro j hj; rw [putAt_far _ _ _ _ (by omega)]; exact Cmd.getF h j hj
/-- A command's cells. -/
theorem cmd_cells {w : World} {g : Nat} (h : c.wf) (hb : Blk w g (c.arr A n)) :
    w.cell? ⟨g, 0, none⟩ = some (.int .i64 c.kind) ∧ w.cell? ⟨g, 30, none⟩ = some (.int .i64 c.dev) ∧ w.cell? ⟨g, 31, none⟩ = some (.int .i64 c.req) ∧ w.cell? ⟨g, 32, none⟩ = some (.int .i64 c.id) ∧ w.cell? ⟨g, 33, none⟩ = some (.int .i64 c.base) ∧
    w.cell? ⟨g, 34, none⟩ = some (.int .i64 c.keep) ∧ w.cell? ⟨g, 61, none⟩ = some (.slice A c.f.length n) ∧ w.cell? ⟨g, 62, none⟩ = some (.int .u32 c.mask) :=
  ⟨hb.cell Cmd.get0, hb.cell (Cmd.getI h 0 (by omega)), hb.cell (Cmd.getI h 1 (by omega)), hb.cell (Cmd.getI h 2 (by omega)), hb.cell (Cmd.getI h 3 (by omega)), hb.cell (Cmd.getI h 4 (by omega)), hb.cell (Cmd.getF h 0 (by omega)), hb.cell (Cmd.getF h 1 (by omega))⟩
theorem cmd_edit {w : World} {g : Nat} (h : c.wf) (hb : Blk w g (c.arr A n)) (j : Nat) (u : Value) (hu : c.e.arr[j]? = some u) : w.cell? ⟨g, 1 + j, none⟩ = some u := by
  have hj : j < c.e.arr.size := (Array.getElem?_eq_some_iff.1 hu).1
  rw [Edit.arr_size, h.e] at hj
  exact hb.cell (by rw [Cmd.getE h j (by omega)]; exact hu)
theorem cmd_patch {w : World} {g : Nat} (h : c.wf) (hb : Blk w g (c.arr A n)) (j : Nat) (u : Value) (hu : c.p.arr[j]? = some u) : w.cell? ⟨g, 35 + j, none⟩ = some u := by
  have hj : j < c.p.arr.size := (Array.getElem?_eq_some_iff.1 hu).1
  rw [Patch.arr_size, h.p] at hj
  exact hb.cell (by rw [Cmd.getP h j (by omega)]; exact hu)
theorem Cmd.arr_one (_h : c.wf) : ∀ v ∈ (c.arr A n).toList, v.oneCell' = true := by
  intro v hv
  unfold Cmd.arr at hv
  simp only [List.mem_append, List.mem_cons, List.not_mem_nil, or_false] at hv
  rcases hv with rfl | hv | (rfl | rfl | rfl | rfl | rfl) | hv | (rfl | rfl)
  all_goals first
    | rfl
    | (exact Edit.arr_one c.e v hv)
    | (exact Patch.arr_one c.p v hv)
end
end Go.Proofs.YtjhndilflcigiaaDoor
namespace Go.Proofs.YtjhndilflcigiaaDoor
open Go.RowKit

theorem i64_or_zero {x y : Int} (hx : -9223372036854775808 ≤ x ∧ x ≤ 9223372036854775807) (hy : -9223372036854775808 ≤ y ∧ y ≤ 9223372036854775807) : bits .or .i64 x y = 0 ↔ x = 0 ∧ y = 0 := by
  have key : (BitVec.ofInt 64 x ||| BitVec.ofInt 64 y).toNat = (x % ((2 ^ 64 : Nat) : Int)).toNat ||| (y % ((2 ^ 64 : Nat) : Int)).toNat := by
    rw [BitVec.toNat_or, BitVec.toNat_ofInt, BitVec.toNat_ofInt]
  have hlt : (BitVec.ofInt 64 x ||| BitVec.ofInt 64 y).toNat < 2 ^ 64 := BitVec.isLt _
  show IntKind.i64.wrap ((BitVec.ofInt 64 x ||| BitVec.ofInt 64 y).toNat : Nat) = 0 ↔ _
  rw [IntKind.wrap_i64]
  have h0 : (BitVec.ofInt 64 x ||| BitVec.ofInt 64 y).toNat = 0 ↔ x = 0 ∧ y = 0 := by
    rw [key, Nat.or_eq_zero_iff]
    omega
  rw [← h0]
  omega
theorem i64_or_rng (x y : Int) : -9223372036854775808 ≤ bits .or .i64 x y ∧ bits .or .i64 x y ≤ 9223372036854775807 := by
  show -9223372036854775808 ≤ IntKind.i64.wrap ((BitVec.ofInt 64 x ||| BitVec.ofInt 64 y).toNat : Nat) ∧ IntKind.i64.wrap ((BitVec.ofInt 64 x ||| BitVec.ofInt 64 y).toNat : Nat) ≤ 9223372036854775807
  rw [IntKind.wrap_i64]
  omega
def I6 (n : Int) : Prop := -9223372036854775808 ≤ n ∧ n ≤ 9223372036854775807
structure Cmd.rng (c : Cmd) : Prop where
  dev : I6 c.dev
  req : I6 c.req
  id : I6 c.id
  base : I6 c.base
  keep : I6 c.keep
def Cmd.numZ (c : Cmd) : Bool := decide (c.dev = 0 ∧ c.req = 0 ∧ c.id = 0 ∧ c.base = 0 ∧ c.keep = 0)
theorem Cmd.or_zero {c : Cmd} (h : c.rng) : (bits .or .i64 (bits .or .i64 (bits .or .i64 (bits .or .i64 c.dev c.req) c.id) c.base) c.keep == 0) = c.numZ := by
  rw [Bool.eq_iff_iff]
  unfold Cmd.numZ
  simp only [beq_iff_eq, decide_eq_true_eq]
  rw [i64_or_zero (i64_or_rng _ _) h.keep, i64_or_zero (i64_or_rng _ _) h.base, i64_or_zero (i64_or_rng _ _) h.id, i64_or_zero h.dev h.req]
  simp only [and_assoc]
theorem Cmd.bare_eq (c : Cmd) : c.bare = (c.numZ && (decide (c.e = ez) && (decide (c.p = pz) && (decide (c.f.length = 0) && decide (c.mask = 0))))) := by
  unfold Cmd.bare Cmd.numZ Cmd.eZ Cmd.pZ Cmd.fZ
  rw [Bool.eq_iff_iff]
  simp only [Bool.and_eq_true, decide_eq_true_eq, List.length_eq_zero_iff]
theorem beq_zi (n : Int) : (n == 0) = decide (n = 0) := by rw [Bool.eq_iff_iff]; simp
set_option maxHeartbeats 4000000 in
set_option maxRecDepth 4000 in
theorem c_core_bare (c : Cmd) (A : Option Addr) (n : Nat) (w : World) (hwf : c.wf) (hr : c.rng) : Calls Tryd.prog 89 #[.agg (c.arr A n)] w (RetV w (.bool c.bare)) := by
  rw [Cmd.bare_eq]
  have B0 := Lib.hid (At.new w 32 (c.arr A n))
  have hw := Lib.hid hwf
  have k0 := Cmd.or_zero hr
  obtain ⟨q0, q1, q2, q3, q4, q5, q6, q7⟩ := cmd_cells hw.out B0.out.2
  clear hwf hr
  cases hz : c.numZ
  case false =>
    rw [hz] at k0
    clear hz
    go_enter Tryd.func89, Tryd.ntmps89
    go_wp2_with (fail)
    go_ret
    exact RetV.bool rfl B0.out.1
  case true =>
    rw [hz] at k0
    clear hz
    cases he : decide (c.e = ez)
    case false =>
      have EE := Lib.hid he
      clear he
      go_enter Tryd.func89, Tryd.ntmps89
      go_wp2_with (with_reducible refine stop_loadG 29 (.tmp 21) rfl ?_)
      refine Stop.mk (wpList_loadAtG (by rfl) _ _ rfl w.heap.size 1 rfl c.e.arr (cmd_edit hw.out B0.out.2) strE (by rw [Edit.arr_size, hw.out.e]) ?_)
      go_wp2_with (with_reducible refine stop_bin .eql 29 (.tmp 22) (.tmp 23) 29 rfl ?_)
      refine Stop.mk (wpList_eqlS (by rfl) _ _ _ _ rfl c.e.arr ez.arr rfl (by rw [ez_cells]; rfl) gE false ((eq_edit hw.out.e rfl 9995 _).trans (by rw [EE.out])) ?_)
      go_wp2_with (fail)
      go_ret
      exact RetV.bool rfl B0.out.1
    case true =>
      have EE := Lib.hid he
      clear he
      cases hp : decide (c.p = pz)
      all_goals
        have EP := Lib.hid hp
        clear hp
        go_enter Tryd.func89, Tryd.ntmps89
        go_wp2_with (with_reducible refine stop_loadG 29 (.tmp 21) rfl ?_)
        refine Stop.mk (wpList_loadAtG (by rfl) _ _ rfl w.heap.size 1 rfl c.e.arr (cmd_edit hw.out B0.out.2) strE (by rw [Edit.arr_size, hw.out.e]) ?_)
        go_wp2_with (with_reducible refine stop_bin .eql 29 (.tmp 22) (.tmp 23) 29 rfl ?_)
        refine Stop.mk (wpList_eqlS (by rfl) _ _ _ _ rfl c.e.arr ez.arr rfl (by rw [ez_cells]; rfl) gE true ((eq_edit hw.out.e rfl 9995 _).trans (by rw [EE.out])) ?_)
        go_wp2_with (with_reducible refine stop_loadG 27 (.tmp 27) rfl ?_)
        refine Stop.mk (wpList_loadAtG (by rfl) _ _ rfl w.heap.size 35 rfl c.p.arr (cmd_patch hw.out B0.out.2) strP (by rw [Patch.arr_size, hw.out.p]) ?_)
        go_wp2_with (with_reducible refine stop_bin .eql 27 (.tmp 28) (.tmp 29) 27 rfl ?_)
        refine Stop.mk (wpList_eqlS (by rfl) _ _ _ _ rfl c.p.arr pz.arr rfl (by rw [pz_cells]; rfl) gP _ ((eq_patch hw.out.p rfl 9996 _).trans (by rw [EP.out])) ?_)
        go_wp2_with (fail)
        all_goals
          go_ret
          refine RetV.bool ?_ B0.out.1
          simp_all [beq_zi]
end Go.Proofs.YtjhndilflcigiaaDoor
namespace Go.Proofs.YtjhndilflcigiaaDoor
open Go.RowKit

theorem c_edit_Check (e : Edit) (w : World) (hf : e.p.f.length = 8) (hs : ∀ x ∈ e.p.f, x.s.length ≤ 4294967000) (hm : e.p.mask < 4294967296) : Calls Tryd.prog 90 #[.agg e.arr] w (RetV w (.int .i64 e.code)) := by
  by_cases hk : 1 ≤ e.kind ∧ e.kind ≤ 7
  · by_cases hg : e.gOk = true
    · by_cases hi : e.iOk = true
      · exact edit_Check_p e w hf hs hm hk.1 hk.2 hg hi
      · exact edit_Check_i e w hk.1 hk.2 hg hi
    · exact edit_Check_g e w hk.1 hk.2 hg
  · exact edit_Check_kind e w hk
theorem Edit.size {e : Edit} (hf : e.p.f.length = 8) : e.arr.size = 29 := by rw [Edit.arr_size, hf]
end Go.Proofs.YtjhndilflcigiaaDoor
