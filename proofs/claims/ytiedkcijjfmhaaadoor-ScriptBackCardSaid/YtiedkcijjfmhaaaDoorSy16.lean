/-
  Lemmas (walks and plain laws), in one text.
-/
import Derived.Test.YtiedkcijjfmhaaaDoorSy1
import Derived.Test.YtiedkcijjfmhaaaDoorSy2
import Derived.Test.YtiedkcijjfmhaaaDoorSy7
import Derived.Test.YtiedkcijjfmhaaaDoorSy8
import Derived.Test.YtiedkcijjfmhaaaDoorSy9
import Derived.Test.YtiedkcijjfmhaaaDoorSy15
namespace Go.Proofs.YtiedkcijjfmhaaaDoor
open Go.RowKit

@[irreducible] def Cmd.arr (c : Cmd) (A : Option Addr) (n : Nat) : Array Value :=
  (([.int .i64 c.kind] : List Value) ++ (c.e.arr.toList ++ (([.int .i64 c.dev, .int .i64 c.req, .int .i64 c.id, .int .i64 c.base, .int .i64 c.keep] : List Value) ++ (c.p.arr.toList ++ ([.slice A c.f.length n, .int .u32 c.mask] : List Value))))).toArray
structure Cmd.wf (c : Cmd) : Prop where
  e : c.e.p.f.length = 8
  p : c.p.f.length = 8
section
variable {c : Cmd} {A : Option Addr} {n : Nat}
theorem Cmd.le (h : c.wf) : c.e.arr.toList.length = 29 := by rw [Array.length_toList, Edit.arr_size, h.e]
theorem Cmd.lp (h : c.wf) : c.p.arr.toList.length = 26 := by rw [Array.length_toList, Patch.arr_size, h.p]
theorem Cmd.arr_size (h : c.wf) : (c.arr A n).size = 63 := by
  unfold Cmd.arr
  simp only [List.size_toArray, List.length_append, List.length_cons, List.length_nil, Cmd.le h, Cmd.lp h]
theorem Cmd.get0 : (c.arr A n)[0]? = some (.int .i64 c.kind) := by unfold Cmd.arr; rfl
theorem Cmd.getE (h : c.wf) (j : Nat) (hj : j < 29) : (c.arr A n)[1 + j]? = c.e.arr[j]? := by
  unfold Cmd.arr
  rw [List.getElem?_toArray, List.getElem?_append_right (by simp), List.getElem?_append_left (by rw [Cmd.le h]; simp <;> omega)]
  simp
theorem Cmd.getI (h : c.wf) (j : Nat) (hj : j < 5) : (c.arr A n)[30 + j]? = ([.int .i64 c.dev, .int .i64 c.req, .int .i64 c.id, .int .i64 c.base, .int .i64 c.keep] : List Value)[j]? := by
  unfold Cmd.arr
  rw [List.getElem?_toArray, List.getElem?_append_right (by simp <;> omega), List.getElem?_append_right (by rw [Cmd.le h]; simp <;> omega), List.getElem?_append_left (by rw [Cmd.le h]; simp <;> omega), Cmd.le h]
  congr 1
  simp <;> omega
theorem Cmd.getP (h : c.wf) (j : Nat) (hj : j < 26) : (c.arr A n)[35 + j]? = c.p.arr[j]? := by
  unfold Cmd.arr
  rw [List.getElem?_toArray, List.getElem?_append_right (by simp <;> omega), List.getElem?_append_right (by rw [Cmd.le h]; simp <;> omega), List.getElem?_append_right (by rw [Cmd.le h]; simp <;> omega), List.getElem?_append_left (by rw [Cmd.le h, Cmd.lp h]; simp <;> omega), Cmd.le h, Array.getElem?_toList]
  congr 1
  simp <;> omega
theorem Cmd.getF (h : c.wf) (j : Nat) (hj : j < 2) : (c.arr A n)[61 + j]? = ([.slice A c.f.length n, .int .u32 c.mask] : List Value)[j]? := by
  unfold Cmd.arr
  rw [List.getElem?_toArray, List.getElem?_append_right (by simp <;> omega), List.getElem?_append_right (by rw [Cmd.le h]; simp <;> omega), List.getElem?_append_right (by rw [Cmd.le h]; simp <;> omega), List.getElem?_append_right (by rw [Cmd.le h, Cmd.lp h]; simp <;> omega), Cmd.le h, Cmd.lp h]
  congr 1
  simp <;> omega
theorem Cmd.eq_of {d : Cmd} {B : Option Addr} {m : Nat} {X : Array Value} (hd : d.wf) (hs : X.size = 63) (h0 : X[0]? = some (.int .i64 d.kind)) (hE : ∀ j, j < 29 → X[1 + j]? = d.e.arr[j]?) (hI : ∀ j, j < 5 → X[30 + j]? = ([.int .i64 d.dev, .int .i64 d.req, .int .i64 d.id, .int .i64 d.base, .int .i64 d.keep] : List Value)[j]?)
    (hP : ∀ j, j < 26 → X[35 + j]? = d.p.arr[j]?) (hF : ∀ j, j < 2 → X[61 + j]? = ([.slice B d.f.length m, .int .u32 d.mask] : List Value)[j]?) : X = d.arr B m := by
  apply Array.ext_getElem?
  intro i
  by_cases h1 : i = 0
  · rw [h1, h0, Cmd.get0]
  by_cases h2 : i < 30
  · have := hE (i - 1) (by omega)
    rw [← Cmd.getE hd (A := B) (n := m) (i - 1) (by omega), show 1 + (i - 1) = i by omega] at this
    exact this
  by_cases h3 : i < 35
  · have := hI (i - 30) (by omega)
    rw [← Cmd.getI hd (A := B) (n := m) (i - 30) (by omega), show 30 + (i - 30) = i by omega] at this
    exact this
  by_cases h4 : i < 61
  · have := hP (i - 35) (by omega)
    rw [← Cmd.getP hd (A := B) (n := m) (i - 35) (by omega), show 35 + (i - 35) = i by omega] at this
    exact this
  by_cases h5 : i < 63
  · have := hF (i - 61) (by omega)
    rw [← Cmd.getF hd (A := B) (n := m) (i - 61) (by omega), show 61 + (i - 61) = i by omega] at this
    exact this
  · rw [Array.getElem?_eq_none (by omega), Array.getElem?_eq_none (by rw [Cmd.arr_size hd]; omega)]
theorem set_at {X : Array Value} {k : Nat} {v : Value} (i : Nat) (hk : k < X.size) : (X.setIfInBounds k v)[i]? = if i = k then some v else X[i]? := by
  by_cases h : i = k
  · rw [if_pos h, h, Array.getElem?_setIfInBounds_self_of_lt hk]
  · rw [if_neg h, Array.getElem?_setIfInBounds_ne (fun e => h e.symm)]
theorem Cmd.setI (h : c.wf) (k : Nat) (hk : k < 5) (v : Int) : (c.arr A n).setIfInBounds (30 + k) (.int .i64 v) =
    Cmd.arr { c with dev := if k = 0 then v else c.dev, req := if k = 1 then v else c.req, id := if k = 2 then v else c.id, base := if k = 3 then v else c.base, keep := if k = 4 then v else c.keep } A n := by
  have hs := Cmd.arr_size h (A := A) (n := n)
  refine Cmd.eq_of ⟨h.e, h.p⟩ (by rw [Array.size_setIfInBounds, hs]) ?_ ?_ ?_ ?_ ?_
  · rw [set_at _ (by omega), if_neg (by omega)]; exact Cmd.get0
  · intro j hj; rw [set_at _ (by omega), if_neg (by omega)]; exact Cmd.getE h j hj
  · intro j hj
    rw [set_at _ (by omega)]
    by_cases e : j = k
    · subst e
      rw [if_pos rfl]
      have : j = 0 ∨ j = 1 ∨ j = 2 ∨ j = 3 ∨ j = 4 := by omega
      rcases this with rfl | rfl | rfl | rfl | rfl <;> rfl
    · rw [if_neg (by omega), Cmd.getI h j hj]
      have h1 : j = 0 ∨ j = 1 ∨ j = 2 ∨ j = 3 ∨ j = 4 := by omega
      have h2 : k = 0 ∨ k = 1 ∨ k = 2 ∨ k = 3 ∨ k = 4 := by omega
      rcases h1 with rfl | rfl | rfl | rfl | rfl <;> rcases h2 with rfl | rfl | rfl | rfl | rfl <;> first | rfl | exact absurd rfl e
  · intro j hj; rw [set_at _ (by omega), if_neg (by omega)]; exact Cmd.getP h j hj
  · intro j hj; rw [set_at _ (by omega), if_neg (by omega)]; exact Cmd.getF h j hj
theorem Cmd.setK (h : c.wf) (v : Int) : (c.arr A n).setIfInBounds 0 (.int .i64 v) = Cmd.arr { c with kind := v } A n := by
  have hs := Cmd.arr_size h (A := A) (n := n)
  refine Cmd.eq_of ⟨h.e, h.p⟩ (by rw [Array.size_setIfInBounds, hs]) ?_ ?_ ?_ ?_ ?_
  · rw [set_at _ (by omega), if_pos rfl]
  · intro j hj; rw [set_at _ (by omega), if_neg (by omega)]; exact Cmd.getE h j hj
  · intro j hj; rw [set_at _ (by omega), if_neg (by omega)]; exact Cmd.getI h j hj
  · intro j hj; rw [set_at _ (by omega), if_neg (by omega)]; exact Cmd.getP h j hj
  · intro j hj; rw [set_at _ (by omega), if_neg (by omega)]; exact Cmd.getF h j hj
theorem Cmd.setF (h : c.wf) (B : Option Addr) (l : List Node) (m : Nat) : (c.arr A n).setIfInBounds 61 (.slice B l.length m) = Cmd.arr { c with f := l } B m := by
  have hs := Cmd.arr_size h (A := A) (n := n)
  refine Cmd.eq_of ⟨h.e, h.p⟩ (by rw [Array.size_setIfInBounds, hs]) ?_ ?_ ?_ ?_ ?_
  · rw [set_at _ (by omega), if_neg (by omega)]; exact Cmd.get0
  · intro j hj; rw [set_at _ (by omega), if_neg (by omega)]; exact Cmd.getE h j hj
  · intro j hj; rw [set_at _ (by omega), if_neg (by omega)]; exact Cmd.getI h j hj
  · intro j hj; rw [set_at _ (by omega), if_neg (by omega)]; exact Cmd.getP h j hj
  · intro j hj
    rw [set_at _ (by omega)]
    have : j = 0 ∨ j = 1 := by omega
    rcases this with rfl | rfl
    · rw [if_pos rfl]; rfl
    · rw [if_neg (by omega)]; exact Cmd.getF h 1 (by omega)
theorem Cmd.setM (h : c.wf) (v : Nat) : (c.arr A n).setIfInBounds 62 (.int .u32 v) = Cmd.arr { c with mask := v } A n := by
  have hs := Cmd.arr_size h (A := A) (n := n)
  refine Cmd.eq_of ⟨h.e, h.p⟩ (by rw [Array.size_setIfInBounds, hs]) ?_ ?_ ?_ ?_ ?_
  · rw [set_at _ (by omega), if_neg (by omega)]; exact Cmd.get0
  · intro j hj; rw [set_at _ (by omega), if_neg (by omega)]; exact Cmd.getE h j hj
  · intro j hj; rw [set_at _ (by omega), if_neg (by omega)]; exact Cmd.getI h j hj
  · intro j hj; rw [set_at _ (by omega), if_neg (by omega)]; exact Cmd.getP h j hj
  · intro j hj
    rw [set_at _ (by omega)]
    have : j = 0 ∨ j = 1 := by omega
    rcases this with rfl | rfl
    · rw [if_neg (by omega)]; exact Cmd.getF h 0 (by omega)
    · rw [if_pos rfl]; rfl
theorem Cmd.putE (h : c.wf) (e : Edit) (he : e.p.f.length = 8) : putAt (c.arr A n) 1 e.arr.toList = Cmd.arr { c with e := e } A n := by
  have hs := Cmd.arr_size h (A := A) (n := n)
  have hl : e.arr.toList.length = 29 := by rw [Array.length_toList, Edit.arr_size, he]
  refine Cmd.eq_of ⟨he, h.p⟩ (by rw [putAt_size, hs]) ?_ ?_ ?_ ?_ ?_
  · rw [putAt_far _ _ _ _ (by omega)]; exact Cmd.get0
  · intro j hj; rw [putAt_in _ _ _ _ (by omega) (by omega), Array.getElem?_toList]
  · intro j hj; rw [putAt_far _ _ _ _ (by omega)]; exact Cmd.getI h j hj
  · intro j hj; rw [putAt_far _ _ _ _ (by omega)]; exact Cmd.getP h j hj
  · intro j hj; rw [putAt_far _ _ _ _ (by omega)]; exact Cmd.getF h j hj
theorem Cmd.putP (h : c.wf) (p : Patch) (hp : p.f.length = 8) : putAt (c.arr A n) 35 p.arr.toList = Cmd.arr { c with p := p } A n := by
  have hs := Cmd.arr_size h (A := A) (n := n)
  have hl : p.arr.toList.length = 26 := by rw [Array.length_toList, Patch.arr_size, hp]
  refine Cmd.eq_of ⟨h.e, hp⟩ (by rw [putAt_size, hs]) ?_ ?_ ?_ ?_ ?_
  · rw [putAt_far _ _ _ _ (by omega)]; exact Cmd.get0
  · intro j hj; rw [putAt_far _ _ _ _ (by omega)]; exact Cmd.getE h j hj
  · intro j hj; rw [putAt_far _ _ _ _ (by omega)]; exact Cmd.getI h j hj
  · intro j hj; rw [putAt_in _ _ _ _ (by omega) (by omega), Array.getElem?_toList]
  · intro j hj; rw [putAt_far _ _ _ _ (by omega)]; exact Cmd.getF h j hj
theorem Cmd.arr_one (_h : c.wf) : ∀ v ∈ (c.arr A n).toList, v.oneCell' = true := by
  intro v hv
  unfold Cmd.arr at hv
  simp only [List.mem_append, List.mem_cons, List.not_mem_nil, or_false] at hv
  rcases hv with rfl | hv | (rfl | rfl | rfl | rfl | rfl) | hv | (rfl | rfl)
  all_goals first
    | rfl
    | (exact Edit.arr_one c.e v hv)
    | (exact Patch.arr_one c.p v hv)
end
open Go.RowKit

structure Where where
  A : Option Addr
  n : Nat
  K : Option Addr
  m : Nat
abbrev wz : Where := ⟨none, 0, none, 0⟩
@[irreducible] def Deed.arr (o : Deed) (q : Where) : Array Value :=
  (([.int .i64 o.kind, .int .i64 o.n, .int .i64 o.dev, .int .i64 o.id] : List Value) ++ (o.e.arr.toList ++ (([.slice q.A o.f.length q.n, .int .u32 o.mask] : List Value) ++ (o.p.arr.toList ++ ([.slice q.K o.keep.length q.m, .string (str o.text)] : List Value))))).toArray
structure Deed.wf (o : Deed) : Prop where
  e : o.e.p.f.length = 8
  p : o.p.f.length = 8
theorem dz_wf : dz.wf := ⟨rfl, rfl⟩
section
variable {o : Deed} {q : Where}
theorem Deed.le (h : o.wf) : o.e.arr.toList.length = 29 := by rw [Array.length_toList, Edit.arr_size, h.e]
theorem Deed.lp (h : o.wf) : o.p.arr.toList.length = 26 := by rw [Array.length_toList, Patch.arr_size, h.p]
theorem Deed.arr_size (h : o.wf) : (o.arr q).size = 63 := by
  unfold Deed.arr
  simp only [List.size_toArray, List.length_append, List.length_cons, List.length_nil, Deed.le h, Deed.lp h]
theorem Deed.getI (j : Nat) (hj : j < 4) : (o.arr q)[j]? = ([.int .i64 o.kind, .int .i64 o.n, .int .i64 o.dev, .int .i64 o.id] : List Value)[j]? := by
  unfold Deed.arr
  rw [List.getElem?_toArray, List.getElem?_append_left (by simp <;> omega)]
theorem Deed.getE (h : o.wf) (j : Nat) (hj : j < 29) : (o.arr q)[4 + j]? = o.e.arr[j]? := by
  unfold Deed.arr
  rw [List.getElem?_toArray, List.getElem?_append_right (by simp <;> omega), List.getElem?_append_left (by rw [Deed.le h]; simp <;> omega)]
  simp
theorem Deed.getF (h : o.wf) (j : Nat) (hj : j < 2) : (o.arr q)[33 + j]? = ([.slice q.A o.f.length q.n, .int .u32 o.mask] : List Value)[j]? := by
  unfold Deed.arr
  rw [List.getElem?_toArray, List.getElem?_append_right (by simp <;> omega), List.getElem?_append_right (by rw [Deed.le h]; simp <;> omega), List.getElem?_append_left (by rw [Deed.le h]; simp <;> omega), Deed.le h]
  congr 1
  simp <;> omega
theorem Deed.getP (h : o.wf) (j : Nat) (hj : j < 26) : (o.arr q)[35 + j]? = o.p.arr[j]? := by
  unfold Deed.arr
  rw [List.getElem?_toArray, List.getElem?_append_right (by simp <;> omega), List.getElem?_append_right (by rw [Deed.le h]; simp <;> omega), List.getElem?_append_right (by rw [Deed.le h]; simp <;> omega), List.getElem?_append_left (by rw [Deed.le h, Deed.lp h]; simp <;> omega), Deed.le h, Array.getElem?_toList]
  congr 1
  simp <;> omega
theorem Deed.getK (h : o.wf) (j : Nat) (hj : j < 2) : (o.arr q)[61 + j]? = ([.slice q.K o.keep.length q.m, .string (str o.text)] : List Value)[j]? := by
  unfold Deed.arr
  rw [List.getElem?_toArray, List.getElem?_append_right (by simp <;> omega), List.getElem?_append_right (by rw [Deed.le h]; simp <;> omega), List.getElem?_append_right (by rw [Deed.le h]; simp <;> omega), List.getElem?_append_right (by rw [Deed.le h, Deed.lp h]; simp <;> omega), Deed.le h, Deed.lp h]
  congr 1
  simp <;> omega
theorem Deed.eq_of {d : Deed} {r : Where} {X : Array Value} (hd : d.wf) (hs : X.size = 63) (hI : ∀ j, j < 4 → X[j]? = ([.int .i64 d.kind, .int .i64 d.n, .int .i64 d.dev, .int .i64 d.id] : List Value)[j]?) (hE : ∀ j, j < 29 → X[4 + j]? = d.e.arr[j]?)
    (hF : ∀ j, j < 2 → X[33 + j]? = ([.slice r.A d.f.length r.n, .int .u32 d.mask] : List Value)[j]?) (hP : ∀ j, j < 26 → X[35 + j]? = d.p.arr[j]?) (hK : ∀ j, j < 2 → X[61 + j]? = ([.slice r.K d.keep.length r.m, .string (str d.text)] : List Value)[j]?) : X = d.arr r := by
  apply Array.ext_getElem?
  intro i
  by_cases h1 : i < 4
  · rw [hI i h1, Deed.getI i h1]
  by_cases h2 : i < 33
  · have := hE (i - 4) (by omega)
    rw [← Deed.getE hd (q := r) (i - 4) (by omega), show 4 + (i - 4) = i by omega] at this
    exact this
  by_cases h3 : i < 35
  · have := hF (i - 33) (by omega)
    rw [← Deed.getF hd (q := r) (i - 33) (by omega), show 33 + (i - 33) = i by omega] at this
    exact this
  by_cases h4 : i < 61
  · have := hP (i - 35) (by omega)
    rw [← Deed.getP hd (q := r) (i - 35) (by omega), show 35 + (i - 35) = i by omega] at this
    exact this
  by_cases h5 : i < 63
  · have := hK (i - 61) (by omega)
    rw [← Deed.getK hd (q := r) (i - 61) (by omega), show 61 + (i - 61) = i by omega] at this
    exact this
  · rw [Array.getElem?_eq_none (by omega), Array.getElem?_eq_none (by rw [Deed.arr_size hd]; omega)]
theorem Deed.setI (h : o.wf) (k : Nat) (hk : k < 4) (v : Int) : (o.arr q).setIfInBounds k (.int .i64 v) =
    Deed.arr { o with kind := if k = 0 then v else o.kind, n := if k = 1 then v else o.n, dev := if k = 2 then v else o.dev, id := if k = 3 then v else o.id } q := by
  have hs := Deed.arr_size h (q := q)
  refine Deed.eq_of ⟨h.e, h.p⟩ (by rw [Array.size_setIfInBounds, hs]) ?_ ?_ ?_ ?_ ?_
  · intro j hj
    rw [set_at _ (by omega)]
    by_cases e : j = k
    · subst e
      rw [if_pos rfl]
      have : j = 0 ∨ j = 1 ∨ j = 2 ∨ j = 3 := by omega
      rcases this with rfl | rfl | rfl | rfl <;> rfl
    · rw [if_neg (by omega), Deed.getI j hj]
      have h1 : j = 0 ∨ j = 1 ∨ j = 2 ∨ j = 3 := by omega
      have h2 : k = 0 ∨ k = 1 ∨ k = 2 ∨ k = 3 := by omega
      rcases h1 with rfl | rfl | rfl | rfl <;> rcases h2 with rfl | rfl | rfl | rfl <;> first | rfl | exact absurd rfl e
  · intro j hj; rw [set_at _ (by omega), if_neg (by omega)]; exact Deed.getE h j hj
  · intro j hj; rw [set_at _ (by omega), if_neg (by omega)]; exact Deed.getF h j hj
  · intro j hj; rw [set_at _ (by omega), if_neg (by omega)]; exact Deed.getP h j hj
  · intro j hj; rw [set_at _ (by omega), if_neg (by omega)]; exact Deed.getK h j hj
theorem Deed.setF (h : o.wf) (B : Option Addr) (l : List Node) (m : Nat) : (o.arr q).setIfInBounds 33 (.slice B l.length m) = Deed.arr { o with f := l } ⟨B, m, q.K, q.m⟩ := by
  have hs := Deed.arr_size h (q := q)
  refine Deed.eq_of ⟨h.e, h.p⟩ (by rw [Array.size_setIfInBounds, hs]) ?_ ?_ ?_ ?_ ?_
  · intro j hj; rw [set_at _ (by omega), if_neg (by omega)]; exact Deed.getI j hj
  · intro j hj; rw [set_at _ (by omega), if_neg (by omega)]; exact Deed.getE h j hj
  · intro j hj
    rw [set_at _ (by omega)]
    have : j = 0 ∨ j = 1 := by omega
    rcases this with rfl | rfl
    · rw [if_pos rfl]; rfl
    · rw [if_neg (by omega)]; exact Deed.getF h 1 (by omega)
  · intro j hj; rw [set_at _ (by omega), if_neg (by omega)]; exact Deed.getP h j hj
  · intro j hj; rw [set_at _ (by omega), if_neg (by omega)]; exact Deed.getK h j hj
theorem Deed.setM (h : o.wf) (v : Nat) : (o.arr q).setIfInBounds 34 (.int .u32 v) = Deed.arr { o with mask := v } q := by
  have hs := Deed.arr_size h (q := q)
  refine Deed.eq_of ⟨h.e, h.p⟩ (by rw [Array.size_setIfInBounds, hs]) ?_ ?_ ?_ ?_ ?_
  · intro j hj; rw [set_at _ (by omega), if_neg (by omega)]; exact Deed.getI j hj
  · intro j hj; rw [set_at _ (by omega), if_neg (by omega)]; exact Deed.getE h j hj
  · intro j hj
    rw [set_at _ (by omega)]
    have : j = 0 ∨ j = 1 := by omega
    rcases this with rfl | rfl
    · rw [if_neg (by omega)]; exact Deed.getF h 0 (by omega)
    · rw [if_pos rfl]; rfl
  · intro j hj; rw [set_at _ (by omega), if_neg (by omega)]; exact Deed.getP h j hj
  · intro j hj; rw [set_at _ (by omega), if_neg (by omega)]; exact Deed.getK h j hj
theorem Deed.setK (h : o.wf) (B : Option Addr) (l : List Int) (m : Nat) : (o.arr q).setIfInBounds 61 (.slice B l.length m) = Deed.arr { o with keep := l } ⟨q.A, q.n, B, m⟩ := by
  have hs := Deed.arr_size h (q := q)
  refine Deed.eq_of ⟨h.e, h.p⟩ (by rw [Array.size_setIfInBounds, hs]) ?_ ?_ ?_ ?_ ?_
  · intro j hj; rw [set_at _ (by omega), if_neg (by omega)]; exact Deed.getI j hj
  · intro j hj; rw [set_at _ (by omega), if_neg (by omega)]; exact Deed.getE h j hj
  · intro j hj; rw [set_at _ (by omega), if_neg (by omega)]; exact Deed.getF h j hj
  · intro j hj; rw [set_at _ (by omega), if_neg (by omega)]; exact Deed.getP h j hj
  · intro j hj
    rw [set_at _ (by omega)]
    have : j = 0 ∨ j = 1 := by omega
    rcases this with rfl | rfl
    · rw [if_pos rfl]; rfl
    · rw [if_neg (by omega)]; exact Deed.getK h 1 (by omega)
theorem Deed.setT (h : o.wf) (t : List UInt8) : (o.arr q).setIfInBounds 62 (.string (str t)) = Deed.arr { o with text := t } q := by
  have hs := Deed.arr_size h (q := q)
  refine Deed.eq_of ⟨h.e, h.p⟩ (by rw [Array.size_setIfInBounds, hs]) ?_ ?_ ?_ ?_ ?_
  · intro j hj; rw [set_at _ (by omega), if_neg (by omega)]; exact Deed.getI j hj
  · intro j hj; rw [set_at _ (by omega), if_neg (by omega)]; exact Deed.getE h j hj
  · intro j hj; rw [set_at _ (by omega), if_neg (by omega)]; exact Deed.getF h j hj
  · intro j hj; rw [set_at _ (by omega), if_neg (by omega)]; exact Deed.getP h j hj
  · intro j hj
    rw [set_at _ (by omega)]
    have : j = 0 ∨ j = 1 := by omega
    rcases this with rfl | rfl
    · rw [if_neg (by omega)]; exact Deed.getK h 0 (by omega)
    · rw [if_pos rfl]; rfl
theorem Deed.putE (h : o.wf) (e : Edit) (he : e.p.f.length = 8) : putAt (o.arr q) 4 e.arr.toList = Deed.arr { o with e := e } q := by
  have hs := Deed.arr_size h (q := q)
  have hl : e.arr.toList.length = 29 := by rw [Array.length_toList, Edit.arr_size, he]
  refine Deed.eq_of ⟨he, h.p⟩ (by rw [putAt_size, hs]) ?_ ?_ ?_ ?_ ?_
  · intro j hj; rw [putAt_far _ _ _ _ (by omega)]; exact Deed.getI j hj
  · intro j hj; rw [putAt_in _ _ _ _ (by omega) (by omega), Array.getElem?_toList]
  · intro j hj; rw [putAt_far _ _ _ _ (by omega)]; exact Deed.getF h j hj
  · intro j hj; rw [putAt_far _ _ _ _ (by omega)]; exact Deed.getP h j hj
  · intro j hj; rw [putAt_far _ _ _ _ (by omega)]; exact Deed.getK h j hj
theorem Deed.putP (h : o.wf) (p : Patch) (hp : p.f.length = 8) : putAt (o.arr q) 35 p.arr.toList = Deed.arr { o with p := p } q := by
  have hs := Deed.arr_size h (q := q)
  have hl : p.arr.toList.length = 26 := by rw [Array.length_toList, Patch.arr_size, hp]
  refine Deed.eq_of ⟨h.e, hp⟩ (by rw [putAt_size, hs]) ?_ ?_ ?_ ?_ ?_
  · intro j hj; rw [putAt_far _ _ _ _ (by omega)]; exact Deed.getI j hj
  · intro j hj; rw [putAt_far _ _ _ _ (by omega)]; exact Deed.getE h j hj
  · intro j hj; rw [putAt_far _ _ _ _ (by omega)]; exact Deed.getF h j hj
  · intro j hj; rw [putAt_in _ _ _ _ (by omega) (by omega), Array.getElem?_toList]
  · intro j hj; rw [putAt_far _ _ _ _ (by omega)]; exact Deed.getK h j hj
theorem dcs {w : World} {g : Nat} (h : o.wf) (hb : Blk w g (o.arr q)) :
    w.cell? ⟨g, 0, none⟩ = some (.int .i64 o.kind) ∧ w.cell? ⟨g, 1, none⟩ = some (.int .i64 o.n) ∧ w.cell? ⟨g, 2, none⟩ = some (.int .i64 o.dev) ∧ w.cell? ⟨g, 3, none⟩ = some (.int .i64 o.id) ∧
    w.cell? ⟨g, 33, none⟩ = some (.slice q.A o.f.length q.n) ∧ w.cell? ⟨g, 34, none⟩ = some (.int .u32 o.mask) ∧ w.cell? ⟨g, 61, none⟩ = some (.slice q.K o.keep.length q.m) ∧ w.cell? ⟨g, 62, none⟩ = some (.string (str o.text)) :=
  ⟨hb.cell (Deed.getI 0 (by omega)), hb.cell (Deed.getI 1 (by omega)), hb.cell (Deed.getI 2 (by omega)), hb.cell (Deed.getI 3 (by omega)), hb.cell (Deed.getF h 0 (by omega)), hb.cell (Deed.getF h 1 (by omega)), hb.cell (Deed.getK h 0 (by omega)), hb.cell (Deed.getK h 1 (by omega))⟩
theorem deed_edit {w : World} {g : Nat} (h : o.wf) (hb : Blk w g (o.arr q)) (j : Nat) (u : Value) (hu : o.e.arr[j]? = some u) : w.cell? ⟨g, 4 + j, none⟩ = some u := by
  have hj : j < o.e.arr.size := (Array.getElem?_eq_some_iff.1 hu).1
  rw [Edit.arr_size, h.e] at hj
  exact hb.cell (by rw [Deed.getE h j (by omega)]; exact hu)
theorem deed_patch {w : World} {g : Nat} (h : o.wf) (hb : Blk w g (o.arr q)) (j : Nat) (u : Value) (hu : o.p.arr[j]? = some u) : w.cell? ⟨g, 35 + j, none⟩ = some u := by
  have hj : j < o.p.arr.size := (Array.getElem?_eq_some_iff.1 hu).1
  rw [Patch.arr_size, h.p] at hj
  exact hb.cell (by rw [Deed.getP h j (by omega)]; exact hu)
theorem Deed.arr_one (_h : o.wf) : ∀ v ∈ (o.arr q).toList, v.oneCell' = true := by
  intro v hv
  unfold Deed.arr at hv
  simp only [List.mem_append, List.mem_cons, List.not_mem_nil, or_false] at hv
  rcases hv with (rfl | rfl | rfl | rfl) | hv | (rfl | rfl) | hv | (rfl | rfl)
  all_goals first
    | rfl
    | (exact Edit.arr_one o.e v hv)
    | (exact Patch.arr_one o.p v hv)
theorem Deed.arr_ones (h : o.wf) : ((o.arr q).all fun x => x.oneCell') = true := by
  rw [Array.all_eq_true]
  exact fun i hi => Deed.arr_one h _ (Array.getElem_mem_toList hi)
end
structure Deed.at_ (o : Deed) (w : World) (q : Where) : Prop where
  f : InN w q.A q.n o.f
  k : InI w q.K q.m o.keep
theorem Deed.at_.below {o : Deed} {w w' : World} {q : Where} (h : o.at_ w q) (hb : Below w.heap.size w w') : o.at_ w' q := ⟨h.f.below hb, h.k.below hb⟩
structure Deed.fit (o : Deed) : Prop where
  wf : o.wf
  fs : ∀ x ∈ o.f, x.v.s.length ≤ 4294967000
  es : ∀ x ∈ o.e.p.f, x.s.length ≤ 4294967000
  ps : ∀ x ∈ o.p.f, x.s.length ≤ 4294967000
  em : o.e.p.mask < 4294967296
  pm : o.p.mask < 4294967296
  m : o.mask < 4294967296
  t : o.text.length ≤ 4294967000
open Go.RowKit

theorem flat_num_len (l : List Int) : (l.flatMap num).length ≤ 7 * l.length := by
  induction l with
  | nil => simp
  | cons x l ih =>
    have := (num_len x).2
    simp only [List.flatMap_cons, List.length_append, List.length_cons]
    omega
theorem deedB_len {o : Deed} (h : o.ok = true) : (deedB o).length ≤ 4200 := by
  obtain ⟨hm, -⟩ := Deed.ok_iff.1 h
  obtain ⟨hk, -, -, -, -, -, mK, mT⟩ := Deed.may_iff.1 hm
  have h0 := (num_len o.kind).2
  have h1 := (num_len o.n).2
  have h2 := (num_len o.dev).2
  have h3 := (num_len o.id).2
  have h4 := (num_len (o.mask : Int)).2
  have h5 := editB_len' o.e
  have h6 := patchB_len o.p
  have h7 := putB_len o.f
  have h8 := (num_len (o.keep.length : Int)).2
  have h9 := flat_num_len o.keep
  have h10 : (strB o.text).length ≤ 7 + o.text.length := by have := (num_len (o.text.length : Int)).2; unfold strB; rw [List.length_append]; omega
  unfold deedB deedT
  rcases (show o.kind = 1 ∨ (o.kind = 2 ∨ o.kind = 7 ∨ o.kind = 8 ∨ o.kind = 9 ∨ o.kind = 10) ∨ o.kind = 3 ∨ (o.kind = 4 ∨ o.kind = 6) ∨ o.kind = 5 ∨ o.kind = 11 ∨ o.kind = 12 by omega) with k | (k | k | k | k | k) | k | (k | k) | k | k | k
  all_goals (simp only [k, dE, dN, dD, dF, dW, dK, dT] at mK mT ⊢; simp [-List.length_flatMap] at mK mT ⊢; simp only [k] at h0)
  all_goals first
    | omega
    | (have := mK; omega)
theorem deeds_len : ∀ {l : List Deed}, (∀ x ∈ l, x.ok = true) → (l.flatMap deedB).length ≤ 4200 * l.length
  | [], _ => by simp
  | x :: l, h => by
    have h1 := deedB_len (h x (List.mem_cons_self ..))
    have h2 := deeds_len (l := l) (fun y hy => h y (List.mem_cons_of_mem _ hy))
    simp only [List.flatMap_cons, List.length_append, List.length_cons]
    omega
structure DQ where
  o : Deed
  q : Where
  wf : o.wf
def DQ.cells (x : DQ) : List Value := (x.o.arr x.q).toList
theorem DQ.cells_len (x : DQ) : x.cells.length = 63 := by unfold DQ.cells; rw [Array.length_toList, Deed.arr_size x.wf]
theorem DQ.one (x : DQ) : ∀ v ∈ x.cells, v.oneCell' = true := Deed.arr_one x.wf
structure InQ (w : World) (A : Option Addr) (c : Nat) (l : List DQ) : Prop where
  inn : In 63 DQ.cells w A c l
  fit : ∀ x ∈ l, x.o.fit
  at_ : ∀ x ∈ l, x.o.at_ w x.q
theorem InQ.below {w w' : World} {A : Option Addr} {c : Nat} {l : List DQ} (h : InQ w A c l) (hb : Below w.heap.size w w') : InQ w' A c l :=
  ⟨h.inn.below hb, h.fit, fun x hx => (h.at_ x hx).below hb⟩
theorem InQ.at {w : World} {A : Option Addr} {c : Nat} {l : List DQ} (h : InQ w A c l) {k : Nat} (hk : k < l.length) :
    ∃ b off, A = some ⟨b, off, none⟩ ∧ b < w.heap.size ∧ ∀ w', Below w.heap.size w w' → ∀ j u, (l[k].o.arr l[k].q)[j]? = some u → w'.cell? ⟨b, off + k * 63 + j, none⟩ = some u := by
  obtain ⟨b, off, hA, hb, hrow⟩ := h.inn.at hk
  refine ⟨b, off, hA, hb, fun w' hw j u hu => ?_⟩
  exact (hrow.below hw hb) k hk j u (by unfold DQ.cells; rw [Array.getElem?_toList]; exact hu)
def deeds (l : List DQ) : List Deed := l.map DQ.o
theorem deeds_len' (l : List DQ) : (deeds l).length = l.length := by unfold deeds; simp
theorem deeds_take (l : List DQ) {k : Nat} (hk : k < l.length) : (deeds l).take (k + 1) = (deeds l).take k ++ [l[k].o] := by
  unfold deeds
  rw [List.take_succ_eq_append_getElem (by simpa using hk)]
  simp
def encB (l : List Deed) : List UInt8 := if Deed.mayAll l then scriptB l else []
theorem enc_bad {l : List Deed} (h : Deed.mayAll l = false) : encB l = [] := by unfold encB; simp [h]
theorem enc_ok {l : List Deed} (h : Deed.mayAll l = true) : encB l = scriptB l := by unfold encB; simp [h]
theorem mayAll_at {l : List Deed} {x : Deed} (hx : x ∈ l) (h : x.ok = false) : Deed.mayAll l = false := by
  cases e : Deed.mayAll l
  · rfl
  · unfold Deed.mayAll at e
    simp only [Bool.and_eq_true, List.all_eq_true] at e
    have := e.2 x hx
    rw [h] at this
    cases this
def RetEnc (w : World) (l : List Deed) (e : Ending) (w' : World) : Prop := e = .returned (.tuple #[.string (str (encB l)), .bool (Deed.mayAll l)]) ∧ Below w.heap.size w w'
/-! Acts that come in. -/
def KeepRaw (w : World) (K : Option Addr) (m : Nat) (l : List Int) : Prop := l.length ≤ m ∧ m ≤ 9223372036854775807 ∧ (l = [] ∨ ∃ b off, K = some ⟨b, off, none⟩ ∧ b < w.heap.size ∧ Row 1 ic w b off l)
structure Deed.raw (w : World) (o : Deed) (q : Where) : Prop where
  wf : o.wf
  f1 : o.f.length ≤ q.n
  f2 : q.n ≤ 9223372036854775807
  f3 : o.f = [] ∨ ∃ b off, q.A = some ⟨b, off, none⟩ ∧ b < w.heap.size ∧ Row 5 Node.cells w b off o.f
  f4 : ∀ v ∈ o.f, v.v.s.length ≤ 9223372036854775807
  k : KeepRaw w q.K q.m o.keep
  t : o.text.length ≤ 9223372036854775807
  em : o.e.p.mask < 4294967296
  pm : o.p.mask < 4294967296
  m : o.mask < 4294967296
def Deed.long (o : Deed) : Bool := longF o.e.p.f || (longF o.p.f || (large o.f || (decide (100 < o.keep.length) || decide (6000 < o.text.length))))
theorem long_no {o : Deed} (h : o.long = false) : longF o.e.p.f = false ∧ longF o.p.f = false ∧ large o.f = false ∧ o.keep.length ≤ 100 ∧ o.text.length ≤ 6000 := by
  unfold Deed.long at h
  simp only [Bool.or_eq_false_iff, decide_eq_false_iff_not] at h
  obtain ⟨h1, h2, h3, h4, h5⟩ := h
  exact ⟨h1, h2, h3, by omega, by omega⟩
theorem Deed.raw.fit {w : World} {o : Deed} {q : Where} (h : o.raw w q) (hl : o.long = false) : o.fit := by
  obtain ⟨h1, h2, h3, h4, h5⟩ := long_no hl
  have hs := (large_short h3).2
  refine ⟨h.wf, fun x hx => by have := hs x hx; omega, fun x hx => ?_, fun x hx => ?_, h.em, h.pm, h.m, by omega⟩
  · have := List.any_eq_false.1 h1 x hx; simp at this; omega
  · have := List.any_eq_false.1 h2 x hx; simp at this; omega
theorem Deed.raw.at_ {w : World} {o : Deed} {q : Where} (h : o.raw w q) (hl : o.long = false) : o.at_ w q := by
  obtain ⟨-, -, h3, h4, -⟩ := long_no hl
  have := (large_short h3).1
  exact ⟨⟨h.f1, h.f2, by omega, h.f3⟩, ⟨h.k.1, h.k.2.1, by omega, h.k.2.2⟩⟩
theorem Deed.raw.below {w w' : World} {o : Deed} {q : Where} (h : o.raw w q) (hb : Below w.heap.size w w') : o.raw w' q := by
  refine ⟨h.wf, h.f1, h.f2, ?_, h.f4, ⟨h.k.1, h.k.2.1, ?_⟩, h.t, h.em, h.pm, h.m⟩
  · rcases h.f3 with h0 | ⟨b, off, hA, hlt, hr⟩
    · exact .inl h0
    · exact .inr ⟨b, off, hA, Nat.lt_of_lt_of_le hlt hb.size, hr.below hb hlt⟩
  · rcases h.k.2.2 with h0 | ⟨b, off, hA, hlt, hr⟩
    · exact .inl h0
    · exact .inr ⟨b, off, hA, Nat.lt_of_lt_of_le hlt hb.size, hr.below hb hlt⟩
structure RawQ (w : World) (A : Option Addr) (c : Nat) (l : List DQ) : Prop where
  le : l.length ≤ c
  cap : c ≤ 9223372036854775807
  row : l = [] ∨ ∃ b off, A = some ⟨b, off, none⟩ ∧ b < w.heap.size ∧ Row 63 DQ.cells w b off l
  raw : ∀ x ∈ l, x.o.raw w x.q
theorem RawQ.below {w w' : World} {A : Option Addr} {c : Nat} {l : List DQ} (h : RawQ w A c l) (hb : Below w.heap.size w w') : RawQ w' A c l := by
  refine ⟨h.le, h.cap, ?_, fun x hx => (h.raw x hx).below hb⟩
  rcases h.row with h0 | ⟨b, off, hA, hlt, hr⟩
  · exact .inl h0
  · exact .inr ⟨b, off, hA, Nat.lt_of_lt_of_le hlt hb.size, hr.below hb hlt⟩
def longAll (l : List DQ) : Bool := decide (120 < l.length) || l.any fun x => x.o.long
theorem longAll_no {l : List DQ} (h : longAll l = false) : l.length ≤ 120 ∧ ∀ x ∈ l, x.o.long = false := by
  unfold longAll at h
  simp only [Bool.or_eq_false_iff, decide_eq_false_iff_not, List.any_eq_false, Bool.not_eq_true] at h
  exact ⟨by omega, h.2⟩
theorem RawQ.inn {w : World} {A : Option Addr} {c : Nat} {l : List DQ} (h : RawQ w A c l) (hl : l.length ≤ 120) : In 63 DQ.cells w A c l := ⟨h.le, h.cap, by omega, h.row⟩
theorem RawQ.inQ {w : World} {A : Option Addr} {c : Nat} {l : List DQ} (h : RawQ w A c l) (hl : longAll l = false) : InQ w A c l := by
  obtain ⟨h1, h2⟩ := longAll_no hl
  exact ⟨h.inn h1, fun x hx => (h.raw x hx).fit (h2 x hx), fun x hx => (h.raw x hx).at_ (h2 x hx)⟩
end Go.Proofs.YtiedkcijjfmhaaaDoor
namespace Go.Proofs.YtiedkcijjfmhaaaDoor
open Go.ChangeShapes Go.WideShapes Go.ChangeAt Go.RowKit Go.Deep
open Go.ChangeMaps (open_string shut_string)

theorem list10s {α : Type} {l : List α} (h : l.length = 10) : ∃ a b c d e f g i j k, l = [a, b, c, d, e, f, g, i, j, k] := by
  match l, h with
  | [a, b, c, d, e, f, g, i, j, k], _ => exact ⟨a, b, c, d, e, f, g, i, j, k, rfl⟩
section
variable {H : Type} {enc : TypeId × Value → H} {w : World} {spare : Nat → Bool} {held : Bool}
theorem c_opS : Tryd.prog.cellsOf 34 = 63 := by kernel_rfl
theorem c_nodesS : Tryd.prog.cellsOf 31 = 1 := by kernel_rfl
theorem c_intsS : Tryd.prog.cellsOf 32 = 1 := by kernel_rfl
theorem c_u32S : Tryd.prog.cellsOf 23 = 1 := by kernel_rfl
theorem open_strS {fuel : Nat} {cs : List Value} {x : DataW H × List MemPlace} (h : DataW.trod enc Tryd.prog w 0 spare held fuel 9 cs = some x) : ∃ s : List UInt8, cs = [.string (str s)] ∧ s.length ≤ 9223372036854775807 := by
  obtain ⟨s, hs, -, ws⟩ := DataW.trod_string Tryd.underlying9 h
  refine ⟨s.data.toList, by rw [hs, ← str_of], ?_⟩
  unfold maxLen at ws
  have : s.data.toList.length = s.size := by rw [Array.length_toList]; rfl
  rw [this]; omega
theorem open_op {fuel : Nat} {cs : List Value} {x : DataW H × List MemPlace} (h : DataW.trod enc Tryd.prog w 0 spare held fuel 34 cs = some x) :
    ∃ v : DQ, cs = v.cells ∧ v.o.raw w v.q := by
  obtain ⟨xs, n, _, _, hl, hxl, hf⟩ := DataW.trod_struct Tryd.underlying34 h
  rw [c_opS] at hl
  obtain ⟨x0, x1, x2, x3, x4, x5, x6, x7, x8, x9, rfl⟩ := list10s (show xs.length = 10 from hxl)
  have h0 := hf 0
  have h1 := hf 1
  have h2 := hf 2
  have h3 := hf 3
  have h4 := hf 4
  have h5 := hf 5
  have h6 := hf 6
  have h7 := hf 7
  have h8 := hf 8
  have h9 := hf 9
  simp [c_int, c_edit, c_patch, c_nodesS, c_u32S, c_intsS, c_string] at h0 h1 h2 h3 h4 h5 h6 h7 h8 h9
  obtain ⟨a0, e0, -⟩ := open_i64 h0
  obtain ⟨a1, e1, -⟩ := open_i64 h1
  obtain ⟨a2, e2, -⟩ := open_i64 h2
  obtain ⟨a3, e3, -⟩ := open_i64 h3
  obtain ⟨e, e4, ee1, ee2, -, -, -, -, -⟩ := open_edit h4
  obtain ⟨A, cc, l, e5, k1, k2, k3, k4, -⟩ := open_nodes h5
  obtain ⟨m, e6, r6⟩ := open_u32 h6
  obtain ⟨p, e7, pp1, pp2, -, -⟩ := open_patch h7
  obtain ⟨K, mm, ks, e8, j1, j2, j3⟩ := open_ints h8
  obtain ⟨t, e9, r9⟩ := open_strS h9
  refine ⟨⟨⟨a0, a1, a2, a3, e, l, m, p, ks, t⟩, ⟨A, cc, K, mm⟩, ⟨ee1, pp1⟩⟩, ?_, ⟨ee1, pp1⟩, k1, k2, k3, fun v hv => (k4 v hv).2.2.2.2, ⟨j1, j2, j3⟩, r9, ee2, pp2, r6⟩
  have cut : ∀ k j : Nat, cs.drop k = (cs.drop k).take j ++ cs.drop (k + j) := fun k j => by rw [← List.drop_drop, List.take_append_drop]
  have c0 : cs = cs.take 1 ++ cs.drop 1 := (List.take_append_drop 1 cs).symm
  have c1 := cut 1 1
  have c2 := cut 2 1
  have c3 := cut 3 1
  have c4 := cut 4 29
  have c5 := cut 33 1
  have c6 := cut 34 1
  have c7 := cut 35 26
  have c8 := cut 61 1
  have c9 := cut 62 1
  have c10 : cs.drop 63 = [] := List.drop_of_length_le (by omega)
  rw [← List.drop_one] at e1
  simp only [Nat.reduceAdd] at c1 c2 c3 c4 c5 c6 c7 c8 c9
  rw [c10, e9] at c9
  rw [c9, e8] at c8
  rw [c8, e7] at c7
  rw [c7, e6] at c6
  rw [c6, e5] at c5
  rw [c5, e4] at c4
  rw [c4, e3] at c3
  rw [c3, e2] at c2
  rw [c2, e1] at c1
  rw [c1, e0] at c0
  unfold DQ.cells
  rw [c0]
  unfold Deed.arr
  simp
theorem open_ops {fuel : Nat} {cs : List Value} {x : DataW H × List MemPlace} (h : DataW.trod enc Tryd.prog w 0 spare held fuel 22 cs = some x) :
    ∃ (A : Option Addr) (c : Nat) (l : List DQ), cs = [.slice A l.length c] ∧ RawQ w A c l := by
  rcases open_slice Tryd.underlying22 h with ⟨rfl, rfl⟩ | ⟨a, len, cap, m, n, D, Pl, rfl, hb, hl, hm, hmm, hx, hi⟩
  · exact ⟨none, 0, [], rfl, by simp, by omega, .inl rfl, (fun _ h => by cases h)⟩
  · have hlm : len ≤ m := by rw [hmm]; split <;> omega
    have hq : ∀ i, i < len → ∃ v : DQ, (∀ j u, v.cells[j]? = some u → w.cell? (a.add (i * 63 + j)) = some u) ∧ v.o.raw w v.q := by
      intro i hil
      obtain ⟨cs', hc, ht⟩ := hi i (by omega)
      rw [c_opS] at hc
      obtain ⟨v, rfl, hv⟩ := open_op ht
      obtain ⟨_, hcl, hat⟩ := World.cells?_some hc
      refine ⟨v, fun j u hu => ?_, hv⟩
      have hj : j < 63 := by rw [← DQ.cells_len v]; exact (List.getElem?_eq_some_iff.1 hu).1
      have h1 := hat j hj
      rw [Go.Deep.add_add] at h1
      rw [h1]; exact hu
    obtain ⟨l, hll, hq⟩ := list_of len hq
    refine ⟨some a, cap, l, by rw [hll], by omega, by unfold maxLen at hm; omega, ?_, fun v hv => ?_⟩
    · rcases Nat.eq_zero_or_pos len with h0 | h0
      · exact .inl (List.eq_nil_of_length_eq_zero (by omega))
      · right
        obtain ⟨u, hu⟩ : ∃ u, (l[0]'(by omega)).cells[0]? = some u := by
          have hcl := DQ.cells_len (l[0]'(by omega))
          exact ⟨_, List.getElem?_eq_getElem (by omega)⟩
        have h1 := (hq 0 (by omega)).1 0 u hu
        have hsp := cell_spot h1
        have hlt := World.block_lt_of_cell? w _ h1
        obtain ⟨ab, ao, asp⟩ := a
        simp [Addr.add] at hsp hlt
        subst hsp
        refine ⟨ab, ao, rfl, hlt, fun i hi j u hu => ?_⟩
        have := (hq i hi).1 j u hu
        rw [add_lit'] at this
        rw [Nat.add_assoc]; exact this
    · obtain ⟨i, hi, rfl⟩ := List.getElem_of_mem hv
      exact (hq i hi).2
end
open Go.RowKit

def kTab : List Int := [0, 1, 2, 12, 4, 20, 4, 2, 2, 2, 2, 32, 64]
abbrev kArr : Array Value := #[.int .i64 0, .int .i64 1, .int .i64 2, .int .i64 12, .int .i64 4, .int .i64 20, .int .i64 4, .int .i64 2, .int .i64 2, .int .i64 2, .int .i64 2, .int .i64 32, .int .i64 64]
def hasD (k x : Int) : Bool := decide (0 ≤ k) && (decide (k < 13) && (bits .and .i64 (kTab.getD k.toNat 0) x != 0))
theorem kArr_at (k : Nat) (h : k < 13) : kArr[k]? = some (.int .i64 (kTab.getD k 0)) := by
  rcases (show k = 0 ∨ k = 1 ∨ k = 2 ∨ k = 3 ∨ k = 4 ∨ k = 5 ∨ k = 6 ∨ k = 7 ∨ k = 8 ∨ k = 9 ∨ k = 10 ∨ k = 11 ∨ k = 12 by omega) with rfl | rfl | rfl | rfl | rfl | rfl | rfl | rfl | rfl | rfl | rfl | rfl | rfl <;> rfl
theorem hasD_cases (P : Int → Prop) (h0 : ∀ k : Int, ¬ (0 ≤ k ∧ k < 13) → P k) (h1 : ∀ k : Fin 13, P (k.val : Int)) (k : Int) : P k := by
  by_cases h : 0 ≤ k ∧ k < 13
  · have := h1 ⟨k.toNat, by omega⟩
    simpa [Int.toNat_of_nonneg h.1] using this
  · exact h0 k h
theorem hasD_out {k x : Int} (h : ¬ (0 ≤ k ∧ k < 13)) : hasD k x = false := by
  unfold hasD
  rw [Bool.and_eq_false_iff, Bool.and_eq_false_iff, decide_eq_false_iff_not, decide_eq_false_iff_not]
  omega
theorem hasD_E (k : Int) : hasD k 1 = dE k := hasD_cases (fun k => hasD k 1 = dE k) (fun k h => by rw [hasD_out h]; unfold dE; symm; rw [decide_eq_false_iff_not]; omega) (by decide +kernel) k
theorem hasD_N (k : Int) : hasD k 2 = dN k := hasD_cases (fun k => hasD k 2 = dN k) (fun k h => by rw [hasD_out h]; unfold dN; symm; rw [decide_eq_false_iff_not]; omega) (by decide +kernel) k
theorem hasD_D (k : Int) : hasD k 4 = dD k := hasD_cases (fun k => hasD k 4 = dD k) (fun k h => by rw [hasD_out h]; unfold dD; symm; rw [decide_eq_false_iff_not]; omega) (by decide +kernel) k
theorem hasD_F (k : Int) : hasD k 8 = dF k := hasD_cases (fun k => hasD k 8 = dF k) (fun k h => by rw [hasD_out h]; unfold dF; symm; rw [decide_eq_false_iff_not]; omega) (by decide +kernel) k
theorem hasD_W (k : Int) : hasD k 16 = dW k := hasD_cases (fun k => hasD k 16 = dW k) (fun k h => by rw [hasD_out h]; unfold dW; symm; rw [decide_eq_false_iff_not]; omega) (by decide +kernel) k
theorem hasD_K (k : Int) : hasD k 32 = dK k := hasD_cases (fun k => hasD k 32 = dK k) (fun k h => by rw [hasD_out h]; unfold dK; symm; rw [decide_eq_false_iff_not]; omega) (by decide +kernel) k
theorem hasD_T (k : Int) : hasD k 64 = dT k := hasD_cases (fun k => hasD k 64 = dT k) (fun k h => by rw [hasD_out h]; unfold dT; symm; rw [decide_eq_false_iff_not]; omega) (by decide +kernel) k
theorem str13 : Str Tryd.prog 81 13 := ⟨⟨_, Tryd.underlying81, rfl⟩, by kernel_rfl⟩
set_option maxHeartbeats 1000000 in
set_option maxRecDepth 4000 in
theorem csh (k x : Int) (w : World) : Calls Tryd.prog 21 #[.int .i64 k, .int .i64 x] w (RetV w (.bool (hasD k x))) := by
  have B0 := lh (At.new w 81 (kArr.map fun _ => .int .i64 0))
  by_cases h0 : 0 ≤ k
  · have d0 : decide (k < 0) = false := by simp; omega
    have d0' : decide (0 ≤ k) = true := by simpa using h0
    by_cases h1 : k < 13
    · have d1 : decide (k < 13) = true := by simpa using h1
      obtain ⟨n, rfl⟩ : ∃ n : Nat, k = n := ⟨k.toNat, by omega⟩
      have hn : n < 13 := by omega
      have E := lh (show hasD (n : Int) x = (bits .and .i64 (kTab.getD n 0) x != 0) by unfold hasD; rw [d0', d1, Int.toNat_natCast]; rfl)
      have KA := kArr_at n hn
      obtain ⟨v, hv⟩ : ∃ v, kTab.getD n 0 = v := ⟨_, rfl⟩
      rw [hv] at KA
      replace E := lh (by have := E.out; rw [hv] at this; exact this)
      have KA := lh KA
      clear hv h1
      go_enter Tryd.func21, Tryd.ntmps21
      go_wp2_with (with_reducible refine stS 81 (.tmp 5) (.tmp 6) rfl rfl ?_)
      refine Stop.mk (wsB rfl _ _ _ rfl w.heap.size _ rfl rfl _ (Blk.new _ _ _) str13 rfl rfl (by simp [Value.oneCell']) ?_)
      intro w1 hb1 hk1
      have Bw := lh (fresh_below hk1)
      have q := hb1.cell KA.out
      have hlt := hb1.lt
      clear hb1 hk1
      go_wp2_with (fail)
      all_goals
        go_ret
        refine RetV.bool ?_ Bw.out
        rw [E.out] <;> first | rfl | simp_all
    · have d1 : decide (k < 13) = false := by simpa using h1
      have E := lh (show hasD k x = false from hasD_out (fun h => h1 h.2))
      go_enter Tryd.func21, Tryd.ntmps21
      go_wp2_with (with_reducible refine stS 81 (.tmp 5) (.tmp 6) rfl rfl ?_)
      refine Stop.mk (wsB rfl _ _ _ rfl w.heap.size _ rfl rfl _ (Blk.new _ _ _) str13 rfl rfl (by simp [Value.oneCell']) ?_)
      intro w1 hb1 hk1
      have Bw := lh (fresh_below hk1)
      clear hb1 hk1
      go_wp2_with (fail)
      go_ret
      exact RetV.bool E.out.symm Bw.out
  · have d0 : decide (0 ≤ k) = false := by simpa using h0
    have E := lh (show hasD k x = false from hasD_out (fun h => h0 h.1))
    go_enter Tryd.func21, Tryd.ntmps21
    go_wp2_with (with_reducible refine stS 81 (.tmp 5) (.tmp 6) rfl rfl ?_)
    refine Stop.mk (wsB rfl _ _ _ rfl w.heap.size _ rfl rfl _ (Blk.new _ _ _) str13 rfl rfl (by simp [Value.oneCell']) ?_)
    intro w1 hb1 hk1
    have Bw := lh (fresh_below hk1)
    clear hb1 hk1
    go_wp2_with (fail)
    go_ret
    exact RetV.bool E.out.symm Bw.out
set_option maxHeartbeats 1000000 in
theorem c_ref47_number (k : Int) (w : World) : Calls Tryd.prog 28 #[.int .i64 k] w (RetV w (.bool (dN k))) := by
  go_enter Tryd.func28, Tryd.ntmps28
  go_wp2_with (fail)
  all_goals
    go_ret
    refine RetV.bool ?_ (by repeat (first | exact Below.refl _ _ | refine Below.drew ?_ | refine Below.alloc ?_ (by first | omega | (simp; done) | (simp; omega)) _ | refine Below.setCell ?_ (by first | omega | (simp; done) | (simp; omega)) _ | refine Below.trans ?_ (Below.mono (by assumption) (by first | omega | (simp; done) | (simp; omega)))))
    unfold dN
    first | (simp_all; done) | (rw [Bool.eq_iff_iff]; simp_all; omega) | (rw [Bool.eq_iff_iff]; simp; omega) | (symm; simp; omega) | (symm; rw [decide_eq_false_iff_not]; omega) | (symm; rw [decide_eq_true_iff]; omega)
set_option maxHeartbeats 1000000 in
theorem c_ref47_device (k : Int) (w : World) : Calls Tryd.prog 29 #[.int .i64 k] w (RetV w (.bool (dD k))) := by
  go_enter Tryd.func29, Tryd.ntmps29
  go_wp2_with (fail)
  all_goals
    go_ret
    refine RetV.bool ?_ (by repeat (first | exact Below.refl _ _ | refine Below.drew ?_ | refine Below.alloc ?_ (by first | omega | (simp; done) | (simp; omega)) _ | refine Below.setCell ?_ (by first | omega | (simp; done) | (simp; omega)) _ | refine Below.trans ?_ (Below.mono (by assumption) (by first | omega | (simp; done) | (simp; omega)))))
    unfold dD
    first | (simp_all; done) | (rw [Bool.eq_iff_iff]; simp_all; omega) | (rw [Bool.eq_iff_iff]; simp; omega) | (symm; simp; omega) | (symm; rw [decide_eq_false_iff_not]; omega) | (symm; rw [decide_eq_true_iff]; omega)
end Go.Proofs.YtiedkcijjfmhaaaDoor
