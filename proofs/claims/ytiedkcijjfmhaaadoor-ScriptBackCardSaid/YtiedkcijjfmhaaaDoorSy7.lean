/-
  Lemmas (walks and plain laws), in one text.
-/
import Derived.Test.YtiedkcijjfmhaaaDoorSy1
import Derived.Test.YtiedkcijjfmhaaaDoorSy2
import Derived.Test.YtiedkcijjfmhaaaDoorSy4
import Derived.Test.YtiedkcijjfmhaaaDoorSy5
namespace Go.Proofs.YtiedkcijjfmhaaaDoor
open Go.RowKit

abbrev vz : Val := ⟨0, 0, []⟩
abbrev f8z : List Val := List.replicate 8 vz
abbrev cz : Card := ⟨0, 0, 0, f8z⟩
abbrev pz : Patch := ⟨0, 0, f8z⟩
def at8 (f : List Val) (k : Nat) : Val := f.getD k vz
theorem at8_eq {f : List Val} {k : Nat} (h : k < f.length) : at8 f k = f[k] := by simp [at8, h]
abbrev ints (l : List Nat) : List Int := l.map Int.ofNat
def bitsTo (m k : Nat) : List Nat := (List.range k).filter m.testBit
def bodyF (f : List Val) (l : List Nat) : List UInt8 := l.flatMap fun k => valB (at8 f k)
theorem idx8_bits (m : Nat) : idx8 m = ints (bitsTo m 8) := rfl
theorem bitsTo_len (m k : Nat) : (bitsTo m k).length ≤ k := by have := List.length_filter_le m.testBit (List.range k); simpa [bitsTo] using this
theorem bitsTo_bd {m k n : Nat} (h : n ∈ bitsTo m k) : n < k := List.mem_range.1 (List.mem_filter.1 h).1
theorem bodyF_len (f : List Val) : ∀ l : List Nat, (bodyF f l).length ≤ l.length * 38
  | [] => by simp [bodyF]
  | k :: l => by
    have h1 := bodyF_len f l
    have h2 := valB_len (at8 f k)
    unfold bodyF at *
    rw [List.flatMap_cons, List.length_append, List.length_cons]
    omega
def patchB (p : Patch) : List UInt8 := if p.code = 0 then num p.mask ++ (if p.mask.testBit 8 then num p.lab else []) ++ bodyF p.f (bitsTo p.mask 8) else []
theorem patchB_bad {p : Patch} (h : p.code ≠ 0) : patchB p = [] := by unfold patchB; rw [if_neg h]
theorem patchB_lab {p : Patch} (h : p.code = 0) (h8 : p.mask.testBit 8 = true) : patchB p = num p.mask ++ num p.lab ++ bodyF p.f (bitsTo p.mask 8) := by unfold patchB; rw [if_pos h, if_pos h8]
theorem patchB_no {p : Patch} (h : p.code = 0) (h8 : p.mask.testBit 8 = false) : patchB p = num p.mask ++ bodyF p.f (bitsTo p.mask 8) := by unfold patchB; rw [if_pos h, if_neg (by simp [h8]), List.append_nil]
theorem patchB_len (p : Patch) : (patchB p).length ≤ 332 := by
  by_cases h : p.code = 0
  · have h1 := (num_len p.mask).2
    have h2 := (num_len p.lab).2
    have h5 := bodyF_len p.f (bitsTo p.mask 8)
    have h6 := bitsTo_len p.mask 8
    cases h8 : p.mask.testBit 8
    · rw [patchB_no h h8]; simp only [List.length_append]; omega
    · rw [patchB_lab h h8]; simp only [List.length_append]; omega
  · rw [patchB_bad h]; simp
theorem code_zero {p : Patch} (h : p.code = 0) : p.mask ≠ 0 ∧ p.mask ≤ 511 ∧ p.lab < 65536 ∧ (p.lab = 0 ∨ p.mask.testBit 8 = true) ∧ fits p.mask p.f = true := by
  by_cases a : p.mask = 0 ∨ 511 < p.mask
  · rw [Patch.code_mask a] at h; cases h
  · by_cases b : 65536 ≤ p.lab ∨ (p.lab ≠ 0 ∧ p.mask.testBit 8 = false)
    · rw [Patch.code_lab (by omega) (by omega) b] at h; cases h
    · have hl : p.lab = 0 ∨ p.mask.testBit 8 = true := by
        cases h8 : p.mask.testBit 8
        · rw [h8] at b; left; simp at b; omega
        · right; rfl
      refine ⟨by omega, by omega, by omega, hl, ?_⟩
      rw [Patch.code_f (by omega) (by omega) (by omega) hl] at h
      cases hf : fits p.mask p.f
      · rw [hf] at h; cases h
      · rfl
open Go.RowKit

def hasG (k : Int) : Bool := decide (4 ≤ k ∧ k ≤ 7)
def hasI (k : Int) : Bool := decide (k = 2 ∨ k = 3 ∨ k = 6 ∨ k = 7)
def hasP (k : Int) : Bool := decide (k = 1 ∨ k = 2)
def Edit.gOk (e : Edit) : Bool := decide (0 ≤ e.group ∧ e.group < 16) && (hasG e.kind || decide (e.group = 0))
def Edit.iOk (e : Edit) : Bool := if hasI e.kind then decide (1 ≤ e.id ∧ e.id < 1073741824) else decide (e.id = 0)
def Edit.code (e : Edit) : Int := if 1 ≤ e.kind ∧ e.kind ≤ 7 ∧ e.gOk = true ∧ e.iOk = true then (if hasP e.kind then e.p.code else if e.p = pz then 0 else 1) else 1
def editB (e : Edit) : List UInt8 := if e.code = 0 then num e.kind ++ (if hasG e.kind then num e.group else []) ++ (if hasI e.kind then num e.id else []) ++ (if hasP e.kind then patchB e.p else []) else []
theorem Edit.code_kind {e : Edit} (h : ¬ (1 ≤ e.kind ∧ e.kind ≤ 7)) : e.code = 1 := by unfold Edit.code; rw [if_neg]; intro h'; exact h ⟨h'.1, h'.2.1⟩
theorem Edit.code_g {e : Edit} (h : e.gOk = false) : e.code = 1 := by unfold Edit.code; rw [if_neg]; intro h'; rw [h] at h'; simp at h'
theorem Edit.code_i {e : Edit} (h : e.iOk = false) : e.code = 1 := by unfold Edit.code; rw [if_neg]; intro h'; rw [h] at h'; simp at h'
theorem Edit.code_p {e : Edit} (h1 : 1 ≤ e.kind) (h2 : e.kind ≤ 7) (hg : e.gOk = true) (hi : e.iOk = true) : e.code = if hasP e.kind then e.p.code else if e.p = pz then 0 else 1 := by
  unfold Edit.code; rw [if_pos ⟨h1, h2, hg, hi⟩]
theorem Edit.code_zero {e : Edit} (h : e.code = 0) : 1 ≤ e.kind ∧ e.kind ≤ 7 ∧ e.gOk = true ∧ e.iOk = true ∧ (hasP e.kind = true → e.p.code = 0) ∧ (hasP e.kind = false → e.p = pz) := by
  unfold Edit.code at h
  split at h
  · rename_i h'
    refine ⟨h'.1, h'.2.1, h'.2.2.1, h'.2.2.2, fun hp => ?_, fun hp => ?_⟩
    · rw [if_pos hp] at h; exact h
    · rw [hp] at h
      by_cases hz : e.p = pz
      · exact hz
      · rw [if_neg (by decide), if_neg hz] at h; cases h
  · cases h
theorem kind8 {k : Int} (h1 : 0 ≤ k) (h2 : k ≤ 7) : k = 0 ∨ k = 1 ∨ k = 2 ∨ k = 3 ∨ k = 4 ∨ k = 5 ∨ k = 6 ∨ k = 7 := by omega
theorem strE : Str Tryd.prog 30 29 := ⟨⟨_, Tryd.underlying30, rfl⟩, by kernel_rfl⟩
theorem Edit.part {e : Edit} {w : World} {g : Nat} (h : Blk w g e.arr) (j : Nat) (u : Value) (hu : e.p.arr[j]? = some u) : w.cell? ⟨g, 3 + j, none⟩ = some u := h.cell (by rw [Edit.arr_tail]; exact hu)
theorem pz_cells : pz.arr = (#[.int .u32 0, .int .u32 0, .int .i64 0, .int .i64 0, .string (str []), .int .i64 0, .int .i64 0, .string (str []), .int .i64 0, .int .i64 0, .string (str []), .int .i64 0, .int .i64 0, .string (str []), .int .i64 0, .int .i64 0, .string (str []), .int .i64 0, .int .i64 0, .string (str []), .int .i64 0, .int .i64 0, .string (str []), .int .i64 0, .int .i64 0, .string (str [])] : Array Value) := by
  unfold Patch.arr; rfl
theorem Edit.arr_extract {e : Edit} (hf : e.p.f.length = 8) : e.arr.extract 3 (3 + 26) = e.p.arr := by
  have h1 := e.arr_size
  have h2 := e.p.arr_size
  apply Array.ext_getElem?
  intro i
  rw [Array.getElem?_extract]
  by_cases hi : i < 26
  · rw [if_pos (by omega), Edit.arr_tail]
  · rw [if_neg (by omega), Array.getElem?_eq_none (by omega)]
theorem f_edit : (Tryd.prog.fieldsOf 30).toList.map (fun f => (f.name == "_", f.type, f.offset)) = [(false, 3, 0), (false, 3, 1), (false, 3, 2), (false, 28, 3)] := by kernel_rfl
theorem u_edit : Tryd.prog.underlying 30 = some (.struct (Tryd.prog.fieldsOf 30)) := by kernel_rfl
theorem h_edit : Tryd.prog.stoodInHeld 30 = false := by kernel_rfl
set_option maxRecDepth 100000 in
theorem eq_edit {x y : Edit} (hf : x.p.f.length = 8) (hg : y.p.f.length = 8) (d : Nat) (w : World) : (Op.equalIn (d + 5) 30 (.agg x.arr) (.agg y.arr)).run Tryd.prog w = .ok (decide (x = y)) w := by
  obtain ⟨x0, x1, x2⟩ := x.arr_head
  obtain ⟨y0, y1, y2⟩ := y.arr_head
  have px := part_agg (P := Tryd.prog) (w := w) strP x.arr 3
  have py := part_agg (P := Tryd.prog) (w := w) strP y.arr 3
  rw [Edit.arr_extract (by assumption)] at px py
  have h : (eqF (d + 4) x.arr y.arr [(false, 3, 0), (false, 3, 1), (false, 3, 2), (false, 28, 3)]).run Tryd.prog w = .ok (x.kind == y.kind && (x.id == y.id && (x.group == y.group && (decide (x.p = y.p) && true)))) w :=
    eqF_cons _ _ _ _ _ _ (run_part_plain w plain3 x0) (run_part_plain w plain3 y0) (run_equalIn_int w _ _ _ _ _ _ Tryd.underlying3)
    (eqF_cons _ _ _ _ _ _ (run_part_plain w plain3 x1) (run_part_plain w plain3 y1) (run_equalIn_int w _ _ _ _ _ _ Tryd.underlying3)
    (eqF_cons _ _ _ _ _ _ (run_part_plain w plain3 x2) (run_part_plain w plain3 y2) (run_equalIn_int w _ _ _ _ _ _ Tryd.underlying3)
      (eqF_cons _ _ _ _ _ _ px py (eq_patch hf hg d w) (eqF_nil _ _ _))))
  rw [eqS (d + 4) _ _ _ u_edit h_edit f_edit h]
  congr 1
  rw [Bool.eq_iff_iff]
  obtain ⟨a, b, c, e⟩ := x
  obtain ⟨a', b', c', e'⟩ := y
  simp
open Go.RowKit

/-! The values of fields. -/
def fldS (b : Bool) (st : Rd) : Rd := if b = false ∧ (rdVal st).kind = 0 then rdF (rdVal' st) 3 else rdVal' st
theorem fldS_true (st : Rd) : fldS true st = rdVal' st := by unfold fldS; rw [if_neg (by simp)]
theorem fldS_zero {st : Rd} (h : (rdVal st).kind = 0) : fldS false st = rdF (rdVal' st) 3 := by unfold fldS; rw [if_pos ⟨rfl, h⟩]
theorem fldS_pos {b : Bool} {st : Rd} (h : (rdVal st).kind ≠ 0) : fldS b st = rdVal' st := by unfold fldS; rw [if_neg (fun k => h k.2)]
theorem fldS_bad {b : Bool} {st : Rd} (h : st.e ≠ 0) : fldS b st = st := by
  unfold fldS
  rw [(rdVal_err h).2]
  split
  · exact rdF_err h
  · rfl
theorem fldS_ok {b : Bool} {st : Rd} (h : (fldS b st).e = 0) : fldS b st = rdVal' st ∧ (rdVal' st).e = 0 ∧ (b = false → (rdVal st).kind ≠ 0) := by
  unfold fldS at h ⊢
  by_cases hc : b = false ∧ (rdVal st).kind = 0
  · rw [if_pos hc] at h
    exact absurd h (rdF_bad _ (by decide))
  · rw [if_neg hc] at h ⊢
    exact ⟨rfl, h, fun hb hk => hc ⟨hb, hk⟩⟩
def rdFs' (b : Bool) : List Nat → Rd → Rd
  | [], st => st
  | _ :: l, st => rdFs' b l (fldS b st)
def rdFv (b : Bool) : List Nat → Rd → List Val → List Val
  | [], _, f => f
  | k :: l, st, f => rdFv b l (fldS b st) (f.set k (rdVal st))
theorem rdFs'_bad {b : Bool} {st : Rd} (h : st.e ≠ 0) : ∀ l, rdFs' b l st = st
  | [] => rfl
  | _ :: l => by rw [rdFs', fldS_bad h]; exact rdFs'_bad h l
theorem rdFv_len (b : Bool) : ∀ l st f, (rdFv b l st f).length = f.length
  | [], _, _ => rfl
  | k :: l, st, f => by rw [rdFv, rdFv_len b l]; simp
theorem rdFv_ok (b : Bool) : ∀ l st f, (∀ x ∈ f, x.ok = true) → ∀ x ∈ rdFv b l st f, x.ok = true
  | [], _, _, h => h
  | k :: l, st, f, h => by
    refine rdFv_ok b l _ _ fun x hx => ?_
    rcases List.mem_or_eq_of_mem_set hx with h' | rfl
    · exact h x h'
    · exact rdVal_ok st
theorem at8_set {f : List Val} {k : Nat} (h : k < f.length) (x : Val) (j : Nat) : at8 (f.set k x) j = if j = k then x else at8 f j := by
  unfold at8
  rw [List.getD_eq_getElem?_getD, List.getD_eq_getElem?_getD, List.getElem?_set]
  by_cases hj : j = k
  · subst hj; simp [h]
  · rw [if_neg (fun e => hj e.symm), if_neg hj]
theorem at8_f8z (k : Nat) : at8 f8z k = vz := by
  unfold at8
  rw [List.getD_eq_getElem?_getD, List.getElem?_replicate]
  split <;> rfl
theorem rdFv_far (b : Bool) : ∀ l st f k, (∀ j ∈ l, j < f.length) → k ∉ l → at8 (rdFv b l st f) k = at8 f k
  | [], _, _, _, _, _ => rfl
  | j :: l, st, f, k, hl, hk => by
    rw [rdFv, rdFv_far b l _ _ k (fun i hi => by rw [List.length_set]; exact hl i (List.mem_cons_of_mem _ hi)) (fun h => hk (List.mem_cons_of_mem _ h)), at8_set (hl j (List.mem_cons_self ..))]
    rw [if_neg (fun e => hk (by rw [e]; exact List.mem_cons_self ..))]
theorem rdFs_put (b : Bool) (f : List Val) (r : List UInt8) : ∀ l g, (∀ k ∈ l, (at8 f k).ok = true ∧ (b = false → (at8 f k).kind ≠ 0)) → (∀ k ∈ l, k < g.length) →
    rdFs' b l ⟨bodyF f l ++ r, 0⟩ = ⟨r, 0⟩ ∧ ∀ j, at8 (rdFv b l ⟨bodyF f l ++ r, 0⟩ g) j = if j ∈ l then at8 f j else at8 g j
  | [], g, _, _ => ⟨rfl, fun j => by rw [if_neg (by simp)]; rfl⟩
  | k :: l, g, h, hg => by
    obtain ⟨h1, h2⟩ := h k (List.mem_cons_self ..)
    obtain ⟨a, c⟩ := rdVal_put h1 (bodyF f l ++ r)
    have e : bodyF f (k :: l) ++ r = valB (at8 f k) ++ (bodyF f l ++ r) := by unfold bodyF; rw [List.flatMap_cons, List.append_assoc]
    have hs : fldS b ⟨bodyF f (k :: l) ++ r, 0⟩ = ⟨bodyF f l ++ r, 0⟩ := by
      rw [e]
      cases b
      · rw [fldS_pos (by rw [a]; exact h2 rfl), c]
      · rw [fldS_true, c]
    obtain ⟨i1, i2⟩ := rdFs_put b f r l (g.set k (rdVal ⟨bodyF f (k :: l) ++ r, 0⟩)) (fun j hj => h j (List.mem_cons_of_mem _ hj)) (fun j hj => by rw [List.length_set]; exact hg j (List.mem_cons_of_mem _ hj))
    rw [rdFs', rdFv, hs]
    refine ⟨i1, fun j => ?_⟩
    rw [i2 j, at8_set (hg k (List.mem_cons_self ..)), e, a]
    by_cases hj : j ∈ l
    · rw [if_pos hj, if_pos (List.mem_cons_of_mem _ hj)]
    · rw [if_neg hj]
      by_cases hk : j = k
      · subst hk; rw [if_pos rfl, if_pos (List.mem_cons_self ..)]
      · rw [if_neg hk, if_neg (fun h => (List.mem_cons.1 h).elim hk hj)]
theorem rdFs_took (b : Bool) : ∀ l st g, (rdFs' b l st).e = 0 → l.Nodup → (∀ k ∈ l, k < g.length) →
    st.e = 0 ∧ st.s = bodyF (rdFv b l st g) l ++ (rdFs' b l st).s ∧ (b = false → ∀ k ∈ l, (at8 (rdFv b l st g) k).kind ≠ 0)
  | [], st, g, h, _, _ => ⟨h, rfl, fun _ _ hk => by cases hk⟩
  | k :: l, st, g, h, hn, hg => by
    obtain ⟨n1, n2⟩ := List.nodup_cons.1 hn
    rw [rdFs'] at h
    have hg' : ∀ j ∈ l, j < (g.set k (rdVal st)).length := fun j hj => by rw [List.length_set]; exact hg j (List.mem_cons_of_mem _ hj)
    obtain ⟨i1, i2, i3⟩ := rdFs_took b l (fldS b st) (g.set k (rdVal st)) h n2 hg'
    obtain ⟨s1, s2, s3⟩ := fldS_ok i1
    obtain ⟨t1, t2, t3⟩ := rdVal_took s2
    have hv : at8 (rdFv b (k :: l) st g) k = rdVal st := by rw [rdFv, rdFv_far b l _ _ k hg' n1, at8_set (hg k (List.mem_cons_self ..)), if_pos rfl]
    refine ⟨t1, ?_, fun hb j hj => ?_⟩
    · rw [t3]
      show _ = (valB (at8 (rdFv b (k :: l) st g) k) ++ bodyF (rdFv b (k :: l) st g) l) ++ _
      rw [hv, List.append_assoc, rdFs', rdFv]
      congr 1
      rw [← s1]; exact i2
    · rcases List.mem_cons.1 hj with rfl | hj
      · rw [hv]; exact s3 hb
      · rw [rdFv]; exact i3 hb j hj
/-! The fields of a mask, from one on. -/
def bitsFrom (m k : Nat) : List Nat := (List.range' k (8 - k)).filter m.testBit
theorem bitsFrom_yes {m k : Nat} (hk : k < 8) (h : m.testBit k = true) : bitsFrom m k = k :: bitsFrom m (k + 1) := by
  unfold bitsFrom
  rw [show 8 - k = (8 - (k + 1)) + 1 by omega, List.range'_succ, List.filter_cons_of_pos h]
theorem bitsFrom_no {m k : Nat} (hk : k < 8) (h : m.testBit k = false) : bitsFrom m k = bitsFrom m (k + 1) := by
  unfold bitsFrom
  rw [show 8 - k = (8 - (k + 1)) + 1 by omega, List.range'_succ, List.filter_cons_of_neg (by simp [h])]
theorem bitsTo_nodup (m k : Nat) : (bitsTo m k).Nodup := List.Pairwise.filter _ List.nodup_range
theorem bitsTo_mem {m k j : Nat} : j ∈ bitsTo m k ↔ j < k ∧ m.testBit j = true := by unfold bitsTo; rw [List.mem_filter, List.mem_range]
theorem at8_ext {f g : List Val} (hf : f.length = 8) (hg : g.length = 8) (h : ∀ j, j < 8 → at8 f j = at8 g j) : f = g := by
  apply List.ext_getElem (by omega)
  intro i h1 h2
  have := h i (by omega)
  rw [at8_eq h1, at8_eq h2] at this
  exact this
/-! Cards. -/
def cdA (st : Rd) : Rd := rdAb' st 1073741823
def cdB (st : Rd) : Rd := rdAb' (cdA st) 1099511627776
def cdC (st : Rd) : Rd := rdN' (cdB st) 65535
def cdD (st : Rd) : Rd := rdN' (cdC st) 255
def cdM (st : Rd) : Nat := (rdN (cdC st) 255).toNat
def cdF (st : Rd) : List Val := rdFv false (bitsTo (cdM st) 8) (cdD st) f8z
@[irreducible] def rdCard' (st : Rd) : Rd := rdFs' false (bitsTo (cdM st) 8) (cdD st)
def cdCard (st : Rd) : Card := ⟨rdN st 1073741823, rdN (cdA st) 1099511627776, (rdN (cdB st) 65535).toNat, cdF st⟩
@[irreducible] def rdCard (st : Rd) : Card := if (rdCard' st).e = 0 then cdCard st else cz
theorem f8z_ok : ∀ x ∈ f8z, x.ok = true := fun x hx => by rw [List.eq_of_mem_replicate hx]; decide
open Go.RowKit

/-! Patches. -/
def ptM (st : Rd) : Nat := (rdN st 511).toNat
def ptA (st : Rd) : Rd := rdAb' st 511
def ptL (st : Rd) : Nat := if (ptM st).testBit 8 then (rdN (ptA st) 65535).toNat else 0
def ptB (st : Rd) : Rd := if (ptM st).testBit 8 then rdN' (ptA st) 65535 else ptA st
def ptF (st : Rd) : List Val := rdFv true (bitsTo (ptM st) 8) (ptB st) f8z
@[irreducible] def rdPatch' (st : Rd) : Rd := rdFs' true (bitsTo (ptM st) 8) (ptB st)
def ptPatch (st : Rd) : Patch := ⟨ptM st, ptL st, ptF st⟩
@[irreducible] def rdPatch (st : Rd) : Patch := if (rdPatch' st).e = 0 then ptPatch st else pz
theorem rdPatch'_def (st : Rd) : rdPatch' st = rdFs' true (bitsTo (ptM st) 8) (ptB st) := by unfold rdPatch'; rfl
theorem rdPatch_ok {st : Rd} (h : (rdPatch' st).e = 0) : rdPatch st = ptPatch st := by unfold rdPatch; rw [if_pos h]
theorem rdPatch_bad {st : Rd} (h : (rdPatch' st).e ≠ 0) : rdPatch st = pz := by unfold rdPatch; rw [if_neg h]
theorem ptF_len (st : Rd) : (ptF st).length = 8 := by unfold ptF; rw [rdFv_len]; rfl
theorem rdPatch_len (st : Rd) : (rdPatch st).f.length = 8 := by
  unfold rdPatch; split
  · exact ptF_len st
  · rfl
theorem ptM_bd (st : Rd) : (ptM st : Int) = rdN st 511 ∧ ptM st ≤ 511 := by
  have := rdN_bd st 511
  unfold ptM
  omega
theorem ptL_bd (st : Rd) : ptL st ≤ 65535 := by
  have := rdN_bd (ptA st) 65535
  unfold ptL
  split <;> omega
theorem rdPatch_mask (st : Rd) : (rdPatch st).mask ≤ 511 ∧ (rdPatch st).lab ≤ 65535 := by
  unfold rdPatch; split
  · exact ⟨(ptM_bd st).2, ptL_bd st⟩
  · exact ⟨by show 0 ≤ 511; omega, by show 0 ≤ 65535; omega⟩
theorem rdPatch_vals (st : Rd) : ∀ x ∈ (rdPatch st).f, x.ok = true := by
  unfold rdPatch; split
  · exact rdFv_ok true _ _ _ f8z_ok
  · exact f8z_ok
theorem rdPatch_sizes (st : Rd) : ∀ x ∈ (rdPatch st).f, x.s.length ≤ 4294967000 := fun x hx => by have := Val.ok_len (rdPatch_vals st x hx); omega
theorem ptB_yes {st : Rd} (h : (ptM st).testBit 8 = true) : ptB st = rdN' (ptA st) 65535 ∧ ptL st = (rdN (ptA st) 65535).toNat := by unfold ptB ptL; rw [if_pos h, if_pos h]; exact ⟨rfl, rfl⟩
theorem ptB_no {st : Rd} (h : (ptM st).testBit 8 = false) : ptB st = ptA st ∧ ptL st = 0 := by unfold ptB ptL; rw [if_neg (by simp [h]), if_neg (by simp [h])]; exact ⟨rfl, rfl⟩
theorem rdPatch_put {p : Patch} (h : p.code = 0) (hf : p.f.length = 8) (r : List UInt8) : rdPatch ⟨patchB p ++ r, 0⟩ = p ∧ rdPatch' ⟨patchB p ++ r, 0⟩ = ⟨r, 0⟩ := by
  obtain ⟨a1, a2, a3, a4, a5⟩ := code_zero h
  have hfit : ∀ k, k < 8 → (at8 p.f k).ok = true ∧ ((at8 p.f k).kind = 0 ∨ p.mask.testBit k = true) := by
    intro k hk
    have := fits_at a5 (k := k) (by omega)
    unfold fitAt at this
    rw [at8_eq (by omega)]
    simpa using this
  obtain ⟨i1, i2⟩ := rdFs_put true p.f r (bitsTo p.mask 8) f8z (fun k h' => ⟨(hfit k (bitsTo_bd h')).1, fun h => by cases h⟩) (fun k h' => bitsTo_bd h')
  have hF : ∀ F : List Val, F.length = 8 → (∀ j, at8 F j = if j ∈ bitsTo p.mask 8 then at8 p.f j else at8 f8z j) → F = p.f := by
    intro F hF1 hF2
    refine at8_ext hF1 hf fun j hj => ?_
    rw [hF2 j]
    by_cases hj' : j ∈ bitsTo p.mask 8
    · rw [if_pos hj']
    · rw [if_neg hj', at8_f8z]
      have hk0 : (at8 p.f j).kind = 0 := ((hfit j hj).2).resolve_right (fun hb => hj' (bitsTo_mem.2 ⟨hj, hb⟩))
      exact (Val.ok_0 (hfit j hj).1 hk0).symm
  cases hb : p.mask.testBit 8
  · have e : patchB p ++ r = num p.mask ++ (bodyF p.f (bitsTo p.mask 8) ++ r) := by rw [patchB_no h hb]; simp
    obtain ⟨p1, q1⟩ := rdAb_num (n := p.mask) (most := 511) (bodyF p.f (bitsTo p.mask 8) ++ r) (by omega) (by omega) (by omega)
    have hM : ptM ⟨patchB p ++ r, 0⟩ = p.mask := by unfold ptM; rw [e, p1]; rfl
    have hA : ptA ⟨patchB p ++ r, 0⟩ = ⟨bodyF p.f (bitsTo p.mask 8) ++ r, 0⟩ := by unfold ptA; rw [e, q1]
    obtain ⟨b1, b2⟩ := ptB_no (st := ⟨patchB p ++ r, 0⟩) (by rw [hM]; exact hb)
    have hS : rdPatch' ⟨patchB p ++ r, 0⟩ = ⟨r, 0⟩ := by rw [rdPatch'_def, hM, b1, hA, i1]
    refine ⟨?_, hS⟩
    rw [rdPatch_ok (by rw [hS])]
    unfold ptPatch
    have : ptF ⟨patchB p ++ r, 0⟩ = p.f := hF _ (ptF_len _) (by unfold ptF; rw [hM, b1, hA]; exact i2)
    rw [this, hM, b2]
    have hl : p.lab = 0 := a4.resolve_right (by simp [hb])
    obtain ⟨m, l, f⟩ := p
    simp only at hl
    rw [hl]
  · have e : patchB p ++ r = num p.mask ++ (num p.lab ++ (bodyF p.f (bitsTo p.mask 8) ++ r)) := by rw [patchB_lab h hb]; simp
    obtain ⟨p1, q1⟩ := rdAb_num (n := p.mask) (most := 511) (num p.lab ++ (bodyF p.f (bitsTo p.mask 8) ++ r)) (by omega) (by omega) (by omega)
    obtain ⟨p2, q2⟩ := rdN_num (n := p.lab) (most := 65535) (bodyF p.f (bitsTo p.mask 8) ++ r) (by omega) (by omega) (by omega)
    have hM : ptM ⟨patchB p ++ r, 0⟩ = p.mask := by unfold ptM; rw [e, p1]; rfl
    have hA : ptA ⟨patchB p ++ r, 0⟩ = ⟨num p.lab ++ (bodyF p.f (bitsTo p.mask 8) ++ r), 0⟩ := by unfold ptA; rw [e, q1]
    obtain ⟨b1, b2⟩ := ptB_yes (st := ⟨patchB p ++ r, 0⟩) (by rw [hM]; exact hb)
    rw [hA] at b1 b2
    rw [q2] at b1
    rw [p2] at b2
    have hS : rdPatch' ⟨patchB p ++ r, 0⟩ = ⟨r, 0⟩ := by rw [rdPatch'_def, hM, b1, i1]
    refine ⟨?_, hS⟩
    rw [rdPatch_ok (by rw [hS])]
    unfold ptPatch
    have : ptF ⟨patchB p ++ r, 0⟩ = p.f := hF _ (ptF_len _) (by unfold ptF; rw [hM, b1]; exact i2)
    rw [this, hM, b2]
    rfl
theorem rdPatch_took {st : Rd} (h : (rdPatch' st).e = 0) : st.e = 0 ∧ (rdPatch st).code = 0 ∧ st.s = patchB (rdPatch st) ++ (rdPatch' st).s := by
  have hd := rdPatch'_def st
  rw [hd] at h
  have hb : ∀ k ∈ bitsTo (ptM st) 8, k < f8z.length := fun k hk => bitsTo_bd hk
  obtain ⟨e4, s4, -⟩ := rdFs_took true (bitsTo (ptM st) 8) (ptB st) f8z h (bitsTo_nodup _ _) hb
  have hr : rdPatch st = ptPatch st := rdPatch_ok (by rw [hd]; exact h)
  have hM := ptM_bd st
  have hfo : ∀ x ∈ ptF st, x.ok = true := rdFv_ok true _ _ _ f8z_ok
  have hfit : fits (ptM st) (ptF st) = true := by
    refine fits_yes fun k hk => ?_
    unfold fitAt
    rw [hfo _ (List.getElem_mem _), Bool.true_and]
    by_cases hkb : k ∈ bitsTo (ptM st) 8
    · rw [(bitsTo_mem.1 hkb).2, Bool.or_true]
    · have h1 : at8 (ptF st) k = vz := by unfold ptF; rw [rdFv_far true _ _ _ k hb hkb, at8_f8z]
      rw [at8_eq hk] at h1
      rw [h1]; rfl
  cases hb8 : (ptM st).testBit 8
  · obtain ⟨b1, b2⟩ := ptB_no hb8
    rw [b1] at e4
    obtain ⟨e0, s0, l0, m0⟩ := rdAb_took (st := st) (most := 511) e4
    have hc : (ptPatch st).code = 0 := by
      rw [Patch.code_f (p := ptPatch st) (show ptM st ≠ 0 by omega) (show ptM st ≤ 511 by omega) (show ptL st < 65536 by rw [b2]; omega) (Or.inl b2)]
      show (if fits (ptM st) (ptF st) = true then (0 : Int) else 1) = 0
      rw [if_pos hfit]
    refine ⟨e0, by rw [hr]; exact hc, ?_⟩
    rw [hr, patchB_no hc hb8, hd]
    show st.s = num (ptM st : Int) ++ bodyF (ptF st) (bitsTo (ptM st) 8) ++ _
    rw [hM.1, s0]
    show _ ++ (ptA st).s = _
    rw [← b1, s4]
    show _ ++ (bodyF (ptF st) _ ++ _) = _
    simp
  · obtain ⟨b1, b2⟩ := ptB_yes hb8
    rw [b1] at e4
    obtain ⟨e1, s1, l1, m1⟩ := rdN_took2 (st := ptA st) (most := 65535) e4
    obtain ⟨e0, s0, l0, m0⟩ := rdAb_took (st := st) (most := 511) e1
    have hL : (ptL st : Int) = rdN (ptA st) 65535 := by rw [b2]; omega
    have hc : (ptPatch st).code = 0 := by
      rw [Patch.code_f (p := ptPatch st) (show ptM st ≠ 0 by omega) (show ptM st ≤ 511 by omega) (show ptL st < 65536 by omega) (Or.inr hb8)]
      show (if fits (ptM st) (ptF st) = true then (0 : Int) else 1) = 0
      rw [if_pos hfit]
    refine ⟨e0, by rw [hr]; exact hc, ?_⟩
    rw [hr, patchB_lab hc hb8, hd]
    show st.s = num (ptM st : Int) ++ num (ptL st : Int) ++ bodyF (ptF st) (bitsTo (ptM st) 8) ++ _
    rw [hM.1, hL, s0]
    show _ ++ (ptA st).s = _
    rw [s1, ← b1, s4]
    show _ ++ (_ ++ (bodyF (ptF st) _ ++ _)) = _
    simp
/-! Edits. -/
abbrev ez : Edit := ⟨0, 0, 0, pz⟩
def edK (st : Rd) : Int := rdN st 7
def edA (st : Rd) : Rd := rdAb' st 7
def edG (st : Rd) : Int := if hasG (edK st) then rdN (edA st) 15 else 0
def edB (st : Rd) : Rd := if hasG (edK st) then rdN' (edA st) 15 else edA st
def edI (st : Rd) : Int := if hasI (edK st) then rdN (edB st) 1073741823 else 0
def edC (st : Rd) : Rd := if hasI (edK st) then rdAb' (edB st) 1073741823 else edB st
def edP (st : Rd) : Patch := if hasP (edK st) then rdPatch (edC st) else pz
@[irreducible] def rdEdit' (st : Rd) : Rd := if hasP (edK st) then (if (rdPatch (edC st)).code = 0 then rdPatch' (edC st) else rdF (rdPatch' (edC st)) 3) else edC st
def edEdit (st : Rd) : Edit := ⟨edK st, edI st, edG st, edP st⟩
@[irreducible] def rdEdit (st : Rd) : Edit := if (rdEdit' st).e = 0 then edEdit st else ez
theorem rdEdit'_def (st : Rd) : rdEdit' st = if hasP (edK st) then (if (rdPatch (edC st)).code = 0 then rdPatch' (edC st) else rdF (rdPatch' (edC st)) 3) else edC st := by unfold rdEdit'; rfl
theorem rdEdit_ok {st : Rd} (h : (rdEdit' st).e = 0) : rdEdit st = edEdit st := by unfold rdEdit; rw [if_pos h]
theorem rdEdit_bad {st : Rd} (h : (rdEdit' st).e ≠ 0) : rdEdit st = ez := by unfold rdEdit; rw [if_neg h]
theorem rdPatch_err {st : Rd} (h : st.e ≠ 0) : rdPatch st = pz ∧ rdPatch' st = st := by
  have h0 : ptM st = 0 := by unfold ptM; rw [(rdN_err h).1]; rfl
  have h1 : ptA st = st := rdAb'_bad h
  have h2 : rdPatch' st = st := by rw [rdPatch'_def, (ptB_no (by rw [h0]; rfl)).1, h1, rdFs'_bad h]
  exact ⟨rdPatch_bad (by rw [h2]; exact h), h2⟩
theorem pz_code : pz.code = 11 := Patch.code_mask (.inl rfl)
theorem rdEdit'_eq (st : Rd) : rdEdit' st = if hasP (edK st) then rdPatch' (edC st) else edC st := by
  rw [rdEdit'_def]
  split
  · by_cases h : (rdPatch' (edC st)).e = 0
    · rw [if_pos (rdPatch_took h).2.1]
    · rw [if_neg (by rw [rdPatch_bad h, pz_code]; decide), rdF_err h]
  · rfl
theorem edP_len (st : Rd) : (edP st).f.length = 8 := by
  unfold edP; split
  · exact rdPatch_len _
  · rfl
theorem rdEdit_len (st : Rd) : (rdEdit st).p.f.length = 8 := by
  unfold rdEdit; split
  · exact edP_len st
  · rfl
open Go.RowKit

theorem gOk_iff {e : Edit} (h : e.gOk = true) : 0 ≤ e.group ∧ e.group < 16 ∧ (hasG e.kind = false → e.group = 0) := by
  unfold Edit.gOk at h
  simp only [Bool.and_eq_true, Bool.or_eq_true, decide_eq_true_eq] at h
  exact ⟨h.1.1, h.1.2, fun hg => h.2.resolve_left (by simp [hg])⟩
theorem iOk_iff {e : Edit} (h : e.iOk = true) : (hasI e.kind = true → 1 ≤ e.id ∧ e.id < 1073741824) ∧ (hasI e.kind = false → e.id = 0) := by
  unfold Edit.iOk at h
  cases hi : hasI e.kind
  · rw [hi] at h
    exact ⟨fun h' => (by cases h'), fun _ => by simpa using h⟩
  · rw [hi] at h
    exact ⟨fun _ => by simpa using h, fun h' => by cases h'⟩
theorem editB_ok {e : Edit} (h : e.code = 0) : editB e = num e.kind ++ (if hasG e.kind then num e.group else []) ++ (if hasI e.kind then num e.id else []) ++ (if hasP e.kind then patchB e.p else []) := by unfold editB; rw [if_pos h]
theorem editB_bad {e : Edit} (h : e.code ≠ 0) : editB e = [] := by unfold editB; rw [if_neg h]
theorem rdEdit_put {e : Edit} (h : e.code = 0) (hf : e.p.f.length = 8) (r : List UInt8) : rdEdit ⟨editB e ++ r, 0⟩ = e ∧ rdEdit' ⟨editB e ++ r, 0⟩ = ⟨r, 0⟩ := by
  obtain ⟨h1, h7, hg, hi, hp, hz⟩ := Edit.code_zero h
  obtain ⟨g0, g1, g2⟩ := gOk_iff hg
  obtain ⟨i1, i2⟩ := iOk_iff hi
  obtain ⟨xp, hxp⟩ : ∃ x, x = (if hasP e.kind then patchB e.p else []) ++ r := ⟨_, rfl⟩
  obtain ⟨xi, hxi⟩ : ∃ x, x = (if hasI e.kind then num e.id else []) ++ xp := ⟨_, rfl⟩
  obtain ⟨xg, hxg⟩ : ∃ x, x = (if hasG e.kind then num e.group else []) ++ xi := ⟨_, rfl⟩
  have e0 : editB e ++ r = num e.kind ++ xg := by rw [editB_ok h, hxg, hxi, hxp]; simp
  rw [e0]
  obtain ⟨p1, q1⟩ := rdAb_num (n := e.kind) (most := 7) xg (by omega) (by omega) (by omega)
  have hK : edK ⟨num e.kind ++ xg, 0⟩ = e.kind := p1
  have hA : edA ⟨num e.kind ++ xg, 0⟩ = ⟨xg, 0⟩ := q1
  have hB : edB ⟨num e.kind ++ xg, 0⟩ = ⟨xi, 0⟩ ∧ edG ⟨num e.kind ++ xg, 0⟩ = e.group := by
    unfold edB edG
    rw [hK, hA, hxg]
    cases hh : hasG e.kind
    · exact ⟨by rw [if_neg (by decide)]; rfl, by rw [if_neg (by decide), g2 hh]⟩
    · obtain ⟨p2, q2⟩ := rdN_num (n := e.group) (most := 15) xi (by omega) (by omega) (by omega)
      exact ⟨by rw [if_pos rfl, if_pos rfl, q2], by rw [if_pos rfl, if_pos rfl, p2]⟩
  have hC : edC ⟨num e.kind ++ xg, 0⟩ = ⟨xp, 0⟩ ∧ edI ⟨num e.kind ++ xg, 0⟩ = e.id := by
    unfold edC edI
    rw [hK, hB.1, hxi]
    cases hh : hasI e.kind
    · exact ⟨by rw [if_neg (by decide)]; rfl, by rw [if_neg (by decide), i2 hh]⟩
    · obtain ⟨k1, k2⟩ := i1 hh
      obtain ⟨p2, q2⟩ := rdAb_num (n := e.id) (most := 1073741823) xp (by omega) (by omega) (by omega)
      exact ⟨by rw [if_pos rfl, if_pos rfl, q2], by rw [if_pos rfl, if_pos rfl, p2]⟩
  have hD : rdEdit' ⟨num e.kind ++ xg, 0⟩ = ⟨r, 0⟩ ∧ edP ⟨num e.kind ++ xg, 0⟩ = e.p := by
    unfold edP
    rw [rdEdit'_eq, hK, hC.1, hxp]
    cases hh : hasP e.kind
    · exact ⟨by rw [if_neg (by decide)]; rfl, by rw [if_neg (by decide), hz hh]⟩
    · obtain ⟨p2, q2⟩ := rdPatch_put (hp hh) hf r
      exact ⟨by rw [if_pos rfl, if_pos rfl, q2], by rw [if_pos rfl, if_pos rfl, p2]⟩
  refine ⟨?_, hD.1⟩
  rw [rdEdit_ok (by rw [hD.1])]
  unfold edEdit
  rw [hK, hB.2, hC.2, hD.2]
theorem edC_took {st : Rd} (h : (edC st).e = 0) : (edB st).e = 0 ∧ (edB st).s = (if hasI (edK st) then num (edI st) else []) ++ (edC st).s ∧ (hasI (edK st) = true → 1 ≤ edI st ∧ edI st < 1073741824) ∧ (hasI (edK st) = false → edI st = 0) := by
  unfold edC at h ⊢
  unfold edI
  cases hh : hasI (edK st)
  · rw [hh, if_neg (by decide)] at h
    rw [if_neg (by decide), if_neg (by decide), if_neg (by decide)]
    exact ⟨h, rfl, fun h => (by cases h), fun _ => rfl⟩
  · rw [hh, if_pos rfl] at h
    obtain ⟨a, b, c, d⟩ := rdAb_took h
    rw [if_pos rfl, if_pos rfl, if_pos rfl]
    exact ⟨a, b, fun _ => ⟨c, by omega⟩, fun h => (by cases h)⟩
theorem edB_took {st : Rd} (h : (edB st).e = 0) : (edA st).e = 0 ∧ (edA st).s = (if hasG (edK st) then num (edG st) else []) ++ (edB st).s ∧ (0 ≤ edG st ∧ edG st < 16) ∧ (hasG (edK st) = false → edG st = 0) := by
  unfold edB at h ⊢
  unfold edG
  cases hh : hasG (edK st)
  · rw [hh, if_neg (by decide)] at h
    rw [if_neg (by decide), if_neg (by decide), if_neg (by decide)]
    exact ⟨h, rfl, by omega, fun _ => rfl⟩
  · rw [hh, if_pos rfl] at h
    obtain ⟨a, b, c, d⟩ := rdN_took2 h
    rw [if_pos rfl, if_pos rfl, if_pos rfl]
    exact ⟨a, b, by omega, fun h => (by cases h)⟩
theorem edD_took {st : Rd} (h : (rdEdit' st).e = 0) : (edC st).e = 0 ∧ (edC st).s = (if hasP (edK st) then patchB (edP st) else []) ++ (rdEdit' st).s ∧ (hasP (edK st) = true → (edP st).code = 0) ∧ (hasP (edK st) = false → edP st = pz) := by
  rw [rdEdit'_eq] at h ⊢
  unfold edP
  cases hh : hasP (edK st)
  · rw [hh, if_neg (by decide)] at h
    rw [if_neg (by decide), if_neg (by decide), if_neg (by decide)]
    exact ⟨h, rfl, fun h => (by cases h), fun _ => rfl⟩
  · rw [hh, if_pos rfl] at h
    obtain ⟨a, b, c⟩ := rdPatch_took h
    rw [if_pos rfl, if_pos rfl, if_pos rfl]
    exact ⟨a, c, fun _ => b, fun h => (by cases h)⟩
theorem rdEdit_took {st : Rd} (h : (rdEdit' st).e = 0) : st.e = 0 ∧ (rdEdit st).code = 0 ∧ st.s = editB (rdEdit st) ++ (rdEdit' st).s := by
  obtain ⟨e3, s3, p1, p2⟩ := edD_took h
  obtain ⟨e2, s2, i1, i2⟩ := edC_took e3
  obtain ⟨e1, s1, g1, g2⟩ := edB_took e2
  obtain ⟨e0, s0, l0, m0⟩ := rdAb_took (st := st) (most := 7) e1
  have hr := rdEdit_ok h
  have hc : (edEdit st).code = 0 := by
    have hG : (edEdit st).gOk = true := by
      unfold Edit.gOk edEdit
      simp only [Bool.and_eq_true, Bool.or_eq_true, decide_eq_true_eq]
      refine ⟨g1, ?_⟩
      cases hh : hasG (edK st)
      · exact .inr (g2 hh)
      · exact .inl rfl
    have hI : (edEdit st).iOk = true := by
      unfold Edit.iOk edEdit
      show (if hasI (edK st) = true then decide (1 ≤ edI st ∧ edI st < 1073741824) else decide (edI st = 0)) = true
      cases hh : hasI (edK st)
      · rw [if_neg (by decide), i2 hh]; rfl
      · rw [if_pos rfl]; exact decide_eq_true (i1 hh)
    rw [Edit.code_p (show 1 ≤ edK st from l0) (show edK st ≤ 7 from m0) hG hI]
    show (if hasP (edK st) = true then (edP st).code else if edP st = pz then 0 else 1) = 0
    cases hh : hasP (edK st)
    · rw [if_neg (by decide), if_pos (p2 hh)]
    · rw [if_pos rfl]; exact p1 hh
  refine ⟨e0, by rw [hr]; exact hc, ?_⟩
  rw [hr, editB_ok hc]
  show st.s = num (edK st) ++ (if hasG (edK st) = true then num (edG st) else []) ++ (if hasI (edK st) = true then num (edI st) else []) ++ (if hasP (edK st) = true then patchB (edP st) else []) ++ _
  rw [s0]
  show _ ++ (edA st).s = _
  rw [s1, s2, s3]
  simp
  rfl
open Go.RowKit

theorem endAt_hid (l : List Node) (i : Nat) : Hid (endFrom (l.drop (i + 0)) 1 (i + 0) = endAt l i) := (endAt_nat l i).symm

set_option maxHeartbeats 400000 in
theorem c_pred_End (l : List Node) (A : Option Addr) (c : Nat) (i : Int) (w : World) (h : InN w A c l) :
    Calls Tryd.prog 49 #[.slice A l.length c, .int .i64 i] w (RetV w (.int .i64 (endAt l i))) := by
  have hL := h.1
  have hC := h.2.1
  have hS := h.2.2.1
  by_cases h1 : i < 0
  · have H := lh (endAt_neg (l := l) h1)
    go_enter Tryd.func49, Tryd.ntmps49
    go_wp2
    go_ret
    exact RetV.int H.out.symm (Below.refl _ _)
  by_cases h2 : l.length ≤ i
  · have H := lh (endAt_past h2)
    go_enter Tryd.func49, Tryd.ntmps49
    go_wp2
    go_ret
    exact RetV.int H.out.symm (Below.refl _ _)
  obtain ⟨a, rfl⟩ : ∃ a : Nat, i = a := ⟨i.toNat, by omega⟩
  obtain ⟨b, off, rfl, hb, hrow⟩ := h.at (i := a) (by omega)
  clear h
  go_enter Tryd.func49, Tryd.ntmps49
  go_wp2
  go_loopw [5, 20] (fun need i wr => ∃ k : Nat, ∃ nd : Int, a + k ≤ l.length ∧ 1 ≤ nd ∧ nd ≤ 2 * k + 1 ∧ need = .int .i64 nd ∧ i = .int .i64 k ∧ Hid (endFrom (l.drop (a + k)) nd (a + k) = endAt l a) ∧ Below w.heap.size w wr)
     (fun _ i _ => l.length - (intOf i).toNat)
  case atStart => exact ⟨0, 1, by omega, by omega, by omega, rfl, rfl, endAt_hid l a, Below.refl _ _⟩
  case round =>
    obtain ⟨k, nd, hk, hnd1, hnd2, rfl, rfl, H, hbl⟩ := hrel
    by_cases hlt : a + k < l.length
    · obtain ⟨e0, e1, e2, e3, e4⟩ := (hrow.below hbl hb).node hlt (o := off + a * 5 + k * 5) (by omega)
      have hf := H.out
      rw [endFrom_at l (a + k) hlt] at hf
      obtain ⟨p, hp⟩ : ∃ p, parts l[a + k].op = p := ⟨_, rfl⟩
      have hpb := parts_bd l[a + k].op
      have Hp := lh hp
      rw [hp] at hf hpb
      have hpb1 := hpb.1
      have hpb2 := hpb.2
      have HF := lh hf
      have hbz := hbl.size
      clear hf hp hpb H
      by_cases hz : nd + (p - 1) = 0
      · go_wp2_with (go_at_call 87; refine (c_pred_Parts _ _).mono ?_; rintro e w1 ⟨rfl, hb1⟩; rw [Hp.out])
        go_ret
        refine RetV.int ?_ (by repeat (first | exact Below.refl _ _ | refine Below.drew ?_ | refine Below.alloc ?_ (by first | omega | (simp; done) | (simp; omega)) _ | refine Below.setCell ?_ (by first | omega | (simp; done) | (simp; omega)) _ | refine Below.trans ?_ (Below.mono (by assumption) (by first | omega | (simp; done) | (simp; omega)))))
        have hf := HF.out
        rw [if_pos hz] at hf
        rw [← hf]
        simp
      · go_wp2_with (go_at_call 87; refine (c_pred_Parts _ _).mono ?_; rintro e w1 ⟨rfl, hb1⟩; rw [Hp.out])
        go_roundw
        case rel =>
          refine ⟨k + 1, nd + (p - 1), by omega, by omega, by omega, rfl, by go_num, ?_, (by repeat (first | exact Below.refl _ _ | refine Below.drew ?_ | refine Below.alloc ?_ (by first | omega | (simp; done) | (simp; omega)) _ | refine Below.setCell ?_ (by first | omega | (simp; done) | (simp; omega)) _ | refine Below.trans ?_ (Below.mono (by assumption) (by first | omega | (simp; done) | (simp; omega)))))⟩
          have hf := HF.out
          rw [if_neg hz] at hf
          exact hf
        case measure => simp [intOf]; omega
    · go_wp2_with fail
      go_ret
      refine RetV.int ?_ hbl
      have := H.out
      rw [List.drop_of_length_le (by omega)] at this
      exact this
set_option maxHeartbeats 400000 in
theorem c_ref10_End (l : List Node) (A : Option Addr) (c : Nat) (i : Int) (w : World) (h : InN w A c l) :
    Calls Tryd.prog 62 #[.slice A l.length c, .int .i64 i] w (RetV w (.int .i64 (endAt l i))) := by
  have hL := h.1
  have hC := h.2.1
  have hS := h.2.2.1
  by_cases h1 : i < 0
  · have H := lh (endAt_neg (l := l) h1)
    go_enter Tryd.func62, Tryd.ntmps62
    go_wp2
    go_ret
    exact RetV.int H.out.symm (Below.refl _ _)
  by_cases h2 : l.length ≤ i
  · have H := lh (endAt_past h2)
    go_enter Tryd.func62, Tryd.ntmps62
    go_wp2_with fail
    refine wp_loop_rounds 1 ?_
    rw [rounds_succ]
    go_wp2_with fail
    go_ret
    exact RetV.int H.out.symm (Below.refl _ _)
  obtain ⟨a, rfl⟩ : ∃ a : Nat, i = a := ⟨i.toNat, by omega⟩
  obtain ⟨b, off, rfl, hb, hrow⟩ := h.at (i := a) (by omega)
  clear h
  go_enter Tryd.func62, Tryd.ntmps62
  go_wp2_with (fail)
  go_loopw [1, 5] (fun i need wr => ∃ k : Nat, ∃ nd : Int, a + k ≤ l.length ∧ 0 ≤ nd ∧ nd ≤ 2 * k + 1 ∧ (nd = 0 → 1 ≤ k) ∧ need = .int .i64 nd ∧ i = .int .i64 (a + k : Nat) ∧ Hid ((nd = 0 → ((a + k : Nat) : Int) = endAt l a) ∧ (nd ≠ 0 → endFrom (l.drop (a + k)) nd (a + k) = endAt l a)) ∧ Below w.heap.size w wr)
     (fun i _ _ => l.length - (intOf i).toNat)
  case atStart => exact ⟨0, 1, by omega, by omega, by omega, by omega, rfl, rfl, ⟨by omega, fun _ => endAt_hid l a⟩, Below.refl _ _⟩
  case round =>
    obtain ⟨k, nd, hk, hnd1, hnd2, hnd3, rfl, rfl, H, hbl⟩ := hrel
    have hbz := hbl.size
    by_cases hz : nd = 0
    · have H1 := lh (H.out.1 hz)
      clear H
      subst hz
      go_wp2_with (fail)
      all_goals (go_ret; exact RetV.int H1.out hbl)
    have hnd4 : 1 ≤ nd := by omega
    have hf := H.out.2 hz
    clear H
    by_cases hlt : a + k < l.length
    · obtain ⟨e0, e1, e2, e3, e4⟩ := (hrow.below hbl hb).node hlt (o := off + (a + k) * 5) (by omega)
      rw [endFrom_at l (a + k) hlt] at hf
      obtain ⟨p, hp⟩ : ∃ p, parts l[a + k].op = p := ⟨_, rfl⟩
      have hpb := parts_bd l[a + k].op
      have Hp := lh hp
      rw [hp] at hf hpb
      have hpb1 := hpb.1
      have hpb2 := hpb.2
      have HF := lh hf
      clear hf hp hpb
      go_wp2_with (go_at_call 89; refine (c_ref10_Parts _ _).mono ?_; rintro e w1 ⟨rfl, hb1⟩; rw [Hp.out])
      go_roundw
      case rel =>
        refine ⟨k + 1, nd - 1 + p, by omega, by omega, by omega, by omega, rfl, by go_num, ?_, (by repeat (first | exact Below.refl _ _ | refine Below.drew ?_ | refine Below.alloc ?_ (by first | omega | (simp; done) | (simp; omega)) _ | refine Below.setCell ?_ (by first | omega | (simp; done) | (simp; omega)) _ | refine Below.trans ?_ (Below.mono (by assumption) (by first | omega | (simp; done) | (simp; omega)))))⟩
        have hf := HF.out
        rw [show nd + (p - 1) = nd - 1 + p by omega] at hf
        refine ⟨fun e => ?_, fun e => ?_⟩
        · rw [if_pos e] at hf; rw [← hf]; omega
        · rw [if_neg e] at hf; exact hf
      case measure => simp [intOf]; omega
    · rw [List.drop_of_length_le (by omega)] at hf
      have HF := lh hf
      clear hf
      go_wp2_with fail
      go_ret
      exact RetV.int HF.out hbl
set_option maxHeartbeats 400000 in
theorem c_law10_Large_long (n : Nat) (A : Option Addr) (c : Nat) (w : World) (hn : 100 < n) (_hL : n ≤ c) (_hC : c ≤ 9223372036854775807) :
    Calls Tryd.prog 19 #[.slice A n c] w (RetV w (.bool true)) := by
  go_enter Tryd.func19, Tryd.ntmps19
  go_wp2
  go_ret
  exact RetV.bool rfl (Below.refl _ _)
set_option maxHeartbeats 400000 in
theorem c_law10_Large (l : List Node) (A : Option Addr) (c : Nat) (w : World) (h : InN w A c l) (hs : ∀ x ∈ l, x.v.s.length ≤ 9223372036854775807) :
    Calls Tryd.prog 19 #[.slice A l.length c] w (RetV w (.bool (large l))) := by
  have hL := h.1
  have hC := h.2.1
  have hS := h.2.2.1
  by_cases h1 : 100 < l.length
  · have H : Hid (large l = true) := by unfold Hid large; simp [h1]
    go_enter Tryd.func19, Tryd.ntmps19
    go_wp2
    go_ret
    exact RetV.bool H.out.symm (Below.refl _ _)
  have HL : Hid (large l = l.any fun x => decide (200 < x.v.s.length)) := by unfold Hid large; simp [h1]
  go_enter Tryd.func19, Tryd.ntmps19
  go_wp2
  go_loop [3] (fun i => ∃ k : Nat, k ≤ l.length ∧ i = .int .i64 k ∧ Hid ((l.take k).any (fun x => decide (200 < x.v.s.length)) = false)) (fun i => l.length - (intOf i).toNat)
  case atStart => exact ⟨0, by omega, rfl, by simp [Hid]⟩
  case round =>
    obtain ⟨k, hk, rfl, H⟩ := hrel
    by_cases hlt : k < l.length
    · obtain ⟨b, off, rfl, hb, hrow⟩ := h.at hlt
      obtain ⟨e0, e1, e2, e3, e4⟩ := hrow.node hlt rfl
      have hs1 := hs l[k] (List.getElem_mem hlt)
      clear h hs
      go_wp2
      · go_ret
        refine RetV.bool ?_ (Below.refl _ _)
        rw [HL.out]
        symm
        rw [List.any_eq_true]
        exact ⟨l[k], List.getElem_mem hlt, by simp; omega⟩
      · go_round
        case rel =>
          refine ⟨k + 1, by omega, by go_num, ?_⟩
          show List.any _ _ = false
          rw [List.take_succ_eq_append_getElem hlt, List.any_append, H.out]
          simp_all; omega
        case measure => simp [intOf]; omega
    · go_wp2
      go_ret
      refine RetV.bool ?_ (Below.refl _ _)
      rw [HL.out, ← H.out, List.take_of_length_le (by omega)]
open Go.RowKit

set_option maxHeartbeats 400000 in
theorem c_pred_Check1 (x : Node) (w : World) (hs : x.v.s.length ≤ 9223372036854775807) : Calls Tryd.prog 51 #[x.val] w (RetV w (.bool (!x.ok))) := by
  unfold Node.val
  go_enter Tryd.func51, Tryd.ntmps51
  go_wp2_with (go_at_call 52; refine (c_pred_Node x _ hs).mono ?_; rintro e w1 ⟨rfl, hb1⟩)
  go_ret
  exact RetV.bool rfl (by repeat (first | exact Below.refl _ _ | refine Below.drew ?_ | refine Below.alloc ?_ (by first | omega | (simp; done) | (simp; omega)) _ | refine Below.setCell ?_ (by first | omega | (simp; done) | (simp; omega)) _ | refine Below.trans ?_ (Below.mono (by assumption) (by first | omega | (simp; done) | (simp; omega)))))
set_option maxHeartbeats 400000 in
theorem c_IndexFuncN (l : List Node) (A : Option Addr) (c : Nat) (w : World) (h : InN w A c l) (hs : ∀ x ∈ l, x.v.s.length ≤ 9223372036854775807) :
    Calls Tryd.prog 88 #[.slice A l.length c, .func (.func 51) #[] #[]] w (RetV w (.int .i64 (firstBad l 0))) := by
  have hL := h.1
  have hC := h.2.1
  have hS := h.2.2.1
  go_enter Tryd.func88, Tryd.ntmps88
  go_wp2_with (fail)
  go_loopw [8] (fun i wr => ∃ k : Nat, k ≤ l.length ∧ i = .int .i64 k ∧ Hid (firstBad (l.drop k) k = firstBad l 0) ∧ Below w.heap.size w wr) (fun i _ => l.length - (intOf i).toNat)
  case atStart => exact ⟨0, by omega, rfl, rfl, Below.refl _ _⟩
  case round =>
    obtain ⟨k, hk, rfl, H, hbl⟩ := hrel
    have hbz := hbl.size
    by_cases hlt : k < l.length
    · obtain ⟨b, off, rfl, hb, hrow⟩ := h.at hlt
      obtain ⟨e0, e1, e2, e3, e4⟩ := (hrow.below hbl hb).node hlt rfl
      have hs1 := hs l[k] (List.getElem_mem hlt)
      have hf := H.out
      rw [firstBad_at l k hlt] at hf
      clear h hs H
      cases hok : l[k].ok
      · rw [if_neg (by rw [hok]; simp)] at hf
        have HF := lh hf
        clear hf
        go_wp2_with (go_at_call 51; refine (c_pred_Check1 l[k] _ hs1).mono ?_; rintro e w1 ⟨rfl, hb1⟩)
        go_ret
        exact RetV.int HF.out (by repeat (first | exact Below.refl _ _ | refine Below.drew ?_ | refine Below.alloc ?_ (by first | omega | (simp; done) | (simp; omega)) _ | refine Below.setCell ?_ (by first | omega | (simp; done) | (simp; omega)) _ | refine Below.trans ?_ (Below.mono (by assumption) (by first | omega | (simp; done) | (simp; omega)))))
      · rw [if_pos hok] at hf
        have HF := lh hf
        clear hf
        go_wp2_with (go_at_call 51; refine (c_pred_Check1 l[k] _ hs1).mono ?_; rintro e w1 ⟨rfl, hb1⟩)
        go_roundw
        case rel => exact ⟨k + 1, by omega, by go_num, HF.out, (by repeat (first | exact Below.refl _ _ | refine Below.drew ?_ | refine Below.alloc ?_ (by first | omega | (simp; done) | (simp; omega)) _ | refine Below.setCell ?_ (by first | omega | (simp; done) | (simp; omega)) _ | refine Below.trans ?_ (Below.mono (by assumption) (by first | omega | (simp; done) | (simp; omega)))))⟩
        case measure => simp [intOf]; omega
    · have hf := H.out
      rw [List.drop_of_length_le (by omega)] at hf
      have HF := lh hf
      clear hf H
      go_wp2_with (fail)
      go_ret
      exact RetV.int HF.out hbl
set_option maxHeartbeats 400000 in
theorem c_ContainsFuncN (l : List Node) (A : Option Addr) (c : Nat) (w : World) (h : InN w A c l) (hs : ∀ x ∈ l, x.v.s.length ≤ 9223372036854775807) :
    Calls Tryd.prog 50 #[.slice A l.length c, .func (.func 51) #[] #[]] w (RetV w (.bool (l.any fun x => !x.ok))) := by
  have H := lh (firstBad_any l 0)
  go_enter Tryd.func50, Tryd.ntmps50
  go_wp2_with (go_at_call 88; refine (c_IndexFuncN l A c _ h hs).mono ?_; rintro e w1 ⟨rfl, hb1⟩)
  go_ret
  exact RetV.bool H.out (by repeat (first | exact Below.refl _ _ | refine Below.drew ?_ | refine Below.alloc ?_ (by first | omega | (simp; done) | (simp; omega)) _ | refine Below.setCell ?_ (by first | omega | (simp; done) | (simp; omega)) _ | refine Below.trans ?_ (Below.mono (by assumption) (by first | omega | (simp; done) | (simp; omega)))))
set_option maxHeartbeats 1000000 in
theorem c_pred_Depth (l : List Node) (A : Option Addr) (c : Nat) (w : World) (h : InN w A c l) :
    Calls Tryd.prog 53 #[.slice A l.length c] w (RetV w (.int .i64 (depth l))) := by
  have hL := h.1
  have hC := h.2.1
  have hS := h.2.2.1
  by_cases h0 : l.length = 0
  · have H : Hid (depth l = 0) := by have := List.eq_nil_of_length_eq_zero h0; subst this; rfl
    go_enter Tryd.func53, Tryd.ntmps53
    go_wp2_with (fail)
    go_ret
    exact RetV.int H.out.symm (Below.refl _ _)
  by_cases h1 : endAt l 0 = l.length
  case neg =>
    have H : Hid (depth l = 0) := by unfold Hid depth; rw [if_pos (.inr h1)]
    have hn : ((endAt l 0 : Int) != (l.length : Int)) = true := by simpa using h1
    go_enter Tryd.func53, Tryd.ntmps53
    go_wp2_with (go_at_call 49; refine (c_pred_End l A c 0 _ h).mono ?_; rintro e w1 ⟨rfl, hb1⟩)
    go_ret
    exact RetV.int H.out.symm (by repeat (first | exact Below.refl _ _ | refine Below.drew ?_ | refine Below.alloc ?_ (by first | omega | (simp; done) | (simp; omega)) _ | refine Below.setCell ?_ (by first | omega | (simp; done) | (simp; omega)) _ | refine Below.trans ?_ (Below.mono (by assumption) (by first | omega | (simp; done) | (simp; omega)))))
  have HD : Hid (deepFold l [] 0 = depth l) := by
    show _ = _
    unfold depth
    rw [if_neg (by
      rintro (e | e)
      · subst e; simp at h0
      · exact e h1)]
  have hn : ((endAt l 0 : Int) != (l.length : Int)) = false := by simpa using h1
  have hl0 : ((l.length : Int) == 0) = false := by simpa using h0
  have EI : Elem Tryd.prog 32 3 1 8 := Elem.mk' Tryd.underlying32 (z := .int .i64 0) (by kernel_rfl) rfl (by omega) (by omega)
  clear h1
  go_enter Tryd.func53, Tryd.ntmps53
  go_wp2_with (go_at_call 49; refine (c_pred_End l A c 0 _ h).mono ?_; rintro e w1 ⟨rfl, hb1⟩)
  go_loopw [3, 4, 19] (fun v dp i wr => ∃ (k : Nat) (st : List Int) (d : Int), k ≤ l.length ∧ i = .int .i64 k ∧ dp = .int .i64 d ∧ 0 ≤ d ∧ d ≤ k ∧ st.length ≤ k ∧ (∀ x ∈ st, 1 ≤ x ∧ x ≤ 2) ∧
      wr.ownsRow w.heap.size 3 1 v st.length (st.map (Value.int .i64)) ∧ Hid (deepFold (l.drop k) st.reverse d = depth l) ∧ Below w.heap.size w wr) (fun _ _ i _ => l.length - (intOf i).toNat)
  case atStart => exact ⟨0, [], 0, by omega, rfl, rfl, by omega, by omega, by simp, by simp, World.ownsRow_nil _ _ _ _, HD.out, (by repeat (first | exact Below.refl _ _ | refine Below.drew ?_ | refine Below.alloc ?_ (by first | omega | (simp; done) | (simp; omega)) _ | refine Below.setCell ?_ (by first | omega | (simp; done) | (simp; omega)) _ | refine Below.trans ?_ (Below.mono (by assumption) (by first | omega | (simp; done) | (simp; omega)))))⟩
  case round =>
    obtain ⟨k, st, d, hk, rfl, rfl, hd0, hdk, hst, hent, hown, H, hbl⟩ := hrel
    have hbz := hbl.size
    have Hent := lh hent
    have hbh := lh hb1
    clear hent hb1
    by_cases hlt : k < l.length
    · obtain ⟨b, off, rfl, hb, hrow⟩ := h.at hlt
      obtain ⟨e0, e1, e2, e3, e4⟩ := (hrow.below hbl hb).node hlt rfl
      have hf := H.out
      rw [List.drop_eq_getElem_cons hlt] at hf
      have HF : Hid (deepFold (l.drop (k+1)) (push (parts l[k].op) st.reverse) (max d ((st.length : Int) + 1)) = depth l) := by
        have : deepFold (l[k] :: l.drop (k+1)) st.reverse d = depth l := hf
        show _ = _
        simpa [deepFold] using this
      clear h hf H
      have hpb := parts_bd l[k].op
      obtain ⟨p, hp⟩ : ∃ p, parts l[k].op = p := ⟨_, rfl⟩
      have Hp := lh hp
      rw [hp] at hpb
      have hpb1 := hpb.1
      have hpb2 := hpb.2
      clear hp hpb
      obtain ⟨Av, cv, rfl, hcv1, hcv2⟩ := own_form hown
      have hown0 := lh hown
      clear hown
      go_wp2_with (first
        | (go_at_call 87; refine (c_pred_Parts _ _).mono ?_; rintro e w2 ⟨rfl, hb2⟩; rw [Hp.out]; have hz2 := hb2.size; simp only [World.size_alloc] at hz2)
        | (at_builtin
           refine wpList_app _ rfl (.tmp 28) (.tmp 32) EI rfl w.heap.size (.slice Av st.length cv) st.length (st.map (Value.int .i64)) rfl ((own_below (own_below (own_below hown0.out ((Below.refl _ _).alloc (Nat.le_refl _) _)) hb2) ((Below.refl _ _).alloc (Nat.le_refl _) _))) _ 1 1 [.int .i64 p] rfl (Src.new _ _ _ _ rfl) (by simp [Value.oneCell']) (by omega) ?_ ?_
           · simp only [World.size_alloc]; omega
           intro v3 w3 hown3 hg3 hb3 hat3))
      have hbw3 : Below w.heap.size w w3 := (by repeat (first | exact Below.refl _ _ | refine Below.drew ?_ | refine Below.alloc ?_ (by first | omega | (simp; done) | (simp; omega)) _ | refine Below.setCell ?_ (by first | omega | (simp; done) | (simp; omega)) _ | refine Below.trans ?_ (Below.mono (by assumption) (by first | omega | (simp; done) | (simp; omega)))))
      have HN : Hid (norm (st ++ [p]).reverse = push p st.reverse) := by
        show _ = _
        rw [List.reverse_append]
        rfl
      have hent2 : ∀ x ∈ st ++ [p], 0 ≤ x ∧ x ≤ 2 := by
        intro x hx
        rcases List.mem_append.1 hx with hx | hx
        · have := Hent.out x hx; omega
        · simp at hx; omega
      have hent3 : ∀ x ∈ (st ++ [p]).dropLast, 1 ≤ x := by
        intro x hx
        rw [List.dropLast_concat] at hx
        exact (Hent.out x hx).1
      have Hent2 := lh hent2
      have Hent3 := lh hent3
      have hown3' : w3.ownsRow w.heap.size 3 1 v3 (st ++ [p]).length ((st ++ [p]).map (Value.int .i64)) := by simpa using hown3
      have Hown := lh hown3'
      clear e0 e1 e2 e3 e4 hb2 hz2 hown3 hown3' hg3 hb3 hat3 hown0 hbl hbz hent2 hent3 Hent hrow hb
      obtain ⟨wo, rfl⟩ : ∃ wo : World, wo = wr := ⟨_, rfl⟩
      go_loopw [3] (fun v wi => ∃ st2 : List Int, st2.length ≤ k + 1 ∧ Hid (∀ x ∈ st2, 0 ≤ x ∧ x ≤ 2) ∧ Hid (∀ x ∈ st2.dropLast, 1 ≤ x) ∧
          Hid (wi.ownsRow w.heap.size 3 1 v st2.length (st2.map (Value.int .i64))) ∧ Hid (norm st2.reverse = push p st.reverse) ∧ Below w.heap.size w wi) (fun v _ => lenOf v)
      case atStart => exact ⟨st ++ [p], by simp; omega, Hent2, Hent3, Hown, HN, hbw3⟩
      case round =>
        obtain ⟨st2, hl2, E2, E3, O2, N2, hb2⟩ := hrel
        have hz2 := hb2.size
        have hnext : ∀ t r, st2 = r ++ [t] → t ≠ 0 → (∀ x ∈ st2, 1 ≤ x ∧ x ≤ 2) ∧ deepFold (l.drop (k+1)) st2.reverse (max d ((st.length : Int) + 1)) = depth l := by
          rintro t r rfl ht
          refine ⟨fun x hx => ?_, ?_⟩
          · have h1 := E2.out x hx
            rcases List.mem_append.1 hx with hx | hx
            · have := E3.out x (by rw [List.dropLast_concat]; exact hx); omega
            · simp at hx; omega
          · have hf := HF.out
            rw [Hp.out, ← N2.out] at hf
            have hr : (r ++ [t]).reverse = t :: r.reverse := by simp
            rw [hr, norm_keep ht, ← hr] at hf
            exact hf
        have HX := lh hnext
        clear hnext
        rcases snoc_cases st2 with rfl | ⟨rest, t, rfl⟩
        · obtain ⟨A2, c2, rfl, _, _⟩ := own_form O2.out
          clear HX
          go_wp2_with (fail)
          go_roundw
          case rel =>
            have hf := HF.out
            rw [Hp.out, ← N2.out] at hf
            exact ⟨k + 1, [], _, by omega, by go_num, rfl, by omega, by omega, by simp, by simp, O2.out, hf, hb2⟩
          case measure => simp [intOf]; omega
        · have Et := E2.out t (by simp)
          rcases snoc_cases rest with rfl | ⟨r2, y, rfl⟩
          · obtain ⟨g, c2, rfl, hc2, hc2', hg1, hg2⟩ := own_form' O2.out (by simp)
            have O2' : wr.ownsRow w.heap.size 3 1 (.slice (some ⟨g, 0, none⟩) 1 c2) 1 [.int .i64 t] := O2.out
            have hcell : wr.cell? ⟨g, 0, none⟩ = some (.int .i64 t) := by
              rw [O2'.cellAt _ (by omega)]
              rfl
            have hpop := lh (ownsRow_pop (xs := []) (n := 0) (by simp) O2')
            have O3 := lh O2'
            clear O2' O2
            simp only [List.nil_append, List.length_singleton] at hc2
            by_cases ht : t = 0
            · subst ht
              go_wp2_with (fail)
              go_roundw
              case rel =>
                have hn := N2.out
                exact ⟨[], by simp, (fun x hx => by cases hx), (fun x hx => by cases hx), hpop.out, by rw [← hn]; rfl, hb2⟩
              case measure => simp [lenOf]
            · have htb : ((t : Int) == 0) = false := by simpa using ht
              go_wp2_with (fail)
              go_roundw
              case rel =>
                obtain ⟨h1, h2⟩ := HX.out t [] rfl ht
                exact ⟨k + 1, [t], _, by omega, by go_num, rfl, by omega, by omega, by simp, h1, O3.out, h2, hb2⟩
              case measure => simp [intOf]; omega
          · have hl2' : r2.length + 2 ≤ k + 1 := by simpa using hl2
            obtain ⟨q, hq⟩ : ∃ q, r2.length = q := ⟨_, rfl⟩
            have hlen : (r2 ++ [y] ++ [t]).length = q + 2 := by simp [hq]
            have O2' := O2.out
            rw [hlen] at O2'
            simp only [List.map_append, List.map_cons, List.map_nil] at O2'
            obtain ⟨g, c2, rfl, hc2, hc2', hg1, hg2⟩ := own_form' O2' (by omega)
            rw [hq] at hl2'
            have hcell : wr.cell? ⟨g, q + 1, none⟩ = some (.int .i64 t) := by
              rw [O2'.cellAt _ (by omega)]
              rw [List.getElem?_append_right (by simp [hq])]
              simp [hq]
            have hcy : wr.cell? ⟨g, q, none⟩ = some (.int .i64 y) := by
              rw [O2'.cellAt _ (by omega)]
              rw [List.getElem?_append_left (by simp [hq]), List.getElem?_append_right (by simp [hq])]
              simp [hq]
            have hfz := fun j => O2'.frozenAt j
            have hpop := ownsRow_pop (n := q + 1) (by simp [hq]) O2'
            have hst2 := hpop.stored q (.int .i64 (y - 1))
            have ST := lh hst2
            have O3 := lh O2'
            have Hq := lh hq
            have Hlen := lh hlen
            have hy := E3.out y (by simp)
            have hy2 := (E2.out y (by simp)).2
            clear O2' O2 hpop hst2 hq hlen hl2
            by_cases ht : t = 0
            · subst ht
              clear HX
              go_wp2_with (fail)
              go_roundw
              case rel =>
                refine ⟨r2 ++ [y - 1], by simp [Hq.out]; omega, ?_, ?_, ?_, ?_, (by repeat (first | exact Below.refl _ _ | refine Below.drew ?_ | refine Below.alloc ?_ (by first | omega | (simp; done) | (simp; omega)) _ | refine Below.setCell ?_ (by first | omega | (simp; done) | (simp; omega)) _ | refine Below.trans ?_ (Below.mono (by assumption) (by first | omega | (simp; done) | (simp; omega)))))⟩
                · intro x hx
                  rcases List.mem_append.1 hx with hx | hx
                  · exact E2.out x (by simp [hx])
                  · simp at hx; omega
                · intro x hx
                  rw [List.dropLast_concat] at hx
                  exact E3.out x (by rw [List.dropLast_concat]; simp [hx])
                · show World.ownsRow _ _ _ _ _ _ _
                  rw [show q + 2 - 1 = q + 1 by omega, show (r2 ++ [y - 1]).length = q + 1 by simp [Hq.out]]
                  have h1 := ST.out.1
                  have e : ((r2.map (Value.int .i64) ++ [Value.int .i64 y]).set q (.int .i64 (y - 1))) = (r2 ++ [y - 1]).map (Value.int .i64) := by
                    rw [List.set_append_right _ _ (by simp [Hq.out])]
                    simp [Hq.out]
                  rw [e] at h1
                  exact h1
                · have hn := N2.out
                  have e1 : (r2 ++ [y] ++ [0]).reverse = 0 :: y :: r2.reverse := by simp
                  have e2 : (r2 ++ [y - 1]).reverse = (y - 1) :: r2.reverse := by simp
                  show _ = _
                  rw [← hn, e1, e2, norm_zero, dec_norm]
              case measure => simp [lenOf]
            · have htb : ((t : Int) == 0) = false := by simpa using ht
              go_wp2_with (fail)
              go_roundw
              case rel =>
                obtain ⟨h1, h2⟩ := HX.out t _ rfl ht
                refine ⟨k + 1, r2 ++ [y] ++ [t], _, by omega, by go_num, rfl, by omega, by omega, by rw [Hlen.out]; omega, h1, ?_, h2, hb2⟩
                rw [Hlen.out]
                simpa using O3.out
              case measure => simp [intOf]; omega
    · have hf := H.out
      rw [List.drop_of_length_le (by omega)] at hf
      have HF : Hid (d = depth l) := by simpa [deepFold, Hid] using hf
      clear hf H
      go_wp2_with (fail)
      go_ret
      exact RetV.int HF.out hbl
open Go.RowKit

set_option maxHeartbeats 400000 in
theorem c_pred_Check (l : List Node) (A : Option Addr) (c : Nat) (w : World) (h : InN w A c l) (hs : ∀ x ∈ l, x.v.s.length ≤ 9223372036854775807) :
    Calls Tryd.prog 23 #[.slice A l.length c] w (RetV w (.int .i64 (check l))) := by
  have hL := h.1
  have hC := h.2.1
  have hS := h.2.2.1
  have hdb := (depth_bd l).1
  have Hs := lh hs
  clear hs
  go_enter Tryd.func23, Tryd.ntmps23
  go_wp2_with (first
    | (go_at_call 49; refine (c_pred_End l A c 0 _ h).mono ?_; rintro e w1 ⟨rfl, hb1⟩)
    | (go_at_call 50; refine (c_ContainsFuncN l A c _ (h.below hb1) Hs.out).mono ?_; rintro e w2 ⟨rfl, hb2⟩)
    | (go_at_call 53; refine (c_pred_Depth l A c _ ((h.below hb1).below hb2)).mono ?_; rintro e w3 ⟨rfl, hb3⟩))
  all_goals (go_ret; (try have hz1 := hb1.size); (try have hz2 := hb2.size); refine RetV.int ?_ (by repeat (first | exact Below.refl _ _ | refine Below.drew ?_ | refine Below.alloc ?_ (by first | omega | (simp; done) | (simp; omega)) _ | refine Below.setCell ?_ (by first | omega | (simp; done) | (simp; omega)) _ | refine Below.trans ?_ (Below.mono (by assumption) (by first | omega | (simp; done) | (simp; omega))))); (simp_all [check] <;> first | omega | (intros; omega) | decide | grind))
set_option maxHeartbeats 1000000 in
theorem c_ref10_Kids (l : List Node) (a : Nat) (A : Option Addr) (c : Nat) (w : World) (h : InN w A c l) (ha : a < l.length) (mid : List Node) (d : Nat) (ht : Trees (parts l[a].op).toNat (l.drop (a + 1)) mid d) :
    Calls Tryd.prog 90 #[.slice A l.length c, .int .i64 a] w (RetK 31 w (cut (parts l[a].op).toNat (l.drop (a + 1)))) := by
  have hL := h.1
  have hC := h.2.1
  have hS := h.2.2.1
  obtain ⟨b, off, rfl, hb, hrow⟩ := h.at ha
  have hpb := parts_bd l[a].op
  obtain ⟨p, hp⟩ : ∃ p : Nat, (parts l[a].op).toNat = p := ⟨_, rfl⟩
  have hpi : parts l[a].op = (p : Int) := by rw [← hp]; omega
  have Hp := lh hpi
  rw [hp] at ht ⊢
  have hp2 : p ≤ 2 := by omega
  have Ht := lh ht
  have EN : Elem Tryd.prog 31 80 5 48 := Elem.mk' Tryd.underlying31 (z := .agg #[.int .i64 0, .int .i64 0, .int .i64 0, .int .i64 0, .string ⟨#[]⟩]) (by kernel_rfl) rfl (by omega) (by omega)
  have EK : Elem Tryd.prog 114 31 1 24 := Elem.mk' Tryd.underlying114 (z := .slice none 0 0) (by kernel_rfl) rfl (by omega) (by omega)
  clear hpb hp hpi ht
  have ha0 : decide ((a : Int) < 0) = false := by simp
  have ha1 : decide (l.length ≤ a) = false := by simpa using ha
  go_enter Tryd.func90, Tryd.ntmps90
  go_wp2_with (fail)
  go_loopw [5, 6, 7] (fun v fr i wr => ∃ (j : Nat) (f : Nat) (os : List Kid) (d' : Nat), j ≤ p ∧ i = .int .i64 j ∧ fr = .int .i64 f ∧ os.length = j ∧ Hid (Trees (p - j) (l.drop f) mid d') ∧
      Hid (os.map (·.2.2) ++ cut (p - j) (l.drop f) = cut p (l.drop (a + 1))) ∧ Hid (wr.ownsRow w.heap.size 31 1 v os.length (os.flatMap Kid.cells)) ∧
      Hid (∀ o ∈ os, o.2.2.length ≤ l.length ∧ wr.ownsRow w.heap.size 80 5 (Kid.val o) o.2.2.length (o.2.2.flatMap Node.cells)) ∧ f ≤ l.length ∧ Below w.heap.size w wr)
    (fun _ _ i _ => p - (intOf i).toNat)
  case atStart =>
    refine ⟨0, a + 1, [], d, by omega, rfl, by go_num, rfl, Ht.out, rfl, ?_, ?_, by omega, (by repeat (first | exact Below.refl _ _ | refine Below.drew ?_ | refine Below.alloc ?_ (by first | omega | (simp; done) | (simp; omega)) _ | refine Below.setCell ?_ (by first | omega | (simp; done) | (simp; omega)) _ | refine Below.trans ?_ (Below.mono (by assumption) (by first | omega | (simp; done) | (simp; omega)))))⟩
    · exact World.ownsRow_lit w #[] 0 (Nat.le_refl _) (by unfold maxLen; omega) (by simp)
    · intro o ho; cases ho
  case round =>
    obtain ⟨j, f, os, d', hj, rfl, rfl, hos, T, N, O, K, hf, hbl⟩ := hrel
    have hbz := hbl.size
    have e0 := ((hrow.below hbl hb).node ha rfl).1
    by_cases hlt : j < p
    · obtain ⟨n, hn⟩ : ∃ n, p - j = n + 1 := ⟨p - j - 1, by omega⟩
      have T' := T.out
      have N' := N.out
      rw [hn] at T' N'
      obtain ⟨s, d1, d2, hs1, hs2, hend, hcut, T2, Tr⟩ := cut_step T'
      rw [hcut] at N'
      have Hend := lh hend
      have NN := lh N'
      have TT := lh T2
      have Hn := lh hn
      have hlk : ((l.drop f).take s).length = s := by rw [List.length_take, List.length_drop]; omega
      have Hlk := lh hlk
      obtain ⟨Av, cv, rfl, hcv1, hcv2⟩ := own_form O.out
      obtain ⟨m, hm⟩ : ∃ m, os.length = m := ⟨_, rfl⟩
      have hO := O.out
      rw [hm] at hO
      have O2 := lh hO
      have hmj : m = j := by rw [← hm]; exact hos
      have Hm := lh hm
      have Hmj := lh hmj
      rw [hm] at hcv1 ⊢
      have hm2 : m ≤ 2 := by omega
      clear T N O T' N' hend hcut T2 hn hlk hO hos hmj hm e0
      have e0 := ((hrow.below hbl hb).node ha rfl).1
      go_wp2_with (first
        | (go_at_call 89; refine (c_ref10_Parts _ _).mono ?_; rintro e w2 ⟨rfl, hb2⟩; rw [Hp.out]; have hz2 := hb2.size)
        | (go_at_call 62; refine (c_ref10_End l _ c _ _ (h.below (by repeat (first | exact Below.refl _ _ | refine Below.drew ?_ | refine Below.alloc ?_ (by first | omega | (simp; done) | (simp; omega)) _ | refine Below.setCell ?_ (by first | omega | (simp; done) | (simp; omega)) _ | refine Below.trans ?_ (Below.mono (by assumption) (by first | omega | (simp; done) | (simp; omega))))))).mono ?_; rintro e w3 ⟨rfl, hb3⟩; rw [Hend.out]; have hz3 := hb3.size)
        | (at_builtin; refine Stop.out ?_))
      refine Stop.mk (wpList_app _ rfl (.tmp 34) (.tmp 38) EN rfl w3.heap.size (.slice (some ⟨w3.heap.size, 0, none⟩) 0 0) 0 [] rfl (World.ownsRow_lit w3 #[] 0 (Nat.le_refl _) (by unfold maxLen; omega) (by simp)) _ _ _ (((l.drop f).take s).flatMap Node.cells) rfl ?_ (nodes_one _) (by omega) ?_ ?_)
      · have hB : Below w.heap.size w (w3.alloc (.cells #[] 80)) := (by repeat (first | exact Below.refl _ _ | refine Below.drew ?_ | refine Below.alloc ?_ (by first | omega | (simp; done) | (simp; omega)) _ | refine Below.setCell ?_ (by first | omega | (simp; done) | (simp; omega)) _ | refine Below.trans ?_ (Below.mono (by assumption) (by first | omega | (simp; done) | (simp; omega)))))
        have hsub := (h.below hB).sub (i := f) (j := f + s) (by omega) hs2 ⟨by simp only [World.size_alloc]; omega, hrow.below hB hb⟩
        rw [show f + s - f = s by omega] at hsub ⊢
        have h1 := Src.of_in Node.cells_len (by omega) hsub
        rw [Hlk.out] at h1
        exact h1
      · simp only [World.size_alloc]; omega
      intro v4 w4 own4 g4 b4 at4
      obtain ⟨A4, c4, rfl, _, _⟩ := own_form own4
      rw [show 0 + (f + s - f) = s by omega, List.nil_append] at own4
      have hz4 := g4.size
      simp only [World.size_alloc] at hz4
      have hb4 : Below w.heap.size w w4 := by
        refine Below.trans (b := w3.alloc (.cells #[] 80)) (by repeat (first | exact Below.refl _ _ | refine Below.drew ?_ | refine Below.alloc ?_ (by first | omega | (simp; done) | (simp; omega)) _ | refine Below.setCell ?_ (by first | omega | (simp; done) | (simp; omega)) _ | refine Below.trans ?_ (Below.mono (by assumption) (by first | omega | (simp; done) | (simp; omega))))) (b4.mono (by omega))
      have keep4 : ∀ (b1 : Nat) (e1 : TypeId) (s1 n1 : Nat) (v1 : Value) (x1 : List Value), wr.ownsRow b1 e1 s1 v1 n1 x1 → w4.ownsRow b1 e1 s1 v1 n1 x1 := by
        intro b1 e1 s1 n1 v1 x1 h1
        have h2 := own_below (own_below h1 hb2) hb3
        refine own_kept_lt (g := w3.heap.size) (own_below h2 ((Below.refl _ _).alloc (Nat.le_refl _) _)) g4 (fun k hk => ?_)
        have := (h2.lt k hk).2
        omega
      have K4 := lh keep4
      have O4 := lh own4
      clear own4 keep4 at4 b4 g4
      go_wp2_with ((at_builtin; refine Stop.out ?_))
      refine Stop.mk (wpList_app _ rfl (.tmp 33) (.tmp 40) EK rfl w.heap.size (.slice Av m cv) m (os.flatMap Kid.cells) rfl (own_below (K4.out _ _ _ _ _ _ O2.out) ((Below.refl _ _).alloc (Nat.le_refl _) _)) _ 1 1 [.slice A4 s c4] rfl (Src.new _ _ _ _ rfl) (by simp [Value.oneCell']) (by omega) ?_ ?_)
      · simp only [World.size_alloc]; omega
      intro v5 w5 own5 g5 b5 at5
      go_wp2_with (fail)
      have hz5 := g5.size
      have hb5 : Below w.heap.size w w5 := by
        refine Below.trans (b := w4.alloc (.cells #[.slice A4 s c4] 31)) (by repeat (first | exact Below.refl _ _ | refine Below.drew ?_ | refine Below.alloc ?_ (by first | omega | (simp; done) | (simp; omega)) _ | refine Below.setCell ?_ (by first | omega | (simp; done) | (simp; omega)) _ | refine Below.trans ?_ (Below.mono (by assumption) (by first | omega | (simp; done) | (simp; omega))))) (b5.mono (by omega))
      go_roundw
      case rel =>
        have hnn := NN.out
        refine ⟨j + 1, f + s, os ++ [(A4, c4, (l.drop f).take s)], d1, by omega, by go_num, by go_num, by have := Hmj.out; simp [Hm.out, this], ?_, ?_, ?_, ?_, by omega, hb5⟩
        · show Trees _ _ _ _
          rw [show p - (j + 1) = n by have := Hn.out; omega]; exact TT.out
        · show _ = _
          rw [show p - (j + 1) = n by have := Hn.out; omega, ← hnn]
          simp
        · show World.ownsRow _ _ _ _ _ _ _
          have e : (os ++ [((A4, c4, (l.drop f).take s) : Kid)]).flatMap Kid.cells = os.flatMap Kid.cells ++ [.slice A4 s c4] := by
            simp only [List.flatMap_append, List.flatMap_cons, List.flatMap_nil, Kid.cells, Kid.val, Hlk.out, List.append_nil]
          rw [e, List.length_append, Hm.out]
          exact own5
        · intro o ho
          have keep5 : ∀ {b1 : Nat} {s1 n1 : Nat} {v1 : Value} {x1 : List Value}, w4.ownsRow b1 80 s1 v1 n1 x1 → w5.ownsRow b1 80 s1 v1 n1 x1 := by
            intro b1 s1 n1 v1 x1 h1
            exact own_kept_ne (own_below h1 ((Below.refl _ _).alloc (Nat.le_refl _) _)) (own_below (K4.out _ _ _ _ _ _ O2.out) ((Below.refl _ _).alloc (Nat.le_refl _) _)) (by decide) g5
          rcases List.mem_append.1 ho with ho | ho
          · exact ⟨(K.out o ho).1, keep5 (K4.out _ _ _ _ _ _ (K.out o ho).2)⟩
          · simp only [List.mem_singleton] at ho
            subst ho
            refine ⟨by show _ ≤ _; rw [Hlk.out]; omega, ?_⟩
            show World.ownsRow _ _ _ _ (.slice A4 (List.length _) c4) _ _
            rw [Hlk.out]
            exact own_base (keep5 O4.out) (by omega)
      case measure => simp [intOf]; omega
    · have hjp : j = p := by omega
      have hp0 : p - j = 0 := by omega
      have N' := N.out
      rw [hp0] at N'
      obtain ⟨Av, cv, rfl, hcv1, hcv2⟩ := own_form O.out
      have e0 := ((hrow.below hbl hb).node ha rfl).1
      have NN := lh N'
      clear N N' T Ht hp0 hos
      go_wp2_with (first
        | (go_at_call 89; refine (c_ref10_Parts _ _).mono ?_; rintro e w2 ⟨rfl, hb2⟩; rw [Hp.out]; have hz2 := hb2.size))
      go_ret
      refine ⟨os, ?_, ⟨_, rfl, own_below O.out hb2, (by repeat (first | exact Below.refl _ _ | refine Below.drew ?_ | refine Below.alloc ?_ (by first | omega | (simp; done) | (simp; omega)) _ | refine Below.setCell ?_ (by first | omega | (simp; done) | (simp; omega)) _ | refine Below.trans ?_ (Below.mono (by assumption) (by first | omega | (simp; done) | (simp; omega)))))⟩, fun o ho => ?_⟩
      · have := NN.out; simpa [cut] using this
      · obtain ⟨h1, h2⟩ := K.out o ho
        obtain ⟨A', c', he, hin⟩ := In.of_own Node.cells_len (own_below h2 hb2) (by omega)
        have e1 : o.1 = A' ∧ o.2.1 = c' := by
          have := he
          simp only [Kid.val, Value.slice.injEq, true_and] at this
          exact this
        rw [e1.1, e1.2]; exact hin
open Go.RowKit

set_option maxHeartbeats 1000000 in
theorem c_ref10_Depth (n : Nat) : ∀ (l : List Node) (A : Option Addr) (c : Nat) (w : World), l.length ≤ n → InN w A c l →
    Calls Tryd.prog 63 #[.slice A l.length c] w (RetV w (.int .i64 (depth l))) := by
  induction n with
  | zero =>
    intro l A c w hn h
    have h0 : l.length = 0 := by omega
    have H : Hid (depth l = 0) := by have := List.eq_nil_of_length_eq_zero h0; subst this; rfl
    go_enter Tryd.func63, Tryd.ntmps63
    go_wp2_with (fail)
    go_ret
    exact RetV.int H.out.symm (Below.refl _ _)
  | succ n ih =>
    intro l A c w hn h
    have IH := lh ih
    clear ih
    have hL := h.1
    have hC := h.2.1
    have hS := h.2.2.1
    by_cases h0 : l.length = 0
    · have H : Hid (depth l = 0) := by have := List.eq_nil_of_length_eq_zero h0; subst this; rfl
      go_enter Tryd.func63, Tryd.ntmps63
      go_wp2_with (fail)
      go_ret
      exact RetV.int H.out.symm (Below.refl _ _)
    have hl0 : ((l.length : Int) == 0) = false := by simpa using h0
    by_cases h1 : endAt l 0 = l.length
    case neg =>
      have H : Hid (depth l = 0) := by unfold Hid depth; rw [if_pos (.inr h1)]
      have hne : ((endAt l 0 : Int) != (l.length : Int)) = true := by simpa using h1
      go_enter Tryd.func63, Tryd.ntmps63
      go_wp2_with (go_at_call 62; refine (c_ref10_End l A c 0 _ h).mono ?_; rintro e w1 ⟨rfl, hb1⟩)
      go_ret
      exact RetV.int H.out.symm (by repeat (first | exact Below.refl _ _ | refine Below.drew ?_ | refine Below.alloc ?_ (by first | omega | (simp; done) | (simp; omega)) _ | refine Below.setCell ?_ (by first | omega | (simp; done) | (simp; omega)) _ | refine Below.trans ?_ (Below.mono (by assumption) (by first | omega | (simp; done) | (simp; omega)))))
    obtain ⟨d, ht⟩ := tree_of_end (by rintro rfl; simp at h0) h1
    have hlt : 0 < l.length := by omega
    have hdt := depth_tree ht
    obtain ⟨x, r, d', hl, htr, hd⟩ := ht.head
    have hx : l[0] = x := by subst hl; rfl
    have hr : l.drop 1 = r := by subst hl; rfl
    rw [← hx, ← hr] at htr
    obtain ⟨hc1, hc2, hc3⟩ := cut_trees htr
    have hdc := depth_cut htr 0 (by omega)
    have hne : ((endAt l 0 : Int) != (l.length : Int)) = false := by simpa using h1
    obtain ⟨ks, hks⟩ : ∃ ks, cut (parts l[0].op).toNat (l.drop (0 + 1)) = ks := ⟨_, rfl⟩
    have hks' : cut (parts l[0].op).toNat (l.drop 1) = ks := hks
    rw [hks'] at hc1 hc2 hc3 hdc
    have hkl : ∀ k ∈ ks, k.length ≤ n := by
      intro k hk
      have := flatten_len ks k hk
      have h2 := congrArg List.length hc2
      simp only [List.append_nil, List.length_drop] at h2
      omega
    have HD : Hid (depth l = (ks.map depth).foldl max 0 + 1) := by
      show _ = _
      rw [hdt, hdc, hd]; omega
    have Hks := lh hks
    have Hkl := lh hkl
    have htr0 := lh htr
    have hp2 := parts_bd l[0].op
    have hkl2 : ks.length ≤ 2 := by omega
    have hpos : ∀ k, 0 ≤ depth k := fun k => (depth_bd k).1
    have hbd : ∀ k ∈ ks, depth k ≤ 4294967296 := by
      intro k hk
      have h3 := (depth_bd k).2
      have h4 := flatten_len ks k hk
      have h2 := congrArg List.length hc2
      simp only [List.append_nil, List.length_drop] at h2
      omega
    have Hpos := lh hpos
    have Hbd := lh hbd
    clear h1 ht hdt hl htr hd hx hr hc1 hc2 hc3 hdc hks hks' hkl hp2 hpos hbd
    go_enter Tryd.func63, Tryd.ntmps63
    go_wp2_with (go_at_call 62; refine (c_ref10_End l A c 0 _ h).mono ?_; rintro e w1 ⟨rfl, hb1⟩)
    refine (c_ref10_Kids l 0 A c _ (h.below hb1) hlt _ _ htr0.out).mono ?_
    rintro e w2 ⟨os, hos, ⟨v, rfl, own, hb2⟩, hin⟩
    rw [Hks.out] at hos
    have hol : os.length = ks.length := by rw [← hos]; simp
    obtain ⟨Av, cv, rfl, hv1, hv2⟩ := own_form own
    have Hb2 := lh hb2
    have Own := lh own
    have Hin := lh hin
    have Hos := lh hos
    have hbw : Below w.heap.size w w2 := by refine Below.trans hb1 (hb2.mono hb1.size)
    have Hbw := lh hbw
    have hol2 : os.length ≤ 2 := by omega
    have Hol := lh hol
    clear hb1 hb2 own hin hos hol hbw
    go_wp2_with (fail)
    go_loopw [4, 5] (fun m i wr => ∃ (k : Nat) (dm : Int), k ≤ os.length ∧ i = .int .i64 k ∧ m = .int .i64 dm ∧ 0 ≤ dm ∧ dm ≤ 4294967296 ∧ Hid (((ks.take k).map depth).foldl max 0 = dm) ∧ Below w2.heap.size w2 wr)
      (fun _ i _ => os.length - (intOf i).toNat)
    case atStart => exact ⟨0, 0, by omega, rfl, rfl, by omega, by omega, rfl, Below.refl _ _⟩
    case round =>
      obtain ⟨k, dm, hk, rfl, rfl, hd0, hd1, HM, hbl⟩ := hrel
      have hbz := hbl.size
      by_cases hlt2 : k < os.length
      · have hlk : k < ks.length := by have := Hol.out; omega
        have hkk : (os[k]).2.2 = ks[k] := by
          have := Hos.out
          subst this
          simp
        obtain ⟨g, cg, he, hg1, hg2, hg3, hg4⟩ := own_form' Own.out (by omega)
        have hAv : Av = some ⟨g, 0, none⟩ := by simp only [Value.slice.injEq] at he; exact he.1
        subst hAv
        have hcell : wr.cell? ⟨g, k, none⟩ = some (.slice os[k].1 os[k].2.2.length os[k].2.1) := by
          have h1 := Own.out.cells (g := g) rfl k
          rw [add_lit] at h1
          rw [hbl.cell (p := ⟨g, k, none⟩) hg4]
          refine h1 _ ?_
          have := flat_get (k := 1) (cs := Kid.cells) (fun _ => rfl) os k hlt2 0 (by omega)
          rw [Nat.mul_one, Nat.add_zero] at this
          rw [this]; rfl
        have hin := Hin.out os[k] (List.getElem_mem hlt2)
        have hle : (os[k]).2.2.length ≤ n := by rw [hkk]; exact Hkl.out _ (List.getElem_mem hlk)
        have hm2 : depth (os[k]).2.2 = depth ks[k] := by rw [hkk]
        have hpk := Hpos.out ks[k]
        have hbk := Hbd.out ks[k] (List.getElem_mem hlk)
        have Hm2 := lh hm2
        have Hin2 := lh (hin.below hbl)
        clear hin hkk hm2 he
        go_wp2_with (go_at_call 63; refine (IH.out _ _ _ _ hle Hin2.out).mono ?_; rintro e w3 ⟨rfl, hb3⟩; rw [Hm2.out])
        go_roundw
        case rel =>
          refine ⟨k + 1, _, by omega, by go_num, rfl, by omega, by omega, ?_, (by repeat (first | exact Below.refl _ _ | refine Below.drew ?_ | refine Below.alloc ?_ (by first | omega | (simp; done) | (simp; omega)) _ | refine Below.setCell ?_ (by first | omega | (simp; done) | (simp; omega)) _ | refine Below.trans ?_ (Below.mono (by assumption) (by first | omega | (simp; done) | (simp; omega)))))⟩
          show _ = _
          rw [List.take_succ_eq_append_getElem hlk, List.map_append, List.foldl_append, HM.out]
          rfl
        case measure => simp [intOf]; omega
      · have HM2 : Hid ((ks.map depth).foldl max 0 = dm) := by
          have h1 := HM.out
          rw [List.take_of_length_le (by have := Hol.out; omega)] at h1
          exact h1
        clear HM
        go_wp2_with (fail)
        go_ret
        refine RetV.int ?_ (Below.trans Hbw.out (hbl.mono Hbw.out.size))
        rw [HD.out, HM2.out]
set_option maxHeartbeats 1000000 in
theorem c_ref10_Check (l : List Node) (A : Option Addr) (c : Nat) (w : World) (h : InN w A c l) (hs : ∀ x ∈ l, x.v.s.length ≤ 9223372036854775807) :
    Calls Tryd.prog 31 #[.slice A l.length c] w (RetV w (.int .i64 (check l))) := by
  have hL := h.1
  have hC := h.2.1
  have hS := h.2.2.1
  have Hs := lh hs
  clear hs
  by_cases h31 : 31 < l.length
  · have H : Hid (check l = 4) := by unfold Hid check; rw [if_pos h31]
    go_enter Tryd.func31, Tryd.ntmps31
    go_wp2_with (fail)
    go_ret
    exact RetV.int H.out.symm (Below.refl _ _)
  have h31b : decide (31 < (l.length : Int)) = false := by simp; omega
  have hlt31 : l.length ≤ 31 := by omega
  have HC : Hid (check l = if (l.any fun x => !x.ok) = true then 1 else if l.length = 0 ∨ endAt l 0 ≠ l.length then 1 else if 8 < depth l then 5 else 0) := by
    unfold Hid check
    rw [if_neg h31]
    by_cases h1 : l.length = 0 ∨ endAt l 0 ≠ l.length <;> by_cases h2 : (l.any fun x => !x.ok) = true <;> simp only [h1, h2, if_true, if_false, ite_self]
  clear h31
  go_enter Tryd.func31, Tryd.ntmps31
  go_wp2_with (fail)
  go_loopw [3] (fun i wr => ∃ k : Nat, k ≤ l.length ∧ i = .int .i64 k ∧ Hid (((l.take k).any fun x => !x.ok) = false) ∧ Below w.heap.size w wr) (fun i _ => l.length - (intOf i).toNat)
  case atStart => exact ⟨0, by omega, rfl, by simp [Hid], Below.refl _ _⟩
  case round =>
    obtain ⟨k, hk, rfl, H, hbl⟩ := hrel
    have hbz := hbl.size
    by_cases hlt : k < l.length
    · obtain ⟨b, off, rfl, hb, hrow⟩ := h.at hlt
      obtain ⟨e0, e1, e2, e3, e4⟩ := (hrow.below hbl hb).node hlt rfl
      have hs1 := Hs.out l[k] (List.getElem_mem hlt)
      clear h
      cases hok : l[k].ok
      · have H1 : Hid (check l = 1) := by
          unfold Hid
          rw [HC.out, if_pos]
          rw [List.any_eq_true]
          exact ⟨l[k], List.getElem_mem hlt, by simp [hok]⟩
        go_wp2_with (go_at_call 61; refine (c_ref10_Node l[k] _ hs1).mono ?_; rintro e w1 ⟨rfl, hb1⟩)
        go_ret
        exact RetV.int H1.out.symm (by repeat (first | exact Below.refl _ _ | refine Below.drew ?_ | refine Below.alloc ?_ (by first | omega | (simp; done) | (simp; omega)) _ | refine Below.setCell ?_ (by first | omega | (simp; done) | (simp; omega)) _ | refine Below.trans ?_ (Below.mono (by assumption) (by first | omega | (simp; done) | (simp; omega)))))
      · go_wp2_with (go_at_call 61; refine (c_ref10_Node l[k] _ hs1).mono ?_; rintro e w1 ⟨rfl, hb1⟩)
        go_roundw
        case rel =>
          refine ⟨k + 1, by omega, by go_num, ?_, (by repeat (first | exact Below.refl _ _ | refine Below.drew ?_ | refine Below.alloc ?_ (by first | omega | (simp; done) | (simp; omega)) _ | refine Below.setCell ?_ (by first | omega | (simp; done) | (simp; omega)) _ | refine Below.trans ?_ (Below.mono (by assumption) (by first | omega | (simp; done) | (simp; omega)))))⟩
          show List.any _ _ = false
          rw [List.take_succ_eq_append_getElem hlt, List.any_append, H.out]
          simp [hok]
        case measure => simp [intOf]; omega
    · have HC2 : Hid (check l = if l.length = 0 ∨ endAt l 0 ≠ l.length then 1 else if 8 < depth l then 5 else 0) := by
        have h1 := H.out
        rw [List.take_of_length_le (by omega)] at h1
        unfold Hid
        rw [HC.out, h1]; simp
      clear H HC
      go_wp2_with (first
        | (go_at_call 62; refine (c_ref10_End l A c 0 _ (h.below hbl)).mono ?_; rintro e w1 ⟨rfl, hb1⟩)
        | (go_at_call 63; refine (c_ref10_Depth l.length l A c _ (Nat.le_refl _) ((h.below hbl).below hb1)).mono ?_; rintro e w3 ⟨rfl, hb3⟩))
      all_goals (go_ret; (try have hz1 := hb1.size); refine RetV.int ?_ (by repeat (first | exact Below.refl _ _ | refine Below.drew ?_ | refine Below.alloc ?_ (by first | omega | (simp; done) | (simp; omega)) _ | refine Below.setCell ?_ (by first | omega | (simp; done) | (simp; omega)) _ | refine Below.trans ?_ (Below.mono (by assumption) (by first | omega | (simp; done) | (simp; omega))))); have HC3 := HC2.out; (try simp only [ne_eq] at *); (simp_all [] <;> first | omega | (intros; omega) | decide | grind))
end Go.Proofs.YtiedkcijjfmhaaaDoor
