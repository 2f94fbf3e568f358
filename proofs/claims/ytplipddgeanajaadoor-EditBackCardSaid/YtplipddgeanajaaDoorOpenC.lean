/-
  Arguments opened: cards, patches, edits.
-/
import Derived.Test.YtplipddgeanajaaDoorOpenV
import Derived.Test.YtplipddgeanajaaDoorAgg
namespace Go.Proofs.YtplipddgeanajaaDoor
open Go.ChangeShapes Go.WideShapes Go.ChangeAt Go.RowKit Go.Deep
open Go.ChangeMaps (open_string shut_string)

theorem u32_range {n : Int} (h : (Lit.int .u32 n).wf = true) : 0 ≤ n ∧ n < 4294967296 := by
  have := (show 0 ≤ n ∧ n ≤ 4294967295 by simpa [Lit.wf, IntKind.min, IntKind.max, IntKind.signed, IntKind.bits] using h)
  omega
theorem c_u32 : Tryd.prog.cellsOf 22 = 1 := by kernel_rfl
theorem c_f8 : Tryd.prog.cellsOf 25 = 24 := by kernel_rfl
theorem c_card : Tryd.prog.cellsOf 129 = 27 := by kernel_rfl
theorem c_patch : Tryd.prog.cellsOf 27 = 26 := by kernel_rfl
theorem c_edit : Tryd.prog.cellsOf 29 = 29 := by kernel_rfl
theorem cons3 {α : Type} {l : List α} (h : 3 ≤ l.length) : ∃ a b c r, l = a :: b :: c :: r := by
  match l, h with
  | a :: b :: c :: r, _ => exact ⟨a, b, c, r, rfl⟩
theorem cons2 {α : Type} {l : List α} (h : 2 ≤ l.length) : ∃ a b r, l = a :: b :: r := by
  match l, h with
  | a :: b :: r, _ => exact ⟨a, b, r, rfl⟩
theorem list4 {α : Type} {l : List α} (h : l.length = 4) : ∃ a b c d, l = [a, b, c, d] := by
  match l, h with
  | [a, b, c, d], _ => exact ⟨a, b, c, d, rfl⟩
section
variable {H : Type} {enc : TypeId × Value → H} {w : World} {base : Nat} {spare : Nat → Bool} {held : Bool}
/-- Cells that lie three by three. -/
theorem flat_three : ∀ {l : List Val} {cs : List Value}, cs.length = l.length * 3 → (∀ i (h : i < l.length), (cs.drop (i * 3)).take 3 = l[i].cells) → cs = l.flatMap Val.cells
  | [], cs, h, _ => by simp at h; subst h; rfl
  | v :: l, cs, h, hi => by
    have h0 := hi 0 (by simp)
    simp only [Nat.zero_mul, List.drop_zero, List.getElem_cons_zero] at h0
    rw [List.length_cons] at h
    rw [List.flatMap_cons, ← h0]
    have ih := flat_three (l := l) (cs := cs.drop 3) (by rw [List.length_drop]; omega) (fun i hi' => by
      have := hi (i + 1) (by rw [List.length_cons]; omega)
      rw [List.drop_drop, show 3 + i * 3 = (i + 1) * 3 by omega, this, List.getElem_cons_succ])
    rw [← ih, List.take_append_drop]
theorem open_f8 {fuel : Nat} {cs : List Value} {x : DataW H × List MemPlace} (h : DataW.trod enc Tryd.prog w base spare held fuel 25 cs = some x) :
    ∃ f : List Val, f.length = 8 ∧ cs = f.flatMap Val.cells ∧ ∀ v ∈ f, v.wf := by
  obtain ⟨xs, m, _, _, hl, hxl, hf⟩ := DataW.trod_array Tryd.underlying25 h
  rw [c_f8] at hl
  have hq : ∀ i, i < 8 → ∃ v : Val, (cs.drop (i * 3)).take 3 = v.cells ∧ v.wf := by
    intro i hi
    have h1 := hf i hi
    rw [c_value, List.getElem?_eq_getElem (by omega)] at h1
    obtain ⟨v, hv, _, wv⟩ := open_val h1
    exact ⟨v, hv, wv⟩
  obtain ⟨l, hll, hq⟩ := list_of 8 hq
  refine ⟨l, hll, flat_three (by omega) (fun i hi => (hq i hi).1), fun v hv => ?_⟩
  obtain ⟨i, hi, rfl⟩ := List.getElem_of_mem hv
  exact (hq i hi).2
theorem open_u32 {fuel : Nat} {cs : List Value} {x : DataW H × List MemPlace} (h : DataW.trod enc Tryd.prog w base spare held fuel 22 cs = some x) : ∃ n : Nat, cs = [.int .u32 n] ∧ n < 4294967296 := by
  obtain ⟨a, ha, _, wa⟩ := DataW.trod_int Tryd.underlying22 h
  have := u32_range wa
  exact ⟨a.toNat, by rw [ha, Int.toNat_of_nonneg this.1], by omega⟩
theorem open_i64 {fuel : Nat} {cs : List Value} {x : DataW H × List MemPlace} (h : DataW.trod enc Tryd.prog w base spare held fuel 3 cs = some x) : ∃ n : Int, cs = [.int .i64 n] ∧ I64 n := by
  obtain ⟨a, ha, _, wa⟩ := DataW.trod_int Tryd.underlying3 h
  exact ⟨a, ha, i64_range wa⟩
theorem open_card {fuel : Nat} {cs : List Value} {x : DataW H × List MemPlace} (h : DataW.trod enc Tryd.prog w base spare held fuel 129 cs = some x) :
    ∃ c : Card, cs = c.arr.toList ∧ c.f.length = 8 ∧ c.lab < 4294967296 ∧ I64 c.id ∧ I64 c.ver ∧ ∀ v ∈ c.f, v.wf := by
  obtain ⟨xs, n, _, _, hl, hxl, hf⟩ := DataW.trod_struct Tryd.underlying129 h
  rw [c_card] at hl
  obtain ⟨q0, q1, q2, r, rfl⟩ := cons3 (l := cs) (by omega)
  have hr : r.length = 24 := by simpa using hl
  obtain ⟨x0, x1, x2, x3, rfl⟩ := list4 (show xs.length = 4 from hxl)
  have h0 := hf 0
  have h1 := hf 1
  have h2 := hf 2
  have h3 := hf 3
  simp [c_int, c_u32, c_f8] at h0 h1 h2 h3
  rw [List.take_of_length_le (by omega)] at h3
  obtain ⟨a, ha, wa⟩ := open_i64 h0
  obtain ⟨b, hb, wb⟩ := open_i64 h1
  obtain ⟨m, hm, wm⟩ := open_u32 h2
  obtain ⟨f, hf8, hff, wf⟩ := open_f8 h3
  simp at ha hb hm
  subst ha hb hm hff
  exact ⟨⟨a, b, m, f⟩, by unfold Card.arr; simp, hf8, wm, wa, wb, wf⟩
theorem open_patch {fuel : Nat} {cs : List Value} {x : DataW H × List MemPlace} (h : DataW.trod enc Tryd.prog w base spare held fuel 27 cs = some x) :
    ∃ c : Patch, cs = c.arr.toList ∧ c.f.length = 8 ∧ c.mask < 4294967296 ∧ c.lab < 4294967296 ∧ ∀ v ∈ c.f, v.wf := by
  obtain ⟨xs, n, _, _, hl, hxl, hf⟩ := DataW.trod_struct Tryd.underlying27 h
  rw [c_patch] at hl
  obtain ⟨q0, q1, r, rfl⟩ := cons2 (l := cs) (by omega)
  have hr : r.length = 24 := by simpa using hl
  obtain ⟨x0, x1, x2, rfl⟩ := list3 (show xs.length = 3 from hxl)
  have h0 := hf 0
  have h1 := hf 1
  have h2 := hf 2
  simp [c_u32, c_f8] at h0 h1 h2
  rw [List.take_of_length_le (by omega)] at h2
  obtain ⟨a, ha, wa⟩ := open_u32 h0
  obtain ⟨b, hb, wb⟩ := open_u32 h1
  obtain ⟨f, hf8, hff, wf⟩ := open_f8 h2
  simp at ha hb
  subst ha hb hff
  exact ⟨⟨a, b, f⟩, by unfold Patch.arr; simp, hf8, wa, wb, wf⟩
theorem open_edit {fuel : Nat} {cs : List Value} {x : DataW H × List MemPlace} (h : DataW.trod enc Tryd.prog w base spare held fuel 29 cs = some x) :
    ∃ c : Edit, cs = c.arr.toList ∧ c.p.f.length = 8 ∧ c.p.mask < 4294967296 ∧ c.p.lab < 4294967296 ∧ I64 c.kind ∧ I64 c.id ∧ I64 c.group ∧ ∀ v ∈ c.p.f, v.wf := by
  obtain ⟨xs, n, _, _, hl, hxl, hf⟩ := DataW.trod_struct Tryd.underlying29 h
  rw [c_edit] at hl
  obtain ⟨q0, q1, q2, r, rfl⟩ := cons3 (l := cs) (by omega)
  have hr : r.length = 26 := by simpa using hl
  obtain ⟨x0, x1, x2, x3, rfl⟩ := list4 (show xs.length = 4 from hxl)
  have h0 := hf 0
  have h1 := hf 1
  have h2 := hf 2
  have h3 := hf 3
  simp [c_int, c_patch] at h0 h1 h2 h3
  rw [List.take_of_length_le (by omega)] at h3
  obtain ⟨a, ha, wa⟩ := open_i64 h0
  obtain ⟨b, hb, wb⟩ := open_i64 h1
  obtain ⟨c, hc, wc⟩ := open_i64 h2
  obtain ⟨p, hp, wf, wm, wl, wv⟩ := open_patch h3
  simp at ha hb hc
  subst ha hb hc hp
  exact ⟨⟨a, b, c, p⟩, by unfold Edit.arr Patch.arr; simp, wf, wm, wl, wa, wb, wc, wv⟩
end
end Go.Proofs.YtplipddgeanajaaDoor
