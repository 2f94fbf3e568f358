/-
  Lemmas (walks and plain laws), in one text.
-/
import Derived.Test.YtldoedmclfbgpaaEa1
import Derived.Test.YtldoedmclfbgpaaEa4
import Derived.Test.YtldoedmclfbgpaaEa5
namespace Go.Proofs.Ytldoedmclfbgpaa
open Go.RowKit

def arr2c (a b : Card) : Array Value := (a.arr.toList ++ b.arr.toList).toArray
theorem arr2c_0 {a b : Card} {j : Nat} {u : Value} (h : a.arr[j]? = some u) : (arr2c a b)[j]? = some u := by
  have hj : j < a.arr.toList.length := by
    have := (Array.getElem?_eq_some_iff.1 h).1
    simpa using this
  unfold arr2c
  rw [List.getElem?_toArray, List.getElem?_append_left hj, Array.getElem?_toList]
  exact h
theorem arr2c_1 {a b : Card} (h8 : a.f.length = 8) {j : Nat} {u : Value} (h : b.arr[j]? = some u) : (arr2c a b)[27 + j]? = some u := by
  have hl : a.arr.toList.length = 27 := by rw [Array.length_toList, Card.arr_size, h8]
  unfold arr2c
  rw [List.getElem?_toArray, List.getElem?_append_right (by omega), hl, Array.getElem?_toList, Nat.add_sub_cancel_left]
  exact h
set_option maxHeartbeats 1000000 in
theorem law13_EvalAsks_bad (va : Value) (ea : Int) (X Y : Array Value) (w : World) (ka : ∀ w', Below w.heap.size w w' → Calls Try.prog 15 #[va] w' (RetV w' (.int .i64 ea))) (h : ea ≠ 0) (hM : MaxV w) :
    Calls Try.prog 8 #[va, .agg X, .agg Y] w (RetV w (.bool true)) := by
  have HM := Lib.hid (fun w' (hb : Below w.heap.size w w') => hM.below hb)
  have KA := Lib.hid ka
  have b1 : (ea != 0) = true := by simpa using h
  clear ka hM h
  obtain ⟨w1, hw1⟩ : ∃ w1, w1 = (w.alloc (.cells (X) 67)).alloc (.cells (Y) 68) := ⟨_, rfl⟩
  obtain ⟨S1, C1, G1⟩ := two_blocks w w1 _ _ _ _ hw1
  have S1 := Lib.hid S1
  have C1 := Lib.hid C1
  have G1 := Lib.hid G1
  have s1 := S1.out.size
  go_enter Try.func8, Try.ntmps8
  go_wp2_with (rw [← hw1]; clear hw1)
  refine (KA.out w1 S1.out).mono ?_
  rintro e w2 ⟨rfl, hb2⟩
  have S2 := Lib.hid (S1.out.trans (hb2.mono s1))
  clear hb2
  go_wp2_with (fail)
  refine (c_law13_awake _ (HM.out _ S2.out)).mono ?_
  rintro e w9 ⟨rfl, hb9⟩
  go_wp2_with (fail)
  go_ret
  exact RetV.bool rfl (S2.out.trans (hb9.mono S2.out.size))
set_option maxHeartbeats 1000000 in
theorem law13_EvalAsks_long0 (va : Value) (c0 c1 : Card) (g0 g1 : Nat) (w : World) (ka : ∀ w', Below w.heap.size w w' → Calls Try.prog 15 #[va] w' (RetV w' (.int .i64 0))) (h8 : c0.f.length = 8) (hf : longF c0.f = true) (hM : MaxV w) :
    Calls Try.prog 8 #[va, .agg (arr2c c0 c1), .agg #[.int .u32 g0, .int .u32 g1]] w (RetV w (.bool true)) := by
  have HM := Lib.hid (fun w' (hb : Below w.heap.size w w') => hM.below hb)
  have KA := Lib.hid ka
  clear ka hM
  obtain ⟨w1, hw1⟩ : ∃ w1, w1 = (w.alloc (.cells (arr2c c0 c1) 67)).alloc (.cells (#[.int .u32 g0, .int .u32 g1]) 68) := ⟨_, rfl⟩
  obtain ⟨S1, C1, G1⟩ := two_blocks w w1 _ _ _ _ hw1
  have S1 := Lib.hid S1
  have C1 := Lib.hid C1
  have G1 := Lib.hid G1
  have s1 := S1.out.size
  have CF := Lib.hid (fun w => c_Large c0.f w h8)
  rw [hf] at CF
  go_enter Try.func8, Try.ntmps8
  go_wp2_with (rw [← hw1]; clear hw1)
  refine (KA.out w1 S1.out).mono ?_
  rintro e w2 ⟨rfl, hb2⟩
  have S2 := Lib.hid (S1.out.trans (hb2.mono s1))
  have C2 := Lib.hid (C1.out.below hb2 C1.out.lt)
  have G2 := Lib.hid (G1.out.below hb2 G1.out.lt)
  clear hb2
  go_wp2_with (with_reducible refine slG 37 _ rfl ?_)
  refine Stop.mk (wlG rfl _ _ rfl w.heap.size 3 rfl (farr c0.f) (fun j u hu => C2.out.cell (arr2c_0 (by rw [Card.arr_tail]; exact hu))) strF (by rw [farr_size, h8]) ?_)
  go_wp2_with (fail)
  refine (CF.out _).mono ?_
  rintro e w3 ⟨rfl, hb3⟩
  have S3 := Lib.hid (S2.out.trans (hb3.mono S2.out.size))
  have C3 := Lib.hid (C2.out.below hb3 C2.out.lt)
  have G3 := Lib.hid (G2.out.below hb3 G2.out.lt)
  clear hb3 CF KA S1 C1 G1 S2 C2 G2
  go_wp2_with (fail)
  refine (c_law13_awake _ (HM.out _ S3.out)).mono ?_
  rintro e w9 ⟨rfl, hb9⟩
  go_wp2_with (fail)
  go_ret
  exact RetV.bool rfl (S3.out.trans (hb9.mono S3.out.size))
set_option maxHeartbeats 1000000 in
theorem law13_EvalAsks_long1 (va : Value) (c0 c1 : Card) (g0 g1 : Nat) (w : World) (ka : ∀ w', Below w.heap.size w w' → Calls Try.prog 15 #[va] w' (RetV w' (.int .i64 0))) (h8 : c0.f.length = 8) (hf : longF c0.f = false) (h81 : c1.f.length = 8) (hf1 : longF c1.f = true) (hM : MaxV w) :
    Calls Try.prog 8 #[va, .agg (arr2c c0 c1), .agg #[.int .u32 g0, .int .u32 g1]] w (RetV w (.bool true)) := by
  have HM := Lib.hid (fun w' (hb : Below w.heap.size w w') => hM.below hb)
  have KA := Lib.hid ka
  clear ka hM
  obtain ⟨w1, hw1⟩ : ∃ w1, w1 = (w.alloc (.cells (arr2c c0 c1) 67)).alloc (.cells (#[.int .u32 g0, .int .u32 g1]) 68) := ⟨_, rfl⟩
  obtain ⟨S1, C1, G1⟩ := two_blocks w w1 _ _ _ _ hw1
  have S1 := Lib.hid S1
  have C1 := Lib.hid C1
  have G1 := Lib.hid G1
  have s1 := S1.out.size
  have CF := Lib.hid (fun w => c_Large c0.f w h8)
  rw [hf] at CF
  go_enter Try.func8, Try.ntmps8
  go_wp2_with (rw [← hw1]; clear hw1)
  refine (KA.out w1 S1.out).mono ?_
  rintro e w2 ⟨rfl, hb2⟩
  have S2 := Lib.hid (S1.out.trans (hb2.mono s1))
  have C2 := Lib.hid (C1.out.below hb2 C1.out.lt)
  have G2 := Lib.hid (G1.out.below hb2 G1.out.lt)
  clear hb2
  go_wp2_with (with_reducible refine slG 37 _ rfl ?_)
  refine Stop.mk (wlG rfl _ _ rfl w.heap.size 3 rfl (farr c0.f) (fun j u hu => C2.out.cell (arr2c_0 (by rw [Card.arr_tail]; exact hu))) strF (by rw [farr_size, h8]) ?_)
  go_wp2_with (fail)
  refine (CF.out _).mono ?_
  rintro e w3 ⟨rfl, hb3⟩
  have S3 := Lib.hid (S2.out.trans (hb3.mono S2.out.size))
  have C3 := Lib.hid (C2.out.below hb3 C2.out.lt)
  have G3 := Lib.hid (G2.out.below hb3 G2.out.lt)
  clear hb3 CF KA S1 C1 G1 S2 C2 G2
  have CF := Lib.hid (fun w => c_Large c1.f w h81)
  rw [hf1] at CF
  go_wp2_with (with_reducible refine slG 37 _ rfl ?_)
  refine Stop.mk (wlG rfl _ _ rfl w.heap.size 30 rfl (farr c1.f) (fun j u hu => C3.out.cell (by rw [show 30 + j = 27 + (3 + j) by omega]; exact arr2c_1 h8 (by rw [Card.arr_tail]; exact hu))) strF (by rw [farr_size, h81]) ?_)
  go_wp2_with (fail)
  refine (CF.out _).mono ?_
  rintro e w4 ⟨rfl, hb4⟩
  have S4 := Lib.hid (S3.out.trans (hb4.mono S3.out.size))
  have C4 := Lib.hid (C3.out.below hb4 C3.out.lt)
  have G4 := Lib.hid (G3.out.below hb4 G3.out.lt)
  clear hb4 CF S3 C3 G3
  go_wp2_with (fail)
  refine (c_law13_awake _ (HM.out _ S4.out)).mono ?_
  rintro e w9 ⟨rfl, hb9⟩
  go_wp2_with (fail)
  go_ret
  exact RetV.bool rfl (S4.out.trans (hb9.mono S4.out.size))
theorem BM.below {w0 w1 w2 : World} {i s j : Nat} {z f : Array Value} {L : Nat → Bool} {u : Nat → Value} {v : Value} (h : BM w0 i s z f L u w1) (hi : j ≠ i) (hs : j ≠ s) (hb : Below w1.heap.size w1 w2) : BM w0 i s z f (upd L j true) (upd u j v) w2 :=
  ⟨h.S.trans (hb.mono h.S.size), h.B.pure hi hs hb⟩
/-- While a filter is asked of two cards. -/
structure FK (w0 : World) (b : Nat) (t : Tr) (w1 : World) : Prop where
  K : Kept (some b) w0.heap.size w0 w1
  F : FltN w1 b t ∨ FltD w1 b t
theorem FK.below {w0 w1 w2 : World} {b : Nat} {t : Tr} (h : FK w0 b t w1) (hb : Below w1.heap.size w1 w2) : FK w0 b t w2 := ⟨h.K.then_below hb h.K.size, Flt.below h.F hb⟩
theorem FK.asked {w0 w1 w2 : World} {b : Nat} {t : Tr} (h : FK w0 b t w1) (hk : Kept (some b) w1.heap.size w1 w2) (hf : FltD w2 b t) : FK w0 b t w2 := ⟨h.K.then_kept hk h.K.size, .inr hf⟩
def zcL : Array Value := #[.int .i64 0, .int .i64 0, .int .u32 0, .int .i64 0, .int .i64 0, .string (str []), .int .i64 0, .int .i64 0, .string (str []), .int .i64 0, .int .i64 0, .string (str []), .int .i64 0, .int .i64 0, .string (str []), .int .i64 0, .int .i64 0, .string (str []), .int .i64 0, .int .i64 0, .string (str []), .int .i64 0, .int .i64 0, .string (str []), .int .i64 0, .int .i64 0, .string (str [])]
end Go.Proofs.Ytldoedmclfbgpaa
namespace Go.Proofs.Ytldoedmclfbgpaa
open Go.ChangeShapes Go.WideShapes Go.ChangeAt Go.RowKit Go.Deep
open Go.ChangeMaps (open_string shut_string)

theorem c_card2 : Try.prog.cellsOf 67 = 54 := by kernel_rfl
theorem c_two32 : Try.prog.cellsOf 68 = 2 := by kernel_rfl
theorem list2q {α : Type} {l : List α} (h : l.length = 2) : ∃ a b, l = [a, b] := by
  match l, h with
  | [a, b], _ => exact ⟨a, b, rfl⟩
section
variable {H : Type} {enc : TypeId × Value → H} {w : World} {base : Nat} {spare : Nat → Bool} {held : Bool}
theorem open_card2 {fuel : Nat} {cs : List Value} {x : DataW H × List MemPlace} (h : DataW.trod enc Try.prog w base spare held fuel 67 cs = some x) :
    ∃ (c d : Card), cs = (arr2c c d).toList ∧ (c.f.length = 8 ∧ c.lab < 4294967296) ∧ d.f.length = 8 ∧ d.lab < 4294967296 ∧ I64 d.ver := by
  obtain ⟨xs, m, _, _, hl, hxl, hf⟩ := DataW.trod_array Try.underlying67 h
  rw [c_card2] at hl
  have hq : ∀ i, i < 2 → ∃ c : Card, (cs.drop (i * 27)).take 27 = c.arr.toList ∧ c.f.length = 8 ∧ c.lab < 4294967296 ∧ I64 c.ver := by
    intro i hi
    have h1 := hf i hi
    rw [c_card, List.getElem?_eq_getElem (by omega)] at h1
    obtain ⟨c, hc, hc8, hcl, -, hcv, -⟩ := open_card h1
    exact ⟨c, hc, hc8, hcl, hcv⟩
  obtain ⟨c, hc, hc8, hcl, -⟩ := hq 0 (by omega)
  obtain ⟨d, hd, hd8, hdl, hdv⟩ := hq 1 (by omega)
  rw [Nat.zero_mul, List.drop_zero] at hc
  rw [Nat.one_mul] at hd
  refine ⟨c, d, ?_, ⟨hc8, hcl⟩, hd8, hdl, hdv⟩
  have ht : (cs.drop 27).take 27 = cs.drop 27 := List.take_of_length_le (by rw [List.length_drop]; omega)
  rw [ht] at hd
  unfold arr2c
  show cs = c.arr.toList ++ d.arr.toList
  rw [← hc, ← hd, List.take_append_drop]
theorem open_two32 {fuel : Nat} {cs : List Value} {x : DataW H × List MemPlace} (h : DataW.trod enc Try.prog w base spare held fuel 68 cs = some x) :
    ∃ (a b : Nat), cs = [.int .u32 a, .int .u32 b] ∧ a < 4294967296 ∧ b < 4294967296 := by
  obtain ⟨xs, m, _, _, hl, hxl, hf⟩ := DataW.trod_array Try.underlying68 h
  rw [c_two32] at hl
  have hq : ∀ i, i < 2 → ∃ a : Nat, (cs.drop (i * 1)).take 1 = [.int .u32 a] ∧ a < 4294967296 := by
    intro i hi
    have h1 := hf i hi
    rw [c_u32, List.getElem?_eq_getElem (by omega)] at h1
    exact open_u32 h1
  obtain ⟨a, ha, wa⟩ := hq 0 (by omega)
  obtain ⟨b, hb, wb⟩ := hq 1 (by omega)
  obtain ⟨y, z, rfl⟩ := list2q hl
  simp at ha hb
  subst ha hb
  exact ⟨a, b, rfl, wa, wb⟩
end
end Go.Proofs.Ytldoedmclfbgpaa
namespace Go.Proofs.Ytldoedmclfbgpaa
open Go.RowKit

set_option maxRecDepth 10000 in
set_option maxHeartbeats 4000000 in
theorem law13_EvalAsks_main (t : Tr) (hw : t.wf) (hok : ∀ x ∈ t.flat, x.ok = true) (chk : check t.flat = 0) (A : Option Addr) (n : Nat) (c0 c1 : Card) (g0 g1 : Nat) (w : World) (hI : InN w A n t.flat)
    (h8 : c0.f.length = 8) (hlab0 : c0.lab < 4294967296) (hf : longF c0.f = false) (h81 : c1.f.length = 8) (hlab1 : c1.lab < 4294967296) (hv1 : -9223372036854775808 ≤ c1.ver ∧ c1.ver ≤ 9223372036854775807) (hf1 : longF c1.f = false) (hg0 : g0 < 4294967296) (hg1 : g1 < 4294967296) (hM : MaxV w) :
    Calls Try.prog 8 #[.slice A t.flat.length n, .agg (arr2c c0 c1), .agg #[.int .u32 g0, .int .u32 g1]] w (RetV w (.bool true)) := by
  have hsl : ∀ x ∈ t.flat, x.v.s.length ≤ 9223372036854775807 := fun x hx => by have := Node.ok_len (hok x hx); omega
  have ka : ∀ w', Below w.heap.size w w' → Calls Try.prog 15 #[.slice A t.flat.length n] w' (RetV w' (.int .i64 0)) := fun w' hb => by
    have := c_ref10_Check t.flat A n w' (hI.below hb) hsl
    rw [chk] at this; exact this
  have sh0 : shortC c0 := ⟨h8, hlab0, fun x hx => by have := List.any_eq_false.1 hf x hx; simpa using this⟩
  have sh1 : shortC c1 := ⟨h81, hlab1, fun x hx => by have := List.any_eq_false.1 hf1 x hx; simpa using this⟩
  obtain ⟨m, hm⟩ : ∃ m, m = maskL t.flat 0 := ⟨_, rfl⟩
  obtain ⟨M, hMm⟩ : ∃ M, M = m &&& 511 := ⟨_, rfl⟩
  obtain ⟨G, hG⟩ : ∃ G, G = grpL t.flat 0 := ⟨_, rfl⟩
  have hMl : M < 4294967296 := mask_lt hMm
  have hml : m < 4294967296 := by rw [hm]; exact maskL_lt _ _ (by decide)
  have hGl : G < 4294967296 := by rw [hG]; exact grpL_lt _ _ (by decide)
  have SAME := asked_same (t := t) (c0 := c0) (c1 := c1) (g0 := g0) (g1 := g1) (M := M) hok h8 h81 (by rw [hMm, hm])
  rw [← hG] at SAME
  have shd : shortC (asked c0 c1 M) := asked_short sh0 sh1
  obtain ⟨p, hp⟩ : ∃ p, p = ofC c0 M := ⟨_, rfl⟩
  obtain ⟨d, hd⟩ : ∃ d, d = asked c0 c1 M := ⟨_, rfl⟩
  have CO := Lib.hid (fun w => c_ref06_Of c0 h8 M hMl w)
  have hp8 : p.f.length = 8 := by rw [hp]; exact project_len c0 M
  have hpm : p.mask < 4294967296 := by rw [hp]; exact hMl
  have CM := Lib.hid (fun w => c_ref06_Merge c1 p h81 hp8 hv1 hpm w)
  rw [show mergeC c1 p = d by rw [hd, hp]; rfl] at CM
  rw [← hp] at CO
  rw [← hd] at SAME shd
  have SAME := Lib.hid SAME
  have HM' := Lib.hid hm
  have HMM := Lib.hid (show bits .and .u32 (m : Int) 511 = ((M : Nat) : Int) by rw [hMm]; exact and_u32 m 511 hml (by decide))
  have HG := Lib.hid hG
  have HI := Lib.hid hI
  have HSL := Lib.hid hsl
  have d8 := shd.1
  clear hm hMm hG hp hd hI hsl hv1
  have HM := Lib.hid (fun w' (hb : Below w.heap.size w w') => hM.below hb)
  have KA := Lib.hid ka
  clear ka hM
  obtain ⟨w1, hw1⟩ : ∃ w1, w1 = (w.alloc (.cells (arr2c c0 c1) 67)).alloc (.cells (#[.int .u32 g0, .int .u32 g1]) 68) := ⟨_, rfl⟩
  obtain ⟨S1, C1, G1⟩ := two_blocks w w1 _ _ _ _ hw1
  have S1 := Lib.hid S1
  have C1 := Lib.hid C1
  have G1 := Lib.hid G1
  have s1 := S1.out.size
  have CF := Lib.hid (fun w => c_Large c0.f w h8)
  rw [hf] at CF
  go_enter Try.func8, Try.ntmps8
  go_wp2_with (rw [← hw1]; clear hw1)
  refine (KA.out w1 S1.out).mono ?_
  rintro e w2 ⟨rfl, hb2⟩
  have S2 := Lib.hid (S1.out.trans (hb2.mono s1))
  have C2 := Lib.hid (C1.out.below hb2 C1.out.lt)
  have G2 := Lib.hid (G1.out.below hb2 G1.out.lt)
  clear hb2
  go_wp2_with (with_reducible refine slG 37 _ rfl ?_)
  refine Stop.mk (wlG rfl _ _ rfl w.heap.size 3 rfl (farr c0.f) (fun j u hu => C2.out.cell (arr2c_0 (by rw [Card.arr_tail]; exact hu))) strF (by rw [farr_size, h8]) ?_)
  go_wp2_with (fail)
  refine (CF.out _).mono ?_
  rintro e w3 ⟨rfl, hb3⟩
  have S3 := Lib.hid (S2.out.trans (hb3.mono S2.out.size))
  have C3 := Lib.hid (C2.out.below hb3 C2.out.lt)
  have G3 := Lib.hid (G2.out.below hb3 G2.out.lt)
  clear hb3 CF KA S1 C1 G1 S2 C2 G2
  have CF := Lib.hid (fun w => c_Large c1.f w h81)
  rw [hf1] at CF
  go_wp2_with (with_reducible refine slG 37 _ rfl ?_)
  refine Stop.mk (wlG rfl _ _ rfl w.heap.size 30 rfl (farr c1.f) (fun j u hu => C3.out.cell (by rw [show 30 + j = 27 + (3 + j) by omega]; exact arr2c_1 h8 (by rw [Card.arr_tail]; exact hu))) strF (by rw [farr_size, h81]) ?_)
  go_wp2_with (fail)
  refine (CF.out _).mono ?_
  rintro e w4 ⟨rfl, hb4⟩
  have S4 := Lib.hid (S3.out.trans (hb4.mono S3.out.size))
  have C4 := Lib.hid (C3.out.below hb4 C3.out.lt)
  have G4 := Lib.hid (G3.out.below hb4 G3.out.lt)
  clear hb4 CF S3 C3 G3
  have z1 : w.heap.size + 1 < w4.heap.size := G4.out.lt
  go_wp2_with (fail)
  refine (c_New t A n w4 (HI.out.below S4.out) HSL.out chk (HM.out _ S4.out)).mono ?_
  rintro e w5 ⟨b, rfl, hb5, hb4, FN⟩
  have s4 := S4.out.size
  have s5 := hb5.size
  have S5 := Lib.hid (S4.out.trans (hb5.mono s4))
  have C5 := Lib.hid (C4.out.below hb5 C4.out.lt)
  have G5' := Lib.hid (G4.out.below hb5 G4.out.lt)
  have FN := Lib.hid FN
  have bl := FN.out.lt
  clear hb5 C4 G4 S4
  go_wp2_with (fail)
  have ho := HMM.out
  refine wp_region_relM (VW [some (.pointer (some ⟨w.heap.size, 27, none⟩)), some (.agg c1.arr), some (.pointer (some ⟨w.heap.size, 0, none⟩)), some (.agg c0.arr), some (.pointer (some ⟨b, 0, none⟩)), some (.int .u32 m), some (.int .u32 M), some (.agg p.arr), some (.agg d.arr), none, none]) (BM w5 9 10 zcL d.arr) 91 (by kernel_rfl) (by kernel_rfl) rfl ?_ ?_ ?_
  · intro u w' hb hh
    exact BM.start hb
  · refine ⟨?_, ?_, ?_, ?_, ?_, ?_, ?_, ?_, ?_, ?_, ?_, trivial⟩
    all_goals
      rintro L u W1 hMM hL hd
      have MM := Lib.hid hMM
      clear hMM
      simp [DepsM, Region.binds, VW] at hd
      simp only [putDeps, dstOf, Region.binds]
      try simp only [hd]
    case refine_2 =>
      have CB := Lib.hid (C5.out.below MM.out.S C5.out.lt)
      go_wp2_with (with_reducible refine slG 39 _ rfl ?_)
      refine Stop.mk (wlG rfl _ _ rfl w.heap.size 27 rfl c1.arr (fun j u hu => CB.out.cell (arr2c_1 h8 hu)) strC (by rw [Card.arr_size, h81]) ?_)
      go_wp2_with (fail)
      exact EndM.mk rfl ⟨rfl, MM.out.pure (by decide) (by decide)⟩
    case refine_4 =>
      have CB := Lib.hid (C5.out.below MM.out.S C5.out.lt)
      go_wp2_with (with_reducible refine slG 39 _ rfl ?_)
      refine Stop.mk (wlG rfl _ _ rfl w.heap.size 0 rfl c0.arr (fun j u hu => by rw [Nat.zero_add]; exact CB.out.cell (arr2c_0 hu)) strC (by rw [Card.arr_size, h8]) ?_)
      go_wp2_with (fail)
      exact EndM.mk rfl ⟨rfl, MM.out.pure (by decide) (by decide)⟩
    case refine_6 =>
      obtain ⟨A1, n1, hc1, hi1⟩ := Flt.nodes (.inl (FN.out.below MM.out.S))
      have CX := c_Fields t.flat b A1 n1 W1 hi1 hc1
      rw [← HM'.out] at CX
      have CX := Lib.hid CX
      clear hc1 hi1
      go_wp2_with (fail)
      refine CX.out.mono ?_
      rintro e W2 ⟨rfl, hb⟩
      go_wp2_with (fail)
      exact EndM.mk rfl ⟨rfl, MM.out.below (by decide) (by decide) hb⟩
    case refine_8 =>
      go_wp2_with (fail)
      refine (CO.out _).mono ?_
      rintro e W2 ⟨rfl, hb⟩
      go_wp2_with (fail)
      exact EndM.mk rfl ⟨rfl, MM.out.below (by decide) (by decide) hb⟩
    case refine_9 =>
      go_wp2_with (fail)
      refine (CM.out _).mono ?_
      rintro e W2 ⟨rfl, hb⟩
      go_wp2_with (fail)
      exact EndM.mk rfl ⟨rfl, MM.out.below (by decide) (by decide) hb⟩
    case refine_10 =>
      go_wp2_with (fail)
      exact EndM.mk rfl ⟨trivial, MM.out.make hL (by decide) _⟩
    case refine_11 =>
      have h9 : L 9 = true := by first | exact hd.1 | exact hd.2.1 | exact hd.1.1
      obtain ⟨q, hq, hwq, hB⟩ := MM.out.B.at h9 hL
      have HB := Lib.hid hB
      have HQ := Lib.hid hq
      clear hB hq
      rw [HQ.out]
      go_wp2_with (with_reducible refine stS 39 _ _ rfl rfl ?_)
      refine Stop.mk (wsB rfl _ _ _ rfl q _ rfl rfl _ HB.out strC (by rw [Card.arr_size, d8]) (by rw [Card.arr_size, d8]; rfl) (Card.arr_ones _) ?_)
      intro w9 hb9 hk9
      exact EndM.mk0 rfl ⟨trivial, MM.out.fill h9 (by decide) HQ.out hwq hb9 hk9⟩
    all_goals
      go_wp2_with (fail)
      exact EndM.mk rfl ⟨by first | rfl | trivial | (show _ = _; simp), MM.out.pure (by decide) (by decide)⟩
  rintro u W1 hv hMM
  obtain ⟨q, hq, hwq, hB⟩ := hMM.B.done (by simp) (by simp)
  have SB := hMM.S
  have hz := SB.size
  have DB := Lib.hid hB
  have S6 := Lib.hid (S5.out.trans (SB.mono (by omega)))
  have C6 := Lib.hid (C5.out.below SB C5.out.lt)
  have G5 := Lib.hid (G5'.out.below SB G5'.out.lt)
  have F6 := Lib.hid (FN.out.below SB)
  clear hv hMM hB SB G5' C5 S5 FN CO CM ho
  have FN := F6
  simp only [putAll, Act.put, Nat.reduceAdd, List.setIfInBounds_toArray, List.set_cons_zero, List.set_cons_succ]
  rw [hq]
  clear hq
  obtain ⟨A1, n1, hc1, hi1⟩ := Flt.nodes (.inl F6.out)
  have CG := Lib.hid (fun W' (hb : Below W1.heap.size W1 W') => c_Groups t.flat b A1 n1 W' (hi1.below hb) ((hb.cell (p := ⟨b, 0, none⟩) F6.out.lt).trans hc1))
  rw [← HG.out] at CG
  have T := Lib.hid (Below.refl W1.heap.size W1)
  clear hc1 hi1
  have q0 := (G5.out.below T.out G5.out.lt).cell (i := 0) rfl
  have q1 := (G5.out.below T.out G5.out.lt).cell (i := 1) rfl
  go_wp2_with (fail)
  go_loopw [9, 10] (fun mm i wr => ∃ k : Nat, k ≤ 32 ∧ mm = .int .u32 (gl G g0 g1 k : Nat) ∧ i = .int .i64 k ∧ Below W1.heap.size W1 wr) (fun _ i _ => 32 - (intOf i).toNat)
  case atStart => exact ⟨0, by omega, rfl, rfl, T.out⟩
  case round =>
    clear q0 q1 T
    obtain ⟨k, hk, rfl, rfl, hbl⟩ := hrel
    have T := Lib.hid hbl
    clear hbl
    by_cases hlt : k < 32
    · cases hbG : hasB G k
      · have HBG := Lib.hid hbG
        clear hbG
        cases hbb : hasB g1 k
        · have HBB := Lib.hid hbb
          clear hbb
          have q0 := (G5.out.below T.out G5.out.lt).cell (i := 0) rfl
          have q1 := (G5.out.below T.out G5.out.lt).cell (i := 1) rfl
          go_wp2_with (fail)
          refine (c_ref03_Without (gl G g0 g1 k) k (gl_lt hg1 k) _).mono ?_
          rintro e W2 ⟨rfl, hbz⟩
          replace T := Lib.hid (T.out.trans (hbz.mono T.out.size))
          clear hbz q0 q1
          have q0 := (G5.out.below T.out G5.out.lt).cell (i := 0) rfl
          have q1 := (G5.out.below T.out G5.out.lt).cell (i := 1) rfl
          go_wp2_with (fail)
          refine (CG.out _ T.out).mono ?_
          rintro e W2 ⟨rfl, hbz⟩
          replace T := Lib.hid (T.out.trans (hbz.mono T.out.size))
          clear hbz q0 q1
          have q0 := (G5.out.below T.out G5.out.lt).cell (i := 0) rfl
          have q1 := (G5.out.below T.out G5.out.lt).cell (i := 1) rfl
          go_wp2_with (fail)
          refine (c_ref03_HasA (G) k hGl _).mono ?_
          rintro e W2 ⟨rfl, hbz⟩
          rw [HBG.out]
          replace T := Lib.hid (T.out.trans (hbz.mono T.out.size))
          clear hbz q0 q1
          have q0 := (G5.out.below T.out G5.out.lt).cell (i := 0) rfl
          have q1 := (G5.out.below T.out G5.out.lt).cell (i := 1) rfl
          go_wp2_with (fail)
          refine (CG.out _ T.out).mono ?_
          rintro e W2 ⟨rfl, hbz⟩
          replace T := Lib.hid (T.out.trans (hbz.mono T.out.size))
          clear hbz q0 q1
          have q0 := (G5.out.below T.out G5.out.lt).cell (i := 0) rfl
          have q1 := (G5.out.below T.out G5.out.lt).cell (i := 1) rfl
          go_wp2_with (fail)
          refine (c_ref03_HasA (G) k hGl _).mono ?_
          rintro e W2 ⟨rfl, hbz⟩
          rw [HBG.out]
          replace T := Lib.hid (T.out.trans (hbz.mono T.out.size))
          clear hbz q0 q1
          have q0 := (G5.out.below T.out G5.out.lt).cell (i := 0) rfl
          have q1 := (G5.out.below T.out G5.out.lt).cell (i := 1) rfl
          go_wp2_with (fail)
          refine (c_ref03_HasA (g1) k hg1 _).mono ?_
          rintro e W2 ⟨rfl, hbz⟩
          rw [HBB.out]
          replace T := Lib.hid (T.out.trans (hbz.mono T.out.size))
          clear hbz q0 q1
          have q0 := (G5.out.below T.out G5.out.lt).cell (i := 0) rfl
          have q1 := (G5.out.below T.out G5.out.lt).cell (i := 1) rfl
          go_wp2_with (fail)
          go_roundw
          case rel => exact ⟨k + 1, by omega, by rw [gl_succ, if_neg (show ¬ condG G g0 g1 k = true by unfold condG; rw [HBG.out, HBB.out]; simp)], by go_num, T.out⟩
          case measure => simp [intOf]; omega
        · have HBB := Lib.hid hbb
          clear hbb
          have q0 := (G5.out.below T.out G5.out.lt).cell (i := 0) rfl
          have q1 := (G5.out.below T.out G5.out.lt).cell (i := 1) rfl
          go_wp2_with (fail)
          refine (c_ref03_Without (gl G g0 g1 k) k (gl_lt hg1 k) _).mono ?_
          rintro e W2 ⟨rfl, hbz⟩
          replace T := Lib.hid (T.out.trans (hbz.mono T.out.size))
          clear hbz q0 q1
          have q0 := (G5.out.below T.out G5.out.lt).cell (i := 0) rfl
          have q1 := (G5.out.below T.out G5.out.lt).cell (i := 1) rfl
          go_wp2_with (fail)
          refine (CG.out _ T.out).mono ?_
          rintro e W2 ⟨rfl, hbz⟩
          replace T := Lib.hid (T.out.trans (hbz.mono T.out.size))
          clear hbz q0 q1
          have q0 := (G5.out.below T.out G5.out.lt).cell (i := 0) rfl
          have q1 := (G5.out.below T.out G5.out.lt).cell (i := 1) rfl
          go_wp2_with (fail)
          refine (c_ref03_HasA (G) k hGl _).mono ?_
          rintro e W2 ⟨rfl, hbz⟩
          rw [HBG.out]
          replace T := Lib.hid (T.out.trans (hbz.mono T.out.size))
          clear hbz q0 q1
          have q0 := (G5.out.below T.out G5.out.lt).cell (i := 0) rfl
          have q1 := (G5.out.below T.out G5.out.lt).cell (i := 1) rfl
          go_wp2_with (fail)
          refine (CG.out _ T.out).mono ?_
          rintro e W2 ⟨rfl, hbz⟩
          replace T := Lib.hid (T.out.trans (hbz.mono T.out.size))
          clear hbz q0 q1
          have q0 := (G5.out.below T.out G5.out.lt).cell (i := 0) rfl
          have q1 := (G5.out.below T.out G5.out.lt).cell (i := 1) rfl
          go_wp2_with (fail)
          refine (c_ref03_HasA (G) k hGl _).mono ?_
          rintro e W2 ⟨rfl, hbz⟩
          rw [HBG.out]
          replace T := Lib.hid (T.out.trans (hbz.mono T.out.size))
          clear hbz q0 q1
          have q0 := (G5.out.below T.out G5.out.lt).cell (i := 0) rfl
          have q1 := (G5.out.below T.out G5.out.lt).cell (i := 1) rfl
          go_wp2_with (fail)
          refine (c_ref03_HasA (g1) k hg1 _).mono ?_
          rintro e W2 ⟨rfl, hbz⟩
          rw [HBB.out]
          replace T := Lib.hid (T.out.trans (hbz.mono T.out.size))
          clear hbz q0 q1
          have q0 := (G5.out.below T.out G5.out.lt).cell (i := 0) rfl
          have q1 := (G5.out.below T.out G5.out.lt).cell (i := 1) rfl
          go_wp2_with (fail)
          refine (c_ref03_WithA (gl G g0 g1 k &&& (4294967295 - bitN k)) k (clr_lt (gl_lt hg1 k)) _).mono ?_
          rintro e W2 ⟨rfl, hbz⟩
          replace T := Lib.hid (T.out.trans (hbz.mono T.out.size))
          clear hbz q0 q1
          go_wp2_with (fail)
          go_roundw
          case rel => exact ⟨k + 1, by omega, by rw [gl_succ, if_pos (show condG G g0 g1 k = true by unfold condG; rw [HBG.out, HBB.out]; rfl)], by go_num, T.out⟩
          case measure => simp [intOf]; omega
      · have HBG := Lib.hid hbG
        clear hbG
        cases hba : hasB g0 k
        · have HBA := Lib.hid hba
          clear hba
          have q0 := (G5.out.below T.out G5.out.lt).cell (i := 0) rfl
          have q1 := (G5.out.below T.out G5.out.lt).cell (i := 1) rfl
          go_wp2_with (fail)
          refine (c_ref03_Without (gl G g0 g1 k) k (gl_lt hg1 k) _).mono ?_
          rintro e W2 ⟨rfl, hbz⟩
          replace T := Lib.hid (T.out.trans (hbz.mono T.out.size))
          clear hbz q0 q1
          have q0 := (G5.out.below T.out G5.out.lt).cell (i := 0) rfl
          have q1 := (G5.out.below T.out G5.out.lt).cell (i := 1) rfl
          go_wp2_with (fail)
          refine (CG.out _ T.out).mono ?_
          rintro e W2 ⟨rfl, hbz⟩
          replace T := Lib.hid (T.out.trans (hbz.mono T.out.size))
          clear hbz q0 q1
          have q0 := (G5.out.below T.out G5.out.lt).cell (i := 0) rfl
          have q1 := (G5.out.below T.out G5.out.lt).cell (i := 1) rfl
          go_wp2_with (fail)
          refine (c_ref03_HasA (G) k hGl _).mono ?_
          rintro e W2 ⟨rfl, hbz⟩
          rw [HBG.out]
          replace T := Lib.hid (T.out.trans (hbz.mono T.out.size))
          clear hbz q0 q1
          have q0 := (G5.out.below T.out G5.out.lt).cell (i := 0) rfl
          have q1 := (G5.out.below T.out G5.out.lt).cell (i := 1) rfl
          go_wp2_with (fail)
          refine (c_ref03_HasA (g0) k hg0 _).mono ?_
          rintro e W2 ⟨rfl, hbz⟩
          rw [HBA.out]
          replace T := Lib.hid (T.out.trans (hbz.mono T.out.size))
          clear hbz q0 q1
          have q0 := (G5.out.below T.out G5.out.lt).cell (i := 0) rfl
          have q1 := (G5.out.below T.out G5.out.lt).cell (i := 1) rfl
          go_wp2_with (fail)
          refine (CG.out _ T.out).mono ?_
          rintro e W2 ⟨rfl, hbz⟩
          replace T := Lib.hid (T.out.trans (hbz.mono T.out.size))
          clear hbz q0 q1
          have q0 := (G5.out.below T.out G5.out.lt).cell (i := 0) rfl
          have q1 := (G5.out.below T.out G5.out.lt).cell (i := 1) rfl
          go_wp2_with (fail)
          refine (c_ref03_HasA (G) k hGl _).mono ?_
          rintro e W2 ⟨rfl, hbz⟩
          rw [HBG.out]
          replace T := Lib.hid (T.out.trans (hbz.mono T.out.size))
          clear hbz q0 q1
          have q0 := (G5.out.below T.out G5.out.lt).cell (i := 0) rfl
          have q1 := (G5.out.below T.out G5.out.lt).cell (i := 1) rfl
          go_wp2_with (fail)
          go_roundw
          case rel => exact ⟨k + 1, by omega, by rw [gl_succ, if_neg (show ¬ condG G g0 g1 k = true by unfold condG; rw [HBG.out, HBA.out]; simp)], by go_num, T.out⟩
          case measure => simp [intOf]; omega
        · have HBA := Lib.hid hba
          clear hba
          have q0 := (G5.out.below T.out G5.out.lt).cell (i := 0) rfl
          have q1 := (G5.out.below T.out G5.out.lt).cell (i := 1) rfl
          go_wp2_with (fail)
          refine (c_ref03_Without (gl G g0 g1 k) k (gl_lt hg1 k) _).mono ?_
          rintro e W2 ⟨rfl, hbz⟩
          replace T := Lib.hid (T.out.trans (hbz.mono T.out.size))
          clear hbz q0 q1
          have q0 := (G5.out.below T.out G5.out.lt).cell (i := 0) rfl
          have q1 := (G5.out.below T.out G5.out.lt).cell (i := 1) rfl
          go_wp2_with (fail)
          refine (CG.out _ T.out).mono ?_
          rintro e W2 ⟨rfl, hbz⟩
          replace T := Lib.hid (T.out.trans (hbz.mono T.out.size))
          clear hbz q0 q1
          have q0 := (G5.out.below T.out G5.out.lt).cell (i := 0) rfl
          have q1 := (G5.out.below T.out G5.out.lt).cell (i := 1) rfl
          go_wp2_with (fail)
          refine (c_ref03_HasA (G) k hGl _).mono ?_
          rintro e W2 ⟨rfl, hbz⟩
          rw [HBG.out]
          replace T := Lib.hid (T.out.trans (hbz.mono T.out.size))
          clear hbz q0 q1
          have q0 := (G5.out.below T.out G5.out.lt).cell (i := 0) rfl
          have q1 := (G5.out.below T.out G5.out.lt).cell (i := 1) rfl
          go_wp2_with (fail)
          refine (c_ref03_HasA (g0) k hg0 _).mono ?_
          rintro e W2 ⟨rfl, hbz⟩
          rw [HBA.out]
          replace T := Lib.hid (T.out.trans (hbz.mono T.out.size))
          clear hbz q0 q1
          have q0 := (G5.out.below T.out G5.out.lt).cell (i := 0) rfl
          have q1 := (G5.out.below T.out G5.out.lt).cell (i := 1) rfl
          go_wp2_with (fail)
          refine (c_ref03_WithA (gl G g0 g1 k &&& (4294967295 - bitN k)) k (clr_lt (gl_lt hg1 k)) _).mono ?_
          rintro e W2 ⟨rfl, hbz⟩
          replace T := Lib.hid (T.out.trans (hbz.mono T.out.size))
          clear hbz q0 q1
          go_wp2_with (fail)
          go_roundw
          case rel => exact ⟨k + 1, by omega, by rw [gl_succ, if_pos (show condG G g0 g1 k = true by unfold condG; rw [HBG.out, HBA.out]; rfl)], by go_num, T.out⟩
          case measure => simp [intOf]; omega
    · obtain rfl : k = 32 := by omega
      have q0 := (G5.out.below T.out G5.out.lt).cell (i := 0) rfl
      have q1 := (G5.out.below T.out G5.out.lt).cell (i := 1) rfl
      go_wp2_with (fail)
      clear q0 q1
      obtain ⟨gg, hgg⟩ : ∃ gg, gg = gl G g0 g1 32 := ⟨_, rfl⟩
      have hggl : gg < 4294967296 := by rw [hgg]; exact gl_lt hg1 32
      obtain ⟨ma, hma⟩ : ∃ m, m = t.mat c0 g0 := ⟨_, rfl⟩
      have E0 := Lib.hid hma
      have E1 := Lib.hid (show ma = t.mat d gg by rw [hma, hgg]; exact SAME.out.symm)
      rw [← hgg]
      have hwz := T.out.size
      have G7 := Lib.hid (G5.out.below T.out G5.out.lt)
      have C7 := Lib.hid (C6.out.below T.out C6.out.lt)
      have D7 := Lib.hid (DB.out.below T.out DB.out.lt)
      have F7 := Lib.hid (FN.out.below T.out)
      have S7 := Lib.hid (S6.out.trans (T.out.mono S6.out.size))
      have M7 := Lib.hid (HM.out _ S7.out)
      have hgb : 0 ≠ b := by obtain ⟨_, _, _, _, hN⟩ := F7.out; exact hN
      have s6 := S6.out.size
      clear hgg hma SAME CG T G5 C6 DB FN S6
      refine wp_region_relM (VW [some (.pointer (some ⟨b, 0, none⟩)), some (.bool true), some (.bool true), some (.pointer (some ⟨b, 0, none⟩)), some (.pointer (some ⟨w.heap.size, 0, none⟩)), some (.agg c0.arr), some (.pointer (some ⟨w.heap.size + 1, 0, none⟩)), some (.int .u32 g0), some (.bool ma),
        some (.pointer (some ⟨b, 0, none⟩)), some (.agg d.arr), some (.int .u32 gg), some (.bool ma), some (.bool true), some (.bool true), some (.bool true), some (.bool true), some (.bool true), some (.bool true)]) (fun _ _ w1 => FK wr b t w1) 91 (by kernel_rfl) (by kernel_rfl) rfl ?_ ?_ ?_
      · intro u w' hb hh
        exact ⟨Kept.of_below hb, .inl (F7.out.below hb)⟩
      · refine ⟨?_, ?_, ?_, ?_, ?_, ?_, ?_, ?_, ?_, ?_, ?_, ?_, ?_, ?_, ?_, ?_, ?_, ?_, ?_, trivial⟩
        all_goals
          rintro L u W3 hMM hL hd
          have MM := Lib.hid hMM
          have qg := (G7.out.kept MM.out.K G7.out.lt (fun e => by injection e with e; omega)).cell (i := 0) rfl
          clear hMM
          simp [DepsM, Region.binds, VW] at hd
          simp only [putDeps, dstOf, Region.binds]
          try simp only [hd]
        case refine_6 =>
          have CB := Lib.hid (C7.out.kept MM.out.K C7.out.lt (fun e => by injection e with e; omega))
          go_wp2_with (with_reducible refine slG 39 _ rfl ?_)
          refine Stop.mk (wlG rfl _ _ rfl w.heap.size 0 rfl c0.arr (fun j u hu => by rw [Nat.zero_add]; exact CB.out.cell (arr2c_0 hu)) strC (by rw [Card.arr_size, h8]) ?_)
          go_wp2_with (fail)
          exact EndM.mk rfl ⟨rfl, MM.out⟩
        case refine_11 =>
          have CB := Lib.hid (D7.out.kept MM.out.K D7.out.lt (fun e => by injection e with e; omega))
          go_wp2_with (with_reducible refine slG 39 _ rfl ?_)
          refine Stop.mk (wlG rfl _ _ rfl q 0 rfl d.arr CB.out.all strC (by rw [Card.arr_size, d8]) ?_)
          go_wp2_with (fail)
          exact EndM.mk rfl ⟨rfl, MM.out⟩
        case refine_9 =>
          have CX := c_Match t hw hok b c0 g0 sh0 hg0 W3 (M7.out.kept MM.out.K hgb) MM.out.F
          rw [← E0.out] at CX
          have CX := Lib.hid CX
          go_wp2_with (fail)
          refine CX.out.mono ?_
          rintro e W2 ⟨rfl, hk, hf⟩
          go_wp2_with (fail)
          exact EndM.mk rfl ⟨rfl, MM.out.asked hk hf⟩
        case refine_13 =>
          have CX := c_Match t hw hok b d gg shd hggl W3 (M7.out.kept MM.out.K hgb) MM.out.F
          rw [← E1.out] at CX
          have CX := Lib.hid CX
          go_wp2_with (fail)
          refine CX.out.mono ?_
          rintro e W2 ⟨rfl, hk, hf⟩
          go_wp2_with (fail)
          exact EndM.mk rfl ⟨rfl, MM.out.asked hk hf⟩
        case refine_17 =>
          have CX := Lib.hid (c_law13_awake W3 (M7.out.kept MM.out.K hgb))
          go_wp2_with (fail)
          refine CX.out.mono ?_
          rintro e W2 ⟨rfl, hb⟩
          go_wp2_with (fail)
          exact EndM.mk rfl ⟨rfl, MM.out.below hb⟩
        all_goals
          go_wp2_with (fail)
          exact EndM.mk rfl ⟨by first | rfl | trivial | (show _ = _; simp), MM.out⟩
      rintro u W3 hv hMM
      have h18 : u 18 = .bool true := hv 18 (by simp)
      have hK := hMM.K
      clear hv hMM
      simp only [putAll, Act.put, Nat.reduceAdd, List.setIfInBounds_toArray, List.set_cons_zero, List.set_cons_succ]
      rw [h18]
      go_wp2_with (fail)
      go_ret
      exact RetV.bool rfl (S7.out.trans (hK.oneB (by omega) (by omega)))
end Go.Proofs.Ytldoedmclfbgpaa
