/-
  Lemmas (walks and plain laws), in one text.
-/
import Derived.Test.YtiedkcijjfmhaaaDoorSy16
import Derived.Test.YtiedkcijjfmhaaaDoorSy20
import Derived.Test.YtiedkcijjfmhaaaDoorSy21
import Derived.Test.YtiedkcijjfmhaaaDoorSy22
import Derived.Test.YtiedkcijjfmhaaaDoorSy23
import Derived.Test.YtiedkcijjfmhaaaDoorSy24
import Derived.Test.YtiedkcijjfmhaaaDoorSy25
import Derived.Test.YtiedkcijjfmhaaaDoorSy29
import Derived.Test.YtiedkcijjfmhaaaDoorSy30
import Derived.Test.YtiedkcijjfmhaaaDoorSy31
import Derived.Test.YtiedkcijjfmhaaaDoorSy32
import Derived.Test.YtiedkcijjfmhaaaDoorSy33
import Derived.Test.YtiedkcijjfmhaaaDoorSy34
import Derived.Test.YtiedkcijjfmhaaaDoorSy35
import Derived.Test.YtiedkcijjfmhaaaDoorSy36
import Derived.Test.YtiedkcijjfmhaaaDoorSy37
import Derived.Test.YtiedkcijjfmhaaaDoorSy38
import Derived.Test.YtiedkcijjfmhaaaDoorSy39
import Derived.Test.YtiedkcijjfmhaaaDoorSy40
import Derived.Test.YtiedkcijjfmhaaaDoorSy41
import Derived.Test.YtiedkcijjfmhaaaDoorSy42
import Derived.Test.YtiedkcijjfmhaaaDoorSy43
import Derived.Test.YtiedkcijjfmhaaaDoorSy44
namespace Go.Proofs.YtiedkcijjfmhaaaDoor
open Go.RowKit

theorem c_script_Check (o : Deed) (q : Where) (w : World) (ho : o.fit) (hq : o.at_ w q) : Calls Tryd.prog 8 #[.agg (o.arr q)] w (RetV w (.bool o.ok)) := by
  rcases (show o.kind < 1 ∨ 12 < o.kind ∨ o.kind = 1 ∨ (o.kind = 2 ∨ o.kind = 7 ∨ o.kind = 8 ∨ o.kind = 9 ∨ o.kind = 10) ∨ o.kind = 3 ∨ (o.kind = 4 ∨ o.kind = 6) ∨ o.kind = 5 ∨ o.kind = 11 ∨ o.kind = 12 by omega) with hk | hk | hk | hk | hk | hk | hk | hk | hk
  · exact script_Check_lo o q w ho hq hk
  · exact script_Check_hi o q w ho hq hk
  · by_cases hl : o.e.code = 0
    · exact script_Check_E1 o q w ho hq hk hl
    · exact script_Check_E0 o q w ho hq hk hl
  · by_cases h0 : 0 ≤ o.n
    · by_cases h1 : o.n ≤ 1099511627776
      · exact script_Check_N1 o q w ho hq hk h0 h1
      · exact script_Check_N2 o q w ho hq hk h0 h1
    · exact script_Check_N3 o q w ho hq hk h0
  · by_cases g0 : check o.f = 0
    · by_cases g1 : o.mask < 512
      · by_cases h0 : 0 ≤ o.dev
        · by_cases h1 : o.dev ≤ 5
          · exact script_Check_Fa1 o q w ho hq hk h0 h1 g0 g1
          · exact script_Check_Fb1 o q w ho hq hk h0 h1 g0 g1
        · exact script_Check_Fc1 o q w ho hq hk h0 g0 g1
      · by_cases h0 : 0 ≤ o.dev
        · by_cases h1 : o.dev ≤ 5
          · exact script_Check_Fa2 o q w ho hq hk h0 h1 g0 g1
          · exact script_Check_Fb2 o q w ho hq hk h0 h1 g0 g1
        · exact script_Check_Fc2 o q w ho hq hk h0 g0 g1
    · by_cases h0 : 0 ≤ o.dev
      · by_cases h1 : o.dev ≤ 5
        · exact script_Check_Fa3 o q w ho hq hk h0 h1 g0
        · exact script_Check_Fb3 o q w ho hq hk h0 h1 g0
      · exact script_Check_Fc3 o q w ho hq hk h0 g0
  · by_cases h0 : 0 ≤ o.dev
    · by_cases h1 : o.dev ≤ 5
      · exact script_Check_D1 o q w ho hq hk h0 h1
      · exact script_Check_D2 o q w ho hq hk h0 h1
    · exact script_Check_D3 o q w ho hq hk h0
  · by_cases g0 : 1 ≤ o.id
    · by_cases g1 : o.id ≤ 1073741823
      · by_cases g2 : o.p.code = 0
        · by_cases h0 : 0 ≤ o.dev
          · by_cases h1 : o.dev ≤ 5
            · exact script_Check_Wa1 o q w ho hq hk h0 h1 g0 g1 g2
            · exact script_Check_Wb1 o q w ho hq hk h0 h1 g0 g1 g2
          · exact script_Check_Wc1 o q w ho hq hk h0 g0 g1 g2
        · by_cases h0 : 0 ≤ o.dev
          · by_cases h1 : o.dev ≤ 5
            · exact script_Check_Wa2 o q w ho hq hk h0 h1 g0 g1 g2
            · exact script_Check_Wb2 o q w ho hq hk h0 h1 g0 g1 g2
          · exact script_Check_Wc2 o q w ho hq hk h0 g0 g1 g2
      · by_cases h0 : 0 ≤ o.dev
        · by_cases h1 : o.dev ≤ 5
          · exact script_Check_Wa3 o q w ho hq hk h0 h1 g0 g1
          · exact script_Check_Wb3 o q w ho hq hk h0 h1 g0 g1
        · exact script_Check_Wc3 o q w ho hq hk h0 g0 g1
    · by_cases h0 : 0 ≤ o.dev
      · by_cases h1 : o.dev ≤ 5
        · exact script_Check_Wa4 o q w ho hq hk h0 h1 g0
        · exact script_Check_Wb4 o q w ho hq hk h0 h1 g0
      · exact script_Check_Wc4 o q w ho hq hk h0 g0
  · by_cases h0 : o.keep.length ≤ 40
    · cases h1 : o.keep.any keepBad
      · exact script_Check_K1 o q w ho hq hk h0 h1
      · exact script_Check_K2 o q w ho hq hk h0 h1
    · exact script_Check_K3 o q w ho hq hk h0
  · by_cases hl : o.text.length ≤ 4096
    · exact script_Check_T1 o q w ho hq hk hl
    · exact script_Check_T0 o q w ho hq hk hl
open Go.RowKit

def Few (l : List Deed) : Prop := ∀ k, k ≤ l.length → (∀ x ∈ l.take k, x.ok = true) → ((l.take k).flatMap deedB).length ≤ 790000
theorem few_of {l : List Deed} (h : l.length ≤ 120) : Few l := by
  intro k hk ho
  have := deeds_len ho
  rw [List.length_take] at this
  omega
theorem mayAll_long {l : List Deed} (h : 400 < l.length) : Deed.mayAll l = false := by
  unfold Deed.mayAll
  rw [decide_eq_false (by omega)]
  rfl
theorem mayAll_of {l : List Deed} (h : l.length ≤ 400) (ho : ∀ x ∈ l, x.ok = true) : Deed.mayAll l = true := by
  unfold Deed.mayAll
  rw [decide_eq_true h, Bool.true_and, List.all_eq_true]
  exact ho
theorem deeds_flat (l : List DQ) {k : Nat} (hk : k < l.length) : ((deeds l).take (k + 1)).flatMap deedB = ((deeds l).take k).flatMap deedB ++ deedB l[k].o := by
  rw [deeds_take l hk, List.flatMap_append, List.flatMap_cons, List.flatMap_nil, List.append_nil]
theorem deeds_oks (l : List DQ) {k : Nat} (hk : k < l.length) (h : ∀ x ∈ (deeds l).take k, x.ok = true) (hx : l[k].o.ok = true) : ∀ x ∈ (deeds l).take (k + 1), x.ok = true := by
  rw [deeds_take l hk]
  intro x hm
  rcases List.mem_append.1 hm with hm | hm
  · exact h x hm
  · rw [List.mem_singleton.1 hm]; exact hx
theorem deeds_all {l : List DQ} : (deeds l).take l.length = deeds l := List.take_of_length_le (by rw [deeds_len']; exact Nat.le_refl _)
theorem ok_short {o : Deed} (h : o.ok = true) : o.text.length ≤ 4096 ∧ o.keep.length ≤ 40 := by
  obtain ⟨hm, ho⟩ := Deed.ok_iff.1 h
  obtain ⟨hk, -, -, -, -, -, mK, mT⟩ := Deed.may_iff.1 hm
  rw [← ho]
  unfold Deed.only
  constructor
  · simp only
    split
    · rename_i e; exact mT e
    · simp
  · simp only
    split
    · rename_i e; exact (mK e).1
    · simp
set_option maxHeartbeats 8000000 in
set_option maxRecDepth 10000 in
theorem c_script_Encode (l : List DQ) (A : Option Addr) (c : Nat) (w : World) (h : InQ w A c l) (hT : Tab w) (hf : l.length ≤ 400 → Few (deeds l)) : Calls Tryd.prog 13 #[.slice A l.length c] w (RetEnc w (deeds l)) := by
  have hL := h.inn.1
  have hC := h.inn.2.1
  have HH := lh h
  have HT := lh hT
  by_cases hlen : 400 < l.length
  · have hbad := mayAll_long (l := deeds l) (by rw [deeds_len']; exact hlen)
    have HB := lh (enc_bad hbad)
    have HM := lh hbad
    have d1 : decide (400 < (l.length : Int)) = true := by simp; omega
    clear h hT hf hbad
    go_enter Tryd.func13, Tryd.ntmps13
    go_wp2_with (fail)
    go_ret2
    exact ⟨by rw [HB.out, HM.out]; rfl, Below.refl _ _⟩
  have FW := lh (hf (by omega))
  have d1 : decide (400 < (l.length : Int)) = false := by simp; omega
  have hn0 := (num_len (l.length : Int)).2
  clear h hT hf
  go_enter Tryd.func13, Tryd.ntmps13
  go_wp2_with (fail)
  refine (c_octet_Num [] none 0 (l.length : Int) _ (In.nil (by omega))).mono ?_
  rintro e w1 ⟨v1, rfl, own1, hb1⟩
  obtain ⟨l0, hl0⟩ : ∃ x, x = [] ++ num (l.length : Int) := ⟨_, rfl⟩
  rw [← hl0] at own1
  have hl0n : l0.length ≤ 7 := by rw [hl0, List.nil_append]; exact hn0
  have HL0 := lh (show l0 = num (l.length : Int) by rw [hl0]; rfl)
  obtain ⟨A1, c1, rfl, -⟩ := own_form own1
  have S0 := lh (show Below w.heap.size w w1 ∧ w1.ownsRow w.heap.size 5 1 (.slice A1 l0.length c1) l0.length (l0.flatMap bc) from ⟨hb1, own1⟩)
  clear own1 hb1 hl0
  go_wp2_with (fail)
  go_loopw [4, 6, 15] (fun v _ i wr => ∃ (k : Nat) (acc : List UInt8) (A : Option Addr) (c : Nat), k ≤ l.length ∧ i = .int .i64 k ∧ v = .slice A acc.length c ∧ Hid (∀ x ∈ (deeds l).take k, x.ok = true) ∧ Hid (acc = num (l.length : Int) ++ ((deeds l).take k).flatMap deedB) ∧
      Hid (Below w.heap.size w wr ∧ wr.ownsRow w.heap.size 5 1 (.slice A acc.length c) acc.length (acc.flatMap bc))) (fun _ _ i _ => l.length - (intOf i).toNat)
  case atStart => exact ⟨0, l0, A1, c1, by omega, rfl, rfl, by intro x hx; simp at hx, by show _ = _; rw [HL0.out]; simp, S0.out⟩
  case round =>
    obtain ⟨k, acc, A2, c2, hk, rfl, rfl, OK, HA, S⟩ := hrel
    have hz := S.out.1.size
    have hal : acc.length ≤ 790007 := by
      have := FW.out k (by rw [deeds_len']; exact hk) OK.out
      rw [HA.out, List.length_append]
      omega
    clear S0 HL0 hl0n
    by_cases hlt : k < l.length
    · have d2 : decide ((k : Int) < (l.length : Int)) = true := by simp; omega
      obtain ⟨b, off, hA, hb, hat⟩ := HH.out.at hlt
      have hmem := List.getElem_mem hlt
      have hfit := HH.out.fit _ hmem
      have hwa := HH.out.at_ _ hmem
      have HAT := lh hat
      have HFT := lh (deeds_flat l hlt)
      have HOK := lh (deeds_oks l hlt OK.out)
      have HBD := lh (fun (e : l[k].o.ok = false) => mayAll_at (l := deeds l) (List.mem_map.2 ⟨_, hmem, rfl⟩) e)
      obtain ⟨x, hx⟩ : ∃ x, x = l[k] := ⟨_, rfl⟩
      rw [← hx] at HAT hfit hwa HFT HOK HBD
      have HF := lh hfit
      have HW := lh hwa
      have hi1 : (0 : Int) ≤ (k : Int) := by omega
      have hi2 : (k : Int) < (l.length : Int) := by omega
      clear hat hx hfit hwa hmem
      subst hA
      go_wp2_with (with_reducible refine slG 38 (.tmp 17) rfl ?_)
      refine Stop.mk (wlG (by rfl) _ _ rfl b (off + k * 63) rfl (x.o.arr x.q) (HAT.out _ S.out.1) strOp (Deed.arr_size x.wf) ?_)
      go_wp2_with (with_reducible refine stS 38 (.tmp 6) (.tmp 18) rfl rfl ?_)
      refine Stop.mk (wsB rfl _ _ _ rfl wr.heap.size _ (by first | rfl | simp) rfl _ (Blk.new _ _ _) strOp (Deed.arr_size x.wf) (by rw [Deed.arr_size x.wf]; rfl) (Deed.arr_ones x.wf) ?_)
      intro w3 hb3 hk3
      have B3 := fresh_below hk3
      obtain ⟨g, hg⟩ : ∃ g, g = wr.heap.size := ⟨_, rfl⟩
      rw [← hg] at hb3 ⊢
      have G := lh hb3
      replace S := lh (show Below w.heap.size w w3 ∧ w3.ownsRow w.heap.size 5 1 (.slice A2 acc.length c2) acc.length (acc.flatMap bc) from ⟨S.out.1.trans (B3.mono hz), own_below S.out.2 B3⟩)
      clear hb3 hk3 B3 hg hz
      go_wp2_with (with_reducible refine stop_load 38 (.tmp 6) rfl rfl ?_)
      refine Stop.mk (wpList_loadB rfl _ _ rfl g rfl _ G.out strOp (Deed.arr_size x.wf) ?_)
      go_wp2_with (fail)
      refine (c_script_Check x.o x.q _ HF.out (HW.out.below S.out.1)).mono ?_
      rintro e w4 ⟨rfl, hb4⟩
      replace G := lh (G.out.below hb4 G.out.lt)
      replace S := lh (show Below w.heap.size w w4 ∧ w4.ownsRow w.heap.size 5 1 (.slice A2 acc.length c2) acc.length (acc.flatMap bc) from ⟨S.out.1.trans (hb4.mono S.out.1.size), own_below S.out.2 hb4⟩)
      clear hb4
      cases hok : x.o.ok
      · have hm := HBD.out hok
        have HB := lh (enc_bad hm)
        have HM := lh hm
        clear hm
        go_wp2_with (fail)
        go_ret2
        exact ⟨by rw [HB.out, HM.out]; rfl, S.out.1⟩
      · have hsh := ok_short hok
        go_wp2_with (with_reducible refine stop_load 38 (.tmp 6) rfl rfl ?_)
        refine Stop.mk (wpList_loadB rfl _ _ rfl g rfl _ G.out strOp (Deed.arr_size x.wf) ?_)
        go_wp2_with (fail)
        refine (c_script_put acc A2 c2 x.o x.q _ (In.own4 bc_len S.out.2 (by omega)) (by omega) (HT.out.below S.out.1) HF.out (HW.out.below S.out.1) (by omega) (by omega)).mono ?_
        rintro e w5 ⟨v5, rfl, own5, hb5⟩
        obtain ⟨l5, hl5⟩ : ∃ y, y = acc ++ deedB x.o := ⟨_, rfl⟩
        rw [← hl5] at own5
        have HA5 := lh (show l5 = num (l.length : Int) ++ ((deeds l).take (k + 1)).flatMap deedB by rw [hl5, HA.out, HFT.out, List.append_assoc])
        obtain ⟨A5, c5, rfl, -⟩ := own_form own5
        have S5 := lh (show Below w.heap.size w w5 ∧ w5.ownsRow w.heap.size 5 1 (.slice A5 l5.length c5) l5.length (l5.flatMap bc) from ⟨S.out.1.trans (hb5.mono S.out.1.size), own_base own5 S.out.1.size⟩)
        have OK5 := lh (HOK.out hok)
        clear own5 hb5 hl5 hok S G
        go_wp2_with (fail)
        go_roundw
        case rel => exact ⟨k + 1, l5, A5, c5, by omega, by go_num, rfl, OK5.out, HA5.out, S5.out⟩
        case measure => simp [intOf]; omega
    · obtain rfl : k = l.length := by omega
      have d2 : decide ((l.length : Int) < (l.length : Int)) = false := by simp
      have hm := lh (mayAll_of (l := deeds l) (by rw [deeds_len']; omega) (by have := OK.out; rw [deeds_all] at this; exact this))
      have HE := lh (show encB (deeds l) = acc by rw [enc_ok hm.out, HA.out, deeds_all]; unfold scriptB; rw [deeds_len'])
      have kb := conv_str (P := Tryd.prog) wr Tryd.underlying68 Tryd.underlying5 Tryd.underlying9 (In.own4 bc_len S.out.2 (by omega))
      go_wp2_with (fail)
      go_ret2
      exact ⟨by rw [HE.out, hm.out]; rfl, S.out.1⟩
open Go.RowKit

theorem DQ.lit (x : DQ) : ([x].flatMap DQ.cells).toArray = x.o.arr x.q := by unfold DQ.cells; simp
theorem InQ.lit1 (x : DQ) (w : World) (t : TypeId) (hf : x.o.fit) (ha : x.o.at_ w x.q) : InQ (w.alloc (.cells (x.o.arr x.q) t)) (some ⟨w.heap.size, 0, none⟩) 1 [x] := by
  have h := In.lit DQ.cells_len w [x] t 1 rfl (by simp)
  rw [DQ.lit] at h
  refine ⟨h, fun y hy => ?_, fun y hy => ?_⟩
  · rw [List.mem_singleton.1 hy]; exact hf
  · rw [List.mem_singleton.1 hy]; exact ha.below ((Below.refl _ _).alloc (Nat.le_refl _) _)
theorem RawQ.lit1 (x : DQ) (w : World) (t : TypeId) (h : x.o.raw w x.q) : RawQ (w.alloc (.cells (x.o.arr x.q) t)) (some ⟨w.heap.size, 0, none⟩) 1 [x] := by
  have hi := In.lit DQ.cells_len w [x] t 1 rfl (by simp)
  rw [DQ.lit] at hi
  refine ⟨Nat.le_refl _, by omega, hi.2.2.2, fun y hy => ?_⟩
  rw [List.mem_singleton.1 hy]
  exact h.below ((Below.refl _ _).alloc (Nat.le_refl _) _)
def awD : DQ := ⟨{ dz with kind := 6, dev := 2 }, wz, ⟨rfl, rfl⟩⟩
theorem awD_arr : awD.o.arr awD.q = #[.int .i64 6, .int .i64 0, .int .i64 2, .int .i64 0, .int .i64 0, .int .i64 0, .int .i64 0, .int .u32 0, .int .u32 0, .int .i64 0, .int .i64 0, .string (str []), .int .i64 0, .int .i64 0, .string (str []), .int .i64 0, .int .i64 0, .string (str []), .int .i64 0, .int .i64 0, .string (str []), .int .i64 0, .int .i64 0, .string (str []), .int .i64 0, .int .i64 0, .string (str []), .int .i64 0, .int .i64 0, .string (str []), .int .i64 0, .int .i64 0, .string (str []), .slice none 0 0, .int .u32 0, .int .u32 0, .int .u32 0, .int .i64 0, .int .i64 0, .string (str []), .int .i64 0, .int .i64 0, .string (str []), .int .i64 0, .int .i64 0, .string (str []), .int .i64 0, .int .i64 0, .string (str []), .int .i64 0, .int .i64 0, .string (str []), .int .i64 0, .int .i64 0, .string (str []), .int .i64 0, .int .i64 0, .string (str []), .int .i64 0, .int .i64 0, .string (str []), .slice none 0 0, .string (str [])] := by unfold awD Deed.arr Edit.arr Patch.arr; rfl
theorem awD_enc : encB (deeds [awD]) = [1, 6, 2] := by decide +kernel
theorem awD_may : Deed.mayAll (deeds [awD]) = true := by decide +kernel
theorem fit_of {d : Deed} (hw : d.wf) (h1 : d.f = []) (h2 : d.e = ez) (h3 : d.p = pz) (h4 : d.mask = 0) (h5 : d.text = []) : d.fit := by
  refine ⟨hw, by rw [h1]; simp, by rw [h2]; decide, by rw [h3]; decide, by rw [h2]; decide, by rw [h3]; decide, by rw [h4]; decide, by rw [h5]; simp⟩
theorem at_of {d : Deed} (w : World) (h1 : d.f = []) (h2 : d.keep = []) : d.at_ w wz := ⟨by rw [h1]; exact In.nil (by simp), by rw [h2]; exact In.nil (by simp)⟩
theorem awD_built : Tryd.prog.built 38 [(0, .int .i64 6), (2, .int .i64 2)] = some #[.int .i64 6, .int .i64 0, .int .i64 2, .int .i64 0, .int .i64 0, .int .i64 0, .int .i64 0, .int .u32 0, .int .u32 0, .int .i64 0, .int .i64 0, .string (str []), .int .i64 0, .int .i64 0, .string (str []), .int .i64 0, .int .i64 0, .string (str []), .int .i64 0, .int .i64 0, .string (str []), .int .i64 0, .int .i64 0, .string (str []), .int .i64 0, .int .i64 0, .string (str []), .int .i64 0, .int .i64 0, .string (str []), .int .i64 0, .int .i64 0, .string (str []), .slice none 0 0, .int .u32 0, .int .u32 0, .int .u32 0, .int .i64 0, .int .i64 0, .string (str []), .int .i64 0, .int .i64 0, .string (str []), .int .i64 0, .int .i64 0, .string (str []), .int .i64 0, .int .i64 0, .string (str []), .int .i64 0, .int .i64 0, .string (str []), .int .i64 0, .int .i64 0, .string (str []), .int .i64 0, .int .i64 0, .string (str []), .int .i64 0, .int .i64 0, .string (str []), .slice none 0 0, .string (str [])] := by kernel_rfl
set_option maxHeartbeats 4000000 in
set_option maxRecDepth 10000 in
theorem c_law47_awake (w : World) (hT : Tab w) : Calls Tryd.prog 7 #[] w (RetV w (.bool true)) := by
  have HT := lh hT
  clear hT
  go_enter Tryd.func7, Tryd.ntmps7
  go_wp2_with (with_reducible refine stop_build 38 _ rfl ?_)
  refine Stop.mk (wpList_buildD rfl _ _ rfl [(0, .int .i64 6), (2, .int .i64 2)] (by rfl) (awD.o.arr awD.q) (awD_built.trans (by rw [awD_arr])) ?_)
  go_wp2_with (with_reducible refine stop_lit 45 _ rfl ?_)
  refine Stop.mk (wpList_lit1 rfl _ _ _ rfl elemOp (by omega) _ rfl (Deed.arr_size awD.wf) ?_)
  have B1 := lh ((Below.refl w.heap.size w).alloc (Nat.le_refl _) (.cells (awD.o.arr awD.q) 38))
  have IQ := lh (InQ.lit1 awD w 38 (fit_of ⟨rfl, rfl⟩ rfl rfl rfl rfl rfl) (at_of w rfl rfl))
  obtain ⟨w1, hw1⟩ : ∃ x, x = w.alloc (.cells (awD.o.arr awD.q) 38) := ⟨_, rfl⟩
  rw [← hw1] at B1 IQ ⊢
  clear hw1
  have CE := lh (show Calls Tryd.prog 13 #[.slice (some ⟨w.heap.size, 0, none⟩) 1 1] w1 (RetEnc w1 (deeds [awD])) from c_script_Encode [awD] _ 1 w1 IQ.out (HT.out.below B1.out) (fun _ => few_of (by decide)))
  go_wp2_with (fail)
  refine CE.out.mono ?_
  rintro e w2 ⟨rfl, hb2⟩
  rw [awD_enc, awD_may]
  have B2 := lh (B1.out.trans (hb2.mono B1.out.size))
  clear hb2 CE IQ B1
  go_wp2_with (fail)
  go_ret
  exact RetV.bool rfl B2.out
open Go.RowKit

theorem c_ref47_Check (o : Deed) (q : Where) (w : World) (ho : o.fit) (hq : o.at_ w q) : Calls Tryd.prog 10 #[.agg (o.arr q)] w (RetV w (.bool o.ok)) := by
  rcases (show o.kind < 1 ∨ 12 < o.kind ∨ o.kind = 1 ∨ (o.kind = 2 ∨ o.kind = 7 ∨ o.kind = 8 ∨ o.kind = 9 ∨ o.kind = 10) ∨ o.kind = 3 ∨ (o.kind = 4 ∨ o.kind = 6) ∨ o.kind = 5 ∨ o.kind = 11 ∨ o.kind = 12 by omega) with hk | hk | hk | hk | hk | hk | hk | hk | hk
  · exact ref47_Check_lo o q w ho hq hk
  · exact ref47_Check_hi o q w ho hq hk
  · by_cases hl : o.e.code = 0
    · exact ref47_Check_E1 o q w ho hq hk hl
    · exact ref47_Check_E0 o q w ho hq hk hl
  · by_cases h0 : 0 ≤ o.n
    · by_cases h1 : o.n ≤ 1099511627776
      · exact ref47_Check_N1 o q w ho hq hk h0 h1
      · exact ref47_Check_N2 o q w ho hq hk h0 h1
    · exact ref47_Check_N3 o q w ho hq hk h0
  · by_cases g0 : check o.f = 0
    · by_cases g1 : o.mask < 512
      · by_cases h0 : 0 ≤ o.dev
        · by_cases h1 : o.dev ≤ 5
          · exact ref47_Check_Fa1 o q w ho hq hk h0 h1 g0 g1
          · exact ref47_Check_Fb1 o q w ho hq hk h0 h1 g0 g1
        · exact ref47_Check_Fc1 o q w ho hq hk h0 g0 g1
      · by_cases h0 : 0 ≤ o.dev
        · by_cases h1 : o.dev ≤ 5
          · exact ref47_Check_Fa2 o q w ho hq hk h0 h1 g0 g1
          · exact ref47_Check_Fb2 o q w ho hq hk h0 h1 g0 g1
        · exact ref47_Check_Fc2 o q w ho hq hk h0 g0 g1
    · by_cases h0 : 0 ≤ o.dev
      · by_cases h1 : o.dev ≤ 5
        · exact ref47_Check_Fa3 o q w ho hq hk h0 h1 g0
        · exact ref47_Check_Fb3 o q w ho hq hk h0 h1 g0
      · exact ref47_Check_Fc3 o q w ho hq hk h0 g0
  · by_cases h0 : 0 ≤ o.dev
    · by_cases h1 : o.dev ≤ 5
      · exact ref47_Check_D1 o q w ho hq hk h0 h1
      · exact ref47_Check_D2 o q w ho hq hk h0 h1
    · exact ref47_Check_D3 o q w ho hq hk h0
  · by_cases g0 : 1 ≤ o.id
    · by_cases g1 : o.id ≤ 1073741823
      · by_cases g2 : o.p.code = 0
        · by_cases h0 : 0 ≤ o.dev
          · by_cases h1 : o.dev ≤ 5
            · exact ref47_Check_Wa1 o q w ho hq hk h0 h1 g0 g1 g2
            · exact ref47_Check_Wb1 o q w ho hq hk h0 h1 g0 g1 g2
          · exact ref47_Check_Wc1 o q w ho hq hk h0 g0 g1 g2
        · by_cases h0 : 0 ≤ o.dev
          · by_cases h1 : o.dev ≤ 5
            · exact ref47_Check_Wa2 o q w ho hq hk h0 h1 g0 g1 g2
            · exact ref47_Check_Wb2 o q w ho hq hk h0 h1 g0 g1 g2
          · exact ref47_Check_Wc2 o q w ho hq hk h0 g0 g1 g2
      · by_cases h0 : 0 ≤ o.dev
        · by_cases h1 : o.dev ≤ 5
          · exact ref47_Check_Wa3 o q w ho hq hk h0 h1 g0 g1
          · exact ref47_Check_Wb3 o q w ho hq hk h0 h1 g0 g1
        · exact ref47_Check_Wc3 o q w ho hq hk h0 g0 g1
    · by_cases h0 : 0 ≤ o.dev
      · by_cases h1 : o.dev ≤ 5
        · exact ref47_Check_Wa4 o q w ho hq hk h0 h1 g0
        · exact ref47_Check_Wb4 o q w ho hq hk h0 h1 g0
      · exact ref47_Check_Wc4 o q w ho hq hk h0 g0
  · by_cases h0 : o.keep.length ≤ 40
    · exact ref47_Check_K1 o q w ho hq hk h0
    · exact ref47_Check_K2 o q w ho hq hk h0
  · by_cases hl : o.text.length ≤ 4096
    · exact ref47_Check_T1 o q w ho hq hk hl
    · exact ref47_Check_T0 o q w ho hq hk hl
open Go.RowKit

theorem take_flat_le : ∀ (l : List Deed) (k : Nat), ((l.take k).flatMap deedB).length ≤ (l.flatMap deedB).length
  | [], k => by simp
  | x :: l, 0 => by simp
  | x :: l, k + 1 => by
    have := take_flat_le l k
    simp only [List.take_succ_cons, List.flatMap_cons, List.length_append]
    omega
theorem mayAll_iff {l : List Deed} (h : l.length ≤ 400) : Deed.mayAll l = l.all Deed.ok := by unfold Deed.mayAll; rw [decide_eq_true h, Bool.true_and]
theorem back_took {s : List UInt8} (h : rdScriptE s = 0) (hs : s.length ≤ 6000) : Deed.mayAll (rdScript s) = true ∧ encB (rdScript s) = s ∧ Few (rdScript s) := by
  obtain ⟨h1, h2, h3, h4⟩ := rdScript_took h
  have hm : Deed.mayAll (scL s) = true := mayAll_of h2 h3
  rw [h1]
  refine ⟨hm, by rw [enc_ok hm]; exact h4.symm, fun k _ _ => ?_⟩
  have h5 := take_flat_le (scL s) k
  have h6 : s.length = (scriptB (scL s)).length := congrArg List.length h4
  unfold scriptB at h6
  rw [List.length_append] at h6
  omega
theorem back_len {l : List Deed} (h : l.length ≤ 120) : (encB l).length ≤ 1000000 := by
  cases hm : Deed.mayAll l
  · rw [enc_bad hm]; simp
  · rw [enc_ok hm]
    have ho : ∀ x ∈ l, x.ok = true := by
      unfold Deed.mayAll at hm
      simp only [Bool.and_eq_true, List.all_eq_true] at hm
      exact hm.2
    have h1 := deeds_len ho
    have h2 := (num_len (l.length : Int)).2
    unfold scriptB
    rw [List.length_append]
    omega
theorem back_put {l : List DQ} (h : l.length ≤ 120) (hm : Deed.mayAll (deeds l) = true) (hf : ∀ x ∈ l, x.o.fit) : rdScriptE (encB (deeds l)) = 0 ∧ rdScript (encB (deeds l)) = deeds l := by
  rw [enc_ok hm]
  refine rdScript_put (fun x hx => ?_) (by rw [deeds_len']; omega)
  unfold Deed.mayAll at hm
  simp only [Bool.and_eq_true, List.all_eq_true] at hm
  obtain ⟨y, hy, rfl⟩ := List.mem_map.1 hx
  exact ⟨hm.2 _ hx, (hf y hy).wf.e, (hf y hy).wf.p⟩
theorem all_take (l : List DQ) {k : Nat} (hk : k < l.length) : ((deeds l).take (k + 1)).all Deed.ok = (((deeds l).take k).all Deed.ok && l[k].o.ok) := by
  rw [deeds_take l hk, List.all_append]; simp
set_option maxHeartbeats 4000000 in
set_option maxRecDepth 10000 in
theorem law47_Back_l1 (l : List DQ) (A : Option Addr) (c : Nat) (s : List UInt8) (w : World) (hT : Tab w) (h : RawQ w A c l) (hl : longAll l = true) :
    Calls Tryd.prog 5 #[.slice A l.length c, .string (str s)] w (RetV w (.bool true)) := by
  have hL := h.le
  have hC := h.cap
  have HT := lh hT
  have HL := lh h
  clear h hT
  go_enter Tryd.func5, Tryd.ntmps5
  go_wp2_with (fail)
  refine (c_law47_Long l A c _ HL.out).mono ?_
  rintro e w1 ⟨rfl, hb1⟩
  rw [hl]
  have B1 := lh hb1
  clear hb1 hl
  go_wp2_with (fail)
  refine (c_law47_awake _ (HT.out.below B1.out)).mono ?_
  rintro e w4 ⟨rfl, hb4⟩
  go_wp2_with (fail)
  go_ret
  exact RetV.bool rfl (B1.out.trans (hb4.mono B1.out.size))
set_option maxHeartbeats 4000000 in
set_option maxRecDepth 10000 in
theorem law47_Back_l2 (l : List DQ) (A : Option Addr) (c : Nat) (s : List UInt8) (w : World) (hT : Tab w) (h : RawQ w A c l) (hl : longAll l = false) (hs : 6000 < s.length) (hsz : s.length ≤ 9223372036854775807) :
    Calls Tryd.prog 5 #[.slice A l.length c, .string (str s)] w (RetV w (.bool true)) := by
  have hL := h.le
  have hC := h.cap
  have HT := lh hT
  have HL := lh h
  have d1 : decide (6000 < (s.length : Int)) = true := by simp; omega
  clear h hT
  go_enter Tryd.func5, Tryd.ntmps5
  go_wp2_with (fail)
  refine (c_law47_Long l A c _ HL.out).mono ?_
  rintro e w1 ⟨rfl, hb1⟩
  rw [hl]
  have B1 := lh hb1
  clear hb1 hl
  go_wp2_with (fail)
  refine (c_law47_awake _ (HT.out.below B1.out)).mono ?_
  rintro e w4 ⟨rfl, hb4⟩
  go_wp2_with (fail)
  go_ret
  exact RetV.bool rfl (B1.out.trans (hb4.mono B1.out.size))
set_option maxHeartbeats 40000000 in
set_option maxRecDepth 10000 in
theorem law47_Back_in (l : List DQ) (A : Option Addr) (c : Nat) (s : List UInt8) (w : World) (hT : Tab w) (h : RawQ w A c l) (hl : longAll l = false) (hs : s.length ≤ 6000) :
    Calls Tryd.prog 5 #[.slice A l.length c, .string (str s)] w (RetV w (.bool true)) := by
  have hL := h.le
  have hC := h.cap
  have HT := lh hT
  have HL := lh h
  have IL := lh (h.inQ hl)
  have H120 := lh (longAll_no hl).1
  have d1 : decide (6000 < (s.length : Int)) = false := by simp; omega
  clear h hT
  go_enter Tryd.func5, Tryd.ntmps5
  go_wp2_with (fail)
  refine (c_law47_Long l A c _ HL.out).mono ?_
  rintro e w1 ⟨rfl, hb1⟩
  rw [hl]
  have B1 := lh hb1
  clear hb1 hl HL
  go_wp2_with (fail)
  refine (c_script_Decode s _ (HT.out.below B1.out) (by omega)).mono ?_
  rintro e w2 ⟨A2, c2, x, rfl, IX, hx, hb2⟩
  have B2 := lh (B1.out.trans (hb2.mono B1.out.size))
  have IX2 := lh IX
  have HX := lh hx
  obtain ⟨E, hE⟩ : ∃ E, E = rdScriptE s := ⟨_, rfl⟩
  have HE := lh hE
  rw [← hE]
  clear hb2 IX hx hE B1
  by_cases he : E = 0
  case' pos =>
    have j1 : (E == 0) = true := by simpa using he
    have TK := lh (back_took (s := s) (by rw [← HE.out]; exact he) hs)
    clear he
    go_wp2_with (fail)
    refine (c_script_Encode x A2 c2 _ IX2.out (HT.out.below B2.out) (fun _ => by rw [HX.out]; exact TK.out.2.2)).mono ?_
    rintro e w3 ⟨rfl, hb3⟩
    rw [HX.out, TK.out.1, TK.out.2.1]
    replace B2 := lh (B2.out.trans (hb3.mono B2.out.size))
    clear hb3 IX2 TK HX
    go_wp2_with (fail)
  case' neg =>
    have j1 : (E == 0) = false := by simpa using he
    clear he IX2 HX
    go_wp2_with (fail)
  all_goals
    refine (c_law47_List l A c _ (IL.out.inn.below B2.out) (by have := H120.out; omega)).mono ?_
    rintro e w4 ⟨v4, rfl, own4, hb4⟩
    obtain ⟨A4, c4, rfl, -⟩ := own_form own4
    replace B2 := lh (B2.out.trans (hb4.mono B2.out.size))
    have IQ := lh (show InQ w4 A4 c4 l from ⟨In.own4 DQ.cells_len own4 (by have := H120.out; omega), IL.out.fit, fun y hy => (IL.out.at_ y hy).below B2.out⟩)
    clear own4 hb4
    go_wp2_with (fail)
    refine (c_script_Encode l A4 c4 _ IQ.out (HT.out.below B2.out) (fun _ => few_of (by rw [deeds_len']; exact H120.out))).mono ?_
    rintro e w5 ⟨rfl, hb5⟩
    replace B2 := lh (B2.out.trans (hb5.mono B2.out.size))
    obtain ⟨t, ht⟩ : ∃ t, t = encB (deeds l) := ⟨_, rfl⟩
    obtain ⟨M, hM⟩ : ∃ M, M = Deed.mayAll (deeds l) := ⟨_, rfl⟩
    have HTX := lh ht
    have HM := lh hM
    rw [← ht, ← hM]
    clear hb5 IQ ht hM
    go_wp2_with (fail)
    go_loopw [11, 12] (fun v i wr => ∃ (k : Nat), k ≤ l.length ∧ i = .int .i64 k ∧ Hid (v = .bool (((deeds l).take k).all Deed.ok)) ∧ Hid (Below w.heap.size w wr)) (fun _ i _ => l.length - (intOf i).toNat)
    case atStart => exact ⟨0, by omega, rfl, by show _ = _; simp, B2.out⟩
    case round =>
      clear B2
      obtain ⟨k, hk, rfl, HV, B3⟩ := hrel
      obtain ⟨V, hV⟩ : ∃ V, V = ((deeds l).take k).all Deed.ok := ⟨_, rfl⟩
      have HV2 := HV.out
      rw [← hV] at HV2
      subst HV2
      clear HV
      by_cases hlt : k < l.length
      · have d2 : decide ((k : Int) < (l.length : Int)) = true := by simp; omega
        have HAL := lh (all_take l hlt)
        cases V
        · have HN := lh (show ((deeds l).take (k + 1)).all Deed.ok = false by rw [HAL.out, ← hV]; rfl)
          clear hV HAL
          go_wp2_with (fail)
          go_roundw
          case rel => exact ⟨k + 1, by omega, by go_num, by show _ = _; rw [HN.out], B3.out⟩
          case measure => simp [intOf]; omega
        · obtain ⟨b, off, hA, hbl, hat⟩ := IL.out.at hlt
          have hmem := List.getElem_mem hlt
          have hfx := IL.out.fit _ hmem
          have hax := IL.out.at_ _ hmem
          have HAT := lh hat
          obtain ⟨y, hy⟩ : ∃ y, y = l[k] := ⟨_, rfl⟩
          rw [← hy] at HAT hfx hax HAL
          have HN := lh (show ((deeds l).take (k + 1)).all Deed.ok = y.o.ok by rw [HAL.out, ← hV]; rfl)
          have FX := lh hfx
          have AX := lh hax
          have hi1 : (0 : Int) ≤ (k : Int) := by omega
          have hi2 : (k : Int) < (l.length : Int) := by omega
          clear hat hy hfx hax hmem hV HAL
          subst hA
          go_wp2_with (with_reducible refine slG 34 (.tmp 58) rfl ?_)
          refine Stop.mk (wlG (by simp [Region.wanted, yielded]) _ _ rfl b (off + k * 63) rfl (y.o.arr y.q) (HAT.out _ B3.out) strOpR (Deed.arr_size y.wf) ?_)
          go_wp2_with (fail)
          refine (c_ref47_Check y.o y.q _ FX.out (AX.out.below B3.out)).mono ?_
          rintro e w6 ⟨rfl, hb6⟩
          replace B3 := lh (B3.out.trans (hb6.mono B3.out.size))
          obtain ⟨K, hK⟩ : ∃ K, K = y.o.ok := ⟨_, rfl⟩
          replace HN := lh (HN.out.trans hK.symm)
          rw [← hK]
          clear hb6 hK
          go_wp2_with (fail)
          go_roundw
          case rel => exact ⟨k + 1, by omega, by go_num, by show _ = _; rw [HN.out], B3.out⟩
          case measure => simp [intOf]; omega
      · obtain rfl : k = l.length := by omega
        have d2 : decide ((l.length : Int) < (l.length : Int)) = false := by simp
        have hVM : V = M := by
          rw [hV, HM.out, mayAll_iff (by rw [deeds_len']; have := H120.out; omega), deeds_all]
        subst hVM
        clear hV hlt hk
        have htl := lh (show t.length ≤ 1000000 by rw [HTX.out]; exact back_len (by rw [deeds_len']; exact H120.out))
        cases V
        · go_wp2_with (fail)
          refine (c_script_Decode t _ (HT.out.below B3.out) htl.out).mono ?_
          rintro e w7 ⟨A7, c7, z, rfl, IZ, hz, hb7⟩
          replace B3 := lh (B3.out.trans (hb7.mono B3.out.size))
          obtain ⟨F, hF⟩ : ∃ F, F = rdScriptE t := ⟨_, rfl⟩
          rw [← hF]
          clear hb7 IZ hz hF
          go_wp2_with (fail)
          refine (c_law47_awake _ (HT.out.below B3.out)).mono ?_
          rintro e w9 ⟨rfl, hb9⟩
          go_wp2_with (fail)
          go_ret
          exact RetV.bool rfl (B3.out.trans (hb9.mono B3.out.size))
        · have BP := lh (back_put H120.out HM.out.symm IL.out.fit)
          rw [← HTX.out] at BP
          go_wp2_with (fail)
          refine (c_script_Decode t _ (HT.out.below B3.out) htl.out).mono ?_
          rintro e w7 ⟨A7, c7, z, rfl, IZ, hz, hb7⟩
          replace B3 := lh (B3.out.trans (hb7.mono B3.out.size))
          have IZ2 := lh IZ
          have HZ := lh (decide_eq_true (show deeds z = deeds l by rw [hz, BP.out.2]))
          rw [BP.out.1]
          have hzl : z.length ≤ c7 := IZ.inn.1
          have hzc : c7 ≤ 9223372036854775807 := IZ.inn.2.1
          clear hb7 IZ hz
          go_wp2_with (fail)
          refine (c_law47_same z l A7 A c7 c _ IZ2.out (IL.out.below B3.out)).mono ?_
          rintro e w8 ⟨rfl, hb8⟩
          rw [HZ.out]
          replace B3 := lh (B3.out.trans (hb8.mono B3.out.size))
          clear hb8 IZ2
          go_wp2_with (fail)
          refine (c_law47_awake _ (HT.out.below B3.out)).mono ?_
          rintro e w9 ⟨rfl, hb9⟩
          go_wp2_with (fail)
          go_ret
          exact RetV.bool rfl (B3.out.trans (hb9.mono B3.out.size))
theorem c_law47_ScriptBack (l : List DQ) (A : Option Addr) (c : Nat) (s : List UInt8) (w : World) (hT : Tab w) (h : RawQ w A c l) (hsz : s.length ≤ 9223372036854775807) :
    Calls Tryd.prog 5 #[.slice A l.length c, .string (str s)] w (RetV w (.bool true)) := by
  cases hl : longAll l
  · by_cases hs : 6000 < s.length
    · exact law47_Back_l2 l A c s w hT h hl hs hsz
    · exact law47_Back_in l A c s w hT h hl (by omega)
  · exact law47_Back_l1 l A c s w hT h hl
end Go.Proofs.YtiedkcijjfmhaaaDoor
