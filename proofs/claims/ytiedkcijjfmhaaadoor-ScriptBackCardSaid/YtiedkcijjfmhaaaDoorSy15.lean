/-
  Era, W19h1, W19h2, W19h3, W19k, W19i, W19j, in one text (merge.py).
-/
import Derived.Test.YtiedkcijjfmhaaaDoorSy7
import Derived.Test.YtiedkcijjfmhaaaDoorSy9
import Derived.Test.YtiedkcijjfmhaaaDoorSy10
import Derived.Test.YtiedkcijjfmhaaaDoorSy12
/-! Era -/
namespace Go.Proofs.YtiedkcijjfmhaaaDoor
open Go.RowKit

theorem putAt_all {tl vs : List Value} (h : tl.length = vs.length) : putAt tl.toArray 0 vs = vs.toArray := by
  apply Array.ext_getElem?
  intro i
  by_cases hi : i < vs.length
  · have := putAt_in vs tl.toArray 0 i (by simp; omega) hi
    rw [Nat.zero_add] at this
    rw [this, List.getElem?_toArray]
  · rw [Array.getElem?_eq_none (by rw [putAt_size]; simp; omega), Array.getElem?_eq_none (by simp; omega)]
theorem Edit.arr_app (k i g : Int) (p : Patch) : Edit.arr ⟨k, i, g, p⟩ = (([.int .i64 k, .int .i64 i, .int .i64 g] : List Value) ++ p.arr.toList).toArray := by unfold Edit.arr Patch.arr; rfl
section
variable {k i g : Int} {p q : Patch}
theorem Edit.put1 (v : Int) : (Edit.arr ⟨k, i, g, p⟩).setIfInBounds 1 (.int .i64 v) = Edit.arr ⟨k, v, g, p⟩ := by unfold Edit.arr; simp
theorem Edit.put2 (v : Int) : (Edit.arr ⟨k, i, g, p⟩).setIfInBounds 2 (.int .i64 v) = Edit.arr ⟨k, i, v, p⟩ := by unfold Edit.arr; simp
theorem Edit.putP (h : p.f.length = q.f.length) : putAt (Edit.arr ⟨k, i, g, p⟩) 3 q.arr.toList = Edit.arr ⟨k, i, g, q⟩ := by
  have h1 := p.arr_size
  have h2 := q.arr_size
  have e := putAt_app [.int .i64 k, .int .i64 i, .int .i64 g] p.arr.toList 0 q.arr.toList (by simp; omega)
  have e2 := putAt_all (tl := p.arr.toList) (vs := q.arr.toList) (by simp; omega)
  rw [Edit.arr_app, Edit.arr_app]
  refine e.trans ?_
  rw [e2]
end
theorem Edit.arr_one (c : Edit) : ∀ v ∈ c.arr.toList, v.oneCell' = true := by
  intro v hv
  obtain ⟨k, i, g, p⟩ := c
  rw [Edit.arr_app] at hv
  rw [List.mem_append] at hv
  rcases hv with hv | hv
  · simp only [List.mem_cons, List.not_mem_nil, or_false] at hv
    rcases hv with rfl | rfl | rfl <;> rfl
  · exact Patch.arr_one p v hv
theorem Edit.sizeE {e : Edit} (hf : e.p.f.length = 8) : e.arr.size = 29 := by rw [Edit.arr_size, hf]
theorem Edit.arr_ones (c : Edit) : (c.arr.all fun x => x.oneCell') = true := by
  rw [Array.all_eq_true]
  exact fun i hi => Edit.arr_one c _ (Array.getElem_mem_toList hi)
theorem kinds_has {k : Int} (h1 : 1 ≤ k) (h2 : k ≤ 7) : (hasG k = false ∧ hasI k = false ∧ hasP k = true) ∨ (hasG k = false ∧ hasI k = true ∧ hasP k = true) ∨ (hasG k = false ∧ hasI k = true ∧ hasP k = false) ∨ (hasG k = true ∧ hasI k = false ∧ hasP k = false) ∨ (hasG k = true ∧ hasI k = true ∧ hasP k = false) := by
  rcases kind8 (by omega) h2 with rfl | rfl | rfl | rfl | rfl | rfl | rfl | rfl
  · omega
  all_goals decide
theorem edK_bd (st : Rd) : 0 ≤ edK st ∧ edK st ≤ 7 := by have := rdN_bd st 7; unfold edK; omega
theorem edP_code {st : Rd} : (rdPatch st).code = 0 ↔ (rdPatch' st).e = 0 := by
  by_cases h : (rdPatch' st).e = 0
  · exact ⟨fun _ => h, fun _ => (rdPatch_took h).2.1⟩
  · rw [rdPatch_bad h, pz_code]
    exact ⟨fun h' => absurd h' (by decide), fun h' => absurd h' h⟩
theorem edB_yes {st : Rd} (h : hasG (edK st) = true) : edB st = rdN' (edA st) 15 ∧ edG st = rdN (edA st) 15 := by unfold edB edG; rw [if_pos h, if_pos h]; exact ⟨rfl, rfl⟩
theorem edB_no {st : Rd} (h : hasG (edK st) = false) : edB st = edA st ∧ edG st = 0 := by unfold edB edG; rw [h]; exact ⟨rfl, rfl⟩
theorem edC_yes {st : Rd} (h : hasI (edK st) = true) : edC st = rdAb' (edB st) 1073741823 ∧ edI st = rdN (edB st) 1073741823 := by unfold edC edI; rw [if_pos h, if_pos h]; exact ⟨rfl, rfl⟩
theorem edC_no {st : Rd} (h : hasI (edK st) = false) : edC st = edB st ∧ edI st = 0 := by unfold edC edI; rw [h]; exact ⟨rfl, rfl⟩
theorem edP_yes {st : Rd} (h : hasP (edK st) = true) : rdEdit' st = rdPatch' (edC st) ∧ edP st = rdPatch (edC st) := by rw [rdEdit'_eq]; unfold edP; rw [if_pos h, if_pos h]; exact ⟨rfl, rfl⟩
theorem edP_no {st : Rd} (h : hasP (edK st) = false) : rdEdit' st = edC st ∧ edP st = pz := by rw [rdEdit'_eq]; unfold edP; rw [h]; exact ⟨rfl, rfl⟩
theorem ez_cells : ez.arr = (#[.int .i64 0, .int .i64 0, .int .i64 0, .int .u32 0, .int .u32 0, .int .i64 0, .int .i64 0, .string (str []), .int .i64 0, .int .i64 0, .string (str []), .int .i64 0, .int .i64 0, .string (str []), .int .i64 0, .int .i64 0, .string (str []), .int .i64 0, .int .i64 0, .string (str []), .int .i64 0, .int .i64 0, .string (str []), .int .i64 0, .int .i64 0, .string (str []), .int .i64 0, .int .i64 0, .string (str [])] : Array Value) := by
  unfold Edit.arr; rfl
end Go.Proofs.YtiedkcijjfmhaaaDoor
/-! W19h1 -/
namespace Go.Proofs.YtiedkcijjfmhaaaDoor
open Go.RowKit

set_option maxHeartbeats 4000000 in
set_option maxRecDepth 4000 in
theorem edit_Read_a (p : Option Nat) (st : Rd) (w : World) (hT : Tab w) (hr : RdP w p st) (hk : rdN st 7 = 0) (hG : hasG (edK st) = false) (hI : hasI (edK st) = false) (hP : hasP (edK st) = false) (he : (rdEdit' st).e ≠ 0) :
    Calls Tryd.prog 82 #[ptr p] w (RetP p (rdEdit' st) w (.agg (rdEdit st).arr)) := by
  have hpl := fun g (hg : p = some g) => hr.lt hg
  have ht := hr.tab hT
  obtain ⟨K0, K7⟩ := edK_bd st
  obtain ⟨K, hKe⟩ : ∃ K, K = edK st := ⟨_, rfl⟩
  obtain ⟨S, hS⟩ : ∃ S, S = rdEdit' st := ⟨_, rfl⟩
  obtain ⟨V, hV⟩ : ∃ V, V = rdEdit st := ⟨_, rfl⟩
  rw [← hKe] at K0 K7
  have HK := lh (show K = rdN st 7 from hKe)
  have HSe := lh hS
  have HA := lh (show edA st = rdF (rdN' st 7) 3 from rdAb'_zero hk)
  have j0 : (K == 0) = true := by rw [hKe]; show (rdN st 7 == 0) = _; simpa using hk
  have j1 : hasW K 1 = false := by rw [hKe]; exact hG
  have j2 : hasW K 2 = false := by rw [hKe]; exact hI
  have j4 : hasW K 4 = false := by rw [hKe]; exact hP
  have je : (S.e != 0) = true := by rw [hS]; simpa using he
  obtain ⟨b1, b2⟩ := edB_no hG
  have HBq := lh b1
  obtain ⟨c1, c2⟩ := edC_no hI
  have HC := lh c1
  obtain ⟨p1, p2⟩ := edP_no hP
  have HE := lh (show S = edC st by rw [hS, p1])
  have HV := lh (show V = ez by rw [hV, rdEdit_bad he])
  rw [← hS, ← hV]
  clear hKe hS hV hk hG hI hP he b1 b2 c1 c2 p1 p2
  go_enter Tryd.func82, Tryd.ntmps82
  go_wp2_with (fail)
  refine (c_octet_RNum p st 7 _ (hr.below ((Below.refl _ _).alloc (Nat.le_refl _) _))).mono ?_
  rintro e w1 ⟨rfl, hr1, hk1⟩
  rw [← HK.out]
  have hz1 := hk1.size
  simp only [World.size_alloc] at hz1
  have kw1 : Kept p w.heap.size w w1 := (by repeat (first | exact Kept.refl _ _ _ | refine Kept.drew ?_ | refine Kept.alloc ?_ (by first | omega | (simp; done) | (simp; omega)) _ | refine Kept.setCell ?_ (by first | (right; rfl) | (left; first | omega | (simp; done) | (simp; omega))) _ | refine Kept.then_kept ?_ (by assumption) (by first | omega | (simp; done) | (simp; omega)) | refine Kept.then_below ?_ (by assumption) (by first | omega | (simp; done) | (simp; omega)) | refine Kept.low ?_ (by assumption)))
  have R1 := lh ((Blk.new w _ _).kept hk1 (by simp) (ne_of_lt hpl (Nat.le_refl _)))
  go_wp2_with (with_reducible refine stS 30 (.tmp 3) (.tmp 6) rfl rfl ?_)
  refine Stop.mk (wsB rfl _ _ _ rfl w1.heap.size _ rfl rfl _ (Blk.new _ _ _) strE rfl rfl (by simp [Value.oneCell']) ?_)
  intro w2 hb2 hk2
  have B2 := lh (show Blk w2 w1.heap.size (Edit.arr ⟨K, 0, 0, pz⟩) by unfold Edit.arr; exact hb2)
  clear hb2
  have R2 := lh ((R1.out.alloc _).kept hk2 (by simp; omega) (by simp; omega))
  have hz2 := hk2.size
  simp only [World.size_alloc] at hz2
  have kw2 : Kept p w.heap.size w w2 := (kw1.alloc (by omega) _).trans (hk2.one (by simp; omega) (.inl (by omega)))
  have hr2 : RdP w2 p (rdN' st 7) := (hr1.below ((Below.refl _ _).alloc (Nat.le_refl _) _)).own (b := w1.heap.size) hk2 (fun g hg => by have := hpl g hg; omega)
  have q2 := B2.out.cell (Edit.arr_head _).1
  go_wp2_with (fail)
  refine (c_octet_Fail p (rdN' st 7) 3 _ hr2).mono ?_
  rintro e w3 ⟨rfl, hr3, hk3⟩
  have hz3 := hk3.size
  have kw3 : Kept p w.heap.size w w3 := kw2.trans (hk3.mono (by omega))
  have B3 := lh (B2.out.kept hk3 (by omega) (ne_of_lt hpl (by omega)))
  have R3 := lh (R2.out.kept hk3 (by omega) (ne_of_lt hpl (by omega)))
  clear q2
  have q3 := B3.out.cell (Edit.arr_head _).1
  have hA3 : RdP w3 p (edA st) := by rw [HA.out]; exact hr3
  replace hr3 := hA3
  clear hA3
  go_wp2_with (fail)
  refine (c_edit_has K _ _ K0 K7 (by decide)).mono ?_
  rintro e w4 ⟨rfl, hb4⟩
  have hz4 := hb4.size
  have kw4 : Kept p w.heap.size w w4 := kw3.then_below hb4 (by omega)
  have B4 := lh (B3.out.below hb4 B3.out.lt)
  have R4 := lh (R3.out.below hb4 R3.out.lt)
  have hr4 := hr3.below hb4
  clear q3
  have q4 := B4.out.cell (Edit.arr_head _).1
  have hB4 : RdP w4 p (edB st) := by rw [HBq.out]; exact hr4
  replace hr4 := hB4
  clear hB4
  go_wp2_with (fail)
  refine (c_edit_has K _ _ K0 K7 (by decide)).mono ?_
  rintro e w5 ⟨rfl, hb5⟩
  have hz5 := hb5.size
  have kw5 : Kept p w.heap.size w w5 := kw4.then_below hb5 (by omega)
  have B5 := lh (B4.out.below hb5 B4.out.lt)
  have R5 := lh (R4.out.below hb5 R4.out.lt)
  have hr5 := hr4.below hb5
  clear q4
  have q5 := B5.out.cell (Edit.arr_head _).1
  have hC5 : RdP w5 p (edC st) := by rw [HC.out]; exact hr5
  replace hr5 := hC5
  clear hC5
  go_wp2_with (fail)
  refine (c_edit_has K _ _ K0 K7 (by decide)).mono ?_
  rintro e w6 ⟨rfl, hb6⟩
  have hz6 := hb6.size
  have kw6 : Kept p w.heap.size w w6 := kw5.then_below hb6 (by omega)
  have B6 := lh (B5.out.below hb6 B5.out.lt)
  have R6 := lh (R5.out.below hb6 R5.out.lt)
  have hr6 := hr5.below hb6
  clear q5
  have q6 := B6.out.cell (Edit.arr_head _).1
  have hS6 : RdP w6 p S := by rw [HE.out]; exact hr6
  replace hr6 := hS6
  clear hS6
  go_wp2_with (fail)
  refine (c_octet_Err p S _ hr6).mono ?_
  rintro e w7 ⟨rfl, hr7, hk7⟩
  have hz7 := hk7.size
  have kw7 : Kept p w.heap.size w w7 := kw6.trans (hk7.mono (by omega))
  have B7 := lh (B6.out.kept hk7 (by omega) (ne_of_lt hpl (by omega)))
  have R7 := lh (R6.out.kept hk7 (by omega) (ne_of_lt hpl (by omega)))
  clear q6
  have q7 := B7.out.cell (Edit.arr_head _).1
  clear q7
  go_wp2_with (with_reducible refine stS 30 (.tmp 2) (.tmp 44) rfl rfl ?_)
  refine Stop.mk (wsB rfl _ _ _ rfl w.heap.size _ rfl rfl _ R7.out strE rfl rfl (by simp [Value.oneCell']) ?_)
  intro w99 hb99 hk99
  have B99 := lh (show Blk w99 w.heap.size ez.arr by rw [ez_cells]; exact hb99)
  clear hb99
  go_wp2_with (fail)
  exact bodyPost_ret (results_B rfl rfl B99.out strE (Edit.sizeE rfl)) rfl ⟨by rw [HV.out], hr7.own (b := w.heap.size) hk99 hpl, kw7.trans (hk99.one (by omega) (.inl (Nat.le_refl _)))⟩
set_option maxHeartbeats 4000000 in
set_option maxRecDepth 4000 in
theorem edit_Read_b (p : Option Nat) (st : Rd) (w : World) (hT : Tab w) (hr : RdP w p st) (hk : rdN st 7 ≠ 0) (hG : hasG (edK st) = false) (hI : hasI (edK st) = false) (hP : hasP (edK st) = true) (he : (rdEdit' st).e ≠ 0) :
    Calls Tryd.prog 82 #[ptr p] w (RetP p (rdEdit' st) w (.agg (rdEdit st).arr)) := by
  have hpl := fun g (hg : p = some g) => hr.lt hg
  have ht := hr.tab hT
  obtain ⟨K0, K7⟩ := edK_bd st
  obtain ⟨K, hKe⟩ : ∃ K, K = edK st := ⟨_, rfl⟩
  obtain ⟨S, hS⟩ : ∃ S, S = rdEdit' st := ⟨_, rfl⟩
  obtain ⟨V, hV⟩ : ∃ V, V = rdEdit st := ⟨_, rfl⟩
  rw [← hKe] at K0 K7
  have HK := lh (show K = rdN st 7 from hKe)
  have HSe := lh hS
  have HA := lh (show edA st = rdN' st 7 from rdAb'_pos hk)
  have j0 : (K == 0) = false := by rw [hKe]; show (rdN st 7 == 0) = _; simpa using hk
  have j1 : hasW K 1 = false := by rw [hKe]; exact hG
  have j2 : hasW K 2 = false := by rw [hKe]; exact hI
  have j4 : hasW K 4 = true := by rw [hKe]; exact hP
  have je : (S.e != 0) = true := by rw [hS]; simpa using he
  obtain ⟨b1, b2⟩ := edB_no hG
  have HBq := lh b1
  obtain ⟨c1, c2⟩ := edC_no hI
  have HC := lh c1
  obtain ⟨p1, p2⟩ := edP_yes hP
  have HPS := lh (show (rdPatch (edC st)).arr.size = 26 by rw [Patch.arr_size, rdPatch_len])
  have HPM := lh (show (rdPatch (edC st)).mask < 4294967296 by have := (rdPatch_mask (edC st)).1; omega)
  have jc : ((rdPatch (edC st)).code != 0) = true := by have : (rdPatch (edC st)).code ≠ 0 := fun h' => he (p1 ▸ edP_code.1 h'); simpa using this
  have HE := lh (show S = rdF (rdPatch' (edC st)) 3 by rw [hS, p1, rdF_err (p1 ▸ he)])
  have HV := lh (show V = ez by rw [hV, rdEdit_bad he])
  rw [← hS, ← hV]
  clear hKe hS hV hk hG hI hP he b1 b2 c1 c2 p1 p2
  go_enter Tryd.func82, Tryd.ntmps82
  go_wp2_with (fail)
  refine (c_octet_RNum p st 7 _ (hr.below ((Below.refl _ _).alloc (Nat.le_refl _) _))).mono ?_
  rintro e w1 ⟨rfl, hr1, hk1⟩
  rw [← HK.out]
  have hz1 := hk1.size
  simp only [World.size_alloc] at hz1
  have kw1 : Kept p w.heap.size w w1 := (by repeat (first | exact Kept.refl _ _ _ | refine Kept.drew ?_ | refine Kept.alloc ?_ (by first | omega | (simp; done) | (simp; omega)) _ | refine Kept.setCell ?_ (by first | (right; rfl) | (left; first | omega | (simp; done) | (simp; omega))) _ | refine Kept.then_kept ?_ (by assumption) (by first | omega | (simp; done) | (simp; omega)) | refine Kept.then_below ?_ (by assumption) (by first | omega | (simp; done) | (simp; omega)) | refine Kept.low ?_ (by assumption)))
  have R1 := lh ((Blk.new w _ _).kept hk1 (by simp) (ne_of_lt hpl (Nat.le_refl _)))
  go_wp2_with (with_reducible refine stS 30 (.tmp 3) (.tmp 6) rfl rfl ?_)
  refine Stop.mk (wsB rfl _ _ _ rfl w1.heap.size _ rfl rfl _ (Blk.new _ _ _) strE rfl rfl (by simp [Value.oneCell']) ?_)
  intro w2 hb2 hk2
  have B2 := lh (show Blk w2 w1.heap.size (Edit.arr ⟨K, 0, 0, pz⟩) by unfold Edit.arr; exact hb2)
  clear hb2
  have R2 := lh ((R1.out.alloc _).kept hk2 (by simp; omega) (by simp; omega))
  have hz2 := hk2.size
  simp only [World.size_alloc] at hz2
  have kw2 : Kept p w.heap.size w w2 := (kw1.alloc (by omega) _).trans (hk2.one (by simp; omega) (.inl (by omega)))
  have hr2 : RdP w2 p (rdN' st 7) := (hr1.below ((Below.refl _ _).alloc (Nat.le_refl _) _)).own (b := w1.heap.size) hk2 (fun g hg => by have := hpl g hg; omega)
  have q2 := B2.out.cell (Edit.arr_head _).1
  have hA2 : RdP w2 p (edA st) := by rw [HA.out]; exact hr2
  replace hr2 := hA2
  clear hA2
  go_wp2_with (fail)
  refine (c_edit_has K _ _ K0 K7 (by decide)).mono ?_
  rintro e w3 ⟨rfl, hb3⟩
  have hz3 := hb3.size
  have kw3 : Kept p w.heap.size w w3 := kw2.then_below hb3 (by omega)
  have B3 := lh (B2.out.below hb3 B2.out.lt)
  have R3 := lh (R2.out.below hb3 R2.out.lt)
  have hr3 := hr2.below hb3
  clear q2
  have q3 := B3.out.cell (Edit.arr_head _).1
  have hB3 : RdP w3 p (edB st) := by rw [HBq.out]; exact hr3
  replace hr3 := hB3
  clear hB3
  go_wp2_with (fail)
  refine (c_edit_has K _ _ K0 K7 (by decide)).mono ?_
  rintro e w4 ⟨rfl, hb4⟩
  have hz4 := hb4.size
  have kw4 : Kept p w.heap.size w w4 := kw3.then_below hb4 (by omega)
  have B4 := lh (B3.out.below hb4 B3.out.lt)
  have R4 := lh (R3.out.below hb4 R3.out.lt)
  have hr4 := hr3.below hb4
  clear q3
  have q4 := B4.out.cell (Edit.arr_head _).1
  have hC4 : RdP w4 p (edC st) := by rw [HC.out]; exact hr4
  replace hr4 := hC4
  clear hC4
  go_wp2_with (fail)
  refine (c_edit_has K _ _ K0 K7 (by decide)).mono ?_
  rintro e w5 ⟨rfl, hb5⟩
  have hz5 := hb5.size
  have kw5 : Kept p w.heap.size w w5 := kw4.then_below hb5 (by omega)
  have B5 := lh (B4.out.below hb5 B4.out.lt)
  have R5 := lh (R4.out.below hb5 R4.out.lt)
  have hr5 := hr4.below hb5
  clear q4
  have q5 := B5.out.cell (Edit.arr_head _).1
  go_wp2_with (fail)
  refine (c_cardwire_Patch p (edC st) _ (hT.kept kw5 ht) hr5).mono ?_
  rintro e w6 ⟨rfl, hr6, hk6⟩
  have hz6 := hk6.size
  have kw6 : Kept p w.heap.size w w6 := kw5.trans (hk6.mono (by omega))
  have B6 := lh (B5.out.kept hk6 (by omega) (ne_of_lt hpl (by omega)))
  have R6 := lh (R5.out.kept hk6 (by omega) (ne_of_lt hpl (by omega)))
  clear q5
  have q6 := B6.out.cell (Edit.arr_head _).1
  go_wp2_with (with_reducible refine stS 28 (.tmp 34) (.tmp 33) rfl rfl ?_)
  refine Stop.mk (wpList_storeAt rfl _ _ _ rfl w1.heap.size 3 (rdPatch (edC st)).arr rfl rfl _ B6.out strP HPS.out (by rw [Edit.arr_size, HPS.out]; simp) (Patch.arr_one _) ?_)
  intro w7 hb7 hk7
  rw [Edit.putP (by rw [rdPatch_len]; rfl)] at hb7
  have B7 := lh hb7
  clear hb7 q6
  have hz7 := hk7.size
  have kw7 : Kept p w.heap.size w w7 := kw6.trans (hk7.one (by omega) (.inl (by omega)))
  have R7 := lh (R6.out.kept hk7 (by omega) (by simp; omega))
  have hr7 := hr6.own (b := w1.heap.size) hk7 (fun g hg => by have := hpl g hg; omega)
  have q7 := B7.out.cell (Edit.arr_head _).1
  go_wp2_with (with_reducible refine stop_load 28 (.tmp 35) rfl rfl ?_)
  refine Stop.mk (wpList_loadAt rfl _ _ rfl w1.heap.size 3 rfl (rdPatch (edC st)).arr (Edit.part B7.out) strP HPS.out ?_)
  go_wp2_with (fail)
  refine (c_card_CheckPatch (rdPatch (edC st)) _ HPM.out (rdPatch_len _) (rdPatch_sizes _)).mono ?_
  rintro e w8 ⟨rfl, hb8⟩
  have hz8 := hb8.size
  have kw8 : Kept p w.heap.size w w8 := kw7.then_below hb8 (by omega)
  have B8 := lh (B7.out.below hb8 B7.out.lt)
  have R8 := lh (R7.out.below hb8 R7.out.lt)
  have hr8 := hr7.below hb8
  clear q7
  have q8 := B8.out.cell (Edit.arr_head _).1
  go_wp2_with (fail)
  refine (c_octet_Fail p (rdPatch' (edC st)) 3 _ hr8).mono ?_
  rintro e w9 ⟨rfl, hr9, hk9⟩
  have hz9 := hk9.size
  have kw9 : Kept p w.heap.size w w9 := kw8.trans (hk9.mono (by omega))
  have B9 := lh (B8.out.kept hk9 (by omega) (ne_of_lt hpl (by omega)))
  have R9 := lh (R8.out.kept hk9 (by omega) (ne_of_lt hpl (by omega)))
  clear q8
  have q9 := B9.out.cell (Edit.arr_head _).1
  have hS9 : RdP w9 p S := by rw [HE.out]; exact hr9
  replace hr9 := hS9
  clear hS9
  go_wp2_with (fail)
  refine (c_octet_Err p S _ hr9).mono ?_
  rintro e w10 ⟨rfl, hr10, hk10⟩
  have hz10 := hk10.size
  have kw10 : Kept p w.heap.size w w10 := kw9.trans (hk10.mono (by omega))
  have B10 := lh (B9.out.kept hk10 (by omega) (ne_of_lt hpl (by omega)))
  have R10 := lh (R9.out.kept hk10 (by omega) (ne_of_lt hpl (by omega)))
  clear q9
  have q10 := B10.out.cell (Edit.arr_head _).1
  clear q10
  go_wp2_with (with_reducible refine stS 30 (.tmp 2) (.tmp 44) rfl rfl ?_)
  refine Stop.mk (wsB rfl _ _ _ rfl w.heap.size _ rfl rfl _ R10.out strE rfl rfl (by simp [Value.oneCell']) ?_)
  intro w99 hb99 hk99
  have B99 := lh (show Blk w99 w.heap.size ez.arr by rw [ez_cells]; exact hb99)
  clear hb99
  go_wp2_with (fail)
  exact bodyPost_ret (results_B rfl rfl B99.out strE (Edit.sizeE rfl)) rfl ⟨by rw [HV.out], hr10.own (b := w.heap.size) hk99 hpl, kw10.trans (hk99.one (by omega) (.inl (Nat.le_refl _)))⟩
set_option maxHeartbeats 4000000 in
set_option maxRecDepth 4000 in
theorem edit_Read_c (p : Option Nat) (st : Rd) (w : World) (hT : Tab w) (hr : RdP w p st) (hk : rdN st 7 ≠ 0) (hG : hasG (edK st) = false) (hI : hasI (edK st) = false) (hP : hasP (edK st) = true) (he : (rdEdit' st).e = 0) :
    Calls Tryd.prog 82 #[ptr p] w (RetP p (rdEdit' st) w (.agg (rdEdit st).arr)) := by
  have hpl := fun g (hg : p = some g) => hr.lt hg
  have ht := hr.tab hT
  obtain ⟨K0, K7⟩ := edK_bd st
  obtain ⟨K, hKe⟩ : ∃ K, K = edK st := ⟨_, rfl⟩
  obtain ⟨S, hS⟩ : ∃ S, S = rdEdit' st := ⟨_, rfl⟩
  obtain ⟨V, hV⟩ : ∃ V, V = rdEdit st := ⟨_, rfl⟩
  rw [← hKe] at K0 K7
  have HK := lh (show K = rdN st 7 from hKe)
  have HSe := lh hS
  have HA := lh (show edA st = rdN' st 7 from rdAb'_pos hk)
  have j0 : (K == 0) = false := by rw [hKe]; show (rdN st 7 == 0) = _; simpa using hk
  have j1 : hasW K 1 = false := by rw [hKe]; exact hG
  have j2 : hasW K 2 = false := by rw [hKe]; exact hI
  have j4 : hasW K 4 = true := by rw [hKe]; exact hP
  have je : (S.e != 0) = false := by rw [hS]; simpa using he
  obtain ⟨b1, b2⟩ := edB_no hG
  have HBq := lh b1
  obtain ⟨c1, c2⟩ := edC_no hI
  have HC := lh c1
  obtain ⟨p1, p2⟩ := edP_yes hP
  have HPS := lh (show (rdPatch (edC st)).arr.size = 26 by rw [Patch.arr_size, rdPatch_len])
  have HPM := lh (show (rdPatch (edC st)).mask < 4294967296 by have := (rdPatch_mask (edC st)).1; omega)
  have jc : ((rdPatch (edC st)).code != 0) = false := by have : (rdPatch (edC st)).code = 0 := edP_code.2 (p1 ▸ he); simpa using this
  have HE := lh (show S = rdPatch' (edC st) by rw [hS, p1])
  have HV := lh (show V = ⟨K, 0, 0, rdPatch (edC st)⟩ by rw [hV, rdEdit_ok he]; unfold edEdit; rw [b2, c2, p2, hKe])
  rw [← hS, ← hV]
  clear hKe hS hV hk hG hI hP he b1 b2 c1 c2 p1 p2
  go_enter Tryd.func82, Tryd.ntmps82
  go_wp2_with (fail)
  refine (c_octet_RNum p st 7 _ (hr.below ((Below.refl _ _).alloc (Nat.le_refl _) _))).mono ?_
  rintro e w1 ⟨rfl, hr1, hk1⟩
  rw [← HK.out]
  have hz1 := hk1.size
  simp only [World.size_alloc] at hz1
  have kw1 : Kept p w.heap.size w w1 := (by repeat (first | exact Kept.refl _ _ _ | refine Kept.drew ?_ | refine Kept.alloc ?_ (by first | omega | (simp; done) | (simp; omega)) _ | refine Kept.setCell ?_ (by first | (right; rfl) | (left; first | omega | (simp; done) | (simp; omega))) _ | refine Kept.then_kept ?_ (by assumption) (by first | omega | (simp; done) | (simp; omega)) | refine Kept.then_below ?_ (by assumption) (by first | omega | (simp; done) | (simp; omega)) | refine Kept.low ?_ (by assumption)))
  have R1 := lh ((Blk.new w _ _).kept hk1 (by simp) (ne_of_lt hpl (Nat.le_refl _)))
  go_wp2_with (with_reducible refine stS 30 (.tmp 3) (.tmp 6) rfl rfl ?_)
  refine Stop.mk (wsB rfl _ _ _ rfl w1.heap.size _ rfl rfl _ (Blk.new _ _ _) strE rfl rfl (by simp [Value.oneCell']) ?_)
  intro w2 hb2 hk2
  have B2 := lh (show Blk w2 w1.heap.size (Edit.arr ⟨K, 0, 0, pz⟩) by unfold Edit.arr; exact hb2)
  clear hb2
  have R2 := lh ((R1.out.alloc _).kept hk2 (by simp; omega) (by simp; omega))
  have hz2 := hk2.size
  simp only [World.size_alloc] at hz2
  have kw2 : Kept p w.heap.size w w2 := (kw1.alloc (by omega) _).trans (hk2.one (by simp; omega) (.inl (by omega)))
  have hr2 : RdP w2 p (rdN' st 7) := (hr1.below ((Below.refl _ _).alloc (Nat.le_refl _) _)).own (b := w1.heap.size) hk2 (fun g hg => by have := hpl g hg; omega)
  have q2 := B2.out.cell (Edit.arr_head _).1
  have hA2 : RdP w2 p (edA st) := by rw [HA.out]; exact hr2
  replace hr2 := hA2
  clear hA2
  go_wp2_with (fail)
  refine (c_edit_has K _ _ K0 K7 (by decide)).mono ?_
  rintro e w3 ⟨rfl, hb3⟩
  have hz3 := hb3.size
  have kw3 : Kept p w.heap.size w w3 := kw2.then_below hb3 (by omega)
  have B3 := lh (B2.out.below hb3 B2.out.lt)
  have R3 := lh (R2.out.below hb3 R2.out.lt)
  have hr3 := hr2.below hb3
  clear q2
  have q3 := B3.out.cell (Edit.arr_head _).1
  have hB3 : RdP w3 p (edB st) := by rw [HBq.out]; exact hr3
  replace hr3 := hB3
  clear hB3
  go_wp2_with (fail)
  refine (c_edit_has K _ _ K0 K7 (by decide)).mono ?_
  rintro e w4 ⟨rfl, hb4⟩
  have hz4 := hb4.size
  have kw4 : Kept p w.heap.size w w4 := kw3.then_below hb4 (by omega)
  have B4 := lh (B3.out.below hb4 B3.out.lt)
  have R4 := lh (R3.out.below hb4 R3.out.lt)
  have hr4 := hr3.below hb4
  clear q3
  have q4 := B4.out.cell (Edit.arr_head _).1
  have hC4 : RdP w4 p (edC st) := by rw [HC.out]; exact hr4
  replace hr4 := hC4
  clear hC4
  go_wp2_with (fail)
  refine (c_edit_has K _ _ K0 K7 (by decide)).mono ?_
  rintro e w5 ⟨rfl, hb5⟩
  have hz5 := hb5.size
  have kw5 : Kept p w.heap.size w w5 := kw4.then_below hb5 (by omega)
  have B5 := lh (B4.out.below hb5 B4.out.lt)
  have R5 := lh (R4.out.below hb5 R4.out.lt)
  have hr5 := hr4.below hb5
  clear q4
  have q5 := B5.out.cell (Edit.arr_head _).1
  go_wp2_with (fail)
  refine (c_cardwire_Patch p (edC st) _ (hT.kept kw5 ht) hr5).mono ?_
  rintro e w6 ⟨rfl, hr6, hk6⟩
  have hz6 := hk6.size
  have kw6 : Kept p w.heap.size w w6 := kw5.trans (hk6.mono (by omega))
  have B6 := lh (B5.out.kept hk6 (by omega) (ne_of_lt hpl (by omega)))
  have R6 := lh (R5.out.kept hk6 (by omega) (ne_of_lt hpl (by omega)))
  clear q5
  have q6 := B6.out.cell (Edit.arr_head _).1
  go_wp2_with (with_reducible refine stS 28 (.tmp 34) (.tmp 33) rfl rfl ?_)
  refine Stop.mk (wpList_storeAt rfl _ _ _ rfl w1.heap.size 3 (rdPatch (edC st)).arr rfl rfl _ B6.out strP HPS.out (by rw [Edit.arr_size, HPS.out]; simp) (Patch.arr_one _) ?_)
  intro w7 hb7 hk7
  rw [Edit.putP (by rw [rdPatch_len]; rfl)] at hb7
  have B7 := lh hb7
  clear hb7 q6
  have hz7 := hk7.size
  have kw7 : Kept p w.heap.size w w7 := kw6.trans (hk7.one (by omega) (.inl (by omega)))
  have R7 := lh (R6.out.kept hk7 (by omega) (by simp; omega))
  have hr7 := hr6.own (b := w1.heap.size) hk7 (fun g hg => by have := hpl g hg; omega)
  have q7 := B7.out.cell (Edit.arr_head _).1
  go_wp2_with (with_reducible refine stop_load 28 (.tmp 35) rfl rfl ?_)
  refine Stop.mk (wpList_loadAt rfl _ _ rfl w1.heap.size 3 rfl (rdPatch (edC st)).arr (Edit.part B7.out) strP HPS.out ?_)
  go_wp2_with (fail)
  refine (c_card_CheckPatch (rdPatch (edC st)) _ HPM.out (rdPatch_len _) (rdPatch_sizes _)).mono ?_
  rintro e w8 ⟨rfl, hb8⟩
  have hz8 := hb8.size
  have kw8 : Kept p w.heap.size w w8 := kw7.then_below hb8 (by omega)
  have B8 := lh (B7.out.below hb8 B7.out.lt)
  have R8 := lh (R7.out.below hb8 R7.out.lt)
  have hr8 := hr7.below hb8
  clear q7
  have q8 := B8.out.cell (Edit.arr_head _).1
  have hS8 : RdP w8 p S := by rw [HE.out]; exact hr8
  replace hr8 := hS8
  clear hS8
  go_wp2_with (fail)
  refine (c_octet_Err p S _ hr8).mono ?_
  rintro e w9 ⟨rfl, hr9, hk9⟩
  have hz9 := hk9.size
  have kw9 : Kept p w.heap.size w w9 := kw8.trans (hk9.mono (by omega))
  have B9 := lh (B8.out.kept hk9 (by omega) (ne_of_lt hpl (by omega)))
  have R9 := lh (R8.out.kept hk9 (by omega) (ne_of_lt hpl (by omega)))
  clear q8
  have q9 := B9.out.cell (Edit.arr_head _).1
  clear q9
  go_wp2_with (with_reducible refine stop_load 30 (.tmp 3) rfl rfl ?_)
  refine Stop.mk (wpList_loadB rfl _ _ rfl w1.heap.size rfl _ B9.out strE (Edit.sizeE (rdPatch_len _)) ?_)
  go_wp2_with (with_reducible refine stS 30 (.tmp 2) (.tmp 45) rfl rfl ?_)
  refine Stop.mk (wsB rfl _ _ _ rfl w.heap.size _ rfl rfl _ R9.out strE (Edit.sizeE (rdPatch_len _)) (by rw [Edit.sizeE (rdPatch_len _)]; rfl) (Edit.arr_ones _) ?_)
  intro w99 hb99 hk99
  have B99 := lh hb99
  clear hb99
  go_wp2_with (fail)
  exact bodyPost_ret (results_B rfl rfl B99.out strE (Edit.sizeE (rdPatch_len _))) rfl ⟨by rw [HV.out], hr9.own (b := w.heap.size) hk99 hpl, kw9.trans (hk99.one (by omega) (.inl (Nat.le_refl _)))⟩
set_option maxHeartbeats 4000000 in
set_option maxRecDepth 4000 in
theorem edit_Read_d (p : Option Nat) (st : Rd) (w : World) (hT : Tab w) (hr : RdP w p st) (hk : rdN st 7 ≠ 0) (hG : hasG (edK st) = false) (hI : hasI (edK st) = true) (hP : hasP (edK st) = true) (hd : rdN (edB st) 1073741823 = 0) (he : (rdEdit' st).e ≠ 0) :
    Calls Tryd.prog 82 #[ptr p] w (RetP p (rdEdit' st) w (.agg (rdEdit st).arr)) := by
  have hpl := fun g (hg : p = some g) => hr.lt hg
  have ht := hr.tab hT
  obtain ⟨K0, K7⟩ := edK_bd st
  obtain ⟨K, hKe⟩ : ∃ K, K = edK st := ⟨_, rfl⟩
  obtain ⟨S, hS⟩ : ∃ S, S = rdEdit' st := ⟨_, rfl⟩
  obtain ⟨V, hV⟩ : ∃ V, V = rdEdit st := ⟨_, rfl⟩
  rw [← hKe] at K0 K7
  have HK := lh (show K = rdN st 7 from hKe)
  have HSe := lh hS
  have HA := lh (show edA st = rdN' st 7 from rdAb'_pos hk)
  have j0 : (K == 0) = false := by rw [hKe]; show (rdN st 7 == 0) = _; simpa using hk
  have j1 : hasW K 1 = false := by rw [hKe]; exact hG
  have j2 : hasW K 2 = true := by rw [hKe]; exact hI
  have j4 : hasW K 4 = true := by rw [hKe]; exact hP
  have je : (S.e != 0) = true := by rw [hS]; simpa using he
  obtain ⟨b1, b2⟩ := edB_no hG
  have HBq := lh b1
  obtain ⟨c1, c2⟩ := edC_yes hI
  obtain ⟨d, hdd⟩ : ∃ d, d = rdN (edB st) 1073741823 := ⟨_, rfl⟩
  have HI := lh hdd
  have jd : (d == 0) = true := by rw [hdd]; simpa using hd
  have HC := lh (c1.trans (rdAb'_zero hd))
  obtain ⟨p1, p2⟩ := edP_yes hP
  have HPS := lh (show (rdPatch (edC st)).arr.size = 26 by rw [Patch.arr_size, rdPatch_len])
  have HPM := lh (show (rdPatch (edC st)).mask < 4294967296 by have := (rdPatch_mask (edC st)).1; omega)
  have jc : ((rdPatch (edC st)).code != 0) = true := by have : (rdPatch (edC st)).code ≠ 0 := fun h' => he (p1 ▸ edP_code.1 h'); simpa using this
  have HE := lh (show S = rdF (rdPatch' (edC st)) 3 by rw [hS, p1, rdF_err (p1 ▸ he)])
  have HV := lh (show V = ez by rw [hV, rdEdit_bad he])
  rw [← hS, ← hV]
  clear hKe hS hV hk hG hI hP he b1 b2 c1 c2 p1 p2 hdd hd
  go_enter Tryd.func82, Tryd.ntmps82
  go_wp2_with (fail)
  refine (c_octet_RNum p st 7 _ (hr.below ((Below.refl _ _).alloc (Nat.le_refl _) _))).mono ?_
  rintro e w1 ⟨rfl, hr1, hk1⟩
  rw [← HK.out]
  have hz1 := hk1.size
  simp only [World.size_alloc] at hz1
  have kw1 : Kept p w.heap.size w w1 := (by repeat (first | exact Kept.refl _ _ _ | refine Kept.drew ?_ | refine Kept.alloc ?_ (by first | omega | (simp; done) | (simp; omega)) _ | refine Kept.setCell ?_ (by first | (right; rfl) | (left; first | omega | (simp; done) | (simp; omega))) _ | refine Kept.then_kept ?_ (by assumption) (by first | omega | (simp; done) | (simp; omega)) | refine Kept.then_below ?_ (by assumption) (by first | omega | (simp; done) | (simp; omega)) | refine Kept.low ?_ (by assumption)))
  have R1 := lh ((Blk.new w _ _).kept hk1 (by simp) (ne_of_lt hpl (Nat.le_refl _)))
  go_wp2_with (with_reducible refine stS 30 (.tmp 3) (.tmp 6) rfl rfl ?_)
  refine Stop.mk (wsB rfl _ _ _ rfl w1.heap.size _ rfl rfl _ (Blk.new _ _ _) strE rfl rfl (by simp [Value.oneCell']) ?_)
  intro w2 hb2 hk2
  have B2 := lh (show Blk w2 w1.heap.size (Edit.arr ⟨K, 0, 0, pz⟩) by unfold Edit.arr; exact hb2)
  clear hb2
  have R2 := lh ((R1.out.alloc _).kept hk2 (by simp; omega) (by simp; omega))
  have hz2 := hk2.size
  simp only [World.size_alloc] at hz2
  have kw2 : Kept p w.heap.size w w2 := (kw1.alloc (by omega) _).trans (hk2.one (by simp; omega) (.inl (by omega)))
  have hr2 : RdP w2 p (rdN' st 7) := (hr1.below ((Below.refl _ _).alloc (Nat.le_refl _) _)).own (b := w1.heap.size) hk2 (fun g hg => by have := hpl g hg; omega)
  have q2 := B2.out.cell (Edit.arr_head _).1
  have hA2 : RdP w2 p (edA st) := by rw [HA.out]; exact hr2
  replace hr2 := hA2
  clear hA2
  go_wp2_with (fail)
  refine (c_edit_has K _ _ K0 K7 (by decide)).mono ?_
  rintro e w3 ⟨rfl, hb3⟩
  have hz3 := hb3.size
  have kw3 : Kept p w.heap.size w w3 := kw2.then_below hb3 (by omega)
  have B3 := lh (B2.out.below hb3 B2.out.lt)
  have R3 := lh (R2.out.below hb3 R2.out.lt)
  have hr3 := hr2.below hb3
  clear q2
  have q3 := B3.out.cell (Edit.arr_head _).1
  have hB3 : RdP w3 p (edB st) := by rw [HBq.out]; exact hr3
  replace hr3 := hB3
  clear hB3
  go_wp2_with (fail)
  refine (c_edit_has K _ _ K0 K7 (by decide)).mono ?_
  rintro e w4 ⟨rfl, hb4⟩
  have hz4 := hb4.size
  have kw4 : Kept p w.heap.size w w4 := kw3.then_below hb4 (by omega)
  have B4 := lh (B3.out.below hb4 B3.out.lt)
  have R4 := lh (R3.out.below hb4 R3.out.lt)
  have hr4 := hr3.below hb4
  clear q3
  have q4 := B4.out.cell (Edit.arr_head _).1
  go_wp2_with (fail)
  refine (c_octet_RNum p (edB st) 1073741823 _ hr4).mono ?_
  rintro e w5 ⟨rfl, hr5, hk5⟩
  have hz5 := hk5.size
  have kw5 : Kept p w.heap.size w w5 := kw4.trans (hk5.mono (by omega))
  have B5 := lh (B4.out.kept hk5 (by omega) (ne_of_lt hpl (by omega)))
  have R5 := lh (R4.out.kept hk5 (by omega) (ne_of_lt hpl (by omega)))
  clear q4
  have q5 := B5.out.cell (Edit.arr_head _).1
  rw [← HI.out]
  have f5 := B5.out.frozen 1
  have u5 := B5.out.cell (Edit.arr_head _).2.1
  have B6 := lh (show Blk (w5.setCell ⟨w1.heap.size, 1, none⟩ (.int .i64 d)) w1.heap.size (Edit.arr ⟨K, d, 0, pz⟩) by have := B5.out.store 1 (.int .i64 d); rw [Edit.put1] at this; exact this)
  have R6 := lh (R5.out.far (q := ⟨w1.heap.size, 1, none⟩) (by simp; omega) (.int .i64 d))
  have kk6 : Kept (some w1.heap.size) w5.heap.size w5 (w5.setCell ⟨w1.heap.size, 1, none⟩ (.int .i64 d)) := (by repeat (first | exact Kept.refl _ _ _ | refine Kept.drew ?_ | refine Kept.alloc ?_ (by first | omega | (simp; done) | (simp; omega)) _ | refine Kept.setCell ?_ (by first | (right; rfl) | (left; first | omega | (simp; done) | (simp; omega))) _ | refine Kept.then_kept ?_ (by assumption) (by first | omega | (simp; done) | (simp; omega)) | refine Kept.then_below ?_ (by assumption) (by first | omega | (simp; done) | (simp; omega)) | refine Kept.low ?_ (by assumption)))
  have hr6 := hr5.own (b := w1.heap.size) kk6 (fun g hg => by have := hpl g hg; omega)
  have kw6 : Kept p w.heap.size w (w5.setCell ⟨w1.heap.size, 1, none⟩ (.int .i64 d)) := kw5.setCell (.inl (by simp; omega)) _
  clear q5 kk6
  have q6 := B6.out.cell (Edit.arr_head _).1
  have v6 := B6.out.cell (Edit.arr_head _).2.1
  go_wp2_with (fail)
  obtain ⟨w6, hw6⟩ : ∃ w6, w6 = (w5.setCell ⟨w1.heap.size, 1, none⟩ (.int .i64 d)) := ⟨_, rfl⟩
  have hz6 : w6.heap.size = w5.heap.size := by rw [hw6]; simp [World.setCell]
  rw [← hw6] at B6 R6 hr6 kw6 q6 ⊢
  clear hw6 f5 u5
  clear v6
  refine (c_octet_Fail p (rdN' (edB st) 1073741823) 3 _ hr6).mono ?_
  rintro e w7 ⟨rfl, hr7, hk7⟩
  have hz7 := hk7.size
  have kw7 : Kept p w.heap.size w w7 := kw6.trans (hk7.mono (by omega))
  have B7 := lh (B6.out.kept hk7 (by omega) (ne_of_lt hpl (by omega)))
  have R7 := lh (R6.out.kept hk7 (by omega) (ne_of_lt hpl (by omega)))
  clear q6
  have q7 := B7.out.cell (Edit.arr_head _).1
  have hC7 : RdP w7 p (edC st) := by rw [HC.out]; exact hr7
  replace hr7 := hC7
  clear hC7
  go_wp2_with (fail)
  refine (c_edit_has K _ _ K0 K7 (by decide)).mono ?_
  rintro e w8 ⟨rfl, hb8⟩
  have hz8 := hb8.size
  have kw8 : Kept p w.heap.size w w8 := kw7.then_below hb8 (by omega)
  have B8 := lh (B7.out.below hb8 B7.out.lt)
  have R8 := lh (R7.out.below hb8 R7.out.lt)
  have hr8 := hr7.below hb8
  clear q7
  have q8 := B8.out.cell (Edit.arr_head _).1
  go_wp2_with (fail)
  refine (c_cardwire_Patch p (edC st) _ (hT.kept kw8 ht) hr8).mono ?_
  rintro e w9 ⟨rfl, hr9, hk9⟩
  have hz9 := hk9.size
  have kw9 : Kept p w.heap.size w w9 := kw8.trans (hk9.mono (by omega))
  have B9 := lh (B8.out.kept hk9 (by omega) (ne_of_lt hpl (by omega)))
  have R9 := lh (R8.out.kept hk9 (by omega) (ne_of_lt hpl (by omega)))
  clear q8
  have q9 := B9.out.cell (Edit.arr_head _).1
  go_wp2_with (with_reducible refine stS 28 (.tmp 34) (.tmp 33) rfl rfl ?_)
  refine Stop.mk (wpList_storeAt rfl _ _ _ rfl w1.heap.size 3 (rdPatch (edC st)).arr rfl rfl _ B9.out strP HPS.out (by rw [Edit.arr_size, HPS.out]; simp) (Patch.arr_one _) ?_)
  intro w10 hb10 hk10
  rw [Edit.putP (by rw [rdPatch_len]; rfl)] at hb10
  have B10 := lh hb10
  clear hb10 q9
  have hz10 := hk10.size
  have kw10 : Kept p w.heap.size w w10 := kw9.trans (hk10.one (by omega) (.inl (by omega)))
  have R10 := lh (R9.out.kept hk10 (by omega) (by simp; omega))
  have hr10 := hr9.own (b := w1.heap.size) hk10 (fun g hg => by have := hpl g hg; omega)
  have q10 := B10.out.cell (Edit.arr_head _).1
  go_wp2_with (with_reducible refine stop_load 28 (.tmp 35) rfl rfl ?_)
  refine Stop.mk (wpList_loadAt rfl _ _ rfl w1.heap.size 3 rfl (rdPatch (edC st)).arr (Edit.part B10.out) strP HPS.out ?_)
  go_wp2_with (fail)
  refine (c_card_CheckPatch (rdPatch (edC st)) _ HPM.out (rdPatch_len _) (rdPatch_sizes _)).mono ?_
  rintro e w11 ⟨rfl, hb11⟩
  have hz11 := hb11.size
  have kw11 : Kept p w.heap.size w w11 := kw10.then_below hb11 (by omega)
  have B11 := lh (B10.out.below hb11 B10.out.lt)
  have R11 := lh (R10.out.below hb11 R10.out.lt)
  have hr11 := hr10.below hb11
  clear q10
  have q11 := B11.out.cell (Edit.arr_head _).1
  go_wp2_with (fail)
  refine (c_octet_Fail p (rdPatch' (edC st)) 3 _ hr11).mono ?_
  rintro e w12 ⟨rfl, hr12, hk12⟩
  have hz12 := hk12.size
  have kw12 : Kept p w.heap.size w w12 := kw11.trans (hk12.mono (by omega))
  have B12 := lh (B11.out.kept hk12 (by omega) (ne_of_lt hpl (by omega)))
  have R12 := lh (R11.out.kept hk12 (by omega) (ne_of_lt hpl (by omega)))
  clear q11
  have q12 := B12.out.cell (Edit.arr_head _).1
  have hS12 : RdP w12 p S := by rw [HE.out]; exact hr12
  replace hr12 := hS12
  clear hS12
  go_wp2_with (fail)
  refine (c_octet_Err p S _ hr12).mono ?_
  rintro e w13 ⟨rfl, hr13, hk13⟩
  have hz13 := hk13.size
  have kw13 : Kept p w.heap.size w w13 := kw12.trans (hk13.mono (by omega))
  have B13 := lh (B12.out.kept hk13 (by omega) (ne_of_lt hpl (by omega)))
  have R13 := lh (R12.out.kept hk13 (by omega) (ne_of_lt hpl (by omega)))
  clear q12
  have q13 := B13.out.cell (Edit.arr_head _).1
  clear q13
  go_wp2_with (with_reducible refine stS 30 (.tmp 2) (.tmp 44) rfl rfl ?_)
  refine Stop.mk (wsB rfl _ _ _ rfl w.heap.size _ rfl rfl _ R13.out strE rfl rfl (by simp [Value.oneCell']) ?_)
  intro w99 hb99 hk99
  have B99 := lh (show Blk w99 w.heap.size ez.arr by rw [ez_cells]; exact hb99)
  clear hb99
  go_wp2_with (fail)
  exact bodyPost_ret (results_B rfl rfl B99.out strE (Edit.sizeE rfl)) rfl ⟨by rw [HV.out], hr13.own (b := w.heap.size) hk99 hpl, kw13.trans (hk99.one (by omega) (.inl (Nat.le_refl _)))⟩
set_option maxHeartbeats 4000000 in
set_option maxRecDepth 4000 in
theorem edit_Read_e (p : Option Nat) (st : Rd) (w : World) (hT : Tab w) (hr : RdP w p st) (hk : rdN st 7 ≠ 0) (hG : hasG (edK st) = false) (hI : hasI (edK st) = true) (hP : hasP (edK st) = true) (hd : rdN (edB st) 1073741823 ≠ 0) (he : (rdEdit' st).e ≠ 0) :
    Calls Tryd.prog 82 #[ptr p] w (RetP p (rdEdit' st) w (.agg (rdEdit st).arr)) := by
  have hpl := fun g (hg : p = some g) => hr.lt hg
  have ht := hr.tab hT
  obtain ⟨K0, K7⟩ := edK_bd st
  obtain ⟨K, hKe⟩ : ∃ K, K = edK st := ⟨_, rfl⟩
  obtain ⟨S, hS⟩ : ∃ S, S = rdEdit' st := ⟨_, rfl⟩
  obtain ⟨V, hV⟩ : ∃ V, V = rdEdit st := ⟨_, rfl⟩
  rw [← hKe] at K0 K7
  have HK := lh (show K = rdN st 7 from hKe)
  have HSe := lh hS
  have HA := lh (show edA st = rdN' st 7 from rdAb'_pos hk)
  have j0 : (K == 0) = false := by rw [hKe]; show (rdN st 7 == 0) = _; simpa using hk
  have j1 : hasW K 1 = false := by rw [hKe]; exact hG
  have j2 : hasW K 2 = true := by rw [hKe]; exact hI
  have j4 : hasW K 4 = true := by rw [hKe]; exact hP
  have je : (S.e != 0) = true := by rw [hS]; simpa using he
  obtain ⟨b1, b2⟩ := edB_no hG
  have HBq := lh b1
  obtain ⟨c1, c2⟩ := edC_yes hI
  obtain ⟨d, hdd⟩ : ∃ d, d = rdN (edB st) 1073741823 := ⟨_, rfl⟩
  have HI := lh hdd
  have jd : (d == 0) = false := by rw [hdd]; simpa using hd
  have HC := lh (c1.trans (rdAb'_pos hd))
  obtain ⟨p1, p2⟩ := edP_yes hP
  have HPS := lh (show (rdPatch (edC st)).arr.size = 26 by rw [Patch.arr_size, rdPatch_len])
  have HPM := lh (show (rdPatch (edC st)).mask < 4294967296 by have := (rdPatch_mask (edC st)).1; omega)
  have jc : ((rdPatch (edC st)).code != 0) = true := by have : (rdPatch (edC st)).code ≠ 0 := fun h' => he (p1 ▸ edP_code.1 h'); simpa using this
  have HE := lh (show S = rdF (rdPatch' (edC st)) 3 by rw [hS, p1, rdF_err (p1 ▸ he)])
  have HV := lh (show V = ez by rw [hV, rdEdit_bad he])
  rw [← hS, ← hV]
  clear hKe hS hV hk hG hI hP he b1 b2 c1 c2 p1 p2 hdd hd
  go_enter Tryd.func82, Tryd.ntmps82
  go_wp2_with (fail)
  refine (c_octet_RNum p st 7 _ (hr.below ((Below.refl _ _).alloc (Nat.le_refl _) _))).mono ?_
  rintro e w1 ⟨rfl, hr1, hk1⟩
  rw [← HK.out]
  have hz1 := hk1.size
  simp only [World.size_alloc] at hz1
  have kw1 : Kept p w.heap.size w w1 := (by repeat (first | exact Kept.refl _ _ _ | refine Kept.drew ?_ | refine Kept.alloc ?_ (by first | omega | (simp; done) | (simp; omega)) _ | refine Kept.setCell ?_ (by first | (right; rfl) | (left; first | omega | (simp; done) | (simp; omega))) _ | refine Kept.then_kept ?_ (by assumption) (by first | omega | (simp; done) | (simp; omega)) | refine Kept.then_below ?_ (by assumption) (by first | omega | (simp; done) | (simp; omega)) | refine Kept.low ?_ (by assumption)))
  have R1 := lh ((Blk.new w _ _).kept hk1 (by simp) (ne_of_lt hpl (Nat.le_refl _)))
  go_wp2_with (with_reducible refine stS 30 (.tmp 3) (.tmp 6) rfl rfl ?_)
  refine Stop.mk (wsB rfl _ _ _ rfl w1.heap.size _ rfl rfl _ (Blk.new _ _ _) strE rfl rfl (by simp [Value.oneCell']) ?_)
  intro w2 hb2 hk2
  have B2 := lh (show Blk w2 w1.heap.size (Edit.arr ⟨K, 0, 0, pz⟩) by unfold Edit.arr; exact hb2)
  clear hb2
  have R2 := lh ((R1.out.alloc _).kept hk2 (by simp; omega) (by simp; omega))
  have hz2 := hk2.size
  simp only [World.size_alloc] at hz2
  have kw2 : Kept p w.heap.size w w2 := (kw1.alloc (by omega) _).trans (hk2.one (by simp; omega) (.inl (by omega)))
  have hr2 : RdP w2 p (rdN' st 7) := (hr1.below ((Below.refl _ _).alloc (Nat.le_refl _) _)).own (b := w1.heap.size) hk2 (fun g hg => by have := hpl g hg; omega)
  have q2 := B2.out.cell (Edit.arr_head _).1
  have hA2 : RdP w2 p (edA st) := by rw [HA.out]; exact hr2
  replace hr2 := hA2
  clear hA2
  go_wp2_with (fail)
  refine (c_edit_has K _ _ K0 K7 (by decide)).mono ?_
  rintro e w3 ⟨rfl, hb3⟩
  have hz3 := hb3.size
  have kw3 : Kept p w.heap.size w w3 := kw2.then_below hb3 (by omega)
  have B3 := lh (B2.out.below hb3 B2.out.lt)
  have R3 := lh (R2.out.below hb3 R2.out.lt)
  have hr3 := hr2.below hb3
  clear q2
  have q3 := B3.out.cell (Edit.arr_head _).1
  have hB3 : RdP w3 p (edB st) := by rw [HBq.out]; exact hr3
  replace hr3 := hB3
  clear hB3
  go_wp2_with (fail)
  refine (c_edit_has K _ _ K0 K7 (by decide)).mono ?_
  rintro e w4 ⟨rfl, hb4⟩
  have hz4 := hb4.size
  have kw4 : Kept p w.heap.size w w4 := kw3.then_below hb4 (by omega)
  have B4 := lh (B3.out.below hb4 B3.out.lt)
  have R4 := lh (R3.out.below hb4 R3.out.lt)
  have hr4 := hr3.below hb4
  clear q3
  have q4 := B4.out.cell (Edit.arr_head _).1
  go_wp2_with (fail)
  refine (c_octet_RNum p (edB st) 1073741823 _ hr4).mono ?_
  rintro e w5 ⟨rfl, hr5, hk5⟩
  have hz5 := hk5.size
  have kw5 : Kept p w.heap.size w w5 := kw4.trans (hk5.mono (by omega))
  have B5 := lh (B4.out.kept hk5 (by omega) (ne_of_lt hpl (by omega)))
  have R5 := lh (R4.out.kept hk5 (by omega) (ne_of_lt hpl (by omega)))
  clear q4
  have q5 := B5.out.cell (Edit.arr_head _).1
  rw [← HI.out]
  have f5 := B5.out.frozen 1
  have u5 := B5.out.cell (Edit.arr_head _).2.1
  have B6 := lh (show Blk (w5.setCell ⟨w1.heap.size, 1, none⟩ (.int .i64 d)) w1.heap.size (Edit.arr ⟨K, d, 0, pz⟩) by have := B5.out.store 1 (.int .i64 d); rw [Edit.put1] at this; exact this)
  have R6 := lh (R5.out.far (q := ⟨w1.heap.size, 1, none⟩) (by simp; omega) (.int .i64 d))
  have kk6 : Kept (some w1.heap.size) w5.heap.size w5 (w5.setCell ⟨w1.heap.size, 1, none⟩ (.int .i64 d)) := (by repeat (first | exact Kept.refl _ _ _ | refine Kept.drew ?_ | refine Kept.alloc ?_ (by first | omega | (simp; done) | (simp; omega)) _ | refine Kept.setCell ?_ (by first | (right; rfl) | (left; first | omega | (simp; done) | (simp; omega))) _ | refine Kept.then_kept ?_ (by assumption) (by first | omega | (simp; done) | (simp; omega)) | refine Kept.then_below ?_ (by assumption) (by first | omega | (simp; done) | (simp; omega)) | refine Kept.low ?_ (by assumption)))
  have hr6 := hr5.own (b := w1.heap.size) kk6 (fun g hg => by have := hpl g hg; omega)
  have kw6 : Kept p w.heap.size w (w5.setCell ⟨w1.heap.size, 1, none⟩ (.int .i64 d)) := kw5.setCell (.inl (by simp; omega)) _
  clear q5 kk6
  have q6 := B6.out.cell (Edit.arr_head _).1
  have v6 := B6.out.cell (Edit.arr_head _).2.1
  go_wp2_with (fail)
  obtain ⟨w6, hw6⟩ : ∃ w6, w6 = (w5.setCell ⟨w1.heap.size, 1, none⟩ (.int .i64 d)) := ⟨_, rfl⟩
  have hz6 : w6.heap.size = w5.heap.size := by rw [hw6]; simp [World.setCell]
  rw [← hw6] at B6 R6 hr6 kw6 q6 ⊢
  clear hw6 f5 u5
  clear v6
  have hC6 : RdP w6 p (edC st) := by rw [HC.out]; exact hr6
  replace hr6 := hC6
  clear hC6
  refine (c_edit_has K _ _ K0 K7 (by decide)).mono ?_
  rintro e w7 ⟨rfl, hb7⟩
  have hz7 := hb7.size
  have kw7 : Kept p w.heap.size w w7 := kw6.then_below hb7 (by omega)
  have B7 := lh (B6.out.below hb7 B6.out.lt)
  have R7 := lh (R6.out.below hb7 R6.out.lt)
  have hr7 := hr6.below hb7
  clear q6
  have q7 := B7.out.cell (Edit.arr_head _).1
  go_wp2_with (fail)
  refine (c_cardwire_Patch p (edC st) _ (hT.kept kw7 ht) hr7).mono ?_
  rintro e w8 ⟨rfl, hr8, hk8⟩
  have hz8 := hk8.size
  have kw8 : Kept p w.heap.size w w8 := kw7.trans (hk8.mono (by omega))
  have B8 := lh (B7.out.kept hk8 (by omega) (ne_of_lt hpl (by omega)))
  have R8 := lh (R7.out.kept hk8 (by omega) (ne_of_lt hpl (by omega)))
  clear q7
  have q8 := B8.out.cell (Edit.arr_head _).1
  go_wp2_with (with_reducible refine stS 28 (.tmp 34) (.tmp 33) rfl rfl ?_)
  refine Stop.mk (wpList_storeAt rfl _ _ _ rfl w1.heap.size 3 (rdPatch (edC st)).arr rfl rfl _ B8.out strP HPS.out (by rw [Edit.arr_size, HPS.out]; simp) (Patch.arr_one _) ?_)
  intro w9 hb9 hk9
  rw [Edit.putP (by rw [rdPatch_len]; rfl)] at hb9
  have B9 := lh hb9
  clear hb9 q8
  have hz9 := hk9.size
  have kw9 : Kept p w.heap.size w w9 := kw8.trans (hk9.one (by omega) (.inl (by omega)))
  have R9 := lh (R8.out.kept hk9 (by omega) (by simp; omega))
  have hr9 := hr8.own (b := w1.heap.size) hk9 (fun g hg => by have := hpl g hg; omega)
  have q9 := B9.out.cell (Edit.arr_head _).1
  go_wp2_with (with_reducible refine stop_load 28 (.tmp 35) rfl rfl ?_)
  refine Stop.mk (wpList_loadAt rfl _ _ rfl w1.heap.size 3 rfl (rdPatch (edC st)).arr (Edit.part B9.out) strP HPS.out ?_)
  go_wp2_with (fail)
  refine (c_card_CheckPatch (rdPatch (edC st)) _ HPM.out (rdPatch_len _) (rdPatch_sizes _)).mono ?_
  rintro e w10 ⟨rfl, hb10⟩
  have hz10 := hb10.size
  have kw10 : Kept p w.heap.size w w10 := kw9.then_below hb10 (by omega)
  have B10 := lh (B9.out.below hb10 B9.out.lt)
  have R10 := lh (R9.out.below hb10 R9.out.lt)
  have hr10 := hr9.below hb10
  clear q9
  have q10 := B10.out.cell (Edit.arr_head _).1
  go_wp2_with (fail)
  refine (c_octet_Fail p (rdPatch' (edC st)) 3 _ hr10).mono ?_
  rintro e w11 ⟨rfl, hr11, hk11⟩
  have hz11 := hk11.size
  have kw11 : Kept p w.heap.size w w11 := kw10.trans (hk11.mono (by omega))
  have B11 := lh (B10.out.kept hk11 (by omega) (ne_of_lt hpl (by omega)))
  have R11 := lh (R10.out.kept hk11 (by omega) (ne_of_lt hpl (by omega)))
  clear q10
  have q11 := B11.out.cell (Edit.arr_head _).1
  have hS11 : RdP w11 p S := by rw [HE.out]; exact hr11
  replace hr11 := hS11
  clear hS11
  go_wp2_with (fail)
  refine (c_octet_Err p S _ hr11).mono ?_
  rintro e w12 ⟨rfl, hr12, hk12⟩
  have hz12 := hk12.size
  have kw12 : Kept p w.heap.size w w12 := kw11.trans (hk12.mono (by omega))
  have B12 := lh (B11.out.kept hk12 (by omega) (ne_of_lt hpl (by omega)))
  have R12 := lh (R11.out.kept hk12 (by omega) (ne_of_lt hpl (by omega)))
  clear q11
  have q12 := B12.out.cell (Edit.arr_head _).1
  clear q12
  go_wp2_with (with_reducible refine stS 30 (.tmp 2) (.tmp 44) rfl rfl ?_)
  refine Stop.mk (wsB rfl _ _ _ rfl w.heap.size _ rfl rfl _ R12.out strE rfl rfl (by simp [Value.oneCell']) ?_)
  intro w99 hb99 hk99
  have B99 := lh (show Blk w99 w.heap.size ez.arr by rw [ez_cells]; exact hb99)
  clear hb99
  go_wp2_with (fail)
  exact bodyPost_ret (results_B rfl rfl B99.out strE (Edit.sizeE rfl)) rfl ⟨by rw [HV.out], hr12.own (b := w.heap.size) hk99 hpl, kw12.trans (hk99.one (by omega) (.inl (Nat.le_refl _)))⟩
end Go.Proofs.YtiedkcijjfmhaaaDoor
/-! W19h2 -/
namespace Go.Proofs.YtiedkcijjfmhaaaDoor
open Go.RowKit

set_option maxHeartbeats 4000000 in
set_option maxRecDepth 4000 in
theorem edit_Read_f (p : Option Nat) (st : Rd) (w : World) (hT : Tab w) (hr : RdP w p st) (hk : rdN st 7 ≠ 0) (hG : hasG (edK st) = false) (hI : hasI (edK st) = true) (hP : hasP (edK st) = true) (hd : rdN (edB st) 1073741823 ≠ 0) (he : (rdEdit' st).e = 0) :
    Calls Tryd.prog 82 #[ptr p] w (RetP p (rdEdit' st) w (.agg (rdEdit st).arr)) := by
  have hpl := fun g (hg : p = some g) => hr.lt hg
  have ht := hr.tab hT
  obtain ⟨K0, K7⟩ := edK_bd st
  obtain ⟨K, hKe⟩ : ∃ K, K = edK st := ⟨_, rfl⟩
  obtain ⟨S, hS⟩ : ∃ S, S = rdEdit' st := ⟨_, rfl⟩
  obtain ⟨V, hV⟩ : ∃ V, V = rdEdit st := ⟨_, rfl⟩
  rw [← hKe] at K0 K7
  have HK := lh (show K = rdN st 7 from hKe)
  have HSe := lh hS
  have HA := lh (show edA st = rdN' st 7 from rdAb'_pos hk)
  have j0 : (K == 0) = false := by rw [hKe]; show (rdN st 7 == 0) = _; simpa using hk
  have j1 : hasW K 1 = false := by rw [hKe]; exact hG
  have j2 : hasW K 2 = true := by rw [hKe]; exact hI
  have j4 : hasW K 4 = true := by rw [hKe]; exact hP
  have je : (S.e != 0) = false := by rw [hS]; simpa using he
  obtain ⟨b1, b2⟩ := edB_no hG
  have HBq := lh b1
  obtain ⟨c1, c2⟩ := edC_yes hI
  obtain ⟨d, hdd⟩ : ∃ d, d = rdN (edB st) 1073741823 := ⟨_, rfl⟩
  have HI := lh hdd
  have jd : (d == 0) = false := by rw [hdd]; simpa using hd
  have HC := lh (c1.trans (rdAb'_pos hd))
  obtain ⟨p1, p2⟩ := edP_yes hP
  have HPS := lh (show (rdPatch (edC st)).arr.size = 26 by rw [Patch.arr_size, rdPatch_len])
  have HPM := lh (show (rdPatch (edC st)).mask < 4294967296 by have := (rdPatch_mask (edC st)).1; omega)
  have jc : ((rdPatch (edC st)).code != 0) = false := by have : (rdPatch (edC st)).code = 0 := edP_code.2 (p1 ▸ he); simpa using this
  have HE := lh (show S = rdPatch' (edC st) by rw [hS, p1])
  have HV := lh (show V = ⟨K, d, 0, rdPatch (edC st)⟩ by rw [hV, rdEdit_ok he]; unfold edEdit; rw [b2, c2, p2, hKe, hdd])
  rw [← hS, ← hV]
  clear hKe hS hV hk hG hI hP he b1 b2 c1 c2 p1 p2 hdd hd
  go_enter Tryd.func82, Tryd.ntmps82
  go_wp2_with (fail)
  refine (c_octet_RNum p st 7 _ (hr.below ((Below.refl _ _).alloc (Nat.le_refl _) _))).mono ?_
  rintro e w1 ⟨rfl, hr1, hk1⟩
  rw [← HK.out]
  have hz1 := hk1.size
  simp only [World.size_alloc] at hz1
  have kw1 : Kept p w.heap.size w w1 := (by repeat (first | exact Kept.refl _ _ _ | refine Kept.drew ?_ | refine Kept.alloc ?_ (by first | omega | (simp; done) | (simp; omega)) _ | refine Kept.setCell ?_ (by first | (right; rfl) | (left; first | omega | (simp; done) | (simp; omega))) _ | refine Kept.then_kept ?_ (by assumption) (by first | omega | (simp; done) | (simp; omega)) | refine Kept.then_below ?_ (by assumption) (by first | omega | (simp; done) | (simp; omega)) | refine Kept.low ?_ (by assumption)))
  have R1 := lh ((Blk.new w _ _).kept hk1 (by simp) (ne_of_lt hpl (Nat.le_refl _)))
  go_wp2_with (with_reducible refine stS 30 (.tmp 3) (.tmp 6) rfl rfl ?_)
  refine Stop.mk (wsB rfl _ _ _ rfl w1.heap.size _ rfl rfl _ (Blk.new _ _ _) strE rfl rfl (by simp [Value.oneCell']) ?_)
  intro w2 hb2 hk2
  have B2 := lh (show Blk w2 w1.heap.size (Edit.arr ⟨K, 0, 0, pz⟩) by unfold Edit.arr; exact hb2)
  clear hb2
  have R2 := lh ((R1.out.alloc _).kept hk2 (by simp; omega) (by simp; omega))
  have hz2 := hk2.size
  simp only [World.size_alloc] at hz2
  have kw2 : Kept p w.heap.size w w2 := (kw1.alloc (by omega) _).trans (hk2.one (by simp; omega) (.inl (by omega)))
  have hr2 : RdP w2 p (rdN' st 7) := (hr1.below ((Below.refl _ _).alloc (Nat.le_refl _) _)).own (b := w1.heap.size) hk2 (fun g hg => by have := hpl g hg; omega)
  have q2 := B2.out.cell (Edit.arr_head _).1
  have hA2 : RdP w2 p (edA st) := by rw [HA.out]; exact hr2
  replace hr2 := hA2
  clear hA2
  go_wp2_with (fail)
  refine (c_edit_has K _ _ K0 K7 (by decide)).mono ?_
  rintro e w3 ⟨rfl, hb3⟩
  have hz3 := hb3.size
  have kw3 : Kept p w.heap.size w w3 := kw2.then_below hb3 (by omega)
  have B3 := lh (B2.out.below hb3 B2.out.lt)
  have R3 := lh (R2.out.below hb3 R2.out.lt)
  have hr3 := hr2.below hb3
  clear q2
  have q3 := B3.out.cell (Edit.arr_head _).1
  have hB3 : RdP w3 p (edB st) := by rw [HBq.out]; exact hr3
  replace hr3 := hB3
  clear hB3
  go_wp2_with (fail)
  refine (c_edit_has K _ _ K0 K7 (by decide)).mono ?_
  rintro e w4 ⟨rfl, hb4⟩
  have hz4 := hb4.size
  have kw4 : Kept p w.heap.size w w4 := kw3.then_below hb4 (by omega)
  have B4 := lh (B3.out.below hb4 B3.out.lt)
  have R4 := lh (R3.out.below hb4 R3.out.lt)
  have hr4 := hr3.below hb4
  clear q3
  have q4 := B4.out.cell (Edit.arr_head _).1
  go_wp2_with (fail)
  refine (c_octet_RNum p (edB st) 1073741823 _ hr4).mono ?_
  rintro e w5 ⟨rfl, hr5, hk5⟩
  have hz5 := hk5.size
  have kw5 : Kept p w.heap.size w w5 := kw4.trans (hk5.mono (by omega))
  have B5 := lh (B4.out.kept hk5 (by omega) (ne_of_lt hpl (by omega)))
  have R5 := lh (R4.out.kept hk5 (by omega) (ne_of_lt hpl (by omega)))
  clear q4
  have q5 := B5.out.cell (Edit.arr_head _).1
  rw [← HI.out]
  have f5 := B5.out.frozen 1
  have u5 := B5.out.cell (Edit.arr_head _).2.1
  have B6 := lh (show Blk (w5.setCell ⟨w1.heap.size, 1, none⟩ (.int .i64 d)) w1.heap.size (Edit.arr ⟨K, d, 0, pz⟩) by have := B5.out.store 1 (.int .i64 d); rw [Edit.put1] at this; exact this)
  have R6 := lh (R5.out.far (q := ⟨w1.heap.size, 1, none⟩) (by simp; omega) (.int .i64 d))
  have kk6 : Kept (some w1.heap.size) w5.heap.size w5 (w5.setCell ⟨w1.heap.size, 1, none⟩ (.int .i64 d)) := (by repeat (first | exact Kept.refl _ _ _ | refine Kept.drew ?_ | refine Kept.alloc ?_ (by first | omega | (simp; done) | (simp; omega)) _ | refine Kept.setCell ?_ (by first | (right; rfl) | (left; first | omega | (simp; done) | (simp; omega))) _ | refine Kept.then_kept ?_ (by assumption) (by first | omega | (simp; done) | (simp; omega)) | refine Kept.then_below ?_ (by assumption) (by first | omega | (simp; done) | (simp; omega)) | refine Kept.low ?_ (by assumption)))
  have hr6 := hr5.own (b := w1.heap.size) kk6 (fun g hg => by have := hpl g hg; omega)
  have kw6 : Kept p w.heap.size w (w5.setCell ⟨w1.heap.size, 1, none⟩ (.int .i64 d)) := kw5.setCell (.inl (by simp; omega)) _
  clear q5 kk6
  have q6 := B6.out.cell (Edit.arr_head _).1
  have v6 := B6.out.cell (Edit.arr_head _).2.1
  go_wp2_with (fail)
  obtain ⟨w6, hw6⟩ : ∃ w6, w6 = (w5.setCell ⟨w1.heap.size, 1, none⟩ (.int .i64 d)) := ⟨_, rfl⟩
  have hz6 : w6.heap.size = w5.heap.size := by rw [hw6]; simp [World.setCell]
  rw [← hw6] at B6 R6 hr6 kw6 q6 ⊢
  clear hw6 f5 u5
  clear v6
  have hC6 : RdP w6 p (edC st) := by rw [HC.out]; exact hr6
  replace hr6 := hC6
  clear hC6
  refine (c_edit_has K _ _ K0 K7 (by decide)).mono ?_
  rintro e w7 ⟨rfl, hb7⟩
  have hz7 := hb7.size
  have kw7 : Kept p w.heap.size w w7 := kw6.then_below hb7 (by omega)
  have B7 := lh (B6.out.below hb7 B6.out.lt)
  have R7 := lh (R6.out.below hb7 R6.out.lt)
  have hr7 := hr6.below hb7
  clear q6
  have q7 := B7.out.cell (Edit.arr_head _).1
  go_wp2_with (fail)
  refine (c_cardwire_Patch p (edC st) _ (hT.kept kw7 ht) hr7).mono ?_
  rintro e w8 ⟨rfl, hr8, hk8⟩
  have hz8 := hk8.size
  have kw8 : Kept p w.heap.size w w8 := kw7.trans (hk8.mono (by omega))
  have B8 := lh (B7.out.kept hk8 (by omega) (ne_of_lt hpl (by omega)))
  have R8 := lh (R7.out.kept hk8 (by omega) (ne_of_lt hpl (by omega)))
  clear q7
  have q8 := B8.out.cell (Edit.arr_head _).1
  go_wp2_with (with_reducible refine stS 28 (.tmp 34) (.tmp 33) rfl rfl ?_)
  refine Stop.mk (wpList_storeAt rfl _ _ _ rfl w1.heap.size 3 (rdPatch (edC st)).arr rfl rfl _ B8.out strP HPS.out (by rw [Edit.arr_size, HPS.out]; simp) (Patch.arr_one _) ?_)
  intro w9 hb9 hk9
  rw [Edit.putP (by rw [rdPatch_len]; rfl)] at hb9
  have B9 := lh hb9
  clear hb9 q8
  have hz9 := hk9.size
  have kw9 : Kept p w.heap.size w w9 := kw8.trans (hk9.one (by omega) (.inl (by omega)))
  have R9 := lh (R8.out.kept hk9 (by omega) (by simp; omega))
  have hr9 := hr8.own (b := w1.heap.size) hk9 (fun g hg => by have := hpl g hg; omega)
  have q9 := B9.out.cell (Edit.arr_head _).1
  go_wp2_with (with_reducible refine stop_load 28 (.tmp 35) rfl rfl ?_)
  refine Stop.mk (wpList_loadAt rfl _ _ rfl w1.heap.size 3 rfl (rdPatch (edC st)).arr (Edit.part B9.out) strP HPS.out ?_)
  go_wp2_with (fail)
  refine (c_card_CheckPatch (rdPatch (edC st)) _ HPM.out (rdPatch_len _) (rdPatch_sizes _)).mono ?_
  rintro e w10 ⟨rfl, hb10⟩
  have hz10 := hb10.size
  have kw10 : Kept p w.heap.size w w10 := kw9.then_below hb10 (by omega)
  have B10 := lh (B9.out.below hb10 B9.out.lt)
  have R10 := lh (R9.out.below hb10 R9.out.lt)
  have hr10 := hr9.below hb10
  clear q9
  have q10 := B10.out.cell (Edit.arr_head _).1
  have hS10 : RdP w10 p S := by rw [HE.out]; exact hr10
  replace hr10 := hS10
  clear hS10
  go_wp2_with (fail)
  refine (c_octet_Err p S _ hr10).mono ?_
  rintro e w11 ⟨rfl, hr11, hk11⟩
  have hz11 := hk11.size
  have kw11 : Kept p w.heap.size w w11 := kw10.trans (hk11.mono (by omega))
  have B11 := lh (B10.out.kept hk11 (by omega) (ne_of_lt hpl (by omega)))
  have R11 := lh (R10.out.kept hk11 (by omega) (ne_of_lt hpl (by omega)))
  clear q10
  have q11 := B11.out.cell (Edit.arr_head _).1
  clear q11
  go_wp2_with (with_reducible refine stop_load 30 (.tmp 3) rfl rfl ?_)
  refine Stop.mk (wpList_loadB rfl _ _ rfl w1.heap.size rfl _ B11.out strE (Edit.sizeE (rdPatch_len _)) ?_)
  go_wp2_with (with_reducible refine stS 30 (.tmp 2) (.tmp 45) rfl rfl ?_)
  refine Stop.mk (wsB rfl _ _ _ rfl w.heap.size _ rfl rfl _ R11.out strE (Edit.sizeE (rdPatch_len _)) (by rw [Edit.sizeE (rdPatch_len _)]; rfl) (Edit.arr_ones _) ?_)
  intro w99 hb99 hk99
  have B99 := lh hb99
  clear hb99
  go_wp2_with (fail)
  exact bodyPost_ret (results_B rfl rfl B99.out strE (Edit.sizeE (rdPatch_len _))) rfl ⟨by rw [HV.out], hr11.own (b := w.heap.size) hk99 hpl, kw11.trans (hk99.one (by omega) (.inl (Nat.le_refl _)))⟩
set_option maxHeartbeats 4000000 in
set_option maxRecDepth 4000 in
theorem edit_Read_g (p : Option Nat) (st : Rd) (w : World) (hT : Tab w) (hr : RdP w p st) (hk : rdN st 7 ≠ 0) (hG : hasG (edK st) = false) (hI : hasI (edK st) = true) (hP : hasP (edK st) = false) (hd : rdN (edB st) 1073741823 = 0) (he : (rdEdit' st).e ≠ 0) :
    Calls Tryd.prog 82 #[ptr p] w (RetP p (rdEdit' st) w (.agg (rdEdit st).arr)) := by
  have hpl := fun g (hg : p = some g) => hr.lt hg
  have ht := hr.tab hT
  obtain ⟨K0, K7⟩ := edK_bd st
  obtain ⟨K, hKe⟩ : ∃ K, K = edK st := ⟨_, rfl⟩
  obtain ⟨S, hS⟩ : ∃ S, S = rdEdit' st := ⟨_, rfl⟩
  obtain ⟨V, hV⟩ : ∃ V, V = rdEdit st := ⟨_, rfl⟩
  rw [← hKe] at K0 K7
  have HK := lh (show K = rdN st 7 from hKe)
  have HSe := lh hS
  have HA := lh (show edA st = rdN' st 7 from rdAb'_pos hk)
  have j0 : (K == 0) = false := by rw [hKe]; show (rdN st 7 == 0) = _; simpa using hk
  have j1 : hasW K 1 = false := by rw [hKe]; exact hG
  have j2 : hasW K 2 = true := by rw [hKe]; exact hI
  have j4 : hasW K 4 = false := by rw [hKe]; exact hP
  have je : (S.e != 0) = true := by rw [hS]; simpa using he
  obtain ⟨b1, b2⟩ := edB_no hG
  have HBq := lh b1
  obtain ⟨c1, c2⟩ := edC_yes hI
  obtain ⟨d, hdd⟩ : ∃ d, d = rdN (edB st) 1073741823 := ⟨_, rfl⟩
  have HI := lh hdd
  have jd : (d == 0) = true := by rw [hdd]; simpa using hd
  have HC := lh (c1.trans (rdAb'_zero hd))
  obtain ⟨p1, p2⟩ := edP_no hP
  have HE := lh (show S = edC st by rw [hS, p1])
  have HV := lh (show V = ez by rw [hV, rdEdit_bad he])
  rw [← hS, ← hV]
  clear hKe hS hV hk hG hI hP he b1 b2 c1 c2 p1 p2 hdd hd
  go_enter Tryd.func82, Tryd.ntmps82
  go_wp2_with (fail)
  refine (c_octet_RNum p st 7 _ (hr.below ((Below.refl _ _).alloc (Nat.le_refl _) _))).mono ?_
  rintro e w1 ⟨rfl, hr1, hk1⟩
  rw [← HK.out]
  have hz1 := hk1.size
  simp only [World.size_alloc] at hz1
  have kw1 : Kept p w.heap.size w w1 := (by repeat (first | exact Kept.refl _ _ _ | refine Kept.drew ?_ | refine Kept.alloc ?_ (by first | omega | (simp; done) | (simp; omega)) _ | refine Kept.setCell ?_ (by first | (right; rfl) | (left; first | omega | (simp; done) | (simp; omega))) _ | refine Kept.then_kept ?_ (by assumption) (by first | omega | (simp; done) | (simp; omega)) | refine Kept.then_below ?_ (by assumption) (by first | omega | (simp; done) | (simp; omega)) | refine Kept.low ?_ (by assumption)))
  have R1 := lh ((Blk.new w _ _).kept hk1 (by simp) (ne_of_lt hpl (Nat.le_refl _)))
  go_wp2_with (with_reducible refine stS 30 (.tmp 3) (.tmp 6) rfl rfl ?_)
  refine Stop.mk (wsB rfl _ _ _ rfl w1.heap.size _ rfl rfl _ (Blk.new _ _ _) strE rfl rfl (by simp [Value.oneCell']) ?_)
  intro w2 hb2 hk2
  have B2 := lh (show Blk w2 w1.heap.size (Edit.arr ⟨K, 0, 0, pz⟩) by unfold Edit.arr; exact hb2)
  clear hb2
  have R2 := lh ((R1.out.alloc _).kept hk2 (by simp; omega) (by simp; omega))
  have hz2 := hk2.size
  simp only [World.size_alloc] at hz2
  have kw2 : Kept p w.heap.size w w2 := (kw1.alloc (by omega) _).trans (hk2.one (by simp; omega) (.inl (by omega)))
  have hr2 : RdP w2 p (rdN' st 7) := (hr1.below ((Below.refl _ _).alloc (Nat.le_refl _) _)).own (b := w1.heap.size) hk2 (fun g hg => by have := hpl g hg; omega)
  have q2 := B2.out.cell (Edit.arr_head _).1
  have hA2 : RdP w2 p (edA st) := by rw [HA.out]; exact hr2
  replace hr2 := hA2
  clear hA2
  go_wp2_with (fail)
  refine (c_edit_has K _ _ K0 K7 (by decide)).mono ?_
  rintro e w3 ⟨rfl, hb3⟩
  have hz3 := hb3.size
  have kw3 : Kept p w.heap.size w w3 := kw2.then_below hb3 (by omega)
  have B3 := lh (B2.out.below hb3 B2.out.lt)
  have R3 := lh (R2.out.below hb3 R2.out.lt)
  have hr3 := hr2.below hb3
  clear q2
  have q3 := B3.out.cell (Edit.arr_head _).1
  have hB3 : RdP w3 p (edB st) := by rw [HBq.out]; exact hr3
  replace hr3 := hB3
  clear hB3
  go_wp2_with (fail)
  refine (c_edit_has K _ _ K0 K7 (by decide)).mono ?_
  rintro e w4 ⟨rfl, hb4⟩
  have hz4 := hb4.size
  have kw4 : Kept p w.heap.size w w4 := kw3.then_below hb4 (by omega)
  have B4 := lh (B3.out.below hb4 B3.out.lt)
  have R4 := lh (R3.out.below hb4 R3.out.lt)
  have hr4 := hr3.below hb4
  clear q3
  have q4 := B4.out.cell (Edit.arr_head _).1
  go_wp2_with (fail)
  refine (c_octet_RNum p (edB st) 1073741823 _ hr4).mono ?_
  rintro e w5 ⟨rfl, hr5, hk5⟩
  have hz5 := hk5.size
  have kw5 : Kept p w.heap.size w w5 := kw4.trans (hk5.mono (by omega))
  have B5 := lh (B4.out.kept hk5 (by omega) (ne_of_lt hpl (by omega)))
  have R5 := lh (R4.out.kept hk5 (by omega) (ne_of_lt hpl (by omega)))
  clear q4
  have q5 := B5.out.cell (Edit.arr_head _).1
  rw [← HI.out]
  have f5 := B5.out.frozen 1
  have u5 := B5.out.cell (Edit.arr_head _).2.1
  have B6 := lh (show Blk (w5.setCell ⟨w1.heap.size, 1, none⟩ (.int .i64 d)) w1.heap.size (Edit.arr ⟨K, d, 0, pz⟩) by have := B5.out.store 1 (.int .i64 d); rw [Edit.put1] at this; exact this)
  have R6 := lh (R5.out.far (q := ⟨w1.heap.size, 1, none⟩) (by simp; omega) (.int .i64 d))
  have kk6 : Kept (some w1.heap.size) w5.heap.size w5 (w5.setCell ⟨w1.heap.size, 1, none⟩ (.int .i64 d)) := (by repeat (first | exact Kept.refl _ _ _ | refine Kept.drew ?_ | refine Kept.alloc ?_ (by first | omega | (simp; done) | (simp; omega)) _ | refine Kept.setCell ?_ (by first | (right; rfl) | (left; first | omega | (simp; done) | (simp; omega))) _ | refine Kept.then_kept ?_ (by assumption) (by first | omega | (simp; done) | (simp; omega)) | refine Kept.then_below ?_ (by assumption) (by first | omega | (simp; done) | (simp; omega)) | refine Kept.low ?_ (by assumption)))
  have hr6 := hr5.own (b := w1.heap.size) kk6 (fun g hg => by have := hpl g hg; omega)
  have kw6 : Kept p w.heap.size w (w5.setCell ⟨w1.heap.size, 1, none⟩ (.int .i64 d)) := kw5.setCell (.inl (by simp; omega)) _
  clear q5 kk6
  have q6 := B6.out.cell (Edit.arr_head _).1
  have v6 := B6.out.cell (Edit.arr_head _).2.1
  go_wp2_with (fail)
  obtain ⟨w6, hw6⟩ : ∃ w6, w6 = (w5.setCell ⟨w1.heap.size, 1, none⟩ (.int .i64 d)) := ⟨_, rfl⟩
  have hz6 : w6.heap.size = w5.heap.size := by rw [hw6]; simp [World.setCell]
  rw [← hw6] at B6 R6 hr6 kw6 q6 ⊢
  clear hw6 f5 u5
  clear v6
  refine (c_octet_Fail p (rdN' (edB st) 1073741823) 3 _ hr6).mono ?_
  rintro e w7 ⟨rfl, hr7, hk7⟩
  have hz7 := hk7.size
  have kw7 : Kept p w.heap.size w w7 := kw6.trans (hk7.mono (by omega))
  have B7 := lh (B6.out.kept hk7 (by omega) (ne_of_lt hpl (by omega)))
  have R7 := lh (R6.out.kept hk7 (by omega) (ne_of_lt hpl (by omega)))
  clear q6
  have q7 := B7.out.cell (Edit.arr_head _).1
  have hC7 : RdP w7 p (edC st) := by rw [HC.out]; exact hr7
  replace hr7 := hC7
  clear hC7
  go_wp2_with (fail)
  refine (c_edit_has K _ _ K0 K7 (by decide)).mono ?_
  rintro e w8 ⟨rfl, hb8⟩
  have hz8 := hb8.size
  have kw8 : Kept p w.heap.size w w8 := kw7.then_below hb8 (by omega)
  have B8 := lh (B7.out.below hb8 B7.out.lt)
  have R8 := lh (R7.out.below hb8 R7.out.lt)
  have hr8 := hr7.below hb8
  clear q7
  have q8 := B8.out.cell (Edit.arr_head _).1
  have hS8 : RdP w8 p S := by rw [HE.out]; exact hr8
  replace hr8 := hS8
  clear hS8
  go_wp2_with (fail)
  refine (c_octet_Err p S _ hr8).mono ?_
  rintro e w9 ⟨rfl, hr9, hk9⟩
  have hz9 := hk9.size
  have kw9 : Kept p w.heap.size w w9 := kw8.trans (hk9.mono (by omega))
  have B9 := lh (B8.out.kept hk9 (by omega) (ne_of_lt hpl (by omega)))
  have R9 := lh (R8.out.kept hk9 (by omega) (ne_of_lt hpl (by omega)))
  clear q8
  have q9 := B9.out.cell (Edit.arr_head _).1
  clear q9
  go_wp2_with (with_reducible refine stS 30 (.tmp 2) (.tmp 44) rfl rfl ?_)
  refine Stop.mk (wsB rfl _ _ _ rfl w.heap.size _ rfl rfl _ R9.out strE rfl rfl (by simp [Value.oneCell']) ?_)
  intro w99 hb99 hk99
  have B99 := lh (show Blk w99 w.heap.size ez.arr by rw [ez_cells]; exact hb99)
  clear hb99
  go_wp2_with (fail)
  exact bodyPost_ret (results_B rfl rfl B99.out strE (Edit.sizeE rfl)) rfl ⟨by rw [HV.out], hr9.own (b := w.heap.size) hk99 hpl, kw9.trans (hk99.one (by omega) (.inl (Nat.le_refl _)))⟩
set_option maxHeartbeats 4000000 in
set_option maxRecDepth 4000 in
theorem edit_Read_h (p : Option Nat) (st : Rd) (w : World) (hT : Tab w) (hr : RdP w p st) (hk : rdN st 7 ≠ 0) (hG : hasG (edK st) = false) (hI : hasI (edK st) = true) (hP : hasP (edK st) = false) (hd : rdN (edB st) 1073741823 ≠ 0) (he : (rdEdit' st).e ≠ 0) :
    Calls Tryd.prog 82 #[ptr p] w (RetP p (rdEdit' st) w (.agg (rdEdit st).arr)) := by
  have hpl := fun g (hg : p = some g) => hr.lt hg
  have ht := hr.tab hT
  obtain ⟨K0, K7⟩ := edK_bd st
  obtain ⟨K, hKe⟩ : ∃ K, K = edK st := ⟨_, rfl⟩
  obtain ⟨S, hS⟩ : ∃ S, S = rdEdit' st := ⟨_, rfl⟩
  obtain ⟨V, hV⟩ : ∃ V, V = rdEdit st := ⟨_, rfl⟩
  rw [← hKe] at K0 K7
  have HK := lh (show K = rdN st 7 from hKe)
  have HSe := lh hS
  have HA := lh (show edA st = rdN' st 7 from rdAb'_pos hk)
  have j0 : (K == 0) = false := by rw [hKe]; show (rdN st 7 == 0) = _; simpa using hk
  have j1 : hasW K 1 = false := by rw [hKe]; exact hG
  have j2 : hasW K 2 = true := by rw [hKe]; exact hI
  have j4 : hasW K 4 = false := by rw [hKe]; exact hP
  have je : (S.e != 0) = true := by rw [hS]; simpa using he
  obtain ⟨b1, b2⟩ := edB_no hG
  have HBq := lh b1
  obtain ⟨c1, c2⟩ := edC_yes hI
  obtain ⟨d, hdd⟩ : ∃ d, d = rdN (edB st) 1073741823 := ⟨_, rfl⟩
  have HI := lh hdd
  have jd : (d == 0) = false := by rw [hdd]; simpa using hd
  have HC := lh (c1.trans (rdAb'_pos hd))
  obtain ⟨p1, p2⟩ := edP_no hP
  have HE := lh (show S = edC st by rw [hS, p1])
  have HV := lh (show V = ez by rw [hV, rdEdit_bad he])
  rw [← hS, ← hV]
  clear hKe hS hV hk hG hI hP he b1 b2 c1 c2 p1 p2 hdd hd
  go_enter Tryd.func82, Tryd.ntmps82
  go_wp2_with (fail)
  refine (c_octet_RNum p st 7 _ (hr.below ((Below.refl _ _).alloc (Nat.le_refl _) _))).mono ?_
  rintro e w1 ⟨rfl, hr1, hk1⟩
  rw [← HK.out]
  have hz1 := hk1.size
  simp only [World.size_alloc] at hz1
  have kw1 : Kept p w.heap.size w w1 := (by repeat (first | exact Kept.refl _ _ _ | refine Kept.drew ?_ | refine Kept.alloc ?_ (by first | omega | (simp; done) | (simp; omega)) _ | refine Kept.setCell ?_ (by first | (right; rfl) | (left; first | omega | (simp; done) | (simp; omega))) _ | refine Kept.then_kept ?_ (by assumption) (by first | omega | (simp; done) | (simp; omega)) | refine Kept.then_below ?_ (by assumption) (by first | omega | (simp; done) | (simp; omega)) | refine Kept.low ?_ (by assumption)))
  have R1 := lh ((Blk.new w _ _).kept hk1 (by simp) (ne_of_lt hpl (Nat.le_refl _)))
  go_wp2_with (with_reducible refine stS 30 (.tmp 3) (.tmp 6) rfl rfl ?_)
  refine Stop.mk (wsB rfl _ _ _ rfl w1.heap.size _ rfl rfl _ (Blk.new _ _ _) strE rfl rfl (by simp [Value.oneCell']) ?_)
  intro w2 hb2 hk2
  have B2 := lh (show Blk w2 w1.heap.size (Edit.arr ⟨K, 0, 0, pz⟩) by unfold Edit.arr; exact hb2)
  clear hb2
  have R2 := lh ((R1.out.alloc _).kept hk2 (by simp; omega) (by simp; omega))
  have hz2 := hk2.size
  simp only [World.size_alloc] at hz2
  have kw2 : Kept p w.heap.size w w2 := (kw1.alloc (by omega) _).trans (hk2.one (by simp; omega) (.inl (by omega)))
  have hr2 : RdP w2 p (rdN' st 7) := (hr1.below ((Below.refl _ _).alloc (Nat.le_refl _) _)).own (b := w1.heap.size) hk2 (fun g hg => by have := hpl g hg; omega)
  have q2 := B2.out.cell (Edit.arr_head _).1
  have hA2 : RdP w2 p (edA st) := by rw [HA.out]; exact hr2
  replace hr2 := hA2
  clear hA2
  go_wp2_with (fail)
  refine (c_edit_has K _ _ K0 K7 (by decide)).mono ?_
  rintro e w3 ⟨rfl, hb3⟩
  have hz3 := hb3.size
  have kw3 : Kept p w.heap.size w w3 := kw2.then_below hb3 (by omega)
  have B3 := lh (B2.out.below hb3 B2.out.lt)
  have R3 := lh (R2.out.below hb3 R2.out.lt)
  have hr3 := hr2.below hb3
  clear q2
  have q3 := B3.out.cell (Edit.arr_head _).1
  have hB3 : RdP w3 p (edB st) := by rw [HBq.out]; exact hr3
  replace hr3 := hB3
  clear hB3
  go_wp2_with (fail)
  refine (c_edit_has K _ _ K0 K7 (by decide)).mono ?_
  rintro e w4 ⟨rfl, hb4⟩
  have hz4 := hb4.size
  have kw4 : Kept p w.heap.size w w4 := kw3.then_below hb4 (by omega)
  have B4 := lh (B3.out.below hb4 B3.out.lt)
  have R4 := lh (R3.out.below hb4 R3.out.lt)
  have hr4 := hr3.below hb4
  clear q3
  have q4 := B4.out.cell (Edit.arr_head _).1
  go_wp2_with (fail)
  refine (c_octet_RNum p (edB st) 1073741823 _ hr4).mono ?_
  rintro e w5 ⟨rfl, hr5, hk5⟩
  have hz5 := hk5.size
  have kw5 : Kept p w.heap.size w w5 := kw4.trans (hk5.mono (by omega))
  have B5 := lh (B4.out.kept hk5 (by omega) (ne_of_lt hpl (by omega)))
  have R5 := lh (R4.out.kept hk5 (by omega) (ne_of_lt hpl (by omega)))
  clear q4
  have q5 := B5.out.cell (Edit.arr_head _).1
  rw [← HI.out]
  have f5 := B5.out.frozen 1
  have u5 := B5.out.cell (Edit.arr_head _).2.1
  have B6 := lh (show Blk (w5.setCell ⟨w1.heap.size, 1, none⟩ (.int .i64 d)) w1.heap.size (Edit.arr ⟨K, d, 0, pz⟩) by have := B5.out.store 1 (.int .i64 d); rw [Edit.put1] at this; exact this)
  have R6 := lh (R5.out.far (q := ⟨w1.heap.size, 1, none⟩) (by simp; omega) (.int .i64 d))
  have kk6 : Kept (some w1.heap.size) w5.heap.size w5 (w5.setCell ⟨w1.heap.size, 1, none⟩ (.int .i64 d)) := (by repeat (first | exact Kept.refl _ _ _ | refine Kept.drew ?_ | refine Kept.alloc ?_ (by first | omega | (simp; done) | (simp; omega)) _ | refine Kept.setCell ?_ (by first | (right; rfl) | (left; first | omega | (simp; done) | (simp; omega))) _ | refine Kept.then_kept ?_ (by assumption) (by first | omega | (simp; done) | (simp; omega)) | refine Kept.then_below ?_ (by assumption) (by first | omega | (simp; done) | (simp; omega)) | refine Kept.low ?_ (by assumption)))
  have hr6 := hr5.own (b := w1.heap.size) kk6 (fun g hg => by have := hpl g hg; omega)
  have kw6 : Kept p w.heap.size w (w5.setCell ⟨w1.heap.size, 1, none⟩ (.int .i64 d)) := kw5.setCell (.inl (by simp; omega)) _
  clear q5 kk6
  have q6 := B6.out.cell (Edit.arr_head _).1
  have v6 := B6.out.cell (Edit.arr_head _).2.1
  go_wp2_with (fail)
  obtain ⟨w6, hw6⟩ : ∃ w6, w6 = (w5.setCell ⟨w1.heap.size, 1, none⟩ (.int .i64 d)) := ⟨_, rfl⟩
  have hz6 : w6.heap.size = w5.heap.size := by rw [hw6]; simp [World.setCell]
  rw [← hw6] at B6 R6 hr6 kw6 q6 ⊢
  clear hw6 f5 u5
  clear v6
  have hC6 : RdP w6 p (edC st) := by rw [HC.out]; exact hr6
  replace hr6 := hC6
  clear hC6
  refine (c_edit_has K _ _ K0 K7 (by decide)).mono ?_
  rintro e w7 ⟨rfl, hb7⟩
  have hz7 := hb7.size
  have kw7 : Kept p w.heap.size w w7 := kw6.then_below hb7 (by omega)
  have B7 := lh (B6.out.below hb7 B6.out.lt)
  have R7 := lh (R6.out.below hb7 R6.out.lt)
  have hr7 := hr6.below hb7
  clear q6
  have q7 := B7.out.cell (Edit.arr_head _).1
  have hS7 : RdP w7 p S := by rw [HE.out]; exact hr7
  replace hr7 := hS7
  clear hS7
  go_wp2_with (fail)
  refine (c_octet_Err p S _ hr7).mono ?_
  rintro e w8 ⟨rfl, hr8, hk8⟩
  have hz8 := hk8.size
  have kw8 : Kept p w.heap.size w w8 := kw7.trans (hk8.mono (by omega))
  have B8 := lh (B7.out.kept hk8 (by omega) (ne_of_lt hpl (by omega)))
  have R8 := lh (R7.out.kept hk8 (by omega) (ne_of_lt hpl (by omega)))
  clear q7
  have q8 := B8.out.cell (Edit.arr_head _).1
  clear q8
  go_wp2_with (with_reducible refine stS 30 (.tmp 2) (.tmp 44) rfl rfl ?_)
  refine Stop.mk (wsB rfl _ _ _ rfl w.heap.size _ rfl rfl _ R8.out strE rfl rfl (by simp [Value.oneCell']) ?_)
  intro w99 hb99 hk99
  have B99 := lh (show Blk w99 w.heap.size ez.arr by rw [ez_cells]; exact hb99)
  clear hb99
  go_wp2_with (fail)
  exact bodyPost_ret (results_B rfl rfl B99.out strE (Edit.sizeE rfl)) rfl ⟨by rw [HV.out], hr8.own (b := w.heap.size) hk99 hpl, kw8.trans (hk99.one (by omega) (.inl (Nat.le_refl _)))⟩
set_option maxHeartbeats 4000000 in
set_option maxRecDepth 4000 in
theorem edit_Read_i (p : Option Nat) (st : Rd) (w : World) (hT : Tab w) (hr : RdP w p st) (hk : rdN st 7 ≠ 0) (hG : hasG (edK st) = false) (hI : hasI (edK st) = true) (hP : hasP (edK st) = false) (hd : rdN (edB st) 1073741823 ≠ 0) (he : (rdEdit' st).e = 0) :
    Calls Tryd.prog 82 #[ptr p] w (RetP p (rdEdit' st) w (.agg (rdEdit st).arr)) := by
  have hpl := fun g (hg : p = some g) => hr.lt hg
  have ht := hr.tab hT
  obtain ⟨K0, K7⟩ := edK_bd st
  obtain ⟨K, hKe⟩ : ∃ K, K = edK st := ⟨_, rfl⟩
  obtain ⟨S, hS⟩ : ∃ S, S = rdEdit' st := ⟨_, rfl⟩
  obtain ⟨V, hV⟩ : ∃ V, V = rdEdit st := ⟨_, rfl⟩
  rw [← hKe] at K0 K7
  have HK := lh (show K = rdN st 7 from hKe)
  have HSe := lh hS
  have HA := lh (show edA st = rdN' st 7 from rdAb'_pos hk)
  have j0 : (K == 0) = false := by rw [hKe]; show (rdN st 7 == 0) = _; simpa using hk
  have j1 : hasW K 1 = false := by rw [hKe]; exact hG
  have j2 : hasW K 2 = true := by rw [hKe]; exact hI
  have j4 : hasW K 4 = false := by rw [hKe]; exact hP
  have je : (S.e != 0) = false := by rw [hS]; simpa using he
  obtain ⟨b1, b2⟩ := edB_no hG
  have HBq := lh b1
  obtain ⟨c1, c2⟩ := edC_yes hI
  obtain ⟨d, hdd⟩ : ∃ d, d = rdN (edB st) 1073741823 := ⟨_, rfl⟩
  have HI := lh hdd
  have jd : (d == 0) = false := by rw [hdd]; simpa using hd
  have HC := lh (c1.trans (rdAb'_pos hd))
  obtain ⟨p1, p2⟩ := edP_no hP
  have HE := lh (show S = edC st by rw [hS, p1])
  have HV := lh (show V = ⟨K, d, 0, pz⟩ by rw [hV, rdEdit_ok he]; unfold edEdit; rw [b2, c2, p2, hKe, hdd])
  rw [← hS, ← hV]
  clear hKe hS hV hk hG hI hP he b1 b2 c1 c2 p1 p2 hdd hd
  go_enter Tryd.func82, Tryd.ntmps82
  go_wp2_with (fail)
  refine (c_octet_RNum p st 7 _ (hr.below ((Below.refl _ _).alloc (Nat.le_refl _) _))).mono ?_
  rintro e w1 ⟨rfl, hr1, hk1⟩
  rw [← HK.out]
  have hz1 := hk1.size
  simp only [World.size_alloc] at hz1
  have kw1 : Kept p w.heap.size w w1 := (by repeat (first | exact Kept.refl _ _ _ | refine Kept.drew ?_ | refine Kept.alloc ?_ (by first | omega | (simp; done) | (simp; omega)) _ | refine Kept.setCell ?_ (by first | (right; rfl) | (left; first | omega | (simp; done) | (simp; omega))) _ | refine Kept.then_kept ?_ (by assumption) (by first | omega | (simp; done) | (simp; omega)) | refine Kept.then_below ?_ (by assumption) (by first | omega | (simp; done) | (simp; omega)) | refine Kept.low ?_ (by assumption)))
  have R1 := lh ((Blk.new w _ _).kept hk1 (by simp) (ne_of_lt hpl (Nat.le_refl _)))
  go_wp2_with (with_reducible refine stS 30 (.tmp 3) (.tmp 6) rfl rfl ?_)
  refine Stop.mk (wsB rfl _ _ _ rfl w1.heap.size _ rfl rfl _ (Blk.new _ _ _) strE rfl rfl (by simp [Value.oneCell']) ?_)
  intro w2 hb2 hk2
  have B2 := lh (show Blk w2 w1.heap.size (Edit.arr ⟨K, 0, 0, pz⟩) by unfold Edit.arr; exact hb2)
  clear hb2
  have R2 := lh ((R1.out.alloc _).kept hk2 (by simp; omega) (by simp; omega))
  have hz2 := hk2.size
  simp only [World.size_alloc] at hz2
  have kw2 : Kept p w.heap.size w w2 := (kw1.alloc (by omega) _).trans (hk2.one (by simp; omega) (.inl (by omega)))
  have hr2 : RdP w2 p (rdN' st 7) := (hr1.below ((Below.refl _ _).alloc (Nat.le_refl _) _)).own (b := w1.heap.size) hk2 (fun g hg => by have := hpl g hg; omega)
  have q2 := B2.out.cell (Edit.arr_head _).1
  have hA2 : RdP w2 p (edA st) := by rw [HA.out]; exact hr2
  replace hr2 := hA2
  clear hA2
  go_wp2_with (fail)
  refine (c_edit_has K _ _ K0 K7 (by decide)).mono ?_
  rintro e w3 ⟨rfl, hb3⟩
  have hz3 := hb3.size
  have kw3 : Kept p w.heap.size w w3 := kw2.then_below hb3 (by omega)
  have B3 := lh (B2.out.below hb3 B2.out.lt)
  have R3 := lh (R2.out.below hb3 R2.out.lt)
  have hr3 := hr2.below hb3
  clear q2
  have q3 := B3.out.cell (Edit.arr_head _).1
  have hB3 : RdP w3 p (edB st) := by rw [HBq.out]; exact hr3
  replace hr3 := hB3
  clear hB3
  go_wp2_with (fail)
  refine (c_edit_has K _ _ K0 K7 (by decide)).mono ?_
  rintro e w4 ⟨rfl, hb4⟩
  have hz4 := hb4.size
  have kw4 : Kept p w.heap.size w w4 := kw3.then_below hb4 (by omega)
  have B4 := lh (B3.out.below hb4 B3.out.lt)
  have R4 := lh (R3.out.below hb4 R3.out.lt)
  have hr4 := hr3.below hb4
  clear q3
  have q4 := B4.out.cell (Edit.arr_head _).1
  go_wp2_with (fail)
  refine (c_octet_RNum p (edB st) 1073741823 _ hr4).mono ?_
  rintro e w5 ⟨rfl, hr5, hk5⟩
  have hz5 := hk5.size
  have kw5 : Kept p w.heap.size w w5 := kw4.trans (hk5.mono (by omega))
  have B5 := lh (B4.out.kept hk5 (by omega) (ne_of_lt hpl (by omega)))
  have R5 := lh (R4.out.kept hk5 (by omega) (ne_of_lt hpl (by omega)))
  clear q4
  have q5 := B5.out.cell (Edit.arr_head _).1
  rw [← HI.out]
  have f5 := B5.out.frozen 1
  have u5 := B5.out.cell (Edit.arr_head _).2.1
  have B6 := lh (show Blk (w5.setCell ⟨w1.heap.size, 1, none⟩ (.int .i64 d)) w1.heap.size (Edit.arr ⟨K, d, 0, pz⟩) by have := B5.out.store 1 (.int .i64 d); rw [Edit.put1] at this; exact this)
  have R6 := lh (R5.out.far (q := ⟨w1.heap.size, 1, none⟩) (by simp; omega) (.int .i64 d))
  have kk6 : Kept (some w1.heap.size) w5.heap.size w5 (w5.setCell ⟨w1.heap.size, 1, none⟩ (.int .i64 d)) := (by repeat (first | exact Kept.refl _ _ _ | refine Kept.drew ?_ | refine Kept.alloc ?_ (by first | omega | (simp; done) | (simp; omega)) _ | refine Kept.setCell ?_ (by first | (right; rfl) | (left; first | omega | (simp; done) | (simp; omega))) _ | refine Kept.then_kept ?_ (by assumption) (by first | omega | (simp; done) | (simp; omega)) | refine Kept.then_below ?_ (by assumption) (by first | omega | (simp; done) | (simp; omega)) | refine Kept.low ?_ (by assumption)))
  have hr6 := hr5.own (b := w1.heap.size) kk6 (fun g hg => by have := hpl g hg; omega)
  have kw6 : Kept p w.heap.size w (w5.setCell ⟨w1.heap.size, 1, none⟩ (.int .i64 d)) := kw5.setCell (.inl (by simp; omega)) _
  clear q5 kk6
  have q6 := B6.out.cell (Edit.arr_head _).1
  have v6 := B6.out.cell (Edit.arr_head _).2.1
  go_wp2_with (fail)
  obtain ⟨w6, hw6⟩ : ∃ w6, w6 = (w5.setCell ⟨w1.heap.size, 1, none⟩ (.int .i64 d)) := ⟨_, rfl⟩
  have hz6 : w6.heap.size = w5.heap.size := by rw [hw6]; simp [World.setCell]
  rw [← hw6] at B6 R6 hr6 kw6 q6 ⊢
  clear hw6 f5 u5
  clear v6
  have hC6 : RdP w6 p (edC st) := by rw [HC.out]; exact hr6
  replace hr6 := hC6
  clear hC6
  refine (c_edit_has K _ _ K0 K7 (by decide)).mono ?_
  rintro e w7 ⟨rfl, hb7⟩
  have hz7 := hb7.size
  have kw7 : Kept p w.heap.size w w7 := kw6.then_below hb7 (by omega)
  have B7 := lh (B6.out.below hb7 B6.out.lt)
  have R7 := lh (R6.out.below hb7 R6.out.lt)
  have hr7 := hr6.below hb7
  clear q6
  have q7 := B7.out.cell (Edit.arr_head _).1
  have hS7 : RdP w7 p S := by rw [HE.out]; exact hr7
  replace hr7 := hS7
  clear hS7
  go_wp2_with (fail)
  refine (c_octet_Err p S _ hr7).mono ?_
  rintro e w8 ⟨rfl, hr8, hk8⟩
  have hz8 := hk8.size
  have kw8 : Kept p w.heap.size w w8 := kw7.trans (hk8.mono (by omega))
  have B8 := lh (B7.out.kept hk8 (by omega) (ne_of_lt hpl (by omega)))
  have R8 := lh (R7.out.kept hk8 (by omega) (ne_of_lt hpl (by omega)))
  clear q7
  have q8 := B8.out.cell (Edit.arr_head _).1
  clear q8
  go_wp2_with (with_reducible refine stop_load 30 (.tmp 3) rfl rfl ?_)
  refine Stop.mk (wpList_loadB rfl _ _ rfl w1.heap.size rfl _ B8.out strE (Edit.sizeE rfl) ?_)
  go_wp2_with (with_reducible refine stS 30 (.tmp 2) (.tmp 45) rfl rfl ?_)
  refine Stop.mk (wsB rfl _ _ _ rfl w.heap.size _ rfl rfl _ R8.out strE (Edit.sizeE rfl) (by rw [Edit.sizeE rfl]; rfl) (Edit.arr_ones _) ?_)
  intro w99 hb99 hk99
  have B99 := lh hb99
  clear hb99
  go_wp2_with (fail)
  exact bodyPost_ret (results_B rfl rfl B99.out strE (Edit.sizeE rfl)) rfl ⟨by rw [HV.out], hr8.own (b := w.heap.size) hk99 hpl, kw8.trans (hk99.one (by omega) (.inl (Nat.le_refl _)))⟩
end Go.Proofs.YtiedkcijjfmhaaaDoor
/-! W19h3 -/
namespace Go.Proofs.YtiedkcijjfmhaaaDoor
open Go.RowKit

set_option maxHeartbeats 4000000 in
set_option maxRecDepth 4000 in
theorem edit_Read_j (p : Option Nat) (st : Rd) (w : World) (hT : Tab w) (hr : RdP w p st) (hk : rdN st 7 ≠ 0) (hG : hasG (edK st) = true) (hI : hasI (edK st) = false) (hP : hasP (edK st) = false) (he : (rdEdit' st).e ≠ 0) :
    Calls Tryd.prog 82 #[ptr p] w (RetP p (rdEdit' st) w (.agg (rdEdit st).arr)) := by
  have hpl := fun g (hg : p = some g) => hr.lt hg
  have ht := hr.tab hT
  obtain ⟨K0, K7⟩ := edK_bd st
  obtain ⟨K, hKe⟩ : ∃ K, K = edK st := ⟨_, rfl⟩
  obtain ⟨S, hS⟩ : ∃ S, S = rdEdit' st := ⟨_, rfl⟩
  obtain ⟨V, hV⟩ : ∃ V, V = rdEdit st := ⟨_, rfl⟩
  rw [← hKe] at K0 K7
  have HK := lh (show K = rdN st 7 from hKe)
  have HSe := lh hS
  have HA := lh (show edA st = rdN' st 7 from rdAb'_pos hk)
  have j0 : (K == 0) = false := by rw [hKe]; show (rdN st 7 == 0) = _; simpa using hk
  have j1 : hasW K 1 = true := by rw [hKe]; exact hG
  have j2 : hasW K 2 = false := by rw [hKe]; exact hI
  have j4 : hasW K 4 = false := by rw [hKe]; exact hP
  have je : (S.e != 0) = true := by rw [hS]; simpa using he
  obtain ⟨b1, b2⟩ := edB_yes hG
  have HBq := lh b1
  obtain ⟨g, hg⟩ : ∃ g, g = rdN (edA st) 15 := ⟨_, rfl⟩
  have HG := lh hg
  obtain ⟨c1, c2⟩ := edC_no hI
  have HC := lh c1
  obtain ⟨p1, p2⟩ := edP_no hP
  have HE := lh (show S = edC st by rw [hS, p1])
  have HV := lh (show V = ez by rw [hV, rdEdit_bad he])
  rw [← hS, ← hV]
  clear hKe hS hV hk hG hI hP he b1 b2 c1 c2 p1 p2 hg
  go_enter Tryd.func82, Tryd.ntmps82
  go_wp2_with (fail)
  refine (c_octet_RNum p st 7 _ (hr.below ((Below.refl _ _).alloc (Nat.le_refl _) _))).mono ?_
  rintro e w1 ⟨rfl, hr1, hk1⟩
  rw [← HK.out]
  have hz1 := hk1.size
  simp only [World.size_alloc] at hz1
  have kw1 : Kept p w.heap.size w w1 := (by repeat (first | exact Kept.refl _ _ _ | refine Kept.drew ?_ | refine Kept.alloc ?_ (by first | omega | (simp; done) | (simp; omega)) _ | refine Kept.setCell ?_ (by first | (right; rfl) | (left; first | omega | (simp; done) | (simp; omega))) _ | refine Kept.then_kept ?_ (by assumption) (by first | omega | (simp; done) | (simp; omega)) | refine Kept.then_below ?_ (by assumption) (by first | omega | (simp; done) | (simp; omega)) | refine Kept.low ?_ (by assumption)))
  have R1 := lh ((Blk.new w _ _).kept hk1 (by simp) (ne_of_lt hpl (Nat.le_refl _)))
  go_wp2_with (with_reducible refine stS 30 (.tmp 3) (.tmp 6) rfl rfl ?_)
  refine Stop.mk (wsB rfl _ _ _ rfl w1.heap.size _ rfl rfl _ (Blk.new _ _ _) strE rfl rfl (by simp [Value.oneCell']) ?_)
  intro w2 hb2 hk2
  have B2 := lh (show Blk w2 w1.heap.size (Edit.arr ⟨K, 0, 0, pz⟩) by unfold Edit.arr; exact hb2)
  clear hb2
  have R2 := lh ((R1.out.alloc _).kept hk2 (by simp; omega) (by simp; omega))
  have hz2 := hk2.size
  simp only [World.size_alloc] at hz2
  have kw2 : Kept p w.heap.size w w2 := (kw1.alloc (by omega) _).trans (hk2.one (by simp; omega) (.inl (by omega)))
  have hr2 : RdP w2 p (rdN' st 7) := (hr1.below ((Below.refl _ _).alloc (Nat.le_refl _) _)).own (b := w1.heap.size) hk2 (fun g hg => by have := hpl g hg; omega)
  have q2 := B2.out.cell (Edit.arr_head _).1
  have hA2 : RdP w2 p (edA st) := by rw [HA.out]; exact hr2
  replace hr2 := hA2
  clear hA2
  go_wp2_with (fail)
  refine (c_edit_has K _ _ K0 K7 (by decide)).mono ?_
  rintro e w3 ⟨rfl, hb3⟩
  have hz3 := hb3.size
  have kw3 : Kept p w.heap.size w w3 := kw2.then_below hb3 (by omega)
  have B3 := lh (B2.out.below hb3 B2.out.lt)
  have R3 := lh (R2.out.below hb3 R2.out.lt)
  have hr3 := hr2.below hb3
  clear q2
  have q3 := B3.out.cell (Edit.arr_head _).1
  go_wp2_with (fail)
  refine (c_octet_RNum p (edA st) 15 _ hr3).mono ?_
  rintro e w4 ⟨rfl, hr4, hk4⟩
  have hz4 := hk4.size
  have kw4 : Kept p w.heap.size w w4 := kw3.trans (hk4.mono (by omega))
  have B4 := lh (B3.out.kept hk4 (by omega) (ne_of_lt hpl (by omega)))
  have R4 := lh (R3.out.kept hk4 (by omega) (ne_of_lt hpl (by omega)))
  clear q3
  have q4 := B4.out.cell (Edit.arr_head _).1
  rw [← HG.out]
  have f4 := B4.out.frozen 2
  have u4 := B4.out.cell (Edit.arr_head _).2.2
  have B5 := lh (show Blk (w4.setCell ⟨w1.heap.size, 2, none⟩ (.int .i64 g)) w1.heap.size (Edit.arr ⟨K, 0, g, pz⟩) by have := B4.out.store 2 (.int .i64 g); rw [Edit.put2] at this; exact this)
  have R5 := lh (R4.out.far (q := ⟨w1.heap.size, 2, none⟩) (by simp; omega) (.int .i64 g))
  have kk5 : Kept (some w1.heap.size) w4.heap.size w4 (w4.setCell ⟨w1.heap.size, 2, none⟩ (.int .i64 g)) := (by repeat (first | exact Kept.refl _ _ _ | refine Kept.drew ?_ | refine Kept.alloc ?_ (by first | omega | (simp; done) | (simp; omega)) _ | refine Kept.setCell ?_ (by first | (right; rfl) | (left; first | omega | (simp; done) | (simp; omega))) _ | refine Kept.then_kept ?_ (by assumption) (by first | omega | (simp; done) | (simp; omega)) | refine Kept.then_below ?_ (by assumption) (by first | omega | (simp; done) | (simp; omega)) | refine Kept.low ?_ (by assumption)))
  have hr5 := hr4.own (b := w1.heap.size) kk5 (fun g hg => by have := hpl g hg; omega)
  have kw5 : Kept p w.heap.size w (w4.setCell ⟨w1.heap.size, 2, none⟩ (.int .i64 g)) := kw4.setCell (.inl (by simp; omega)) _
  clear q4 kk5
  have q5 := B5.out.cell (Edit.arr_head _).1
  go_wp2_with (fail)
  obtain ⟨w5, hw5⟩ : ∃ w5, w5 = (w4.setCell ⟨w1.heap.size, 2, none⟩ (.int .i64 g)) := ⟨_, rfl⟩
  have hz5 : w5.heap.size = w4.heap.size := by rw [hw5]; simp [World.setCell]
  rw [← hw5] at B5 R5 hr5 kw5 q5 ⊢
  clear hw5 f4 u4
  have hB5 : RdP w5 p (edB st) := by rw [HBq.out]; exact hr5
  replace hr5 := hB5
  clear hB5
  refine (c_edit_has K _ _ K0 K7 (by decide)).mono ?_
  rintro e w6 ⟨rfl, hb6⟩
  have hz6 := hb6.size
  have kw6 : Kept p w.heap.size w w6 := kw5.then_below hb6 (by omega)
  have B6 := lh (B5.out.below hb6 B5.out.lt)
  have R6 := lh (R5.out.below hb6 R5.out.lt)
  have hr6 := hr5.below hb6
  clear q5
  have q6 := B6.out.cell (Edit.arr_head _).1
  have hC6 : RdP w6 p (edC st) := by rw [HC.out]; exact hr6
  replace hr6 := hC6
  clear hC6
  go_wp2_with (fail)
  refine (c_edit_has K _ _ K0 K7 (by decide)).mono ?_
  rintro e w7 ⟨rfl, hb7⟩
  have hz7 := hb7.size
  have kw7 : Kept p w.heap.size w w7 := kw6.then_below hb7 (by omega)
  have B7 := lh (B6.out.below hb7 B6.out.lt)
  have R7 := lh (R6.out.below hb7 R6.out.lt)
  have hr7 := hr6.below hb7
  clear q6
  have q7 := B7.out.cell (Edit.arr_head _).1
  have hS7 : RdP w7 p S := by rw [HE.out]; exact hr7
  replace hr7 := hS7
  clear hS7
  go_wp2_with (fail)
  refine (c_octet_Err p S _ hr7).mono ?_
  rintro e w8 ⟨rfl, hr8, hk8⟩
  have hz8 := hk8.size
  have kw8 : Kept p w.heap.size w w8 := kw7.trans (hk8.mono (by omega))
  have B8 := lh (B7.out.kept hk8 (by omega) (ne_of_lt hpl (by omega)))
  have R8 := lh (R7.out.kept hk8 (by omega) (ne_of_lt hpl (by omega)))
  clear q7
  have q8 := B8.out.cell (Edit.arr_head _).1
  clear q8
  go_wp2_with (with_reducible refine stS 30 (.tmp 2) (.tmp 44) rfl rfl ?_)
  refine Stop.mk (wsB rfl _ _ _ rfl w.heap.size _ rfl rfl _ R8.out strE rfl rfl (by simp [Value.oneCell']) ?_)
  intro w99 hb99 hk99
  have B99 := lh (show Blk w99 w.heap.size ez.arr by rw [ez_cells]; exact hb99)
  clear hb99
  go_wp2_with (fail)
  exact bodyPost_ret (results_B rfl rfl B99.out strE (Edit.sizeE rfl)) rfl ⟨by rw [HV.out], hr8.own (b := w.heap.size) hk99 hpl, kw8.trans (hk99.one (by omega) (.inl (Nat.le_refl _)))⟩
set_option maxHeartbeats 4000000 in
set_option maxRecDepth 4000 in
theorem edit_Read_k (p : Option Nat) (st : Rd) (w : World) (hT : Tab w) (hr : RdP w p st) (hk : rdN st 7 ≠ 0) (hG : hasG (edK st) = true) (hI : hasI (edK st) = false) (hP : hasP (edK st) = false) (he : (rdEdit' st).e = 0) :
    Calls Tryd.prog 82 #[ptr p] w (RetP p (rdEdit' st) w (.agg (rdEdit st).arr)) := by
  have hpl := fun g (hg : p = some g) => hr.lt hg
  have ht := hr.tab hT
  obtain ⟨K0, K7⟩ := edK_bd st
  obtain ⟨K, hKe⟩ : ∃ K, K = edK st := ⟨_, rfl⟩
  obtain ⟨S, hS⟩ : ∃ S, S = rdEdit' st := ⟨_, rfl⟩
  obtain ⟨V, hV⟩ : ∃ V, V = rdEdit st := ⟨_, rfl⟩
  rw [← hKe] at K0 K7
  have HK := lh (show K = rdN st 7 from hKe)
  have HSe := lh hS
  have HA := lh (show edA st = rdN' st 7 from rdAb'_pos hk)
  have j0 : (K == 0) = false := by rw [hKe]; show (rdN st 7 == 0) = _; simpa using hk
  have j1 : hasW K 1 = true := by rw [hKe]; exact hG
  have j2 : hasW K 2 = false := by rw [hKe]; exact hI
  have j4 : hasW K 4 = false := by rw [hKe]; exact hP
  have je : (S.e != 0) = false := by rw [hS]; simpa using he
  obtain ⟨b1, b2⟩ := edB_yes hG
  have HBq := lh b1
  obtain ⟨g, hg⟩ : ∃ g, g = rdN (edA st) 15 := ⟨_, rfl⟩
  have HG := lh hg
  obtain ⟨c1, c2⟩ := edC_no hI
  have HC := lh c1
  obtain ⟨p1, p2⟩ := edP_no hP
  have HE := lh (show S = edC st by rw [hS, p1])
  have HV := lh (show V = ⟨K, 0, g, pz⟩ by rw [hV, rdEdit_ok he]; unfold edEdit; rw [b2, c2, p2, hKe, hg])
  rw [← hS, ← hV]
  clear hKe hS hV hk hG hI hP he b1 b2 c1 c2 p1 p2 hg
  go_enter Tryd.func82, Tryd.ntmps82
  go_wp2_with (fail)
  refine (c_octet_RNum p st 7 _ (hr.below ((Below.refl _ _).alloc (Nat.le_refl _) _))).mono ?_
  rintro e w1 ⟨rfl, hr1, hk1⟩
  rw [← HK.out]
  have hz1 := hk1.size
  simp only [World.size_alloc] at hz1
  have kw1 : Kept p w.heap.size w w1 := (by repeat (first | exact Kept.refl _ _ _ | refine Kept.drew ?_ | refine Kept.alloc ?_ (by first | omega | (simp; done) | (simp; omega)) _ | refine Kept.setCell ?_ (by first | (right; rfl) | (left; first | omega | (simp; done) | (simp; omega))) _ | refine Kept.then_kept ?_ (by assumption) (by first | omega | (simp; done) | (simp; omega)) | refine Kept.then_below ?_ (by assumption) (by first | omega | (simp; done) | (simp; omega)) | refine Kept.low ?_ (by assumption)))
  have R1 := lh ((Blk.new w _ _).kept hk1 (by simp) (ne_of_lt hpl (Nat.le_refl _)))
  go_wp2_with (with_reducible refine stS 30 (.tmp 3) (.tmp 6) rfl rfl ?_)
  refine Stop.mk (wsB rfl _ _ _ rfl w1.heap.size _ rfl rfl _ (Blk.new _ _ _) strE rfl rfl (by simp [Value.oneCell']) ?_)
  intro w2 hb2 hk2
  have B2 := lh (show Blk w2 w1.heap.size (Edit.arr ⟨K, 0, 0, pz⟩) by unfold Edit.arr; exact hb2)
  clear hb2
  have R2 := lh ((R1.out.alloc _).kept hk2 (by simp; omega) (by simp; omega))
  have hz2 := hk2.size
  simp only [World.size_alloc] at hz2
  have kw2 : Kept p w.heap.size w w2 := (kw1.alloc (by omega) _).trans (hk2.one (by simp; omega) (.inl (by omega)))
  have hr2 : RdP w2 p (rdN' st 7) := (hr1.below ((Below.refl _ _).alloc (Nat.le_refl _) _)).own (b := w1.heap.size) hk2 (fun g hg => by have := hpl g hg; omega)
  have q2 := B2.out.cell (Edit.arr_head _).1
  have hA2 : RdP w2 p (edA st) := by rw [HA.out]; exact hr2
  replace hr2 := hA2
  clear hA2
  go_wp2_with (fail)
  refine (c_edit_has K _ _ K0 K7 (by decide)).mono ?_
  rintro e w3 ⟨rfl, hb3⟩
  have hz3 := hb3.size
  have kw3 : Kept p w.heap.size w w3 := kw2.then_below hb3 (by omega)
  have B3 := lh (B2.out.below hb3 B2.out.lt)
  have R3 := lh (R2.out.below hb3 R2.out.lt)
  have hr3 := hr2.below hb3
  clear q2
  have q3 := B3.out.cell (Edit.arr_head _).1
  go_wp2_with (fail)
  refine (c_octet_RNum p (edA st) 15 _ hr3).mono ?_
  rintro e w4 ⟨rfl, hr4, hk4⟩
  have hz4 := hk4.size
  have kw4 : Kept p w.heap.size w w4 := kw3.trans (hk4.mono (by omega))
  have B4 := lh (B3.out.kept hk4 (by omega) (ne_of_lt hpl (by omega)))
  have R4 := lh (R3.out.kept hk4 (by omega) (ne_of_lt hpl (by omega)))
  clear q3
  have q4 := B4.out.cell (Edit.arr_head _).1
  rw [← HG.out]
  have f4 := B4.out.frozen 2
  have u4 := B4.out.cell (Edit.arr_head _).2.2
  have B5 := lh (show Blk (w4.setCell ⟨w1.heap.size, 2, none⟩ (.int .i64 g)) w1.heap.size (Edit.arr ⟨K, 0, g, pz⟩) by have := B4.out.store 2 (.int .i64 g); rw [Edit.put2] at this; exact this)
  have R5 := lh (R4.out.far (q := ⟨w1.heap.size, 2, none⟩) (by simp; omega) (.int .i64 g))
  have kk5 : Kept (some w1.heap.size) w4.heap.size w4 (w4.setCell ⟨w1.heap.size, 2, none⟩ (.int .i64 g)) := (by repeat (first | exact Kept.refl _ _ _ | refine Kept.drew ?_ | refine Kept.alloc ?_ (by first | omega | (simp; done) | (simp; omega)) _ | refine Kept.setCell ?_ (by first | (right; rfl) | (left; first | omega | (simp; done) | (simp; omega))) _ | refine Kept.then_kept ?_ (by assumption) (by first | omega | (simp; done) | (simp; omega)) | refine Kept.then_below ?_ (by assumption) (by first | omega | (simp; done) | (simp; omega)) | refine Kept.low ?_ (by assumption)))
  have hr5 := hr4.own (b := w1.heap.size) kk5 (fun g hg => by have := hpl g hg; omega)
  have kw5 : Kept p w.heap.size w (w4.setCell ⟨w1.heap.size, 2, none⟩ (.int .i64 g)) := kw4.setCell (.inl (by simp; omega)) _
  clear q4 kk5
  have q5 := B5.out.cell (Edit.arr_head _).1
  go_wp2_with (fail)
  obtain ⟨w5, hw5⟩ : ∃ w5, w5 = (w4.setCell ⟨w1.heap.size, 2, none⟩ (.int .i64 g)) := ⟨_, rfl⟩
  have hz5 : w5.heap.size = w4.heap.size := by rw [hw5]; simp [World.setCell]
  rw [← hw5] at B5 R5 hr5 kw5 q5 ⊢
  clear hw5 f4 u4
  have hB5 : RdP w5 p (edB st) := by rw [HBq.out]; exact hr5
  replace hr5 := hB5
  clear hB5
  refine (c_edit_has K _ _ K0 K7 (by decide)).mono ?_
  rintro e w6 ⟨rfl, hb6⟩
  have hz6 := hb6.size
  have kw6 : Kept p w.heap.size w w6 := kw5.then_below hb6 (by omega)
  have B6 := lh (B5.out.below hb6 B5.out.lt)
  have R6 := lh (R5.out.below hb6 R5.out.lt)
  have hr6 := hr5.below hb6
  clear q5
  have q6 := B6.out.cell (Edit.arr_head _).1
  have hC6 : RdP w6 p (edC st) := by rw [HC.out]; exact hr6
  replace hr6 := hC6
  clear hC6
  go_wp2_with (fail)
  refine (c_edit_has K _ _ K0 K7 (by decide)).mono ?_
  rintro e w7 ⟨rfl, hb7⟩
  have hz7 := hb7.size
  have kw7 : Kept p w.heap.size w w7 := kw6.then_below hb7 (by omega)
  have B7 := lh (B6.out.below hb7 B6.out.lt)
  have R7 := lh (R6.out.below hb7 R6.out.lt)
  have hr7 := hr6.below hb7
  clear q6
  have q7 := B7.out.cell (Edit.arr_head _).1
  have hS7 : RdP w7 p S := by rw [HE.out]; exact hr7
  replace hr7 := hS7
  clear hS7
  go_wp2_with (fail)
  refine (c_octet_Err p S _ hr7).mono ?_
  rintro e w8 ⟨rfl, hr8, hk8⟩
  have hz8 := hk8.size
  have kw8 : Kept p w.heap.size w w8 := kw7.trans (hk8.mono (by omega))
  have B8 := lh (B7.out.kept hk8 (by omega) (ne_of_lt hpl (by omega)))
  have R8 := lh (R7.out.kept hk8 (by omega) (ne_of_lt hpl (by omega)))
  clear q7
  have q8 := B8.out.cell (Edit.arr_head _).1
  clear q8
  go_wp2_with (with_reducible refine stop_load 30 (.tmp 3) rfl rfl ?_)
  refine Stop.mk (wpList_loadB rfl _ _ rfl w1.heap.size rfl _ B8.out strE (Edit.sizeE rfl) ?_)
  go_wp2_with (with_reducible refine stS 30 (.tmp 2) (.tmp 45) rfl rfl ?_)
  refine Stop.mk (wsB rfl _ _ _ rfl w.heap.size _ rfl rfl _ R8.out strE (Edit.sizeE rfl) (by rw [Edit.sizeE rfl]; rfl) (Edit.arr_ones _) ?_)
  intro w99 hb99 hk99
  have B99 := lh hb99
  clear hb99
  go_wp2_with (fail)
  exact bodyPost_ret (results_B rfl rfl B99.out strE (Edit.sizeE rfl)) rfl ⟨by rw [HV.out], hr8.own (b := w.heap.size) hk99 hpl, kw8.trans (hk99.one (by omega) (.inl (Nat.le_refl _)))⟩
set_option maxHeartbeats 4000000 in
set_option maxRecDepth 4000 in
theorem edit_Read_l (p : Option Nat) (st : Rd) (w : World) (hT : Tab w) (hr : RdP w p st) (hk : rdN st 7 ≠ 0) (hG : hasG (edK st) = true) (hI : hasI (edK st) = true) (hP : hasP (edK st) = false) (hd : rdN (edB st) 1073741823 = 0) (he : (rdEdit' st).e ≠ 0) :
    Calls Tryd.prog 82 #[ptr p] w (RetP p (rdEdit' st) w (.agg (rdEdit st).arr)) := by
  have hpl := fun g (hg : p = some g) => hr.lt hg
  have ht := hr.tab hT
  obtain ⟨K0, K7⟩ := edK_bd st
  obtain ⟨K, hKe⟩ : ∃ K, K = edK st := ⟨_, rfl⟩
  obtain ⟨S, hS⟩ : ∃ S, S = rdEdit' st := ⟨_, rfl⟩
  obtain ⟨V, hV⟩ : ∃ V, V = rdEdit st := ⟨_, rfl⟩
  rw [← hKe] at K0 K7
  have HK := lh (show K = rdN st 7 from hKe)
  have HSe := lh hS
  have HA := lh (show edA st = rdN' st 7 from rdAb'_pos hk)
  have j0 : (K == 0) = false := by rw [hKe]; show (rdN st 7 == 0) = _; simpa using hk
  have j1 : hasW K 1 = true := by rw [hKe]; exact hG
  have j2 : hasW K 2 = true := by rw [hKe]; exact hI
  have j4 : hasW K 4 = false := by rw [hKe]; exact hP
  have je : (S.e != 0) = true := by rw [hS]; simpa using he
  obtain ⟨b1, b2⟩ := edB_yes hG
  have HBq := lh b1
  obtain ⟨g, hg⟩ : ∃ g, g = rdN (edA st) 15 := ⟨_, rfl⟩
  have HG := lh hg
  obtain ⟨c1, c2⟩ := edC_yes hI
  obtain ⟨d, hdd⟩ : ∃ d, d = rdN (edB st) 1073741823 := ⟨_, rfl⟩
  have HI := lh hdd
  have jd : (d == 0) = true := by rw [hdd]; simpa using hd
  have HC := lh (c1.trans (rdAb'_zero hd))
  obtain ⟨p1, p2⟩ := edP_no hP
  have HE := lh (show S = edC st by rw [hS, p1])
  have HV := lh (show V = ez by rw [hV, rdEdit_bad he])
  rw [← hS, ← hV]
  clear hKe hS hV hk hG hI hP he b1 b2 c1 c2 p1 p2 hg hdd hd
  go_enter Tryd.func82, Tryd.ntmps82
  go_wp2_with (fail)
  refine (c_octet_RNum p st 7 _ (hr.below ((Below.refl _ _).alloc (Nat.le_refl _) _))).mono ?_
  rintro e w1 ⟨rfl, hr1, hk1⟩
  rw [← HK.out]
  have hz1 := hk1.size
  simp only [World.size_alloc] at hz1
  have kw1 : Kept p w.heap.size w w1 := (by repeat (first | exact Kept.refl _ _ _ | refine Kept.drew ?_ | refine Kept.alloc ?_ (by first | omega | (simp; done) | (simp; omega)) _ | refine Kept.setCell ?_ (by first | (right; rfl) | (left; first | omega | (simp; done) | (simp; omega))) _ | refine Kept.then_kept ?_ (by assumption) (by first | omega | (simp; done) | (simp; omega)) | refine Kept.then_below ?_ (by assumption) (by first | omega | (simp; done) | (simp; omega)) | refine Kept.low ?_ (by assumption)))
  have R1 := lh ((Blk.new w _ _).kept hk1 (by simp) (ne_of_lt hpl (Nat.le_refl _)))
  go_wp2_with (with_reducible refine stS 30 (.tmp 3) (.tmp 6) rfl rfl ?_)
  refine Stop.mk (wsB rfl _ _ _ rfl w1.heap.size _ rfl rfl _ (Blk.new _ _ _) strE rfl rfl (by simp [Value.oneCell']) ?_)
  intro w2 hb2 hk2
  have B2 := lh (show Blk w2 w1.heap.size (Edit.arr ⟨K, 0, 0, pz⟩) by unfold Edit.arr; exact hb2)
  clear hb2
  have R2 := lh ((R1.out.alloc _).kept hk2 (by simp; omega) (by simp; omega))
  have hz2 := hk2.size
  simp only [World.size_alloc] at hz2
  have kw2 : Kept p w.heap.size w w2 := (kw1.alloc (by omega) _).trans (hk2.one (by simp; omega) (.inl (by omega)))
  have hr2 : RdP w2 p (rdN' st 7) := (hr1.below ((Below.refl _ _).alloc (Nat.le_refl _) _)).own (b := w1.heap.size) hk2 (fun g hg => by have := hpl g hg; omega)
  have q2 := B2.out.cell (Edit.arr_head _).1
  have hA2 : RdP w2 p (edA st) := by rw [HA.out]; exact hr2
  replace hr2 := hA2
  clear hA2
  go_wp2_with (fail)
  refine (c_edit_has K _ _ K0 K7 (by decide)).mono ?_
  rintro e w3 ⟨rfl, hb3⟩
  have hz3 := hb3.size
  have kw3 : Kept p w.heap.size w w3 := kw2.then_below hb3 (by omega)
  have B3 := lh (B2.out.below hb3 B2.out.lt)
  have R3 := lh (R2.out.below hb3 R2.out.lt)
  have hr3 := hr2.below hb3
  clear q2
  have q3 := B3.out.cell (Edit.arr_head _).1
  go_wp2_with (fail)
  refine (c_octet_RNum p (edA st) 15 _ hr3).mono ?_
  rintro e w4 ⟨rfl, hr4, hk4⟩
  have hz4 := hk4.size
  have kw4 : Kept p w.heap.size w w4 := kw3.trans (hk4.mono (by omega))
  have B4 := lh (B3.out.kept hk4 (by omega) (ne_of_lt hpl (by omega)))
  have R4 := lh (R3.out.kept hk4 (by omega) (ne_of_lt hpl (by omega)))
  clear q3
  have q4 := B4.out.cell (Edit.arr_head _).1
  rw [← HG.out]
  have f4 := B4.out.frozen 2
  have u4 := B4.out.cell (Edit.arr_head _).2.2
  have B5 := lh (show Blk (w4.setCell ⟨w1.heap.size, 2, none⟩ (.int .i64 g)) w1.heap.size (Edit.arr ⟨K, 0, g, pz⟩) by have := B4.out.store 2 (.int .i64 g); rw [Edit.put2] at this; exact this)
  have R5 := lh (R4.out.far (q := ⟨w1.heap.size, 2, none⟩) (by simp; omega) (.int .i64 g))
  have kk5 : Kept (some w1.heap.size) w4.heap.size w4 (w4.setCell ⟨w1.heap.size, 2, none⟩ (.int .i64 g)) := (by repeat (first | exact Kept.refl _ _ _ | refine Kept.drew ?_ | refine Kept.alloc ?_ (by first | omega | (simp; done) | (simp; omega)) _ | refine Kept.setCell ?_ (by first | (right; rfl) | (left; first | omega | (simp; done) | (simp; omega))) _ | refine Kept.then_kept ?_ (by assumption) (by first | omega | (simp; done) | (simp; omega)) | refine Kept.then_below ?_ (by assumption) (by first | omega | (simp; done) | (simp; omega)) | refine Kept.low ?_ (by assumption)))
  have hr5 := hr4.own (b := w1.heap.size) kk5 (fun g hg => by have := hpl g hg; omega)
  have kw5 : Kept p w.heap.size w (w4.setCell ⟨w1.heap.size, 2, none⟩ (.int .i64 g)) := kw4.setCell (.inl (by simp; omega)) _
  clear q4 kk5
  have q5 := B5.out.cell (Edit.arr_head _).1
  go_wp2_with (fail)
  obtain ⟨w5, hw5⟩ : ∃ w5, w5 = (w4.setCell ⟨w1.heap.size, 2, none⟩ (.int .i64 g)) := ⟨_, rfl⟩
  have hz5 : w5.heap.size = w4.heap.size := by rw [hw5]; simp [World.setCell]
  rw [← hw5] at B5 R5 hr5 kw5 q5 ⊢
  clear hw5 f4 u4
  have hB5 : RdP w5 p (edB st) := by rw [HBq.out]; exact hr5
  replace hr5 := hB5
  clear hB5
  refine (c_edit_has K _ _ K0 K7 (by decide)).mono ?_
  rintro e w6 ⟨rfl, hb6⟩
  have hz6 := hb6.size
  have kw6 : Kept p w.heap.size w w6 := kw5.then_below hb6 (by omega)
  have B6 := lh (B5.out.below hb6 B5.out.lt)
  have R6 := lh (R5.out.below hb6 R5.out.lt)
  have hr6 := hr5.below hb6
  clear q5
  have q6 := B6.out.cell (Edit.arr_head _).1
  go_wp2_with (fail)
  refine (c_octet_RNum p (edB st) 1073741823 _ hr6).mono ?_
  rintro e w7 ⟨rfl, hr7, hk7⟩
  have hz7 := hk7.size
  have kw7 : Kept p w.heap.size w w7 := kw6.trans (hk7.mono (by omega))
  have B7 := lh (B6.out.kept hk7 (by omega) (ne_of_lt hpl (by omega)))
  have R7 := lh (R6.out.kept hk7 (by omega) (ne_of_lt hpl (by omega)))
  clear q6
  have q7 := B7.out.cell (Edit.arr_head _).1
  rw [← HI.out]
  have f7 := B7.out.frozen 1
  have u7 := B7.out.cell (Edit.arr_head _).2.1
  have B8 := lh (show Blk (w7.setCell ⟨w1.heap.size, 1, none⟩ (.int .i64 d)) w1.heap.size (Edit.arr ⟨K, d, g, pz⟩) by have := B7.out.store 1 (.int .i64 d); rw [Edit.put1] at this; exact this)
  have R8 := lh (R7.out.far (q := ⟨w1.heap.size, 1, none⟩) (by simp; omega) (.int .i64 d))
  have kk8 : Kept (some w1.heap.size) w7.heap.size w7 (w7.setCell ⟨w1.heap.size, 1, none⟩ (.int .i64 d)) := (by repeat (first | exact Kept.refl _ _ _ | refine Kept.drew ?_ | refine Kept.alloc ?_ (by first | omega | (simp; done) | (simp; omega)) _ | refine Kept.setCell ?_ (by first | (right; rfl) | (left; first | omega | (simp; done) | (simp; omega))) _ | refine Kept.then_kept ?_ (by assumption) (by first | omega | (simp; done) | (simp; omega)) | refine Kept.then_below ?_ (by assumption) (by first | omega | (simp; done) | (simp; omega)) | refine Kept.low ?_ (by assumption)))
  have hr8 := hr7.own (b := w1.heap.size) kk8 (fun g hg => by have := hpl g hg; omega)
  have kw8 : Kept p w.heap.size w (w7.setCell ⟨w1.heap.size, 1, none⟩ (.int .i64 d)) := kw7.setCell (.inl (by simp; omega)) _
  clear q7 kk8
  have q8 := B8.out.cell (Edit.arr_head _).1
  have v8 := B8.out.cell (Edit.arr_head _).2.1
  go_wp2_with (fail)
  obtain ⟨w8, hw8⟩ : ∃ w8, w8 = (w7.setCell ⟨w1.heap.size, 1, none⟩ (.int .i64 d)) := ⟨_, rfl⟩
  have hz8 : w8.heap.size = w7.heap.size := by rw [hw8]; simp [World.setCell]
  rw [← hw8] at B8 R8 hr8 kw8 q8 ⊢
  clear hw8 f7 u7
  clear v8
  refine (c_octet_Fail p (rdN' (edB st) 1073741823) 3 _ hr8).mono ?_
  rintro e w9 ⟨rfl, hr9, hk9⟩
  have hz9 := hk9.size
  have kw9 : Kept p w.heap.size w w9 := kw8.trans (hk9.mono (by omega))
  have B9 := lh (B8.out.kept hk9 (by omega) (ne_of_lt hpl (by omega)))
  have R9 := lh (R8.out.kept hk9 (by omega) (ne_of_lt hpl (by omega)))
  clear q8
  have q9 := B9.out.cell (Edit.arr_head _).1
  have hC9 : RdP w9 p (edC st) := by rw [HC.out]; exact hr9
  replace hr9 := hC9
  clear hC9
  go_wp2_with (fail)
  refine (c_edit_has K _ _ K0 K7 (by decide)).mono ?_
  rintro e w10 ⟨rfl, hb10⟩
  have hz10 := hb10.size
  have kw10 : Kept p w.heap.size w w10 := kw9.then_below hb10 (by omega)
  have B10 := lh (B9.out.below hb10 B9.out.lt)
  have R10 := lh (R9.out.below hb10 R9.out.lt)
  have hr10 := hr9.below hb10
  clear q9
  have q10 := B10.out.cell (Edit.arr_head _).1
  have hS10 : RdP w10 p S := by rw [HE.out]; exact hr10
  replace hr10 := hS10
  clear hS10
  go_wp2_with (fail)
  refine (c_octet_Err p S _ hr10).mono ?_
  rintro e w11 ⟨rfl, hr11, hk11⟩
  have hz11 := hk11.size
  have kw11 : Kept p w.heap.size w w11 := kw10.trans (hk11.mono (by omega))
  have B11 := lh (B10.out.kept hk11 (by omega) (ne_of_lt hpl (by omega)))
  have R11 := lh (R10.out.kept hk11 (by omega) (ne_of_lt hpl (by omega)))
  clear q10
  have q11 := B11.out.cell (Edit.arr_head _).1
  clear q11
  go_wp2_with (with_reducible refine stS 30 (.tmp 2) (.tmp 44) rfl rfl ?_)
  refine Stop.mk (wsB rfl _ _ _ rfl w.heap.size _ rfl rfl _ R11.out strE rfl rfl (by simp [Value.oneCell']) ?_)
  intro w99 hb99 hk99
  have B99 := lh (show Blk w99 w.heap.size ez.arr by rw [ez_cells]; exact hb99)
  clear hb99
  go_wp2_with (fail)
  exact bodyPost_ret (results_B rfl rfl B99.out strE (Edit.sizeE rfl)) rfl ⟨by rw [HV.out], hr11.own (b := w.heap.size) hk99 hpl, kw11.trans (hk99.one (by omega) (.inl (Nat.le_refl _)))⟩
set_option maxHeartbeats 4000000 in
set_option maxRecDepth 4000 in
theorem edit_Read_m (p : Option Nat) (st : Rd) (w : World) (hT : Tab w) (hr : RdP w p st) (hk : rdN st 7 ≠ 0) (hG : hasG (edK st) = true) (hI : hasI (edK st) = true) (hP : hasP (edK st) = false) (hd : rdN (edB st) 1073741823 ≠ 0) (he : (rdEdit' st).e ≠ 0) :
    Calls Tryd.prog 82 #[ptr p] w (RetP p (rdEdit' st) w (.agg (rdEdit st).arr)) := by
  have hpl := fun g (hg : p = some g) => hr.lt hg
  have ht := hr.tab hT
  obtain ⟨K0, K7⟩ := edK_bd st
  obtain ⟨K, hKe⟩ : ∃ K, K = edK st := ⟨_, rfl⟩
  obtain ⟨S, hS⟩ : ∃ S, S = rdEdit' st := ⟨_, rfl⟩
  obtain ⟨V, hV⟩ : ∃ V, V = rdEdit st := ⟨_, rfl⟩
  rw [← hKe] at K0 K7
  have HK := lh (show K = rdN st 7 from hKe)
  have HSe := lh hS
  have HA := lh (show edA st = rdN' st 7 from rdAb'_pos hk)
  have j0 : (K == 0) = false := by rw [hKe]; show (rdN st 7 == 0) = _; simpa using hk
  have j1 : hasW K 1 = true := by rw [hKe]; exact hG
  have j2 : hasW K 2 = true := by rw [hKe]; exact hI
  have j4 : hasW K 4 = false := by rw [hKe]; exact hP
  have je : (S.e != 0) = true := by rw [hS]; simpa using he
  obtain ⟨b1, b2⟩ := edB_yes hG
  have HBq := lh b1
  obtain ⟨g, hg⟩ : ∃ g, g = rdN (edA st) 15 := ⟨_, rfl⟩
  have HG := lh hg
  obtain ⟨c1, c2⟩ := edC_yes hI
  obtain ⟨d, hdd⟩ : ∃ d, d = rdN (edB st) 1073741823 := ⟨_, rfl⟩
  have HI := lh hdd
  have jd : (d == 0) = false := by rw [hdd]; simpa using hd
  have HC := lh (c1.trans (rdAb'_pos hd))
  obtain ⟨p1, p2⟩ := edP_no hP
  have HE := lh (show S = edC st by rw [hS, p1])
  have HV := lh (show V = ez by rw [hV, rdEdit_bad he])
  rw [← hS, ← hV]
  clear hKe hS hV hk hG hI hP he b1 b2 c1 c2 p1 p2 hg hdd hd
  go_enter Tryd.func82, Tryd.ntmps82
  go_wp2_with (fail)
  refine (c_octet_RNum p st 7 _ (hr.below ((Below.refl _ _).alloc (Nat.le_refl _) _))).mono ?_
  rintro e w1 ⟨rfl, hr1, hk1⟩
  rw [← HK.out]
  have hz1 := hk1.size
  simp only [World.size_alloc] at hz1
  have kw1 : Kept p w.heap.size w w1 := (by repeat (first | exact Kept.refl _ _ _ | refine Kept.drew ?_ | refine Kept.alloc ?_ (by first | omega | (simp; done) | (simp; omega)) _ | refine Kept.setCell ?_ (by first | (right; rfl) | (left; first | omega | (simp; done) | (simp; omega))) _ | refine Kept.then_kept ?_ (by assumption) (by first | omega | (simp; done) | (simp; omega)) | refine Kept.then_below ?_ (by assumption) (by first | omega | (simp; done) | (simp; omega)) | refine Kept.low ?_ (by assumption)))
  have R1 := lh ((Blk.new w _ _).kept hk1 (by simp) (ne_of_lt hpl (Nat.le_refl _)))
  go_wp2_with (with_reducible refine stS 30 (.tmp 3) (.tmp 6) rfl rfl ?_)
  refine Stop.mk (wsB rfl _ _ _ rfl w1.heap.size _ rfl rfl _ (Blk.new _ _ _) strE rfl rfl (by simp [Value.oneCell']) ?_)
  intro w2 hb2 hk2
  have B2 := lh (show Blk w2 w1.heap.size (Edit.arr ⟨K, 0, 0, pz⟩) by unfold Edit.arr; exact hb2)
  clear hb2
  have R2 := lh ((R1.out.alloc _).kept hk2 (by simp; omega) (by simp; omega))
  have hz2 := hk2.size
  simp only [World.size_alloc] at hz2
  have kw2 : Kept p w.heap.size w w2 := (kw1.alloc (by omega) _).trans (hk2.one (by simp; omega) (.inl (by omega)))
  have hr2 : RdP w2 p (rdN' st 7) := (hr1.below ((Below.refl _ _).alloc (Nat.le_refl _) _)).own (b := w1.heap.size) hk2 (fun g hg => by have := hpl g hg; omega)
  have q2 := B2.out.cell (Edit.arr_head _).1
  have hA2 : RdP w2 p (edA st) := by rw [HA.out]; exact hr2
  replace hr2 := hA2
  clear hA2
  go_wp2_with (fail)
  refine (c_edit_has K _ _ K0 K7 (by decide)).mono ?_
  rintro e w3 ⟨rfl, hb3⟩
  have hz3 := hb3.size
  have kw3 : Kept p w.heap.size w w3 := kw2.then_below hb3 (by omega)
  have B3 := lh (B2.out.below hb3 B2.out.lt)
  have R3 := lh (R2.out.below hb3 R2.out.lt)
  have hr3 := hr2.below hb3
  clear q2
  have q3 := B3.out.cell (Edit.arr_head _).1
  go_wp2_with (fail)
  refine (c_octet_RNum p (edA st) 15 _ hr3).mono ?_
  rintro e w4 ⟨rfl, hr4, hk4⟩
  have hz4 := hk4.size
  have kw4 : Kept p w.heap.size w w4 := kw3.trans (hk4.mono (by omega))
  have B4 := lh (B3.out.kept hk4 (by omega) (ne_of_lt hpl (by omega)))
  have R4 := lh (R3.out.kept hk4 (by omega) (ne_of_lt hpl (by omega)))
  clear q3
  have q4 := B4.out.cell (Edit.arr_head _).1
  rw [← HG.out]
  have f4 := B4.out.frozen 2
  have u4 := B4.out.cell (Edit.arr_head _).2.2
  have B5 := lh (show Blk (w4.setCell ⟨w1.heap.size, 2, none⟩ (.int .i64 g)) w1.heap.size (Edit.arr ⟨K, 0, g, pz⟩) by have := B4.out.store 2 (.int .i64 g); rw [Edit.put2] at this; exact this)
  have R5 := lh (R4.out.far (q := ⟨w1.heap.size, 2, none⟩) (by simp; omega) (.int .i64 g))
  have kk5 : Kept (some w1.heap.size) w4.heap.size w4 (w4.setCell ⟨w1.heap.size, 2, none⟩ (.int .i64 g)) := (by repeat (first | exact Kept.refl _ _ _ | refine Kept.drew ?_ | refine Kept.alloc ?_ (by first | omega | (simp; done) | (simp; omega)) _ | refine Kept.setCell ?_ (by first | (right; rfl) | (left; first | omega | (simp; done) | (simp; omega))) _ | refine Kept.then_kept ?_ (by assumption) (by first | omega | (simp; done) | (simp; omega)) | refine Kept.then_below ?_ (by assumption) (by first | omega | (simp; done) | (simp; omega)) | refine Kept.low ?_ (by assumption)))
  have hr5 := hr4.own (b := w1.heap.size) kk5 (fun g hg => by have := hpl g hg; omega)
  have kw5 : Kept p w.heap.size w (w4.setCell ⟨w1.heap.size, 2, none⟩ (.int .i64 g)) := kw4.setCell (.inl (by simp; omega)) _
  clear q4 kk5
  have q5 := B5.out.cell (Edit.arr_head _).1
  go_wp2_with (fail)
  obtain ⟨w5, hw5⟩ : ∃ w5, w5 = (w4.setCell ⟨w1.heap.size, 2, none⟩ (.int .i64 g)) := ⟨_, rfl⟩
  have hz5 : w5.heap.size = w4.heap.size := by rw [hw5]; simp [World.setCell]
  rw [← hw5] at B5 R5 hr5 kw5 q5 ⊢
  clear hw5 f4 u4
  have hB5 : RdP w5 p (edB st) := by rw [HBq.out]; exact hr5
  replace hr5 := hB5
  clear hB5
  refine (c_edit_has K _ _ K0 K7 (by decide)).mono ?_
  rintro e w6 ⟨rfl, hb6⟩
  have hz6 := hb6.size
  have kw6 : Kept p w.heap.size w w6 := kw5.then_below hb6 (by omega)
  have B6 := lh (B5.out.below hb6 B5.out.lt)
  have R6 := lh (R5.out.below hb6 R5.out.lt)
  have hr6 := hr5.below hb6
  clear q5
  have q6 := B6.out.cell (Edit.arr_head _).1
  go_wp2_with (fail)
  refine (c_octet_RNum p (edB st) 1073741823 _ hr6).mono ?_
  rintro e w7 ⟨rfl, hr7, hk7⟩
  have hz7 := hk7.size
  have kw7 : Kept p w.heap.size w w7 := kw6.trans (hk7.mono (by omega))
  have B7 := lh (B6.out.kept hk7 (by omega) (ne_of_lt hpl (by omega)))
  have R7 := lh (R6.out.kept hk7 (by omega) (ne_of_lt hpl (by omega)))
  clear q6
  have q7 := B7.out.cell (Edit.arr_head _).1
  rw [← HI.out]
  have f7 := B7.out.frozen 1
  have u7 := B7.out.cell (Edit.arr_head _).2.1
  have B8 := lh (show Blk (w7.setCell ⟨w1.heap.size, 1, none⟩ (.int .i64 d)) w1.heap.size (Edit.arr ⟨K, d, g, pz⟩) by have := B7.out.store 1 (.int .i64 d); rw [Edit.put1] at this; exact this)
  have R8 := lh (R7.out.far (q := ⟨w1.heap.size, 1, none⟩) (by simp; omega) (.int .i64 d))
  have kk8 : Kept (some w1.heap.size) w7.heap.size w7 (w7.setCell ⟨w1.heap.size, 1, none⟩ (.int .i64 d)) := (by repeat (first | exact Kept.refl _ _ _ | refine Kept.drew ?_ | refine Kept.alloc ?_ (by first | omega | (simp; done) | (simp; omega)) _ | refine Kept.setCell ?_ (by first | (right; rfl) | (left; first | omega | (simp; done) | (simp; omega))) _ | refine Kept.then_kept ?_ (by assumption) (by first | omega | (simp; done) | (simp; omega)) | refine Kept.then_below ?_ (by assumption) (by first | omega | (simp; done) | (simp; omega)) | refine Kept.low ?_ (by assumption)))
  have hr8 := hr7.own (b := w1.heap.size) kk8 (fun g hg => by have := hpl g hg; omega)
  have kw8 : Kept p w.heap.size w (w7.setCell ⟨w1.heap.size, 1, none⟩ (.int .i64 d)) := kw7.setCell (.inl (by simp; omega)) _
  clear q7 kk8
  have q8 := B8.out.cell (Edit.arr_head _).1
  have v8 := B8.out.cell (Edit.arr_head _).2.1
  go_wp2_with (fail)
  obtain ⟨w8, hw8⟩ : ∃ w8, w8 = (w7.setCell ⟨w1.heap.size, 1, none⟩ (.int .i64 d)) := ⟨_, rfl⟩
  have hz8 : w8.heap.size = w7.heap.size := by rw [hw8]; simp [World.setCell]
  rw [← hw8] at B8 R8 hr8 kw8 q8 ⊢
  clear hw8 f7 u7
  clear v8
  have hC8 : RdP w8 p (edC st) := by rw [HC.out]; exact hr8
  replace hr8 := hC8
  clear hC8
  refine (c_edit_has K _ _ K0 K7 (by decide)).mono ?_
  rintro e w9 ⟨rfl, hb9⟩
  have hz9 := hb9.size
  have kw9 : Kept p w.heap.size w w9 := kw8.then_below hb9 (by omega)
  have B9 := lh (B8.out.below hb9 B8.out.lt)
  have R9 := lh (R8.out.below hb9 R8.out.lt)
  have hr9 := hr8.below hb9
  clear q8
  have q9 := B9.out.cell (Edit.arr_head _).1
  have hS9 : RdP w9 p S := by rw [HE.out]; exact hr9
  replace hr9 := hS9
  clear hS9
  go_wp2_with (fail)
  refine (c_octet_Err p S _ hr9).mono ?_
  rintro e w10 ⟨rfl, hr10, hk10⟩
  have hz10 := hk10.size
  have kw10 : Kept p w.heap.size w w10 := kw9.trans (hk10.mono (by omega))
  have B10 := lh (B9.out.kept hk10 (by omega) (ne_of_lt hpl (by omega)))
  have R10 := lh (R9.out.kept hk10 (by omega) (ne_of_lt hpl (by omega)))
  clear q9
  have q10 := B10.out.cell (Edit.arr_head _).1
  clear q10
  go_wp2_with (with_reducible refine stS 30 (.tmp 2) (.tmp 44) rfl rfl ?_)
  refine Stop.mk (wsB rfl _ _ _ rfl w.heap.size _ rfl rfl _ R10.out strE rfl rfl (by simp [Value.oneCell']) ?_)
  intro w99 hb99 hk99
  have B99 := lh (show Blk w99 w.heap.size ez.arr by rw [ez_cells]; exact hb99)
  clear hb99
  go_wp2_with (fail)
  exact bodyPost_ret (results_B rfl rfl B99.out strE (Edit.sizeE rfl)) rfl ⟨by rw [HV.out], hr10.own (b := w.heap.size) hk99 hpl, kw10.trans (hk99.one (by omega) (.inl (Nat.le_refl _)))⟩
set_option maxHeartbeats 4000000 in
set_option maxRecDepth 4000 in
theorem edit_Read_n (p : Option Nat) (st : Rd) (w : World) (hT : Tab w) (hr : RdP w p st) (hk : rdN st 7 ≠ 0) (hG : hasG (edK st) = true) (hI : hasI (edK st) = true) (hP : hasP (edK st) = false) (hd : rdN (edB st) 1073741823 ≠ 0) (he : (rdEdit' st).e = 0) :
    Calls Tryd.prog 82 #[ptr p] w (RetP p (rdEdit' st) w (.agg (rdEdit st).arr)) := by
  have hpl := fun g (hg : p = some g) => hr.lt hg
  have ht := hr.tab hT
  obtain ⟨K0, K7⟩ := edK_bd st
  obtain ⟨K, hKe⟩ : ∃ K, K = edK st := ⟨_, rfl⟩
  obtain ⟨S, hS⟩ : ∃ S, S = rdEdit' st := ⟨_, rfl⟩
  obtain ⟨V, hV⟩ : ∃ V, V = rdEdit st := ⟨_, rfl⟩
  rw [← hKe] at K0 K7
  have HK := lh (show K = rdN st 7 from hKe)
  have HSe := lh hS
  have HA := lh (show edA st = rdN' st 7 from rdAb'_pos hk)
  have j0 : (K == 0) = false := by rw [hKe]; show (rdN st 7 == 0) = _; simpa using hk
  have j1 : hasW K 1 = true := by rw [hKe]; exact hG
  have j2 : hasW K 2 = true := by rw [hKe]; exact hI
  have j4 : hasW K 4 = false := by rw [hKe]; exact hP
  have je : (S.e != 0) = false := by rw [hS]; simpa using he
  obtain ⟨b1, b2⟩ := edB_yes hG
  have HBq := lh b1
  obtain ⟨g, hg⟩ : ∃ g, g = rdN (edA st) 15 := ⟨_, rfl⟩
  have HG := lh hg
  obtain ⟨c1, c2⟩ := edC_yes hI
  obtain ⟨d, hdd⟩ : ∃ d, d = rdN (edB st) 1073741823 := ⟨_, rfl⟩
  have HI := lh hdd
  have jd : (d == 0) = false := by rw [hdd]; simpa using hd
  have HC := lh (c1.trans (rdAb'_pos hd))
  obtain ⟨p1, p2⟩ := edP_no hP
  have HE := lh (show S = edC st by rw [hS, p1])
  have HV := lh (show V = ⟨K, d, g, pz⟩ by rw [hV, rdEdit_ok he]; unfold edEdit; rw [b2, c2, p2, hKe, hg, hdd])
  rw [← hS, ← hV]
  clear hKe hS hV hk hG hI hP he b1 b2 c1 c2 p1 p2 hg hdd hd
  go_enter Tryd.func82, Tryd.ntmps82
  go_wp2_with (fail)
  refine (c_octet_RNum p st 7 _ (hr.below ((Below.refl _ _).alloc (Nat.le_refl _) _))).mono ?_
  rintro e w1 ⟨rfl, hr1, hk1⟩
  rw [← HK.out]
  have hz1 := hk1.size
  simp only [World.size_alloc] at hz1
  have kw1 : Kept p w.heap.size w w1 := (by repeat (first | exact Kept.refl _ _ _ | refine Kept.drew ?_ | refine Kept.alloc ?_ (by first | omega | (simp; done) | (simp; omega)) _ | refine Kept.setCell ?_ (by first | (right; rfl) | (left; first | omega | (simp; done) | (simp; omega))) _ | refine Kept.then_kept ?_ (by assumption) (by first | omega | (simp; done) | (simp; omega)) | refine Kept.then_below ?_ (by assumption) (by first | omega | (simp; done) | (simp; omega)) | refine Kept.low ?_ (by assumption)))
  have R1 := lh ((Blk.new w _ _).kept hk1 (by simp) (ne_of_lt hpl (Nat.le_refl _)))
  go_wp2_with (with_reducible refine stS 30 (.tmp 3) (.tmp 6) rfl rfl ?_)
  refine Stop.mk (wsB rfl _ _ _ rfl w1.heap.size _ rfl rfl _ (Blk.new _ _ _) strE rfl rfl (by simp [Value.oneCell']) ?_)
  intro w2 hb2 hk2
  have B2 := lh (show Blk w2 w1.heap.size (Edit.arr ⟨K, 0, 0, pz⟩) by unfold Edit.arr; exact hb2)
  clear hb2
  have R2 := lh ((R1.out.alloc _).kept hk2 (by simp; omega) (by simp; omega))
  have hz2 := hk2.size
  simp only [World.size_alloc] at hz2
  have kw2 : Kept p w.heap.size w w2 := (kw1.alloc (by omega) _).trans (hk2.one (by simp; omega) (.inl (by omega)))
  have hr2 : RdP w2 p (rdN' st 7) := (hr1.below ((Below.refl _ _).alloc (Nat.le_refl _) _)).own (b := w1.heap.size) hk2 (fun g hg => by have := hpl g hg; omega)
  have q2 := B2.out.cell (Edit.arr_head _).1
  have hA2 : RdP w2 p (edA st) := by rw [HA.out]; exact hr2
  replace hr2 := hA2
  clear hA2
  go_wp2_with (fail)
  refine (c_edit_has K _ _ K0 K7 (by decide)).mono ?_
  rintro e w3 ⟨rfl, hb3⟩
  have hz3 := hb3.size
  have kw3 : Kept p w.heap.size w w3 := kw2.then_below hb3 (by omega)
  have B3 := lh (B2.out.below hb3 B2.out.lt)
  have R3 := lh (R2.out.below hb3 R2.out.lt)
  have hr3 := hr2.below hb3
  clear q2
  have q3 := B3.out.cell (Edit.arr_head _).1
  go_wp2_with (fail)
  refine (c_octet_RNum p (edA st) 15 _ hr3).mono ?_
  rintro e w4 ⟨rfl, hr4, hk4⟩
  have hz4 := hk4.size
  have kw4 : Kept p w.heap.size w w4 := kw3.trans (hk4.mono (by omega))
  have B4 := lh (B3.out.kept hk4 (by omega) (ne_of_lt hpl (by omega)))
  have R4 := lh (R3.out.kept hk4 (by omega) (ne_of_lt hpl (by omega)))
  clear q3
  have q4 := B4.out.cell (Edit.arr_head _).1
  rw [← HG.out]
  have f4 := B4.out.frozen 2
  have u4 := B4.out.cell (Edit.arr_head _).2.2
  have B5 := lh (show Blk (w4.setCell ⟨w1.heap.size, 2, none⟩ (.int .i64 g)) w1.heap.size (Edit.arr ⟨K, 0, g, pz⟩) by have := B4.out.store 2 (.int .i64 g); rw [Edit.put2] at this; exact this)
  have R5 := lh (R4.out.far (q := ⟨w1.heap.size, 2, none⟩) (by simp; omega) (.int .i64 g))
  have kk5 : Kept (some w1.heap.size) w4.heap.size w4 (w4.setCell ⟨w1.heap.size, 2, none⟩ (.int .i64 g)) := (by repeat (first | exact Kept.refl _ _ _ | refine Kept.drew ?_ | refine Kept.alloc ?_ (by first | omega | (simp; done) | (simp; omega)) _ | refine Kept.setCell ?_ (by first | (right; rfl) | (left; first | omega | (simp; done) | (simp; omega))) _ | refine Kept.then_kept ?_ (by assumption) (by first | omega | (simp; done) | (simp; omega)) | refine Kept.then_below ?_ (by assumption) (by first | omega | (simp; done) | (simp; omega)) | refine Kept.low ?_ (by assumption)))
  have hr5 := hr4.own (b := w1.heap.size) kk5 (fun g hg => by have := hpl g hg; omega)
  have kw5 : Kept p w.heap.size w (w4.setCell ⟨w1.heap.size, 2, none⟩ (.int .i64 g)) := kw4.setCell (.inl (by simp; omega)) _
  clear q4 kk5
  have q5 := B5.out.cell (Edit.arr_head _).1
  go_wp2_with (fail)
  obtain ⟨w5, hw5⟩ : ∃ w5, w5 = (w4.setCell ⟨w1.heap.size, 2, none⟩ (.int .i64 g)) := ⟨_, rfl⟩
  have hz5 : w5.heap.size = w4.heap.size := by rw [hw5]; simp [World.setCell]
  rw [← hw5] at B5 R5 hr5 kw5 q5 ⊢
  clear hw5 f4 u4
  have hB5 : RdP w5 p (edB st) := by rw [HBq.out]; exact hr5
  replace hr5 := hB5
  clear hB5
  refine (c_edit_has K _ _ K0 K7 (by decide)).mono ?_
  rintro e w6 ⟨rfl, hb6⟩
  have hz6 := hb6.size
  have kw6 : Kept p w.heap.size w w6 := kw5.then_below hb6 (by omega)
  have B6 := lh (B5.out.below hb6 B5.out.lt)
  have R6 := lh (R5.out.below hb6 R5.out.lt)
  have hr6 := hr5.below hb6
  clear q5
  have q6 := B6.out.cell (Edit.arr_head _).1
  go_wp2_with (fail)
  refine (c_octet_RNum p (edB st) 1073741823 _ hr6).mono ?_
  rintro e w7 ⟨rfl, hr7, hk7⟩
  have hz7 := hk7.size
  have kw7 : Kept p w.heap.size w w7 := kw6.trans (hk7.mono (by omega))
  have B7 := lh (B6.out.kept hk7 (by omega) (ne_of_lt hpl (by omega)))
  have R7 := lh (R6.out.kept hk7 (by omega) (ne_of_lt hpl (by omega)))
  clear q6
  have q7 := B7.out.cell (Edit.arr_head _).1
  rw [← HI.out]
  have f7 := B7.out.frozen 1
  have u7 := B7.out.cell (Edit.arr_head _).2.1
  have B8 := lh (show Blk (w7.setCell ⟨w1.heap.size, 1, none⟩ (.int .i64 d)) w1.heap.size (Edit.arr ⟨K, d, g, pz⟩) by have := B7.out.store 1 (.int .i64 d); rw [Edit.put1] at this; exact this)
  have R8 := lh (R7.out.far (q := ⟨w1.heap.size, 1, none⟩) (by simp; omega) (.int .i64 d))
  have kk8 : Kept (some w1.heap.size) w7.heap.size w7 (w7.setCell ⟨w1.heap.size, 1, none⟩ (.int .i64 d)) := (by repeat (first | exact Kept.refl _ _ _ | refine Kept.drew ?_ | refine Kept.alloc ?_ (by first | omega | (simp; done) | (simp; omega)) _ | refine Kept.setCell ?_ (by first | (right; rfl) | (left; first | omega | (simp; done) | (simp; omega))) _ | refine Kept.then_kept ?_ (by assumption) (by first | omega | (simp; done) | (simp; omega)) | refine Kept.then_below ?_ (by assumption) (by first | omega | (simp; done) | (simp; omega)) | refine Kept.low ?_ (by assumption)))
  have hr8 := hr7.own (b := w1.heap.size) kk8 (fun g hg => by have := hpl g hg; omega)
  have kw8 : Kept p w.heap.size w (w7.setCell ⟨w1.heap.size, 1, none⟩ (.int .i64 d)) := kw7.setCell (.inl (by simp; omega)) _
  clear q7 kk8
  have q8 := B8.out.cell (Edit.arr_head _).1
  have v8 := B8.out.cell (Edit.arr_head _).2.1
  go_wp2_with (fail)
  obtain ⟨w8, hw8⟩ : ∃ w8, w8 = (w7.setCell ⟨w1.heap.size, 1, none⟩ (.int .i64 d)) := ⟨_, rfl⟩
  have hz8 : w8.heap.size = w7.heap.size := by rw [hw8]; simp [World.setCell]
  rw [← hw8] at B8 R8 hr8 kw8 q8 ⊢
  clear hw8 f7 u7
  clear v8
  have hC8 : RdP w8 p (edC st) := by rw [HC.out]; exact hr8
  replace hr8 := hC8
  clear hC8
  refine (c_edit_has K _ _ K0 K7 (by decide)).mono ?_
  rintro e w9 ⟨rfl, hb9⟩
  have hz9 := hb9.size
  have kw9 : Kept p w.heap.size w w9 := kw8.then_below hb9 (by omega)
  have B9 := lh (B8.out.below hb9 B8.out.lt)
  have R9 := lh (R8.out.below hb9 R8.out.lt)
  have hr9 := hr8.below hb9
  clear q8
  have q9 := B9.out.cell (Edit.arr_head _).1
  have hS9 : RdP w9 p S := by rw [HE.out]; exact hr9
  replace hr9 := hS9
  clear hS9
  go_wp2_with (fail)
  refine (c_octet_Err p S _ hr9).mono ?_
  rintro e w10 ⟨rfl, hr10, hk10⟩
  have hz10 := hk10.size
  have kw10 : Kept p w.heap.size w w10 := kw9.trans (hk10.mono (by omega))
  have B10 := lh (B9.out.kept hk10 (by omega) (ne_of_lt hpl (by omega)))
  have R10 := lh (R9.out.kept hk10 (by omega) (ne_of_lt hpl (by omega)))
  clear q9
  have q10 := B10.out.cell (Edit.arr_head _).1
  clear q10
  go_wp2_with (with_reducible refine stop_load 30 (.tmp 3) rfl rfl ?_)
  refine Stop.mk (wpList_loadB rfl _ _ rfl w1.heap.size rfl _ B10.out strE (Edit.sizeE rfl) ?_)
  go_wp2_with (with_reducible refine stS 30 (.tmp 2) (.tmp 45) rfl rfl ?_)
  refine Stop.mk (wsB rfl _ _ _ rfl w.heap.size _ rfl rfl _ R10.out strE (Edit.sizeE rfl) (by rw [Edit.sizeE rfl]; rfl) (Edit.arr_ones _) ?_)
  intro w99 hb99 hk99
  have B99 := lh hb99
  clear hb99
  go_wp2_with (fail)
  exact bodyPost_ret (results_B rfl rfl B99.out strE (Edit.sizeE rfl)) rfl ⟨by rw [HV.out], hr10.own (b := w.heap.size) hk99 hpl, kw10.trans (hk99.one (by omega) (.inl (Nat.le_refl _)))⟩
end Go.Proofs.YtiedkcijjfmhaaaDoor
/-! W19k -/
namespace Go.Proofs.YtiedkcijjfmhaaaDoor
open Go.RowKit

theorem edC_zero {st : Rd} (hI : hasI (edK st) = true) (h : rdN (edB st) 1073741823 = 0) : (rdEdit' st).e ≠ 0 := by
  have h1 : (edC st).e ≠ 0 := by rw [(edC_yes hI).1, rdAb'_zero h]; exact rdF_bad _ (by decide)
  rw [rdEdit'_eq]
  split
  · rw [(rdPatch_err h1).2]; exact h1
  · exact h1
theorem edA_zero {st : Rd} (h : rdN st 7 = 0) : hasG (edK st) = false ∧ hasI (edK st) = false ∧ hasP (edK st) = false ∧ (rdEdit' st).e ≠ 0 := by
  have h0 : edK st = 0 := h
  have h1 : hasG (edK st) = false := by rw [h0]; decide
  have h2 : hasI (edK st) = false := by rw [h0]; decide
  have h3 : hasP (edK st) = false := by rw [h0]; decide
  refine ⟨h1, h2, h3, ?_⟩
  rw [(edP_no h3).1, (edC_no h2).1, (edB_no h1).1]
  show (rdAb' st 7).e ≠ 0
  rw [rdAb'_zero h]
  exact rdF_bad _ (by decide)
theorem c_edit_Read (p : Option Nat) (st : Rd) (w : World) (hT : Tab w) (hr : RdP w p st) : Calls Tryd.prog 82 #[ptr p] w (RetP p (rdEdit' st) w (.agg (rdEdit st).arr)) := by
  by_cases hk : rdN st 7 = 0
  · obtain ⟨h1, h2, h3, h4⟩ := edA_zero hk
    exact edit_Read_a p st w hT hr hk h1 h2 h3 h4
  · have hb := edK_bd st
    have hk1 : 1 ≤ edK st := by have : edK st ≠ 0 := hk; omega
    rcases kinds_has hk1 hb.2 with ⟨h1, h2, h3⟩ | ⟨h1, h2, h3⟩ | ⟨h1, h2, h3⟩ | ⟨h1, h2, h3⟩ | ⟨h1, h2, h3⟩
    · by_cases he : (rdEdit' st).e = 0
      · exact edit_Read_c p st w hT hr hk h1 h2 h3 he
      · exact edit_Read_b p st w hT hr hk h1 h2 h3 he
    · by_cases hd : rdN (edB st) 1073741823 = 0
      · exact edit_Read_d p st w hT hr hk h1 h2 h3 hd (edC_zero h2 hd)
      · by_cases he : (rdEdit' st).e = 0
        · exact edit_Read_f p st w hT hr hk h1 h2 h3 hd he
        · exact edit_Read_e p st w hT hr hk h1 h2 h3 hd he
    · by_cases hd : rdN (edB st) 1073741823 = 0
      · exact edit_Read_g p st w hT hr hk h1 h2 h3 hd (edC_zero h2 hd)
      · by_cases he : (rdEdit' st).e = 0
        · exact edit_Read_i p st w hT hr hk h1 h2 h3 hd he
        · exact edit_Read_h p st w hT hr hk h1 h2 h3 hd he
    · by_cases he : (rdEdit' st).e = 0
      · exact edit_Read_k p st w hT hr hk h1 h2 h3 he
      · exact edit_Read_j p st w hT hr hk h1 h2 h3 he
    · by_cases hd : rdN (edB st) 1073741823 = 0
      · exact edit_Read_l p st w hT hr hk h1 h2 h3 hd (edC_zero h2 hd)
      · by_cases he : (rdEdit' st).e = 0
        · exact edit_Read_n p st w hT hr hk h1 h2 h3 hd he
        · exact edit_Read_m p st w hT hr hk h1 h2 h3 hd he
end Go.Proofs.YtiedkcijjfmhaaaDoor
/-! W19i -/
namespace Go.Proofs.YtiedkcijjfmhaaaDoor
open Go.RowKit

end Go.Proofs.YtiedkcijjfmhaaaDoor
/-! W19j -/
namespace Go.Proofs.YtiedkcijjfmhaaaDoor
open Go.RowKit

end Go.Proofs.YtiedkcijjfmhaaaDoor
