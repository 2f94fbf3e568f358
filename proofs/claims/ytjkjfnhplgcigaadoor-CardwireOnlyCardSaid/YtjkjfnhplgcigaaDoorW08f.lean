/-
  The walk of the statement CardwirePuts: it answers true, whatever the card, the patch and the bytes ahead.
-/
import Derived.Test.YtjkjfnhplgcigaaDoorW08d
import Derived.Test.YtjkjfnhplgcigaaDoorW08e
import Derived.Test.YtjkjfnhplgcigaaDoorRel
namespace Go.Proofs.YtjkjfnhplgcigaaDoor
open Go.RowKit

def awakeC : Card := ⟨1, 2, 1, [vz, ⟨1, 7, []⟩, vz, vz, vz, vz, vz, vz]⟩
theorem awakeC_arr : awakeC.arr = #[.int .i64 1, .int .i64 2, .int .u32 1, .int .i64 0, .int .i64 0, .string (str []), .int .i64 1, .int .i64 7, .string (str []), .int .i64 0, .int .i64 0, .string (str []), .int .i64 0, .int .i64 0, .string (str []), .int .i64 0, .int .i64 0, .string (str []), .int .i64 0, .int .i64 0, .string (str []), .int .i64 0, .int .i64 0, .string (str []), .int .i64 0, .int .i64 0, .string (str [])] := by unfold Card.arr; rfl
theorem awakeC_put : cardB awakeC = [1, 2, 1, 2, 1, 7] := by decide +kernel
set_option maxHeartbeats 1000000 in
set_option maxRecDepth 100000 in
theorem c_law08_awake (w : World) : Calls Tryd.prog 20 #[] w (RetV w (.bool true)) := by
  go_enter Tryd.func20, Tryd.ntmps20
  go_wp2_with (with_reducible refine stop_store 40 (.tmp 1) (.tmp 2) rfl rfl ?_)
  refine Stop.mk (wpList_storeB rfl _ _ _ rfl w.heap.size _ rfl rfl _ (Blk.new _ _ _) strC rfl rfl (by simp [Value.oneCell']) ?_)
  intro w1 hb1 hk1
  have b1 : Below w.heap.size w w1 := ((Below.refl _ _).alloc (Nat.le_refl _) _).trans (hk1.oneB (by simp) (Nat.le_refl _))
  have c6 := hb1.cell (i := 6) rfl
  have c7 := hb1.cell (i := 7) rfl
  have c8 := hb1.cell (i := 8) rfl
  have fz := hb1.frozen
  have H1 := Lib.hid hb1
  clear hb1 hk1
  go_wp2_with (with_reducible refine stop_load 40 (.tmp 1) rfl rfl ?_)
  have B3 := Lib.hid (show Blk (((w1.setCell ⟨w.heap.size, 6, none⟩ (.int .i64 1)).setCell ⟨w.heap.size, 7, none⟩ (.int .i64 7)).setCell ⟨w.heap.size, 8, none⟩ (.string (str []))) w.heap.size awakeC.arr by
    rw [awakeC_arr]; exact ((H1.out.store 6 (.int .i64 1)).store 7 (.int .i64 7)).store 8 (.string (str [])))
  refine Stop.mk (wpList_loadB rfl _ _ rfl w.heap.size rfl awakeC.arr B3.out strC (by rw [awakeC_arr]; rfl) ?_)
  have b4 : Below w.heap.size w (((w1.setCell ⟨w.heap.size, 6, none⟩ (.int .i64 1)).setCell ⟨w.heap.size, 7, none⟩ (.int .i64 7)).setCell ⟨w.heap.size, 8, none⟩ (.string (str []))) := ((b1.setCell (Nat.le_refl _) _).setCell (Nat.le_refl _) _).setCell (Nat.le_refl _) _
  go_wp2_with (go_at_call 23; fail)
  refine (c_cardwire_PutCard [] none 0 awakeC _ (In.nil (by omega)) (by simp) rfl (by decide)).mono ?_
  rintro e w5 ⟨v5, rfl, own5, hb5⟩
  rw [List.nil_append, awakeC_put] at own5
  obtain ⟨A2, c2, rfl, in2⟩ := In.of_own bc_len own5 (by simp)
  have kc : (convert 30 9 (.slice A2 6 c2)).run Tryd.prog w5 = .ok (.string (str [1, 2, 1, 2, 1, 7])) w5 := conv_str w5 Tryd.underlying30 Tryd.underlying5 Tryd.underlying9 in2
  clear own5 in2
  go_wp2_with (fail)
  go_ret
  exact RetV.bool rfl (b4.trans (hb5.mono b4.size))
/-- Where nothing is looked at. -/
theorem Blk.part {c : Card} {w : World} {g : Nat} (h : Blk w g c.arr) : ∀ (j : Nat) u, (farr c.f)[j]? = some u → w.cell? ⟨g, 3 + j, none⟩ = some u := Card.part h
set_option maxHeartbeats 1000000 in
set_option maxRecDepth 4000 in
theorem law08_Puts_long (c : Card) (p : Patch) (B : Option Addr) (nb cb : Nat) (w : World) (hc : c.f.length = 8) (hp : p.f.length = 8) (_hnb : nb ≤ cb) (_hcb : cb ≤ 9223372036854775807) (h : longF c.f = true ∨ longF p.f = true ∨ 500 < nb) :
    Calls Tryd.prog 4 #[.agg c.arr, .agg p.arr, .slice B nb cb] w (RetV w (.bool true)) := by
  have HC := Lib.hid hc
  have HP := Lib.hid hp
  clear hc hp
  cases h1 : longF c.f
  case true =>
    go_enter Tryd.func4, Tryd.ntmps4
    go_wp2_with (with_reducible refine stop_load 25 (.tmp 8) rfl rfl ?_)
    refine Stop.mk (wpList_loadAt rfl _ _ rfl w.heap.size 3 rfl (farr c.f) (Card.part ((Blk.new w _ _).below ((Below.refl _ _).alloc (Nat.le_refl _) _) (by simp))) strF (by rw [farr_size, HC.out]) ?_)
    go_wp2_with (first
      | (go_at_call 20; refine (c_law08_awake _).mono ?_; rintro e w4 ⟨rfl, hb4⟩)
      | (go_at_call 12; refine (c_Large c.f _ HC.out).mono ?_; rintro e w1 ⟨rfl, hb1⟩; have hb1' : Below w.heap.size w w1 := (((Below.refl _ _).alloc (Nat.le_refl _) _).alloc (by simp) _).trans (hb1.mono (by simp; omega))))
    go_ret
    exact RetV.bool rfl (hb1'.trans (hb4.mono hb1'.size))
  case false =>
    rw [h1] at h
    have h' := h.resolve_left (by simp)
    clear h
    cases h2 : longF p.f
    case true =>
      clear h'
      go_enter Tryd.func4, Tryd.ntmps4
      go_wp2_with (with_reducible refine stop_load 25 (.tmp 8) rfl rfl ?_)
      refine Stop.mk (wpList_loadAt rfl _ _ rfl w.heap.size 3 rfl (farr c.f) (Card.part ((Blk.new w _ _).below ((Below.refl _ _).alloc (Nat.le_refl _) _) (by simp))) strF (by rw [farr_size, HC.out]) ?_)
      go_wp2_with (first
        | (with_reducible refine stop_loadG 25 (.tmp 12) rfl ?_)
        | (go_at_call 12; refine (c_Large c.f _ HC.out).mono ?_; rintro e w1 ⟨rfl, hb1⟩; have hb1' : Below w.heap.size w w1 := (((Below.refl _ _).alloc (Nat.le_refl _) _).alloc (by simp) _).trans (hb1.mono (by simp; omega)); have BP := Lib.hid ((Blk.new (w.alloc (.cells c.arr 40)) 27 p.arr).below hb1 (by simp))))
      refine Stop.mk (wpList_loadAtG (by rfl) _ _ rfl (w.heap.size + 1) 2 rfl (farr p.f) (Patch.part (by simpa using BP.out)) strF (by rw [farr_size, HP.out]) ?_)
      go_wp2_with (first
        | (go_at_call 20; refine (c_law08_awake _).mono ?_; rintro e w4 ⟨rfl, hb4⟩)
        | (go_at_call 12; refine (c_Large p.f _ HP.out).mono ?_; rintro e w2 ⟨rfl, hb2⟩))
      go_ret
      exact RetV.bool rfl ((hb1'.trans (hb2.mono hb1'.size)).trans (hb4.mono (by have := hb1'.size; have := hb2.size; omega)))
    case false =>
      rw [h2] at h'
      have h5 := h'.resolve_left (by simp)
      clear h'
      go_enter Tryd.func4, Tryd.ntmps4
      go_wp2_with (with_reducible refine stop_load 25 (.tmp 8) rfl rfl ?_)
      refine Stop.mk (wpList_loadAt rfl _ _ rfl w.heap.size 3 rfl (farr c.f) (Card.part ((Blk.new w _ _).below ((Below.refl _ _).alloc (Nat.le_refl _) _) (by simp))) strF (by rw [farr_size, HC.out]) ?_)
      go_wp2_with (first
        | (with_reducible refine stop_loadG 25 (.tmp 12) rfl ?_)
        | (go_at_call 12; refine (c_Large c.f _ HC.out).mono ?_; rintro e w1 ⟨rfl, hb1⟩; have hb1' : Below w.heap.size w w1 := (((Below.refl _ _).alloc (Nat.le_refl _) _).alloc (by simp) _).trans (hb1.mono (by simp; omega)); have BP := Lib.hid ((Blk.new (w.alloc (.cells c.arr 40)) 27 p.arr).below hb1 (by simp))))
      refine Stop.mk (wpList_loadAtG (by rfl) _ _ rfl (w.heap.size + 1) 2 rfl (farr p.f) (Patch.part (by simpa using BP.out)) strF (by rw [farr_size, HP.out]) ?_)
      go_wp2_with (first
        | (go_at_call 20; refine (c_law08_awake _).mono ?_; rintro e w4 ⟨rfl, hb4⟩)
        | (go_at_call 12; refine (c_Large p.f _ HP.out).mono ?_; rintro e w2 ⟨rfl, hb2⟩))
      go_ret
      exact RetV.bool rfl ((hb1'.trans (hb2.mono hb1'.size)).trans (hb4.mono (by have := hb1'.size; have := hb2.size; omega)))
set_option maxHeartbeats 8000000 in
set_option maxRecDepth 4000 in
theorem c_law08_CardwirePuts (c : Card) (p : Patch) (B : Option Addr) (nb cb : Nat) (w : World) (hc : c.f.length = 8) (hp : p.f.length = 8) (hm : p.mask < 4294967296) (hT : Tab w)
    (hnb : nb ≤ cb) (hcb : cb ≤ 9223372036854775807) (hb : nb ≤ 500 → ∃ b, b.length = nb ∧ InB w B cb b) :
    Calls Tryd.prog 4 #[.agg c.arr, .agg p.arr, .slice B nb cb] w (RetV w (.bool true)) := by
  by_cases hlong : longF c.f = true ∨ longF p.f = true ∨ 500 < nb
  · exact law08_Puts_long c p B nb cb w hc hp hnb hcb hlong
  have h1 : longF c.f = false := by cases h : longF c.f <;> simp_all
  have h2 : longF p.f = false := by cases h : longF p.f <;> simp_all
  obtain ⟨b, rfl, hib⟩ := hb (by omega)
  have hbl : b.length ≤ 500 := by omega
  have hs : ∀ x ∈ c.f, x.s.length ≤ 4294967000 := fun x hx => by have := List.any_eq_false.1 h1 x hx; simp at this; omega
  have hsp : ∀ x ∈ p.f, x.s.length ≤ 4294967000 := fun x hx => by have := List.any_eq_false.1 h2 x hx; simp at this; omega
  have HC := Lib.hid hc
  have HP := Lib.hid hp
  have Hs := Lib.hid hs
  have Hsp := Lib.hid hsp
  have HB := Lib.hid hib
  have HT := Lib.hid hT
  have h0l : 0 < c.f.length := by omega
  obtain ⟨x, hx⟩ : ∃ x, x = c.f[0]'h0l := ⟨_, rfl⟩
  have hsx : x.s.length ≤ 4294967000 := by rw [hx]; exact hs _ (List.getElem_mem _)
  have X := Lib.hid hx.symm
  obtain ⟨lv, hlv⟩ : ∃ l, l = b ++ valB x := ⟨_, rfl⟩
  obtain ⟨lc, hlc⟩ : ∃ l, l = b ++ cardB c := ⟨_, rfl⟩
  obtain ⟨lp, hlp⟩ : ∃ l, l = b ++ patchB p := ⟨_, rfl⟩
  have nv : lv.length ≤ 1000 := by rw [hlv, List.length_append]; have := valB_len x; omega
  have nc : lc.length ≤ 1000 := by rw [hlc, List.length_append]; have := cardB_len c; omega
  have np : lp.length ≤ 1000 := by rw [hlp, List.length_append]; have := patchB_len p; omega
  have mv := valB_len x
  have mc := cardB_len c
  have mp := patchB_len p
  have bv : ¬ 9223372036854775807 < b.length + (valB x).length := by omega
  have bc' : ¬ 9223372036854775807 < b.length + (cardB c).length := by omega
  have bp : ¬ 9223372036854775807 < b.length + (patchB p).length := by omega
  have LV := Lib.hid hlv
  have LC := Lib.hid hlc
  have LP := Lib.hid hlp
  clear hc hp hs hsp hib hT hx hlv hlc hlp hlong hb
  have kb := fun (w' : World) (hw : Below w.heap.size w w') => conv_str (P := Tryd.prog) w' Tryd.underlying30 Tryd.underlying5 Tryd.underlying9 (HB.out.below hw)
  have KB := Lib.hid kb
  clear kb
  go_enter Tryd.func4, Tryd.ntmps4
  go_wp2_with (with_reducible refine stop_load 25 (.tmp 8) rfl rfl ?_)
  refine Stop.mk (wpList_loadAt rfl _ _ rfl w.heap.size 3 rfl (farr c.f) (Card.part ((Blk.new w _ _).below ((Below.refl _ _).alloc (Nat.le_refl _) _) (by simp))) strF (by rw [farr_size, HC.out]) ?_)
  go_wp2_with (first
    | (with_reducible refine stop_loadG 25 (.tmp 12) rfl ?_)
    | (go_at_call 12; refine (c_Large c.f _ HC.out).mono ?_; rintro e w1 ⟨rfl, hb1⟩; have hb1' : Below w.heap.size w w1 := (((Below.refl _ _).alloc (Nat.le_refl _) _).alloc (by simp) _).trans (hb1.mono (by simp; omega)); have BP := Lib.hid ((Blk.new (w.alloc (.cells c.arr 40)) 27 p.arr).below hb1 (by simp)); have BC1 := Lib.hid (((Blk.new w 40 c.arr).below ((Below.refl _ _).alloc (Nat.le_refl _) _) (by simp)).below hb1 (by simp; omega))))
  refine Stop.mk (wpList_loadAtG (by rfl) _ _ rfl (w.heap.size + 1) 2 rfl (farr p.f) (Patch.part (by simpa using BP.out)) strF (by rw [farr_size, HP.out]) ?_)
  go_wp2_with (go_at_call 12; refine (c_Large p.f _ HP.out).mono ?_; rintro e w2 ⟨rfl, hb2⟩; have kc := KB.out w2 (hb1'.trans (hb2.mono hb1'.size)))
  have hbl2 : Below w.heap.size w w2 := hb1'.trans (hb2.mono hb1'.size)
  have BC := Lib.hid (BC1.out.below hb2 BC1.out.lt)
  have BQ := Lib.hid (show Blk w2 (w.heap.size + 1) p.arr by simpa using BP.out.below hb2 BP.out.lt)
  have hz2 := hbl2.size
  clear hb1 hb2 hb1' BP BC1 kc
  refine wp_region_rel [Sp.eq (.slice B b.length cb), Sp.eq (.pointer (some ⟨w.heap.size, 3, none⟩)), Sp.eq (.pointer (some ⟨w.heap.size, 3, none⟩)), Sp.eq (.agg x.c3), Sp.slice 1 bc lv, Sp.eq (.string (str lv)), Sp.eq (.string (str b)), Sp.eq (.pointer (some ⟨w.heap.size, 3, none⟩)), Sp.eq (.pointer (some ⟨w.heap.size, 3, none⟩)), Sp.eq (.agg x.c3), Sp.eq (.string (str (valB x))), Sp.eq (.string (str lv)), Sp.eq (.bool true), Sp.eq (.bool true), Sp.eq (.slice B b.length cb), Sp.eq (.agg c.arr), Sp.slice 1 bc lc, Sp.eq (.string (str lc)), Sp.eq (.string (str b)), Sp.eq (.agg c.arr), Sp.eq (.string (str (cardB c))), Sp.eq (.string (str lc)), Sp.eq (.bool true), Sp.eq (.bool true), Sp.eq (.bool true), Sp.eq (.slice B b.length cb), Sp.eq (.agg p.arr), Sp.slice 1 bc lp, Sp.eq (.string (str lp)), Sp.eq (.string (str b)), Sp.eq (.agg p.arr), Sp.eq (.string (str (patchB p))), Sp.eq (.string (str lp)), Sp.eq (.bool true), Sp.eq (.bool true), Sp.eq (.bool true), Sp.eq (.bool true), Sp.eq (.bool true), Sp.eq (.bool true)] 62 (by kernel_rfl) (by kernel_rfl) rfl rfl ?_ ?_
  · refine ⟨?_, ?_, ?_, ?_, ?_, ?_, ?_, ?_, ?_, ?_, ?_, ?_, ?_, ?_, ?_, ?_, ?_, ?_, ?_, ?_, ?_, ?_, ?_, ?_, ?_, ?_, ?_, ?_, ?_, ?_, ?_, ?_, ?_, ?_, ?_, ?_, ?_, ?_, ?_, trivial⟩
    all_goals (intro u w3 hb3 hd; have hbw : Below w.heap.size w w3 := hbl2.trans (hb3.mono hz2); simp [Deps, Region.binds, Sp.slice_holds, Sp.eq_holds] at hd; simp only [putDeps, dstOf, Region.binds])
    case refine_1 => go_wp2_with (fail); exact RelEnd.mk rfl (Below.refl _ _) rfl
    case refine_2 => go_wp2_with (fail); exact RelEnd.mk rfl (Below.refl _ _) rfl
    case refine_3 => go_wp2_with (fail); exact RelEnd.mk rfl (Below.refl _ _) rfl
    case refine_4 =>
      obtain ⟨d0, d1, d2⟩ := Card.row (BC.out.below hb3 BC.out.lt) (p := c) (k := 0) h0l
      simp only [Nat.zero_mul, Nat.add_zero, X.out] at d0 d1 d2
      go_wp2_with (fail); exact RelEnd.mk rfl (Below.refl _ _) rfl
    case refine_5 =>
      go_wp2_with (go_at_call 21; refine (c_cardwire_PutValue b B cb x _ (HB.out.below hbw) (by omega) hsx).mono ?_; rintro e w4 ⟨v3, rfl, own3, hb4⟩)
      rw [← LV.out] at own3
      exact RelEnd.mk rfl hb4 (In.of_own bc_len own3 (by omega))
    case refine_6 =>
      obtain ⟨A2, c2, d0, d1⟩ := hd
      have kc' : (convert 30 9 (u 4)).run Tryd.prog w3 = .ok (.string (str lv)) w3 := by rw [d0]; exact conv_str (P := Tryd.prog) w3 Tryd.underlying30 Tryd.underlying5 Tryd.underlying9 d1
      clear d0 d1
      go_wp2_with (fail); exact RelEnd.mk rfl (Below.refl _ _) rfl
    case refine_7 => go_wp2_with (fail); exact RelEnd.mk rfl (Below.refl _ _) rfl
    case refine_8 => go_wp2_with (fail); exact RelEnd.mk rfl (Below.refl _ _) rfl
    case refine_9 => go_wp2_with (fail); exact RelEnd.mk rfl (Below.refl _ _) rfl
    case refine_10 =>
      obtain ⟨d0, d1, d2⟩ := Card.row (BC.out.below hb3 BC.out.lt) (p := c) (k := 0) h0l
      simp only [Nat.zero_mul, Nat.add_zero, X.out] at d0 d1 d2
      go_wp2_with (fail); exact RelEnd.mk rfl (Below.refl _ _) rfl
    case refine_11 =>
      go_wp2_with (go_at_call 22; refine (c_ref08_PutValue x _ hsx).mono ?_; rintro e w4 ⟨rfl, hb4⟩)
      exact RelEnd.mk rfl hb4 rfl
    case refine_12 =>
      go_wp2_with (fail)
      exact RelEnd.mk rfl (Below.refl _ _) (by show _ = _; rw [LV.out]; rfl)
    case refine_13 => go_wp2_with (fail); exact RelEnd.mk rfl (Below.refl _ _) rfl
    case refine_14 => go_wp2_with (fail); exact RelEnd.mk rfl (Below.refl _ _) rfl
    case refine_15 => go_wp2_with (fail); exact RelEnd.mk rfl (Below.refl _ _) rfl
    case refine_16 =>
      go_wp2_with (with_reducible refine stop_loadG 40 (.tmp 3) rfl ?_)
      refine Stop.mk (wpList_loadAtG (by simp [Region.wanted, yielded]) _ _ rfl w.heap.size 0 rfl c.arr (BC.out.below hb3 BC.out.lt).all strC (by rw [Card.arr_size, HC.out]) ?_)
      go_wp2_with (fail)
      exact RelEnd.mk rfl (Below.refl _ _) rfl
    case refine_17 =>
      go_wp2_with (go_at_call 23; refine (c_cardwire_PutCard b B cb c _ (HB.out.below hbw) (by omega) HC.out Hs.out).mono ?_; rintro e w4 ⟨v3, rfl, own3, hb4⟩)
      rw [← LC.out] at own3
      exact RelEnd.mk rfl hb4 (In.of_own bc_len own3 (by omega))
    case refine_18 =>
      obtain ⟨⟨A2, c2, d0, d1⟩, d2⟩ := hd
      have kc' : (convert 30 9 (u 16)).run Tryd.prog w3 = .ok (.string (str lc)) w3 := by rw [d0]; exact conv_str (P := Tryd.prog) w3 Tryd.underlying30 Tryd.underlying5 Tryd.underlying9 d1
      clear d0 d1
      go_wp2_with (fail); exact RelEnd.mk rfl (Below.refl _ _) rfl
    case refine_19 => go_wp2_with (fail); exact RelEnd.mk rfl (Below.refl _ _) rfl
    case refine_20 =>
      go_wp2_with (with_reducible refine stop_loadG 40 (.tmp 3) rfl ?_)
      refine Stop.mk (wpList_loadAtG (by simp [Region.wanted, yielded]) _ _ rfl w.heap.size 0 rfl c.arr (BC.out.below hb3 BC.out.lt).all strC (by rw [Card.arr_size, HC.out]) ?_)
      go_wp2_with (fail)
      exact RelEnd.mk rfl (Below.refl _ _) rfl
    case refine_21 =>
      go_wp2_with (go_at_call 24; refine (c_ref08_PutCard c _ HC.out Hs.out).mono ?_; rintro e w4 ⟨rfl, hb4⟩)
      exact RelEnd.mk rfl hb4 rfl
    case refine_22 =>
      go_wp2_with (fail)
      exact RelEnd.mk rfl (Below.refl _ _) (by show _ = _; rw [LC.out]; rfl)
    case refine_23 => go_wp2_with (fail); exact RelEnd.mk rfl (Below.refl _ _) rfl
    case refine_24 => go_wp2_with (fail); exact RelEnd.mk rfl (Below.refl _ _) rfl
    case refine_25 => go_wp2_with (fail); exact RelEnd.mk rfl (Below.refl _ _) rfl
    case refine_26 => go_wp2_with (fail); exact RelEnd.mk rfl (Below.refl _ _) rfl
    case refine_27 =>
      go_wp2_with (with_reducible refine stop_loadG 27 (.tmp 4) rfl ?_)
      refine Stop.mk (wpList_loadAtG (by simp [Region.wanted, yielded]) _ _ rfl (w.heap.size + 1) 0 rfl p.arr (BQ.out.below hb3 BQ.out.lt).all strP (by rw [Patch.arr_size, HP.out]) ?_)
      go_wp2_with (fail)
      exact RelEnd.mk rfl (Below.refl _ _) rfl
    case refine_28 =>
      go_wp2_with (go_at_call 25; refine (c_cardwire_PutPatch b B cb p _ (HB.out.below hbw) (by omega) (HT.out.below hbw) hm HP.out Hsp.out).mono ?_; rintro e w4 ⟨v3, rfl, own3, hb4⟩)
      rw [← LP.out] at own3
      exact RelEnd.mk rfl hb4 (In.of_own bc_len own3 (by omega))
    case refine_29 =>
      obtain ⟨⟨A2, c2, d0, d1⟩, d2⟩ := hd
      have kc' : (convert 30 9 (u 27)).run Tryd.prog w3 = .ok (.string (str lp)) w3 := by rw [d0]; exact conv_str (P := Tryd.prog) w3 Tryd.underlying30 Tryd.underlying5 Tryd.underlying9 d1
      clear d0 d1
      go_wp2_with (fail); exact RelEnd.mk rfl (Below.refl _ _) rfl
    case refine_30 => go_wp2_with (fail); exact RelEnd.mk rfl (Below.refl _ _) rfl
    case refine_31 =>
      go_wp2_with (with_reducible refine stop_loadG 27 (.tmp 4) rfl ?_)
      refine Stop.mk (wpList_loadAtG (by simp [Region.wanted, yielded]) _ _ rfl (w.heap.size + 1) 0 rfl p.arr (BQ.out.below hb3 BQ.out.lt).all strP (by rw [Patch.arr_size, HP.out]) ?_)
      go_wp2_with (fail)
      exact RelEnd.mk rfl (Below.refl _ _) rfl
    case refine_32 =>
      go_wp2_with (go_at_call 26; refine (c_ref08_PutPatch p _ hm HP.out Hsp.out).mono ?_; rintro e w4 ⟨rfl, hb4⟩)
      exact RelEnd.mk rfl hb4 rfl
    case refine_33 =>
      go_wp2_with (fail)
      exact RelEnd.mk rfl (Below.refl _ _) (by show _ = _; rw [LP.out]; rfl)
    case refine_34 => go_wp2_with (fail); exact RelEnd.mk rfl (Below.refl _ _) rfl
    case refine_35 => go_wp2_with (fail); exact RelEnd.mk rfl (Below.refl _ _) rfl
    case refine_36 => go_wp2_with (fail); exact RelEnd.mk rfl (Below.refl _ _) rfl
    case refine_37 =>
      go_wp2_with (go_at_call 20; refine (c_law08_awake _).mono ?_; rintro e w4 ⟨rfl, hb4⟩)
      exact RelEnd.mk rfl hb4 rfl
    case refine_38 => go_wp2_with (fail); exact RelEnd.mk rfl (Below.refl _ _) rfl
    case refine_39 => go_wp2_with (fail); exact RelEnd.mk rfl (Below.refl _ _) rfl
  · intro u w3 hb3 hold
    simp only [RelHold, Sp.eq_holds] at hold
    obtain ⟨-, -, -, -, -, -, -, -, -, -, -, -, -, -, -, -, -, -, -, -, -, -, -, -, -, -, -, -, -, -, -, -, -, -, -, -, -, -, d38, -⟩ := hold
    simp only [putAll, Act.put, Nat.reduceAdd, List.setIfInBounds_toArray, List.set_cons_zero, List.set_cons_succ]
    have hbw : Below w.heap.size w w3 := hbl2.trans (hb3.mono hz2)
    clear KB HB BC BQ Hs Hsp HT hb3 hbl2
    go_wp2_with (fail)
    go_ret
    exact RetV.of d38 hbw
end Go.Proofs.YtjkjfnhplgcigaaDoor
