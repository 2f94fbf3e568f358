/-
  The walk of the statement CardwireBack: it answers true, whatever the card, the patch and the bytes.
-/
import Derived.Test.YtjkjfnhplgcigaaDoorW08f
import Derived.Test.YtjkjfnhplgcigaaDoorW08i
import Derived.Test.YtjkjfnhplgcigaaDoorW08j
import Derived.Test.YtjkjfnhplgcigaaDoorW01d
import Derived.Test.YtjkjfnhplgcigaaDoorW01f
import Derived.Test.YtjkjfnhplgcigaaDoorRel
import Derived.Test.YtjkjfnhplgcigaaDoorEqv
import Derived.Test.YtjkjfnhplgcigaaDoorW06w
namespace Go.Proofs.YtjkjfnhplgcigaaDoor
open Go.RowKit

set_option maxHeartbeats 2000000 in
set_option maxRecDepth 4000 in
theorem law08_Back_skip (c : Card) (p : Patch) (B : Option Addr) (nb cb : Nat) (w : World) (hc : c.f.length = 8) (hp : p.f.length = 8) (hcs : ∀ x ∈ c.f, x.s.length ≤ 9223372036854775807) (hps : ∀ x ∈ p.f, x.s.length ≤ 9223372036854775807) (hm : p.mask < 4294967296)
    (h : c.ok = false ∨ p.code ≠ 0 ∨ 500 < nb) : Calls Tryd.prog 8 #[.agg c.arr, .agg p.arr, .slice B nb cb] w (RetV w (.bool true)) := by
  have HC := Lib.hid hc
  have HP := Lib.hid hp
  have HCZ := Lib.hid (show c.arr.size = 27 by rw [Card.arr_size, hc])
  have HPZ := Lib.hid (show p.arr.size = 26 by rw [Patch.arr_size, hp])
  clear hc hp
  have C0 := Lib.hid ((Blk.new w 40 c.arr).below ((Below.refl _ _).alloc (Nat.le_refl _) (.cells p.arr 27)) (by simp))
  have P0 := Lib.hid (show Blk ((w.alloc (.cells c.arr 40)).alloc (.cells p.arr 27)) (w.heap.size + 1) p.arr by simpa using Blk.new (w.alloc (.cells c.arr 40)) 27 p.arr)
  cases h1 : c.ok
  case false =>
    go_enter Tryd.func8, Tryd.ntmps8
    go_wp2_with (with_reducible refine stop_load 40 (.tmp 3) rfl rfl ?_)
    refine Stop.mk (wpList_loadB rfl _ _ rfl w.heap.size rfl c.arr C0.out strC HCZ.out ?_)
    go_wp2_with (fail)
    refine (c_ref06_CheckW c _ HC.out hcs).mono ?_
    rintro e1 w1 ⟨rfl, hb1⟩
    have hw1 : Below w.heap.size w w1 := (((Below.refl _ _).alloc (Nat.le_refl _) _).alloc (by simp) _).trans (hb1.mono (by simp; omega))
    rw [h1]
    go_wp2_with (fail)
    refine (c_law08_awake _).mono ?_
    rintro e2 w2 ⟨rfl, hb2⟩
    go_wp2_with (fail)
    go_ret
    exact RetV.bool rfl (hw1.trans (hb2.mono hw1.size))
  case true =>
    rw [h1] at h
    have h' := h.resolve_left (by simp)
    clear h
    by_cases hk : p.code = 0
    case neg =>
      have hkb : (p.code != 0) = true := by simpa using hk
      clear hk h'
      go_enter Tryd.func8, Tryd.ntmps8
      go_wp2_with (with_reducible refine stop_load 40 (.tmp 3) rfl rfl ?_)
      refine Stop.mk (wpList_loadB rfl _ _ rfl w.heap.size rfl c.arr C0.out strC HCZ.out ?_)
      go_wp2_with (fail)
      refine (c_ref06_CheckW c _ HC.out hcs).mono ?_
      rintro e1 w1 ⟨rfl, hb1⟩
      have hw1 : Below w.heap.size w w1 := (((Below.refl _ _).alloc (Nat.le_refl _) _).alloc (by simp) _).trans (hb1.mono (by simp; omega))
      have P1 := Lib.hid (P0.out.below hb1 P0.out.lt)
      have hz1 := hw1.size
      rw [h1]
      go_wp2_with (with_reducible refine stop_loadG 27 (.tmp 4) rfl ?_)
      refine Stop.mk (wpList_loadAtG (by rfl) _ _ rfl (w.heap.size + 1) 0 rfl p.arr P1.out.all strP HPZ.out ?_)
      go_wp2_with (fail)
      refine (c_ref06_CheckPatchW p _ hm HP.out hps).mono ?_
      rintro e2 w2 ⟨rfl, hb2⟩
      have hw2 : Below w.heap.size w w2 := hw1.trans (hb2.mono hz1)
      go_wp2_with (fail)
      refine (c_law08_awake _).mono ?_
      rintro e3 w3 ⟨rfl, hb3⟩
      go_wp2_with (fail)
      go_ret
      exact RetV.bool rfl (hw2.trans (hb3.mono hw2.size))
    case pos =>
      have hkb : (p.code != 0) = false := by simpa using hk
      have h5 : 500 < nb := h'.resolve_left (fun h => h hk)
      clear hk h'
      go_enter Tryd.func8, Tryd.ntmps8
      go_wp2_with (with_reducible refine stop_load 40 (.tmp 3) rfl rfl ?_)
      refine Stop.mk (wpList_loadB rfl _ _ rfl w.heap.size rfl c.arr C0.out strC HCZ.out ?_)
      go_wp2_with (fail)
      refine (c_ref06_CheckW c _ HC.out hcs).mono ?_
      rintro e1 w1 ⟨rfl, hb1⟩
      have hw1 : Below w.heap.size w w1 := (((Below.refl _ _).alloc (Nat.le_refl _) _).alloc (by simp) _).trans (hb1.mono (by simp; omega))
      have P1 := Lib.hid (P0.out.below hb1 P0.out.lt)
      have hz1 := hw1.size
      rw [h1]
      go_wp2_with (with_reducible refine stop_loadG 27 (.tmp 4) rfl ?_)
      refine Stop.mk (wpList_loadAtG (by rfl) _ _ rfl (w.heap.size + 1) 0 rfl p.arr P1.out.all strP HPZ.out ?_)
      go_wp2_with (fail)
      refine (c_ref06_CheckPatchW p _ hm HP.out hps).mono ?_
      rintro e2 w2 ⟨rfl, hb2⟩
      have hw2 : Below w.heap.size w w2 := hw1.trans (hb2.mono hz1)
      go_wp2_with (fail)
      refine (c_law08_awake _).mono ?_
      rintro e3 w3 ⟨rfl, hb3⟩
      go_wp2_with (fail)
      go_ret
      exact RetV.bool rfl (hw2.trans (hb3.mono hw2.size))
set_option maxHeartbeats 16000000 in
set_option maxRecDepth 4000 in
theorem c_law08_CardwireBack (c : Card) (p : Patch) (more : List UInt8) (B : Option Addr) (cb : Nat) (w : World) (hc : c.f.length = 8) (hp : p.f.length = 8) (hm : p.mask < 4294967296) (hok : c.ok = true) (hcode : p.code = 0) (hb : InB w B cb more) (hml : more.length ≤ 500) (hT : Tab w) :
    Calls Tryd.prog 8 #[.agg c.arr, .agg p.arr, .slice B more.length cb] w (RetV w (.bool true)) := by
  have hL := hb.1
  have hC := hb.2.1
  have HB := Lib.hid hb
  have HT := Lib.hid hT
  have HC := Lib.hid hc
  have HP := Lib.hid hp
  have HCZ := Lib.hid (show c.arr.size = 27 by rw [Card.arr_size, hc])
  have HPZ := Lib.hid (show p.arr.size = 26 by rw [Patch.arr_size, hp])
  have hv := (Card.ok_bds hok).2.2.2.2.2
  have hcs : ∀ x ∈ c.f, x.s.length ≤ 4294967000 := fun x hx => by have := Val.ok_len (vals_mem hv hx); omega
  have hps : ∀ x ∈ p.f, x.s.length ≤ 4294967000 := fun x hx => by
    obtain ⟨i, hi, rfl⟩ := List.getElem_of_mem hx
    have := fits_at (code_zero hcode).2.2.2.2 hi
    unfold fitAt at this
    simp only [Bool.and_eq_true] at this
    have := Val.ok_len this.1
    omega
  have Hcs := Lib.hid hcs
  have Hps := Lib.hid hps
  have h1l : 1 < c.f.length := by omega
  obtain ⟨x, hx⟩ : ∃ x, x = c.f[1]'h1l := ⟨_, rfl⟩
  have hxo : x.ok = true := by rw [hx]; exact vals_mem hv (List.getElem_mem _)
  have hxs := Val.ok_len hxo
  have X1 := Lib.hid hx
  obtain ⟨lv, hlv⟩ : ∃ l, l = valB x := ⟨_, rfl⟩
  obtain ⟨lc, hlc⟩ : ∃ l, l = lv ++ cardB c := ⟨_, rfl⟩
  obtain ⟨lp, hlp⟩ : ∃ l, l = lc ++ patchB p := ⟨_, rfl⟩
  have mv := valB_len x
  have mc := cardB_len c
  have mp := patchB_len p
  have nv : lv.length ≤ 38 := by rw [hlv]; exact mv
  have nc : lc.length ≤ 370 := by rw [hlc, List.length_append]; omega
  have np : lp.length ≤ 702 := by rw [hlp, List.length_append]; omega
  have LV := Lib.hid hlv
  have LC := Lib.hid hlc
  have LP := Lib.hid hlp
  -- what is read of what was put
  have hall : lp ++ more = valB x ++ (cardB c ++ (patchB p ++ more)) := by rw [hlp, hlc, hlv]; simp
  obtain ⟨r1, r2⟩ := rdVal_put hxo (cardB c ++ (patchB p ++ more))
  obtain ⟨r3, r4⟩ := rdCard_put hok hc (patchB p ++ more)
  obtain ⟨r5, r6⟩ := rdPatch_put hcode hp more
  rw [← hall] at r1 r2
  have HR1 := Lib.hid r1
  have HR2 := Lib.hid r2
  have HR3 := Lib.hid r3
  have HR4 := Lib.hid r4
  have HR5 := Lib.hid r5
  have HR6 := Lib.hid r6
  have hkb : (p.code != 0) = false := by simpa using hcode
  have Hok := Lib.hid hok
  have EI := elemB
  clear hb hT hc hp hv hcs hps hx hlv hlc hlp hall r1 r2 r3 r4 r5 r6 hcode hok
  have C0 := Lib.hid ((Blk.new w 40 c.arr).below ((Below.refl _ _).alloc (Nat.le_refl _) (.cells p.arr 27)) (by simp))
  have P0 := Lib.hid (show Blk ((w.alloc (.cells c.arr 40)).alloc (.cells p.arr 27)) (w.heap.size + 1) p.arr by simpa using Blk.new (w.alloc (.cells c.arr 40)) 27 p.arr)
  go_enter Tryd.func8, Tryd.ntmps8
  go_wp2_with (with_reducible refine stop_load 40 (.tmp 3) rfl rfl ?_)
  refine Stop.mk (wpList_loadB rfl _ _ rfl w.heap.size rfl c.arr C0.out strC HCZ.out ?_)
  go_wp2_with (fail)
  refine (c_ref06_Check c _ HC.out Hcs.out).mono ?_
  rintro e1 a1 ⟨rfl, hb1⟩
  rw [Hok.out]
  have hw1 : Below w.heap.size w a1 := (((Below.refl _ _).alloc (Nat.le_refl _) _).alloc (by simp) _).trans (hb1.mono (by simp; omega))
  have C1 := Lib.hid (C0.out.below hb1 (by simp; omega))
  have P1 := Lib.hid (P0.out.below hb1 P0.out.lt)
  have hz1 := hw1.size
  clear hb1 C0 P0
  go_wp2_with (with_reducible refine stop_loadG 27 (.tmp 4) rfl ?_)
  refine Stop.mk (wpList_loadAtG (by rfl) _ _ rfl (w.heap.size + 1) 0 rfl p.arr P1.out.all strP HPZ.out ?_)
  go_wp2_with (fail)
  refine (c_ref06_CheckPatch p _ hm HP.out Hps.out).mono ?_
  rintro e2 a2 ⟨rfl, hb2⟩
  have hw2 : Below w.heap.size w a2 := hw1.trans (hb2.mono hz1)
  have BC := Lib.hid (C1.out.below hb2 C1.out.lt)
  have BQ := Lib.hid (P1.out.below hb2 P1.out.lt)
  have hz2 := hw2.size
  have hzq := BQ.out.lt
  clear hb2 C1 P1 hw1
  go_wp2_with (fail)
  refine wp_region_rel [Sp.eq (.pointer (some ⟨w.heap.size, 3, none⟩)), Sp.eq (.pointer (some ⟨w.heap.size, 6, none⟩)), Sp.eq (.agg x.c3), Sp.slice 1 bc lv, Sp.eq (.agg c.arr), Sp.slice 1 bc lc, Sp.eq (.agg p.arr), Sp.slice 1 bc lp, Sp.slice 1 bc lp] 76 (by kernel_rfl) (by kernel_rfl) rfl rfl ?_ ?_
  · refine ⟨?_, ?_, ?_, ?_, ?_, ?_, ?_, ?_, ?_, trivial⟩
    all_goals (intro u a3 hb3 hd; have hbw : Below w.heap.size w a3 := hw2.trans (hb3.mono hz2); simp [Deps, Region.binds, Sp.slice_holds, Sp.eq_holds] at hd; simp only [putDeps, dstOf, Region.binds])
    case refine_1 => go_wp2_with (fail); exact RelEnd.mk rfl (Below.refl _ _) rfl
    case refine_2 => go_wp2_with (fail); exact RelEnd.mk rfl (Below.refl _ _) rfl
    case refine_3 =>
      obtain ⟨d0, d1, d2⟩ := Card.row (BC.out.below hb3 BC.out.lt) (p := c) (k := 1) (by have := HC.out; omega)
      simp only [Nat.one_mul, Nat.reduceAdd, ← X1.out] at d0 d1 d2
      go_wp2_with (fail); exact RelEnd.mk rfl (Below.refl _ _) rfl
    case refine_4 =>
      go_wp2_with (go_at_call 21; refine (c_cardwire_PutValue [] none 0 x _ (In.nil (by omega)) (by simp) (by omega)).mono ?_; rintro e4 a4 ⟨v3, rfl, own3, hb4⟩)
      rw [List.nil_append, ← LV.out] at own3
      exact RelEnd.mk rfl hb4 (In.of_own bc_len own3 (by omega))
    case refine_5 =>
      go_wp2_with (with_reducible refine stop_load 40 (.tmp 3) rfl rfl ?_)
      refine Stop.mk (wpList_loadB rfl _ _ rfl w.heap.size rfl c.arr (BC.out.below hb3 BC.out.lt) strC HCZ.out ?_)
      go_wp2_with (fail)
      exact RelEnd.mk rfl (Below.refl _ _) rfl
    case refine_6 =>
      obtain ⟨⟨A4, c4, d0, d1⟩, d2⟩ := hd
      go_wp2_with (go_at_call 23; refine (c_cardwire_PutCard lv A4 c4 c _ d1 (by omega) HC.out Hcs.out).mono ?_; rintro e4 a4 ⟨v3, rfl, own3, hb4⟩)
      rw [← LC.out] at own3
      exact RelEnd.mk rfl hb4 (In.of_own bc_len own3 (by omega))
    case refine_7 =>
      go_wp2_with (with_reducible refine stop_load 27 (.tmp 4) rfl rfl ?_)
      refine Stop.mk (wpList_loadB rfl _ _ rfl (w.heap.size + 1) rfl p.arr (BQ.out.below hb3 BQ.out.lt) strP HPZ.out ?_)
      go_wp2_with (fail)
      exact RelEnd.mk rfl (Below.refl _ _) rfl
    case refine_8 =>
      obtain ⟨⟨A4, c4, d0, d1⟩, d2⟩ := hd
      go_wp2_with (go_at_call 25; refine (c_cardwire_PutPatch lc A4 c4 p _ d1 (by omega) (HT.out.below hbw) hm HP.out Hps.out).mono ?_; rintro e4 a4 ⟨v3, rfl, own3, hb4⟩)
      rw [← LP.out] at own3
      exact RelEnd.mk rfl hb4 (In.of_own bc_len own3 (by omega))
    case refine_9 =>
      obtain ⟨⟨A4, c4, d0, d1⟩, -⟩ := hd
      go_wp2_with (fail)
      exact RelEnd.mk rfl (Below.refl _ _) ⟨A4, c4, rfl, d1⟩
  · intro u a3 hb3 hold
    simp only [RelHold, Sp.eq_holds, Sp.slice_holds] at hold
    obtain ⟨-, -, -, -, -, -, -, -, ⟨A3, c3, e3, in3⟩, -⟩ := hold
    simp only [putAll, Act.put, Nat.reduceAdd, List.setIfInBounds_toArray, List.set_cons_zero, List.set_cons_succ]
    rw [e3]
    have I3 := Lib.hid in3
    have hw3 : Below w.heap.size w a3 := hw2.trans (hb3.mono hz2)
    have C3 := Lib.hid (BC.out.below hb3 BC.out.lt)
    have P3 := Lib.hid (BQ.out.below hb3 BQ.out.lt)
    have hz3 := hw3.size
    have hq3 := P3.out.lt
    clear e3 in3 hb3 BC BQ hw2
    go_wp2_with ((at_builtin; refine Stop.out ?_))
    refine Stop.mk (wpList_app _ rfl (.tmp 34) (.tmp 35) EI rfl a3.heap.size (.slice (some ⟨a3.heap.size, 0, none⟩) 0 0) 0 [] rfl (World.ownsRow_lit a3 #[] 0 (Nat.le_refl _) (by unfold maxLen; omega) (by simp)) A3 lp.length c3 (lp.flatMap bc) rfl (Src.of_in bc_len (by omega) (I3.out.alloc _)) (bc_one lp) (by omega) ?_ ?_)
    · simp only [World.size_alloc]; omega
    intro v4 a4 own4 _ hb4 _
    rw [Nat.zero_add, List.nil_append] at own4
    have bb4 : Below a3.heap.size a3 a4 := ((Below.refl _ _).alloc (Nat.le_refl _) (.cells #[] 5)).trans hb4
    have hw4 : Below w.heap.size w a4 := hw3.trans (bb4.mono hz3)
    have hz4 := hw4.size
    have O4 := Lib.hid own4
    have C4 := Lib.hid (C3.out.below bb4 C3.out.lt)
    have P4 := Lib.hid (P3.out.below bb4 P3.out.lt)
    obtain ⟨A4, c4, rfl, _, _⟩ := own_form own4
    have hs4 := bb4.size
    clear own4 hb4 bb4 C3 P3
    go_wp2_with ((at_builtin; refine Stop.out ?_))
    refine Stop.mk (wpList_app _ rfl (.tmp 36) (.tmp 37) EI rfl a3.heap.size _ lp.length (lp.flatMap bc) rfl O4.out B more.length cb (more.flatMap bc) rfl (Src.of_in bc_len (by omega) (HB.out.below hw4)) (bc_one more) (by omega) hs4 ?_)
    intro v5 a5 own5 _ hb5 _
    rw [← List.flatMap_append, ← List.length_append] at own5
    have hw5 : Below w.heap.size w a5 := hw4.trans (hb5.mono hz3)
    have hz5 := hw5.size
    have C5 := Lib.hid (C4.out.below hb5 (by omega))
    have P5 := Lib.hid (P4.out.below hb5 (by omega))
    obtain ⟨A5, c5, rfl, in5⟩ := In.of_own bc_len own5 (by simp only [List.length_append]; omega)
    obtain ⟨all, hall⟩ : ∃ all, all = lp ++ more := ⟨_, rfl⟩
    have Hall := Lib.hid hall
    have In5 := Lib.hid in5
    rw [← hall] at In5 ⊢
    clear own5 in5 hb5 hall C4 P4 O4
    go_wp2_with (fail)
    refine (c_octet_New all A5 c5 _ In5.out).mono ?_
    rintro e6 a6 ⟨g, rfl, hg, hr6, hb6⟩
    have hw6 : Below w.heap.size w a6 := hw5.trans (hb6.mono hz5)
    have hz6 := hb6.size
    have hgl := hr6.lt rfl
    have C6 := Lib.hid (C5.out.below hb6 C5.out.lt)
    have P6 := Lib.hid (P5.out.below hb6 P5.out.lt)
    have hq5 := P5.out.lt
    clear hb6 C5 P5
    go_wp2_with (fail)
    refine (c_cardwire_Value (some g) ⟨all, 0⟩ _ hr6).mono ?_
    rintro e7 a7 ⟨rfl, hr7, hk7⟩
    rw [Hall.out, HR1.out]
    rw [Hall.out, HR2.out] at hr7
    have hz7 := hk7.size
    have hw7 : Below w.heap.size w a7 := hw6.trans (hk7.below hw6.size (fun y hy => by injection hy with hy; omega))
    have C7 := Lib.hid (C6.out.kept hk7 C6.out.lt (by simp; omega))
    have P7 := Lib.hid (P6.out.kept hk7 P6.out.lt (by simp; omega))
    clear hk7 hr6 C6 P6
    go_wp2_with (fail)
    refine (c_cardwire_Card (some g) ⟨cardB c ++ (patchB p ++ more), 0⟩ _ (HT.out.below hw7) hr7).mono ?_
    rintro e8 a8 ⟨rfl, hr8, hk8⟩
    rw [HR3.out]
    rw [HR4.out] at hr8
    have hz8 := hk8.size
    have hw8 : Below w.heap.size w a8 := hw7.trans (hk8.below hw7.size (fun y hy => by injection hy with hy; omega))
    have C8 := Lib.hid (C7.out.kept hk8 C7.out.lt (by simp; omega))
    have P8 := Lib.hid (P7.out.kept hk8 P7.out.lt (by simp; omega))
    clear hk8 hr7 C7 P7
    go_wp2_with (fail)
    refine (c_cardwire_Patch (some g) ⟨patchB p ++ more, 0⟩ _ (HT.out.below hw8) hr8).mono ?_
    rintro e9 a9 ⟨rfl, hr9, hk9⟩
    rw [HR5.out]
    rw [HR6.out] at hr9
    have hz9 := hk9.size
    have hw9 : Below w.heap.size w a9 := hw8.trans (hk9.below hw8.size (fun y hy => by injection hy with hy; omega))
    have C9 := Lib.hid (C8.out.kept hk9 C8.out.lt (by simp; omega))
    have P9 := Lib.hid (P8.out.kept hk9 P8.out.lt (by simp; omega))
    clear hk9 hr8 C8 P8
    unfold Val.val
    go_wp2_with (with_reducible refine stop_store 24 (.tmp 9) (.tmp 41) rfl rfl ?_)
    refine Stop.mk (wpList_storeB rfl _ _ _ rfl a9.heap.size x.c3 rfl rfl _ (((Blk.new a9 _ _).alloc _).alloc _) strV rfl rfl (by simp [Value.oneCell']) ?_)
    intro b1 hv1 hk1
    have V1 := Lib.hid hv1
    have D1 := Lib.hid ((show Blk (((a9.alloc _).alloc _).alloc _) (a9.heap.size + 1) _ by simpa using (Blk.new (a9.alloc _) _ _).alloc _).kept hk1 (by simp) (by simp))
    have Q1 := Lib.hid ((show Blk (((a9.alloc _).alloc _).alloc _) (a9.heap.size + 2) _ by simpa using Blk.new ((a9.alloc _).alloc _) _ _).kept hk1 (by simp) (by simp))
    have bb1 : Below a9.heap.size a9 b1 := ((((Below.refl _ _).alloc (Nat.le_refl _) _).alloc (by simp) _).alloc (by simp; omega) _).trans (hk1.oneB (by simp; omega) (Nat.le_refl _))
    have hy1 := hk1.size
    simp only [World.size_alloc] at hy1
    clear hv1 hk1
    go_wp2_with (with_reducible refine stop_store 40 (.tmp 10) (.tmp 43) rfl rfl ?_)
    refine Stop.mk (wpList_storeB rfl _ _ _ rfl (a9.heap.size + 1) _ rfl rfl _ D1.out strC HCZ.out (by rw [HCZ.out]; rfl) (Card.arr_ones _) ?_)
    intro b2 hd2 hk2
    have D2 := Lib.hid hd2
    have V2 := Lib.hid (V1.out.kept hk2 (by omega) (by simp))
    have Q2 := Lib.hid (Q1.out.kept hk2 (by omega) (by simp))
    have bb2 : Below a9.heap.size a9 b2 := bb1.trans (hk2.oneB (by omega) (by omega))
    have hy2 := hk2.size
    clear hd2 hk2 V1 D1 Q1 bb1
    go_wp2_with (with_reducible refine stop_store 27 (.tmp 11) (.tmp 45) rfl rfl ?_)
    refine Stop.mk (wpList_storeB rfl _ _ _ rfl (a9.heap.size + 2) _ rfl rfl _ Q2.out strP HPZ.out (by rw [HPZ.out]; rfl) (Patch.arr_ones _) ?_)
    intro b3 hq3' hk3
    have Q3 := Lib.hid hq3'
    have V3 := Lib.hid (V2.out.kept hk3 (by omega) (by simp))
    have D3 := Lib.hid (D2.out.kept hk3 (by omega) (by simp))
    have bb3 : Below a9.heap.size a9 b3 := bb2.trans (hk3.oneB (by omega) (by omega))
    have hx3 : Below w.heap.size w b3 := hw9.trans (bb3.mono hw9.size)
    have hr10 := hr9.below bb3
    have C10 := Lib.hid (C9.out.below bb3 C9.out.lt)
    have P10 := Lib.hid (P9.out.below bb3 P9.out.lt)
    obtain ⟨d0, d1, d2⟩ := Card.row C10.out (p := c) (k := 1) (by have := HC.out; omega)
    simp only [Nat.one_mul, Nat.reduceAdd, ← X1.out] at d0 d1 d2
    clear hq3' hk3 V2 D2 Q2 bb2 bb3 hr9 C9 P9
    obtain ⟨y0, y1, y2, yf⟩ := V3.out.three
    go_wp2_with (with_reducible refine stop_bin .eql 24 (.tmp 46) (.tmp 49) 24 rfl ?_)
    refine Stop.mk (wpList_eqlS (by rfl) _ _ _ _ rfl x.c3 x.c3 rfl rfl gV true ((eq_val 9998 x x _).trans (by simp)) ?_)
    clear y0 y1 y2 yf d0 d1 d2
    go_wp2_with (with_reducible refine stop_loadG 40 (.tmp 10) rfl ?_)
    refine Stop.mk (wpList_loadAtG (by rfl) _ _ rfl (a9.heap.size + 1) 0 rfl c.arr D3.out.all strC HCZ.out ?_)
    go_wp2_with (with_reducible refine stop_loadG 40 (.tmp 3) rfl ?_)
    refine Stop.mk (wpList_loadAtG (by rfl) _ _ rfl w.heap.size 0 rfl c.arr C10.out.all strC HCZ.out ?_)
    go_wp2_with (with_reducible refine stop_bin .eql 40 (.tmp 52) (.tmp 53) 40 rfl ?_)
    refine Stop.mk (wpList_eqlS (by rfl) _ _ _ _ rfl c.arr c.arr rfl rfl gC true ((eq_card HC.out HC.out 9996 _).trans (by simp)) ?_)
    go_wp2_with (with_reducible refine stop_loadG 27 (.tmp 11) rfl ?_)
    refine Stop.mk (wpList_loadAtG (by rfl) _ _ rfl (a9.heap.size + 2) 0 rfl p.arr Q3.out.all strP HPZ.out ?_)
    go_wp2_with (with_reducible refine stop_loadG 27 (.tmp 4) rfl ?_)
    refine Stop.mk (wpList_loadAtG (by rfl) _ _ rfl (w.heap.size + 1) 0 rfl p.arr P10.out.all strP HPZ.out ?_)
    go_wp2_with (with_reducible refine stop_bin .eql 27 (.tmp 57) (.tmp 58) 27 rfl ?_)
    refine Stop.mk (wpList_eqlS (by rfl) _ _ _ _ rfl p.arr p.arr rfl rfl gP true ((eq_patch HP.out HP.out 9996 _).trans (by simp)) ?_)
    go_wp2_with (fail)
    refine (c_octet_Err' (some g) _ _ hr10).mono ?_
    rintro e11 b4 ⟨rfl, hb4⟩
    have hx4 : Below w.heap.size w b4 := hx3.trans (hb4.mono hx3.size)
    have hr11 := hr10.below hb4
    go_wp2_with (fail)
    refine (c_octet_Left' (some g) _ _ hr11).mono ?_
    rintro e12 b5 ⟨rfl, hb5⟩
    have hx5 : Below w.heap.size w b5 := hx4.trans (hb5.mono hx4.size)
    go_wp2_with (fail)
    refine (c_law08_awake _).mono ?_
    rintro e13 b6 ⟨rfl, hb6⟩
    go_wp2_with (fail)
    go_ret
    exact RetV.bool rfl (hx5.trans (hb6.mono hx5.size))
end Go.Proofs.YtjkjfnhplgcigaaDoor
