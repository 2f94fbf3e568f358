/-
  The walk of chapter 18's reference: Right (may a shelf be loaded?).
-/
import Derived.Test.YtldoedmclfbgpaaDoorBq4
namespace Go.Proofs.YtldoedmclfbgpaaDoor
open Go.RowKit

set_option maxRecDepth 10000 in
set_option maxHeartbeats 8000000 in
theorem c_ref18_Right (next : Int) (l : List CQ) (A : Option Addr) (c : Nat) (dead : List Dead) (D : Option Addr) (d : Nat) (w : World) (hc : In 27 CQ.cells w A c l) (hd : In 3 Dead.cells w D d dead) (hf : ∀ x ∈ l, ∀ y ∈ x.c.f, y.s.length ≤ 4294967000) :
    Calls Tryd.prog 32 #[.agg #[.int .i64 next, .slice A l.length c, .slice D dead.length d]] w (RetV w (.bool (shelfOk next (cs l) dead))) := by
  have hL := hc.1
  have hC := hc.2.1
  have hS := hc.2.2.1
  have hL2 := hd.1
  have hC2 := hd.2.1
  have hS2 := hd.2.2.1
  have HC := Lib.hid hc
  have HD := Lib.hid hd
  have HF := Lib.hid hf
  have B0 := Lib.hid (At.new w 74 #[.int .i64 next, .slice A l.length c, .slice D dead.length d])
  have q0 := B0.out.2.cell (i := 0) rfl
  have q1 := B0.out.2.cell (i := 1) rfl
  have q2 := B0.out.2.cell (i := 2) rfl
  clear hc hd hf
  by_cases h0 : 1 ≤ next ∧ next ≤ 1073741824 ∧ l.length ≤ 48 ∧ dead.length ≤ 40
  case neg =>
    rw [shelf_bad (by rw [cs_len]; exact h0)]
    by_cases n1 : 1 ≤ next
    case neg =>
      have bn1 : decide (next < 1) = true := by simp; omega
      clear h0
      go_enter Tryd.func32, Tryd.ntmps32
      go_wp2_with (fail)
      go_ret
      exact RetV.of rfl B0.out.1
    case pos =>
    have bn1 : decide (next < 1) = false := by simp; omega
    by_cases n2 : next ≤ 1073741824
    case neg =>
      have bn2 : decide (1073741824 < next) = true := by simp; omega
      clear h0
      go_enter Tryd.func32, Tryd.ntmps32
      go_wp2_with (fail)
      go_ret
      exact RetV.of rfl B0.out.1
    case pos =>
    have bn2 : decide (1073741824 < next) = false := by simp; omega
    by_cases n3 : l.length ≤ 48
    case neg =>
      have bn3 : decide (48 < (l.length : Int)) = true := by simp; omega
      clear h0
      go_enter Tryd.func32, Tryd.ntmps32
      go_wp2_with (fail)
      go_ret
      exact RetV.of rfl B0.out.1
    case pos =>
    have bn3 : decide (48 < (l.length : Int)) = false := by simp; omega
    by_cases n4 : dead.length ≤ 40
    case neg =>
      have bn4 : decide (40 < (dead.length : Int)) = true := by simp; omega
      clear h0
      go_enter Tryd.func32, Tryd.ntmps32
      go_wp2_with (fail)
      go_ret
      exact RetV.of rfl B0.out.1
    case pos => exact absurd ⟨n1, n2, n3, n4⟩ h0
  case pos =>
  have HG := Lib.hid (shelf_good (next := next) (cards := cs l) (dead := dead) (by rw [cs_len]; exact h0))
  obtain ⟨n1, n2, n3, n4⟩ := h0
  have b1 : decide (next < 1) = false := by simp; omega
  have b2 : decide (1073741824 < next) = false := by simp; omega
  have b3 : decide (48 < (l.length : Int)) = false := by simp; omega
  have b4 : decide (40 < (dead.length : Int)) = false := by simp; omega
  go_enter Tryd.func32, Tryd.ntmps32
  go_wp2_with (fail)
  clear q0 q1 q2
  go_loopw [3] (fun i wr => ∃ (k : Nat) (last : Int), k ≤ l.length ∧ i = .int .i64 k ∧ Hid ((k = 0 ∧ last = 0) ∨ (∃ h : k - 1 < l.length, 0 < k ∧ last = l[k - 1].c.id)) ∧ Hid (cardsOk next last ((cs l).drop k) = cardsOk next 0 (cs l)) ∧ Hid (At w wr #[.int .i64 next, .slice A l.length c, .slice D dead.length d])) (fun i _ => l.length - (intOf i).toNat)
  case atStart => exact ⟨0, 0, by omega, rfl, .inl ⟨rfl, rfl⟩, rfl, B0.out⟩
  case round =>
    clear B0
    obtain ⟨k, last, hk, rfl, PV, R, X⟩ := hrel
    have q0 := X.out.2.cell (i := 0) rfl
    have q1 := X.out.2.cell (i := 1) rfl
    have bl := X.out.2.lt
    have hz := X.out.1.size
    by_cases hlt : k < l.length
    · have d1 : decide ((k : Int) < (l.length : Int)) = true := by simp; omega
      obtain ⟨b, off, hA, hb, hrow⟩ := HC.out.at hlt
      obtain ⟨b', off', hA', -, hat⟩ := CQ.at HC.out hlt
      rw [hA] at hA'
      injection hA' with hA'
      injection hA' with hb' ho'
      subst hb' ho'
      have HAT := Lib.hid hat
      have e0 := (X.out.1.cell (p := ⟨b, off + k * 27, none⟩) hb).trans (CQ.id_at hrow hlt)
      have hmem := List.getElem_mem hlt
      have HFX := Lib.hid (HF.out _ hmem)
      have FIN := Lib.hid (card_fin (show (cardAt next last l[k].c && cardsOk next l[k].c.id ((cs l).drop (k + 1))) = cardsOk next 0 (cs l) by rw [← R.out, cardsOk_at (l := cs l) (k := k) (by rw [cs_len]; exact hlt), cs_get hlt]))
      obtain ⟨x, hx⟩ : ∃ x, x = l[k] := ⟨_, rfl⟩
      have NX : Hid (∃ h : k + 1 - 1 < l.length, 0 < k + 1 ∧ x.c.id = l[k + 1 - 1].c.id) := Lib.hid ⟨by omega, by omega, by rw [hx]; simp⟩
      rw [← hx] at e0 HAT HFX FIN
      have hi1 : (0 : Int) ≤ (k : Int) := by omega
      have hi2 : (k : Int) < (l.length : Int) := by omega
      have hbw : b < wr.heap.size := by omega
      clear hat hx hmem R
      subst hA
      cases hok : x.c.ok
      case false =>
        have RF := Lib.hid (show shelfOk next (cs l) dead = false by rw [HG.out, FIN.out.1 hok]; rfl)
        clear hrow PV
        go_wp2_with (fail)
        refine wp_region_grow (by kernel_rfl) (by kernel_rfl) ?_
        go_big_quiet_step (fail)
        go_big_quiet_step (fail)
        go_big_quiet_step (fail)
        go_big_quiet_step (fail)
        refine wpQuiet_loadAt rfl _ _ rfl b (off + k * 27) rfl x.c.arr (fun w' hy j u hu => by
          obtain ⟨y, rfl⟩ := hy
          have := HAT.out _ (X.out.1.trans ((grow_below wr y).mono hz)) j u hu
          simpa using this) strC x.size ?_
        simp only [Act.put, List.setIfInBounds_toArray, List.set_cons_zero, List.set_cons_succ]
        repeat (go_big_quiet_step ((first | (go_at_call 51; exact quiet_grow (c_ref06_Check x.c _ x.wf HFX.out)))))
        refine wpQuiet_nil ?_
        intro w2 hb2
        replace X := Lib.hid (X.out.step hb2)
        clear hb2 q0 q1 bl e0
        go_wp2_with (fail)
        go_ret
        rw [RF.out]
        exact RetV.of rfl X.out.1
      case true =>
      have hpos := Lib.hid (Card.ok_id hok)
      by_cases h2 : x.c.id < next
      case neg =>
        have t2 : decide (next ≤ x.c.id) = true := by simp; omega
        have RF := Lib.hid (show shelfOk next (cs l) dead = false by rw [HG.out, FIN.out.2.2.1 (by omega)]; rfl)
        clear h2 hrow PV
        go_wp2_with (fail)
        refine wp_region_grow (by kernel_rfl) (by kernel_rfl) ?_
        go_big_quiet_step (fail)
        go_big_quiet_step (fail)
        go_big_quiet_step (fail)
        go_big_quiet_step (fail)
        refine wpQuiet_loadAt rfl _ _ rfl b (off + k * 27) rfl x.c.arr (fun w' hy j u hu => by
          obtain ⟨y, rfl⟩ := hy
          have := HAT.out _ (X.out.1.trans ((grow_below wr y).mono hz)) j u hu
          simpa using this) strC x.size ?_
        simp only [Act.put, List.setIfInBounds_toArray, List.set_cons_zero, List.set_cons_succ]
        repeat (go_big_quiet_step ((first | (go_at_call 51; exact quiet_grow (c_ref06_Check x.c _ x.wf HFX.out)))))
        refine wpQuiet_nil ?_
        intro w2 hb2
        replace X := Lib.hid (X.out.step hb2)
        clear hb2 q0 q1 bl e0
        go_wp2_with (fail)
        go_ret
        rw [RF.out]
        exact RetV.of rfl X.out.1
      case pos =>
      have t2 : decide (next ≤ x.c.id) = false := by simp; omega
      rcases PV.out with ⟨rfl, rfl⟩ | ⟨hp, h0k, hlast⟩
      · have z0 : decide ((0 : Int) < (0 : Int)) = false := by simp
        have R2 := Lib.hid (FIN.out.2.2.2 hok (by have := hpos.out; omega) h2)
        rw [Nat.zero_mul, Nat.add_zero] at e0
        clear h2 hrow PV
        go_wp2_with (fail)
        refine wp_region_grow (by kernel_rfl) (by kernel_rfl) ?_
        go_big_quiet_step (fail)
        go_big_quiet_step (fail)
        go_big_quiet_step (fail)
        go_big_quiet_step (fail)
        refine wpQuiet_loadAt rfl _ _ rfl b (off + 0 * 27) rfl x.c.arr (fun w' hy j u hu => by
          obtain ⟨y, rfl⟩ := hy
          have := HAT.out _ (X.out.1.trans ((grow_below wr y).mono hz)) j u hu
          simpa using this) strC x.size ?_
        simp only [Act.put, List.setIfInBounds_toArray, List.set_cons_zero, List.set_cons_succ]
        repeat (go_big_quiet_step ((first | (go_at_call 51; exact quiet_grow (c_ref06_Check x.c _ x.wf HFX.out)))))
        refine wpQuiet_nil ?_
        intro w2 hb2
        replace X := Lib.hid (X.out.step hb2)
        clear hb2 q0 q1 bl e0
        go_wp2_with (fail)
        go_roundw
        case rel => exact ⟨1, x.c.id, by omega, by go_num, .inr NX.out, R2.out, X.out⟩
        case measure => simp [intOf]; omega
      · have z0 : decide ((0 : Int) < (k : Int)) = true := by simp; omega
        have z0n : decide (0 < k) = true := decide_eq_true h0k
        obtain ⟨m, hkm⟩ : ∃ m, m = k - 1 := ⟨_, rfl⟩
        have e2 := (X.out.1.cell (p := ⟨b, off + m * 27, none⟩) hb).trans (show w.cell? ⟨b, off + m * 27, none⟩ = some (.int .i64 last) by subst hkm; rw [hlast]; exact CQ.id_at hrow hp)
        have hm1 : (k : Int) - 1 = (m : Int) := by omega
        have hi3 : (0 : Int) ≤ (m : Int) := by omega
        have hi4 : (m : Int) < (l.length : Int) := by omega
        by_cases h1 : last < x.c.id
        case neg =>
          have t1 : decide (x.c.id ≤ last) = true := by simp; omega
          have RF := Lib.hid (show shelfOk next (cs l) dead = false by rw [HG.out, FIN.out.2.1 (by omega)]; rfl)
          clear h1 h2 hrow PV hlast hp hkm
          go_wp2_with (fail)
          refine wp_region_grow (by kernel_rfl) (by kernel_rfl) ?_
          go_big_quiet_step (fail)
          go_big_quiet_step (fail)
          go_big_quiet_step (fail)
          go_big_quiet_step (fail)
          refine wpQuiet_loadAt rfl _ _ rfl b (off + k * 27) rfl x.c.arr (fun w' hy j u hu => by
            obtain ⟨y, rfl⟩ := hy
            have := HAT.out _ (X.out.1.trans ((grow_below wr y).mono hz)) j u hu
            simpa using this) strC x.size ?_
          simp only [Act.put, List.setIfInBounds_toArray, List.set_cons_zero, List.set_cons_succ]
          repeat (go_big_quiet_step ((first | (go_at_call 51; exact quiet_grow (c_ref06_Check x.c _ x.wf HFX.out)))))
          refine wpQuiet_nil ?_
          intro w2 hb2
          replace X := Lib.hid (X.out.step hb2)
          clear hb2 q0 q1 bl e0
          go_wp2_with (fail)
          go_ret
          rw [RF.out]
          exact RetV.of rfl X.out.1
        case pos =>
        have t1 : decide (x.c.id ≤ last) = false := by simp; omega
        have R2 := Lib.hid (FIN.out.2.2.2 hok h1 h2)
        clear h1 h2 hrow PV hlast hp hkm
        go_wp2_with (fail)
        refine wp_region_grow (by kernel_rfl) (by kernel_rfl) ?_
        go_big_quiet_step (fail)
        go_big_quiet_step (fail)
        go_big_quiet_step (fail)
        go_big_quiet_step (fail)
        refine wpQuiet_loadAt rfl _ _ rfl b (off + k * 27) rfl x.c.arr (fun w' hy j u hu => by
          obtain ⟨y, rfl⟩ := hy
          have := HAT.out _ (X.out.1.trans ((grow_below wr y).mono hz)) j u hu
          simpa using this) strC x.size ?_
        simp only [Act.put, List.setIfInBounds_toArray, List.set_cons_zero, List.set_cons_succ]
        repeat (go_big_quiet_step ((first | (go_at_call 51; exact quiet_grow (c_ref06_Check x.c _ x.wf HFX.out)))))
        refine wpQuiet_nil ?_
        intro w2 hb2
        replace X := Lib.hid (X.out.step hb2)
        clear hb2 q0 q1 bl e0
        go_wp2_with (fail)
        go_roundw
        case rel => exact ⟨k + 1, x.c.id, by omega, by go_num, .inr NX.out, R2.out, X.out⟩
        case measure => simp [intOf]; omega
    · obtain rfl : k = l.length := by omega
      have d1 : decide ((l.length : Int) < (l.length : Int)) = false := by simp
      have HG2 := Lib.hid (show shelfOk next (cs l) dead = deadsOk next (cs l) [] 0 dead by rw [HG.out, ← R.out, List.drop_of_length_le (by rw [cs_len]; exact Nat.le_refl _)]; rfl)
      clear R HG PV hlt
      go_wp2_with (fail)
      clear q0 q1 bl hz
      go_loopw [4, 5, 6] (fun i _ _ wr => ∃ (k : Nat) (last : Int), k ≤ dead.length ∧ i = .int .i64 k ∧ Hid (SeqAt (dead.take k) last) ∧ Hid (deadsOk next (cs l) (dead.take k) last (dead.drop k) = deadsOk next (cs l) [] 0 dead) ∧ Hid (At w wr #[.int .i64 next, .slice A l.length c, .slice D dead.length d])) (fun i _ _ _ => dead.length - (intOf i).toNat)
      case atStart => exact ⟨0, 0, by omega, rfl, SeqAt.start, rfl, X.out⟩
      case round =>
        clear X
        obtain ⟨k, last, hk2, rfl, SQ, R, X⟩ := hrel
        have q0 := X.out.2.cell (i := 0) rfl
        have q1 := X.out.2.cell (i := 1) rfl
        have q2 := X.out.2.cell (i := 2) rfl
        have bl := X.out.2.lt
        have hz := X.out.1.size
        by_cases hlt : k < dead.length
        case neg =>
          obtain rfl : k = dead.length := by omega
          have d2 : decide ((dead.length : Int) < (dead.length : Int)) = false := by simp
          have RT := Lib.hid (show shelfOk next (cs l) dead = true by rw [HG2.out, ← R.out, List.drop_length]; rfl)
          go_wp2_with (fail)
          go_ret
          rw [RT.out]
          exact RetV.of rfl X.out.1
        case pos =>
        have d2 : decide ((k : Int) < (dead.length : Int)) = true := by simp; omega
        obtain ⟨b, off, hA, hb, hrow⟩ := HD.out.at hlt
        have e0 := hrow.belowB X.out.1 hb k hlt 0 _ rfl
        have e1 := hrow.belowB X.out.1 hb k hlt 1 _ rfl
        have e2 := hrow.belowB X.out.1 hb k hlt 2 _ rfl
        simp only [Nat.add_zero] at e0
        have FIN := Lib.hid (dead_fin ((deadsOk_at hlt last).symm.trans R.out) SQ.out)
        have TK := Lib.hid (List.take_succ_eq_append_getElem hlt)
        have HROW := Lib.hid hrow
        obtain ⟨x, hx⟩ : ∃ x, x = dead[k] := ⟨_, rfl⟩
        rw [← hx] at e0 e1 e2 FIN TK
        have hi1 : (0 : Int) ≤ (k : Int) := by omega
        have hi2 : (k : Int) < (dead.length : Int) := by omega
        have hbw : b < wr.heap.size := by omega
        have FF := Lib.hid (fun (h : ¬ deadGood next (cs l) (dead.take k) x) => show shelfOk next (cs l) dead = false from HG2.out.trans (FIN.out.1 h))
        clear hrow hx R SQ
        subst hA
        obtain ⟨t, ht⟩ : ∃ t, t = wr.heap.size := ⟨_, rfl⟩
        have S3 := Lib.hid (X.out.1.trans (((Below.refl wr.heap.size wr).alloc (Nat.le_refl _) (.cells #[.int .i64 x.id, .int .i64 x.ver, .int .i64 x.seq] 60)).mono hz))
        by_cases g1 : 1 ≤ x.id
        case neg =>
          have t1 : decide (x.id < 1) = true := by simp; omega
          have RF := Lib.hid (FF.out (fun gd => g1 gd.1))
          clear g1 ht
          go_wp2_with (fail)
          go_ret
          rw [RF.out]
          exact RetV.of rfl S3.out
        case pos =>
        have t1 : decide (x.id < 1) = false := by simp; omega
        by_cases g2 : x.id < next
        case neg =>
          have t2 : decide (next ≤ x.id) = true := by simp; omega
          have RF := Lib.hid (FF.out (fun gd => g2 gd.2.1))
          clear g2 ht
          go_wp2_with (fail)
          go_ret
          rw [RF.out]
          exact RetV.of rfl S3.out
        case pos =>
        have t2 : decide (next ≤ x.id) = false := by simp; omega
        cases g3 : hasCard (cs l) x.id
        case true =>
          have t3 : decide (0 ≤ placeI x.id (cs l) 0) = true := (placeI_has x.id (cs l) 0).trans g3
          have RF := Lib.hid (FF.out (fun gd => by rw [gd.2.2.1] at g3; cases g3))
          clear g1 g2 g3 ht
          go_wp2_with (go_at_call 52; refine (c_ref18_place next l A c _ x.id _ (HC.out.below S3.out)).mono ?_; rintro e w2 ⟨rfl, hb2⟩; have p2 := fun o => hb2.cell (p := ⟨wr.heap.size, o, none⟩) (by simp))
          go_ret
          rw [RF.out]
          exact RetV.of rfl (S3.out.trans (hb2.mono S3.out.size))
        case false =>
        have t3 : decide (0 ≤ placeI x.id (cs l) 0) = false := (placeI_has x.id (cs l) 0).trans g3
        by_cases g4 : 1 ≤ x.ver
        case neg =>
          have t4 : decide (x.ver < 1) = true := by simp; omega
          have RF := Lib.hid (FF.out (fun gd => g4 gd.2.2.2.1))
          clear g4 ht
          go_wp2_with (go_at_call 52; refine (c_ref18_place next l A c _ x.id _ (HC.out.below S3.out)).mono ?_; rintro e w2 ⟨rfl, hb2⟩; have p2 := fun o => hb2.cell (p := ⟨wr.heap.size, o, none⟩) (by simp))
          go_ret
          rw [RF.out]
          exact RetV.of rfl (S3.out.trans (hb2.mono S3.out.size))
        case pos =>
        have t4 : decide (x.ver < 1) = false := by simp; omega
        by_cases g5 : x.ver ≤ 1099511627776
        case neg =>
          have t5 : decide (1099511627776 < x.ver) = true := by simp; omega
          have RF := Lib.hid (FF.out (fun gd => g5 gd.2.2.2.2.1))
          clear g5 ht
          go_wp2_with (go_at_call 52; refine (c_ref18_place next l A c _ x.id _ (HC.out.below S3.out)).mono ?_; rintro e w2 ⟨rfl, hb2⟩; have p2 := fun o => hb2.cell (p := ⟨wr.heap.size, o, none⟩) (by simp))
          go_ret
          rw [RF.out]
          exact RetV.of rfl (S3.out.trans (hb2.mono S3.out.size))
        case pos =>
        have t5 : decide (1099511627776 < x.ver) = false := by simp; omega
        by_cases g6 : 0 ≤ x.seq
        case neg =>
          have t6 : decide (x.seq < 0) = true := by simp; omega
          have RF := Lib.hid (FF.out (fun gd => g6 gd.2.2.2.2.2.1))
          clear g6 ht
          go_wp2_with (go_at_call 52; refine (c_ref18_place next l A c _ x.id _ (HC.out.below S3.out)).mono ?_; rintro e w2 ⟨rfl, hb2⟩; have p2 := fun o => hb2.cell (p := ⟨wr.heap.size, o, none⟩) (by simp))
          go_ret
          rw [RF.out]
          exact RetV.of rfl (S3.out.trans (hb2.mono S3.out.size))
        case pos =>
        have t6 : decide (x.seq < 0) = false := by simp; omega
        by_cases g7 : x.seq ≤ 1099511627776
        case neg =>
          have t7 : decide (1099511627776 < x.seq) = true := by simp; omega
          have RF := Lib.hid (FF.out (fun gd => g7 gd.2.2.2.2.2.2.1))
          clear g7 ht
          go_wp2_with (go_at_call 52; refine (c_ref18_place next l A c _ x.id _ (HC.out.below S3.out)).mono ?_; rintro e w2 ⟨rfl, hb2⟩; have p2 := fun o => hb2.cell (p := ⟨wr.heap.size, o, none⟩) (by simp))
          go_ret
          rw [RF.out]
          exact RetV.of rfl (S3.out.trans (hb2.mono S3.out.size))
        case pos =>
        have t7 : decide (1099511627776 < x.seq) = false := by simp; omega
        have GD := Lib.hid (fun (h : ∀ y ∈ dead.take k, y.id ≠ x.id ∧ y.seq ≤ x.seq) => show deadGood next (cs l) (dead.take k) x from ⟨g1, g2, g3, g4, g5, g6, g7, h⟩)
        clear g1 g2 g3 g4 g5 g6 g7
        have X3 := Lib.hid (X.out.step ((Below.refl wr.heap.size wr).alloc (Nat.le_refl _) (.cells #[.int .i64 x.id, .int .i64 x.ver, .int .i64 x.seq] 60)))
        have T3 := Lib.hid (Blk.new wr 60 #[.int .i64 x.id, .int .i64 x.ver, .int .i64 x.seq])
        go_wp2_with (go_at_call 52; refine (c_ref18_place next l A c _ x.id _ (HC.out.below S3.out)).mono ?_; rintro e w2 ⟨rfl, hb2⟩; have p2 := fun o => hb2.cell (p := ⟨wr.heap.size, o, none⟩) (by simp))
        have X4 := Lib.hid (X3.out.step hb2)
        have T4 := Lib.hid (T3.out.below hb2 T3.out.lt)
        rw [← ht] at T4 ⊢
        clear p2 hb2 q0 q1 q2 bl e0 e1 e2 X X3 T3 S3 ht hz hbw
        go_loopw [6] (fun i wr => ∃ m : Nat, m ≤ k ∧ i = .int .i64 m ∧ Hid (∀ y ∈ dead.take m, y.id ≠ x.id ∧ y.seq ≤ x.seq) ∧ Hid (At w wr #[.int .i64 next, .slice A l.length c, .slice (some ⟨b, off, none⟩) dead.length d]) ∧ Hid (Blk wr t #[.int .i64 x.id, .int .i64 x.ver, .int .i64 x.seq])) (fun i _ => k - (intOf i).toNat)
        case atStart => exact ⟨0, by omega, rfl, (fun y hy => (by first | cases hy | simp at hy)), X4.out, T4.out⟩
        case round =>
          clear X4 T4
          obtain ⟨m, hm, rfl, AL, X, T⟩ := hrel
          have q2 := X.out.2.cell (i := 2) rfl
          have bl := X.out.2.lt
          have r0 := T.out.cell (i := 0) rfl
          have r2 := T.out.cell (i := 2) rfl
          have tl := T.out.lt
          by_cases hmk : m < k
          · have d3 : decide ((m : Int) < (k : Int)) = true := by simp; omega
            have hmd : m < dead.length := by omega
            have e0 := HROW.out.belowB X.out.1 hb m hmd 0 _ rfl
            have e2 := HROW.out.belowB X.out.1 hb m hmd 2 _ rfl
            simp only [Nat.add_zero] at e0
            have TM := Lib.hid (List.take_succ_eq_append_getElem hmd)
            have MEM := Lib.hid (show dead[m] ∈ dead.take k from List.mem_take_iff_getElem.2 ⟨m, by omega, rfl⟩)
            obtain ⟨y, hy⟩ : ∃ y, y = dead[m] := ⟨_, rfl⟩
            rw [← hy] at e0 e2 TM MEM
            have hj1 : (0 : Int) ≤ (m : Int) := by omega
            have hj2 : (m : Int) < (dead.length : Int) := by omega
            have hbw : b < wr.heap.size := Nat.lt_of_lt_of_le hb X.out.1.size
            clear hy
            by_cases k1 : y.id = x.id
            · have t8 : (y.id == x.id) = true := by simpa using k1
              have RF := Lib.hid (FF.out (fun gd => (gd.2.2.2.2.2.2.2 y MEM.out).1 k1))
              clear k1
              go_wp2_with (fail)
              refine wp_region_grow (by kernel_rfl) (by kernel_rfl) ?_
              repeat (go_big_quiet_step ((first | (fail))))
              refine wpQuiet_nil ?_
              intro w5 hb5
              replace X := Lib.hid (X.out.step hb5)
              clear hb5 q2 bl r0 r2 tl e0 e2
              go_wp2_with (fail)
              go_ret
              rw [RF.out]
              exact RetV.of rfl X.out.1
            · have t8 : (y.id == x.id) = false := by simpa using k1
              by_cases k2 : y.seq ≤ x.seq
              · have t9 : decide (x.seq < y.seq) = false := by simp; omega
                have AL2 := Lib.hid (show ∀ z ∈ dead.take (m + 1), z.id ≠ x.id ∧ z.seq ≤ x.seq from fun z hz => by
                  rw [TM.out] at hz
                  rcases List.mem_append.1 hz with hz | hz
                  · exact AL.out z hz
                  · rw [List.mem_singleton.1 hz]; exact ⟨k1, k2⟩)
                clear k1 k2
                go_wp2_with (fail)
                refine wp_region_grow (by kernel_rfl) (by kernel_rfl) ?_
                repeat (go_big_quiet_step ((first | (fail))))
                refine wpQuiet_nil ?_
                intro w5 hb5
                replace X := Lib.hid (X.out.step hb5)
                replace T := Lib.hid (T.out.below hb5 tl)
                clear hb5 q2 bl r0 r2 tl e0 e2
                go_wp2_with (fail)
                go_roundw
                case rel => exact ⟨m + 1, by omega, by go_num, AL2.out, X.out, T.out⟩
                case measure => simp [intOf]; omega
              · have t9 : decide (x.seq < y.seq) = true := by simp; omega
                have RF := Lib.hid (FF.out (fun gd => k2 (gd.2.2.2.2.2.2.2 y MEM.out).2))
                clear k1 k2
                go_wp2_with (fail)
                refine wp_region_grow (by kernel_rfl) (by kernel_rfl) ?_
                repeat (go_big_quiet_step ((first | (fail))))
                refine wpQuiet_nil ?_
                intro w5 hb5
                replace X := Lib.hid (X.out.step hb5)
                clear hb5 q2 bl r0 r2 tl e0 e2
                go_wp2_with (fail)
                go_ret
                rw [RF.out]
                exact RetV.of rfl X.out.1
          · obtain rfl : m = k := by omega
            have d3 : decide ((m : Int) < (m : Int)) = false := by simp
            have GG := Lib.hid (GD.out AL.out)
            have R2 := Lib.hid (FIN.out.2 GG.out)
            have SQ2 := Lib.hid (show SeqAt (dead.take (m + 1)) x.seq by rw [TK.out]; exact @SeqAt.next _ 0 _ _ _ GG.out)
            clear q2 bl r0 r2 tl GG
            go_wp2_with (fail)
            go_roundw
            case rel => exact ⟨m + 1, x.seq, by omega, by go_num, SQ2.out, R2.out, X.out⟩
            case measure => simp [intOf]; omega
end Go.Proofs.YtldoedmclfbgpaaDoor
