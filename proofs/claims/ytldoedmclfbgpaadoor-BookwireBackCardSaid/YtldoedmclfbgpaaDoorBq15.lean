/-
  The walk of the statement BookwireBack: it answers true, whatever the book and the bytes. (Printed by gen21m.py.)
-/
import Derived.Test.YtldoedmclfbgpaaDoorBq4
import Derived.Test.YtldoedmclfbgpaaDoorBq13
namespace Go.Proofs.YtldoedmclfbgpaaDoor
open Go.RowKit

theorem rdDead'_len (st : Rd) : (rdDead' st).s.length ≤ st.s.length := by
  unfold rdDead'
  have h1 := rdN'_len st 1099511627776
  have h2 := rdN'_len (rdN' st 1099511627776) 1099511627776
  have h3 := rdN'_len (rdN' (rdN' st 1099511627776) 1099511627776) 1099511627776
  omega
theorem rdGrp'_len (st : Rd) : (rdGrp' st).s.length ≤ st.s.length := by
  unfold rdGrp'
  have h1 := rdL_len (one := rdMem) (one' := rdMem') (fun st => rdN'_len st _) (grN st) (grS st) []
  have h2 := rdN'_len (rdN' st 15) 48
  have h3 := rdN'_len st 15
  unfold grS at h1 ⊢
  omega
theorem rdBook'_len (st : Rd) : (rdBook' st).s.length ≤ st.s.length := by
  have h0 : (bkG st).2.s.length ≤ st.s.length := by
    have g1 := rdL_len (one := rdGrp) (one' := rdGrp') rdGrp'_len (rdN (bkD st).2 16).toNat (rdN' (bkD st).2 16) []
    have g2 := rdN'_len (bkD st).2 16
    have d1 := rdL_len (one := rdDead) (one' := rdDead') rdDead'_len (rdN (bkC st).2 40).toNat (rdN' (bkC st).2 40) []
    have d2 := rdN'_len (bkC st).2 40
    have c1 := rdL_len (one := rdCQ) (one' := rdCard') rdCard'_len (rdN (bkB st) 48).toNat (rdN' (bkB st) 48) []
    have c2 := rdN'_len (bkB st) 48
    have b1 := rdN'_len (bkA st) 1073741824
    have a1 := rdN'_len st 1099511627776
    have e1 : (bkG st).2.s.length ≤ (bkD st).2.s.length := Nat.le_trans g1 g2
    have e2 : (bkD st).2.s.length ≤ (bkC st).2.s.length := Nat.le_trans d1 d2
    have e3 : (bkC st).2.s.length ≤ (bkB st).s.length := Nat.le_trans c1 c2
    have e4 : (bkB st).s.length ≤ (bkA st).s.length := b1
    have e5 : (bkA st).s.length ≤ st.s.length := a1
    omega
  unfold rdBook'
  split
  · exact h0
  · exact Nat.le_trans (rdF_len _ _) h0
set_option maxHeartbeats 1000000 in
theorem law21_Back_long (b : BQ) (B : Option Addr) (nb cb : Nat) (w : World) (hr : b.raw w) (_hnb : nb ≤ cb) (_hcb : cb ≤ 9223372036854775807) (h : b.book.large = true ∨ 2000 < nb) :
    Calls Tryd.prog 4 #[.agg b.arr, .slice B nb cb] w (RetV w (.bool true)) := by
  have HR := Lib.hid hr
  have B0 := Lib.hid (At.new w 35 b.arr)
  clear hr
  cases h1 : b.book.large
  all_goals
    have HL := Lib.hid h1
    go_enter Tryd.func4, Tryd.ntmps4
    go_wp2_with (with_reducible refine stop_load 35 _ rfl rfl ?_)
    refine Stop.mk (wpList_loadB rfl _ _ rfl w.heap.size rfl _ B0.out.2 strBk rfl ?_)
    go_wp2_with (fail)
    refine (c_law20_Large b _ (HR.out.below B0.out.1)).mono ?_
    rintro e w1 ⟨rfl, hb1⟩
    replace B0 := Lib.hid (B0.out.step hb1)
    rw [HL.out]
    clear hb1
  · have h5 : 2000 < nb := by rw [h1] at h; exact h.resolve_left (by simp)
    have d5 : decide (2000 < (nb : Int)) = true := by simp; omega
    clear h h1
    go_wp2_with (fail)
    refine (c_law21_awake _).mono ?_
    rintro e w2 ⟨rfl, hb2⟩
    go_wp2_with (fail)
    go_ret
    exact RetV.bool rfl (B0.out.1.trans (hb2.mono B0.out.1.size))
  · clear h h1
    go_wp2_with (fail)
    refine (c_law21_awake _).mono ?_
    rintro e w2 ⟨rfl, hb2⟩
    go_wp2_with (fail)
    go_ret
    exact RetV.bool rfl (B0.out.1.trans (hb2.mono B0.out.1.size))
set_option maxHeartbeats 8000000 in
set_option maxRecDepth 4000 in
theorem c_law21_BookwireBack (b : BQ) (more : List UInt8) (B : Option Addr) (cb : Nat) (w : World) (hr : b.raw w) (hb : InB w B cb more) (hl : b.book.large = false) (hm : more.length ≤ 2000) (hT : Tab w) :
    Calls Tryd.prog 4 #[.agg b.arr, .slice B more.length cb] w (RetV w (.bool true)) := by
  have hL := hb.1
  have hC := hb.2.1
  have HB := Lib.hid hb
  obtain ⟨hf, hs⟩ := large_no hl
  have HAT := Lib.hid (hr.at_ hf hs)
  have HFW := Lib.hid hf
  have HR := Lib.hid hr
  have HL := Lib.hid hl
  have HT := Lib.hid hT
  obtain ⟨st, hst⟩ : ∃ st, st = rdBook' ⟨more, 0⟩ := ⟨_, rfl⟩
  obtain ⟨X, hX⟩ : ∃ X, X = rdBook ⟨more, 0⟩ := ⟨_, rfl⟩
  obtain ⟨lx, hlx⟩ : ∃ l, l = bookB X := ⟨_, rfl⟩
  have hlen : st.s.length ≤ more.length := by rw [hst]; exact rdBook'_len _
  have htook : st.e = 0 → X.ok = true ∧ more = lx ++ st.s := fun h => by
    rw [hst] at h
    have := rdBook_took h
    rw [hlx, hX, hst]
    exact ⟨this.2.1, this.2.2.2.2⟩
  have Hst := Lib.hid hst
  have HX := Lib.hid hX
  obtain ⟨n, hn⟩ : ∃ n, n = more.length - st.s.length := ⟨_, rfl⟩
  have hnm : n ≤ more.length := by omega
  have hw : IntKind.i64.wrap ((more.length : Int) - (st.s.length : Int)) = (n : Int) := by rw [IntWalk.i64_in _ (by omega)]; omega
  have Hn := Lib.hid hn
  have d5 : decide (2000 < (more.length : Int)) = false := by simp; omega
  have B0 := Lib.hid (At.new w 35 b.arr)
  clear hst hX hb hn hr hf hs hl hT
  go_enter Tryd.func4, Tryd.ntmps4
  go_wp2_with (with_reducible refine stop_load 35 _ rfl rfl ?_)
  refine Stop.mk (wpList_loadB rfl _ _ rfl w.heap.size rfl _ B0.out.2 strBk rfl ?_)
  go_wp2_with (fail)
  refine (c_law20_Large b _ (HR.out.below B0.out.1)).mono ?_
  rintro e w1 ⟨rfl, hb1⟩
  replace B0 := Lib.hid (B0.out.step hb1)
  rw [HL.out]
  clear hb1
  go_wp2_with (fail)
  refine (c_octet_New more B cb _ (HB.out.below B0.out.1)).mono ?_
  rintro e w2 ⟨g, rfl, hg, hr2, hb2⟩
  have HG := Lib.hid (show w.heap.size < g from Nat.lt_of_lt_of_le B0.out.2.lt hg)
  replace B0 := Lib.hid (B0.out.step hb2)
  have R2 := Lib.hid hr2
  clear hb2 hr2 hg
  go_wp2_with (fail)
  refine (c_bookwire_Read (some g) ⟨more, 0⟩ _ (HT.out.below B0.out.1) R2.out).mono ?_
  rintro e w3 ⟨b1, rfl, hbk1, hsm1, hob1, hr3, hk3⟩
  replace B0 := Lib.hid (B0.out.kept HG.out hk3)
  rw [← Hst.out] at hr3
  have R3 := Lib.hid hr3
  have SM1 := Lib.hid hsm1
  have O3 := Lib.hid hob1
  have HLX := Lib.hid (show bookB b1.book = lx by rw [hbk1, ← HX.out]; exact hlx.symm)
  have hlx5 : lx.length ≤ 50000 := by rw [← HLX.out]; exact bookB_len hsm1.few
  have HB1 := Lib.hid (show b1.book = X by rw [hbk1, ← HX.out])
  rw [← HB1.out] at htook
  clear hr3 hsm1 hob1 hk3 R2 hbk1 hlx
  go_wp2_with (with_reducible refine stS 35 _ _ rfl rfl ?_)
  refine Stop.mk (wsB rfl _ _ _ rfl w3.heap.size _ rfl rfl _ (Blk.new _ _ _) strBk rfl rfl (by simp [BQ.arr, Value.oneCell']) ?_)
  intro w4 hb4 hk4
  have k4 : Below w3.heap.size w3 w4 := fresh_below hk4
  replace B0 := Lib.hid (B0.out.step k4)
  replace R3 := Lib.hid (R3.out.below k4)
  replace O3 := Lib.hid (O3.out.below k4)
  obtain ⟨t, ht⟩ : ∃ g, g = w3.heap.size := ⟨_, rfl⟩
  rw [← ht] at hb4 ⊢
  have T4 := Lib.hid hb4
  clear hb4 hk4 k4 ht
  go_wp2_with (fail)
  refine (c_octet_Left' (some g) _ _ R3.out).mono ?_
  rintro e w5 ⟨rfl, hb5⟩
  replace B0 := Lib.hid (B0.out.step hb5)
  have R5 := Lib.hid (R3.out.below hb5)
  have O5 := Lib.hid (O3.out.below hb5)
  have T5 := Lib.hid (T4.out.below hb5 T4.out.lt)
  clear hb5 R3 O3 T4
  have hn0 : decide ((n : Int) < 0) = false := by simp
  have hn1 : decide (more.length < n) = false := by simp; omega
  go_wp2_with (fail)
  by_cases he : st.e = 0
  · have heb : (st.e == 0) = true := by simpa using he
    obtain ⟨hcx, hmx⟩ := htook he
    have hpn : more.take n = lx := by
      rw [Hn.out]
      have : more.length - st.s.length = lx.length := by rw [hmx, List.length_append]; omega
      rw [this]; conv => lhs; rw [hmx]
      exact List.take_left
    have Hcx := Lib.hid hcx
    have Hpn := Lib.hid hpn
    clear hcx hmx hpn he htook
    refine wp_region_rel [Sp.eq (.int .i64 n), Sp.eq (.bool false), Sp.eq (.bool false), Sp.eq (.int .i64 n), Sp.eq (.slice B more.length cb), Sp.eq (.int .i64 more.length), Sp.eq (.bool false), Sp.eq (.bool false), Sp.eq (.bool false), Sp.eq (ptr (some g)), Sp.eq (.int .i64 st.e), Sp.eq (.bool true), Sp.eq (.bool true), Sp.eq (.agg b1.arr), Sp.eq (.bool true), Sp.eq (.bool false), Sp.eq (.bool false), Sp.eq (.agg b1.arr), Sp.slice 1 bc lx, Sp.eq (.string (str lx)), Sp.eq (.slice B more.length cb), Sp.eq (.int .i64 n), Sp.eq (.slice B n cb), Sp.eq (.string (str lx)), Sp.eq (.bool false), Sp.eq (.bool false), Sp.eq (.bool false), Sp.eq (.bool false)] 84 (by kernel_rfl) (by kernel_rfl) rfl rfl ?_ ?_
    · refine ⟨?_, ?_, ?_, ?_, ?_, ?_, ?_, ?_, ?_, ?_, ?_, ?_, ?_, ?_, ?_, ?_, ?_, ?_, ?_, ?_, ?_, ?_, ?_, ?_, ?_, ?_, ?_, ?_, trivial⟩
      all_goals (intro u w4 hb4 hd; simp [Deps, Region.binds, Sp.slice_holds, Sp.eq_holds] at hd; simp only [putDeps, dstOf, Region.binds])
      case refine_1 =>
        (try (obtain ⟨d0, hd⟩ := hd; (try (obtain ⟨d1, hd⟩ := hd; (try (obtain ⟨d2, hd⟩ := hd))))))
        go_wp2_with (fail)
        exact RelEnd.mk rfl (Below.refl _ _) rfl
      case refine_2 =>
        (try (obtain ⟨d0, hd⟩ := hd; (try (obtain ⟨d1, hd⟩ := hd; (try (obtain ⟨d2, hd⟩ := hd))))))
        go_wp2_with (fail)
        exact RelEnd.mk rfl (Below.refl _ _) rfl
      case refine_3 =>
        (try (obtain ⟨d0, hd⟩ := hd; (try (obtain ⟨d1, hd⟩ := hd; (try (obtain ⟨d2, hd⟩ := hd))))))
        go_wp2_with (fail)
        exact RelEnd.mk rfl (Below.refl _ _) rfl
      case refine_4 =>
        (try (obtain ⟨d0, hd⟩ := hd; (try (obtain ⟨d1, hd⟩ := hd; (try (obtain ⟨d2, hd⟩ := hd))))))
        go_wp2_with (fail)
        exact RelEnd.mk rfl (Below.refl _ _) rfl
      case refine_5 =>
        (try (obtain ⟨d0, hd⟩ := hd; (try (obtain ⟨d1, hd⟩ := hd; (try (obtain ⟨d2, hd⟩ := hd))))))
        go_wp2_with (fail)
        exact RelEnd.mk rfl (Below.refl _ _) rfl
      case refine_6 =>
        (try (obtain ⟨d0, hd⟩ := hd; (try (obtain ⟨d1, hd⟩ := hd; (try (obtain ⟨d2, hd⟩ := hd))))))
        go_wp2_with (fail)
        exact RelEnd.mk rfl (Below.refl _ _) rfl
      case refine_7 =>
        (try (obtain ⟨d0, hd⟩ := hd; (try (obtain ⟨d1, hd⟩ := hd; (try (obtain ⟨d2, hd⟩ := hd))))))
        go_wp2_with (fail)
        exact RelEnd.mk rfl (Below.refl _ _) rfl
      case refine_8 =>
        (try (obtain ⟨d0, hd⟩ := hd; (try (obtain ⟨d1, hd⟩ := hd; (try (obtain ⟨d2, hd⟩ := hd))))))
        go_wp2_with (fail)
        exact RelEnd.mk rfl (Below.refl _ _) rfl
      case refine_9 =>
        (try (obtain ⟨d0, hd⟩ := hd; (try (obtain ⟨d1, hd⟩ := hd; (try (obtain ⟨d2, hd⟩ := hd))))))
        go_wp2_with (fail)
        exact RelEnd.mk rfl (Below.refl _ _) rfl
      case refine_10 =>
        (try (obtain ⟨d0, hd⟩ := hd; (try (obtain ⟨d1, hd⟩ := hd; (try (obtain ⟨d2, hd⟩ := hd))))))
        go_wp2_with (fail)
        exact RelEnd.mk rfl (Below.refl _ _) rfl
      case refine_11 =>
        go_wp2_with (go_at_call 10; refine (c_octet_Err' (some g) _ _ (R5.out.below hb4)).mono ?_; rintro e w5' ⟨rfl, hb5'⟩)
        exact RelEnd.mk rfl hb5' rfl
      case refine_12 =>
        (try (obtain ⟨d0, hd⟩ := hd; (try (obtain ⟨d1, hd⟩ := hd; (try (obtain ⟨d2, hd⟩ := hd))))))
        go_wp2_with (fail)
        exact RelEnd.mk rfl (Below.refl _ _) rfl
      case refine_13 =>
        (try (obtain ⟨d0, hd⟩ := hd; (try (obtain ⟨d1, hd⟩ := hd; (try (obtain ⟨d2, hd⟩ := hd))))))
        go_wp2_with (fail)
        exact RelEnd.mk rfl (Below.refl _ _) rfl
      case refine_14 =>
        go_wp2_with (with_reducible refine slG 35 _ rfl ?_)
        refine Stop.mk (wlG (by simp [Region.wanted, yielded]) _ _ rfl t 0 rfl b1.arr (T5.out.below hb4 T5.out.lt).all strBk rfl ?_)
        go_wp2_with (fail)
        exact RelEnd.mk rfl (Below.refl _ _) rfl
      case refine_15 =>
        go_wp2_with (go_at_call 13; refine (c_ref20_Right b1 _ ((O5.out.below hb4).at_ SM1.out) (fun x hx => by have := SM1.out.mem x hx; omega)).mono ?_; rintro e w5' ⟨rfl, hb5'⟩; rw [Hcx.out])
        exact RelEnd.mk rfl hb5' rfl
      case refine_16 =>
        (try (obtain ⟨d0, hd⟩ := hd; (try (obtain ⟨d1, hd⟩ := hd; (try (obtain ⟨d2, hd⟩ := hd))))))
        go_wp2_with (fail)
        exact RelEnd.mk rfl (Below.refl _ _) rfl
      case refine_17 =>
        (try (obtain ⟨d0, hd⟩ := hd; (try (obtain ⟨d1, hd⟩ := hd; (try (obtain ⟨d2, hd⟩ := hd))))))
        go_wp2_with (fail)
        exact RelEnd.mk rfl (Below.refl _ _) rfl
      case refine_18 =>
        go_wp2_with (with_reducible refine slG 35 _ rfl ?_)
        refine Stop.mk (wlG (by simp [Region.wanted, yielded]) _ _ rfl t 0 rfl b1.arr (T5.out.below hb4 T5.out.lt).all strBk rfl ?_)
        go_wp2_with (fail)
        exact RelEnd.mk rfl (Below.refl _ _) rfl
      case refine_19 =>
        go_wp2_with (go_at_call 14; refine (c_bookwire_Put [] none 0 b1 _ (In.nil (by omega)) (by simp) ((O5.out.below hb4).at_ SM1.out) SM1.out.few).mono ?_; rintro e w5' ⟨v5, rfl, own5, hb5'⟩; rw [List.nil_append, HLX.out] at own5)
        exact RelEnd.mk rfl hb5' (In.of_own bc_len own5 (by omega))
      case refine_20 =>
        obtain ⟨⟨A5, c5, d0, d1⟩, d9⟩ := hd
        have kc := conv_str (P := Tryd.prog) w4 Tryd.underlying22 Tryd.underlying5 Tryd.underlying9 d1
        have kc' : (convert 22 9 (u 18)).run Tryd.prog w4 = .ok (.string (str lx)) w4 := by rw [d0]; exact kc
        clear kc d0 d1
        go_wp2_with (fail)
        exact RelEnd.mk rfl (Below.refl _ _) rfl
      case refine_21 =>
        (try (obtain ⟨d0, hd⟩ := hd; (try (obtain ⟨d1, hd⟩ := hd; (try (obtain ⟨d2, hd⟩ := hd))))))
        go_wp2_with (fail)
        exact RelEnd.mk rfl (Below.refl _ _) rfl
      case refine_22 =>
        (try (obtain ⟨d0, hd⟩ := hd; (try (obtain ⟨d1, hd⟩ := hd; (try (obtain ⟨d2, hd⟩ := hd))))))
        go_wp2_with (fail)
        exact RelEnd.mk rfl (Below.refl _ _) rfl
      case refine_23 =>
        have kc := head_runN B cb more.length n hnm hL w4
        go_wp2_with (fail)
        exact RelEnd.mk rfl (Below.refl _ _) rfl
      case refine_24 =>
        have kc := conv_str (P := Tryd.prog) w4 Tryd.underlying22 Tryd.underlying5 Tryd.underlying9 ((HB.out.below (B0.out.1.trans (hb4.mono B0.out.1.size))).takeN hnm)
        rw [show (more.take n).length = n by rw [List.length_take]; omega, Hpn.out] at kc
        go_wp2_with (fail)
        exact RelEnd.mk rfl (Below.refl _ _) rfl
      case refine_25 =>
        (try (obtain ⟨d0, hd⟩ := hd; (try (obtain ⟨d1, hd⟩ := hd; (try (obtain ⟨d2, hd⟩ := hd))))))
        go_wp2_with (fail)
        exact RelEnd.mk rfl (Below.refl _ _) rfl
      case refine_26 =>
        (try (obtain ⟨d0, hd⟩ := hd; (try (obtain ⟨d1, hd⟩ := hd; (try (obtain ⟨d2, hd⟩ := hd))))))
        go_wp2_with (fail)
        exact RelEnd.mk rfl (Below.refl _ _) rfl
      case refine_27 =>
        (try (obtain ⟨d0, hd⟩ := hd; (try (obtain ⟨d1, hd⟩ := hd; (try (obtain ⟨d2, hd⟩ := hd))))))
        go_wp2_with (fail)
        exact RelEnd.mk rfl (Below.refl _ _) rfl
      case refine_28 =>
        (try (obtain ⟨d0, hd⟩ := hd; (try (obtain ⟨d1, hd⟩ := hd; (try (obtain ⟨d2, hd⟩ := hd))))))
        go_wp2_with (fail)
        exact RelEnd.mk rfl (Below.refl _ _) rfl
    · intro u w7 hb7' hold
      simp only [RelHold, Sp.eq_holds, Nat.reduceAdd] at hold
      obtain ⟨-, -, -, -, -, -, -, -, -, -, -, -, -, -, -, -, -, -, -, -, -, -, -, -, -, -, -, d27, -⟩ := hold
      simp only [putAll, Act.put, Nat.reduceAdd, List.setIfInBounds_toArray, List.set_cons_zero, List.set_cons_succ, d27]
      replace B0 := Lib.hid (B0.out.step hb7')
      clear hb7' T5 O5 R5 hn0 hn1 heb
      go_wp2_with (with_reducible refine stop_load 35 _ rfl rfl ?_)
      refine Stop.mk (wpList_loadB rfl _ _ rfl w.heap.size rfl _ B0.out.2 strBk rfl ?_)
      go_wp2_with (fail)
      refine (c_ref20_Right b _ (HAT.out.below B0.out.1) (fun x hx => by have := HFW.out.mem x hx; omega)).mono ?_
      rintro e w8 ⟨rfl, hb8⟩
      replace B0 := Lib.hid (B0.out.step hb8)
      clear hb8
      cases hok : b.book.ok
      · clear hok
        go_wp2_with (fail)
        refine (c_law21_awake _).mono ?_
        rintro e w9 ⟨rfl, hb9⟩
        go_wp2_with (fail)
        go_ret
        exact RetV.bool rfl (B0.out.1.trans (hb9.mono B0.out.1.size))
      · have HP := Lib.hid (rdBook_put (seq := b.seq) (next := b.next) (cards := b.cards) (dead := b.dead) (groups := grps b.groups) hok more)
        have hpl := bookB_len HFW.out
        obtain ⟨lb, hlb⟩ : ∃ l, l = bookB b.book := ⟨_, rfl⟩
        rw [← hlb] at hpl
        have HLB := Lib.hid hlb
        clear hok hlb
        go_wp2_with (with_reducible refine stop_load 35 _ rfl rfl ?_)
        refine Stop.mk (wpList_loadB rfl _ _ rfl w.heap.size rfl _ B0.out.2 strBk rfl ?_)
        go_wp2_with (fail)
        refine (c_bookwire_Put [] none 0 b _ (In.nil (by omega)) (by simp) (HAT.out.below B0.out.1) HFW.out).mono ?_
        rintro e w9 ⟨v9, rfl, own9, hb9⟩
        rw [List.nil_append, ← HLB.out] at own9
        have hz8 := B0.out.1.size
        have hl8 := B0.out.2.lt
        replace B0 := Lib.hid (B0.out.step hb9)
        have Own9 := Lib.hid own9
        obtain ⟨A9, c9, rfl, _, _⟩ := own_form own9
        have hz9 := hb9.size
        clear own9 hb9
        go_wp2_with ((at_builtin; refine Stop.out ?_))
        refine Stop.mk (wpList_app _ rfl _ _ elemB rfl w8.heap.size _ lb.length (lb.flatMap bc) rfl Own9.out B more.length cb (more.flatMap bc) rfl (Src.of_in bc_len (by omega) (HB.out.below B0.out.1)) (bc_one more) (by omega) hz9 ?_)
        intro v10 w10 own10 _ hb10 _
        rw [← List.flatMap_append, ← List.length_append] at own10
        obtain ⟨A10, c10, rfl, in10⟩ := In.of_own bc_len own10 (by simp only [List.length_append]; omega)
        have In10 := Lib.hid in10
        replace B0 := Lib.hid (show At w w10 b.arr from ⟨B0.out.1.trans (hb10.mono hz8), B0.out.2.below hb10 hl8⟩)
        clear own10 in10 hb10 Own9 hz9 hz8 hl8
        obtain ⟨all, hall⟩ : ∃ all, all = lb ++ more := ⟨_, rfl⟩
        have Hall := Lib.hid hall
        rw [← hall] at In10 ⊢
        clear hall
        go_wp2_with (fail)
        refine (c_octet_New all A10 c10 _ In10.out).mono ?_
        rintro e w11 ⟨g2, rfl, hg2, hr11, hb11⟩
        have HG2 := Lib.hid (show w.heap.size < g2 from Nat.lt_of_lt_of_le B0.out.2.lt hg2)
        replace B0 := Lib.hid (B0.out.step hb11)
        have R11 := Lib.hid hr11
        clear hb11 hr11 hg2
        go_wp2_with (fail)
        refine (c_bookwire_Read (some g2) ⟨all, 0⟩ _ (HT.out.below B0.out.1) R11.out).mono ?_
        rintro e w12 ⟨y, rfl, hyb, hys, hyo, hr12, hk12⟩
        replace B0 := Lib.hid (B0.out.kept HG2.out hk12)
        have e1 : rdBook' ⟨all, 0⟩ = ⟨more, 0⟩ := by rw [Hall.out, HLB.out]; exact HP.out.2
        have e2 : rdBook ⟨all, 0⟩ = b.book := by
          unfold rdBook
          rw [if_pos (by rw [e1]), Hall.out, HLB.out]
          exact HP.out.1
        rw [e1] at hr12
        have R12 := Lib.hid hr12
        have SMy := Lib.hid hys
        have OY := Lib.hid hyo
        have HYB := Lib.hid (hyb.trans e2)
        clear hr12 hys hyo hyb e1 e2 hk12 R11 In10 HP
        go_wp2_with (with_reducible refine stS 35 _ _ rfl rfl ?_)
        refine Stop.mk (wsB rfl _ _ _ rfl w12.heap.size _ rfl rfl _ (Blk.new _ _ _) strBk rfl rfl (by simp [BQ.arr, Value.oneCell']) ?_)
        intro w13 hb13 hk13
        have k13 : Below w12.heap.size w12 w13 := fresh_below hk13
        replace B0 := Lib.hid (B0.out.step k13)
        replace R12 := Lib.hid (R12.out.below k13)
        replace OY := Lib.hid (OY.out.below k13)
        obtain ⟨ty, hty⟩ : ∃ g, g = w12.heap.size := ⟨_, rfl⟩
        rw [← hty] at hb13 ⊢
        have TY := Lib.hid hb13
        clear hb13 hk13 k13 hty
        go_wp2_with (fail)
        refine (c_octet_Err' (some g2) _ _ R12.out).mono ?_
        rintro e w14 ⟨rfl, hb14⟩
        replace B0 := Lib.hid (B0.out.step hb14)
        replace R12 := Lib.hid (R12.out.below hb14)
        replace OY := Lib.hid (OY.out.below hb14)
        replace TY := Lib.hid (TY.out.below hb14 TY.out.lt)
        clear hb14
        go_wp2_with (with_reducible refine slG 35 _ rfl ?_)
        refine Stop.mk (wlG (by simp [Region.wanted, yielded]) _ _ rfl ty 0 rfl y.arr TY.out.all strBk rfl ?_)
        go_wp2_with (with_reducible refine slG 35 _ rfl ?_)
        refine Stop.mk (wlG (by simp [Region.wanted, yielded]) _ _ rfl w.heap.size 0 rfl b.arr B0.out.2.all strBk rfl ?_)
        go_wp2_with (fail)
        refine (c_ref20_SameE y b _ (OY.out.at_ SMy.out) (HAT.out.below B0.out.1) HYB.out).mono ?_
        rintro e w15 ⟨rfl, hb15⟩
        replace B0 := Lib.hid (B0.out.step hb15)
        replace R12 := Lib.hid (R12.out.below hb15)
        clear hb15
        go_wp2_with (fail)
        refine (c_octet_Left' (some g2) _ _ R12.out).mono ?_
        rintro e w16 ⟨rfl, hb16⟩
        replace B0 := Lib.hid (B0.out.step hb16)
        clear hb16
        go_wp2_with (fail)
        refine (c_law21_awake _).mono ?_
        rintro e w17 ⟨rfl, hb17⟩
        go_wp2_with (fail)
        go_ret
        exact RetV.bool rfl (B0.out.1.trans (hb17.mono B0.out.1.size))
  · have heb : (st.e == 0) = false := by simpa using he
    clear he htook
    refine wp_region_rel [Sp.eq (.int .i64 n), Sp.eq (.bool false), Sp.eq (.bool false), Sp.eq (.int .i64 n), Sp.eq (.slice B more.length cb), Sp.eq (.int .i64 more.length), Sp.eq (.bool false), Sp.eq (.bool false), Sp.eq (.bool false), Sp.eq (ptr (some g)), Sp.eq (.int .i64 st.e), Sp.eq (.bool false), Sp.eq (.bool false), Sp.eq (.tuple #[]), Sp.eq (.tuple #[]), Sp.eq (.tuple #[]), Sp.eq (.tuple #[]), Sp.eq (.tuple #[]), Sp.eq (.tuple #[]), Sp.eq (.tuple #[]), Sp.eq (.tuple #[]), Sp.eq (.tuple #[]), Sp.eq (.tuple #[]), Sp.eq (.tuple #[]), Sp.eq (.tuple #[]), Sp.eq (.tuple #[]), Sp.eq (.bool false), Sp.eq (.bool false)] 84 (by kernel_rfl) (by kernel_rfl) rfl rfl ?_ ?_
    · refine ⟨?_, ?_, ?_, ?_, ?_, ?_, ?_, ?_, ?_, ?_, ?_, ?_, ?_, ?_, ?_, ?_, ?_, ?_, ?_, ?_, ?_, ?_, ?_, ?_, ?_, ?_, ?_, ?_, trivial⟩
      all_goals (intro u w4 hb4 hd; simp [Deps, Region.binds, Sp.eq_holds] at hd; simp only [putDeps, dstOf, Region.binds])
      case refine_1 =>
        (try (obtain ⟨d0, hd⟩ := hd; (try (obtain ⟨d1, hd⟩ := hd; (try (obtain ⟨d2, hd⟩ := hd))))))
        go_wp2_with (fail)
        exact RelEnd.mk rfl (Below.refl _ _) rfl
      case refine_2 =>
        (try (obtain ⟨d0, hd⟩ := hd; (try (obtain ⟨d1, hd⟩ := hd; (try (obtain ⟨d2, hd⟩ := hd))))))
        go_wp2_with (fail)
        exact RelEnd.mk rfl (Below.refl _ _) rfl
      case refine_3 =>
        (try (obtain ⟨d0, hd⟩ := hd; (try (obtain ⟨d1, hd⟩ := hd; (try (obtain ⟨d2, hd⟩ := hd))))))
        go_wp2_with (fail)
        exact RelEnd.mk rfl (Below.refl _ _) rfl
      case refine_4 =>
        (try (obtain ⟨d0, hd⟩ := hd; (try (obtain ⟨d1, hd⟩ := hd; (try (obtain ⟨d2, hd⟩ := hd))))))
        go_wp2_with (fail)
        exact RelEnd.mk rfl (Below.refl _ _) rfl
      case refine_5 =>
        (try (obtain ⟨d0, hd⟩ := hd; (try (obtain ⟨d1, hd⟩ := hd; (try (obtain ⟨d2, hd⟩ := hd))))))
        go_wp2_with (fail)
        exact RelEnd.mk rfl (Below.refl _ _) rfl
      case refine_6 =>
        (try (obtain ⟨d0, hd⟩ := hd; (try (obtain ⟨d1, hd⟩ := hd; (try (obtain ⟨d2, hd⟩ := hd))))))
        go_wp2_with (fail)
        exact RelEnd.mk rfl (Below.refl _ _) rfl
      case refine_7 =>
        (try (obtain ⟨d0, hd⟩ := hd; (try (obtain ⟨d1, hd⟩ := hd; (try (obtain ⟨d2, hd⟩ := hd))))))
        go_wp2_with (fail)
        exact RelEnd.mk rfl (Below.refl _ _) rfl
      case refine_8 =>
        (try (obtain ⟨d0, hd⟩ := hd; (try (obtain ⟨d1, hd⟩ := hd; (try (obtain ⟨d2, hd⟩ := hd))))))
        go_wp2_with (fail)
        exact RelEnd.mk rfl (Below.refl _ _) rfl
      case refine_9 =>
        (try (obtain ⟨d0, hd⟩ := hd; (try (obtain ⟨d1, hd⟩ := hd; (try (obtain ⟨d2, hd⟩ := hd))))))
        go_wp2_with (fail)
        exact RelEnd.mk rfl (Below.refl _ _) rfl
      case refine_10 =>
        (try (obtain ⟨d0, hd⟩ := hd; (try (obtain ⟨d1, hd⟩ := hd; (try (obtain ⟨d2, hd⟩ := hd))))))
        go_wp2_with (fail)
        exact RelEnd.mk rfl (Below.refl _ _) rfl
      case refine_11 =>
        go_wp2_with (go_at_call 10; refine (c_octet_Err' (some g) _ _ (R5.out.below hb4)).mono ?_; rintro e w5' ⟨rfl, hb5'⟩)
        exact RelEnd.mk rfl hb5' rfl
      case refine_12 =>
        (try (obtain ⟨d0, hd⟩ := hd; (try (obtain ⟨d1, hd⟩ := hd; (try (obtain ⟨d2, hd⟩ := hd))))))
        go_wp2_with (fail)
        exact RelEnd.mk rfl (Below.refl _ _) rfl
      case refine_13 =>
        (try (obtain ⟨d0, hd⟩ := hd; (try (obtain ⟨d1, hd⟩ := hd; (try (obtain ⟨d2, hd⟩ := hd))))))
        go_wp2_with (fail)
        exact RelEnd.mk rfl (Below.refl _ _) rfl
      case refine_14 =>
        (try (obtain ⟨d0, hd⟩ := hd; (try (obtain ⟨d1, hd⟩ := hd; (try (obtain ⟨d2, hd⟩ := hd))))))
        go_wp2_with (fail)
        exact RelEnd.mk rfl (Below.refl _ _) rfl
      case refine_15 =>
        (try (obtain ⟨d0, hd⟩ := hd; (try (obtain ⟨d1, hd⟩ := hd; (try (obtain ⟨d2, hd⟩ := hd))))))
        go_wp2_with (fail)
        exact RelEnd.mk rfl (Below.refl _ _) rfl
      case refine_16 =>
        (try (obtain ⟨d0, hd⟩ := hd; (try (obtain ⟨d1, hd⟩ := hd; (try (obtain ⟨d2, hd⟩ := hd))))))
        go_wp2_with (fail)
        exact RelEnd.mk rfl (Below.refl _ _) rfl
      case refine_17 =>
        (try (obtain ⟨d0, hd⟩ := hd; (try (obtain ⟨d1, hd⟩ := hd; (try (obtain ⟨d2, hd⟩ := hd))))))
        go_wp2_with (fail)
        exact RelEnd.mk rfl (Below.refl _ _) rfl
      case refine_18 =>
        (try (obtain ⟨d0, hd⟩ := hd; (try (obtain ⟨d1, hd⟩ := hd; (try (obtain ⟨d2, hd⟩ := hd))))))
        go_wp2_with (fail)
        exact RelEnd.mk rfl (Below.refl _ _) rfl
      case refine_19 =>
        (try (obtain ⟨d0, hd⟩ := hd; (try (obtain ⟨d1, hd⟩ := hd; (try (obtain ⟨d2, hd⟩ := hd))))))
        go_wp2_with (fail)
        exact RelEnd.mk rfl (Below.refl _ _) rfl
      case refine_20 =>
        (try (obtain ⟨d0, hd⟩ := hd; (try (obtain ⟨d1, hd⟩ := hd; (try (obtain ⟨d2, hd⟩ := hd))))))
        go_wp2_with (fail)
        exact RelEnd.mk rfl (Below.refl _ _) rfl
      case refine_21 =>
        (try (obtain ⟨d0, hd⟩ := hd; (try (obtain ⟨d1, hd⟩ := hd; (try (obtain ⟨d2, hd⟩ := hd))))))
        go_wp2_with (fail)
        exact RelEnd.mk rfl (Below.refl _ _) rfl
      case refine_22 =>
        (try (obtain ⟨d0, hd⟩ := hd; (try (obtain ⟨d1, hd⟩ := hd; (try (obtain ⟨d2, hd⟩ := hd))))))
        go_wp2_with (fail)
        exact RelEnd.mk rfl (Below.refl _ _) rfl
      case refine_23 =>
        (try (obtain ⟨d0, hd⟩ := hd; (try (obtain ⟨d1, hd⟩ := hd; (try (obtain ⟨d2, hd⟩ := hd))))))
        go_wp2_with (fail)
        exact RelEnd.mk rfl (Below.refl _ _) rfl
      case refine_24 =>
        (try (obtain ⟨d0, hd⟩ := hd; (try (obtain ⟨d1, hd⟩ := hd; (try (obtain ⟨d2, hd⟩ := hd))))))
        go_wp2_with (fail)
        exact RelEnd.mk rfl (Below.refl _ _) rfl
      case refine_25 =>
        (try (obtain ⟨d0, hd⟩ := hd; (try (obtain ⟨d1, hd⟩ := hd; (try (obtain ⟨d2, hd⟩ := hd))))))
        go_wp2_with (fail)
        exact RelEnd.mk rfl (Below.refl _ _) rfl
      case refine_26 =>
        (try (obtain ⟨d0, hd⟩ := hd; (try (obtain ⟨d1, hd⟩ := hd; (try (obtain ⟨d2, hd⟩ := hd))))))
        go_wp2_with (fail)
        exact RelEnd.mk rfl (Below.refl _ _) rfl
      case refine_27 =>
        (try (obtain ⟨d0, hd⟩ := hd; (try (obtain ⟨d1, hd⟩ := hd; (try (obtain ⟨d2, hd⟩ := hd))))))
        go_wp2_with (fail)
        exact RelEnd.mk rfl (Below.refl _ _) rfl
      case refine_28 =>
        (try (obtain ⟨d0, hd⟩ := hd; (try (obtain ⟨d1, hd⟩ := hd; (try (obtain ⟨d2, hd⟩ := hd))))))
        go_wp2_with (fail)
        exact RelEnd.mk rfl (Below.refl _ _) rfl
    · intro u w7 hb7' hold
      simp only [RelHold, Sp.eq_holds, Nat.reduceAdd] at hold
      obtain ⟨-, -, -, -, -, -, -, -, -, -, -, -, -, -, -, -, -, -, -, -, -, -, -, -, -, -, -, d27, -⟩ := hold
      simp only [putAll, Act.put, Nat.reduceAdd, List.setIfInBounds_toArray, List.set_cons_zero, List.set_cons_succ, d27]
      replace B0 := Lib.hid (B0.out.step hb7')
      clear hb7' T5 O5 R5 hn0 hn1 heb
      go_wp2_with (with_reducible refine stop_load 35 _ rfl rfl ?_)
      refine Stop.mk (wpList_loadB rfl _ _ rfl w.heap.size rfl _ B0.out.2 strBk rfl ?_)
      go_wp2_with (fail)
      refine (c_ref20_Right b _ (HAT.out.below B0.out.1) (fun x hx => by have := HFW.out.mem x hx; omega)).mono ?_
      rintro e w8 ⟨rfl, hb8⟩
      replace B0 := Lib.hid (B0.out.step hb8)
      clear hb8
      cases hok : b.book.ok
      · clear hok
        go_wp2_with (fail)
        refine (c_law21_awake _).mono ?_
        rintro e w9 ⟨rfl, hb9⟩
        go_wp2_with (fail)
        go_ret
        exact RetV.bool rfl (B0.out.1.trans (hb9.mono B0.out.1.size))
      · have HP := Lib.hid (rdBook_put (seq := b.seq) (next := b.next) (cards := b.cards) (dead := b.dead) (groups := grps b.groups) hok more)
        have hpl := bookB_len HFW.out
        obtain ⟨lb, hlb⟩ : ∃ l, l = bookB b.book := ⟨_, rfl⟩
        rw [← hlb] at hpl
        have HLB := Lib.hid hlb
        clear hok hlb
        go_wp2_with (with_reducible refine stop_load 35 _ rfl rfl ?_)
        refine Stop.mk (wpList_loadB rfl _ _ rfl w.heap.size rfl _ B0.out.2 strBk rfl ?_)
        go_wp2_with (fail)
        refine (c_bookwire_Put [] none 0 b _ (In.nil (by omega)) (by simp) (HAT.out.below B0.out.1) HFW.out).mono ?_
        rintro e w9 ⟨v9, rfl, own9, hb9⟩
        rw [List.nil_append, ← HLB.out] at own9
        have hz8 := B0.out.1.size
        have hl8 := B0.out.2.lt
        replace B0 := Lib.hid (B0.out.step hb9)
        have Own9 := Lib.hid own9
        obtain ⟨A9, c9, rfl, _, _⟩ := own_form own9
        have hz9 := hb9.size
        clear own9 hb9
        go_wp2_with ((at_builtin; refine Stop.out ?_))
        refine Stop.mk (wpList_app _ rfl _ _ elemB rfl w8.heap.size _ lb.length (lb.flatMap bc) rfl Own9.out B more.length cb (more.flatMap bc) rfl (Src.of_in bc_len (by omega) (HB.out.below B0.out.1)) (bc_one more) (by omega) hz9 ?_)
        intro v10 w10 own10 _ hb10 _
        rw [← List.flatMap_append, ← List.length_append] at own10
        obtain ⟨A10, c10, rfl, in10⟩ := In.of_own bc_len own10 (by simp only [List.length_append]; omega)
        have In10 := Lib.hid in10
        replace B0 := Lib.hid (show At w w10 b.arr from ⟨B0.out.1.trans (hb10.mono hz8), B0.out.2.below hb10 hl8⟩)
        clear own10 in10 hb10 Own9 hz9 hz8 hl8
        obtain ⟨all, hall⟩ : ∃ all, all = lb ++ more := ⟨_, rfl⟩
        have Hall := Lib.hid hall
        rw [← hall] at In10 ⊢
        clear hall
        go_wp2_with (fail)
        refine (c_octet_New all A10 c10 _ In10.out).mono ?_
        rintro e w11 ⟨g2, rfl, hg2, hr11, hb11⟩
        have HG2 := Lib.hid (show w.heap.size < g2 from Nat.lt_of_lt_of_le B0.out.2.lt hg2)
        replace B0 := Lib.hid (B0.out.step hb11)
        have R11 := Lib.hid hr11
        clear hb11 hr11 hg2
        go_wp2_with (fail)
        refine (c_bookwire_Read (some g2) ⟨all, 0⟩ _ (HT.out.below B0.out.1) R11.out).mono ?_
        rintro e w12 ⟨y, rfl, hyb, hys, hyo, hr12, hk12⟩
        replace B0 := Lib.hid (B0.out.kept HG2.out hk12)
        have e1 : rdBook' ⟨all, 0⟩ = ⟨more, 0⟩ := by rw [Hall.out, HLB.out]; exact HP.out.2
        have e2 : rdBook ⟨all, 0⟩ = b.book := by
          unfold rdBook
          rw [if_pos (by rw [e1]), Hall.out, HLB.out]
          exact HP.out.1
        rw [e1] at hr12
        have R12 := Lib.hid hr12
        have SMy := Lib.hid hys
        have OY := Lib.hid hyo
        have HYB := Lib.hid (hyb.trans e2)
        clear hr12 hys hyo hyb e1 e2 hk12 R11 In10 HP
        go_wp2_with (with_reducible refine stS 35 _ _ rfl rfl ?_)
        refine Stop.mk (wsB rfl _ _ _ rfl w12.heap.size _ rfl rfl _ (Blk.new _ _ _) strBk rfl rfl (by simp [BQ.arr, Value.oneCell']) ?_)
        intro w13 hb13 hk13
        have k13 : Below w12.heap.size w12 w13 := fresh_below hk13
        replace B0 := Lib.hid (B0.out.step k13)
        replace R12 := Lib.hid (R12.out.below k13)
        replace OY := Lib.hid (OY.out.below k13)
        obtain ⟨ty, hty⟩ : ∃ g, g = w12.heap.size := ⟨_, rfl⟩
        rw [← hty] at hb13 ⊢
        have TY := Lib.hid hb13
        clear hb13 hk13 k13 hty
        go_wp2_with (fail)
        refine (c_octet_Err' (some g2) _ _ R12.out).mono ?_
        rintro e w14 ⟨rfl, hb14⟩
        replace B0 := Lib.hid (B0.out.step hb14)
        replace R12 := Lib.hid (R12.out.below hb14)
        replace OY := Lib.hid (OY.out.below hb14)
        replace TY := Lib.hid (TY.out.below hb14 TY.out.lt)
        clear hb14
        go_wp2_with (with_reducible refine slG 35 _ rfl ?_)
        refine Stop.mk (wlG (by simp [Region.wanted, yielded]) _ _ rfl ty 0 rfl y.arr TY.out.all strBk rfl ?_)
        go_wp2_with (with_reducible refine slG 35 _ rfl ?_)
        refine Stop.mk (wlG (by simp [Region.wanted, yielded]) _ _ rfl w.heap.size 0 rfl b.arr B0.out.2.all strBk rfl ?_)
        go_wp2_with (fail)
        refine (c_ref20_SameE y b _ (OY.out.at_ SMy.out) (HAT.out.below B0.out.1) HYB.out).mono ?_
        rintro e w15 ⟨rfl, hb15⟩
        replace B0 := Lib.hid (B0.out.step hb15)
        replace R12 := Lib.hid (R12.out.below hb15)
        clear hb15
        go_wp2_with (fail)
        refine (c_octet_Left' (some g2) _ _ R12.out).mono ?_
        rintro e w16 ⟨rfl, hb16⟩
        replace B0 := Lib.hid (B0.out.step hb16)
        clear hb16
        go_wp2_with (fail)
        refine (c_law21_awake _).mono ?_
        rintro e w17 ⟨rfl, hb17⟩
        go_wp2_with (fail)
        go_ret
        exact RetV.bool rfl (B0.out.1.trans (hb17.mono B0.out.1.size))
end Go.Proofs.YtldoedmclfbgpaaDoor
