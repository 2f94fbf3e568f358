/-
  Lemmas (walks and plain laws), in one text.
-/
import Derived.Test.YtldoedmclfbgpaaBw2
import Derived.Test.YtldoedmclfbgpaaBw3
import Derived.Test.YtldoedmclfbgpaaBw7
import Derived.Test.YtldoedmclfbgpaaBw8
namespace Go.Proofs.Ytldoedmclfbgpaa
open Go.RowKit

theorem In.ownB {α : Type} {k : Nat} {cs : α → List Value} {w : World} {base : Nat} {e : TypeId} {A : Option Addr} {c : Nat} {l : List α} (hk : ∀ x, (cs x).length = k) (h : w.ownsRow base e k (.slice A l.length c) l.length (l.flatMap cs)) (hs : l.length ≤ 4294967296) : In k cs w A c l := by
  obtain ⟨A', c', hv, hin⟩ := In.of_own hk h hs
  injection hv with e1 _ e2
  subst e1 e2
  exact hin
set_option maxRecDepth 10000 in
set_option maxHeartbeats 32000000 in
theorem bookwire_Put (bs : List UInt8) (B : Option Addr) (cb : Nat) (seq next : Int) (cards : List CQ) (dead : List Dead) (groups : List GQ) (A : Option Addr) (a : Nat) (D : Option Addr) (d : Nat) (G : Option Addr) (gc : Nat) (w : World) (hbs : InB w B cb bs) (hbl : bs.length ≤ 100000) (hc : In 27 CQ.cells w A a cards) (hd : In 3 Dead.cells w D d dead) (hg : In 2 GQ.cells w G gc groups)
    (hgm : ∀ x ∈ groups, InI w x.A x.c x.mem) (hfit : ∀ x ∈ cards, ∀ y ∈ x.c.f, y.s.length ≤ 4294967000) (f1 : cards.length ≤ 60) (f2 : dead.length ≤ 60) (f3 : groups.length ≤ 40) (f4 : ∀ x ∈ groups, x.mem.length ≤ 100) :
    Calls Try.prog 13 #[.slice B bs.length cb, .agg #[.int .i64 seq, .int .i64 next, .slice A cards.length a, .slice D dead.length d, .slice G groups.length gc]] w (RetS 1 bc 5 w (bs ++ bookB ⟨seq, next, cs cards, dead, grps groups⟩)) := by
  have hB1 := hbs.1
  have hB2 := hbs.2.1
  have hS1 := hc.1
  have hS2 := hc.2.1
  have hS3 := hc.2.2.1
  have hD1 := hd.1
  have hD2 := hd.2.1
  have hD3 := hd.2.2.1
  have hG1 := hg.1
  have hG2 := hg.2.1
  have hG3 := hg.2.2.1
  have HB := Lib.hid hbs
  have HC := Lib.hid hc
  have HD := Lib.hid hd
  have HGG := Lib.hid hg
  have HGM := Lib.hid hgm
  have HF := Lib.hid hfit
  have HM := Lib.hid f4
  have B0 := Lib.hid (At.new w 26 #[.int .i64 seq, .int .i64 next, .slice A cards.length a, .slice D dead.length d, .slice G groups.length gc])
  clear hc hd hg hgm hfit f4 hbs
  cases hok : Book.ok ⟨seq, next, cs cards, dead, grps groups⟩
  all_goals
    have HOK := Lib.hid hok
    clear hok
    go_enter Try.func13, Try.ntmps13
    go_wp2_with (with_reducible refine stop_load 26 _ rfl rfl ?_)
    refine Stop.mk (wpList_loadB rfl _ _ rfl w.heap.size rfl _ B0.out.2 strBk rfl ?_)
    go_wp2_with (fail)
    refine (book_Load seq next cards dead groups A a D d G gc _ (HC.out.below B0.out.1) (HD.out.below B0.out.1) (HGG.out.below B0.out.1) (fun x hx => (HGM.out x hx).below B0.out.1) HF.out (fun x hx => by have := HM.out x hx; omega) (by omega)).mono ?_
    rintro e w1 ⟨p, rfl, hb1⟩
    replace B0 := Lib.hid (B0.out.step hb1)
    rw [HOK.out]
    clear hb1
  · have H : Hid (bs = bs ++ bookB ⟨seq, next, cs cards, dead, grps groups⟩) := by show _ = _; rw [bookB_bad HOK.out, List.append_nil]
    go_wp2_with (fail)
    refine (c_Clone_b bs B cb _ (HB.out.below B0.out.1)).mono ?_
    rintro e w2 ⟨v2, rfl, own2, hb2⟩
    go_wp2_with (fail)
    go_ret
    exact RetS.of own2 B0.out.1.size H.out (B0.out.1.trans (hb2.mono B0.out.1.size))
  · obtain ⟨l1, hl1⟩ : ∃ l, l = bs ++ num seq := ⟨_, rfl⟩
    obtain ⟨l2, hl2⟩ : ∃ l, l = l1 ++ num next := ⟨_, rfl⟩
    have hn0 := (num_len seq).2
    have hn1 := (num_len next).2
    have hl1n : l1.length ≤ bs.length + 7 := by rw [hl1, List.length_append]; omega
    have hl2n : l2.length ≤ bs.length + 14 := by rw [hl2, List.length_append]; omega
    have L1 := Lib.hid hl1
    have L2 := Lib.hid hl2
    have hbw := B0.out.1.size
    have BW := Lib.hid B0.out.2
    clear hl1 hl2
    go_wp2_with (fail)
    refine wp_region_rel [Sp.slice 1 bc bs, Sp.eq (.pointer (some ⟨w.heap.size, 0, none⟩)), Sp.eq (.int .i64 seq), Sp.own w.heap.size 5 1 bc l1, Sp.eq (.pointer (some ⟨w.heap.size, 1, none⟩)), Sp.eq (.int .i64 next), Sp.own w.heap.size 5 1 bc l2, Sp.own w.heap.size 5 1 bc l2] 103 (by kernel_rfl) (by kernel_rfl) rfl rfl ?_ ?_
    · refine ⟨?_, ?_, ?_, ?_, ?_, ?_, ?_, ?_, trivial⟩
      all_goals (intro u w2 hb2 hd; simp [Deps, Region.binds, Sp.own_holds, Sp.slice_holds, Sp.eq_holds] at hd; simp only [putDeps, dstOf, Region.binds])
      case refine_1 =>
        go_wp2_with (fail); exact RelEnd.mk rfl (Below.refl _ _) ⟨B, cb, rfl, HB.out.below (B0.out.1.trans (hb2.mono hbw))⟩
      case refine_2 =>
        go_wp2_with (fail); exact RelEnd.mk rfl (Below.refl _ _) rfl
      case refine_3 =>
        have q := (BW.out.below hb2 BW.out.lt).cell (i := 0) rfl
        go_wp2_with (fail); exact RelEnd.mk rfl (Below.refl _ _) rfl
      case refine_4 =>
        have hx : (Sp.slice 1 bc bs).holds (u 0) w2 := by first | exact hd | exact hd.1 | exact hd.2
        obtain ⟨A4, c4, e4, in4⟩ := hx
        go_wp2_with (go_at_call 46; refine (c_octet_Num bs A4 c4 seq _ in4).mono ?_; rintro e w3 ⟨v3, rfl, own3, hb3⟩)
        rw [← L1.out] at own3
        exact RelEnd.mk rfl hb3 (own_base own3 (Nat.le_trans hbw hb2.size))
      case refine_5 =>
        go_wp2_with (fail); exact RelEnd.mk rfl (Below.refl _ _) rfl
      case refine_6 =>
        have q := (BW.out.below hb2 BW.out.lt).cell (i := 1) rfl
        go_wp2_with (fail); exact RelEnd.mk rfl (Below.refl _ _) rfl
      case refine_7 =>
        have hx : (Sp.own w.heap.size 5 1 bc l1).holds (u 3) w2 := by first | exact hd | exact hd.1 | exact hd.2
        obtain ⟨A4, c4, e4, in4⟩ := In.of_own bc_len hx (by omega)
        go_wp2_with (go_at_call 46; refine (c_octet_Num l1 A4 c4 next _ in4).mono ?_; rintro e w3 ⟨v3, rfl, own3, hb3⟩)
        rw [← L2.out] at own3
        exact RelEnd.mk rfl hb3 (own_base own3 (Nat.le_trans hbw hb2.size))
      case refine_8 =>
        have hx : (Sp.own w.heap.size 5 1 bc l2).holds (u 6) w2 := by first | exact hd | exact hd.1 | exact hd.2
        go_wp2_with (fail); exact RelEnd.mk rfl (Below.refl _ _) hx
    · intro u w2 hb2 hold
      simp only [RelHold, Sp.eq_holds, Sp.own_holds, Sp.slice_holds] at hold
      obtain ⟨-, -, -, -, -, -, -, hE, -⟩ := hold
      simp only [putAll, Act.put, Nat.reduceAdd, List.setIfInBounds_toArray, List.set_cons_zero, List.set_cons_succ]
      replace B0 := Lib.hid (B0.out.step hb2)
      obtain ⟨A2, c2, e2, in2⟩ := In.of_own bc_len hE (by omega)
      rw [e2]
      have IN := Lib.hid in2
      have q2 := B0.out.2.cell (i := 2) rfl
      have hn2 := (num_len (cards.length : Int)).2
      clear hE e2 in2 hb2 hbw BW
      go_wp2_with (fail)
      refine (c_octet_Num l2 A2 c2 (cards.length : Int) _ IN.out).mono ?_
      rintro e w3 ⟨v3, rfl, own3, hb3⟩
      obtain ⟨l3, hl3⟩ : ∃ l, l = l2 ++ num (cards.length : Int) := ⟨_, rfl⟩
      have hl3n : l3.length ≤ bs.length + 21 := by rw [hl3, List.length_append]; omega
      have L3 := Lib.hid (show l3 = bs ++ bk1 seq next (cs cards).length by rw [hl3, L2.out, L1.out, cs_len]; unfold bk1; simp)
      rw [← hl3] at own3
      have O3 := Lib.hid (own_base own3 B0.out.1.size)
      obtain ⟨A3, c3, rfl, -⟩ := own_form O3.out
      replace B0 := Lib.hid (B0.out.step hb3)
      clear hb3 own3 hl3 q2 IN L1 L2 hl1n hl2n
      have q2 := B0.out.2.cell (i := 2) rfl
      have bl := B0.out.2.lt
      go_wp2_with (fail)
      clear q2 bl
      go_loopw [0, 8, 39] (fun v _ i wr => ∃ (k : Nat) (acc : List UInt8) (A1 : Option Addr) (c1 : Nat), k ≤ cards.length ∧ i = .int .i64 k ∧ v = .slice A1 acc.length c1 ∧ acc.length ≤ bs.length + 21 + 332 * k ∧ Hid (acc = l3 ++ ((cs cards).take k).flatMap cardB) ∧ Hid (wr.ownsRow w.heap.size 5 1 v acc.length (acc.flatMap bc)) ∧ Hid (At w wr #[.int .i64 seq, .int .i64 next, .slice A cards.length a, .slice D dead.length d, .slice G groups.length gc])) (fun _ _ i _ => cards.length - (intOf i).toNat)
      case atStart => exact ⟨0, l3, A3, c3, by omega, rfl, rfl, by omega, by show _ = _; simp, O3.out, B0.out⟩
      case round =>
        clear B0 O3
        obtain ⟨k, acc, A1, c1, hk, rfl, rfl, hal, HA, O, X⟩ := hrel
        by_cases hlt : k < cards.length
        · have d1 : decide ((k : Int) < (cards.length : Int)) = true := by simp; omega
          obtain ⟨b, off, hA, hb, hat⟩ := CQ.at HC.out hlt
          have HAT := Lib.hid hat
          have HFX := Lib.hid (HF.out _ (List.getElem_mem hlt))
          have TK := Lib.hid (flat_at (f := cardB) (l := cs cards) (k := k) (by rw [cs_len]; exact hlt))
          rw [cs_get hlt] at TK
          obtain ⟨x, hx⟩ : ∃ x, x = cards[k] := ⟨_, rfl⟩
          rw [← hx] at HAT HFX TK
          have hi1 : (0 : Int) ≤ (k : Int) := by omega
          have hi2 : (k : Int) < (cards.length : Int) := by omega
          have hcl := cardB_len x.c
          have NA := Lib.hid (show acc ++ cardB x.c = l3 ++ ((cs cards).take (k + 1)).flatMap cardB by rw [TK.out, HA.out]; simp)
          clear hat hx HA TK
          subst hA
          go_wp2_with (with_reducible refine slG 39 _ rfl ?_)
          refine Stop.mk (wlG (by rfl) _ _ rfl b (off + k * 27) rfl x.c.arr (HAT.out _ X.out.1) strC x.size ?_)
          go_wp2_with (with_reducible refine stS 39 _ _ rfl rfl ?_)
          refine Stop.mk (wsB rfl _ _ _ rfl wr.heap.size _ rfl rfl _ (Blk.new _ _ _) strC x.size (by rw [x.size]; rfl) x.ones ?_)
          intro w5 hb5 hk5
          have k5 := fresh_below hk5
          replace X := Lib.hid (X.out.step k5)
          replace O := Lib.hid (own_below O.out k5)
          have T5 := Lib.hid hb5
          clear hb5 hk5 k5 HAT
          go_wp2_with (with_reducible refine stop_load 39 _ rfl rfl ?_)
          refine Stop.mk (wpList_loadB rfl _ _ rfl wr.heap.size rfl _ T5.out strC x.size ?_)
          go_wp2_with (fail)
          refine (c_cardwire_PutCard acc A1 c1 x.c _ (In.ownB bc_len O.out (by omega)) (by omega) x.wf HFX.out).mono ?_
          rintro e w6 ⟨v6, rfl, own6, hb6⟩
          obtain ⟨l6, hl6⟩ : ∃ l, l = acc ++ cardB x.c := ⟨_, rfl⟩
          rw [← hl6] at own6 NA
          have hl6n : l6.length ≤ bs.length + 21 + 332 * (k + 1) := by rw [hl6, List.length_append]; omega
          have O6 := Lib.hid (own_base own6 X.out.1.size)
          obtain ⟨A6, c6, rfl, -⟩ := own_form O6.out
          replace X := Lib.hid (X.out.step hb6)
          clear own6 hb6 hl6 O T5
          go_wp2_with (fail)
          go_roundw
          case rel => exact ⟨k + 1, l6, A6, c6, by omega, by go_num, rfl, hl6n, NA.out, O6.out, X.out⟩
          case measure => simp [intOf]; omega
        · obtain rfl : k = cards.length := by omega
          have d1 : decide ((cards.length : Int) < (cards.length : Int)) = false := by simp
          have q3 := X.out.2.cell (i := 3) rfl
          have bl := X.out.2.lt
          have hn0 := (num_len (dead.length : Int)).2
          have IN := Lib.hid (In.ownB bc_len O.out (by omega))
          obtain ⟨s1, hs1⟩ : ∃ x, x = acc ++ num (dead.length : Int) := ⟨_, rfl⟩
          have HS1 := Lib.hid (show s1 = bs ++ bk2 seq next (cs cards) dead.length by rw [hs1, HA.out, L3.out, List.take_of_length_le (by rw [cs_len]; omega)]; unfold bk2; simp)
          have hs1n : s1.length ≤ bs.length + 28 + 332 * cards.length := by rw [hs1, List.length_append]; omega
          have hs1' := Lib.hid hs1
          clear hs1 HA L3 hl3n
          go_wp2_with (fail)
          refine (c_octet_Num acc A1 c1 (dead.length : Int) _ IN.out).mono ?_
          rintro e w7 ⟨v7, rfl, own7, hb7⟩
          rw [← hs1'.out] at own7
          have O7 := Lib.hid (own_base own7 X.out.1.size)
          obtain ⟨A7, c7, rfl, -⟩ := own_form O7.out
          replace X := Lib.hid (X.out.step hb7)
          clear own7 hb7 hs1' O IN q3 bl
          have q3 := X.out.2.cell (i := 3) rfl
          have bl := X.out.2.lt
          go_wp2_with (fail)
          clear q3 bl
          go_loopw [0, 10, 55] (fun v _ i wr => ∃ (k : Nat) (acc : List UInt8) (A1 : Option Addr) (c1 : Nat), k ≤ dead.length ∧ i = .int .i64 k ∧ v = .slice A1 acc.length c1 ∧ acc.length ≤ bs.length + 28 + 332 * cards.length + 21 * k ∧ Hid (acc = s1 ++ (dead.take k).flatMap deadB) ∧ Hid (wr.ownsRow w.heap.size 5 1 v acc.length (acc.flatMap bc)) ∧ Hid (At w wr #[.int .i64 seq, .int .i64 next, .slice A cards.length a, .slice D dead.length d, .slice G groups.length gc])) (fun _ _ i _ => dead.length - (intOf i).toNat)
          case atStart => exact ⟨0, s1, A7, c7, by omega, rfl, rfl, by omega, by show _ = _; simp, O7.out, X.out⟩
          case round =>
            clear X O7
            obtain ⟨k, acc, A1, c1, hk, rfl, rfl, hal, HA, O, X⟩ := hrel
            by_cases hlt : k < dead.length
            · have d2 : decide ((k : Int) < (dead.length : Int)) = true := by simp; omega
              obtain ⟨b, off, hA, hb, hrow⟩ := HD.out.at hlt
              obtain ⟨e0, e1, e2⟩ := dead_cells hrow hlt
              replace e0 := (X.out.1.cell (p := ⟨b, off + k * 3, none⟩) hb).trans e0
              replace e1 := (X.out.1.cell (p := ⟨b, off + k * 3 + 1, none⟩) hb).trans e1
              replace e2 := (X.out.1.cell (p := ⟨b, off + k * 3 + 2, none⟩) hb).trans e2
              have TK := Lib.hid (flat_at (f := deadB) hlt)
              obtain ⟨x, hx⟩ : ∃ x, x = dead[k] := ⟨_, rfl⟩
              rw [← hx] at e0 e1 e2 TK
              have hi1 : (0 : Int) ≤ (k : Int) := by omega
              have hi2 : (k : Int) < (dead.length : Int) := by omega
              have h1 := (num_len x.id).2
              have h2 := (num_len x.ver).2
              have h3 := (num_len x.seq).2
              obtain ⟨m1, hm1⟩ : ∃ l, l = acc ++ num x.id := ⟨_, rfl⟩
              obtain ⟨m2, hm2⟩ : ∃ l, l = m1 ++ num x.ver := ⟨_, rfl⟩
              obtain ⟨m3, hm3⟩ : ∃ l, l = m2 ++ num x.seq := ⟨_, rfl⟩
              have hm1n : m1.length ≤ acc.length + 7 := by rw [hm1, List.length_append]; omega
              have hm2n : m2.length ≤ acc.length + 14 := by rw [hm2, List.length_append]; omega
              have hm3n : m3.length ≤ acc.length + 21 := by rw [hm3, List.length_append]; omega
              have NA := Lib.hid (show m3 = s1 ++ (dead.take (k + 1)).flatMap deadB by rw [TK.out, hm3, hm2, hm1, HA.out]; unfold deadB; simp)
              have M1 := Lib.hid hm1
              have M2 := Lib.hid hm2
              have M3 := Lib.hid hm3
              have bt := (Below.refl wr.heap.size wr).alloc (Nat.le_refl _) (.cells #[.int .i64 x.id, .int .i64 x.ver, .int .i64 x.seq] 86)
              have T := Lib.hid (Blk.new wr 86 #[.int .i64 x.id, .int .i64 x.ver, .int .i64 x.seq])
              have O1 := Lib.hid (own_below O.out bt)
              have X1 := Lib.hid (X.out.step bt)
              have hbw := X1.out.1.size
              clear hrow hx HA TK hm1 hm2 hm3 bt
              subst hA
              go_wp2_with (fail)
              refine wp_region_rel [Sp.own w.heap.size 5 1 bc acc, Sp.eq (.pointer (some ⟨wr.heap.size, 0, none⟩)), Sp.eq (.int .i64 x.id), Sp.own w.heap.size 5 1 bc m1, Sp.eq (.pointer (some ⟨wr.heap.size, 1, none⟩)), Sp.eq (.int .i64 x.ver), Sp.own w.heap.size 5 1 bc m2, Sp.eq (.pointer (some ⟨wr.heap.size, 2, none⟩)), Sp.eq (.int .i64 x.seq), Sp.own w.heap.size 5 1 bc m3, Sp.own w.heap.size 5 1 bc m3] 103 (by kernel_rfl) (by kernel_rfl) rfl rfl ?_ ?_
              · refine ⟨?_, ?_, ?_, ?_, ?_, ?_, ?_, ?_, ?_, ?_, ?_, trivial⟩
                all_goals (intro u w2 hb2 hd; simp [Deps, Region.binds, Sp.own_holds, Sp.eq_holds] at hd; simp only [putDeps, dstOf, Region.binds])
                case refine_1 =>
                  go_wp2_with (fail); exact RelEnd.mk rfl (Below.refl _ _) (own_below O1.out hb2)
                case refine_2 =>
                  go_wp2_with (fail); exact RelEnd.mk rfl (Below.refl _ _) rfl
                case refine_3 =>
                  have q := (T.out.below hb2 T.out.lt).cell (i := 0) rfl
                  go_wp2_with (fail); exact RelEnd.mk rfl (Below.refl _ _) rfl
                case refine_4 =>
                  have hx : (Sp.own w.heap.size 5 1 bc acc).holds (u 0) w2 := by first | exact hd | exact hd.1 | exact hd.2
                  obtain ⟨A4, c4, e4, in4⟩ := In.of_own bc_len hx (by omega)
                  go_wp2_with (go_at_call 46; refine (c_octet_Num acc A4 c4 x.id _ in4).mono ?_; rintro e w3 ⟨v3, rfl, own3, hb3⟩)
                  rw [← M1.out] at own3
                  exact RelEnd.mk rfl hb3 (own_base own3 (Nat.le_trans hbw hb2.size))
                case refine_5 =>
                  go_wp2_with (fail); exact RelEnd.mk rfl (Below.refl _ _) rfl
                case refine_6 =>
                  have q := (T.out.below hb2 T.out.lt).cell (i := 1) rfl
                  go_wp2_with (fail); exact RelEnd.mk rfl (Below.refl _ _) rfl
                case refine_7 =>
                  have hx : (Sp.own w.heap.size 5 1 bc m1).holds (u 3) w2 := by first | exact hd | exact hd.1 | exact hd.2
                  obtain ⟨A4, c4, e4, in4⟩ := In.of_own bc_len hx (by omega)
                  go_wp2_with (go_at_call 46; refine (c_octet_Num m1 A4 c4 x.ver _ in4).mono ?_; rintro e w3 ⟨v3, rfl, own3, hb3⟩)
                  rw [← M2.out] at own3
                  exact RelEnd.mk rfl hb3 (own_base own3 (Nat.le_trans hbw hb2.size))
                case refine_8 =>
                  go_wp2_with (fail); exact RelEnd.mk rfl (Below.refl _ _) rfl
                case refine_9 =>
                  have q := (T.out.below hb2 T.out.lt).cell (i := 2) rfl
                  go_wp2_with (fail); exact RelEnd.mk rfl (Below.refl _ _) rfl
                case refine_10 =>
                  have hx : (Sp.own w.heap.size 5 1 bc m2).holds (u 6) w2 := by first | exact hd | exact hd.1 | exact hd.2
                  obtain ⟨A4, c4, e4, in4⟩ := In.of_own bc_len hx (by omega)
                  go_wp2_with (go_at_call 46; refine (c_octet_Num m2 A4 c4 x.seq _ in4).mono ?_; rintro e w3 ⟨v3, rfl, own3, hb3⟩)
                  rw [← M3.out] at own3
                  exact RelEnd.mk rfl hb3 (own_base own3 (Nat.le_trans hbw hb2.size))
                case refine_11 =>
                  have hx : (Sp.own w.heap.size 5 1 bc m3).holds (u 9) w2 := by first | exact hd | exact hd.1 | exact hd.2
                  go_wp2_with (fail); exact RelEnd.mk rfl (Below.refl _ _) hx
              · intro u w2 hb2 hold
                simp only [RelHold, Sp.eq_holds, Sp.own_holds] at hold
                obtain ⟨-, -, -, -, -, -, -, -, -, -, hE, -⟩ := hold
                simp only [putAll, Act.put, Nat.reduceAdd, List.setIfInBounds_toArray, List.set_cons_zero, List.set_cons_succ]
                replace X1 := Lib.hid (X1.out.step hb2)
                obtain ⟨A2, c2, e2', -⟩ := own_form hE
                have OE := Lib.hid hE
                rw [e2'] at OE ⊢
                clear hE e2' hb2 hbw X O O1 T e0 e1 e2
                go_wp2_with (fail)
                go_roundw
                case rel => exact ⟨k + 1, m3, A2, c2, by omega, by go_num, rfl, by omega, NA.out, OE.out, X1.out⟩
                case measure => simp [intOf]; omega
            · obtain rfl : k = dead.length := by omega
              have d2 : decide ((dead.length : Int) < (dead.length : Int)) = false := by simp
              have q4 := X.out.2.cell (i := 4) rfl
              have bl := X.out.2.lt
              have hn0 := (num_len (groups.length : Int)).2
              have IN := Lib.hid (In.ownB bc_len O.out (by omega))
              obtain ⟨s2, hs2⟩ : ∃ x, x = acc ++ num (groups.length : Int) := ⟨_, rfl⟩
              have HS2 := Lib.hid (show s2 = bs ++ bk3 seq next (cs cards) dead groups.length by rw [hs2, HA.out, HS1.out, List.take_length]; unfold bk3; simp)
              have hs2n : s2.length ≤ bs.length + 40000 := by rw [hs2, List.length_append]; omega
              have hs2' := Lib.hid hs2
              clear hs2 HA HS1 hs1n
              go_wp2_with (fail)
              refine (c_octet_Num acc A1 c1 (groups.length : Int) _ IN.out).mono ?_
              rintro e w7 ⟨v7, rfl, own7, hb7⟩
              rw [← hs2'.out] at own7
              have O7 := Lib.hid (own_base own7 X.out.1.size)
              obtain ⟨A7, c7, rfl, -⟩ := own_form O7.out
              replace X := Lib.hid (X.out.step hb7)
              clear own7 hb7 hs2' O IN q4 bl
              have q4 := X.out.2.cell (i := 4) rfl
              have bl := X.out.2.lt
              go_wp2_with (fail)
              clear q4 bl
              go_loopw [0, 12, 78] (fun v _ i wr => ∃ (k : Nat) (acc : List UInt8) (A1 : Option Addr) (c1 : Nat), k ≤ groups.length ∧ i = .int .i64 k ∧ v = .slice A1 acc.length c1 ∧ acc.length ≤ bs.length + 40000 + 714 * k ∧ Hid (acc = s2 ++ ((grps groups).take k).flatMap grpB) ∧ Hid (wr.ownsRow w.heap.size 5 1 v acc.length (acc.flatMap bc)) ∧ Hid (Below w.heap.size w wr)) (fun _ _ i _ => groups.length - (intOf i).toNat)
              case atStart => exact ⟨0, s2, A7, c7, by omega, rfl, rfl, by omega, by show _ = _; simp, O7.out, X.out.1⟩
              case round =>
                clear X O7
                obtain ⟨k, acc, A1, c1, hk, rfl, rfl, hal, HA, O, X⟩ := hrel
                by_cases hlt : k < groups.length
                · have d3 : decide ((k : Int) < (groups.length : Int)) = true := by simp; omega
                  obtain ⟨b, off, hA, hb, hrow⟩ := HGG.out.at hlt
                  obtain ⟨e0, e1⟩ := grp_cells hrow hlt
                  replace e0 := (X.out.cell (p := ⟨b, off + k * 2, none⟩) hb).trans e0
                  replace e1 := (X.out.cell (p := ⟨b, off + k * 2 + 1, none⟩) hb).trans e1
                  have TK := Lib.hid (flat_at (f := grpB) (l := grps groups) (k := k) (by rw [grps_len]; exact hlt))
                  rw [grps_get hlt] at TK
                  have HI := Lib.hid (HGM.out _ (List.getElem_mem hlt))
                  have hml := HM.out _ (List.getElem_mem hlt)
                  obtain ⟨x, hx⟩ : ∃ x, x = groups[k] := ⟨_, rfl⟩
                  rw [← hx] at e0 e1 TK HI hml
                  have hi1 : (0 : Int) ≤ (k : Int) := by omega
                  have hi2 : (k : Int) < (groups.length : Int) := by omega
                  have h1 := (num_len x.no).2
                  have h2 := (num_len (x.mem.length : Int)).2
                  have hj1 := HI.out.1
                  have hj2 := HI.out.2.1
                  have hj3 := HI.out.2.2.1
                  obtain ⟨m1, hm1⟩ : ∃ l, l = acc ++ num x.no := ⟨_, rfl⟩
                  obtain ⟨m2, hm2⟩ : ∃ l, l = m1 ++ num (x.mem.length : Int) := ⟨_, rfl⟩
                  have hm1n : m1.length ≤ acc.length + 7 := by rw [hm1, List.length_append]; omega
                  have hm2n : m2.length ≤ acc.length + 14 := by rw [hm2, List.length_append]; omega
                  have NA := Lib.hid (show m2 ++ x.mem.flatMap num = s2 ++ ((grps groups).take (k + 1)).flatMap grpB by rw [TK.out, hm2, hm1, HA.out]; unfold grpB GQ.g; simp)
                  have M1 := Lib.hid hm1
                  have M2 := Lib.hid hm2
                  have bt := (Below.refl wr.heap.size wr).alloc (Nat.le_refl _) (.cells #[.int .i64 x.no, .slice x.A x.mem.length x.c] 89)
                  have T := Lib.hid (Blk.new wr 89 #[.int .i64 x.no, .slice x.A x.mem.length x.c])
                  have O1 := Lib.hid (own_below O.out bt)
                  have X1 := Lib.hid (X.out.trans (bt.mono X.out.size))
                  have hbw := X1.out.size
                  clear hrow hx HA TK hm1 hm2 bt
                  subst hA
                  go_wp2_with (fail)
                  refine wp_region_rel [Sp.own w.heap.size 5 1 bc acc, Sp.eq (.pointer (some ⟨wr.heap.size, 0, none⟩)), Sp.eq (.int .i64 x.no), Sp.own w.heap.size 5 1 bc m1, Sp.eq (.pointer (some ⟨wr.heap.size, 1, none⟩)), Sp.eq (.slice x.A x.mem.length x.c), Sp.eq (.int .i64 (x.mem.length : Int)), Sp.own w.heap.size 5 1 bc m2, Sp.own w.heap.size 5 1 bc m2] 103 (by kernel_rfl) (by kernel_rfl) rfl rfl ?_ ?_
                  · refine ⟨?_, ?_, ?_, ?_, ?_, ?_, ?_, ?_, ?_, trivial⟩
                    all_goals (intro u w2 hb2 hd; simp [Deps, Region.binds, Sp.own_holds, Sp.eq_holds] at hd; simp only [putDeps, dstOf, Region.binds])
                    case refine_1 =>
                      go_wp2_with (fail); exact RelEnd.mk rfl (Below.refl _ _) (own_below O1.out hb2)
                    case refine_2 =>
                      go_wp2_with (fail); exact RelEnd.mk rfl (Below.refl _ _) rfl
                    case refine_3 =>
                      have q := (T.out.below hb2 T.out.lt).cell (i := 0) rfl
                      go_wp2_with (fail); exact RelEnd.mk rfl (Below.refl _ _) rfl
                    case refine_4 =>
                      have hx : (Sp.own w.heap.size 5 1 bc acc).holds (u 0) w2 := by first | exact hd | exact hd.1 | exact hd.2
                      obtain ⟨A4, c4, e4, in4⟩ := In.of_own bc_len hx (by omega)
                      go_wp2_with (go_at_call 46; refine (c_octet_Num acc A4 c4 x.no _ in4).mono ?_; rintro e w3 ⟨v3, rfl, own3, hb3⟩)
                      rw [← M1.out] at own3
                      exact RelEnd.mk rfl hb3 (own_base own3 (Nat.le_trans hbw hb2.size))
                    case refine_5 =>
                      go_wp2_with (fail); exact RelEnd.mk rfl (Below.refl _ _) rfl
                    case refine_6 =>
                      have q := (T.out.below hb2 T.out.lt).cell (i := 1) rfl
                      go_wp2_with (fail); exact RelEnd.mk rfl (Below.refl _ _) rfl
                    case refine_7 =>
                      go_wp2_with (fail); exact RelEnd.mk rfl (Below.refl _ _) rfl
                    case refine_8 =>
                      have hx : (Sp.own w.heap.size 5 1 bc m1).holds (u 3) w2 := by first | exact hd | exact hd.1 | exact hd.2
                      obtain ⟨A4, c4, e4, in4⟩ := In.of_own bc_len hx (by omega)
                      go_wp2_with (go_at_call 46; refine (c_octet_Num m1 A4 c4 (x.mem.length : Int) _ in4).mono ?_; rintro e w3 ⟨v3, rfl, own3, hb3⟩)
                      rw [← M2.out] at own3
                      exact RelEnd.mk rfl hb3 (own_base own3 (Nat.le_trans hbw hb2.size))
                    case refine_9 =>
                      have hx : (Sp.own w.heap.size 5 1 bc m2).holds (u 7) w2 := by first | exact hd | exact hd.1 | exact hd.2
                      go_wp2_with (fail); exact RelEnd.mk rfl (Below.refl _ _) hx
                  · intro u w2 hb2 hold
                    simp only [RelHold, Sp.eq_holds, Sp.own_holds] at hold
                    obtain ⟨-, -, -, -, -, -, -, -, hE, -⟩ := hold
                    simp only [putAll, Act.put, Nat.reduceAdd, List.setIfInBounds_toArray, List.set_cons_zero, List.set_cons_succ]
                    have T2 := Lib.hid (T.out.below hb2 T.out.lt)
                    replace X1 := Lib.hid (X1.out.trans (hb2.mono X1.out.size))
                    obtain ⟨A2, c2, e2', -⟩ := own_form hE
                    have OE := Lib.hid hE
                    rw [e2'] at OE ⊢
                    have r1 := T2.out.cell (i := 1) rfl
                    have tl := T2.out.lt
                    clear hE e2' hb2 hbw X O O1 T e0 e1
                    go_wp2_with (fail)
                    clear r1 tl T2
                    go_loopw [0, 14, 93] (fun v _ i wr => ∃ (j : Nat) (acc : List UInt8) (A1 : Option Addr) (c1 : Nat), j ≤ x.mem.length ∧ i = .int .i64 j ∧ v = .slice A1 acc.length c1 ∧ acc.length ≤ bs.length + 40000 + 714 * k + 14 + 7 * j ∧ Hid (acc = m2 ++ (x.mem.take j).flatMap num) ∧ Hid (wr.ownsRow w.heap.size 5 1 v acc.length (acc.flatMap bc)) ∧ Hid (Below w.heap.size w wr)) (fun _ _ i _ => x.mem.length - (intOf i).toNat)
                    case atStart => exact ⟨0, m2, A2, c2, by omega, rfl, rfl, by omega, by show _ = _; simp, OE.out, X1.out⟩
                    case round =>
                      clear X1 OE
                      obtain ⟨j, acc, A1, c1, hj, rfl, rfl, hal, HA, O, X⟩ := hrel
                      by_cases hlj : j < x.mem.length
                      · have d4 : decide ((j : Int) < (x.mem.length : Int)) = true := by simp; omega
                        obtain ⟨mb, mo, hA, hb9, hrow⟩ := HI.out.at hlj
                        have e0 := (X.out.cell (p := ⟨mb, mo + j, none⟩) hb9).trans (show w.cell? ⟨mb, mo + j, none⟩ = some (.int .i64 x.mem[j]) by have := hrow j hlj 0 _ rfl; simpa using this)
                        have TK := Lib.hid (flat_at (f := num) hlj)
                        obtain ⟨y, hy⟩ : ∃ y, y = x.mem[j] := ⟨_, rfl⟩
                        rw [← hy] at e0 TK
                        have hk1 : (0 : Int) ≤ (j : Int) := by omega
                        have hk2 : (j : Int) < (x.mem.length : Int) := by omega
                        have h1 := (num_len y).2
                        have NB := Lib.hid (show acc ++ num y = m2 ++ (x.mem.take (j + 1)).flatMap num by rw [TK.out, HA.out]; simp)
                        have IN := Lib.hid (In.ownB bc_len O.out (by omega))
                        have HAX := Lib.hid hA
                        clear hrow hy HA TK hA
                        rw [HAX.out]
                        go_wp2_with (fail)
                        refine (c_octet_Num acc A1 c1 y _ IN.out).mono ?_
                        rintro e w7 ⟨v7, rfl, own7, hb7⟩
                        obtain ⟨l7, hl7⟩ : ∃ l, l = acc ++ num y := ⟨_, rfl⟩
                        rw [← hl7] at own7 NB
                        have hl7n : l7.length ≤ bs.length + 40000 + 714 * k + 14 + 7 * (j + 1) := by rw [hl7, List.length_append]; omega
                        have O7 := Lib.hid (own_base own7 X.out.size)
                        obtain ⟨A7, c7, rfl, -⟩ := own_form O7.out
                        replace X := Lib.hid (X.out.trans (hb7.mono X.out.size))
                        clear own7 hb7 hl7 O IN e0
                        go_wp2_with (fail)
                        go_roundw
                        case rel => exact ⟨j + 1, l7, A7, c7, by omega, by go_num, rfl, hl7n, NB.out, O7.out, X.out⟩
                        case measure => simp [intOf]; omega
                      · obtain rfl : j = x.mem.length := by omega
                        have d4 : decide ((x.mem.length : Int) < (x.mem.length : Int)) = false := by simp
                        have NB := Lib.hid (show acc = s2 ++ ((grps groups).take (k + 1)).flatMap grpB by rw [← NA.out, HA.out, List.take_length])
                        clear HA
                        go_wp2_with (fail)
                        go_roundw
                        case rel => exact ⟨k + 1, acc, A1, c1, by omega, by go_num, rfl, by omega, NB.out, O.out, X.out⟩
                        case measure => simp [intOf]; omega
                · obtain rfl : k = groups.length := by omega
                  have d3 : decide ((groups.length : Int) < (groups.length : Int)) = false := by simp
                  have HE := Lib.hid (show acc = bs ++ bookB ⟨seq, next, cs cards, dead, grps groups⟩ by
                    rw [← bk_all HOK.out, HA.out, HS2.out, List.take_of_length_le (by rw [grps_len]; omega)]
                    show _ = bs ++ (bk3 seq next (cs cards) dead (grps groups).length ++ _)
                    rw [grps_len]; simp)
                  go_wp2_with (fail)
                  go_ret
                  exact RetS.of O.out (Nat.le_refl _) HE.out X.out
theorem c_bookwire_Put (bs : List UInt8) (B : Option Addr) (cb : Nat) (b : BQ) (w : World) (hbs : InB w B cb bs) (hbl : bs.length ≤ 100000) (h : b.at_ w) (hf : b.few) : Calls Try.prog 13 #[.slice B bs.length cb, .agg b.arr] w (RetS 1 bc 5 w (bs ++ bookB b.book)) :=
  bookwire_Put bs B cb b.seq b.next b.cards b.dead b.groups b.A b.a b.D b.d b.G b.g w hbs hbl h.cards h.dead h.groups h.mem h.fit hf.cards hf.dead hf.groups hf.mem
end Go.Proofs.Ytldoedmclfbgpaa
namespace Go.Proofs.Ytldoedmclfbgpaa
open Go.RowKit

theorem bookB_len {b : BQ} (h : b.few) : (bookB b.book).length ≤ 50000 := by
  cases hok : b.book.ok
  · rw [bookB_bad hok]; simp
  · rw [← bk_all hok, List.length_append]
    have h1 := bk3_len b.book.seq b.book.next b.book.cards b.book.dead b.book.groups.length
    have h2 := grps_le (grps_few h.mem)
    have e1 : b.book.cards.length = b.cards.length := by unfold BQ.book; simp
    have e2 : b.book.dead.length = b.dead.length := rfl
    have e3 : b.book.groups = grps b.groups := rfl
    have f1 := h.cards
    have f2 := h.dead
    have f3 := h.groups
    rw [grps_len] at h2
    rw [e3] at h1 ⊢
    omega
def awakeBk : BQ := ⟨0, 1, [], [], [], none, 0, none, 0, none, 0⟩
theorem awakeBk_arr : awakeBk.arr = #[.int .i64 0, .int .i64 1, .slice none 0 0, .slice none 0 0, .slice none 0 0] := rfl
theorem awakeBk_put : bookB awakeBk.book = [0, 1, 0, 0, 0] := by decide +kernel
theorem awakeBk_built : Try.prog.built 26 [(1, .int .i64 1)] = some #[.int .i64 0, .int .i64 1, .slice none 0 0, .slice none 0 0, .slice none 0 0] := by kernel_rfl
theorem awakeBk_at (w : World) : awakeBk.at_ w := ⟨In.nil (by decide), In.nil (by decide), In.nil (by decide), (fun x hx => (by first | cases hx | simp at hx)), (fun x hx => (by first | cases hx | simp at hx))⟩
theorem awakeBk_few : awakeBk.few := ⟨by decide, by decide, by decide, fun x hx => (by first | cases hx | simp at hx)⟩
set_option maxHeartbeats 1000000 in
set_option maxRecDepth 100000 in
theorem c_law21_awake (w : World) : Calls Try.prog 12 #[] w (RetV w (.bool true)) := by
  have hp := c_bookwire_Put [] none 0 awakeBk w (In.nil (by omega)) (by simp) (awakeBk_at w) awakeBk_few
  rw [awakeBk_arr, List.nil_append, awakeBk_put] at hp
  have HP := Lib.hid hp
  clear hp
  go_enter Try.func12, Try.ntmps12
  go_wp2_with (with_reducible refine stop_build 26 _ rfl ?_)
  refine Stop.mk (wpList_buildD rfl _ _ rfl [(1, .int .i64 1)] (by rfl) _ awakeBk_built ?_)
  go_wp2_with (fail)
  refine HP.out.mono ?_
  rintro e w5 ⟨v5, rfl, own5, hb5⟩
  obtain ⟨A2, c2, rfl, in2⟩ := In.of_own bc_len own5 (by simp)
  have kc : (convert 27 9 (.slice A2 5 c2)).run Try.prog w5 = .ok (.string (str [0, 1, 0, 0, 0])) w5 := conv_str w5 Try.underlying27 Try.underlying5 Try.underlying9 in2
  clear own5 in2
  go_wp2_with (fail)
  go_ret
  exact RetV.bool rfl hb5
set_option maxHeartbeats 1000000 in
theorem law21_Puts_long (b : BQ) (B : Option Addr) (nb cb : Nat) (w : World) (hr : b.raw w) (_hnb : nb ≤ cb) (_hcb : cb ≤ 9223372036854775807) (h : b.book.large = true ∨ 500 < nb) :
    Calls Try.prog 3 #[.agg b.arr, .slice B nb cb] w (RetV w (.bool true)) := by
  have HR := Lib.hid hr
  have B0 := Lib.hid (At.new w 26 b.arr)
  clear hr
  cases h1 : b.book.large
  all_goals
    have HL := Lib.hid h1
    go_enter Try.func3, Try.ntmps3
    go_wp2_with (with_reducible refine stop_load 26 _ rfl rfl ?_)
    refine Stop.mk (wpList_loadB rfl _ _ rfl w.heap.size rfl _ B0.out.2 strBk rfl ?_)
    go_wp2_with (fail)
    refine (c_law20_Large b _ (HR.out.below B0.out.1)).mono ?_
    rintro e w1 ⟨rfl, hb1⟩
    replace B0 := Lib.hid (B0.out.step hb1)
    rw [HL.out]
    clear hb1
  · have h5 : 500 < nb := by rw [h1] at h; exact h.resolve_left (by simp)
    have d5 : decide (500 < (nb : Int)) = true := by simp; omega
    clear h h1
    go_wp2_with (fail)
    refine (c_law21_awake _).mono ?_
    rintro e w2 ⟨rfl, hb2⟩
    go_wp2_with (fail)
    go_ret
    exact RetV.bool rfl (B0.out.1.trans (hb2.mono B0.out.1.size))
  · clear h h1
    go_wp2_with (fail)
    refine (c_law21_awake _).mono ?_
    rintro e w2 ⟨rfl, hb2⟩
    go_wp2_with (fail)
    go_ret
    exact RetV.bool rfl (B0.out.1.trans (hb2.mono B0.out.1.size))
set_option maxHeartbeats 4000000 in
set_option maxRecDepth 4000 in
theorem c_law21_BookwirePuts (b : BQ) (bs : List UInt8) (B : Option Addr) (cb : Nat) (w : World) (hr : b.raw w) (hin : InB w B cb bs) (hl : b.book.large = false) (hbl : bs.length ≤ 500) :
    Calls Try.prog 3 #[.agg b.arr, .slice B bs.length cb] w (RetV w (.bool true)) := by
  obtain ⟨hf, hs⟩ := large_no hl
  have HAT := Lib.hid (hr.at_ hf hs)
  have HFW := Lib.hid hf
  have HR := Lib.hid hr
  have HL := Lib.hid hl
  have HB := Lib.hid hin
  have hB1 := hin.1
  have hB2 := hin.2.1
  have B0 := Lib.hid (At.new w 26 b.arr)
  obtain ⟨l, hl⟩ : ∃ l, l = bs ++ bookB b.book := ⟨_, rfl⟩
  have mb := bookB_len hf
  have nl : l.length ≤ 60000 := by rw [hl, List.length_append]; omega
  have bl : ¬ 9223372036854775807 < bs.length + (bookB b.book).length := by omega
  have LL := Lib.hid hl
  have d5 : decide (500 < (bs.length : Int)) = false := by simp; omega
  clear hr hf hs hin hl
  go_enter Try.func3, Try.ntmps3
  go_wp2_with (with_reducible refine stop_load 26 _ rfl rfl ?_)
  refine Stop.mk (wpList_loadB rfl _ _ rfl w.heap.size rfl _ B0.out.2 strBk rfl ?_)
  go_wp2_with (fail)
  refine (c_law20_Large b _ (HR.out.below B0.out.1)).mono ?_
  rintro e w1 ⟨rfl, hb1⟩
  replace B0 := Lib.hid (B0.out.step hb1)
  rw [HL.out]
  clear hb1
  go_wp2_with (fail)
  have hz1 := B0.out.1.size
  refine wp_region_rel [Sp.eq (.slice B bs.length cb), Sp.eq (.agg b.arr), Sp.slice 1 bc l, Sp.eq (.string (str l)), Sp.eq (.slice B bs.length cb), Sp.eq (.string (str bs)), Sp.eq (.agg b.arr), Sp.eq (.string (str (bookB b.book))), Sp.eq (.string (str l)), Sp.eq (.bool true), Sp.eq (.bool true), Sp.eq (.bool true), Sp.eq (.bool true), Sp.eq (.bool true)] 26 (by kernel_rfl) (by kernel_rfl) rfl rfl ?_ ?_
  · refine ⟨?_, ?_, ?_, ?_, ?_, ?_, ?_, ?_, ?_, ?_, ?_, ?_, ?_, ?_, trivial⟩
    all_goals (intro u w3 hb3 hd; have hbw : Below w.heap.size w w3 := B0.out.1.trans (hb3.mono hz1); simp [Deps, Region.binds, Sp.slice_holds, Sp.eq_holds] at hd; simp only [putDeps, dstOf, Region.binds])
    case refine_2 =>
      go_wp2_with (with_reducible refine slG 26 _ rfl ?_)
      refine Stop.mk (wlG (by simp [Region.wanted]) _ _ rfl w.heap.size 0 rfl b.arr (B0.out.2.below hb3 B0.out.2.lt).all strBk rfl ?_)
      go_wp2_with (fail)
      exact RelEnd.mk rfl (Below.refl _ _) rfl
    case refine_3 =>
      go_wp2_with (go_at_call 13; refine (c_bookwire_Put bs B cb b _ (HB.out.below hbw) (by omega) (HAT.out.below hbw) HFW.out).mono ?_; rintro e w4 ⟨v3, rfl, own3, hb4⟩)
      rw [← LL.out] at own3
      exact RelEnd.mk rfl hb4 (In.of_own bc_len own3 (by omega))
    case refine_4 =>
      obtain ⟨A2, c2, d0, d1⟩ := hd
      have kc' : (convert 27 9 (u 2)).run Try.prog w3 = .ok (.string (str l)) w3 := by rw [d0]; exact conv_str (P := Try.prog) w3 Try.underlying27 Try.underlying5 Try.underlying9 d1
      clear d0 d1
      go_wp2_with (fail); exact RelEnd.mk rfl (Below.refl _ _) rfl
    case refine_6 =>
      have kb := conv_str (P := Try.prog) w3 Try.underlying27 Try.underlying5 Try.underlying9 (HB.out.below hbw)
      go_wp2_with (fail); exact RelEnd.mk rfl (Below.refl _ _) rfl
    case refine_7 =>
      go_wp2_with (with_reducible refine slG 26 _ rfl ?_)
      refine Stop.mk (wlG (by simp [Region.wanted]) _ _ rfl w.heap.size 0 rfl b.arr (B0.out.2.below hb3 B0.out.2.lt).all strBk rfl ?_)
      go_wp2_with (fail)
      exact RelEnd.mk rfl (Below.refl _ _) rfl
    case refine_8 =>
      go_wp2_with (go_at_call 14; refine (c_ref21_Put b _ (HAT.out.below hbw) HFW.out).mono ?_; rintro e w4 ⟨rfl, hb4⟩)
      exact RelEnd.mk rfl hb4 rfl
    case refine_9 =>
      go_wp2_with (fail)
      exact RelEnd.mk rfl (Below.refl _ _) (by show _ = _; rw [LL.out]; rfl)
    case refine_12 =>
      go_wp2_with (go_at_call 12; refine (c_law21_awake _).mono ?_; rintro e w4 ⟨rfl, hb4⟩)
      exact RelEnd.mk rfl hb4 rfl
    all_goals (go_wp2_with (fail); exact RelEnd.mk rfl (Below.refl _ _) rfl)
  · intro u w3 hb3 hold
    simp only [RelHold, Sp.eq_holds] at hold
    obtain ⟨-, -, -, -, -, -, -, -, -, -, -, -, -, d13, -⟩ := hold
    simp only [putAll, Act.put, Nat.reduceAdd, List.setIfInBounds_toArray, List.set_cons_zero, List.set_cons_succ]
    have hbw : Below w.heap.size w w3 := B0.out.1.trans (hb3.mono hz1)
    clear HB B0 HAT HR hb3
    go_wp2_with (fail)
    go_ret
    exact RetV.of d13 hbw
end Go.Proofs.Ytldoedmclfbgpaa
