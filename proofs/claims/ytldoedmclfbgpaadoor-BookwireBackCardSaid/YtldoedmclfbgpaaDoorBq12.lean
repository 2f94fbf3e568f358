/-
  Lemmas (walks and plain laws), in one text.
-/
import Derived.Test.YtldoedmclfbgpaaDoorBq2
import Derived.Test.YtldoedmclfbgpaaDoorBq3
import Derived.Test.YtldoedmclfbgpaaDoorBq4
import Derived.Test.YtldoedmclfbgpaaDoorBq5
import Derived.Test.YtldoedmclfbgpaaDoorBq6
import Derived.Test.YtldoedmclfbgpaaDoorBq10
import Derived.Test.YtldoedmclfbgpaaDoorBq11
namespace Go.Proofs.YtldoedmclfbgpaaDoor
open Go.RowKit

theorem In.ownB {α : Type} {k : Nat} {cs : α → List Value} {w : World} {base : Nat} {e : TypeId} {A : Option Addr} {c : Nat} {l : List α} (hk : ∀ x, (cs x).length = k) (h : w.ownsRow base e k (.slice A l.length c) l.length (l.flatMap cs)) (hs : l.length ≤ 4294967296) : In k cs w A c l := by
  obtain ⟨A', c', hv, hin⟩ := In.of_own hk h hs
  injection hv with e1 _ e2
  subst e1 e2
  exact hin
set_option maxRecDepth 10000 in
set_option maxHeartbeats 32000000 in
theorem bookwire_Put (bs : List UInt8) (B : Option Addr) (cb : Nat) (seq next : Int) (cards : List CQ) (dead : List Dead) (groups : List GQ) (A : Option Addr) (a : Nat) (D : Option Addr) (d : Nat) (G : Option Addr) (gc : Nat) (w : World) (hbs : InB w B cb bs) (hbl : bs.length ≤ 100000) (hc : In 27 CQ.cells w A a cards) (hd : In 3 Dead.cells w D d dead) (hg : In 2 GQ.cells w G gc groups)
    (hgm : ∀ x ∈ groups, InI w x.A x.c x.mem) (hfit : ∀ x ∈ cards, ∀ y ∈ x.c.f, y.s.length ≤ 4294967000) (f1 : cards.length ≤ 60) (f2 : dead.length ≤ 60) (f3 : groups.length ≤ 40) (f4 : ∀ x ∈ groups, x.mem.length ≤ 100) :
    Calls Tryd.prog 14 #[.slice B bs.length cb, .agg #[.int .i64 seq, .int .i64 next, .slice A cards.length a, .slice D dead.length d, .slice G groups.length gc]] w (RetS 1 bc 5 w (bs ++ bookB ⟨seq, next, cs cards, dead, grps groups⟩)) := by
  have hB1 := hbs.1
  have hB2 := hbs.2.1
  have hS1 := hc.1
  have hS2 := hc.2.1
  have hS3 := hc.2.2.1
  have hD1 := hd.1
  have hD2 := hd.2.1
  have hD3 := hd.2.2.1
  have hG1 := hg.1
  have hG2 := hg.2.1
  have hG3 := hg.2.2.1
  have HB := Lib.hid hbs
  have HC := Lib.hid hc
  have HD := Lib.hid hd
  have HGG := Lib.hid hg
  have HGM := Lib.hid hgm
  have HF := Lib.hid hfit
  have HM := Lib.hid f4
  have B0 := Lib.hid (At.new w 35 #[.int .i64 seq, .int .i64 next, .slice A cards.length a, .slice D dead.length d, .slice G groups.length gc])
  clear hc hd hg hgm hfit f4 hbs
  cases hok : Book.ok ⟨seq, next, cs cards, dead, grps groups⟩
  all_goals
    have HOK := Lib.hid hok
    clear hok
    go_enter Tryd.func14, Tryd.ntmps14
    go_wp2_with (with_reducible refine stop_load 35 _ rfl rfl ?_)
    refine Stop.mk (wpList_loadB rfl _ _ rfl w.heap.size rfl _ B0.out.2 strBk rfl ?_)
    go_wp2_with (fail)
    refine (book_Load seq next cards dead groups A a D d G gc _ (HC.out.below B0.out.1) (HD.out.below B0.out.1) (HGG.out.below B0.out.1) (fun x hx => (HGM.out x hx).below B0.out.1) HF.out (fun x hx => by have := HM.out x hx; omega) (by omega)).mono ?_
    rintro e w1 ⟨p, rfl, hb1⟩
    replace B0 := Lib.hid (B0.out.step hb1)
    rw [HOK.out]
    clear hb1
  · have H : Hid (bs = bs ++ bookB ⟨seq, next, cs cards, dead, grps groups⟩) := by show _ = _; rw [bookB_bad HOK.out, List.append_nil]
    go_wp2_with (fail)
    refine (c_Clone_b bs B cb _ (HB.out.below B0.out.1)).mono ?_
    rintro e w2 ⟨v2, rfl, own2, hb2⟩
    go_wp2_with (fail)
    go_ret
    exact RetS.of own2 B0.out.1.size H.out (B0.out.1.trans (hb2.mono B0.out.1.size))
  · obtain ⟨l1, hl1⟩ : ∃ l, l = bs ++ num seq := ⟨_, rfl⟩
    obtain ⟨l2, hl2⟩ : ∃ l, l = l1 ++ num next := ⟨_, rfl⟩
    have hn0 := (num_len seq).2
    have hn1 := (num_len next).2
    have hl1n : l1.length ≤ bs.length + 7 := by rw [hl1, List.length_append]; omega
    have hl2n : l2.length ≤ bs.length + 14 := by rw [hl2, List.length_append]; omega
    have L1 := Lib.hid hl1
    have L2 := Lib.hid hl2
    have hbw := B0.out.1.size
    have BW := Lib.hid B0.out.2
    clear hl1 hl2
    go_wp2_with (fail)
    refine wp_region_rel [Sp.slice 1 bc bs, Sp.eq (.pointer (some ⟨w.heap.size, 0, none⟩)), Sp.eq (.int .i64 seq), Sp.own w.heap.size 5 1 bc l1, Sp.eq (.pointer (some ⟨w.heap.size, 1, none⟩)), Sp.eq (.int .i64 next), Sp.own w.heap.size 5 1 bc l2, Sp.own w.heap.size 5 1 bc l2] 103 (by kernel_rfl) (by kernel_rfl) rfl rfl ?_ ?_
    · refine ⟨?_, ?_, ?_, ?_, ?_, ?_, ?_, ?_, trivial⟩
      all_goals (intro u w2 hb2 hd; simp [Deps, Region.binds, Sp.own_holds, Sp.slice_holds, Sp.eq_holds] at hd; simp only [putDeps, dstOf, Region.binds])
      case refine_1 =>
        go_wp2_with (fail); exact RelEnd.mk rfl (Below.refl _ _) ⟨B, cb, rfl, HB.out.below (B0.out.1.trans (hb2.mono hbw))⟩
      case refine_2 =>
        go_wp2_with (fail); exact RelEnd.mk rfl (Below.refl _ _) rfl
      case refine_3 =>
        have q := (BW.out.below hb2 BW.out.lt).cell (i := 0) rfl
        go_wp2_with (fail); exact RelEnd.mk rfl (Below.refl _ _) rfl
      case refine_4 =>
        have hx : (Sp.slice 1 bc bs).holds (u 0) w2 := by first | exact hd | exact hd.1 | exact hd.2
        obtain ⟨A4, c4, e4, in4⟩ := hx
        go_wp2_with (go_at_call 36; refine (c_octet_Num bs A4 c4 seq _ in4).mono ?_; rintro e w3 ⟨v3, rfl, own3, hb3⟩)
        rw [← L1.out] at own3
        exact RelEnd.mk rfl hb3 (own_base own3 (Nat.le_trans hbw hb2.size))
      case refine_5 =>
        go_wp2_with (fail); exact RelEnd.mk rfl (Below.refl _ _) rfl
      case refine_6 =>
        have q := (BW.out.below hb2 BW.out.lt).cell (i := 1) rfl
        go_wp2_with (fail); exact RelEnd.mk rfl (Below.refl _ _) rfl
      case refine_7 =>
        have hx : (Sp.own w.heap.size 5 1 bc l1).holds (u 3) w2 := by first | exact hd | exact hd.1 | exact hd.2
        obtain ⟨A4, c4, e4, in4⟩ := In.of_own bc_len hx (by omega)
        go_wp2_with (go_at_call 36; refine (c_octet_Num l1 A4 c4 next _ in4).mono ?_; rintro e w3 ⟨v3, rfl, own3, hb3⟩)
        rw [← L2.out] at own3
        exact RelEnd.mk rfl hb3 (own_base own3 (Nat.le_trans hbw hb2.size))
      case refine_8 =>
        have hx : (Sp.own w.heap.size 5 1 bc l2).holds (u 6) w2 := by first | exact hd | exact hd.1 | exact hd.2
        go_wp2_with (fail); exact RelEnd.mk rfl (Below.refl _ _) hx
    · intro u w2 hb2 hold
      simp only [RelHold, Sp.eq_holds, Sp.own_holds, Sp.slice_holds] at hold
      obtain ⟨-, -, -, -, -, -, -, hE, -⟩ := hold
      simp only [putAll, Act.put, Nat.reduceAdd, List.setIfInBounds_toArray, List.set_cons_zero, List.set_cons_succ]
      replace B0 := Lib.hid (B0.out.step hb2)
      obtain ⟨A2, c2, e2, in2⟩ := In.of_own bc_len hE (by omega)
      rw [e2]
      have IN := Lib.hid in2
      have q2 := B0.out.2.cell (i := 2) rfl
      have hn2 := (num_len (cards.length : Int)).2
      clear hE e2 in2 hb2 hbw BW
      go_wp2_with (fail)
      refine (c_octet_Num l2 A2 c2 (cards.length : Int) _ IN.out).mono ?_
      rintro e w3 ⟨v3, rfl, own3, hb3⟩
      obtain ⟨l3, hl3⟩ : ∃ l, l = l2 ++ num (cards.length : Int) := ⟨_, rfl⟩
      have hl3n : l3.length ≤ bs.length + 21 := by rw [hl3, List.length_append]; omega
      have L3 := Lib.hid (show l3 = bs ++ bk1 seq next (cs cards).length by rw [hl3, L2.out, L1.out, cs_len]; unfold bk1; simp)
      rw [← hl3] at own3
      have O3 := Lib.hid (own_base own3 B0.out.1.size)
      obtain ⟨A3, c3, rfl, -⟩ := own_form O3.out
      replace B0 := Lib.hid (B0.out.step hb3)
      clear hb3 own3 hl3 q2 IN L1 L2 hl1n hl2n
      have q2 := B0.out.2.cell (i := 2) rfl
      have bl := B0.out.2.lt
      go_wp2_with (fail)
      clear q2 bl
      go_loopw [0, 8, 39] (fun v _ i wr => ∃ (k : Nat) (acc : List UInt8) (A1 : Option Addr) (c1 : Nat), k ≤ cards.length ∧ i = .int .i64 k ∧ v = .slice A1 acc.length c1 ∧ acc.length ≤ bs.length + 21 + 332 * k ∧ Hid (acc = l3 ++ ((cs cards).take k).flatMap cardB) ∧ Hid (wr.ownsRow w.heap.size 5 1 v acc.length (acc.flatMap bc)) ∧ Hid (At w wr #[.int .i64 seq, .int .i64 next, .slice A cards.length a, .slice D dead.length d, .slice G groups.length gc])) (fun _ _ i _ => cards.length - (intOf i).toNat)
      case atStart => exact ⟨0, l3, A3, c3, by omega, rfl, rfl, by omega, by show _ = _; simp, O3.out, B0.out⟩
      case round =>
        clear B0 O3
        obtain ⟨k, acc, A1, c1, hk, rfl, rfl, hal, HA, O, X⟩ := hrel
        by_cases hlt : k < cards.length
        · have d1 : decide ((k : Int) < (cards.length : Int)) = true := by simp; omega
          obtain ⟨b, off, hA, hb, hat⟩ := CQ.at HC.out hlt
          have HAT := Lib.hid hat
          have HFX := Lib.hid (HF.out _ (List.getElem_mem hlt))
          have TK := Lib.hid (flat_at (f := cardB) (l := cs cards) (k := k) (by rw [cs_len]; exact hlt))
          rw [cs_get hlt] at TK
          obtain ⟨x, hx⟩ : ∃ x, x = cards[k] := ⟨_, rfl⟩
          rw [← hx] at HAT HFX TK
          have hi1 : (0 : Int) ≤ (k : Int) := by omega
          have hi2 : (k : Int) < (cards.length : Int) := by omega
          have hcl := cardB_len x.c
          have NA := Lib.hid (show acc ++ cardB x.c = l3 ++ ((cs cards).take (k + 1)).flatMap cardB by rw [TK.out, HA.out]; simp)
          clear hat hx HA TK
          subst hA
          go_wp2_with (with_reducible refine slG 56 _ rfl ?_)
          refine Stop.mk (wlG (by rfl) _ _ rfl b (off + k * 27) rfl x.c.arr (HAT.out _ X.out.1) strC x.size ?_)
          go_wp2_with (with_reducible refine stS 56 _ _ rfl rfl ?_)
          refine Stop.mk (wsB rfl _ _ _ rfl wr.heap.size _ rfl rfl _ (Blk.new _ _ _) strC x.size (by rw [x.size]; rfl) x.ones ?_)
          intro w5 hb5 hk5
          have k5 := fresh_below hk5
          replace X := Lib.hid (X.out.step k5)
          replace O := Lib.hid (own_below O.out k5)
          have T5 := Lib.hid hb5
          clear hb5 hk5 k5 HAT
          go_wp2_with (with_reducible refine stop_load 56 _ rfl rfl ?_)
          refine Stop.mk (wpList_loadB rfl _ _ rfl wr.heap.size rfl _ T5.out strC x.size ?_)
          go_wp2_with (fail)
          refine (c_cardwire_PutCard acc A1 c1 x.c _ (In.ownB bc_len O.out (by omega)) (by omega) x.wf HFX.out).mono ?_
          rintro e w6 ⟨v6, rfl, own6, hb6⟩
          obtain ⟨l6, hl6⟩ : ∃ l, l = acc ++ cardB x.c := ⟨_, rfl⟩
          rw [← hl6] at own6 NA
          have hl6n : l6.length ≤ bs.length + 21 + 332 * (k + 1) := by rw [hl6, List.length_append]; omega
          have O6 := Lib.hid (own_base own6 X.out.1.size)
          obtain ⟨A6, c6, rfl, -⟩ := own_form O6.out
          replace X := Lib.hid (X.out.step hb6)
          clear own6 hb6 hl6 O T5
          go_wp2_with (fail)
          go_roundw
          case rel => exact ⟨k + 1, l6, A6, c6, by omega, by go_num, rfl, hl6n, NA.out, O6.out, X.out⟩
          case measure => simp [intOf]; omega
        · obtain rfl : k = cards.length := by omega
          have d1 : decide ((cards.length : Int) < (cards.length : Int)) = false := by simp
          have q3 := X.out.2.cell (i := 3) rfl
          have bl := X.out.2.lt
          have hn0 := (num_len (dead.length : Int)).2
          have IN := Lib.hid (In.ownB bc_len O.out (by omega))
          obtain ⟨s1, hs1⟩ : ∃ x, x = acc ++ num (dead.length : Int) := ⟨_, rfl⟩
          have HS1 := Lib.hid (show s1 = bs ++ bk2 seq next (cs cards) dead.length by rw [hs1, HA.out, L3.out, List.take_of_length_le (by rw [cs_len]; omega)]; unfold bk2; simp)
          have hs1n : s1.length ≤ bs.length + 28 + 332 * cards.length := by rw [hs1, List.length_append]; omega
          have hs1' := Lib.hid hs1
          clear hs1 HA L3 hl3n
          go_wp2_with (fail)
          refine (c_octet_Num acc A1 c1 (dead.length : Int) _ IN.out).mono ?_
          rintro e w7 ⟨v7, rfl, own7, hb7⟩
          rw [← hs1'.out] at own7
          have O7 := Lib.hid (own_base own7 X.out.1.size)
          obtain ⟨A7, c7, rfl, -⟩ := own_form O7.out
          replace X := Lib.hid (X.out.step hb7)
          clear own7 hb7 hs1' O IN q3 bl
          have q3 := X.out.2.cell (i := 3) rfl
          have bl := X.out.2.lt
          go_wp2_with (fail)
          clear q3 bl
          go_loopw [0, 10, 55] (fun v _ i wr => ∃ (k : Nat) (acc : List UInt8) (A1 : Option Addr) (c1 : Nat), k ≤ dead.length ∧ i = .int .i64 k ∧ v = .slice A1 acc.length c1 ∧ acc.length ≤ bs.length + 28 + 332 * cards.length + 21 * k ∧ Hid (acc = s1 ++ (dead.take k).flatMap deadB) ∧ Hid (wr.ownsRow w.heap.size 5 1 v acc.length (acc.flatMap bc)) ∧ Hid (At w wr #[.int .i64 seq, .int .i64 next, .slice A cards.length a, .slice D dead.length d, .slice G groups.length gc])) (fun _ _ i _ => dead.length - (intOf i).toNat)
          case atStart => exact ⟨0, s1, A7, c7, by omega, rfl, rfl, by omega, by show _ = _; simp, O7.out, X.out⟩
          case round =>
            clear X O7
            obtain ⟨k, acc, A1, c1, hk, rfl, rfl, hal, HA, O, X⟩ := hrel
            by_cases hlt : k < dead.length
            · have d2 : decide ((k : Int) < (dead.length : Int)) = true := by simp; omega
              obtain ⟨b, off, hA, hb, hrow⟩ := HD.out.at hlt
              obtain ⟨e0, e1, e2⟩ := dead_cells hrow hlt
              replace e0 := (X.out.1.cell (p := ⟨b, off + k * 3, none⟩) hb).trans e0
              replace e1 := (X.out.1.cell (p := ⟨b, off + k * 3 + 1, none⟩) hb).trans e1
              replace e2 := (X.out.1.cell (p := ⟨b, off + k * 3 + 2, none⟩) hb).trans e2
              have TK := Lib.hid (flat_at (f := deadB) hlt)
              obtain ⟨x, hx⟩ : ∃ x, x = dead[k] := ⟨_, rfl⟩
              rw [← hx] at e0 e1 e2 TK
              have hi1 : (0 : Int) ≤ (k : Int) := by omega
              have hi2 : (k : Int) < (dead.length : Int) := by omega
              have h1 := (num_len x.id).2
              have h2 := (num_len x.ver).2
              have h3 := (num_len x.seq).2
              obtain ⟨m1, hm1⟩ : ∃ l, l = acc ++ num x.id := ⟨_, rfl⟩
              obtain ⟨m2, hm2⟩ : ∃ l, l = m1 ++ num x.ver := ⟨_, rfl⟩
              obtain ⟨m3, hm3⟩ : ∃ l, l = m2 ++ num x.seq := ⟨_, rfl⟩
              have hm1n : m1.length ≤ acc.length + 7 := by rw [hm1, List.length_append]; omega
              have hm2n : m2.length ≤ acc.length + 14 := by rw [hm2, List.length_append]; omega
              have hm3n : m3.length ≤ acc.length + 21 := by rw [hm3, List.length_append]; omega
              have NA := Lib.hid (show m3 = s1 ++ (dead.take (k + 1)).flatMap deadB by rw [TK.out, hm3, hm2, hm1, HA.out]; unfold deadB; simp)
              have M1 := Lib.hid hm1
              have M2 := Lib.hid hm2
              have M3 := Lib.hid hm3
              have bt := (Below.refl wr.heap.size wr).alloc (Nat.le_refl _) (.cells #[.int .i64 x.id, .int .i64 x.ver, .int .i64 x.seq] 60)
              have T := Lib.hid (Blk.new wr 60 #[.int .i64 x.id, .int .i64 x.ver, .int .i64 x.seq])
              have O1 := Lib.hid (own_below O.out bt)
              have X1 := Lib.hid (X.out.step bt)
              have hbw := X1.out.1.size
              clear hrow hx HA TK hm1 hm2 hm3 bt
              subst hA
              go_wp2_with (fail)
              refine wp_region_rel [Sp.own w.heap.size 5 1 bc acc, Sp.eq (.pointer (some ⟨wr.heap.size, 0, none⟩)), Sp.eq (.int .i64 x.id), Sp.own w.heap.size 5 1 bc m1, Sp.eq (.pointer (some ⟨wr.heap.size, 1, none⟩)), Sp.eq (.int .i64 x.ver), Sp.own w.heap.size 5 1 bc m2, Sp.eq (.pointer (some ⟨wr.heap.size, 2, none⟩)), Sp.eq (.int .i64 x.seq), Sp.own w.heap.size 5 1 bc m3, Sp.own w.heap.size 5 1 bc m3] 103 (by kernel_rfl) (by kernel_rfl) rfl rfl ?_ ?_
              · refine ⟨?_, ?_, ?_, ?_, ?_, ?_, ?_, ?_, ?_, ?_, ?_, trivial⟩
                all_goals (intro u w2 hb2 hd; simp [Deps, Region.binds, Sp.own_holds, Sp.eq_holds] at hd; simp only [putDeps, dstOf, Region.binds])
                case refine_1 =>
                  go_wp2_with (fail); exact RelEnd.mk rfl (Below.refl _ _) (own_below O1.out hb2)
                case refine_2 =>
                  go_wp2_with (fail); exact RelEnd.mk rfl (Below.refl _ _) rfl
                case refine_3 =>
                  have q := (T.out.below hb2 T.out.lt).cell (i := 0) rfl
                  go_wp2_with (fail); exact RelEnd.mk rfl (Below.refl _ _) rfl
                case refine_4 =>
                  have hx : (Sp.own w.heap.size 5 1 bc acc).holds (u 0) w2 := by first | exact hd | exact hd.1 | exact hd.2
                  obtain ⟨A4, c4, e4, in4⟩ := In.of_own bc_len hx (by omega)
                  go_wp2_with (go_at_call 36; refine (c_octet_Num acc A4 c4 x.id _ in4).mono ?_; rintro e w3 ⟨v3, rfl, own3, hb3⟩)
                  rw [← M1.out] at own3
                  exact RelEnd.mk rfl hb3 (own_base own3 (Nat.le_trans hbw hb2.size))
                case refine_5 =>
                  go_wp2_with (fail); exact RelEnd.mk rfl (Below.refl _ _) rfl
                case refine_6 =>
                  have q := (T.out.below hb2 T.out.lt).cell (i := 1) rfl
                  go_wp2_with (fail); exact RelEnd.mk rfl (Below.refl _ _) rfl
                case refine_7 =>
                  have hx : (Sp.own w.heap.size 5 1 bc m1).holds (u 3) w2 := by first | exact hd | exact hd.1 | exact hd.2
                  obtain ⟨A4, c4, e4, in4⟩ := In.of_own bc_len hx (by omega)
                  go_wp2_with (go_at_call 36; refine (c_octet_Num m1 A4 c4 x.ver _ in4).mono ?_; rintro e w3 ⟨v3, rfl, own3, hb3⟩)
                  rw [← M2.out] at own3
                  exact RelEnd.mk rfl hb3 (own_base own3 (Nat.le_trans hbw hb2.size))
                case refine_8 =>
                  go_wp2_with (fail); exact RelEnd.mk rfl (Below.refl _ _) rfl
                case refine_9 =>
                  have q := (T.out.below hb2 T.out.lt).cell (i := 2) rfl
                  go_wp2_with (fail); exact RelEnd.mk rfl (Below.refl _ _) rfl
                case refine_10 =>
                  have hx : (Sp.own w.heap.size 5 1 bc m2).holds (u 6) w2 := by first | exact hd | exact hd.1 | exact hd.2
                  obtain ⟨A4, c4, e4, in4⟩ := In.of_own bc_len hx (by omega)
                  go_wp2_with (go_at_call 36; refine (c_octet_Num m2 A4 c4 x.seq _ in4).mono ?_; rintro e w3 ⟨v3, rfl, own3, hb3⟩)
                  rw [← M3.out] at own3
                  exact RelEnd.mk rfl hb3 (own_base own3 (Nat.le_trans hbw hb2.size))
                case refine_11 =>
                  have hx : (Sp.own w.heap.size 5 1 bc m3).holds (u 9) w2 := by first | exact hd | exact hd.1 | exact hd.2
                  go_wp2_with (fail); exact RelEnd.mk rfl (Below.refl _ _) hx
              · intro u w2 hb2 hold
                simp only [RelHold, Sp.eq_holds, Sp.own_holds] at hold
                obtain ⟨-, -, -, -, -, -, -, -, -, -, hE, -⟩ := hold
                simp only [putAll, Act.put, Nat.reduceAdd, List.setIfInBounds_toArray, List.set_cons_zero, List.set_cons_succ]
                replace X1 := Lib.hid (X1.out.step hb2)
                obtain ⟨A2, c2, e2', -⟩ := own_form hE
                have OE := Lib.hid hE
                rw [e2'] at OE ⊢
                clear hE e2' hb2 hbw X O O1 T e0 e1 e2
                go_wp2_with (fail)
                go_roundw
                case rel => exact ⟨k + 1, m3, A2, c2, by omega, by go_num, rfl, by omega, NA.out, OE.out, X1.out⟩
                case measure => simp [intOf]; omega
            · obtain rfl : k = dead.length := by omega
              have d2 : decide ((dead.length : Int) < (dead.length : Int)) = false := by simp
              have q4 := X.out.2.cell (i := 4) rfl
              have bl := X.out.2.lt
              have hn0 := (num_len (groups.length : Int)).2
              have IN := Lib.hid (In.ownB bc_len O.out (by omega))
              obtain ⟨s2, hs2⟩ : ∃ x, x = acc ++ num (groups.length : Int) := ⟨_, rfl⟩
              have HS2 := Lib.hid (show s2 = bs ++ bk3 seq next (cs cards) dead groups.length by rw [hs2, HA.out, HS1.out, List.take_length]; unfold bk3; simp)
              have hs2n : s2.length ≤ bs.length + 40000 := by rw [hs2, List.length_append]; omega
              have hs2' := Lib.hid hs2
              clear hs2 HA HS1 hs1n
              go_wp2_with (fail)
              refine (c_octet_Num acc A1 c1 (groups.length : Int) _ IN.out).mono ?_
              rintro e w7 ⟨v7, rfl, own7, hb7⟩
              rw [← hs2'.out] at own7
              have O7 := Lib.hid (own_base own7 X.out.1.size)
              obtain ⟨A7, c7, rfl, -⟩ := own_form O7.out
              replace X := Lib.hid (X.out.step hb7)
              clear own7 hb7 hs2' O IN q4 bl
              have q4 := X.out.2.cell (i := 4) rfl
              have bl := X.out.2.lt
              go_wp2_with (fail)
              clear q4 bl
              go_loopw [0, 12, 78] (fun v _ i wr => ∃ (k : Nat) (acc : List UInt8) (A1 : Option Addr) (c1 : Nat), k ≤ groups.length ∧ i = .int .i64 k ∧ v = .slice A1 acc.length c1 ∧ acc.length ≤ bs.length + 40000 + 714 * k ∧ Hid (acc = s2 ++ ((grps groups).take k).flatMap grpB) ∧ Hid (wr.ownsRow w.heap.size 5 1 v acc.length (acc.flatMap bc)) ∧ Hid (Below w.heap.size w wr)) (fun _ _ i _ => groups.length - (intOf i).toNat)
              case atStart => exact ⟨0, s2, A7, c7, by omega, rfl, rfl, by omega, by show _ = _; simp, O7.out, X.out.1⟩
              case round =>
                clear X O7
                obtain ⟨k, acc, A1, c1, hk, rfl, rfl, hal, HA, O, X⟩ := hrel
                by_cases hlt : k < groups.length
                · have d3 : decide ((k : Int) < (groups.length : Int)) = true := by simp; omega
                  obtain ⟨b, off, hA, hb, hrow⟩ := HGG.out.at hlt
                  obtain ⟨e0, e1⟩ := grp_cells hrow hlt
                  replace e0 := (X.out.cell (p := ⟨b, off + k * 2, none⟩) hb).trans e0
                  replace e1 := (X.out.cell (p := ⟨b, off + k * 2 + 1, none⟩) hb).trans e1
                  have TK := Lib.hid (flat_at (f := grpB) (l := grps groups) (k := k) (by rw [grps_len]; exact hlt))
                  rw [grps_get hlt] at TK
                  have HI := Lib.hid (HGM.out _ (List.getElem_mem hlt))
                  have hml := HM.out _ (List.getElem_mem hlt)
                  obtain ⟨x, hx⟩ : ∃ x, x = groups[k] := ⟨_, rfl⟩
                  rw [← hx] at e0 e1 TK HI hml
                  have hi1 : (0 : Int) ≤ (k : Int) := by omega
                  have hi2 : (k : Int) < (groups.length : Int) := by omega
                  have h1 := (num_len x.no).2
                  have h2 := (num_len (x.mem.length : Int)).2
                  have hj1 := HI.out.1
                  have hj2 := HI.out.2.1
                  have hj3 := HI.out.2.2.1
                  obtain ⟨m1, hm1⟩ : ∃ l, l = acc ++ num x.no := ⟨_, rfl⟩
                  obtain ⟨m2, hm2⟩ : ∃ l, l = m1 ++ num (x.mem.length : Int) := ⟨_, rfl⟩
                  have hm1n : m1.length ≤ acc.length + 7 := by rw [hm1, List.length_append]; omega
                  have hm2n : m2.length ≤ acc.length + 14 := by rw [hm2, List.length_append]; omega
                  have NA := Lib.hid (show m2 ++ x.mem.flatMap num = s2 ++ ((grps groups).take (k + 1)).flatMap grpB by rw [TK.out, hm2, hm1, HA.out]; unfold grpB GQ.g; simp)
                  have M1 := Lib.hid hm1
                  have M2 := Lib.hid hm2
                  have bt := (Below.refl wr.heap.size wr).alloc (Nat.le_refl _) (.cells #[.int .i64 x.no, .slice x.A x.mem.length x.c] 65)
                  have T := Lib.hid (Blk.new wr 65 #[.int .i64 x.no, .slice x.A x.mem.length x.c])
                  have O1 := Lib.hid (own_below O.out bt)
                  have X1 := Lib.hid (X.out.trans (bt.mono X.out.size))
                  have hbw := X1.out.size
                  clear hrow hx HA TK hm1 hm2 bt
                  subst hA
                  go_wp2_with (fail)
                  refine wp_region_rel [Sp.own w.heap.size 5 1 bc acc, Sp.eq (.pointer (some ⟨wr.heap.size, 0, none⟩)), Sp.eq (.int .i64 x.no), Sp.own w.heap.size 5 1 bc m1, Sp.eq (.pointer (some ⟨wr.heap.size, 1, none⟩)), Sp.eq (.slice x.A x.mem.length x.c), Sp.eq (.int .i64 (x.mem.length : Int)), Sp.own w.heap.size 5 1 bc m2, Sp.own w.heap.size 5 1 bc m2] 103 (by kernel_rfl) (by kernel_rfl) rfl rfl ?_ ?_
                  · refine ⟨?_, ?_, ?_, ?_, ?_, ?_, ?_, ?_, ?_, trivial⟩
                    all_goals (intro u w2 hb2 hd; simp [Deps, Region.binds, Sp.own_holds, Sp.eq_holds] at hd; simp only [putDeps, dstOf, Region.binds])
                    case refine_1 =>
                      go_wp2_with (fail); exact RelEnd.mk rfl (Below.refl _ _) (own_below O1.out hb2)
                    case refine_2 =>
                      go_wp2_with (fail); exact RelEnd.mk rfl (Below.refl _ _) rfl
                    case refine_3 =>
                      have q := (T.out.below hb2 T.out.lt).cell (i := 0) rfl
                      go_wp2_with (fail); exact RelEnd.mk rfl (Below.refl _ _) rfl
                    case refine_4 =>
                      have hx : (Sp.own w.heap.size 5 1 bc acc).holds (u 0) w2 := by first | exact hd | exact hd.1 | exact hd.2
                      obtain ⟨A4, c4, e4, in4⟩ := In.of_own bc_len hx (by omega)
                      go_wp2_with (go_at_call 36; refine (c_octet_Num acc A4 c4 x.no _ in4).mono ?_; rintro e w3 ⟨v3, rfl, own3, hb3⟩)
                      rw [← M1.out] at own3
                      exact RelEnd.mk rfl hb3 (own_base own3 (Nat.le_trans hbw hb2.size))
                    case refine_5 =>
                      go_wp2_with (fail); exact RelEnd.mk rfl (Below.refl _ _) rfl
                    case refine_6 =>
                      have q := (T.out.below hb2 T.out.lt).cell (i := 1) rfl
                      go_wp2_with (fail); exact RelEnd.mk rfl (Below.refl _ _) rfl
                    case refine_7 =>
                      go_wp2_with (fail); exact RelEnd.mk rfl (Below.refl _ _) rfl
                    case refine_8 =>
                      have hx : (Sp.own w.heap.size 5 1 bc m1).holds (u 3) w2 := by first | exact hd | exact hd.1 | exact hd.2
                      obtain ⟨A4, c4, e4, in4⟩ := In.of_own bc_len hx (by omega)
                      go_wp2_with (go_at_call 36; refine (c_octet_Num m1 A4 c4 (x.mem.length : Int) _ in4).mono ?_; rintro e w3 ⟨v3, rfl, own3, hb3⟩)
                      rw [← M2.out] at own3
                      exact RelEnd.mk rfl hb3 (own_base own3 (Nat.le_trans hbw hb2.size))
                    case refine_9 =>
                      have hx : (Sp.own w.heap.size 5 1 bc m2).holds (u 7) w2 := by first | exact hd | exact hd.1 | exact hd.2
                      go_wp2_with (fail); exact RelEnd.mk rfl (Below.refl _ _) hx
                  · intro u w2 hb2 hold
                    simp only [RelHold, Sp.eq_holds, Sp.own_holds] at hold
                    obtain ⟨-, -, -, -, -, -, -, -, hE, -⟩ := hold
                    simp only [putAll, Act.put, Nat.reduceAdd, List.setIfInBounds_toArray, List.set_cons_zero, List.set_cons_succ]
                    have T2 := Lib.hid (T.out.below hb2 T.out.lt)
                    replace X1 := Lib.hid (X1.out.trans (hb2.mono X1.out.size))
                    obtain ⟨A2, c2, e2', -⟩ := own_form hE
                    have OE := Lib.hid hE
                    rw [e2'] at OE ⊢
                    have r1 := T2.out.cell (i := 1) rfl
                    have tl := T2.out.lt
                    clear hE e2' hb2 hbw X O O1 T e0 e1
                    go_wp2_with (fail)
                    clear r1 tl T2
                    go_loopw [0, 14, 93] (fun v _ i wr => ∃ (j : Nat) (acc : List UInt8) (A1 : Option Addr) (c1 : Nat), j ≤ x.mem.length ∧ i = .int .i64 j ∧ v = .slice A1 acc.length c1 ∧ acc.length ≤ bs.length + 40000 + 714 * k + 14 + 7 * j ∧ Hid (acc = m2 ++ (x.mem.take j).flatMap num) ∧ Hid (wr.ownsRow w.heap.size 5 1 v acc.length (acc.flatMap bc)) ∧ Hid (Below w.heap.size w wr)) (fun _ _ i _ => x.mem.length - (intOf i).toNat)
                    case atStart => exact ⟨0, m2, A2, c2, by omega, rfl, rfl, by omega, by show _ = _; simp, OE.out, X1.out⟩
                    case round =>
                      clear X1 OE
                      obtain ⟨j, acc, A1, c1, hj, rfl, rfl, hal, HA, O, X⟩ := hrel
                      by_cases hlj : j < x.mem.length
                      · have d4 : decide ((j : Int) < (x.mem.length : Int)) = true := by simp; omega
                        obtain ⟨mb, mo, hA, hb9, hrow⟩ := HI.out.at hlj
                        have e0 := (X.out.cell (p := ⟨mb, mo + j, none⟩) hb9).trans (show w.cell? ⟨mb, mo + j, none⟩ = some (.int .i64 x.mem[j]) by have := hrow j hlj 0 _ rfl; simpa using this)
                        have TK := Lib.hid (flat_at (f := num) hlj)
                        obtain ⟨y, hy⟩ : ∃ y, y = x.mem[j] := ⟨_, rfl⟩
                        rw [← hy] at e0 TK
                        have hk1 : (0 : Int) ≤ (j : Int) := by omega
                        have hk2 : (j : Int) < (x.mem.length : Int) := by omega
                        have h1 := (num_len y).2
                        have NB := Lib.hid (show acc ++ num y = m2 ++ (x.mem.take (j + 1)).flatMap num by rw [TK.out, HA.out]; simp)
                        have IN := Lib.hid (In.ownB bc_len O.out (by omega))
                        have HAX := Lib.hid hA
                        clear hrow hy HA TK hA
                        rw [HAX.out]
                        go_wp2_with (fail)
                        refine (c_octet_Num acc A1 c1 y _ IN.out).mono ?_
                        rintro e w7 ⟨v7, rfl, own7, hb7⟩
                        obtain ⟨l7, hl7⟩ : ∃ l, l = acc ++ num y := ⟨_, rfl⟩
                        rw [← hl7] at own7 NB
                        have hl7n : l7.length ≤ bs.length + 40000 + 714 * k + 14 + 7 * (j + 1) := by rw [hl7, List.length_append]; omega
                        have O7 := Lib.hid (own_base own7 X.out.size)
                        obtain ⟨A7, c7, rfl, -⟩ := own_form O7.out
                        replace X := Lib.hid (X.out.trans (hb7.mono X.out.size))
                        clear own7 hb7 hl7 O IN e0
                        go_wp2_with (fail)
                        go_roundw
                        case rel => exact ⟨j + 1, l7, A7, c7, by omega, by go_num, rfl, hl7n, NB.out, O7.out, X.out⟩
                        case measure => simp [intOf]; omega
                      · obtain rfl : j = x.mem.length := by omega
                        have d4 : decide ((x.mem.length : Int) < (x.mem.length : Int)) = false := by simp
                        have NB := Lib.hid (show acc = s2 ++ ((grps groups).take (k + 1)).flatMap grpB by rw [← NA.out, HA.out, List.take_length])
                        clear HA
                        go_wp2_with (fail)
                        go_roundw
                        case rel => exact ⟨k + 1, acc, A1, c1, by omega, by go_num, rfl, by omega, NB.out, O.out, X.out⟩
                        case measure => simp [intOf]; omega
                · obtain rfl : k = groups.length := by omega
                  have d3 : decide ((groups.length : Int) < (groups.length : Int)) = false := by simp
                  have HE := Lib.hid (show acc = bs ++ bookB ⟨seq, next, cs cards, dead, grps groups⟩ by
                    rw [← bk_all HOK.out, HA.out, HS2.out, List.take_of_length_le (by rw [grps_len]; omega)]
                    show _ = bs ++ (bk3 seq next (cs cards) dead (grps groups).length ++ _)
                    rw [grps_len]; simp)
                  go_wp2_with (fail)
                  go_ret
                  exact RetS.of O.out (Nat.le_refl _) HE.out X.out
theorem c_bookwire_Put (bs : List UInt8) (B : Option Addr) (cb : Nat) (b : BQ) (w : World) (hbs : InB w B cb bs) (hbl : bs.length ≤ 100000) (h : b.at_ w) (hf : b.few) : Calls Tryd.prog 14 #[.slice B bs.length cb, .agg b.arr] w (RetS 1 bc 5 w (bs ++ bookB b.book)) :=
  bookwire_Put bs B cb b.seq b.next b.cards b.dead b.groups b.A b.a b.D b.d b.G b.g w hbs hbl h.cards h.dead h.groups h.mem h.fit hf.cards hf.dead hf.groups hf.mem
end Go.Proofs.YtldoedmclfbgpaaDoor
namespace Go.Proofs.YtldoedmclfbgpaaDoor
open Go.RowKit

theorem bookB_len {b : BQ} (h : b.few) : (bookB b.book).length ≤ 50000 := by
  cases hok : b.book.ok
  · rw [bookB_bad hok]; simp
  · rw [← bk_all hok, List.length_append]
    have h1 := bk3_len b.book.seq b.book.next b.book.cards b.book.dead b.book.groups.length
    have h2 := grps_le (grps_few h.mem)
    have e1 : b.book.cards.length = b.cards.length := by unfold BQ.book; simp
    have e2 : b.book.dead.length = b.dead.length := rfl
    have e3 : b.book.groups = grps b.groups := rfl
    have f1 := h.cards
    have f2 := h.dead
    have f3 := h.groups
    rw [grps_len] at h2
    rw [e3] at h1 ⊢
    omega
def awakeBk : BQ := ⟨0, 1, [], [], [], none, 0, none, 0, none, 0⟩
theorem awakeBk_arr : awakeBk.arr = #[.int .i64 0, .int .i64 1, .slice none 0 0, .slice none 0 0, .slice none 0 0] := rfl
theorem awakeBk_put : bookB awakeBk.book = [0, 1, 0, 0, 0] := by decide +kernel
theorem awakeBk_built : Tryd.prog.built 35 [(1, .int .i64 1)] = some #[.int .i64 0, .int .i64 1, .slice none 0 0, .slice none 0 0, .slice none 0 0] := by kernel_rfl
theorem awakeBk_at (w : World) : awakeBk.at_ w := ⟨In.nil (by decide), In.nil (by decide), In.nil (by decide), (fun x hx => (by first | cases hx | simp at hx)), (fun x hx => (by first | cases hx | simp at hx))⟩
theorem awakeBk_few : awakeBk.few := ⟨by decide, by decide, by decide, fun x hx => (by first | cases hx | simp at hx)⟩
set_option maxHeartbeats 1000000 in
set_option maxRecDepth 100000 in
theorem c_law21_awake (w : World) : Calls Tryd.prog 5 #[] w (RetV w (.bool true)) := by
  have hp := c_bookwire_Put [] none 0 awakeBk w (In.nil (by omega)) (by simp) (awakeBk_at w) awakeBk_few
  rw [awakeBk_arr, List.nil_append, awakeBk_put] at hp
  have HP := Lib.hid hp
  clear hp
  go_enter Tryd.func5, Tryd.ntmps5
  go_wp2_with (with_reducible refine stop_build 35 _ rfl ?_)
  refine Stop.mk (wpList_buildD rfl _ _ rfl [(1, .int .i64 1)] (by rfl) _ awakeBk_built ?_)
  go_wp2_with (fail)
  refine HP.out.mono ?_
  rintro e w5 ⟨v5, rfl, own5, hb5⟩
  obtain ⟨A2, c2, rfl, in2⟩ := In.of_own bc_len own5 (by simp)
  have kc : (convert 22 9 (.slice A2 5 c2)).run Tryd.prog w5 = .ok (.string (str [0, 1, 0, 0, 0])) w5 := conv_str w5 Tryd.underlying22 Tryd.underlying5 Tryd.underlying9 in2
  clear own5 in2
  go_wp2_with (fail)
  go_ret
  exact RetV.bool rfl hb5
end Go.Proofs.YtldoedmclfbgpaaDoor
namespace Go.Proofs.YtldoedmclfbgpaaDoor
open Go.RowKit

theorem elemCard : Elem Tryd.prog 31 56 27 280 := Elem.mk' (z := .agg zcA) Tryd.underlying31 (by kernel_rfl) rfl (by omega) (by omega)
theorem CQ.ones_all (x : CQ) : ∀ u ∈ x.cells, u.oneCell' = true := by
  have h := x.ones
  intro u hu
  unfold CQ.cells at hu
  obtain ⟨i, hi, rfl⟩ := List.getElem_of_mem hu
  rw [Array.all_eq_true] at h
  simpa using h i (by simpa using hi)
/-- The end of a call that reads a list. -/
def RetPL {α : Type} (k : Nat) (cs : α → List Value) (t : TypeId) (p : Option Nat) (w : World) (T : List α × Rd) (e : Ending) (w' : World) : Prop :=
  ∃ A c, e = .returned (.slice A T.1.length c) ∧ w'.ownsRow w.heap.size t k (.slice A T.1.length c) T.1.length (T.1.flatMap cs) ∧ RdP w' p T.2 ∧ Kept p w.heap.size w w'
set_option maxHeartbeats 400000 in
theorem c_bookwire_member (p : Option Nat) (st : Rd) (w : World) (hr : RdP w p st) : Calls Tryd.prog 44 #[ptr p] w (RetP p (rdMem' st) w (.int .i64 (rdMem st))) := by
  have HR := Lib.hid hr
  clear hr
  go_enter Tryd.func44, Tryd.ntmps44
  go_wp2_with (fail)
  refine (c_octet_RNum p st 1073741824 _ HR.out).mono ?_
  rintro e w1 ⟨rfl, hr1, hk1⟩
  have R1 := Lib.hid hr1
  have K1 := Lib.hid hk1
  clear hr1 hk1
  go_wp2_with (fail)
  go_ret
  exact ⟨rfl, R1.out, K1.out⟩
set_option maxHeartbeats 1000000 in
theorem c_bookwire_dead (p : Option Nat) (st : Rd) (w : World) (hr : RdP w p st) : Calls Tryd.prog 22 #[ptr p] w (RetP p (rdDead' st) w (.agg (rdDead st).cells.toArray)) := by
  obtain ⟨a, ha⟩ : ∃ a, a = rdN st 1099511627776 := ⟨_, rfl⟩
  obtain ⟨b, hb⟩ : ∃ a, a = rdN (rdN' st 1099511627776) 1099511627776 := ⟨_, rfl⟩
  obtain ⟨c, hc⟩ : ∃ a, a = rdN (rdN' (rdN' st 1099511627776) 1099511627776) 1099511627776 := ⟨_, rfl⟩
  have HA := Lib.hid ha
  have HB := Lib.hid hb
  have HC := Lib.hid hc
  rw [show (rdDead st).cells.toArray = #[.int .i64 a, .int .i64 b, .int .i64 c] by rw [ha, hb, hc]; rfl]
  have E := Lib.hid ((EnvP.start hr).alloc 60 #[.int .i64 0, .int .i64 0, .int .i64 0])
  clear hr ha hb hc
  go_enter Tryd.func22, Tryd.ntmps22
  go_wp2_with (fail)
  refine (c_octet_RNum p st 1099511627776 _ E.out.rd).mono ?_
  rintro e w1 ⟨rfl, hr, hk⟩
  rw [← HA.out]
  replace E := Lib.hid (E.out.call hr hk)
  clear hr hk
  go_wp2_with (with_reducible refine stop_build 60 _ rfl ?_)
  refine Stop.mk (wpList_buildD rfl _ _ rfl _ rfl #[.int .i64 a, .int .i64 0, .int .i64 0] (by kernel_rfl) ?_)
  go_wp2_with (with_reducible refine stS 60 _ _ rfl rfl ?_)
  refine Stop.mk (wsB rfl _ _ _ rfl w1.heap.size _ rfl rfl _ (Blk.new _ _ _) strDead rfl rfl (by simp [Value.oneCell']) ?_)
  intro w2 hb2 hk2
  replace E := Lib.hid ((E.out.alloc 60 #[.int .i64 0, .int .i64 0, .int .i64 0]).put0 hb2 hk2)
  clear hb2 hk2
  obtain ⟨G1, hG1⟩ : ∃ g, g = w1.heap.size := ⟨_, rfl⟩
  rw [← hG1] at E ⊢
  clear hG1
  go_wp2_with (fail)
  refine (c_octet_RNum p _ 1099511627776 _ E.out.rd).mono ?_
  rintro e w3 ⟨rfl, hr, hk⟩
  rw [← HB.out]
  replace E := Lib.hid (E.out.call hr hk)
  clear hr hk
  have u1 := E.out.b0.cell (i := 1) rfl
  have ff := fun i => E.out.b0.frozen i
  have gl := E.out.b0.lt
  go_wp2_with (fail)
  clear u1 ff gl
  replace E := Lib.hid ((E.out.store0 1 (.int .i64 b)).as (show _ = #[.int .i64 a, .int .i64 b, .int .i64 0] from rfl))
  refine (c_octet_RNum p _ 1099511627776 _ E.out.rd).mono ?_
  rintro e w4 ⟨rfl, hr, hk⟩
  rw [← HC.out]
  replace E := Lib.hid (E.out.call hr hk)
  clear hr hk
  have u2 := E.out.b0.cell (i := 2) rfl
  have ff := fun i => E.out.b0.frozen i
  have gl := E.out.b0.lt
  go_wp2_with (with_reducible refine stop_load 60 _ rfl rfl ?_)
  replace E := Lib.hid ((E.out.store0 2 (.int .i64 c)).as (show _ = #[.int .i64 a, .int .i64 b, .int .i64 c] from rfl))
  clear u2 ff gl
  refine Stop.mk (wpList_loadB rfl _ _ rfl G1 rfl _ E.out.b0 strDead rfl ?_)
  go_wp2_with (with_reducible refine stS 60 _ _ rfl rfl ?_)
  refine Stop.mk (wsB rfl _ _ _ rfl w.heap.size _ rfl rfl _ E.out.b1 strDead rfl rfl (by simp [Value.oneCell']) ?_)
  intro w99 hb99 hk99
  replace E := Lib.hid (E.out.put1 hb99 hk99)
  clear hk99
  go_wp2_with (fail)
  exact bodyPost_ret (results_B rfl rfl hb99 strDead rfl) rfl ⟨rfl, E.out.rd, E.out.kept⟩
set_option maxHeartbeats 4000000 in
set_option maxRecDepth 4000 in
theorem c_list_int (p : Option Nat) (st : Rd) (most : Int) (w : World) (hm : most ≤ 48) (hr : RdP w p st) : Calls Tryd.prog 43 #[ptr p, .int .i64 most, .func (.func 44) #[] #[]] w (RetPL 1 ic 3 p w (rdL rdMem rdMem' (rdN st most).toNat (rdN' st most) [])) := by
  have HR := Lib.hid hr
  have LOW := Lib.hid (fun (g : Nat) (h : p = some g) => hr.lt h)
  have hn := rdN_bd st most
  obtain ⟨N, hN⟩ : ∃ N : Nat, N = (rdN st most).toNat := ⟨_, rfl⟩
  have hNv : rdN st most = (N : Int) := by omega
  have hN48 : N ≤ 48 := by omega
  obtain ⟨TT, hTT⟩ : ∃ T, T = rdL rdMem rdMem' N (rdN' st most) [] := ⟨_, rfl⟩
  have HTT := Lib.hid hTT
  have HNV := Lib.hid hNv
  rw [← hN, ← hTT]
  clear hr hn hN hNv hTT
  go_enter Tryd.func43, Tryd.ntmps43
  go_wp2_with (fail)
  refine (c_octet_RNum p st most _ HR.out).mono ?_
  rintro e w1 ⟨rfl, hr1, hk1⟩
  rw [HNV.out]
  have R1 := Lib.hid hr1
  have K1 := Lib.hid hk1
  clear hr1 hk1
  go_wp2_with (fail)
  go_loopw [7, 11] (fun v i wr => ∃ (k : Nat) (acc : List Int) (S : Rd), k ≤ N ∧ i = .int .i64 k ∧ acc.length ≤ k ∧ Hid (rdL rdMem rdMem' (N - k) S acc = TT) ∧ Hid (wr.ownsRow w.heap.size 3 1 v acc.length (acc.flatMap ic)) ∧ Hid (RdP wr p S) ∧ Hid (Kept p w.heap.size w wr)) (fun _ i _ => N - (intOf i).toNat)
  case atStart => exact ⟨0, [], _, by omega, rfl, by simp, by rw [HTT.out]; rfl, World.ownsRow_nil _ _ _ _, R1.out, K1.out⟩
  case round =>
    clear R1 K1
    obtain ⟨k, acc, S, hk, rfl, hal, L, O, R, K⟩ := hrel
    have hz := K.out.size
    by_cases hlt : k < N
    · have d1 : decide ((k : Int) < (N : Int)) = true := by simp; omega
      obtain ⟨x, hx⟩ : ∃ x, x = rdMem S := ⟨_, rfl⟩
      obtain ⟨S2, hS2⟩ : ∃ s, s = rdMem' S := ⟨_, rfl⟩
      have HX := Lib.hid hx
      have HS2 := Lib.hid hS2
      obtain ⟨m, hm2⟩ : ∃ m, m = N - (k + 1) := ⟨_, rfl⟩
      have HL := Lib.hid (show (S2.e = 0 → rdL rdMem rdMem' m S2 (acc ++ [x]) = TT) ∧ (S2.e ≠ 0 → TT = ([], S2)) by
        have h := L.out
        rw [show N - k = m + 1 by omega] at h
        rw [hx, hS2]
        exact ⟨fun e => by rw [← h, rdL_ok e], fun e => by rw [← h, rdL_bad e]⟩)
      have HM2 := Lib.hid hm2
      obtain ⟨A1, c1, rfl, -⟩ := own_form O.out
      clear hx hS2 L hm2
      go_wp2_with (fail)
      refine (c_bookwire_member p S _ R.out).mono ?_
      rintro e w2 ⟨rfl, hr2, hk2⟩
      rw [← HX.out]
      rw [← HS2.out] at hr2
      replace O := Lib.hid (own_kept O.out hk2 (fun g h => LOW.out g h))
      replace K := Lib.hid (K.out.then_kept hk2 hz)
      have hz2 := K.out.size
      replace R := Lib.hid hr2
      clear hr2 hk2 HX HS2
      go_wp2_with ((at_builtin; refine Stop.out ?_))
      refine Stop.mk (wpList_app _ rfl _ _ elemInt rfl w.heap.size (.slice A1 acc.length c1) acc.length _ rfl (own_below O.out ((Below.refl _ _).alloc (Nat.le_refl _) _)) _ 1 1 (ic x) rfl (Src.new _ (ic x) _ 1 rfl) (by simp [ic, Value.oneCell']) (by omega) (by simp only [World.size_alloc]; omega) ?_)
      intro v4 w4 own4 _ hb4 _
      have k4 : Below w.heap.size w2 w4 := Below.trans (b := w2.alloc (.cells #[.int .i64 x] 3)) ((Below.refl _ _).alloc hz2 _) hb4
      have O4 := Lib.hid (show w4.ownsRow w.heap.size 3 1 v4 (acc ++ [x]).length ((acc ++ [x]).flatMap ic) by simpa using own4)
      have R4 := Lib.hid (R.out.up k4 LOW.out)
      have K4 := Lib.hid (K.out.trans (.of_below k4))
      clear own4 hb4 k4 O R K
      go_wp2_with (fail)
      refine (c_octet_Err' p S2 _ R4.out).mono ?_
      rintro e w5 ⟨rfl, hb5⟩
      have O5 := Lib.hid (own_below O4.out hb5)
      have R5 := Lib.hid (R4.out.below hb5)
      have K5 := Lib.hid (K4.out.then_below hb5 K4.out.size)
      clear hb5 O4 R4 K4
      by_cases he : S2.e = 0
      · have t1 : (S2.e != 0) = false := by simpa using he
        have L2 := Lib.hid (HL.out.1 he)
        clear he HL
        go_wp2_with (fail)
        go_roundw
        case rel => exact ⟨k + 1, acc ++ [x], S2, by omega, by go_num, by simp; omega, by rw [← HM2.out]; exact L2.out, O5.out, R5.out, K5.out⟩
        case measure => simp [intOf]; omega
      · have t1 : (S2.e != 0) = true := by simpa using he
        have L2 := Lib.hid (HL.out.2 he)
        clear he HL
        go_wp2_with (fail)
        go_ret
        rw [L2.out]
        exact ⟨none, 0, rfl, World.ownsRow_nil _ _ _ _, R5.out, K5.out⟩
    · obtain rfl : k = N := by omega
      have d1 : decide ((k : Int) < (k : Int)) = false := by simp
      have L2 := Lib.hid (show TT = (acc, S) by rw [← L.out, Nat.sub_self]; rfl)
      obtain ⟨A1, c1, rfl, -⟩ := own_form O.out
      go_wp2_with (fail)
      go_ret
      rw [L2.out]
      exact ⟨A1, c1, rfl, O.out, R.out, K.out⟩
set_option maxHeartbeats 4000000 in
set_option maxRecDepth 4000 in
theorem c_list_dead (p : Option Nat) (st : Rd) (most : Int) (w : World) (hm : most ≤ 48) (hr : RdP w p st) : Calls Tryd.prog 21 #[ptr p, .int .i64 most, .func (.func 22) #[] #[]] w (RetPL 3 Dead.cells 60 p w (rdL rdDead rdDead' (rdN st most).toNat (rdN' st most) [])) := by
  have HR := Lib.hid hr
  have LOW := Lib.hid (fun (g : Nat) (h : p = some g) => hr.lt h)
  have hn := rdN_bd st most
  obtain ⟨N, hN⟩ : ∃ N : Nat, N = (rdN st most).toNat := ⟨_, rfl⟩
  have hNv : rdN st most = (N : Int) := by omega
  have hN48 : N ≤ 48 := by omega
  obtain ⟨TT, hTT⟩ : ∃ T, T = rdL rdDead rdDead' N (rdN' st most) [] := ⟨_, rfl⟩
  have HTT := Lib.hid hTT
  have HNV := Lib.hid hNv
  rw [← hN, ← hTT]
  clear hr hn hN hNv hTT
  go_enter Tryd.func21, Tryd.ntmps21
  go_wp2_with (fail)
  refine (c_octet_RNum p st most _ HR.out).mono ?_
  rintro e w1 ⟨rfl, hr1, hk1⟩
  rw [HNV.out]
  have R1 := Lib.hid hr1
  have K1 := Lib.hid hk1
  clear hr1 hk1
  go_wp2_with (fail)
  go_loopw [7, 11] (fun v i wr => ∃ (k : Nat) (acc : List Dead) (S : Rd), k ≤ N ∧ i = .int .i64 k ∧ acc.length ≤ k ∧ Hid (rdL rdDead rdDead' (N - k) S acc = TT) ∧ Hid (wr.ownsRow w.heap.size 60 3 v acc.length (acc.flatMap Dead.cells)) ∧ Hid (RdP wr p S) ∧ Hid (Kept p w.heap.size w wr)) (fun _ i _ => N - (intOf i).toNat)
  case atStart => exact ⟨0, [], _, by omega, rfl, by simp, by rw [HTT.out]; rfl, World.ownsRow_nil _ _ _ _, R1.out, K1.out⟩
  case round =>
    clear R1 K1
    obtain ⟨k, acc, S, hk, rfl, hal, L, O, R, K⟩ := hrel
    have hz := K.out.size
    by_cases hlt : k < N
    · have d1 : decide ((k : Int) < (N : Int)) = true := by simp; omega
      obtain ⟨x, hx⟩ : ∃ x, x = rdDead S := ⟨_, rfl⟩
      obtain ⟨S2, hS2⟩ : ∃ s, s = rdDead' S := ⟨_, rfl⟩
      have HX := Lib.hid hx
      have HS2 := Lib.hid hS2
      obtain ⟨m, hm2⟩ : ∃ m, m = N - (k + 1) := ⟨_, rfl⟩
      have HL := Lib.hid (show (S2.e = 0 → rdL rdDead rdDead' m S2 (acc ++ [x]) = TT) ∧ (S2.e ≠ 0 → TT = ([], S2)) by
        have h := L.out
        rw [show N - k = m + 1 by omega] at h
        rw [hx, hS2]
        exact ⟨fun e => by rw [← h, rdL_ok e], fun e => by rw [← h, rdL_bad e]⟩)
      have HM2 := Lib.hid hm2
      obtain ⟨A1, c1, rfl, -⟩ := own_form O.out
      clear hx hS2 L hm2
      go_wp2_with (fail)
      refine (c_bookwire_dead p S _ R.out).mono ?_
      rintro e w2 ⟨rfl, hr2, hk2⟩
      rw [← HX.out]
      rw [← HS2.out] at hr2
      replace O := Lib.hid (own_kept O.out hk2 (fun g h => LOW.out g h))
      replace K := Lib.hid (K.out.then_kept hk2 hz)
      have hz2 := K.out.size
      replace R := Lib.hid hr2
      clear hr2 hk2 HX HS2
      go_wp2_with (with_reducible refine stop_lit _ _ rfl ?_)
      refine Stop.mk (wpList_lit1 rfl _ _ _ rfl elemDead (by omega) x.cells.toArray rfl rfl ?_)
      go_wp2_with ((at_builtin; refine Stop.out ?_))
      refine Stop.mk (wpList_app _ rfl _ _ elemDead rfl w.heap.size (.slice A1 acc.length c1) acc.length _ rfl (own_below O.out ((Below.refl _ _).alloc (Nat.le_refl _) _)) _ 1 1 x.cells rfl (Src.new _ x.cells _ 3 rfl) (fun u hu => deads_one [x] u (by simpa using hu)) (by omega) (by simp only [World.size_alloc]; omega) ?_)
      intro v4 w4 own4 _ hb4 _
      have k4 : Below w.heap.size w2 w4 := Below.trans (b := w2.alloc (.cells x.cells.toArray 60)) ((Below.refl _ _).alloc hz2 _) hb4
      have O4 := Lib.hid (show w4.ownsRow w.heap.size 60 3 v4 (acc ++ [x]).length ((acc ++ [x]).flatMap Dead.cells) by simpa using own4)
      have R4 := Lib.hid (R.out.up k4 LOW.out)
      have K4 := Lib.hid (K.out.trans (.of_below k4))
      clear own4 hb4 k4 O R K
      go_wp2_with (fail)
      refine (c_octet_Err' p S2 _ R4.out).mono ?_
      rintro e w5 ⟨rfl, hb5⟩
      have O5 := Lib.hid (own_below O4.out hb5)
      have R5 := Lib.hid (R4.out.below hb5)
      have K5 := Lib.hid (K4.out.then_below hb5 K4.out.size)
      clear hb5 O4 R4 K4
      by_cases he : S2.e = 0
      · have t1 : (S2.e != 0) = false := by simpa using he
        have L2 := Lib.hid (HL.out.1 he)
        clear he HL
        go_wp2_with (fail)
        go_roundw
        case rel => exact ⟨k + 1, acc ++ [x], S2, by omega, by go_num, by simp; omega, by rw [← HM2.out]; exact L2.out, O5.out, R5.out, K5.out⟩
        case measure => simp [intOf]; omega
      · have t1 : (S2.e != 0) = true := by simpa using he
        have L2 := Lib.hid (HL.out.2 he)
        clear he HL
        go_wp2_with (fail)
        go_ret
        rw [L2.out]
        exact ⟨none, 0, rfl, World.ownsRow_nil _ _ _ _, R5.out, K5.out⟩
    · obtain rfl : k = N := by omega
      have d1 : decide ((k : Int) < (k : Int)) = false := by simp
      have L2 := Lib.hid (show TT = (acc, S) by rw [← L.out, Nat.sub_self]; rfl)
      obtain ⟨A1, c1, rfl, -⟩ := own_form O.out
      go_wp2_with (fail)
      go_ret
      rw [L2.out]
      exact ⟨A1, c1, rfl, O.out, R.out, K.out⟩
set_option maxHeartbeats 4000000 in
set_option maxRecDepth 4000 in
theorem c_list_card (p : Option Nat) (st : Rd) (most : Int) (w : World) (hm : most ≤ 48) (hT : Tab w) (hr : RdP w p st) : Calls Tryd.prog 19 #[ptr p, .int .i64 most, .func (.func 20) #[] #[]] w (RetPL 27 CQ.cells 56 p w (rdL rdCQ rdCard' (rdN st most).toNat (rdN' st most) [])) := by
  have HR := Lib.hid hr
  have HT := Lib.hid hT
  have HPT := Lib.hid (hr.tab hT)
  have LOW := Lib.hid (fun (g : Nat) (h : p = some g) => hr.lt h)
  have hn := rdN_bd st most
  obtain ⟨N, hN⟩ : ∃ N : Nat, N = (rdN st most).toNat := ⟨_, rfl⟩
  have hNv : rdN st most = (N : Int) := by omega
  have hN48 : N ≤ 48 := by omega
  obtain ⟨TT, hTT⟩ : ∃ T, T = rdL rdCQ rdCard' N (rdN' st most) [] := ⟨_, rfl⟩
  have HTT := Lib.hid hTT
  have HNV := Lib.hid hNv
  rw [← hN, ← hTT]
  clear hr hT hn hN hNv hTT
  go_enter Tryd.func19, Tryd.ntmps19
  go_wp2_with (fail)
  refine (c_octet_RNum p st most _ HR.out).mono ?_
  rintro e w1 ⟨rfl, hr1, hk1⟩
  rw [HNV.out]
  have R1 := Lib.hid hr1
  have K1 := Lib.hid hk1
  clear hr1 hk1
  go_wp2_with (fail)
  go_loopw [7, 11] (fun v i wr => ∃ (k : Nat) (acc : List CQ) (S : Rd), k ≤ N ∧ i = .int .i64 k ∧ acc.length ≤ k ∧ Hid (rdL rdCQ rdCard' (N - k) S acc = TT) ∧ Hid (wr.ownsRow w.heap.size 56 27 v acc.length (acc.flatMap CQ.cells)) ∧ Hid (RdP wr p S) ∧ Hid (Kept p w.heap.size w wr)) (fun _ i _ => N - (intOf i).toNat)
  case atStart => exact ⟨0, [], _, by omega, rfl, by simp, by rw [HTT.out]; rfl, World.ownsRow_nil _ _ _ _, R1.out, K1.out⟩
  case round =>
    clear R1 K1
    obtain ⟨k, acc, S, hk, rfl, hal, L, O, R, K⟩ := hrel
    have hz := K.out.size
    by_cases hlt : k < N
    · have d1 : decide ((k : Int) < (N : Int)) = true := by simp; omega
      obtain ⟨x, hx⟩ : ∃ x, x = rdCQ S := ⟨_, rfl⟩
      obtain ⟨S2, hS2⟩ : ∃ s, s = rdCard' S := ⟨_, rfl⟩
      have HX := Lib.hid hx
      have HS2 := Lib.hid hS2
      obtain ⟨m, hm2⟩ : ∃ m, m = N - (k + 1) := ⟨_, rfl⟩
      have HL := Lib.hid (show (S2.e = 0 → rdL rdCQ rdCard' m S2 (acc ++ [x]) = TT) ∧ (S2.e ≠ 0 → TT = ([], S2)) by
        have h := L.out
        rw [show N - k = m + 1 by omega] at h
        rw [hx, hS2]
        exact ⟨fun e => by rw [← h, rdL_ok e], fun e => by rw [← h, rdL_bad e]⟩)
      have HM2 := Lib.hid hm2
      obtain ⟨A1, c1, rfl, -⟩ := own_form O.out
      clear hx hS2 L hm2
      go_wp2_with (fail)
      refine (c_cardwire_Card p S _ (HT.out.kept K.out HPT.out) R.out).mono ?_
      rintro e w2 ⟨rfl, hr2, hk2⟩
      rw [show rdCard S = x.c by rw [HX.out]; rfl]
      rw [← HS2.out] at hr2
      replace O := Lib.hid (own_kept O.out hk2 (fun g h => LOW.out g h))
      replace K := Lib.hid (K.out.then_kept hk2 hz)
      have hz2 := K.out.size
      replace R := Lib.hid hr2
      clear hr2 hk2 HX HS2
      go_wp2_with (with_reducible refine stop_lit _ _ rfl ?_)
      refine Stop.mk (wpList_lit1 rfl _ _ _ rfl elemCard (by omega) x.c.arr rfl x.size ?_)
      go_wp2_with ((at_builtin; refine Stop.out ?_))
      refine Stop.mk (wpList_app _ rfl _ _ elemCard rfl w.heap.size (.slice A1 acc.length c1) acc.length _ rfl (own_below O.out ((Below.refl _ _).alloc (Nat.le_refl _) _)) _ 1 1 x.cells rfl (Src.new _ x.cells _ 27 x.cells_len) x.ones_all (by omega) (by simp only [World.size_alloc]; omega) ?_)
      intro v4 w4 own4 _ hb4 _
      have k4 : Below w.heap.size w2 w4 := Below.trans (b := w2.alloc (.cells x.c.arr 56)) ((Below.refl _ _).alloc hz2 _) hb4
      have O4 := Lib.hid (show w4.ownsRow w.heap.size 56 27 v4 (acc ++ [x]).length ((acc ++ [x]).flatMap CQ.cells) by simpa using own4)
      have R4 := Lib.hid (R.out.up k4 LOW.out)
      have K4 := Lib.hid (K.out.trans (.of_below k4))
      clear own4 hb4 k4 O R K
      go_wp2_with (fail)
      refine (c_octet_Err' p S2 _ R4.out).mono ?_
      rintro e w5 ⟨rfl, hb5⟩
      have O5 := Lib.hid (own_below O4.out hb5)
      have R5 := Lib.hid (R4.out.below hb5)
      have K5 := Lib.hid (K4.out.then_below hb5 K4.out.size)
      clear hb5 O4 R4 K4
      by_cases he : S2.e = 0
      · have t1 : (S2.e != 0) = false := by simpa using he
        have L2 := Lib.hid (HL.out.1 he)
        clear he HL
        go_wp2_with (fail)
        go_roundw
        case rel => exact ⟨k + 1, acc ++ [x], S2, by omega, by go_num, by simp; omega, by rw [← HM2.out]; exact L2.out, O5.out, R5.out, K5.out⟩
        case measure => simp [intOf]; omega
      · have t1 : (S2.e != 0) = true := by simpa using he
        have L2 := Lib.hid (HL.out.2 he)
        clear he HL
        go_wp2_with (fail)
        go_ret
        rw [L2.out]
        exact ⟨none, 0, rfl, World.ownsRow_nil _ _ _ _, R5.out, K5.out⟩
    · obtain rfl : k = N := by omega
      have d1 : decide ((k : Int) < (k : Int)) = false := by simp
      have L2 := Lib.hid (show TT = (acc, S) by rw [← L.out, Nat.sub_self]; rfl)
      obtain ⟨A1, c1, rfl, -⟩ := own_form O.out
      go_wp2_with (fail)
      go_ret
      rw [L2.out]
      exact ⟨A1, c1, rfl, O.out, R.out, K.out⟩
end Go.Proofs.YtldoedmclfbgpaaDoor
namespace Go.Proofs.YtldoedmclfbgpaaDoor
open Go.RowKit

theorem strGrp : Str Tryd.prog 65 2 := ⟨⟨_, Tryd.underlying65, rfl⟩, by kernel_rfl⟩
/-- A group whose members are the call's own. -/
def OwnG (w : World) (B : Nat) (x : GQ) : Prop := w.ownsRow B 3 1 (.slice x.A x.mem.length x.c) x.mem.length (x.mem.flatMap ic)
theorem OwnG.kept {w w' : World} {B : Nat} {x : GQ} {p : Option Nat} (h : OwnG w B x) (k : Kept p w.heap.size w w') (hp : ∀ g, p = some g → g < B) : OwnG w' B x := own_kept h k hp
theorem OwnG.below {w w' : World} {B : Nat} {x : GQ} (h : OwnG w B x) (k : Below w.heap.size w w') : OwnG w' B x := own_below h k
theorem OwnG.app {w w' : World} {B b2 s2 n2 : Nat} {x : GQ} {v2 : Value} {x2 : List Value} (h : OwnG w B x) (o : w.ownsRow b2 65 s2 v2 n2 x2) (hg : w.grownBy w' v2.ownBlock) : OwnG w' B x := own_kept_ne h o (by decide) hg
theorem OwnG.base {w : World} {B B' : Nat} {x : GQ} (h : OwnG w B x) (hb : B' ≤ B) : OwnG w B' x := own_base h hb
/-- The end of a call that reads a group. -/
def RetPG (p : Option Nat) (st' : Rd) (w : World) (g : Grp) (e : Ending) (w' : World) : Prop :=
  ∃ x : GQ, e = .returned (.agg x.cells.toArray) ∧ x.g = g ∧ OwnG w' w.heap.size x ∧ RdP w' p st' ∧ Kept p w.heap.size w w'
set_option maxHeartbeats 2000000 in
theorem c_bookwire_group (p : Option Nat) (st : Rd) (w : World) (hr : RdP w p st) : Calls Tryd.prog 24 #[ptr p] w (RetPG p (rdGrp' st) w (rdGrp st)) := by
  obtain ⟨a, ha⟩ : ∃ a, a = rdN st 15 := ⟨_, rfl⟩
  have HA := Lib.hid ha
  have LOW := Lib.hid (fun (g : Nat) (h : p = some g) => hr.lt h)
  obtain ⟨T, hT⟩ : ∃ T, T = rdL rdMem rdMem' (grN st) (grS st) [] := ⟨_, rfl⟩
  have HTT := Lib.hid hT
  rw [show rdGrp st = ⟨a, T.1⟩ by rw [ha, hT]; rfl, show rdGrp' st = T.2 by rw [hT]; rfl]
  have E := Lib.hid ((EnvP.start hr).alloc 65 #[.int .i64 0, .slice none 0 0])
  clear hr ha hT
  go_enter Tryd.func24, Tryd.ntmps24
  go_wp2_with (fail)
  refine (c_octet_RNum p st 15 _ E.out.rd).mono ?_
  rintro e w1 ⟨rfl, hr, hk⟩
  rw [← HA.out]
  replace E := Lib.hid (E.out.call hr hk)
  clear hr hk
  go_wp2_with (with_reducible refine stop_build 65 _ rfl ?_)
  refine Stop.mk (wpList_buildD rfl _ _ rfl _ rfl #[.int .i64 a, .slice none 0 0] (by kernel_rfl) ?_)
  go_wp2_with (with_reducible refine stS 65 _ _ rfl rfl ?_)
  refine Stop.mk (wsB rfl _ _ _ rfl w1.heap.size _ rfl rfl _ (Blk.new _ _ _) strGrp rfl rfl (by simp [Value.oneCell']) ?_)
  intro w2 hb2 hk2
  replace E := Lib.hid ((E.out.alloc 65 #[.int .i64 0, .slice none 0 0]).put0 hb2 hk2)
  clear hb2 hk2
  obtain ⟨G1, hG1⟩ : ∃ g, g = w1.heap.size := ⟨_, rfl⟩
  rw [← hG1] at E ⊢
  clear hG1
  go_wp2_with (fail)
  refine (c_list_int p _ 48 _ (by omega) E.out.rd).mono ?_
  rintro e w3 ⟨A, c, rfl, own, hr, hk⟩
  have HE := Lib.hid (show rdL rdMem rdMem' (rdN (rdN' st 15) 48).toNat (rdN' (rdN' st 15) 48) [] = T from HTT.out.symm)
  rw [HE.out] at own hr ⊢
  have hgl : G1 < w2.heap.size := E.out.b0.lt
  have hwl : w.heap.size ≤ w2.heap.size := E.out.size
  have hw1 : w.heap.size < w2.heap.size := E.out.b1.lt
  replace E := Lib.hid (E.out.call hr hk)
  have O := Lib.hid own
  obtain ⟨B, hB⟩ : ∃ B, B = w2.heap.size := ⟨_, rfl⟩
  rw [← hB] at O hgl hwl hw1
  clear hr hk own hB
  have u1 := E.out.b0.cell (i := 1) rfl
  have ff := fun i => E.out.b0.frozen i
  have gl := E.out.b0.lt
  go_wp2_with (with_reducible refine stop_load 65 _ rfl rfl ?_)
  have O2 := Lib.hid (own_kept O.out (kept_set w3 G1 1 (.slice A T.1.length c)) (fun g h => by injection h with h; omega))
  replace E := Lib.hid ((E.out.store0 1 (.slice A T.1.length c)).as (show _ = #[.int .i64 a, .slice A T.1.length c] from rfl))
  clear u1 ff gl O
  refine Stop.mk (wpList_loadB rfl _ _ rfl G1 rfl _ E.out.b0 strGrp rfl ?_)
  go_wp2_with (with_reducible refine stS 65 _ _ rfl rfl ?_)
  refine Stop.mk (wsB rfl _ _ _ rfl w.heap.size _ rfl rfl _ E.out.b1 strGrp rfl rfl (by simp [Value.oneCell']) ?_)
  intro w99 hb99 hk99
  have O3 := Lib.hid (own_kept O2.out hk99 (fun g h => by injection h with h; omega))
  replace E := Lib.hid (E.out.put1 hb99 hk99)
  clear hk99 O2
  go_wp2_with (fail)
  exact bodyPost_ret (results_B rfl rfl hb99 strGrp rfl) rfl ⟨⟨a, T.1, A, c⟩, rfl, rfl, own_base O3.out hwl, E.out.rd, E.out.kept⟩
theorem GQ.ones_all (x : GQ) : ∀ u ∈ x.cells, u.oneCell' = true := by
  intro u hu
  simp only [GQ.cells, List.mem_cons, List.not_mem_nil, or_false] at hu
  rcases hu with rfl | rfl <;> rfl
/-- The end of a call that reads a list of groups. -/
def RetPGs (p : Option Nat) (w : World) (T : List Grp × Rd) (e : Ending) (w' : World) : Prop :=
  ∃ (l : List GQ) (A : Option Addr) (c : Nat), e = .returned (.slice A l.length c) ∧ grps l = T.1 ∧ w'.ownsRow w.heap.size 65 2 (.slice A l.length c) l.length (l.flatMap GQ.cells) ∧ (∀ x ∈ l, OwnG w' w.heap.size x) ∧ RdP w' p T.2 ∧ Kept p w.heap.size w w'
set_option maxHeartbeats 4000000 in
set_option maxRecDepth 4000 in
theorem c_list_group (p : Option Nat) (st : Rd) (most : Int) (w : World) (hm : most ≤ 48) (hr : RdP w p st) : Calls Tryd.prog 23 #[ptr p, .int .i64 most, .func (.func 24) #[] #[]] w (RetPGs p w (rdL rdGrp rdGrp' (rdN st most).toNat (rdN' st most) [])) := by
  have HR := Lib.hid hr
  have LOW := Lib.hid (fun (g : Nat) (h : p = some g) => hr.lt h)
  have hn := rdN_bd st most
  obtain ⟨N, hN⟩ : ∃ N : Nat, N = (rdN st most).toNat := ⟨_, rfl⟩
  have hNv : rdN st most = (N : Int) := by omega
  have hN48 : N ≤ 48 := by omega
  obtain ⟨TT, hTT⟩ : ∃ T, T = rdL rdGrp rdGrp' N (rdN' st most) [] := ⟨_, rfl⟩
  have HTT := Lib.hid hTT
  have HNV := Lib.hid hNv
  rw [← hN, ← hTT]
  clear hr hn hN hNv hTT
  go_enter Tryd.func23, Tryd.ntmps23
  go_wp2_with (fail)
  refine (c_octet_RNum p st most _ HR.out).mono ?_
  rintro e w1 ⟨rfl, hr1, hk1⟩
  rw [HNV.out]
  have R1 := Lib.hid hr1
  have K1 := Lib.hid hk1
  clear hr1 hk1
  go_wp2_with (fail)
  go_loopw [7, 11] (fun v i wr => ∃ (k : Nat) (acc : List GQ) (S : Rd), k ≤ N ∧ i = .int .i64 k ∧ acc.length ≤ k ∧ Hid (rdL rdGrp rdGrp' (N - k) S (grps acc) = TT) ∧ Hid (wr.ownsRow w.heap.size 65 2 v acc.length (acc.flatMap GQ.cells)) ∧ Hid (∀ x ∈ acc, OwnG wr w.heap.size x) ∧ Hid (RdP wr p S) ∧ Hid (Kept p w.heap.size w wr)) (fun _ i _ => N - (intOf i).toNat)
  case atStart => exact ⟨0, [], _, by omega, rfl, by simp, by rw [HTT.out]; rfl, World.ownsRow_nil _ _ _ _, (fun x hx => (by first | cases hx | simp at hx)), R1.out, K1.out⟩
  case round =>
    clear R1 K1
    obtain ⟨k, acc, S, hk, rfl, hal, L, O, OG, R, K⟩ := hrel
    have hz := K.out.size
    by_cases hlt : k < N
    · have d1 : decide ((k : Int) < (N : Int)) = true := by simp; omega
      obtain ⟨y, hy⟩ : ∃ x, x = rdGrp S := ⟨_, rfl⟩
      obtain ⟨S2, hS2⟩ : ∃ s, s = rdGrp' S := ⟨_, rfl⟩
      have HY := Lib.hid hy
      have HS2 := Lib.hid hS2
      obtain ⟨m, hm2⟩ : ∃ m, m = N - (k + 1) := ⟨_, rfl⟩
      have HL := Lib.hid (show (S2.e = 0 → rdL rdGrp rdGrp' m S2 (grps acc ++ [y]) = TT) ∧ (S2.e ≠ 0 → TT = ([], S2)) by
        have h := L.out
        rw [show N - k = m + 1 by omega] at h
        rw [hy, hS2]
        exact ⟨fun e => by rw [← h, rdL_ok e], fun e => by rw [← h, rdL_bad e]⟩)
      have HM2 := Lib.hid hm2
      obtain ⟨A1, c1, rfl, -⟩ := own_form O.out
      clear hy hS2 L hm2
      go_wp2_with (fail)
      refine (c_bookwire_group p S _ R.out).mono ?_
      rintro e w2 ⟨x, rfl, hxg, hog, hr2, hk2⟩
      rw [← HS2.out] at hr2
      have HXG := Lib.hid (show x.g = y by rw [hxg, HY.out])
      replace O := Lib.hid (own_kept O.out hk2 (fun g h => LOW.out g h))
      replace OG := Lib.hid (fun z hz' => (OG.out z hz').kept hk2 (fun g h => LOW.out g h))
      have OX := Lib.hid (hog.base hz)
      replace K := Lib.hid (K.out.then_kept hk2 hz)
      have hz2 := K.out.size
      replace R := Lib.hid hr2
      clear hr2 hk2 HS2 hxg hog HY
      go_wp2_with (with_reducible refine stop_lit _ _ rfl ?_)
      refine Stop.mk (wpList_lit1 rfl _ _ _ rfl elemGrp (by omega) x.cells.toArray rfl rfl ?_)
      go_wp2_with ((at_builtin; refine Stop.out ?_))
      have ba := (Below.refl w2.heap.size w2).alloc (Nat.le_refl _) (.cells x.cells.toArray 65)
      refine Stop.mk (wpList_app _ rfl _ _ elemGrp rfl w.heap.size (.slice A1 acc.length c1) acc.length _ rfl (own_below O.out ba) _ 1 1 x.cells rfl (Src.new _ x.cells _ 2 rfl) x.ones_all (by omega) (by simp only [World.size_alloc]; omega) ?_)
      intro v4 w4 own4 hg4 hb4 _
      have k4 : Below w.heap.size w2 w4 := Below.trans (b := w2.alloc (.cells x.cells.toArray 65)) ((Below.refl _ _).alloc hz2 _) hb4
      have OG4 := Lib.hid (show ∀ z ∈ acc ++ [x], OwnG w4 w.heap.size z from fun z hz' => by
        rcases List.mem_append.1 hz' with hz' | hz'
        · exact ((OG.out z hz').below ba).app (own_below O.out ba) hg4
        · rw [List.mem_singleton.1 hz']; exact (OX.out.below ba).app (own_below O.out ba) hg4)
      have O4 := Lib.hid (show w4.ownsRow w.heap.size 65 2 v4 (acc ++ [x]).length ((acc ++ [x]).flatMap GQ.cells) by simpa using own4)
      have R4 := Lib.hid (R.out.up k4 LOW.out)
      have K4 := Lib.hid (K.out.trans (.of_below k4))
      clear own4 hb4 k4 O R K OG OX ba hg4
      go_wp2_with (fail)
      refine (c_octet_Err' p S2 _ R4.out).mono ?_
      rintro e w5 ⟨rfl, hb5⟩
      have O5 := Lib.hid (own_below O4.out hb5)
      have OG5 := Lib.hid (fun z hz' => (OG4.out z hz').below hb5)
      have R5 := Lib.hid (R4.out.below hb5)
      have K5 := Lib.hid (K4.out.then_below hb5 K4.out.size)
      clear hb5 O4 R4 K4 OG4
      by_cases he : S2.e = 0
      · have t1 : (S2.e != 0) = false := by simpa using he
        have L2 := Lib.hid (HL.out.1 he)
        clear he HL
        go_wp2_with (fail)
        go_roundw
        case rel => exact ⟨k + 1, acc ++ [x], S2, by omega, by go_num, by simp; omega, by show rdL rdGrp rdGrp' (N - (k + 1)) S2 (grps (acc ++ [x])) = TT; rw [← HM2.out, ← L2.out, ← HXG.out]; unfold grps; simp, O5.out, OG5.out, R5.out, K5.out⟩
        case measure => simp [intOf]; omega
      · have t1 : (S2.e != 0) = true := by simpa using he
        have L2 := Lib.hid (HL.out.2 he)
        clear he HL
        go_wp2_with (fail)
        go_ret
        rw [L2.out]
        exact ⟨[], none, 0, rfl, rfl, World.ownsRow_nil _ _ _ _, (fun x hx => (by first | cases hx | simp at hx)), R5.out, K5.out⟩
    · obtain rfl : k = N := by omega
      have d1 : decide ((k : Int) < (k : Int)) = false := by simp
      have L2 := Lib.hid (show TT = (grps acc, S) by rw [← L.out, Nat.sub_self]; rfl)
      obtain ⟨A1, c1, rfl, -⟩ := own_form O.out
      go_wp2_with (fail)
      go_ret
      rw [L2.out]
      exact ⟨acc, A1, c1, rfl, rfl, O.out, OG.out, R.out, K.out⟩
end Go.Proofs.YtldoedmclfbgpaaDoor
namespace Go.Proofs.YtldoedmclfbgpaaDoor
open Go.RowKit

/-- A book whose lists are the call's own. -/
structure OwnB (w : World) (B : Nat) (b : BQ) : Prop where
  cards : w.ownsRow B 56 27 (.slice b.A b.cards.length b.a) b.cards.length (b.cards.flatMap CQ.cells)
  dead : w.ownsRow B 60 3 (.slice b.D b.dead.length b.d) b.dead.length (b.dead.flatMap Dead.cells)
  groups : w.ownsRow B 65 2 (.slice b.G b.groups.length b.g) b.groups.length (b.groups.flatMap GQ.cells)
  mem : ∀ x ∈ b.groups, OwnG w B x
theorem OwnB.kept {w w' : World} {B : Nat} {b : BQ} {p : Option Nat} (h : OwnB w B b) (k : Kept p w.heap.size w w') (hp : ∀ g, p = some g → g < B) : OwnB w' B b := ⟨own_kept h.cards k hp, own_kept h.dead k hp, own_kept h.groups k hp, fun x hx => (h.mem x hx).kept k hp⟩
theorem OwnB.below {w w' : World} {B : Nat} {b : BQ} (h : OwnB w B b) (k : Below w.heap.size w w') : OwnB w' B b := ⟨own_below h.cards k, own_below h.dead k, own_below h.groups k, fun x hx => (h.mem x hx).below k⟩
theorem OwnB.base {w : World} {B B' : Nat} {b : BQ} (h : OwnB w B b) (hb : B' ≤ B) : OwnB w B' b := ⟨own_base h.cards hb, own_base h.dead hb, own_base h.groups hb, fun x hx => (h.mem x hx).base hb⟩
theorem OwnB.nil (w : World) (B : Nat) (s n : Int) : OwnB w B ⟨s, n, [], [], [], none, 0, none, 0, none, 0⟩ := ⟨World.ownsRow_nil _ _ _ _, World.ownsRow_nil _ _ _ _, World.ownsRow_nil _ _ _ _, fun _x hx => (by first | cases hx | simp at hx)⟩
/-- A book that is no longer than what is read. -/
structure BQ.small (b : BQ) : Prop where
  cards : b.cards.length ≤ 48
  dead : b.dead.length ≤ 40
  groups : b.groups.length ≤ 16
  mem : ∀ x ∈ b.groups, x.mem.length ≤ 48
  fit : ∀ x ∈ b.cards, ∀ y ∈ x.c.f, y.s.length ≤ 4294967000
theorem BQ.small.few {b : BQ} (h : b.small) : b.few := ⟨by have := h.cards; omega, by have := h.dead; omega, by have := h.groups; omega, fun x hx => by have := h.mem x hx; omega⟩
theorem OwnB.at_ {w : World} {B : Nat} {b : BQ} (h : OwnB w B b) (hs : b.small) : b.at_ w :=
  ⟨In.ownB CQ.cells_len h.cards (by have := hs.cards; omega), In.ownB Dead.cells_len h.dead (by have := hs.dead; omega), In.ownB GQ.cells_len h.groups (by have := hs.groups; omega), fun x hx => In.ownB (fun _ => rfl) (h.mem x hx) (by have := hs.mem x hx; omega), hs.fit⟩
/-- The end of a call that reads a book. -/
def RetPB (p : Option Nat) (st' : Rd) (w : World) (k : Book) (e : Ending) (w' : World) : Prop :=
  ∃ b : BQ, e = .returned (.agg b.arr) ∧ b.book = k ∧ b.small ∧ OwnB w' w.heap.size b ∧ RdP w' p st' ∧ Kept p w.heap.size w w'
theorem rdN_most (st : Rd) {m : Int} (h : 0 ≤ m) : (rdN st m).toNat ≤ m.toNat := by have := rdN_bd st m; omega
theorem rdGrp_small (st : Rd) : (rdGrp st).mem.length ≤ 48 := by
  show (rdL rdMem rdMem' (grN st) (grS st) []).1.length ≤ 48
  have h1 := rdL_count (one := rdMem) (one' := rdMem') (grN st) (grS st) []
  have h2 := rdN_most (rdN' st 15) (m := 48) (by omega)
  unfold grN at h1 ⊢
  simp only [List.length_nil] at h1
  have : (48 : Int).toNat = 48 := rfl
  omega
theorem bk_small (st : Rd) {cards : List CQ} {dead : List Dead} {groups : List GQ} {A D G : Option Addr} {a d g : Nat} {s n : Int} (h1 : cards = (bkC st).1) (h2 : dead = (bkD st).1) (h3 : grps groups = (bkG st).1) : BQ.small ⟨s, n, cards, dead, groups, A, a, D, d, G, g⟩ := by
  refine ⟨?_, ?_, ?_, ?_, ?_⟩
  · show cards.length ≤ 48
    rw [h1]
    have c1 := rdL_count (one := rdCQ) (one' := rdCard') (rdN (bkB st) 48).toNat (rdN' (bkB st) 48) []
    have c2 := rdN_most (bkB st) (m := 48) (by omega)
    have c3 : (48 : Int).toNat = 48 := rfl
    show (rdL rdCQ rdCard' (rdN (bkB st) 48).toNat (rdN' (bkB st) 48) []).1.length ≤ 48
    simp only [List.length_nil] at c1
    omega
  · show dead.length ≤ 40
    rw [h2]
    have c1 := rdL_count (one := rdDead) (one' := rdDead') (rdN (bkC st).2 40).toNat (rdN' (bkC st).2 40) []
    have c2 := rdN_most (bkC st).2 (m := 40) (by omega)
    have c3 : (40 : Int).toNat = 40 := rfl
    show (rdL rdDead rdDead' (rdN (bkC st).2 40).toNat (rdN' (bkC st).2 40) []).1.length ≤ 40
    simp only [List.length_nil] at c1
    omega
  · show groups.length ≤ 16
    rw [← grps_len, h3]
    have c1 := rdL_count (one := rdGrp) (one' := rdGrp') (rdN (bkD st).2 16).toNat (rdN' (bkD st).2 16) []
    have c2 := rdN_most (bkD st).2 (m := 16) (by omega)
    have c3 : (16 : Int).toNat = 16 := rfl
    show (rdL rdGrp rdGrp' (rdN (bkD st).2 16).toNat (rdN' (bkD st).2 16) []).1.length ≤ 16
    simp only [List.length_nil] at c1
    omega
  · intro x hx
    have := rdL_all (one := rdGrp) (one' := rdGrp') (Q := fun g => g.mem.length ≤ 48) rdGrp_small (rdN (bkD st).2 16).toNat (rdN' (bkD st).2 16) [] (fun x hx => (by first | cases hx | simp at hx)) x.g (by
      have : x.g ∈ grps groups := List.mem_map.2 ⟨x, hx, rfl⟩
      rw [h3] at this
      exact this)
    exact this
  · intro x hx
    have hx' : x ∈ (bkC st).1 := by rw [← h1]; exact hx
    exact rdL_all (one := rdCQ) (one' := rdCard') (Q := fun x => ∀ y ∈ x.c.f, y.s.length ≤ 4294967000) (fun st => rdCard_sizes st) (rdN (bkB st) 48).toNat (rdN' (bkB st) 48) [] (fun x hx => (by first | cases hx | simp at hx)) x hx'
set_option maxHeartbeats 8000000 in
set_option maxRecDepth 4000 in
theorem c_bookwire_Read (p : Option Nat) (st : Rd) (w : World) (hT : Tab w) (hr : RdP w p st) : Calls Tryd.prog 8 #[ptr p] w (RetPB p (rdBook' st) w (rdBook st)) := by
  obtain ⟨s, hs⟩ : ∃ a, a = rdN st 1099511627776 := ⟨_, rfl⟩
  obtain ⟨n, hn⟩ : ∃ a, a = rdN (bkA st) 1073741824 := ⟨_, rfl⟩
  obtain ⟨TC, hTC⟩ : ∃ T, T = bkC st := ⟨_, rfl⟩
  obtain ⟨TD, hTD⟩ : ∃ T, T = bkD st := ⟨_, rfl⟩
  obtain ⟨TG, hTG⟩ : ∃ T, T = bkG st := ⟨_, rfl⟩
  have HS := Lib.hid hs
  have HN := Lib.hid hn
  have HTC := Lib.hid hTC
  have HTD := Lib.hid hTD
  have HTG := Lib.hid hTG
  have HBK := Lib.hid (show bkBook st = ⟨s, n, TC.1.map CQ.c, TD.1, TG.1⟩ by rw [hs, hn, hTC, hTD, hTG]; rfl)
  have HRB' := Lib.hid (show rdBook' st = if (bkBook st).ok then TG.2 else rdF TG.2 3 by rw [hTG]; rfl)
  have HRB := Lib.hid (show rdBook st = if (rdBook' st).e = 0 then bkBook st else bkz from rfl)
  have LOW := Lib.hid (fun (g : Nat) (h : p = some g) => hr.lt h)
  have HPT := Lib.hid (hr.tab hT)
  have HT := Lib.hid hT
  have E := Lib.hid ((EnvP.start hr).alloc 35 #[.int .i64 0, .int .i64 0, .slice none 0 0, .slice none 0 0, .slice none 0 0])
  clear hr hT hs hn hTC hTD hTG
  go_enter Tryd.func8, Tryd.ntmps8
  go_wp2_with (fail)
  refine (c_octet_RNum p st 1099511627776 _ E.out.rd).mono ?_
  rintro e w1 ⟨rfl, hr, hk⟩
  rw [← HS.out]
  replace E := Lib.hid ((E.out.call hr hk).state (show _ = bkA st from rfl))
  clear hr hk
  go_wp2_with (with_reducible refine stop_build 35 _ rfl ?_)
  refine Stop.mk (wpList_buildD rfl _ _ rfl _ rfl #[.int .i64 s, .int .i64 0, .slice none 0 0, .slice none 0 0, .slice none 0 0] (by kernel_rfl) ?_)
  go_wp2_with (with_reducible refine stS 35 _ _ rfl rfl ?_)
  refine Stop.mk (wsB rfl _ _ _ rfl w1.heap.size _ rfl rfl _ (Blk.new _ _ _) strBk rfl rfl (by simp [Value.oneCell']) ?_)
  intro w2 hb2 hk2
  replace E := Lib.hid ((E.out.alloc 35 #[.int .i64 0, .int .i64 0, .slice none 0 0, .slice none 0 0, .slice none 0 0]).put0 hb2 hk2)
  clear hb2 hk2
  obtain ⟨G1, hG1⟩ : ∃ g, g = w1.heap.size := ⟨_, rfl⟩
  rw [← hG1] at E ⊢
  clear hG1
  obtain ⟨B, hB⟩ : ∃ B, B = w2.heap.size := ⟨_, rfl⟩
  have HB := Lib.hid (show G1 < B ∧ w.heap.size < B ∧ B ≤ w2.heap.size from ⟨by rw [hB]; exact E.out.b0.lt, by rw [hB]; exact E.out.b1.lt, by omega⟩)
  have PB := Lib.hid (fun (g : Nat) (h : p = some g) => show g < B from Nat.lt_trans (LOW.out g h) HB.out.2.1)
  have GB := Lib.hid (fun (g : Nat) (h : some G1 = some g) => show g < B from by injection h with h; have := HB.out.1; omega)
  have WB := Lib.hid (fun (g : Nat) (h : some w.heap.size = some g) => show g < B from by injection h with h; have := HB.out.2.1; omega)
  clear hB
  go_wp2_with (fail)
  refine (c_octet_RNum p _ 1073741824 _ E.out.rd).mono ?_
  rintro e w3 ⟨rfl, hr, hk⟩
  rw [← HN.out]
  have hz3 := hk.size
  replace E := Lib.hid ((E.out.call hr hk).state (show _ = bkB st from rfl))
  clear hr hk
  have u1 := E.out.b0.cell (i := 1) rfl
  have ff := fun i => E.out.b0.frozen i
  have gl := E.out.b0.lt
  go_wp2_with (fail)
  clear u1 ff gl
  replace E := Lib.hid ((E.out.store0 1 (.int .i64 n)).as (show _ = #[.int .i64 s, .int .i64 n, .slice none 0 0, .slice none 0 0, .slice none 0 0] from rfl))
  have hz4 : B ≤ (w3.setCell ⟨G1, 1, none⟩ (.int .i64 n)).heap.size := by have := HB.out.2.2; simp; omega
  obtain ⟨w4, hw4⟩ : ∃ x, x = w3.setCell ⟨G1, 1, none⟩ (.int .i64 n) := ⟨_, rfl⟩
  rw [← hw4] at E hz4 ⊢
  clear hw4 hz3
  refine (c_list_card p _ 48 _ (by omega) (HT.out.kept E.out.kept HPT.out) E.out.rd).mono ?_
  rintro e w5 ⟨A, a, rfl, own, hr, hk⟩
  have HE := Lib.hid (show rdL rdCQ rdCard' (rdN (bkB st) 48).toNat (rdN' (bkB st) 48) [] = TC from HTC.out.symm)
  rw [HE.out] at own hr ⊢
  have OC := Lib.hid (own_base own hz4)
  have hz5 : B ≤ w5.heap.size := Nat.le_trans hz4 hk.size
  replace E := Lib.hid (E.out.call hr hk)
  clear hr hk own hz4 HE
  have u2 := E.out.b0.cell (i := 2) rfl
  have ff := fun i => E.out.b0.frozen i
  have gl := E.out.b0.lt
  go_wp2_with (fail)
  clear u2 ff gl
  replace OC := Lib.hid (own_kept OC.out (kept_set w5 G1 2 (.slice A TC.1.length a)) GB.out)
  replace E := Lib.hid ((E.out.store0 2 (.slice A TC.1.length a)).as (show _ = #[.int .i64 s, .int .i64 n, .slice A TC.1.length a, .slice none 0 0, .slice none 0 0] from rfl))
  have hz6 : B ≤ (w5.setCell ⟨G1, 2, none⟩ (.slice A TC.1.length a)).heap.size := by simp; omega
  obtain ⟨w6, hw6⟩ : ∃ x, x = w5.setCell ⟨G1, 2, none⟩ (.slice A TC.1.length a) := ⟨_, rfl⟩
  rw [← hw6] at E hz6 OC ⊢
  clear hw6 hz5
  refine (c_list_dead p _ 40 _ (by omega) E.out.rd).mono ?_
  rintro e w7 ⟨D, d, rfl, own, hr, hk⟩
  have HE := Lib.hid (show rdL rdDead rdDead' (rdN TC.2 40).toNat (rdN' TC.2 40) [] = TD by rw [HTC.out, HTD.out]; rfl)
  rw [HE.out] at own hr ⊢
  have OD := Lib.hid (own_base own hz6)
  replace OC := Lib.hid (own_kept OC.out hk PB.out)
  have hz7 : B ≤ w7.heap.size := Nat.le_trans hz6 hk.size
  replace E := Lib.hid (E.out.call hr hk)
  clear hr hk own hz6 HE
  have u3 := E.out.b0.cell (i := 3) rfl
  have ff := fun i => E.out.b0.frozen i
  have gl := E.out.b0.lt
  go_wp2_with (fail)
  clear u3 ff gl
  replace OC := Lib.hid (own_kept OC.out (kept_set w7 G1 3 (.slice D TD.1.length d)) GB.out)
  replace OD := Lib.hid (own_kept OD.out (kept_set w7 G1 3 (.slice D TD.1.length d)) GB.out)
  replace E := Lib.hid ((E.out.store0 3 (.slice D TD.1.length d)).as (show _ = #[.int .i64 s, .int .i64 n, .slice A TC.1.length a, .slice D TD.1.length d, .slice none 0 0] from rfl))
  have hz8 : B ≤ (w7.setCell ⟨G1, 3, none⟩ (.slice D TD.1.length d)).heap.size := by simp; omega
  obtain ⟨w8, hw8⟩ : ∃ x, x = w7.setCell ⟨G1, 3, none⟩ (.slice D TD.1.length d) := ⟨_, rfl⟩
  rw [← hw8] at E hz8 OC OD ⊢
  clear hw8 hz7
  refine (c_list_group p _ 16 _ (by omega) E.out.rd).mono ?_
  rintro e w9 ⟨gs, G, g, rfl, hgs, own, og, hr, hk⟩
  have HE := Lib.hid (show rdL rdGrp rdGrp' (rdN TD.2 16).toNat (rdN' TD.2 16) [] = TG by rw [HTD.out, HTG.out]; rfl)
  rw [HE.out] at hgs hr
  have HGS := Lib.hid hgs
  have OO := Lib.hid (show OwnB w9 B ⟨s, n, TC.1, TD.1, gs, A, a, D, d, G, g⟩ from ⟨own_kept OC.out hk PB.out, own_kept OD.out hk PB.out, own_base own hz8, fun x hx => (og x hx).base hz8⟩)
  have SM := Lib.hid (bk_small st (A := A) (D := D) (G := G) (a := a) (d := d) (g := g) (s := s) (n := n) (show TC.1 = (bkC st).1 by rw [HTC.out]) (show TD.1 = (bkD st).1 by rw [HTD.out]) (show grps gs = (bkG st).1 by rw [hgs, HTG.out]))
  have hz9 : B ≤ w9.heap.size := Nat.le_trans hz8 hk.size
  replace E := Lib.hid (E.out.call hr hk)
  clear hr hk own hz8 HE OC OD og hgs
  have u4 := E.out.b0.cell (i := 4) rfl
  have ff := fun i => E.out.b0.frozen i
  have gl := E.out.b0.lt
  go_wp2_with (with_reducible refine stop_load 35 _ rfl rfl ?_)
  clear u4 ff gl
  replace OO := Lib.hid (OO.out.kept (kept_set w9 G1 4 (.slice G gs.length g)) GB.out)
  replace E := Lib.hid ((E.out.store0 4 (.slice G gs.length g)).as (show _ = BQ.arr ⟨s, n, TC.1, TD.1, gs, A, a, D, d, G, g⟩ from rfl))
  obtain ⟨w10, hw10⟩ : ∃ x, x = w9.setCell ⟨G1, 4, none⟩ (.slice G gs.length g) := ⟨_, rfl⟩
  rw [← hw10] at E OO ⊢
  clear hw10 hz9
  obtain ⟨b, hb⟩ : ∃ b, b = (⟨s, n, TC.1, TD.1, gs, A, a, D, d, G, g⟩ : BQ) := ⟨_, rfl⟩
  have HBB := Lib.hid (show b.book = bkBook st by rw [hb, HBK.out, ← HGS.out]; rfl)
  rw [← hb] at E OO SM
  clear hb
  refine Stop.mk (wpList_loadB rfl _ _ rfl G1 rfl _ E.out.b0 strBk rfl ?_)
  go_wp2_with (fail)
  refine (c_book_Load b _ (OO.out.at_ SM.out) (fun x hx => by have := SM.out.mem x hx; omega) (by have := SM.out.groups; omega)).mono ?_
  rintro e w11 ⟨q, rfl, hb11⟩
  replace E := Lib.hid (E.out.below hb11)
  replace OO := Lib.hid (OO.out.below hb11)
  rw [HBB.out]
  clear hb11
  cases hok : (bkBook st).ok
  · have HS' := Lib.hid (show rdBook' st = rdF TG.2 3 by rw [HRB'.out, hok]; rfl)
    have hne := rdF_bad TG.2 (e := 3) (by decide)
    have t1 : ((rdF TG.2 3).e != 0) = true := by simpa using hne
    have HZ := Lib.hid (show rdBook st = bkz by rw [HRB.out, if_neg (by rw [HS'.out]; exact hne)])
    clear hok hne
    go_wp2_with (fail)
    refine (c_octet_Fail p TG.2 3 _ E.out.rd).mono ?_
    rintro e w12 ⟨rfl, hr, hk⟩
    replace E := Lib.hid (E.out.call hr hk)
    clear hr hk
    go_wp2_with (fail)
    refine (c_octet_Err' p _ _ E.out.rd).mono ?_
    rintro e w13 ⟨rfl, hb13⟩
    replace E := Lib.hid (E.out.below hb13)
    clear hb13
    go_wp2_with (with_reducible refine stop_build 35 _ rfl ?_)
    refine Stop.mk (wpList_buildD rfl _ _ rfl _ rfl #[.int .i64 0, .int .i64 0, .slice none 0 0, .slice none 0 0, .slice none 0 0] (by kernel_rfl) ?_)
    go_wp2_with (with_reducible refine stS 35 _ _ rfl rfl ?_)
    refine Stop.mk (wsB rfl _ _ _ rfl w.heap.size _ rfl rfl _ E.out.b1 strBk rfl rfl (by simp [Value.oneCell']) ?_)
    intro w99 hb99 hk99
    replace E := Lib.hid (E.out.put1 hb99 hk99)
    clear hk99
    go_wp2_with (fail)
    rw [HZ.out, HS'.out]
    exact bodyPost_ret (results_B rfl rfl hb99 strBk rfl) rfl ⟨⟨0, 0, [], [], [], none, 0, none, 0, none, 0⟩, rfl, rfl, ⟨by simp, by simp, by simp, (fun x hx => (by first | cases hx | simp at hx)), (fun x hx => (by first | cases hx | simp at hx))⟩, OwnB.nil _ _ _ _, E.out.rd, E.out.kept⟩
  · have HS' := Lib.hid (show rdBook' st = TG.2 by rw [HRB'.out, hok]; rfl)
    clear hok
    by_cases he : TG.2.e = 0
    · have t1 : (TG.2.e != 0) = false := by simpa using he
      have HZ := Lib.hid (show rdBook st = bkBook st by rw [HRB.out, if_pos (by rw [HS'.out]; exact he)])
      clear he
      go_wp2_with (fail)
      refine (c_octet_Err' p _ _ E.out.rd).mono ?_
      rintro e w13 ⟨rfl, hb13⟩
      replace E := Lib.hid (E.out.below hb13)
      replace OO := Lib.hid (OO.out.below hb13)
      clear hb13
      go_wp2_with (with_reducible refine stop_load 35 _ rfl rfl ?_)
      refine Stop.mk (wpList_loadB rfl _ _ rfl G1 rfl _ E.out.b0 strBk rfl ?_)
      go_wp2_with (with_reducible refine stS 35 _ _ rfl rfl ?_)
      refine Stop.mk (wsB rfl _ _ _ rfl w.heap.size _ rfl rfl _ E.out.b1 strBk rfl rfl (by simp [BQ.arr, Value.oneCell']) ?_)
      intro w99 hb99 hk99
      replace E := Lib.hid (E.out.put1 hb99 hk99)
      replace OO := Lib.hid (OO.out.kept hk99 WB.out)
      clear hk99
      go_wp2_with (fail)
      rw [HZ.out, HS'.out]
      exact bodyPost_ret (results_B rfl rfl hb99 strBk rfl) rfl ⟨b, rfl, HBB.out, SM.out, OO.out.base (Nat.le_of_lt HB.out.2.1), E.out.rd, E.out.kept⟩
    · have t1 : (TG.2.e != 0) = true := by simpa using he
      have HZ := Lib.hid (show rdBook st = bkz by rw [HRB.out, if_neg (by rw [HS'.out]; exact he)])
      clear he
      go_wp2_with (fail)
      refine (c_octet_Err' p _ _ E.out.rd).mono ?_
      rintro e w13 ⟨rfl, hb13⟩
      replace E := Lib.hid (E.out.below hb13)
      clear hb13
      go_wp2_with (with_reducible refine stop_build 35 _ rfl ?_)
      refine Stop.mk (wpList_buildD rfl _ _ rfl _ rfl #[.int .i64 0, .int .i64 0, .slice none 0 0, .slice none 0 0, .slice none 0 0] (by kernel_rfl) ?_)
      go_wp2_with (with_reducible refine stS 35 _ _ rfl rfl ?_)
      refine Stop.mk (wsB rfl _ _ _ rfl w.heap.size _ rfl rfl _ E.out.b1 strBk rfl rfl (by simp [Value.oneCell']) ?_)
      intro w99 hb99 hk99
      replace E := Lib.hid (E.out.put1 hb99 hk99)
      clear hk99
      go_wp2_with (fail)
      rw [HZ.out, HS'.out]
      exact bodyPost_ret (results_B rfl rfl hb99 strBk rfl) rfl ⟨⟨0, 0, [], [], [], none, 0, none, 0, none, 0⟩, rfl, rfl, ⟨by simp, by simp, by simp, (fun x hx => (by first | cases hx | simp at hx)), (fun x hx => (by first | cases hx | simp at hx))⟩, OwnB.nil _ _ _ _, E.out.rd, E.out.kept⟩
end Go.Proofs.YtldoedmclfbgpaaDoor
namespace Go.Proofs.YtldoedmclfbgpaaDoor
open Go.RowKit

theorem f_dead : (Tryd.prog.fieldsOf 60).toList.map (fun f => (f.name == "_", f.type, f.offset)) = [(false, 3, 0), (false, 3, 1), (false, 3, 2)] := by kernel_rfl
theorem u_dead : Tryd.prog.underlying 60 = some (.struct (Tryd.prog.fieldsOf 60)) := by kernel_rfl
theorem h_dead : Tryd.prog.stoodInHeld 60 = false := by kernel_rfl
theorem gD : Tryd.prog.eqGuardType Tryd.prog.depth 60 = false := by kernel_rfl
set_option maxRecDepth 100000 in
theorem eq_dead (d : Nat) (x : Dead) (w : World) : (Op.equalIn (d + 2) 60 (.agg x.cells.toArray) (.agg x.cells.toArray)).run Tryd.prog w = .ok true w := by
  have h : (eqF (d + 1) x.cells.toArray x.cells.toArray [(false, 3, 0), (false, 3, 1), (false, 3, 2)]).run Tryd.prog w = .ok (x.id == x.id && (x.ver == x.ver && (x.seq == x.seq && true))) w :=
    eqF_cons _ _ _ _ _ _ (run_part_plain w plain3 rfl) (run_part_plain w plain3 rfl) (run_equalIn_int w d _ _ _ _ _ Tryd.underlying3)
    (eqF_cons _ _ _ _ _ _ (run_part_plain w plain3 rfl) (run_part_plain w plain3 rfl) (run_equalIn_int w d _ _ _ _ _ Tryd.underlying3)
      (eqF_cons _ _ _ _ _ _ (run_part_plain w plain3 rfl) (run_part_plain w plain3 rfl) (run_equalIn_int w d _ _ _ _ _ Tryd.underlying3) (eqF_nil _ _ _)))
  rw [eqS (d + 1) _ _ _ u_dead h_dead f_dead h]
  simp
theorem Dead.at3 {w : World} {A : Option Addr} {c : Nat} {l : List Dead} (h : In 3 Dead.cells w A c l) {k : Nat} (hk : k < l.length) :
    ∃ b off, A = some ⟨b, off, none⟩ ∧ b < w.heap.size ∧ ∀ w', Below w.heap.size w w' → ∀ j u, (l[k].cells.toArray)[j]? = some u → w'.cell? ⟨b, off + k * 3 + j, none⟩ = some u := by
  obtain ⟨b, off, hA, hb, hrow⟩ := h.at hk
  refine ⟨b, off, hA, hb, fun w' hw j u hu => ?_⟩
  exact (hrow.below hw hb) k hk j u (by simpa using hu)
set_option maxHeartbeats 4000000 in
set_option maxRecDepth 4000 in
theorem c_ref06_SameE (l : List CQ) (A B : Option Addr) (ca cb : Nat) (w : World) (ha : In 27 CQ.cells w A ca l) (hb : In 27 CQ.cells w B cb l) : Calls Tryd.prog 15 #[.slice A l.length ca, .slice B l.length cb] w (RetV w (.bool true)) := by
  have hL := ha.1
  have hC := ha.2.1
  have hS := ha.2.2.1
  have hL2 := hb.1
  have hC2 := hb.2.1
  have HA := Lib.hid ha
  have HB := Lib.hid hb
  clear ha hb
  go_enter Tryd.func15, Tryd.ntmps15
  go_wp2_with (fail)
  go_loopw [5] (fun i wr => ∃ k : Nat, k ≤ l.length ∧ i = .int .i64 k ∧ Hid (Below w.heap.size w wr)) (fun i _ => l.length - (intOf i).toNat)
  case atStart => exact ⟨0, by omega, rfl, Below.refl _ _⟩
  case round =>
    obtain ⟨k, hk, rfl, S⟩ := hrel
    have hz := S.out.size
    by_cases hlt : k < l.length
    · have d1 : decide ((k : Int) < (l.length : Int)) = true := by simp; omega
      obtain ⟨b1, o1, hA1, hb1, h1⟩ := CQ.at HA.out hlt
      obtain ⟨b2, o2, hA2, hb2, h2⟩ := CQ.at HB.out hlt
      obtain ⟨x, hx⟩ : ∃ x, x = l[k] := ⟨_, rfl⟩
      rw [← hx] at h1 h2
      have H1 := Lib.hid h1
      have H2 := Lib.hid h2
      clear h1 h2 hx
      have hi1 : (0 : Int) ≤ (k : Int) := by omega
      have hi2 : (k : Int) < (l.length : Int) := by omega
      subst hA1 hA2
      go_wp2_with (fail)
      refine wp_region_rel [Sp.eq (.slice (some ⟨b1, o1, none⟩) l.length ca), Sp.eq (.int .i64 k), Sp.eq (.pointer (some ⟨b1, o1 + k * 27, none⟩)), Sp.eq (.agg x.c.arr), Sp.eq (.slice (some ⟨b2, o2, none⟩) l.length cb), Sp.eq (.int .i64 k), Sp.eq (.pointer (some ⟨b2, o2 + k * 27, none⟩)), Sp.eq (.agg x.c.arr), Sp.eq (.bool false)] 26 (by kernel_rfl) (by kernel_rfl) rfl rfl ?_ ?_
      · refine ⟨?_, ?_, ?_, ?_, ?_, ?_, ?_, ?_, ?_, trivial⟩
        all_goals (intro u w2 hb2 hd; simp [Deps, Region.binds, Sp.eq_holds] at hd; simp only [putDeps, dstOf, Region.binds])
        case refine_4 =>
          go_wp2_with (with_reducible refine slG 56 _ rfl ?_)
          refine Stop.mk (wlG (by rfl) _ _ rfl b1 (o1 + k * 27) (by first | rfl | simpa using hd) x.c.arr (H1.out _ (S.out.trans (hb2.mono hz))) strC x.size ?_)
          go_wp2_with (fail)
          exact RelEnd.mk rfl (Below.refl _ _) rfl
        case refine_8 =>
          go_wp2_with (with_reducible refine slG 56 _ rfl ?_)
          refine Stop.mk (wlG (by rfl) _ _ rfl b2 (o2 + k * 27) (by first | rfl | simpa using hd) x.c.arr (H2.out _ (S.out.trans (hb2.mono hz))) strC x.size ?_)
          go_wp2_with (fail)
          exact RelEnd.mk rfl (Below.refl _ _) rfl
        case refine_9 =>
          obtain ⟨hu3, hu7⟩ := hd
          rw [hu3, hu7]
          go_wp2_with (with_reducible refine stop_bin .neq 56 _ _ 56 rfl ?_)
          refine Stop.mk (wpList_neqS (by rfl) _ _ _ _ rfl x.c.arr x.c.arr rfl rfl gC true ((eq_card x.wf x.wf 9996 _).trans (by simp)) ?_)
          go_wp2_with (fail)
          exact RelEnd.mk rfl (Below.refl _ _) rfl
        all_goals (go_wp2_with (fail); exact RelEnd.mk rfl (Below.refl _ _) rfl)
      · intro u w2 hb2 hold
        simp only [RelHold, Sp.eq_holds] at hold
        obtain ⟨-, -, -, -, -, -, -, -, d8, -⟩ := hold
        simp only [putAll, Act.put, Nat.reduceAdd, List.setIfInBounds_toArray, List.set_cons_zero, List.set_cons_succ]
        rw [d8]
        have S2 := Lib.hid (S.out.trans (hb2.mono hz))
        clear hb2 H1 H2 d8
        go_wp2_with (fail)
        go_roundw
        case rel => exact ⟨k + 1, by omega, by go_num, S2.out⟩
        case measure => simp [intOf]; omega
    · obtain rfl : k = l.length := by omega
      have d1 : decide ((l.length : Int) < (l.length : Int)) = false := by simp
      go_wp2_with (fail)
      go_ret
      exact RetV.of rfl S.out
set_option maxHeartbeats 4000000 in
set_option maxRecDepth 4000 in
theorem c_ref18_DeadE (l : List Dead) (A B : Option Addr) (ca cb : Nat) (w : World) (ha : In 3 Dead.cells w A ca l) (hb : In 3 Dead.cells w B cb l) : Calls Tryd.prog 16 #[.slice A l.length ca, .slice B l.length cb] w (RetV w (.bool true)) := by
  have hL := ha.1
  have hC := ha.2.1
  have hS := ha.2.2.1
  have hL2 := hb.1
  have hC2 := hb.2.1
  have HA := Lib.hid ha
  have HB := Lib.hid hb
  clear ha hb
  go_enter Tryd.func16, Tryd.ntmps16
  go_wp2_with (fail)
  go_loopw [5] (fun i wr => ∃ k : Nat, k ≤ l.length ∧ i = .int .i64 k ∧ Hid (Below w.heap.size w wr)) (fun i _ => l.length - (intOf i).toNat)
  case atStart => exact ⟨0, by omega, rfl, Below.refl _ _⟩
  case round =>
    obtain ⟨k, hk, rfl, S⟩ := hrel
    have hz := S.out.size
    by_cases hlt : k < l.length
    · have d1 : decide ((k : Int) < (l.length : Int)) = true := by simp; omega
      obtain ⟨b1, o1, hA1, hb1, h1⟩ := Dead.at3 HA.out hlt
      obtain ⟨b2, o2, hA2, hb2, h2⟩ := Dead.at3 HB.out hlt
      obtain ⟨x, hx⟩ : ∃ x, x = l[k] := ⟨_, rfl⟩
      rw [← hx] at h1 h2
      have H1 := Lib.hid h1
      have H2 := Lib.hid h2
      clear h1 h2 hx
      have hi1 : (0 : Int) ≤ (k : Int) := by omega
      have hi2 : (k : Int) < (l.length : Int) := by omega
      subst hA1 hA2
      go_wp2_with (fail)
      refine wp_region_rel [Sp.eq (.slice (some ⟨b1, o1, none⟩) l.length ca), Sp.eq (.int .i64 k), Sp.eq (.pointer (some ⟨b1, o1 + k * 3, none⟩)), Sp.eq (.agg x.cells.toArray), Sp.eq (.slice (some ⟨b2, o2, none⟩) l.length cb), Sp.eq (.int .i64 k), Sp.eq (.pointer (some ⟨b2, o2 + k * 3, none⟩)), Sp.eq (.agg x.cells.toArray), Sp.eq (.bool false)] 26 (by kernel_rfl) (by kernel_rfl) rfl rfl ?_ ?_
      · refine ⟨?_, ?_, ?_, ?_, ?_, ?_, ?_, ?_, ?_, trivial⟩
        all_goals (intro u w2 hb2 hd; simp [Deps, Region.binds, Sp.eq_holds] at hd; simp only [putDeps, dstOf, Region.binds])
        case refine_4 =>
          go_wp2_with (with_reducible refine slG 60 _ rfl ?_)
          refine Stop.mk (wlG (by rfl) _ _ rfl b1 (o1 + k * 3) (by first | rfl | simpa using hd) x.cells.toArray (H1.out _ (S.out.trans (hb2.mono hz))) strDead rfl ?_)
          go_wp2_with (fail)
          exact RelEnd.mk rfl (Below.refl _ _) rfl
        case refine_8 =>
          go_wp2_with (with_reducible refine slG 60 _ rfl ?_)
          refine Stop.mk (wlG (by rfl) _ _ rfl b2 (o2 + k * 3) (by first | rfl | simpa using hd) x.cells.toArray (H2.out _ (S.out.trans (hb2.mono hz))) strDead rfl ?_)
          go_wp2_with (fail)
          exact RelEnd.mk rfl (Below.refl _ _) rfl
        case refine_9 =>
          obtain ⟨hu3, hu7⟩ := hd
          rw [hu3, hu7]
          go_wp2_with (with_reducible refine stop_bin .neq 60 _ _ 60 rfl ?_)
          refine Stop.mk (wpList_neqS (by rfl) _ _ _ _ rfl x.cells.toArray x.cells.toArray rfl rfl gD true (eq_dead 9998 x _) ?_)
          go_wp2_with (fail)
          exact RelEnd.mk rfl (Below.refl _ _) rfl
        all_goals (go_wp2_with (fail); exact RelEnd.mk rfl (Below.refl _ _) rfl)
      · intro u w2 hb2 hold
        simp only [RelHold, Sp.eq_holds] at hold
        obtain ⟨-, -, -, -, -, -, -, -, d8, -⟩ := hold
        simp only [putAll, Act.put, Nat.reduceAdd, List.setIfInBounds_toArray, List.set_cons_zero, List.set_cons_succ]
        rw [d8]
        have S2 := Lib.hid (S.out.trans (hb2.mono hz))
        clear hb2 H1 H2 d8
        go_wp2_with (fail)
        go_roundw
        case rel => exact ⟨k + 1, by omega, by go_num, S2.out⟩
        case measure => simp [intOf]; omega
    · obtain rfl : k = l.length := by omega
      have d1 : decide ((l.length : Int) < (l.length : Int)) = false := by simp
      go_wp2_with (fail)
      go_ret
      exact RetV.of rfl S.out
theorem grps_mem_eq {l1 l2 : List GQ} (h : grps l1 = grps l2) {k : Nat} (h1 : k < l1.length) (h2 : k < l2.length) : l1[k].no = l2[k].no ∧ l1[k].mem = l2[k].mem := by
  have e : (grps l1)[k]'(by rw [grps_len]; exact h1) = (grps l2)[k]'(by rw [grps_len]; exact h2) := by congr 1
  rw [grps_get h1, grps_get h2] at e
  unfold GQ.g at e
  injection e with e1 e2
  exact ⟨e1, e2⟩
set_option maxHeartbeats 4000000 in
set_option maxRecDepth 4000 in
theorem c_ref17_SameE (l1 l2 : List GQ) (A B : Option Addr) (ca cb : Nat) (w : World) (ha : In 2 GQ.cells w A ca l1) (hb : In 2 GQ.cells w B cb l2) (m1 : ∀ x ∈ l1, InI w x.A x.c x.mem) (m2 : ∀ x ∈ l2, InI w x.A x.c x.mem) (h : grps l1 = grps l2) :
    Calls Tryd.prog 17 #[.slice A l1.length ca, .slice B l2.length cb] w (RetV w (.bool true)) := by
  have hL := ha.1
  have hC := ha.2.1
  have hS := ha.2.2.1
  have hL2 := hb.1
  have hC2 := hb.2.1
  have hS2 := hb.2.2.1
  have HA := Lib.hid ha
  have HB := Lib.hid hb
  have HM1 := Lib.hid m1
  have HM2 := Lib.hid m2
  have HE := Lib.hid h
  have hlen : l1.length = l2.length := by rw [← grps_len l1, ← grps_len l2, h]
  have HLN := Lib.hid hlen
  have dn : ((l1.length : Int) != (l2.length : Int)) = false := by rw [hlen]; simp
  clear ha hb m1 m2 h hlen
  go_enter Tryd.func17, Tryd.ntmps17
  go_wp2_with (fail)
  go_loopw [5] (fun i wr => ∃ k : Nat, k ≤ l1.length ∧ i = .int .i64 k ∧ Hid (Below w.heap.size w wr)) (fun i _ => l1.length - (intOf i).toNat)
  case atStart => exact ⟨0, by omega, rfl, Below.refl _ _⟩
  case round =>
    obtain ⟨k, hk, rfl, S⟩ := hrel
    have hz := S.out.size
    by_cases hlt : k < l1.length
    · have d1 : decide ((k : Int) < (l1.length : Int)) = true := by simp; omega
      have hlt2 : k < l2.length := by have := HLN.out; omega
      obtain ⟨b1, o1, hA1, hb1, hrow1⟩ := HA.out.at hlt
      obtain ⟨b2, o2, hA2, hb2, hrow2⟩ := HB.out.at hlt2
      obtain ⟨e0, e1⟩ := grp_cells hrow1 hlt
      obtain ⟨f0, f1⟩ := grp_cells hrow2 hlt2
      replace e0 := (S.out.cell (p := ⟨b1, o1 + k * 2, none⟩) hb1).trans e0
      replace e1 := (S.out.cell (p := ⟨b1, o1 + k * 2 + 1, none⟩) hb1).trans e1
      replace f0 := (S.out.cell (p := ⟨b2, o2 + k * 2, none⟩) hb2).trans f0
      replace f1 := (S.out.cell (p := ⟨b2, o2 + k * 2 + 1, none⟩) hb2).trans f1
      obtain ⟨g1, g2⟩ := grps_mem_eq HE.out hlt hlt2
      have I1 := Lib.hid (HM1.out _ (List.getElem_mem hlt))
      have I2 := Lib.hid (HM2.out _ (List.getElem_mem hlt2))
      obtain ⟨x, hx⟩ : ∃ x, x = l1[k] := ⟨_, rfl⟩
      obtain ⟨y, hy⟩ : ∃ y, y = l2[k] := ⟨_, rfl⟩
      rw [← hx] at e0 e1 g1 g2 I1
      rw [← hy] at f0 f1 g1 g2 I2
      have G2 := Lib.hid g2
      have tn : (x.no != y.no) = false := by rw [g1]; simp
      have CM := Lib.hid (show ∀ w', InI w' x.A x.c x.mem → InI w' y.A y.c y.mem → Calls Tryd.prog 38 #[.slice x.A x.mem.length x.c, .slice y.A y.mem.length y.c] w' (RetV w' (.bool true)) from fun w' h1 h2 => by
        have := c_ref01_IntsB x.mem y.mem x.A y.A x.c y.c w' h1 h2
        rw [decide_eq_true g2] at this
        exact this)
      have hi1 : (0 : Int) ≤ (k : Int) := by omega
      have hi2 : (k : Int) < (l1.length : Int) := by omega
      have hi3 : (k : Int) < (l2.length : Int) := by omega
      have hbr1 : b1 < wr.heap.size := by omega
      have hbr2 : b2 < wr.heap.size := by omega
      clear hrow1 hrow2 hx hy g1 g2
      subst hA1 hA2
      go_wp2_with (fail)
      refine wp_region_grow (by kernel_rfl) (by kernel_rfl) ?_
      repeat (go_big_quiet_step ((first | (go_at_call 38; exact quiet_grow (CM.out _ ((I1.out.below S.out).below (grow_below _ _)) ((I2.out.below S.out).below (grow_below _ _)))))))
      refine wpQuiet_nil ?_
      intro w2 hb2'
      have S2 := Lib.hid (S.out.trans (hb2'.mono hz))
      clear hb2' e0 e1 f0 f1
      go_wp2_with (fail)
      go_roundw
      case rel => exact ⟨k + 1, by omega, by go_num, S2.out⟩
      case measure => simp [intOf]; omega
    · obtain rfl : k = l1.length := by omega
      have d1 : decide ((l1.length : Int) < (l1.length : Int)) = false := by simp
      go_wp2_with (fail)
      go_ret
      exact RetV.of rfl S.out
theorem cs_inj : ∀ {l1 l2 : List CQ}, l1.map CQ.c = l2.map CQ.c → l1 = l2
  | [], [], _ => rfl
  | [], _ :: _, h => by cases h
  | _ :: _, [], h => by cases h
  | x :: l1, y :: l2, h => by
    rw [List.map_cons, List.map_cons] at h
    injection h with h1 h2
    obtain ⟨c, wf⟩ := x
    obtain ⟨d, wf2⟩ := y
    simp only at h1
    subst h1
    rw [cs_inj h2]
set_option maxHeartbeats 4000000 in
set_option maxRecDepth 4000 in
theorem ref20_SameE (seq next : Int) (cards : List CQ) (dead : List Dead) (g1 g2 : List GQ) (A1 A2 D1 D2 G1 G2 : Option Addr) (a1 a2 d1 d2 c1 c2 : Nat) (w : World) (ha : BQ.at_ ⟨seq, next, cards, dead, g1, A1, a1, D1, d1, G1, c1⟩ w) (hb : BQ.at_ ⟨seq, next, cards, dead, g2, A2, a2, D2, d2, G2, c2⟩ w) (h : grps g1 = grps g2) :
    Calls Tryd.prog 7 #[.agg #[.int .i64 seq, .int .i64 next, .slice A1 cards.length a1, .slice D1 dead.length d1, .slice G1 g1.length c1], .agg #[.int .i64 seq, .int .i64 next, .slice A2 cards.length a2, .slice D2 dead.length d2, .slice G2 g2.length c2]] w (RetV w (.bool true)) := by
  have HA := Lib.hid ha
  have HB := Lib.hid hb
  have HE := Lib.hid h
  have b1 : Below w.heap.size w (w.alloc (.cells #[.int .i64 seq, .int .i64 next, .slice A1 cards.length a1, .slice D1 dead.length d1, .slice G1 g1.length c1] 35)) := (Below.refl _ _).alloc (Nat.le_refl _) _
  have E := Lib.hid (At2.new w 35 35 #[.int .i64 seq, .int .i64 next, .slice A1 cards.length a1, .slice D1 dead.length d1, .slice G1 g1.length c1] #[.int .i64 seq, .int .i64 next, .slice A2 cards.length a2, .slice D2 dead.length d2, .slice G2 g2.length c2])
  have e1 : (seq == seq) = true := by simp
  have e2 : (next == next) = true := by simp
  clear ha hb h b1
  have q0 := E.out.2.1.cell (i := 0) rfl
  have q1 := E.out.2.1.cell (i := 1) rfl
  have q2 := E.out.2.1.cell (i := 2) rfl
  have r0 := E.out.2.2.cell (i := 0) rfl
  have r1 := E.out.2.2.cell (i := 1) rfl
  have r2 := E.out.2.2.cell (i := 2) rfl
  have l1 := E.out.2.1.lt
  have l2 := E.out.2.2.lt
  go_enter Tryd.func7, Tryd.ntmps7
  go_wp2_with (fail)
  refine (c_ref06_SameE cards A1 A2 a1 a2 _ (HA.out.below E.out.1).cards (HB.out.below E.out.1).cards).mono ?_
  rintro e w1 ⟨rfl, hb1⟩
  replace E := Lib.hid (E.out.step hb1)
  clear hb1 q0 q1 q2 r0 r1 r2 l1 l2
  have q3 := E.out.2.1.cell (i := 3) rfl
  have r3 := E.out.2.2.cell (i := 3) rfl
  have l1 := E.out.2.1.lt
  have l2 := E.out.2.2.lt
  go_wp2_with (fail)
  refine (c_ref18_DeadE dead D1 D2 d1 d2 _ (HA.out.below E.out.1).dead (HB.out.below E.out.1).dead).mono ?_
  rintro e w1 ⟨rfl, hb1⟩
  replace E := Lib.hid (E.out.step hb1)
  clear hb1 q3 r3 l1 l2
  have q4 := E.out.2.1.cell (i := 4) rfl
  have r4 := E.out.2.2.cell (i := 4) rfl
  have l1 := E.out.2.1.lt
  have l2 := E.out.2.2.lt
  go_wp2_with (fail)
  refine (c_ref17_SameE g1 g2 G1 G2 c1 c2 _ (HA.out.below E.out.1).groups (HB.out.below E.out.1).groups (HA.out.below E.out.1).mem (HB.out.below E.out.1).mem HE.out).mono ?_
  rintro e w1 ⟨rfl, hb1⟩
  replace E := Lib.hid (E.out.step hb1)
  clear hb1 q4 r4 l1 l2
  go_wp2_with (fail)
  go_ret
  exact RetV.of rfl E.out.1
theorem c_ref20_SameE (a b : BQ) (w : World) (ha : a.at_ w) (hb : b.at_ w) (h : a.book = b.book) : Calls Tryd.prog 7 #[.agg a.arr, .agg b.arr] w (RetV w (.bool true)) := by
  obtain ⟨s1, n1, k1, d1, g1, A1, a1, D1, e1, G1, c1⟩ := a
  obtain ⟨s2, n2, k2, d2, g2, A2, a2, D2, e2, G2, c2⟩ := b
  unfold BQ.book at h
  injection h with h1 h2 h3 h4 h5
  simp only at h1 h2 h3 h4 h5
  subst h1 h2 h4
  have h3' := cs_inj h3
  subst h3'
  exact ref20_SameE s1 n1 k1 d1 g1 g2 A1 A2 D1 D2 G1 G2 a1 a2 e1 e2 c1 c2 w ha hb h5
end Go.Proofs.YtldoedmclfbgpaaDoor
