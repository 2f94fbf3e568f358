/-
  The walk of chapter 20's Load: a book of plain data.
-/
import Derived.Test.YtldoedmclfbgpaaDoorBq10
namespace Go.Proofs.YtldoedmclfbgpaaDoor
open Go.RowKit

set_option maxRecDepth 10000 in
set_option maxHeartbeats 20000000 in
theorem book_Load (seq next : Int) (cards : List CQ) (dead : List Dead) (groups : List GQ) (A : Option Addr) (a : Nat) (D : Option Addr) (d : Nat) (G : Option Addr) (gc : Nat) (w : World) (hc : In 27 CQ.cells w A a cards) (hd : In 3 Dead.cells w D d dead) (hg : In 2 GQ.cells w G gc groups)
    (hgm : ∀ x ∈ groups, InI w x.A x.c x.mem) (hfit : ∀ x ∈ cards, ∀ y ∈ x.c.f, y.s.length ≤ 4294967000) (hmem : ∀ x ∈ groups, x.mem.length ≤ 1000000) (hgl : groups.length ≤ 1000000) :
    Calls Tryd.prog 25 #[.agg #[.int .i64 seq, .int .i64 next, .slice A cards.length a, .slice D dead.length d, .slice G groups.length gc]] w (RetLoad w (Book.ok ⟨seq, next, cs cards, dead, grps groups⟩)) := by
  have hS1 := hc.1
  have hS2 := hc.2.1
  have hS3 := hc.2.2.1
  have hD1 := hd.1
  have hD2 := hd.2.1
  have hD3 := hd.2.2.1
  have hG1 := hg.1
  have hG2 := hg.2.1
  have hG3 := hg.2.2.1
  have HC := Lib.hid hc
  have HD := Lib.hid hd
  have HGG := Lib.hid hg
  have HGM := Lib.hid hgm
  have HF := Lib.hid hfit
  have HM := Lib.hid hmem
  have B0 := Lib.hid (At.new w 35 #[.int .i64 seq, .int .i64 next, .slice A cards.length a, .slice D dead.length d, .slice G groups.length gc])
  have q1 := B0.out.2.cell (i := 1) rfl
  have q2 := B0.out.2.cell (i := 2) rfl
  have q3 := B0.out.2.cell (i := 3) rfl
  clear hc hd hg hgm hfit hmem
  go_enter Tryd.func25, Tryd.ntmps25
  go_wp2_with (fail)
  refine (c_shelf_Load next cards A a dead D d _ (HC.out.below B0.out.1) (HD.out.below B0.out.1) HF.out).mono ?_
  rintro e w1 ⟨p, rfl, hb1⟩
  replace B0 := Lib.hid (B0.out.step hb1)
  clear hb1 q1 q2 q3
  have q0 := B0.out.2.cell (i := 0) rfl
  have q3 := B0.out.2.cell (i := 3) rfl
  have q4 := B0.out.2.cell (i := 4) rfl
  have bl := B0.out.2.lt
  cases hsh : shelfOk next (cs cards) dead
  case false =>
    have RF := Lib.hid (ok_shelf (b := ⟨seq, next, cs cards, dead, grps groups⟩) hsh)
    clear hsh
    go_wp2_with (fail)
    go_ret2
    rw [RF.out]
    exact ⟨none, rfl, B0.out.1⟩
  case true =>
  have HSH := Lib.hid hsh
  clear hsh
  by_cases s1 : 0 ≤ seq
  case neg =>
    have RF := Lib.hid (ok_seq (b := ⟨seq, next, cs cards, dead, grps groups⟩) (fun e => s1 e.1))
    have t1 : decide (seq < 0) = true := by simp; omega
    clear s1
    go_wp2_with (fail)
    go_ret2
    rw [RF.out]
    exact ⟨none, rfl, B0.out.1⟩
  case pos =>
  have t1 : decide (seq < 0) = false := by simp; omega
  by_cases s2 : seq ≤ 1099511627776
  case neg =>
    have RF := Lib.hid (ok_seq (b := ⟨seq, next, cs cards, dead, grps groups⟩) (fun e => s2 e.2))
    have t2 : decide (1099511627776 < seq) = true := by simp; omega
    clear s1 s2
    go_wp2_with (fail)
    go_ret2
    rw [RF.out]
    exact ⟨none, rfl, B0.out.1⟩
  case pos =>
  have t2 : decide (1099511627776 < seq) = false := by simp; omega
  have HSQ := Lib.hid (show 0 ≤ seq ∧ seq ≤ 1099511627776 from ⟨s1, s2⟩)
  clear s1 s2
  go_wp2_with (fail)
  refine (c_group_Check groups G gc _ (HGG.out.below B0.out.1) (fun x hx => (HGM.out x hx).below B0.out.1)).mono ?_
  rintro e w2 ⟨rfl, hb2⟩
  replace B0 := Lib.hid (B0.out.step hb2)
  clear hb2 q0 q3 q4 bl
  have q0 := B0.out.2.cell (i := 0) rfl
  have q3 := B0.out.2.cell (i := 3) rfl
  have bl := B0.out.2.lt
  cases hgr : grpsOk (-1) (grps groups)
  case false =>
    have RF := Lib.hid (ok_grps (b := ⟨seq, next, cs cards, dead, grps groups⟩) hgr)
    clear hgr
    go_wp2_with (fail)
    go_ret2
    rw [RF.out]
    exact ⟨none, rfl, B0.out.1⟩
  case true =>
  have HGR := Lib.hid hgr
  clear hgr
  by_cases hdl : 0 < dead.length
  case neg =>
    have hd0 : dead.length = 0 := Nat.eq_zero_of_not_pos hdl
    have HLS := Lib.hid (show dead = [] ∨ lastSeq dead ≤ seq from .inl (List.eq_nil_of_length_eq_zero hd0))
    have d0 : decide (0 < (dead.length : Int)) = false := by rw [hd0]; decide
    have d0n : decide (0 < dead.length) = false := decide_eq_false hdl
    clear hd0 hdl
    go_wp2_with (fail)
    refine wp_region_grow (by kernel_rfl) (by kernel_rfl) ?_
    repeat (go_big_quiet_step ((first | (fail))))
    refine wpQuiet_nil ?_
    intro w3 hb3
    replace B0 := Lib.hid (B0.out.step hb3)
    clear hb3 q0 q3 bl
    have q0 := B0.out.2.cell (i := 0) rfl
    have q2 := B0.out.2.cell (i := 2) rfl
    have bl := B0.out.2.lt
    go_wp2_with (fail)
    have b4 := (Below.refl w3.heap.size w3).alloc (Nat.le_refl _) (.cells #[.int .i64 seq, .pointer p, .slice none 0 0] 94)
    have A1 := Lib.hid (B0.out.step b4)
    have G1 := Lib.hid (Blk.new w3 94 #[.int .i64 seq, .pointer p, .slice none 0 0])
    obtain ⟨g, hg⟩ : ∃ g, g = w3.heap.size := ⟨_, rfl⟩
    have hgw := Lib.hid (show w.heap.size < g by rw [hg]; exact B0.out.2.lt)
    obtain ⟨w4, hw4⟩ : ∃ x, x = (w3.alloc (.cells #[.int .i64 seq, .pointer p, .slice none 0 0] 94)) := ⟨_, rfl⟩
    rw [← hw4] at A1 G1 ⊢
    rw [← hg] at G1 ⊢
    clear b4 hg hw4 B0 q0 q2 bl
    go_loopw [8, 10, 66] (fun v _ i wr => ∃ k : Nat, k ≤ cards.length ∧ i = .int .i64 k ∧ Hid (wr.ownsRow (g + 1) 3 1 v k ((bids (cards.take k)).flatMap ic)) ∧ Hid (At w wr #[.int .i64 seq, .int .i64 next, .slice A cards.length a, .slice D dead.length d, .slice G groups.length gc]) ∧ Hid (Blk wr g #[.int .i64 seq, .pointer p, .slice none 0 0])) (fun _ _ i _ => cards.length - (intOf i).toNat)
    case atStart => exact ⟨0, by omega, rfl, World.ownsRow_nil _ _ _ _, A1.out, G1.out⟩
    case round =>
      clear A1 G1
      obtain ⟨k, hk, rfl, O, A1, G1⟩ := hrel
      by_cases hlt : k < cards.length
      · have d1 : decide ((k : Int) < (cards.length : Int)) = true := by simp; omega
        obtain ⟨b, off, hA, hb, hat⟩ := CQ.at HC.out hlt
        have HAT := Lib.hid hat
        have TK := Lib.hid (bids_snoc hlt)
        obtain ⟨x, hx⟩ : ∃ x, x = cards[k] := ⟨_, rfl⟩
        rw [← hx] at HAT TK
        have hi1 : (0 : Int) ≤ (k : Int) := by omega
        have hi2 : (k : Int) < (cards.length : Int) := by omega
        have hgr := G1.out.lt
        clear hat hx
        subst hA
        obtain ⟨A8, c8, rfl, -⟩ := own_form O.out
        go_wp2_with (with_reducible refine slG 56 _ rfl ?_)
        refine Stop.mk (wlG (by rfl) _ _ rfl b (off + k * 27) rfl x.c.arr (HAT.out _ A1.out.1) strC x.size ?_)
        go_wp2_with (with_reducible refine stS 56 _ _ rfl rfl ?_)
        refine Stop.mk (wsB rfl _ _ _ rfl wr.heap.size _ rfl rfl _ (Blk.new _ _ _) strC x.size (by rw [x.size]; rfl) x.ones ?_)
        intro w5 hb5 hk5
        have k5 := (((Below.refl wr.heap.size wr).alloc (Nat.le_refl _) (.cells zcA 56)).trans (hk5.oneB (by simp) (Nat.le_refl _)))
        have A2 := Lib.hid (A1.out.step k5)
        have G2 := Lib.hid (G1.out.below k5 G1.out.lt)
        have O2 := Lib.hid (own_below O.out k5)
        have p0 := hb5.cell x.c.arr_head.1
        have hl5 := hb5.lt
        have hg5 := G2.out.lt
        clear hb5 hk5 k5 A1 G1 O
        go_wp2_with ((at_builtin; refine Stop.out ?_))
        refine Stop.mk (wpList_app _ rfl _ _ elemInt rfl (g + 1) (.slice A8 k c8) k _ rfl (own_below O2.out ((Below.refl _ _).alloc (Nat.le_refl _) _)) _ 1 1 (ic x.c.id) rfl (Src.new w5 (ic x.c.id) _ 1 rfl) (by simp [ic, Value.oneCell']) (by omega) (by simp; omega) ?_)
        intro v6 w6 own6 _ hb6 _
        have k6 : Below (g + 1) w5 w6 := Below.trans (b := w5.alloc (.cells #[.int .i64 x.c.id] 3)) ((Below.refl _ _).alloc (by omega) _) hb6
        have A3 := Lib.hid (show At w w6 _ from ⟨A2.out.1.trans (k6.mono (by have := hgw.out; omega)), A2.out.2.below k6 (by have := hgw.out; omega)⟩)
        have G3 := Lib.hid (G2.out.below k6 (by omega))
        have O3 := Lib.hid (show w6.ownsRow (g + 1) 3 1 v6 (k + 1) ((bids (cards.take (k + 1))).flatMap ic) by rw [TK.out, List.flatMap_append, List.flatMap_cons, List.flatMap_nil, List.append_nil]; exact own6)
        clear own6 hb6 k6 A2 G2 O2 p0
        go_wp2_with (fail)
        go_roundw
        case rel => exact ⟨k + 1, by omega, by go_num, O3.out, A3.out, G3.out⟩
        case measure => simp [intOf]; omega
      · obtain rfl : k = cards.length := by omega
        have d1 : decide ((cards.length : Int) < (cards.length : Int)) = false := by simp
        have O2 := O.out
        rw [List.take_length, ← bids_len cards] at O2
        obtain ⟨A8, c8, rfl, I8⟩ := In.of_own (k := 1) (cs := ic) (fun _ => rfl) O2 (by rw [bids_len]; exact hS3)
        have AP := Lib.hid (apart_of_own O2 rfl)
        have q4 := A1.out.2.cell (i := 4) rfl
        have bl := A1.out.2.lt
        have X := Lib.hid (show BK w wr g wr.heap.size seq p (.slice none 0 0) 0 A8 c8 (bids cards) from ⟨A1.out.1, by have := hgw.out; omega, G1.out.lt, Nat.le_refl _, G1.out, ⟨[], World.ownsRow_nil _ _ _ _⟩, I8⟩)
        have hI1 := I8.1
        have hI2 := I8.2.1
        have hI3 := I8.2.2.1
        obtain ⟨ids, hids⟩ : ∃ x, x = bids cards := ⟨_, rfl⟩
        have HID := Lib.hid hids
        rw [← hids] at X AP hI1 hI3 ⊢
        obtain ⟨B2, hB2⟩ : ∃ x, x = wr.heap.size := ⟨_, rfl⟩
        rw [← hB2] at X AP
        clear O O2 I8 G1 hids
        go_wp2_with (fail)
        clear q4 bl A1 hB2
        go_loopw [12, 79] (fun _ i wr => ∃ (k : Nat) (v : Value), k ≤ groups.length ∧ i = .int .i64 k ∧ Hid (((grps groups).drop k).all (fun g => memOk (cs cards) g.mem) = Book.ok ⟨seq, next, cs cards, dead, grps groups⟩) ∧ Hid (BK w wr g B2 seq p v k A8 c8 ids)) (fun _ i _ => groups.length - (intOf i).toNat)
        case atStart => exact ⟨0, .slice none 0 0, by omega, rfl, ok_rest (b := ⟨seq, next, cs cards, dead, grps groups⟩) HSH.out HSQ.out HGR.out HLS.out, X.out⟩
        case round =>
          clear X
          obtain ⟨k, v, hk2, rfl, R, X⟩ := hrel
          have hz := X.out.S.size
          by_cases hlt2 : k < groups.length
          · have d2 : decide ((k : Int) < (groups.length : Int)) = true := by simp; omega
            obtain ⟨b, off, hA, hb, hrow⟩ := HGG.out.at hlt2
            have hmemk := List.getElem_mem hlt2
            have e0 := (X.out.S.cell (p := ⟨b, off + k * 2, none⟩) hb).trans (grp_cells hrow hlt2).1
            have e1 := (X.out.S.cell (p := ⟨b, off + k * 2 + 1, none⟩) hb).trans (grp_cells hrow hlt2).2
            have HI := Lib.hid (HGM.out _ hmemk)
            have hml := HM.out _ hmemk
            have FIN := Lib.hid (mem_fin (b := ⟨seq, next, cards, dead, groups, none, 0, none, 0, none, 0⟩) hlt2 HSH.out HGR.out R.out)
            obtain ⟨x, hx⟩ : ∃ x, x = groups[k] := ⟨_, rfl⟩
            have hx2 : (BQ.groups ⟨seq, next, cards, dead, groups, none, 0, none, 0, none, 0⟩)[k]'hlt2 = x := hx.symm
            rw [hx2] at FIN
            rw [← hx] at e0 e1 HI hml
            have FIN2 := Lib.hid (show (alongM x.mem ids ≠ [] → Book.ok ⟨seq, next, cs cards, dead, grps groups⟩ = false) ∧ (alongM x.mem ids = [] → ((grps groups).drop (k + 1)).all (fun g => memOk (cs cards) g.mem) = Book.ok ⟨seq, next, cs cards, dead, grps groups⟩) by rw [HID.out]; exact FIN.out)
            have hi1 : (0 : Int) ≤ (k : Int) := by omega
            have hi2 : (k : Int) < (groups.length : Int) := by omega
            have hbw : b < wr.heap.size := by omega
            clear hrow hx hx2 hmemk R FIN
            subst hA
            obtain ⟨t, ht⟩ : ∃ t, t = wr.heap.size := ⟨_, rfl⟩
            have bt := (Below.refl wr.heap.size wr).alloc (Nat.le_refl _) (.cells #[.int .i64 x.no, .slice x.A x.mem.length x.c] 65)
            go_wp2_with (fail)
            refine (c_ids_Minus x.mem ids x.A A8 x.c c8 _ ((HI.out.below X.out.S).alloc _) (X.out.ids.alloc _) hml).mono ?_
            rintro e w5 ⟨v5, rfl, own5, hb5⟩
            obtain ⟨A5, c5, rfl, -⟩ := own_form own5
            have T5 := Lib.hid ((Blk.new wr 65 #[.int .i64 x.no, .slice x.A x.mem.length x.c]).below hb5 (by simp))
            have b5 := bt.trans (hb5.mono (by simp))
            have X5 := Lib.hid (show BK w w5 g B2 seq p v k A8 c8 ids from by
              obtain ⟨xs, hxs⟩ := X.out.own
              exact ⟨X.out.S.trans (b5.mono hz), X.out.lo, X.out.hg, Nat.le_trans X.out.hB b5.size, X.out.blk.below b5 X.out.blk.lt, ⟨xs, own_below hxs b5⟩, X.out.ids.below b5⟩)
            rw [← ht] at T5 ⊢
            have hgt := Lib.hid (show g < t by rw [ht]; exact X.out.blk.lt)
            have HI5 := Lib.hid (HI.out.below X5.out.S)
            clear own5 hb5 b5 bt X ht e0 e1 HI hz
            by_cases hal : alongM x.mem ids = []
            case neg =>
              have RF := Lib.hid (FIN2.out.1 hal)
              have l0 : 0 < (alongM x.mem ids).length := List.length_pos_iff.2 hal
              have l1 : decide (0 < ((alongM x.mem ids).length : Int)) = true := by simp; exact l0
              have l2 : decide (0 < (alongM x.mem ids).length) = true := decide_eq_true l0
              clear hal l0
              go_wp2_with (fail)
              go_ret2
              rw [RF.out]
              exact ⟨none, rfl, X5.out.S⟩
            case pos =>
              have R2 := Lib.hid (FIN2.out.2 hal)
              rw [hal]
              clear hal FIN2
              have tl := T5.out.lt
              obtain ⟨xs0, hxs0⟩ := X5.out.own
              have HXS := Lib.hid hxs0
              clear hxs0
              go_wp2_with (fail)
              refine wp_region_relM (fun j z => if j = 9 then (∃ (A : Option Addr) (n c : Nat), z = .slice A n c) else if j = 10 then (∃ (A : Option Addr) (n c : Nat), z = .agg #[.int .i64 x.no, .slice A n c]) else VB [some (.pointer (some ⟨g, 0, none⟩)), some (.pointer (some ⟨g, 0, none⟩)), some (.pointer (some ⟨g, 0, none⟩)), some (.pointer (some ⟨g, 2, none⟩)), some v, some (.pointer (some ⟨t, 0, none⟩)), some (.int .i64 x.no), some (.pointer (some ⟨t, 1, none⟩)), some (.slice x.A x.mem.length x.c), none, none, none, none, some (.pointer (some ⟨g, 0, none⟩)), some (.pointer (some ⟨g, 2, none⟩)), none] j z)
                (DM [(9, 8), (10, 9), (10, 6), (11, 10)] 4 11 12 15 w g B2 #[.int .i64 seq, .pointer p, v] 2 65 2 v k xs0 GrpRow (fun W => InI W A8 c8 ids) (fun W => Blk W t #[.int .i64 x.no, .slice x.A x.mem.length x.c] ∧ InI W x.A x.c x.mem)) 106 (by kernel_rfl) (by kernel_rfl) rfl ?_ ?_ ?_
              · intro u w' hb hh
                exact DM.start (X5.out.S.trans (hb.mono X5.out.S.size)) X5.out.lo X5.out.hg (Nat.le_trans X5.out.hB hb.size) (X5.out.blk.below hb X5.out.blk.lt) (own_below HXS.out hb) (X5.out.ids.below hb) ⟨T5.out.below hb T5.out.lt, HI5.out.below hb⟩
              · refine ⟨?_, ?_, ?_, ?_, ?_, ?_, ?_, ?_, ?_, ?_, ?_, ?_, ?_, ?_, ?_, ?_, trivial⟩
                all_goals
                  rintro L u W1 hM hL hd
                  have M := Lib.hid hM
                  clear hM
                  simp [DepsM, Region.binds, VB] at hd
                  simp only [putDeps, dstOf, Region.binds]
                case refine_5 =>
                  have hu3 : u 3 = .pointer (some ⟨g, 2, none⟩) := by first | exact hd.2 | exact hd.1.2
                  have p1 := (M.out.blk0 (M.out.noS (M.out.noL hL))).cell (i := 2) rfl
                  go_wp2_with (fail)
                  exact EndM.mk rfl ⟨rfl, M.out.pure (by decide) (by decide) (by decide) (by simp)⟩
                case refine_7 =>
                  have hu5 : u 5 = .pointer (some ⟨t, 0, none⟩) := by first | exact hd.2 | exact hd.1.2
                  have r0 := (M.out.top (M.out.noA (M.out.no (k := 10) (by simp) (M.out.no (k := 6) (by simp) hL)))).1.cell (i := 0) rfl
                  go_wp2_with (fail)
                  exact EndM.mk rfl ⟨rfl, M.out.pure (by decide) (by decide) (by decide) (by simp)⟩
                case refine_9 =>
                  have hu7 : u 7 = .pointer (some ⟨t, 1, none⟩) := by first | exact hd.2 | exact hd.1.2
                  have r0 := (M.out.top (M.out.noA (M.out.no (k := 10) (by simp) (M.out.no (k := 9) (by simp) (M.out.no (k := 8) (by simp) hL))))).1.cell (i := 1) rfl
                  go_wp2_with (fail)
                  exact EndM.mk rfl ⟨rfl, M.out.pure (by decide) (by decide) (by decide) (by simp)⟩
                case refine_10 =>
                  have hu8 : u 8 = .slice x.A x.mem.length x.c := by first | exact hd.2 | exact hd.1.2
                  have h8 : L 8 = true := by first | exact hd.1 | exact hd.1.1
                  have hb11 := M.out.no (i := 11) (k := 10) (by simp) (M.out.no (k := 9) (by simp) hL)
                  have tp := M.out.top (M.out.noA hb11)
                  go_wp2_with (go_at_call 48; refine (c_CloneInts x.mem x.A x.c _ tp.2).mono ?_; rintro e w9 ⟨v9, rfl, own9, hb9⟩)
                  obtain ⟨A9, c9, rfl, -⟩ := own_form own9
                  exact EndM.mk rfl ⟨⟨_, _, _, rfl⟩, M.out.call (by decide) (by decide) (by decide) hb11 hb9 (M.out.keep.below hb9) ⟨tp.1.below hb9 tp.1.lt, tp.2.below hb9⟩ (by simpa using h8)⟩
                case refine_11 =>
                  obtain ⟨⟨h6, hu6⟩, h9, A9, n9, c9, hu9⟩ := hd
                  rw [hu6, hu9]
                  go_wp2_with (fail)
                  exact EndM.mk rfl ⟨⟨_, _, _, rfl⟩, M.out.pure (by decide) (by decide) (by decide) (by simp [h6, h9])⟩
                case refine_12 =>
                  obtain ⟨h10, A9, n9, c9, hu10⟩ := hd
                  rw [hu10]
                  have hA := M.out.noA hL
                  have tp := M.out.top hA
                  go_wp2_with (with_reducible refine stop_lit _ _ rfl ?_)
                  refine Stop.mk (wpList_lit1 rfl _ _ _ rfl elemGrp (by omega) #[.int .i64 x.no, .slice A9 n9 c9] rfl rfl ?_)
                  have bl := (Below.refl W1.heap.size W1).alloc (Nat.le_refl _) (.cells #[.int .i64 x.no, .slice A9 n9 c9] 65)
                  exact EndM.mk rfl ⟨trivial, M.out.make (news := [.int .i64 x.no, .slice A9 n9 c9]) (by decide) (by decide) ⟨_, _, _, _, rfl⟩ hL rfl (M.out.keep.below bl) ⟨tp.1.below bl tp.1.lt, tp.2.below bl⟩ (by simpa using h10)⟩
                case refine_13 =>
                  have h4 := hd.1.1
                  have hu4 := hd.1.2
                  have h11 : L 11 = true := by first | exact hd.2 | exact hd.2.1
                  obtain ⟨q, nn, hnn, e6', hsrc⟩ := M.out.lit h11 hL
                  have own := M.out.own0 hL
                  rw [hu4, e6']
                  go_wp2_with ((at_builtin; refine Stop.out ?_))
                  refine Stop.mk (wpList_app _ rfl _ _ elemGrp rfl B2 v k _ rfl own _ 1 1 nn rfl hsrc hnn.one (by omega) M.out.hB ?_)
                  intro v7 w7 own7 _ hb7 _
                  exact EndM.mk rfl ⟨trivial, M.out.app (by decide) (by decide) h11 h4 hL hnn own7 hb7 (M.out.keep.belowB AP.out hb7) (by simp)⟩
                case refine_16 =>
                  have hu14 : u 14 = .pointer (some ⟨g, 2, none⟩) := by first | exact hd.1.2
                  have h12 : L 12 = true := by first | exact hd.2 | exact hd.2.1
                  have own := M.out.own
                  rw [if_pos h12] at own
                  obtain ⟨nn, -, own⟩ := own
                  obtain ⟨A5', c5', e5, -⟩ := own_form own
                  have s9 := (M.out.blk0 hL).cell (i := 2) rfl
                  have sf := fun i => (M.out.blk0 hL).frozen i
                  have slt := (M.out.blk0 hL).lt
                  have PUT := Lib.hid (M.out.put (z := undef) (by decide) (by decide) h12 hL (M.out.keep.put AP.out 2 (u 12)) (by simp))
                  rw [e5] at PUT
                  rw [e5, hu14]
                  clear own
                  go_wp2_with (fail)
                  exact EndM.mk0 rfl ⟨trivial, PUT.out⟩
                all_goals
                  go_wp2_with (fail)
                  exact EndM.mk rfl ⟨by first | exact hd.2 | rfl | trivial, M.out.pure (by decide) (by decide) (by decide) (by simp)⟩
              · rintro u W1 hv hM
                obtain ⟨b7, nn, hnn, o7⟩ := hM.done (by simp) (by simp)
                have X6 := Lib.hid (show BK w W1 g B2 seq p (u 12) (k + 1) A8 c8 ids from ⟨hM.S, X5.out.lo, X5.out.hg, hM.hB, b7, ⟨_, o7⟩, hM.keep⟩)
                clear hv hM b7 o7
                simp only [putAll, Act.put, Nat.reduceAdd, List.setIfInBounds_toArray, List.set_cons_zero, List.set_cons_succ]
                go_wp2_with (fail)
                go_roundw
                case rel => exact ⟨k + 1, u 12, by omega, by go_num, R2.out, X6.out⟩
                case measure => simp [intOf]; omega
          · obtain rfl : k = groups.length := by omega
            have d2 : decide ((groups.length : Int) < (groups.length : Int)) = false := by simp
            have RT := Lib.hid (show Book.ok ⟨seq, next, cs cards, dead, grps groups⟩ = true by rw [← R.out, List.drop_of_length_le (by unfold grps; simp)]; rfl)
            go_wp2_with (fail)
            go_ret2
            rw [RT.out]
            exact ⟨_, rfl, X.out.S⟩
  case pos =>
    have d0 : decide (0 < (dead.length : Int)) = true := by simp; omega
    have d0n : decide (0 < dead.length) = true := decide_eq_true hdl
    obtain ⟨bd, od, hDA, hbd, hrd⟩ := HD.out.at hdl
    have e2 := hrd.belowB B0.out.1 hbd (dead.length - 1) (by omega) 2 _ rfl
    have hls := lastSeq_at hdl
    obtain ⟨x, hx⟩ : ∃ x, x = dead[dead.length - 1] := ⟨_, rfl⟩
    rw [← hx] at e2 hls
    obtain ⟨m, hm⟩ : ∃ m, m = dead.length - 1 := ⟨_, rfl⟩
    rw [← hm] at e2
    have hm1 : (dead.length : Int) - 1 = (m : Int) := by omega
    have hi1 : (0 : Int) ≤ (m : Int) := by omega
    have hi2 : (m : Int) < (dead.length : Int) := by omega
    have hbw : bd < w2.heap.size := Nat.lt_of_lt_of_le hbd B0.out.1.size
    have HLQ := Lib.hid hls
    have HNE := Lib.hid (show dead ≠ [] by intro e; rw [e] at hdl; simp at hdl)
    clear hrd hx hls hm hdl
    subst hDA
    by_cases h9 : x.seq ≤ seq
    case neg =>
      have RF := Lib.hid (ok_last (b := ⟨seq, next, cs cards, dead, grps groups⟩) (fun e => by
        rcases e with e | e
        · exact HNE.out e
        · have e2 : lastSeq dead ≤ seq := e
          rw [HLQ.out] at e2; exact h9 e2))
      have t9 : decide (seq < x.seq) = true := by simp; omega
      clear h9
      go_wp2_with (fail)
      refine wp_region_grow (by kernel_rfl) (by kernel_rfl) ?_
      repeat (go_big_quiet_step ((first | (fail))))
      refine wpQuiet_nil ?_
      intro w3 hb3
      have S3 := Lib.hid (B0.out.1.trans (hb3.mono B0.out.1.size))
      clear hb3 q0 q3 e2
      go_wp2_with (fail)
      go_ret2
      rw [RF.out]
      exact ⟨none, rfl, S3.out⟩
    case pos =>
    have t9 : decide (seq < x.seq) = false := by simp; omega
    have HLS := Lib.hid (show dead = [] ∨ lastSeq dead ≤ seq from .inr (by rw [HLQ.out]; exact h9))
    clear h9
    go_wp2_with (fail)
    refine wp_region_grow (by kernel_rfl) (by kernel_rfl) ?_
    repeat (go_big_quiet_step ((first | (fail))))
    refine wpQuiet_nil ?_
    intro w3 hb3
    replace B0 := Lib.hid (B0.out.step hb3)
    clear hb3 q0 q3 bl e2
    have q0 := B0.out.2.cell (i := 0) rfl
    have q2 := B0.out.2.cell (i := 2) rfl
    have bl := B0.out.2.lt
    go_wp2_with (fail)
    have b4 := (Below.refl w3.heap.size w3).alloc (Nat.le_refl _) (.cells #[.int .i64 seq, .pointer p, .slice none 0 0] 94)
    have A1 := Lib.hid (B0.out.step b4)
    have G1 := Lib.hid (Blk.new w3 94 #[.int .i64 seq, .pointer p, .slice none 0 0])
    obtain ⟨g, hg⟩ : ∃ g, g = w3.heap.size := ⟨_, rfl⟩
    have hgw := Lib.hid (show w.heap.size < g by rw [hg]; exact B0.out.2.lt)
    obtain ⟨w4, hw4⟩ : ∃ x, x = (w3.alloc (.cells #[.int .i64 seq, .pointer p, .slice none 0 0] 94)) := ⟨_, rfl⟩
    rw [← hw4] at A1 G1 ⊢
    rw [← hg] at G1 ⊢
    clear b4 hg hw4 B0 q0 q2 bl
    go_loopw [8, 10, 66] (fun v _ i wr => ∃ k : Nat, k ≤ cards.length ∧ i = .int .i64 k ∧ Hid (wr.ownsRow (g + 1) 3 1 v k ((bids (cards.take k)).flatMap ic)) ∧ Hid (At w wr #[.int .i64 seq, .int .i64 next, .slice A cards.length a, .slice (some ⟨bd, od, none⟩) dead.length d, .slice G groups.length gc]) ∧ Hid (Blk wr g #[.int .i64 seq, .pointer p, .slice none 0 0])) (fun _ _ i _ => cards.length - (intOf i).toNat)
    case atStart => exact ⟨0, by omega, rfl, World.ownsRow_nil _ _ _ _, A1.out, G1.out⟩
    case round =>
      clear A1 G1
      obtain ⟨k, hk, rfl, O, A1, G1⟩ := hrel
      by_cases hlt : k < cards.length
      · have d1 : decide ((k : Int) < (cards.length : Int)) = true := by simp; omega
        obtain ⟨b, off, hA, hb, hat⟩ := CQ.at HC.out hlt
        have HAT := Lib.hid hat
        have TK := Lib.hid (bids_snoc hlt)
        obtain ⟨x, hx⟩ : ∃ x, x = cards[k] := ⟨_, rfl⟩
        rw [← hx] at HAT TK
        have hi1 : (0 : Int) ≤ (k : Int) := by omega
        have hi2 : (k : Int) < (cards.length : Int) := by omega
        have hgr := G1.out.lt
        clear hat hx
        subst hA
        obtain ⟨A8, c8, rfl, -⟩ := own_form O.out
        go_wp2_with (with_reducible refine slG 56 _ rfl ?_)
        refine Stop.mk (wlG (by rfl) _ _ rfl b (off + k * 27) rfl x.c.arr (HAT.out _ A1.out.1) strC x.size ?_)
        go_wp2_with (with_reducible refine stS 56 _ _ rfl rfl ?_)
        refine Stop.mk (wsB rfl _ _ _ rfl wr.heap.size _ rfl rfl _ (Blk.new _ _ _) strC x.size (by rw [x.size]; rfl) x.ones ?_)
        intro w5 hb5 hk5
        have k5 := (((Below.refl wr.heap.size wr).alloc (Nat.le_refl _) (.cells zcA 56)).trans (hk5.oneB (by simp) (Nat.le_refl _)))
        have A2 := Lib.hid (A1.out.step k5)
        have G2 := Lib.hid (G1.out.below k5 G1.out.lt)
        have O2 := Lib.hid (own_below O.out k5)
        have p0 := hb5.cell x.c.arr_head.1
        have hl5 := hb5.lt
        have hg5 := G2.out.lt
        clear hb5 hk5 k5 A1 G1 O
        go_wp2_with ((at_builtin; refine Stop.out ?_))
        refine Stop.mk (wpList_app _ rfl _ _ elemInt rfl (g + 1) (.slice A8 k c8) k _ rfl (own_below O2.out ((Below.refl _ _).alloc (Nat.le_refl _) _)) _ 1 1 (ic x.c.id) rfl (Src.new w5 (ic x.c.id) _ 1 rfl) (by simp [ic, Value.oneCell']) (by omega) (by simp; omega) ?_)
        intro v6 w6 own6 _ hb6 _
        have k6 : Below (g + 1) w5 w6 := Below.trans (b := w5.alloc (.cells #[.int .i64 x.c.id] 3)) ((Below.refl _ _).alloc (by omega) _) hb6
        have A3 := Lib.hid (show At w w6 _ from ⟨A2.out.1.trans (k6.mono (by have := hgw.out; omega)), A2.out.2.below k6 (by have := hgw.out; omega)⟩)
        have G3 := Lib.hid (G2.out.below k6 (by omega))
        have O3 := Lib.hid (show w6.ownsRow (g + 1) 3 1 v6 (k + 1) ((bids (cards.take (k + 1))).flatMap ic) by rw [TK.out, List.flatMap_append, List.flatMap_cons, List.flatMap_nil, List.append_nil]; exact own6)
        clear own6 hb6 k6 A2 G2 O2 p0
        go_wp2_with (fail)
        go_roundw
        case rel => exact ⟨k + 1, by omega, by go_num, O3.out, A3.out, G3.out⟩
        case measure => simp [intOf]; omega
      · obtain rfl : k = cards.length := by omega
        have d1 : decide ((cards.length : Int) < (cards.length : Int)) = false := by simp
        have O2 := O.out
        rw [List.take_length, ← bids_len cards] at O2
        obtain ⟨A8, c8, rfl, I8⟩ := In.of_own (k := 1) (cs := ic) (fun _ => rfl) O2 (by rw [bids_len]; exact hS3)
        have AP := Lib.hid (apart_of_own O2 rfl)
        have q4 := A1.out.2.cell (i := 4) rfl
        have bl := A1.out.2.lt
        have X := Lib.hid (show BK w wr g wr.heap.size seq p (.slice none 0 0) 0 A8 c8 (bids cards) from ⟨A1.out.1, by have := hgw.out; omega, G1.out.lt, Nat.le_refl _, G1.out, ⟨[], World.ownsRow_nil _ _ _ _⟩, I8⟩)
        have hI1 := I8.1
        have hI2 := I8.2.1
        have hI3 := I8.2.2.1
        obtain ⟨ids, hids⟩ : ∃ x, x = bids cards := ⟨_, rfl⟩
        have HID := Lib.hid hids
        rw [← hids] at X AP hI1 hI3 ⊢
        obtain ⟨B2, hB2⟩ : ∃ x, x = wr.heap.size := ⟨_, rfl⟩
        rw [← hB2] at X AP
        clear O O2 I8 G1 hids
        go_wp2_with (fail)
        clear q4 bl A1 hB2
        go_loopw [12, 79] (fun _ i wr => ∃ (k : Nat) (v : Value), k ≤ groups.length ∧ i = .int .i64 k ∧ Hid (((grps groups).drop k).all (fun g => memOk (cs cards) g.mem) = Book.ok ⟨seq, next, cs cards, dead, grps groups⟩) ∧ Hid (BK w wr g B2 seq p v k A8 c8 ids)) (fun _ i _ => groups.length - (intOf i).toNat)
        case atStart => exact ⟨0, .slice none 0 0, by omega, rfl, ok_rest (b := ⟨seq, next, cs cards, dead, grps groups⟩) HSH.out HSQ.out HGR.out HLS.out, X.out⟩
        case round =>
          clear X
          obtain ⟨k, v, hk2, rfl, R, X⟩ := hrel
          have hz := X.out.S.size
          by_cases hlt2 : k < groups.length
          · have d2 : decide ((k : Int) < (groups.length : Int)) = true := by simp; omega
            obtain ⟨b, off, hA, hb, hrow⟩ := HGG.out.at hlt2
            have hmemk := List.getElem_mem hlt2
            have e0 := (X.out.S.cell (p := ⟨b, off + k * 2, none⟩) hb).trans (grp_cells hrow hlt2).1
            have e1 := (X.out.S.cell (p := ⟨b, off + k * 2 + 1, none⟩) hb).trans (grp_cells hrow hlt2).2
            have HI := Lib.hid (HGM.out _ hmemk)
            have hml := HM.out _ hmemk
            have FIN := Lib.hid (mem_fin (b := ⟨seq, next, cards, dead, groups, none, 0, none, 0, none, 0⟩) hlt2 HSH.out HGR.out R.out)
            obtain ⟨x, hx⟩ : ∃ x, x = groups[k] := ⟨_, rfl⟩
            have hx2 : (BQ.groups ⟨seq, next, cards, dead, groups, none, 0, none, 0, none, 0⟩)[k]'hlt2 = x := hx.symm
            rw [hx2] at FIN
            rw [← hx] at e0 e1 HI hml
            have FIN2 := Lib.hid (show (alongM x.mem ids ≠ [] → Book.ok ⟨seq, next, cs cards, dead, grps groups⟩ = false) ∧ (alongM x.mem ids = [] → ((grps groups).drop (k + 1)).all (fun g => memOk (cs cards) g.mem) = Book.ok ⟨seq, next, cs cards, dead, grps groups⟩) by rw [HID.out]; exact FIN.out)
            have hi1 : (0 : Int) ≤ (k : Int) := by omega
            have hi2 : (k : Int) < (groups.length : Int) := by omega
            have hbw : b < wr.heap.size := by omega
            clear hrow hx hx2 hmemk R FIN
            subst hA
            obtain ⟨t, ht⟩ : ∃ t, t = wr.heap.size := ⟨_, rfl⟩
            have bt := (Below.refl wr.heap.size wr).alloc (Nat.le_refl _) (.cells #[.int .i64 x.no, .slice x.A x.mem.length x.c] 65)
            go_wp2_with (fail)
            refine (c_ids_Minus x.mem ids x.A A8 x.c c8 _ ((HI.out.below X.out.S).alloc _) (X.out.ids.alloc _) hml).mono ?_
            rintro e w5 ⟨v5, rfl, own5, hb5⟩
            obtain ⟨A5, c5, rfl, -⟩ := own_form own5
            have T5 := Lib.hid ((Blk.new wr 65 #[.int .i64 x.no, .slice x.A x.mem.length x.c]).below hb5 (by simp))
            have b5 := bt.trans (hb5.mono (by simp))
            have X5 := Lib.hid (show BK w w5 g B2 seq p v k A8 c8 ids from by
              obtain ⟨xs, hxs⟩ := X.out.own
              exact ⟨X.out.S.trans (b5.mono hz), X.out.lo, X.out.hg, Nat.le_trans X.out.hB b5.size, X.out.blk.below b5 X.out.blk.lt, ⟨xs, own_below hxs b5⟩, X.out.ids.below b5⟩)
            rw [← ht] at T5 ⊢
            have hgt := Lib.hid (show g < t by rw [ht]; exact X.out.blk.lt)
            have HI5 := Lib.hid (HI.out.below X5.out.S)
            clear own5 hb5 b5 bt X ht e0 e1 HI hz
            by_cases hal : alongM x.mem ids = []
            case neg =>
              have RF := Lib.hid (FIN2.out.1 hal)
              have l0 : 0 < (alongM x.mem ids).length := List.length_pos_iff.2 hal
              have l1 : decide (0 < ((alongM x.mem ids).length : Int)) = true := by simp; exact l0
              have l2 : decide (0 < (alongM x.mem ids).length) = true := decide_eq_true l0
              clear hal l0
              go_wp2_with (fail)
              go_ret2
              rw [RF.out]
              exact ⟨none, rfl, X5.out.S⟩
            case pos =>
              have R2 := Lib.hid (FIN2.out.2 hal)
              rw [hal]
              clear hal FIN2
              have tl := T5.out.lt
              obtain ⟨xs0, hxs0⟩ := X5.out.own
              have HXS := Lib.hid hxs0
              clear hxs0
              go_wp2_with (fail)
              refine wp_region_relM (fun j z => if j = 9 then (∃ (A : Option Addr) (n c : Nat), z = .slice A n c) else if j = 10 then (∃ (A : Option Addr) (n c : Nat), z = .agg #[.int .i64 x.no, .slice A n c]) else VB [some (.pointer (some ⟨g, 0, none⟩)), some (.pointer (some ⟨g, 0, none⟩)), some (.pointer (some ⟨g, 0, none⟩)), some (.pointer (some ⟨g, 2, none⟩)), some v, some (.pointer (some ⟨t, 0, none⟩)), some (.int .i64 x.no), some (.pointer (some ⟨t, 1, none⟩)), some (.slice x.A x.mem.length x.c), none, none, none, none, some (.pointer (some ⟨g, 0, none⟩)), some (.pointer (some ⟨g, 2, none⟩)), none] j z)
                (DM [(9, 8), (10, 9), (10, 6), (11, 10)] 4 11 12 15 w g B2 #[.int .i64 seq, .pointer p, v] 2 65 2 v k xs0 GrpRow (fun W => InI W A8 c8 ids) (fun W => Blk W t #[.int .i64 x.no, .slice x.A x.mem.length x.c] ∧ InI W x.A x.c x.mem)) 106 (by kernel_rfl) (by kernel_rfl) rfl ?_ ?_ ?_
              · intro u w' hb hh
                exact DM.start (X5.out.S.trans (hb.mono X5.out.S.size)) X5.out.lo X5.out.hg (Nat.le_trans X5.out.hB hb.size) (X5.out.blk.below hb X5.out.blk.lt) (own_below HXS.out hb) (X5.out.ids.below hb) ⟨T5.out.below hb T5.out.lt, HI5.out.below hb⟩
              · refine ⟨?_, ?_, ?_, ?_, ?_, ?_, ?_, ?_, ?_, ?_, ?_, ?_, ?_, ?_, ?_, ?_, trivial⟩
                all_goals
                  rintro L u W1 hM hL hd
                  have M := Lib.hid hM
                  clear hM
                  simp [DepsM, Region.binds, VB] at hd
                  simp only [putDeps, dstOf, Region.binds]
                case refine_5 =>
                  have hu3 : u 3 = .pointer (some ⟨g, 2, none⟩) := by first | exact hd.2 | exact hd.1.2
                  have p1 := (M.out.blk0 (M.out.noS (M.out.noL hL))).cell (i := 2) rfl
                  go_wp2_with (fail)
                  exact EndM.mk rfl ⟨rfl, M.out.pure (by decide) (by decide) (by decide) (by simp)⟩
                case refine_7 =>
                  have hu5 : u 5 = .pointer (some ⟨t, 0, none⟩) := by first | exact hd.2 | exact hd.1.2
                  have r0 := (M.out.top (M.out.noA (M.out.no (k := 10) (by simp) (M.out.no (k := 6) (by simp) hL)))).1.cell (i := 0) rfl
                  go_wp2_with (fail)
                  exact EndM.mk rfl ⟨rfl, M.out.pure (by decide) (by decide) (by decide) (by simp)⟩
                case refine_9 =>
                  have hu7 : u 7 = .pointer (some ⟨t, 1, none⟩) := by first | exact hd.2 | exact hd.1.2
                  have r0 := (M.out.top (M.out.noA (M.out.no (k := 10) (by simp) (M.out.no (k := 9) (by simp) (M.out.no (k := 8) (by simp) hL))))).1.cell (i := 1) rfl
                  go_wp2_with (fail)
                  exact EndM.mk rfl ⟨rfl, M.out.pure (by decide) (by decide) (by decide) (by simp)⟩
                case refine_10 =>
                  have hu8 : u 8 = .slice x.A x.mem.length x.c := by first | exact hd.2 | exact hd.1.2
                  have h8 : L 8 = true := by first | exact hd.1 | exact hd.1.1
                  have hb11 := M.out.no (i := 11) (k := 10) (by simp) (M.out.no (k := 9) (by simp) hL)
                  have tp := M.out.top (M.out.noA hb11)
                  go_wp2_with (go_at_call 48; refine (c_CloneInts x.mem x.A x.c _ tp.2).mono ?_; rintro e w9 ⟨v9, rfl, own9, hb9⟩)
                  obtain ⟨A9, c9, rfl, -⟩ := own_form own9
                  exact EndM.mk rfl ⟨⟨_, _, _, rfl⟩, M.out.call (by decide) (by decide) (by decide) hb11 hb9 (M.out.keep.below hb9) ⟨tp.1.below hb9 tp.1.lt, tp.2.below hb9⟩ (by simpa using h8)⟩
                case refine_11 =>
                  obtain ⟨⟨h6, hu6⟩, h9, A9, n9, c9, hu9⟩ := hd
                  rw [hu6, hu9]
                  go_wp2_with (fail)
                  exact EndM.mk rfl ⟨⟨_, _, _, rfl⟩, M.out.pure (by decide) (by decide) (by decide) (by simp [h6, h9])⟩
                case refine_12 =>
                  obtain ⟨h10, A9, n9, c9, hu10⟩ := hd
                  rw [hu10]
                  have hA := M.out.noA hL
                  have tp := M.out.top hA
                  go_wp2_with (with_reducible refine stop_lit _ _ rfl ?_)
                  refine Stop.mk (wpList_lit1 rfl _ _ _ rfl elemGrp (by omega) #[.int .i64 x.no, .slice A9 n9 c9] rfl rfl ?_)
                  have bl := (Below.refl W1.heap.size W1).alloc (Nat.le_refl _) (.cells #[.int .i64 x.no, .slice A9 n9 c9] 65)
                  exact EndM.mk rfl ⟨trivial, M.out.make (news := [.int .i64 x.no, .slice A9 n9 c9]) (by decide) (by decide) ⟨_, _, _, _, rfl⟩ hL rfl (M.out.keep.below bl) ⟨tp.1.below bl tp.1.lt, tp.2.below bl⟩ (by simpa using h10)⟩
                case refine_13 =>
                  have h4 := hd.1.1
                  have hu4 := hd.1.2
                  have h11 : L 11 = true := by first | exact hd.2 | exact hd.2.1
                  obtain ⟨q, nn, hnn, e6', hsrc⟩ := M.out.lit h11 hL
                  have own := M.out.own0 hL
                  rw [hu4, e6']
                  go_wp2_with ((at_builtin; refine Stop.out ?_))
                  refine Stop.mk (wpList_app _ rfl _ _ elemGrp rfl B2 v k _ rfl own _ 1 1 nn rfl hsrc hnn.one (by omega) M.out.hB ?_)
                  intro v7 w7 own7 _ hb7 _
                  exact EndM.mk rfl ⟨trivial, M.out.app (by decide) (by decide) h11 h4 hL hnn own7 hb7 (M.out.keep.belowB AP.out hb7) (by simp)⟩
                case refine_16 =>
                  have hu14 : u 14 = .pointer (some ⟨g, 2, none⟩) := by first | exact hd.1.2
                  have h12 : L 12 = true := by first | exact hd.2 | exact hd.2.1
                  have own := M.out.own
                  rw [if_pos h12] at own
                  obtain ⟨nn, -, own⟩ := own
                  obtain ⟨A5', c5', e5, -⟩ := own_form own
                  have s9 := (M.out.blk0 hL).cell (i := 2) rfl
                  have sf := fun i => (M.out.blk0 hL).frozen i
                  have slt := (M.out.blk0 hL).lt
                  have PUT := Lib.hid (M.out.put (z := undef) (by decide) (by decide) h12 hL (M.out.keep.put AP.out 2 (u 12)) (by simp))
                  rw [e5] at PUT
                  rw [e5, hu14]
                  clear own
                  go_wp2_with (fail)
                  exact EndM.mk0 rfl ⟨trivial, PUT.out⟩
                all_goals
                  go_wp2_with (fail)
                  exact EndM.mk rfl ⟨by first | exact hd.2 | rfl | trivial, M.out.pure (by decide) (by decide) (by decide) (by simp)⟩
              · rintro u W1 hv hM
                obtain ⟨b7, nn, hnn, o7⟩ := hM.done (by simp) (by simp)
                have X6 := Lib.hid (show BK w W1 g B2 seq p (u 12) (k + 1) A8 c8 ids from ⟨hM.S, X5.out.lo, X5.out.hg, hM.hB, b7, ⟨_, o7⟩, hM.keep⟩)
                clear hv hM b7 o7
                simp only [putAll, Act.put, Nat.reduceAdd, List.setIfInBounds_toArray, List.set_cons_zero, List.set_cons_succ]
                go_wp2_with (fail)
                go_roundw
                case rel => exact ⟨k + 1, u 12, by omega, by go_num, R2.out, X6.out⟩
                case measure => simp [intOf]; omega
          · obtain rfl : k = groups.length := by omega
            have d2 : decide ((groups.length : Int) < (groups.length : Int)) = false := by simp
            have RT := Lib.hid (show Book.ok ⟨seq, next, cs cards, dead, grps groups⟩ = true by rw [← R.out, List.drop_of_length_le (by unfold grps; simp)]; rfl)
            go_wp2_with (fail)
            go_ret2
            rw [RT.out]
            exact ⟨_, rfl, X.out.S⟩
theorem c_book_Load (b : BQ) (w : World) (h : b.at_ w) (hmem : ∀ x ∈ b.groups, x.mem.length ≤ 1000000) (hgl : b.groups.length ≤ 1000000) : Calls Tryd.prog 25 #[.agg b.arr] w (RetLoad w b.book.ok) :=
  book_Load b.seq b.next b.cards b.dead b.groups b.A b.a b.D b.d b.G b.g w h.cards h.dead h.groups h.mem h.fit hmem hgl
end Go.Proofs.YtldoedmclfbgpaaDoor
