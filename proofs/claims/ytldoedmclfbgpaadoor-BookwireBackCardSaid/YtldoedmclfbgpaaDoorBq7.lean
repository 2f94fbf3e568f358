/-
  The walk of chapter 18's Load: a shelf of plain data, the walk.
-/
import Derived.Test.YtldoedmclfbgpaaDoorBq4
namespace Go.Proofs.YtldoedmclfbgpaaDoor
open Go.RowKit

set_option maxRecDepth 10000 in
set_option maxHeartbeats 2000000 in
theorem c_shelf_Load (next : Int) (l : List CQ) (A : Option Addr) (c : Nat) (dead : List Dead) (D : Option Addr) (d : Nat) (w : World) (hc : In 27 CQ.cells w A c l) (hd : In 3 Dead.cells w D d dead) (hf : ∀ x ∈ l, ∀ y ∈ x.c.f, y.s.length ≤ 4294967000) :
    Calls Tryd.prog 45 #[.int .i64 next, .slice A l.length c, .slice D dead.length d] w (RetLoad w (shelfOk next (cs l) dead)) := by
  have hL := hc.1
  have hC := hc.2.1
  have hS := hc.2.2.1
  have hL2 := hd.1
  have hC2 := hd.2.1
  have hS2 := hd.2.2.1
  have HC := Lib.hid hc
  have HD := Lib.hid hd
  have HF := Lib.hid hf
  clear hc hd hf
  by_cases h0 : 1 ≤ next ∧ next ≤ 1073741824 ∧ l.length ≤ 48 ∧ dead.length ≤ 40
  case neg =>
    rw [shelf_bad (by rw [cs_len]; exact h0)]
    by_cases n1 : 1 ≤ next
    case neg =>
      have bn1 : decide (next < 1) = true := by simp; omega
      clear h0
      go_enter Tryd.func45, Tryd.ntmps45
      go_wp2_with (fail)
      go_ret2
      exact ⟨none, rfl, Below.refl _ _⟩
    case pos =>
    have bn1 : decide (next < 1) = false := by simp; omega
    by_cases n2 : next ≤ 1073741824
    case neg =>
      have bn2 : decide (1073741824 < next) = true := by simp; omega
      clear h0
      go_enter Tryd.func45, Tryd.ntmps45
      go_wp2_with (fail)
      go_ret2
      exact ⟨none, rfl, Below.refl _ _⟩
    case pos =>
    have bn2 : decide (1073741824 < next) = false := by simp; omega
    by_cases n3 : l.length ≤ 48
    case neg =>
      have bn3 : decide (48 < (l.length : Int)) = true := by simp; omega
      clear h0
      go_enter Tryd.func45, Tryd.ntmps45
      go_wp2_with (fail)
      go_ret2
      exact ⟨none, rfl, Below.refl _ _⟩
    case pos =>
    have bn3 : decide (48 < (l.length : Int)) = false := by simp; omega
    by_cases n4 : dead.length ≤ 40
    case neg =>
      have bn4 : decide (40 < (dead.length : Int)) = true := by simp; omega
      clear h0
      go_enter Tryd.func45, Tryd.ntmps45
      go_wp2_with (fail)
      go_ret2
      exact ⟨none, rfl, Below.refl _ _⟩
    case pos => exact absurd ⟨n1, n2, n3, n4⟩ h0
  case pos =>
  have HG := Lib.hid (shelf_good (next := next) (cards := cs l) (dead := dead) (by rw [cs_len]; exact h0))
  obtain ⟨n1, n2, n3, n4⟩ := h0
  have b1 : decide (next < 1) = false := by simp; omega
  have b2 : decide (1073741824 < next) = false := by simp; omega
  have b3 : decide (48 < (l.length : Int)) = false := by simp; omega
  have b4 : decide (40 < (dead.length : Int)) = false := by simp; omega
  go_enter Tryd.func45, Tryd.ntmps45
  go_wp2_with (fail)
  refine (c_shelf_New _).mono ?_
  rintro e w1 ⟨rfl, S1, hm1, hb1, hz1⟩
  obtain ⟨m, hm⟩ : ∃ m, m = w.heap.size := ⟨_, rfl⟩
  obtain ⟨s, hs⟩ : ∃ s, s = w.heap.size + 1 := ⟨_, rfl⟩
  rw [← hs] at hb1 ⊢
  rw [← hm] at hm1 hb1
  have HM1 := Lib.hid hm1
  have HB1 := Lib.hid hb1
  have HS1 := Lib.hid S1
  have hlo := Lib.hid (show w.heap.size ≤ m ∧ m < s by omega)
  have c0 := hb1.cell (i := 0) rfl
  have f0 := fun i => hb1.frozen i
  have l0 := hb1.lt
  clear hm hs S1 hm1 hb1 hz1
  go_wp2_with (fail)
  clear c0 f0 l0
  have X0 : SL w (w1.setCell ⟨s, 0, none⟩ (.int .i64 next)) s m next [] := by
    have k := kept_set w1 s 0 (.int .i64 next)
    exact ⟨HS1.out.trans (k.oneB HS1.out.size (by have := hlo.out; omega)), hlo.out.1, hlo.out.2, HB1.out.store 0 _, HM1.out.kept k HM1.out.lt (fun e => by injection e with e; have := hlo.out; omega)⟩
  have X := Lib.hid X0
  obtain ⟨wa, hwa⟩ : ∃ x, x = (w1.setCell ⟨s, 0, none⟩ (.int .i64 next)) := ⟨_, rfl⟩
  rw [← hwa] at X ⊢
  clear X0 HM1 HB1 HS1 hwa
  go_loopw [9, 11, 40] (fun v _ i wr => ∃ (k : Nat) (last : Int), k ≤ l.length ∧ i = .int .i64 k ∧ v = .int .i64 last ∧ Hid (0 ≤ last ∧ ∀ x ∈ cs (l.take k), x.id ≤ last) ∧ Hid (cardsOk next last ((cs l).drop k) = cardsOk next 0 (cs l)) ∧ Hid (SL w wr s m next (l.take k))) (fun _ _ i _ => l.length - (intOf i).toNat)
  case atStart => exact ⟨0, 0, by omega, rfl, rfl, ⟨by omega, (fun x hx => (by first | cases hx | simp at hx))⟩, rfl, X.out⟩
  case round =>
    clear X
    obtain ⟨k, last, hk, rfl, rfl, LA, R, X⟩ := hrel
    have hz := X.out.S.size
    by_cases hlt : k < l.length
    · have d1 : decide ((k : Int) < (l.length : Int)) = true := by simp; omega
      obtain ⟨b, off, hA, hb, hat⟩ := CQ.at HC.out hlt
      have HAT := Lib.hid hat
      have hmem := List.getElem_mem hlt
      have HFX := Lib.hid (HF.out _ hmem)
      have FIN := Lib.hid (card_fin (show (cardAt next last l[k].c && cardsOk next l[k].c.id ((cs l).drop (k + 1))) = cardsOk next 0 (cs l) by rw [← R.out, cardsOk_at (l := cs l) (k := k) (by rw [cs_len]; exact hlt), cs_get hlt]))
      have TK := Lib.hid (List.take_succ_eq_append_getElem hlt)
      obtain ⟨x, hx⟩ : ∃ x, x = l[k] := ⟨_, rfl⟩
      rw [← hx] at HAT HFX FIN TK
      have hi1 : (0 : Int) ≤ (k : Int) := by omega
      have hi2 : (k : Int) < (l.length : Int) := by omega
      clear hat hx hmem R
      subst hA
      go_wp2_with (with_reducible refine slG 56 _ rfl ?_)
      refine Stop.mk (wlG (by rfl) _ _ rfl b (off + k * 27) rfl x.c.arr (HAT.out _ X.out.S) strC x.size ?_)
      go_wp2_with (with_reducible refine stS 56 _ _ rfl rfl ?_)
      refine Stop.mk (wsB rfl _ _ _ rfl wr.heap.size _ rfl rfl _ (Blk.new _ _ _) strC x.size (by rw [x.size]; rfl) x.ones ?_)
      intro w2 hb2 hk2
      have X2 := Lib.hid ((X.out.below ((Below.refl wr.heap.size wr).alloc (Nat.le_refl _) _)).kept (g := wr.heap.size) hz (by have := X.out.blk.lt; omega) (by have := X.out.map.lt; omega) hk2)
      have hgs := Lib.hid (show s < wr.heap.size ∧ m < wr.heap.size from ⟨X.out.blk.lt, X.out.map.lt⟩)
      obtain ⟨g, hg⟩ : ∃ g, g = wr.heap.size := ⟨_, rfl⟩
      rw [← hg] at hb2 hgs ⊢
      have G2 := Lib.hid hb2
      clear hb2 hk2 hg X hz
      go_wp2_with (with_reducible refine stop_load 56 _ rfl rfl ?_)
      refine Stop.mk (wpList_loadB rfl _ _ rfl g rfl _ G2.out strC x.size ?_)
      go_wp2_with (fail)
      refine (c_card_Check x.c _ x.wf HFX.out).mono ?_
      rintro e w3 ⟨rfl, hb3⟩
      have X3 := Lib.hid (X2.out.below hb3)
      have G3 := Lib.hid (G2.out.below hb3 G2.out.lt)
      have q0 := G3.out.cell x.c.arr_head.1
      have hgl := G3.out.lt
      have S3 := Lib.hid X3.out.S
      clear X2 G2 hb3
      cases hok : x.c.ok
      · have RF := Lib.hid (show shelfOk next (cs l) dead = false by rw [HG.out, FIN.out.1 hok]; rfl)
        clear hok
        go_wp2_with (fail)
        go_ret2
        rw [RF.out]
        exact ⟨none, rfl, S3.out⟩
      · by_cases h1 : last < x.c.id
        case neg =>
          have t1 : decide (x.c.id ≤ last) = true := by simp; omega
          have RF := Lib.hid (show shelfOk next (cs l) dead = false by rw [HG.out, FIN.out.2.1 (by omega)]; rfl)
          clear h1 hok
          go_wp2_with (fail)
          go_ret2
          rw [RF.out]
          exact ⟨none, rfl, S3.out⟩
        case pos =>
        have t1 : decide (x.c.id ≤ last) = false := by simp; omega
        by_cases h2 : x.c.id < next
        case neg =>
          have t2 : decide (next ≤ x.c.id) = true := by simp; omega
          have RF := Lib.hid (show shelfOk next (cs l) dead = false by rw [HG.out, FIN.out.2.2.1 (by omega)]; rfl)
          clear h1 h2 hok
          go_wp2_with (fail)
          go_ret2
          rw [RF.out]
          exact ⟨none, rfl, S3.out⟩
        case pos =>
        have t2 : decide (next ≤ x.c.id) = false := by simp; omega
        have R2 := Lib.hid (FIN.out.2.2.2 hok h1 h2)
        have FNN := Lib.hid (find_none (l := l.take k) (k := x.c.id) (hasCard_above LA.out.2 h1))
        have LA2 : Hid (0 ≤ x.c.id ∧ ∀ y ∈ cs (l.take (k + 1)), y.id ≤ x.c.id) := by
          have la := LA.out
          refine ⟨by omega, fun y hy => ?_⟩
          unfold cs at hy
          rw [TK.out, List.map_append, List.mem_append] at hy
          rcases hy with hy | hy
          · have := la.2 y hy; omega
          · simp at hy; rw [hy]; exact Int.le_refl _
        clear h1 h2 hok
        have hlk : (l.take k).length = k := by rw [List.length_take]; omega
        go_wp2_with (fail)
        refine wp_region_relM (VB [some (.pointer (some ⟨s, 0, none⟩)), some (.pointer (some ⟨s, 0, none⟩)), some (.pointer (some ⟨s, 1, none⟩)), some (.map (some m)), some (.pointer (some ⟨g, 0, none⟩)), some (.int .i64 x.c.id), some (.agg x.c.arr), none]) (IM w s m g next (l.take k) x) 128 (by kernel_rfl) (by kernel_rfl) rfl ?_ ?_ ?_
        · intro u w' hb hh
          exact ⟨X3.out.below hb, G3.out.below hb G3.out.lt⟩
        · refine ⟨?_, ?_, ?_, ?_, ?_, ?_, ?_, ?_, trivial⟩
          all_goals
            rintro L u W1 hM hL hd
            have M := Lib.hid hM
            clear hM
            simp [DepsM, Region.binds, VB] at hd
            simp only [putDeps, dstOf, Region.binds]
          case refine_4 =>
            obtain ⟨-, hu2⟩ := hd
            have p1 := M.out.sl.blk.cell (i := 1) rfl
            go_wp2_with (fail)
            exact EndM.mk rfl ⟨rfl, M.out.pure (by decide)⟩
          case refine_6 =>
            obtain ⟨-, hu4⟩ := hd
            have p1 := M.out.box.cell x.c.arr_head.1
            go_wp2_with (fail)
            exact EndM.mk rfl ⟨rfl, M.out.pure (by decide)⟩
          case refine_7 =>
            go_wp2_with (with_reducible refine stop_load 56 _ rfl rfl ?_)
            refine Stop.mk (wpList_loadB rfl _ _ rfl g rfl _ M.out.box strC x.size ?_)
            exact EndM.mk rfl ⟨rfl, M.out.pure (by decide)⟩
          case refine_8 =>
            obtain ⟨⟨-, hu3⟩, ⟨-, hu5⟩, ⟨-, hu6⟩, -⟩ := hd
            rw [hu3, hu5, hu6]
            go_wp2_with (with_reducible refine stop_mapUpd _ _ _ _ rfl ?_)
            refine Stop.mk (wpList_mapUpdI rfl _ _ _ _ rfl _ _ Tryd.underlying107 Tryd.underlying3 m _ _ rfl x.c.id rfl (.agg x.c.arr) rfl (M.out.sl0 hL).map FNN.out ?_)
            intro w9 hm9 hk9
            refine EndM.mk0 rfl ⟨trivial, ⟨?_, M.out.box.kept hk9 M.out.box.lt (fun e => by injection e with e; have := hgs.out; omega)⟩⟩
            rw [upd_same, if_pos rfl]
            exact (M.out.sl0 hL).ins hm9 hk9
          all_goals
            go_wp2_with (fail)
            exact EndM.mk rfl ⟨by first | exact hd.2 | rfl | trivial, M.out.pure (by decide)⟩
        · rintro u W1 hv hM
          have X4 := Lib.hid (show SL w W1 s m next (l.take (k + 1)) by rw [TK.out]; exact hM.sl)
          clear hv hM
          simp only [putAll, Act.put, Nat.reduceAdd, List.setIfInBounds_toArray, List.set_cons_zero, List.set_cons_succ]
          go_wp2_with (fail)
          go_roundw
          case rel => exact ⟨k + 1, x.c.id, by omega, by go_num, rfl, LA2.out, R2.out, X4.out⟩
          case measure => simp [intOf]; omega
    · obtain rfl : k = l.length := by omega
      have d1 : decide ((l.length : Int) < (l.length : Int)) = false := by simp
      have HG2 := Lib.hid (show shelfOk next (cs l) dead = deadsOk next (cs l) [] 0 dead by rw [HG.out, ← R.out, List.drop_of_length_le (by rw [cs_len]; exact Nat.le_refl _)]; rfl)
      have X2 := Lib.hid (show SL w wr s m next l by have := X.out; rwa [List.take_length] at this)
      clear R X HG LA hlt hz
      have Y := Lib.hid (show SD w wr s m next l (.slice none 0 0) [] from ⟨X2.out.S, X2.out.lo, X2.out.ms, X2.out.blk, X2.out.map, World.ownsRow_nil _ _ _ _⟩)
      clear X2
      go_wp2_with (fail)
      go_loopw [12, 14, 15, 16, 71] (fun v _ _ _ i wr => ∃ (k : Nat) (last : Int) (sv : Value), k ≤ dead.length ∧ i = .int .i64 k ∧ v = .int .i64 last ∧ Hid (deadsOk next (cs l) (dead.take k) last (dead.drop k) = deadsOk next (cs l) [] 0 dead) ∧ Hid (SD w wr s m next l sv (dead.take k))) (fun _ _ _ _ i _ => dead.length - (intOf i).toNat)
      case atStart => exact ⟨0, 0, .slice none 0 0, by omega, rfl, rfl, rfl, Y.out⟩
      case round =>
        clear Y
        obtain ⟨k, last, sv, hk, rfl, rfl, R, X⟩ := hrel
        have hz := X.out.S.size
        by_cases hlt : k < dead.length
        · have d2 : decide ((k : Int) < (dead.length : Int)) = true := by simp; omega
          obtain ⟨b, off, hA, hb, hrow⟩ := HD.out.at hlt
          have e0 := hrow.belowB X.out.S hb k hlt 0 _ rfl
          have e1 := hrow.belowB X.out.S hb k hlt 1 _ rfl
          have e2 := hrow.belowB X.out.S hb k hlt 2 _ rfl
          simp only [Nat.add_zero] at e0
          have FIN := Lib.hid (dead_fin' ((deadsOk_at hlt last).symm.trans R.out))
          have TK := Lib.hid (List.take_succ_eq_append_getElem hlt)
          obtain ⟨x, hx⟩ : ∃ x, x = dead[k] := ⟨_, rfl⟩
          rw [← hx] at e0 e1 e2 FIN TK
          have hi1 : (0 : Int) ≤ (k : Int) := by omega
          have hi2 : (k : Int) < (dead.length : Int) := by omega
          have hbw : b < wr.heap.size := by omega
          clear hrow hx R
          subst hA
          obtain ⟨g, hg⟩ : ∃ g, g = wr.heap.size := ⟨_, rfl⟩
          have S3 := Lib.hid (show Below w.heap.size w (wr.alloc (.cells #[.int .i64 x.id, .int .i64 x.ver, .int .i64 x.seq] 60)) from X.out.S.trans (((Below.refl wr.heap.size wr).alloc (Nat.le_refl _) _).mono hz))
          cases hat : deadAt next last x
          · have RF := Lib.hid (show shelfOk next (cs l) dead = false by rw [HG2.out, FIN.out.1 hat])
            have HN := Lib.hid (show ¬ (1 ≤ x.id ∧ x.id < next ∧ 1 ≤ x.ver ∧ x.ver ≤ 1099511627776 ∧ last ≤ x.seq ∧ x.seq ≤ 1099511627776) by unfold deadAt at hat; simpa only [decide_eq_false_iff_not] using hat)
            clear hat hg
            by_cases m1 : 1 ≤ x.id
            case neg =>
              have bm1 : decide (x.id < 1) = true := by simp; omega
              clear HN
              go_wp2_with (fail)
              go_ret2
              rw [RF.out]
              exact ⟨none, rfl, S3.out⟩
            case pos =>
            have bm1 : decide (x.id < 1) = false := by simp; omega
            by_cases m2 : x.id < next
            case neg =>
              have bm2 : decide (next ≤ x.id) = true := by simp; omega
              clear HN
              go_wp2_with (fail)
              go_ret2
              rw [RF.out]
              exact ⟨none, rfl, S3.out⟩
            case pos =>
            have bm2 : decide (next ≤ x.id) = false := by simp; omega
            by_cases m3 : 1 ≤ x.ver
            case neg =>
              have bm3 : decide (x.ver < 1) = true := by simp; omega
              clear HN
              go_wp2_with (fail)
              go_ret2
              rw [RF.out]
              exact ⟨none, rfl, S3.out⟩
            case pos =>
            have bm3 : decide (x.ver < 1) = false := by simp; omega
            by_cases m4 : x.ver ≤ 1099511627776
            case neg =>
              have bm4 : decide (1099511627776 < x.ver) = true := by simp; omega
              clear HN
              go_wp2_with (fail)
              go_ret2
              rw [RF.out]
              exact ⟨none, rfl, S3.out⟩
            case pos =>
            have bm4 : decide (1099511627776 < x.ver) = false := by simp; omega
            by_cases m5 : last ≤ x.seq
            case neg =>
              have bm5 : decide (x.seq < last) = true := by simp; omega
              clear HN
              go_wp2_with (fail)
              go_ret2
              rw [RF.out]
              exact ⟨none, rfl, S3.out⟩
            case pos =>
            have bm5 : decide (x.seq < last) = false := by simp; omega
            by_cases m6 : x.seq ≤ 1099511627776
            case neg =>
              have bm6 : decide (1099511627776 < x.seq) = true := by simp; omega
              clear HN
              go_wp2_with (fail)
              go_ret2
              rw [RF.out]
              exact ⟨none, rfl, S3.out⟩
            case pos => exact absurd ⟨m1, m2, m3, m4, m5, m6⟩ HN.out
          · obtain ⟨a1, a2, a3, a4, a5, a6⟩ := (show 1 ≤ x.id ∧ x.id < next ∧ 1 ≤ x.ver ∧ x.ver ≤ 1099511627776 ∧ last ≤ x.seq ∧ x.seq ≤ 1099511627776 by unfold deadAt at hat; simpa only [decide_eq_true_eq] using hat)
            have t1 : decide (x.id < 1) = false := by simp; omega
            have t2 : decide (next ≤ x.id) = false := by simp; omega
            have t3 : decide (x.ver < 1) = false := by simp; omega
            have t4 : decide (1099511627776 < x.ver) = false := by simp; omega
            have t5 : decide (x.seq < last) = false := by simp; omega
            have t6 : decide (1099511627776 < x.seq) = false := by simp; omega
            have HAT := Lib.hid hat
            clear a1 a2 a3 a4 a5 a6 hat
            go_wp2_with (fail)
            have X3 := Lib.hid (X.out.below ((Below.refl wr.heap.size wr).alloc (Nat.le_refl _) (.cells #[.int .i64 x.id, .int .i64 x.ver, .int .i64 x.seq] 60)))
            have G3 := Lib.hid (Blk.new wr 60 #[.int .i64 x.id, .int .i64 x.ver, .int .i64 x.seq])
            rw [← hg] at G3 ⊢
            clear e0 e1 e2 X hg S3
            have p0 := G3.out.cell (i := 0) rfl
            have gl := G3.out.lt
            go_wp2_with (fail)
            refine (c_shelf_Get s m next l sv (dead.take k) x.id _ (X3.out.at_ (by rw [List.length_take]; omega))).mono ?_
            rintro e w4 ⟨cs9, rfl, z9, o9, hb4⟩
            have X4 := Lib.hid (X3.out.below hb4)
            have G4 := Lib.hid (G3.out.below hb4 G3.out.lt)
            clear X3 G3 hb4 p0 gl
            have HCS := Lib.hid (show cs9.size = 27 ∧ cs9.all (·.oneCell') = true from ⟨z9, o9⟩)
            clear z9 o9
            obtain ⟨E, hE⟩ : ∃ E, E = getE (l.map CQ.c) (dead.take k) x.id := ⟨_, rfl⟩
            rw [← hE]
            have HE := Lib.hid hE
            clear hE
            go_wp2_with (with_reducible refine stS 56 _ _ rfl rfl ?_)
            refine Stop.mk (wsB rfl _ _ _ rfl w4.heap.size _ rfl rfl _ (Blk.new _ _ _) strC HCS.out.1 (by rw [HCS.out.1]; rfl) HCS.out.2 ?_)
            intro w5 hb5 hk5
            have hz4 := X4.out.S.size
            have k5 := (((Below.refl w4.heap.size w4).alloc (Nat.le_refl _) (.cells zcA 56)).trans (hk5.oneB (by simp) (Nat.le_refl _)))
            have X5 := Lib.hid (X4.out.below k5)
            have G5 := Lib.hid (G4.out.below k5 G4.out.lt)
            clear X4 G4 hb5 hk5 k5 HCS hz4
            have p0 := G5.out.cell (i := 0) rfl
            have p2 := G5.out.cell (i := 2) rfl
            have gl := G5.out.lt
            cases hcd : hasCard (l.map CQ.c) x.id
            case true =>
              have RF := Lib.hid (show shelfOk next (cs l) dead = false by rw [HG2.out, FIN.out.2.1 hcd])
              have e6 : (E == 6) = false := by rw [HE.out]; unfold getE; rw [hcd]; rfl
              clear hcd HE
              go_wp2_with (fail)
              go_ret2
              rw [RF.out]
              exact ⟨none, rfl, X5.out.S⟩
            case false =>
            cases hdd : hasDead (dead.take k) x.id
            case true =>
              have RF := Lib.hid (show shelfOk next (cs l) dead = false by rw [HG2.out, FIN.out.2.2.1 hdd])
              have e6 : (E == 6) = false := by rw [HE.out]; unfold getE; rw [hcd, hdd]; rfl
              clear hcd hdd HE
              go_wp2_with (fail)
              go_ret2
              rw [RF.out]
              exact ⟨none, rfl, X5.out.S⟩
            case false =>
            have R2 := Lib.hid (FIN.out.2.2.2 HAT.out hcd hdd)
            have e6 : (E == 6) = true := by rw [HE.out]; unfold getE; rw [hcd, hdd]; rfl
            clear hcd hdd HE
            have hlk : (dead.take k).length = k := by rw [List.length_take]; omega
            go_wp2_with (fail)
            refine wp_region_relM (VB [some (.pointer (some ⟨s, 0, none⟩)), some (.pointer (some ⟨s, 0, none⟩)), some (.pointer (some ⟨s, 0, none⟩)), some (.pointer (some ⟨s, 2, none⟩)), some sv, some (.agg #[.int .i64 x.id, .int .i64 x.ver, .int .i64 x.seq]), none, none, some (.pointer (some ⟨s, 0, none⟩)), some (.pointer (some ⟨s, 2, none⟩)), none])
              (DM [(6, 5)] 4 6 7 10 w s (s + 1) #[.int .i64 next, .map (some m), sv] 2 60 3 sv k ((dead.take k).flatMap Dead.cells) (fun nn => nn = x.cells) (fun W => MapAt W m (esA l) l.length ∧ m < s) (fun W => Blk W g #[.int .i64 x.id, .int .i64 x.ver, .int .i64 x.seq])) 128 (by kernel_rfl) (by kernel_rfl) rfl ?_ ?_ ?_
            · intro u w' hb hh
              have X6 := X5.out.below hb
              have o6 := X6.own
              rw [hlk] at o6
              exact DM.start X6.S (by have := X6.lo; have := X6.ms; omega) (by omega) X6.blk.lt X6.blk o6 ⟨X6.map, X6.ms⟩ (G5.out.below hb G5.out.lt)
            · refine ⟨?_, ?_, ?_, ?_, ?_, ?_, ?_, ?_, ?_, ?_, ?_, trivial⟩
              all_goals
                rintro L u W1 hM hL hd
                have M := Lib.hid hM
                clear hM
                simp [DepsM, Region.binds, VB] at hd
                simp only [putDeps, dstOf, Region.binds]
              case refine_5 =>
                have hu3 : u 3 = .pointer (some ⟨s, 2, none⟩) := by first | exact hd.2 | exact hd.1.2
                have p1 := (M.out.blk0 (M.out.noS (M.out.noL hL))).cell (i := 2) rfl
                go_wp2_with (fail)
                exact EndM.mk rfl ⟨rfl, M.out.pure (by decide) (by decide) (by decide) (by simp)⟩
              case refine_6 =>
                have gb := M.out.top (M.out.noA (M.out.no (List.mem_singleton.2 rfl) hL))
                have r0 := gb.cell (i := 0) rfl
                have r1 := gb.cell (i := 1) rfl
                have r2 := gb.cell (i := 2) rfl
                have gl2 := gb.lt
                clear gb
                go_wp2_with (fail)
                exact EndM.mk rfl ⟨rfl, M.out.pure (by decide) (by decide) (by decide) (by simp)⟩
              case refine_7 =>
                have hu5 : u 5 = .agg #[.int .i64 x.id, .int .i64 x.ver, .int .i64 x.seq] := by first | exact hd.2 | exact hd.1.2
                have h5 : L 5 = true := by first | exact hd.1 | exact hd.1.1
                rw [hu5]
                go_wp2_with (with_reducible refine stop_lit _ _ rfl ?_)
                refine Stop.mk (wpList_lit1 rfl _ _ _ rfl elemDead (by omega) #[.int .i64 x.id, .int .i64 x.ver, .int .i64 x.seq] rfl rfl ?_)
                exact EndM.mk rfl ⟨trivial, M.out.make (news := x.cells) (by decide) (by decide) rfl hL rfl ⟨M.out.keep.1.below ((Below.refl _ _).alloc (Nat.le_refl _) _) M.out.keep.1.lt, M.out.keep.2⟩ ((M.out.top (M.out.noA hL)).below ((Below.refl _ _).alloc (Nat.le_refl _) _) (M.out.top (M.out.noA hL)).lt) (by simpa using h5)⟩
              case refine_8 =>
                have h4 := hd.1.1
                have hu4 := hd.1.2
                have h6 : L 6 = true := by first | exact hd.2 | exact hd.2.1
                obtain ⟨q, nn, rfl, e6', hsrc⟩ := M.out.lit h6 hL
                have own := M.out.own0 hL
                rw [hu4, e6']
                go_wp2_with ((at_builtin; refine Stop.out ?_))
                refine Stop.mk (wpList_app _ rfl _ _ elemDead rfl (s + 1) sv k _ rfl own _ 1 1 x.cells rfl hsrc (by simp [Dead.cells, Value.oneCell']) (by omega) M.out.hB ?_)
                intro v7 w7 own7 _ hb7 _
                exact EndM.mk rfl ⟨trivial, M.out.app (by decide) (by decide) h6 h4 hL rfl own7 hb7 ⟨M.out.keep.1.below hb7 (by have := M.out.keep.2; omega), M.out.keep.2⟩ (by simp)⟩
              case refine_11 =>
                have hu9 : u 9 = .pointer (some ⟨s, 2, none⟩) := by first | exact hd.1.2
                have h7 : L 7 = true := by first | exact hd.2 | exact hd.2.1
                have own := M.out.own
                rw [if_pos h7] at own
                obtain ⟨nn, -, own⟩ := own
                obtain ⟨A5, c5, e5, -⟩ := own_form own
                have s9 := (M.out.blk0 hL).cell (i := 2) rfl
                have sf := fun i => (M.out.blk0 hL).frozen i
                have slt := (M.out.blk0 hL).lt
                have PUT := Lib.hid (M.out.put (z := undef) (by decide) (by decide) h7 hL ⟨M.out.keep.1.kept (kept_set W1 s 2 (u 7)) M.out.keep.1.lt (fun e => by injection e with e; have := M.out.keep.2; omega), M.out.keep.2⟩ (by simp))
                rw [e5] at PUT
                rw [e5, hu9]
                clear own
                go_wp2_with (fail)
                exact EndM.mk0 rfl ⟨trivial, PUT.out⟩
              all_goals
                go_wp2_with (fail)
                exact EndM.mk rfl ⟨by first | exact hd.2 | rfl | trivial, M.out.pure (by decide) (by decide) (by decide) (by simp)⟩
            · rintro u W1 hv hM
              obtain ⟨b7, nn, rfl, o7⟩ := hM.done (by simp) (by simp)
              have X6 := Lib.hid (show SD w W1 s m next l (u 7) (dead.take (k + 1)) from ⟨hM.S, X5.out.lo, X5.out.ms, b7, hM.keep.1, by
                have e : (dead.take (k + 1)).length = k + 1 := by rw [List.length_take]; omega
                rw [e, TK.out, List.flatMap_append, List.flatMap_cons, List.flatMap_nil, List.append_nil]
                exact o7⟩)
              clear hv hM b7 o7
              simp only [putAll, Act.put, Nat.reduceAdd, List.setIfInBounds_toArray, List.set_cons_zero, List.set_cons_succ]
              go_wp2_with (fail)
              go_roundw
              case rel => exact ⟨k + 1, x.seq, u 7, by omega, by go_num, rfl, R2.out, X6.out⟩
              case measure => simp [intOf]; omega
        · obtain rfl : k = dead.length := by omega
          have d2 : decide ((dead.length : Int) < (dead.length : Int)) = false := by simp
          have RT := Lib.hid (show shelfOk next (cs l) dead = true by rw [HG2.out, ← R.out, List.drop_length]; rfl)
          go_wp2_with (fail)
          go_ret2
          rw [RT.out]
          exact ⟨_, rfl, X.out.S⟩
end Go.Proofs.YtldoedmclfbgpaaDoor
