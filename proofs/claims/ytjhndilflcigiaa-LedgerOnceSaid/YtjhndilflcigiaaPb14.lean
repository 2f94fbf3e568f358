/-
  The walk of the statement LedgerOnce: it answers true, whatever the acts. (Printed by gen30v.py.)
-/
import Derived.Test.YtjhndilflcigiaaPb13
import Derived.Test.YtjhndilflcigiaaRows
import Derived.WalkKit
import Derived.WalkSpells
import Derived.WalkLawsBesides
import Derived.Lib.Hide
import Derived.Deep.QuietTactic
import Derived.BigQuiet
import Derived.Maps.AppendAt
import Derived.WalkSmall
import Derived.ProofKit
import Derived.OpenShut
import Derived.JoinedCond
import Derived.Deep.Slices
import Derived.Deep.Fields
import Derived.Carry
import Derived.Test.YtjhndilflcigiaaProg
import Derived.Deep.CutBlock
import Derived.Deep.DeepCutAuto
import Derived.Deep.AppendSrc
import Derived.Lib.AppendStr
import Derived.Laws.BytesArg
import Derived.Laws.CopyOwn
import Derived.Outline
import Derived.IntWalk
import Derived.Lib.EndianBits
import Derived.Laws.Tables
import Derived.Laws.Rows
import Derived.Shelf.Spec.TrailingZeros
import Derived.StillTail
import Derived.Lib.AppendZeros
import Derived.Deep.Quiet
import Derived.ChangeKeysEq
import Derived.Laws.StructEq
import Derived.Laws.LoneSync
namespace Go.Proofs.Ytjhndilflcigiaa
open Go.RowKit

set_option maxHeartbeats 8000000 in
set_option maxRecDepth 4000 in
theorem c_law30_LedgerOnce (l : List DL) (A : Option Addr) (cl : Nat) (w : World) (h : InD w A cl l) :
    Calls Try.prog 5 #[.slice A l.length cl] w (RetV w (.bool true)) := by
  have D := Lib.hid h
  obtain ⟨n, hn⟩ : ∃ n, n = l.length := ⟨_, rfl⟩
  have hL : n ≤ cl := by rw [hn]; exact h.le
  have hC := h.cap
  rw [← hn]
  have HN := Lib.hid hn
  clear h hn
  go_enter Try.func5, Try.ntmps5
  go_wp2_with (fail)
  refine (c_ledger_New _).mono ?_
  rintro e w1 ⟨rfl, bg, hb1⟩
  obtain ⟨g, hg⟩ : ∃ g, g = w.heap.size := ⟨_, rfl⟩
  rw [← hg] at bg ⊢
  have L1 := Lib.hid (Lg.new bg)
  have HG := Lib.hid (show w.heap.size ≤ g ∧ g < w1.heap.size from ⟨by omega, bg.lt⟩)
  have H1 := Lib.hid hb1
  clear bg hb1 hg
  go_wp2_with (with_reducible refine stop_store 48 (.tmp 4) (.tmp 13) rfl rfl ?_)
  refine Stop.mk (wpList_storeB rfl _ _ _ rfl w1.heap.size (laArr (List.replicate 6 zo)) rfl (by unfold laArr; rfl) _ (Blk.new _ _ _) strA6 (by rw [la_size]; rfl) (by rw [la_size]; rfl) (by unfold laArr; simp [OA.cells, Value.oneCell']) ?_)
  intro w2 hb2 hk2
  have S := Lib.hid (show LO w w2 g w1.heap.size lz (List.replicate 6 zo) from ⟨H1.out.trans ((fresh_below hk2).mono H1.out.size), HG.out.1, L1.out.below (fresh_below hk2), HG.out.2, hb2, rfl, fun x hx => by rw [List.eq_of_mem_replicate hx]; exact In.nil (by decide),
    fun k hk => by
      have hk6 : k < 6 := hk
      rw [List.getElem_replicate]
      have : rowAt (rowsOf lz) k = ⟨0, 0, rz⟩ := by rw [rowAt_of (l := lz) (by exact hk6)]; simp
      rw [this]
      exact ⟨rfl, rfl, .inl rfl⟩, by decide, by decide, fun x hx => by rw [List.eq_of_mem_replicate hx]; exact .inl rfl⟩)
  obtain ⟨q, hq⟩ : ∃ q, q = w1.heap.size := ⟨_, rfl⟩
  rw [← hq] at S ⊢
  clear hb2 hk2 L1 HG H1 hq
  go_wp2_with (fail)
  go_loopw [5] (fun i wr => ∃ (k : Nat) (lg : List LR) (ls : List OA), k ≤ 200 ∧ i = .int .i64 k ∧ Hid (LO w wr g q lg ls))
    (fun i _ => 200 - (intOf i).toNat)
  case atStart => exact ⟨0, _, _, by omega, rfl, S.out⟩
  case round =>
    obtain ⟨k, lg, ls, hk, rfl, S0⟩ := hrel
    clear S
    by_cases h1 : k < n
    · have d1 : decide (k < n) = true := by simpa using h1
      by_cases h2 : k < 200
      · have d2 : decide ((k : Int) < 200) = true := by simp; omega
        have HLT := Lib.hid h2
        have hkl : k < l.length := by rw [← HN.out]; exact h1
        obtain ⟨b, off, rfl, RX⟩ := D.out.at hkl
        have FX := D.out.flt _ (List.getElem_mem hkl)
        have MX := D.out.msk _ (List.getElem_mem hkl)
        obtain ⟨x, hx⟩ : ∃ x, x = l[k] := ⟨_, rfl⟩
        rw [← hx] at RX FX MX
        have hkn := h1
        clear hx hkl h1 h2
        obtain ⟨⟨kind, a⟩, Af, cf⟩ := x
        simp only at RX FX MX
        have hb := RX.1
        have hbr := S0.out.below.size
        obtain ⟨kq, PT⟩ := RX.2 _ S0.out.below
        simp only at kq PT
        have PT' := Lib.hid PT
        have KQ := Lib.hid (fun wz (hz : Below w.heap.size w wz) => (RX.2 wz hz).1)
        simp only at KQ
        have F := Lib.hid FX
        clear PT RX FX kq
        go_wp2_with (with_reducible refine stop_load 47 (.tmp 27) rfl rfl ?_)
        refine Stop.mk (wpList_loadAt rfl _ _ rfl b _ rfl (a.arr Af cf) PT'.out strRp rfl ?_)
        go_wp2_with (with_reducible refine stop_store 47 (.tmp 6) (.tmp 28) rfl rfl ?_)
        refine Stop.mk (wpList_storeB rfl _ _ _ rfl wr.heap.size _ rfl rfl _ (Blk.new _ _ _) strRp rfl rfl (by simp [Value.oneCell']) ?_)
        intro w6 hb6 hk6
        have S := Lib.hid (S0.out.step (fresh_below hk6))
        have hqp : q < wr.heap.size := S0.out.Q.lt
        obtain ⟨p, hp⟩ : ∃ p, p = wr.heap.size := ⟨_, rfl⟩
        rw [← hp] at hb6 hqp ⊢
        have BP := Lib.hid hb6
        have hgp : g < p := Nat.lt_trans S0.out.gq hqp
        clear hb6 hk6 hp S0 PT'
        obtain ⟨q0, q1, q2, q3, q4, q5, q6, q7, q8, q9⟩ := rep_cells BP.out
        cases hlg : large a.f
        case true =>
          go_wp2_with (fail)
          refine (F.out.big _ S.out.below).mono ?_
          rintro e w7 ⟨rfl, hb7⟩
          rw [hlg]
          replace S := Lib.hid (S.out.step hb7)
          clear hb7 hlg
          go_wp2_with (fail)
          refine (c_law30_awake _).mono ?_
          rintro e w8 ⟨rfl, hb8⟩
          go_wp2_with (fail)
          go_ret
          exact RetV.bool rfl (S.out.below.trans (hb8.mono S.out.below.size))
        case false =>
          have HFI := Lib.hid (F.out.inn hlg)
          have HFS := Lib.hid (F.out.shs hlg)
          have HFL := Lib.hid (F.out.len hlg)
          have HLG := Lib.hid hlg
          clear hlg
          go_wp2_with (fail)
          refine (F.out.big _ S.out.below).mono ?_
          rintro e w7 ⟨rfl, hb7⟩
          rw [HLG.out]
          replace S := Lib.hid (S.out.step hb7)
          replace BP := Lib.hid (BP.out.below hb7 BP.out.lt)
          clear hb7 F
          clear q0 q1 q2 q3 q4 q5 q6 q7 q8 q9
          have kq := KQ.out _ S.out.below
          have hbz := S.out.below.size
          have hcs : kind = 1 ∨ (kind ≠ 1 ∧ 1 < kind) ∨ (kind ≠ 1 ∧ ¬ 1 < kind) := by omega
          rcases hcs with rfl | ⟨h0, h1⟩ | ⟨h0, h1⟩
          · go_wp2_with (with_reducible refine stop_loadG 47 (.tmp 6) rfl ?_)
            refine Stop.mk (wpList_loadAtG (by rfl) _ _ rfl p 0 rfl (a.arr Af cf) BP.out.all strRp rfl ?_)
            cases hy : noteOk (rowsOf lg) a
            case false =>
              have HY := Lib.hid hy
              clear hy
              go_wp2_with (fail)
              refine (c_ledger_Note g lg a Af cf _ S.out.L (HFI.out.below S.out.below) HFS.out MX HFL.out).mono ?_
              rintro e w9 ⟨rfl, hk9, lg2, L9, r9, o9⟩
              rw [HY.out]
              obtain ⟨ls2, hls2⟩ : ∃ x, x = ls := ⟨_, rfl⟩
              replace S := Lib.hid (show LO w w9 g q lg2 ls2 by rw [hls2]; exact S.out.noteNo hk9 L9 r9 HY.out (o9 q S.out.Q.lt S.out.off))
              clear hk9 L9 r9 o9 hls2 kq
              have kq := KQ.out _ S.out.below
              have hbz9 := S.out.below.size
              clear BP
              go_wp2_with (fail)
              go_loopw [7] (fun v wr => ∃ dev : Nat, dev ≤ 6 ∧ v = .int .i64 dev ∧ Hid (LO w wr g q lg2 ls2))
                (fun v _ => 6 - (intOf v).toNat)
              case atStart => exact ⟨0, by omega, rfl, S.out⟩
              case round =>
                obtain ⟨dev, hdev, rfl, T⟩ := hrel
                clear S
                by_cases h6 : dev < 6
                · have dd : decide ((dev : Int) < 6) = true := by simp; omega
                  have HD6 := Lib.hid h6
                  have hkl : dev < ls2.length := by rw [T.out.len]; exact h6
                  have HKL := Lib.hid hkl
                  have PQ0 := Lib.hid (show ∀ wz, Below wr.heap.size wr wz → ∀ j u, ((ls2[dev]'hkl).1.arr (ls2[dev]'hkl).2.1 (ls2[dev]'hkl).2.2)[j]? = some u → wz.cell? ⟨q, dev * 10 + j, none⟩ = some u from fun wz hz j u hu => la_part hkl (T.out.Q.below hz T.out.Q.lt) j u hu)
                  have hq := T.out.Q.lt
                  have AK0 := Lib.hid (fun h0 => T.out.ask hkl h0)
                  have XI := Lib.hid (show InN w (ls2[dev]'hkl).2.1 (ls2[dev]'hkl).2.2 (ls2[dev]'hkl).1.f from T.out.inn _ (List.getElem_mem hkl))
                  have XB := Lib.hid (show (ls2[dev]'hkl).1.f.length ≤ 1000000 from by have := (T.out.row dev hkl).1; rw [this]; exact rowAt_mem (fun x => x.a.f.length ≤ 1000000) T.out.fit (by simp))
                  obtain ⟨xq, hxq⟩ : ∃ x, x = ls2[dev]'hkl := ⟨_, rfl⟩
                  rw [← hxq] at PQ0 AK0 XI XB
                  have XF := Lib.hid XB.out
                  clear hxq hkl h6 XB
                  have c2 := PQ0.out wr (Below.refl _ _) 2 _ rfl
                  have ff := fun i => T.out.Q.frozen i
                  by_cases hz : xq.1.req = 0
                  · have jz : (xq.1.req == 0) = true := by simpa using hz
                    clear hz AK0 PQ0
                    have h6 : dev < 6 := HD6.out
                    go_wp2_with (fail)
                    go_roundw
                    case rel => exact ⟨dev + 1, by omega, by go_num, T.out⟩
                    case measure => simp [intOf]; omega
                  · have jz : (xq.1.req == 0) = false := by simpa using hz
                    have AE := Lib.hid (AK0.out hz)
                    have KA := Lib.hid (fun wz (hz : Lg wz g lg2) => c_ledger_Ask g lg2 dev xq.1.req wz hz)
                    have h6 : dev < 6 := HD6.out
                    have TB := Lib.hid (T.out.step (Below.refl _ _))
                    clear hz AK0
                    have P0 := Lib.hid (Below.refl wr.heap.size wr)
                    go_wp2_with (fail)
                    refine (KA.out _ T.out.L).mono ?_
                    rintro e w8 ⟨A8, c8, rfl, own8, hb8⟩
                    rw [AE.out.1]
                    rw [AE.out.2] at own8 ⊢
                    replace T := Lib.hid (T.out.step hb8)
                    go_wp2_with (with_reducible refine stop_store 47 (.tmp 8) (.tmp 93) rfl rfl ?_)
                    refine Stop.mk (wpList_storeB rfl _ _ _ rfl w8.heap.size _ rfl rfl _ (Blk.new _ _ _) strRp rfl rfl (by simp [Value.oneCell']) ?_)
                    intro w9 hb9 hk9
                    have PB := Lib.hid (hb8.trans ((fresh_below hk9).mono hb8.size))
                    replace T := Lib.hid (T.out.step (fresh_below hk9))
                    have O8 := Lib.hid (own_below own8 (fresh_below hk9))
                    have D8 := Lib.hid hb9
                    obtain ⟨p8, hp8⟩ : ∃ p, p = w8.heap.size := ⟨_, rfl⟩
                    rw [← hp8] at D8 ⊢
                    clear hb8 hb9 hk9 own8 hp8 c2 ff P0
                    have c2 := PQ0.out _ PB.out 2 _ rfl
                    have ff := fun i => T.out.Q.frozen i
                    have hq9 := T.out.Q.lt
                    go_wp2_with (fail)
                    refine (KA.out _ T.out.L).mono ?_
                    rintro e w10 ⟨A10, c10, rfl, own10, hb10⟩
                    rw [AE.out.1]
                    rw [AE.out.2] at own10 ⊢
                    replace T := Lib.hid (T.out.step hb10)
                    go_wp2_with (with_reducible refine stop_store 47 (.tmp 10) (.tmp 103) rfl rfl ?_)
                    refine Stop.mk (wpList_storeB rfl _ _ _ rfl w10.heap.size _ rfl rfl _ (Blk.new _ _ _) strRp rfl rfl (by simp [Value.oneCell']) ?_)
                    intro w11 hb11 hk11
                    have PB2 := Lib.hid (PB.out.trans ((hb10.trans ((fresh_below hk11).mono hb10.size)).mono PB.out.size))
                    replace T := Lib.hid (T.out.step (fresh_below hk11))
                    have O8' := Lib.hid (own_below (own_below O8.out hb10) (fresh_below hk11))
                    have O10 := Lib.hid (own_below own10 (fresh_below hk11))
                    have D8' := Lib.hid ((D8.out.below hb10 D8.out.lt).below (fresh_below hk11) (Nat.lt_of_lt_of_le D8.out.lt hb10.size))
                    have D10 := Lib.hid hb11
                    obtain ⟨p10, hp10⟩ : ∃ p, p = w10.heap.size := ⟨_, rfl⟩
                    rw [← hp10] at D10 ⊢
                    have BB := Lib.hid (show Blk w11 p8 (xq.1.arr A8 c8) ∧ Blk w11 p10 (xq.1.arr A10 c10) ∧ InN w11 A8 c8 xq.1.f ∧ InN w11 A10 c10 xq.1.f ∧ InN w11 xq.2.1 xq.2.2 xq.1.f from ⟨D8'.out, D10.out, In.own3R Node.cells_len O8'.out (by have := XF.out; omega), In.own3R Node.cells_len O10.out (by have := XF.out; omega), XI.out.below T.out.below⟩)
                    have PQ := Lib.hid (fun wz hz => PQ0.out wz (PB2.out.trans (Below.mono hz PB2.out.size)))
                    have hqq := T.out.Q.lt
                    have g8 := D8'.out.lt
                    have g10 := D10.out.lt
                    clear hb10 hb11 hk11 own10 hp10 c2 ff PB PB2 O8 O8' O10 D8 D8' D10 PQ0 KA AE XI TB hq9 hq
                    go_wp2_with (fail)
                    refine wp_region_rel [Sp.eq (.int .i64 7), Sp.eq (.bool false), Sp.eq (.bool false), Sp.eq (.int .i64 7), Sp.eq (.bool false), Sp.eq (.bool false), Sp.eq (.bool false), Sp.eq (.agg (xq.1.arr A8 c8)), Sp.eq (.int .i64 dev), Sp.eq (.pointer (some ⟨q, dev * 10, none⟩)), Sp.eq (.agg (xq.1.arr xq.2.1 xq.2.2)), Sp.eq (.bool true), Sp.eq (.bool false), Sp.eq (.bool false), Sp.eq (.bool false), Sp.eq (.agg (xq.1.arr A10 c10)), Sp.eq (.int .i64 dev), Sp.eq (.pointer (some ⟨q, dev * 10, none⟩)), Sp.eq (.agg (xq.1.arr xq.2.1 xq.2.2)), Sp.eq (.bool true), Sp.eq (.bool false), Sp.eq (.bool false)] 128 (by kernel_rfl) (by kernel_rfl) rfl rfl ?_ ?_
                    · refine ⟨?_, ?_, ?_, ?_, ?_, ?_, ?_, ?_, ?_, ?_, ?_, ?_, ?_, ?_, ?_, ?_, ?_, ?_, ?_, ?_, ?_, ?_, trivial⟩
                      all_goals (intro u W2 hb2 hd; simp [Deps, Region.binds, Sp.eq_holds] at hd; simp only [putDeps, dstOf, Region.binds])
                      case refine_1 =>
                        go_wp2_with (fail); exact RelEnd.mk rfl (Below.refl _ _) rfl
                      case refine_2 =>
                        go_wp2_with (fail); exact RelEnd.mk rfl (Below.refl _ _) rfl
                      case refine_3 =>
                        go_wp2_with (fail); exact RelEnd.mk rfl (Below.refl _ _) rfl
                      case refine_4 =>
                        go_wp2_with (fail); exact RelEnd.mk rfl (Below.refl _ _) rfl
                      case refine_5 =>
                        go_wp2_with (fail); exact RelEnd.mk rfl (Below.refl _ _) rfl
                      case refine_6 =>
                        go_wp2_with (fail); exact RelEnd.mk rfl (Below.refl _ _) rfl
                      case refine_7 =>
                        go_wp2_with (fail); exact RelEnd.mk rfl (Below.refl _ _) rfl
                      case refine_8 =>
                        go_wp2_with (with_reducible refine stop_loadG 47 _ rfl ?_)
                        refine Stop.mk (wpList_loadAtG (by simp [Region.wanted, yielded]) _ _ rfl p8 0 rfl (xq.1.arr A8 c8) ((BB.out.1.below hb2 BB.out.1.lt).all) strRp (rfl) ?_)
                        go_wp2_with (fail); exact RelEnd.mk rfl (Below.refl _ _) rfl
                      case refine_9 =>
                        go_wp2_with (fail); exact RelEnd.mk rfl (Below.refl _ _) rfl
                      case refine_10 =>
                        go_wp2_with (fail); exact RelEnd.mk rfl (Below.refl _ _) rfl
                      case refine_11 =>
                        go_wp2_with (with_reducible refine stop_loadG 47 _ rfl ?_)
                        refine Stop.mk (wpList_loadAtG (by simp [Region.wanted, yielded]) _ _ rfl q (dev * 10) rfl (xq.1.arr xq.2.1 xq.2.2) (PQ.out W2 hb2) strRp (rfl) ?_)
                        go_wp2_with (fail); exact RelEnd.mk rfl (Below.refl _ _) rfl
                      case refine_12 =>
                        go_wp2_with (go_at_call 21; refine (c_ref30_Same xq.1 xq.1 A8 xq.2.1 c8 xq.2.2 _ (BB.out.2.2.1.below hb2) (BB.out.2.2.2.2.below hb2)).mono ?_; rintro e3 W3 ⟨rfl, hb3⟩)
                        first | exact RelEnd.mk rfl hb3 rfl | (rw [decide_eq_true (rfl : xq.1 = xq.1)]; exact RelEnd.mk rfl hb3 rfl)
                      case refine_13 =>
                        go_wp2_with (fail); exact RelEnd.mk rfl (Below.refl _ _) rfl
                      case refine_14 =>
                        go_wp2_with (fail); exact RelEnd.mk rfl (Below.refl _ _) rfl
                      case refine_15 =>
                        go_wp2_with (fail); exact RelEnd.mk rfl (Below.refl _ _) rfl
                      case refine_16 =>
                        go_wp2_with (with_reducible refine stop_loadG 47 _ rfl ?_)
                        refine Stop.mk (wpList_loadAtG (by simp [Region.wanted, yielded]) _ _ rfl p10 0 rfl (xq.1.arr A10 c10) ((BB.out.2.1.below hb2 BB.out.2.1.lt).all) strRp (rfl) ?_)
                        go_wp2_with (fail); exact RelEnd.mk rfl (Below.refl _ _) rfl
                      case refine_17 =>
                        go_wp2_with (fail); exact RelEnd.mk rfl (Below.refl _ _) rfl
                      case refine_18 =>
                        go_wp2_with (fail); exact RelEnd.mk rfl (Below.refl _ _) rfl
                      case refine_19 =>
                        go_wp2_with (with_reducible refine stop_loadG 47 _ rfl ?_)
                        refine Stop.mk (wpList_loadAtG (by simp [Region.wanted, yielded]) _ _ rfl q (dev * 10) rfl (xq.1.arr xq.2.1 xq.2.2) (PQ.out W2 hb2) strRp (rfl) ?_)
                        go_wp2_with (fail); exact RelEnd.mk rfl (Below.refl _ _) rfl
                      case refine_20 =>
                        go_wp2_with (go_at_call 21; refine (c_ref30_Same xq.1 xq.1 A10 xq.2.1 c10 xq.2.2 _ (BB.out.2.2.2.1.below hb2) (BB.out.2.2.2.2.below hb2)).mono ?_; rintro e3 W3 ⟨rfl, hb3⟩)
                        first | exact RelEnd.mk rfl hb3 rfl | (rw [decide_eq_true (rfl : xq.1 = xq.1)]; exact RelEnd.mk rfl hb3 rfl)
                      case refine_21 =>
                        go_wp2_with (fail); exact RelEnd.mk rfl (Below.refl _ _) rfl
                      case refine_22 =>
                        go_wp2_with (fail); exact RelEnd.mk rfl (Below.refl _ _) rfl
                    · intro u W2 hb2 hold
                      simp only [RelHold, Sp.eq_holds, Nat.reduceAdd] at hold
                      obtain ⟨-, -, -, -, -, -, -, -, -, -, -, -, -, -, -, -, -, -, -, -, -, hE, -⟩ := hold
                      simp only [putAll, Act.put, Nat.reduceAdd, List.setIfInBounds_toArray, List.set_cons_zero, List.set_cons_succ]
                      rw [hE]
                      have T2 := Lib.hid (T.out.step hb2)
                      have h6 : dev < 6 := HD6.out
                      clear hb2 T BB PQ XF
                      go_wp2_with (fail)
                      go_roundw
                      case rel => exact ⟨dev + 1, by omega, by go_num, T2.out⟩
                      case measure => simp [intOf]; omega
                · have dd : decide ((dev : Int) < 6) = false := by simp; omega
                  clear h6
                  have h4 : k < 200 := HLT.out
                  go_wp2_with (fail)
                  go_roundw
                  case rel => exact ⟨k + 1, _, _, by omega, by go_num, T.out⟩
                  case measure => simp [intOf]; omega
            case true =>
              have HY := Lib.hid hy
              obtain ⟨e0, e6, e1, em, elt⟩ := note_dev hy
              obtain ⟨dv, hdv⟩ : ∃ dv : Nat, a.dev = dv := ⟨a.dev.toNat, by omega⟩
              have HDV := Lib.hid hdv
              have hdl : dv < ls.length := by rw [S.out.len]; omega
              have hdv6 : dv < 6 := by omega
              have k3 : decide (6 ≤ (dv : Int)) = false := by simp; omega
              have k0 : decide ((dv : Int) < 0) = false := by simp
              obtain ⟨Lq, hLq⟩ : ∃ x, x = (ls[dv]'hdl).1.req := ⟨_, rfl⟩
              have hle : decide (a.req ≤ Lq) = false := by
                have := (S.out.row dv hdl).2.1
                rw [hdv] at elt
                simp; omega
              have HQ := Lib.hid (fun (wz : World) (hz : Blk wz q (laArr ls)) => show wz.cell? ⟨q, dv * 10 + 2, none⟩ = some (.int .i64 Lq) by rw [hLq]; exact la_part hdl hz 2 _ rfl)
              have HDL := Lib.hid hdl
              clear hy e0 e6 e1 em elt hdv hdl hLq
              go_wp2_with (fail)
              refine (c_ledger_Note g lg a Af cf _ S.out.L (HFI.out.below S.out.below) HFS.out MX HFL.out).mono ?_
              rintro e w9 ⟨rfl, hk9, lg2, L9, r9, o9⟩
              rw [HY.out]
              have BP9 := Lib.hid (BP.out.kept hk9 BP.out.lt (fun e => by injection e with e; omega))
              have BQ9 := Lib.hid (S.out.Q.kept hk9 S.out.Q.lt (fun e => by injection e with e; have := S.out.gq; omega))
              have K9 := Lib.hid hk9
              have LL9 := Lib.hid L9
              have R9 := Lib.hid r9
              have OF9 := Lib.hid (o9 q S.out.Q.lt S.out.off)
              clear hk9 L9 r9 o9 kq BP
              have u1 : w9.cell? ⟨p, 1, none⟩ = some (.int .i64 dv) := by rw [← HDV.out]; exact BP9.out.cell rfl
              have u2 := BP9.out.cell (show (a.arr Af cf)[2]? = some (.int .i64 a.req) from rfl)
              have u3 := HQ.out w9 BQ9.out
              have hp9 := BP9.out.lt
              have hq9 := BQ9.out.lt
              have U := Lib.hid (show ∀ W2, Below w9.heap.size w9 W2 → W2.cell? ⟨p, 1, none⟩ = some (.int .i64 dv) ∧ W2.cell? ⟨p, 2, none⟩ = some (.int .i64 a.req) ∧ W2.cell? ⟨q, dv * 10 + 2, none⟩ = some (.int .i64 Lq) from fun W2 hb2 => ⟨by rw [← HDV.out]; exact (BP9.out.below hb2 BP9.out.lt).cell rfl, (BP9.out.below hb2 BP9.out.lt).cell rfl, HQ.out W2 (BQ9.out.below hb2 BQ9.out.lt)⟩)
              go_wp2_with (fail)
              refine wp_region_rel [Sp.eq (.pointer (some ⟨p, 1, none⟩)), Sp.eq (.int .i64 dv), Sp.eq (.bool false), Sp.eq (.bool false), Sp.eq (.pointer (some ⟨p, 1, none⟩)), Sp.eq (.int .i64 dv), Sp.eq (.bool false), Sp.eq (.bool false), Sp.eq (.bool false), Sp.eq (.pointer (some ⟨p, 2, none⟩)), Sp.eq (.int .i64 a.req), Sp.eq (.pointer (some ⟨p, 1, none⟩)), Sp.eq (.int .i64 dv), Sp.eq (.pointer (some ⟨q, dv * 10, none⟩)), Sp.eq (.pointer (some ⟨q, dv * 10 + 2, none⟩)), Sp.eq (.int .i64 Lq), Sp.eq (.bool false), Sp.eq (.bool false)] 128 (by kernel_rfl) (by kernel_rfl) rfl rfl ?_ ?_
              · refine ⟨?_, ?_, ?_, ?_, ?_, ?_, ?_, ?_, ?_, ?_, ?_, ?_, ?_, ?_, ?_, ?_, ?_, ?_, trivial⟩
                all_goals (intro u W2 hb2 hd; simp [Deps, Region.binds, Sp.eq_holds] at hd; simp only [putDeps, dstOf, Region.binds])
                case refine_1 =>
                  go_wp2_with (fail); exact RelEnd.mk rfl (Below.refl _ _) rfl
                case refine_2 =>
                  have q : World.cell? W2 ⟨p, 1, none⟩ = some (.int .i64 dv) := (U.out W2 hb2).1
                  go_wp2_with (fail); exact RelEnd.mk rfl (Below.refl _ _) rfl
                case refine_3 =>
                  go_wp2_with (fail); exact RelEnd.mk rfl (Below.refl _ _) rfl
                case refine_4 =>
                  go_wp2_with (fail); exact RelEnd.mk rfl (Below.refl _ _) rfl
                case refine_5 =>
                  go_wp2_with (fail); exact RelEnd.mk rfl (Below.refl _ _) rfl
                case refine_6 =>
                  have q : World.cell? W2 ⟨p, 1, none⟩ = some (.int .i64 dv) := (U.out W2 hb2).1
                  go_wp2_with (fail); exact RelEnd.mk rfl (Below.refl _ _) rfl
                case refine_7 =>
                  go_wp2_with (fail); exact RelEnd.mk rfl (Below.refl _ _) rfl
                case refine_8 =>
                  go_wp2_with (fail); exact RelEnd.mk rfl (Below.refl _ _) rfl
                case refine_9 =>
                  go_wp2_with (fail); exact RelEnd.mk rfl (Below.refl _ _) rfl
                case refine_10 =>
                  go_wp2_with (fail); exact RelEnd.mk rfl (Below.refl _ _) rfl
                case refine_11 =>
                  have q : World.cell? W2 ⟨p, 2, none⟩ = some (.int .i64 a.req) := (U.out W2 hb2).2.1
                  go_wp2_with (fail); exact RelEnd.mk rfl (Below.refl _ _) rfl
                case refine_12 =>
                  go_wp2_with (fail); exact RelEnd.mk rfl (Below.refl _ _) rfl
                case refine_13 =>
                  have q : World.cell? W2 ⟨p, 1, none⟩ = some (.int .i64 dv) := (U.out W2 hb2).1
                  go_wp2_with (fail); exact RelEnd.mk rfl (Below.refl _ _) rfl
                case refine_14 =>
                  go_wp2_with (fail); exact RelEnd.mk rfl (Below.refl _ _) rfl
                case refine_15 =>
                  go_wp2_with (fail); exact RelEnd.mk rfl (Below.refl _ _) rfl
                case refine_16 =>
                  have q : World.cell? W2 ⟨q, dv * 10 + 2, none⟩ = some (.int .i64 Lq) := (U.out W2 hb2).2.2
                  go_wp2_with (fail); exact RelEnd.mk rfl (Below.refl _ _) rfl
                case refine_17 =>
                  go_wp2_with (fail); exact RelEnd.mk rfl (Below.refl _ _) rfl
                case refine_18 =>
                  go_wp2_with (fail); exact RelEnd.mk rfl (Below.refl _ _) rfl
              · intro u W2 hb2 hold
                simp only [RelHold, Sp.eq_holds, Nat.reduceAdd] at hold
                obtain ⟨-, -, -, -, -, -, -, -, -, -, -, -, -, -, -, -, -, hE, -⟩ := hold
                simp only [putAll, Act.put, Nat.reduceAdd, List.setIfInBounds_toArray, List.set_cons_zero, List.set_cons_succ]
                rw [hE]
                have BP10 := Lib.hid (BP9.out.below hb2 hp9)
                have BQ10 := Lib.hid (BQ9.out.below hb2 hq9)
                clear u1 u2 u3 hp9 hq9
                have u1 : W2.cell? ⟨p, 1, none⟩ = some (.int .i64 dv) := by rw [← HDV.out]; exact BP10.out.cell rfl
                go_wp2_with (with_reducible refine stop_load 47 (.tmp 6) rfl rfl ?_)
                refine Stop.mk (wpList_loadAt rfl _ _ rfl p 0 rfl (a.arr Af cf) BP10.out.all strRp rfl ?_)
                go_wp2_with (with_reducible refine stop_store 47 (.tmp 65) (.tmp 64) rfl rfl ?_)
                refine Stop.mk (wpList_storeAt rfl _ _ _ rfl q (dv * 10) (a.arr Af cf) rfl rfl _ BQ10.out strRp rfl (by rw [la_size]; show dv * 10 + 10 ≤ _; have := S.out.len; omega) (by simp [Value.oneCell']) ?_)
                intro w11 hb11 hk11
                have hz9 := (S.out.below.trans (K9.out.oneB S.out.below.size S.out.og)).size
                have S2 := Lib.hid (S.out.noteYes (w2 := w11) HFI.out HFL.out K9.out LL9.out R9.out HY.out HDV.out OF9.out
                  ((hb2.mono hz9).trans (hk11.oneB (Nat.le_trans hz9 hb2.size) (by have := S.out.gq; have := S.out.og; omega)))
                  ((LL9.out.below hb2).far hk11 (by have := S.out.gq; omega) OF9.out) (by rw [← la_put HDL.out (a, Af, cf)]; exact hb11))
                obtain ⟨ls2, hls2⟩ : ∃ x, x = ls.set dv (a, Af, cf) := ⟨_, rfl⟩
                clear S
                have S := Lib.hid (show LO w w11 g q lg2 ls2 by rw [hls2]; exact S2.out)
                clear S2 hb11 hk11 hls2 u1 BP9 BQ9 BP10 BQ10 K9 LL9 R9 OF9 HQ HDL hb2 hz9 hle
                have kq := KQ.out _ S.out.below
                have hbz11 := S.out.below.size
                go_wp2_with (fail)
                go_loopw [7] (fun v wr => ∃ dev : Nat, dev ≤ 6 ∧ v = .int .i64 dev ∧ Hid (LO w wr g q lg2 ls2))
                  (fun v _ => 6 - (intOf v).toNat)
                case atStart => exact ⟨0, by omega, rfl, S.out⟩
                case round =>
                  obtain ⟨dev, hdev, rfl, T⟩ := hrel
                  clear S
                  by_cases h6 : dev < 6
                  · have dd : decide ((dev : Int) < 6) = true := by simp; omega
                    have HD6 := Lib.hid h6
                    have hkl : dev < ls2.length := by rw [T.out.len]; exact h6
                    have HKL := Lib.hid hkl
                    have PQ0 := Lib.hid (show ∀ wz, Below wr.heap.size wr wz → ∀ j u, ((ls2[dev]'hkl).1.arr (ls2[dev]'hkl).2.1 (ls2[dev]'hkl).2.2)[j]? = some u → wz.cell? ⟨q, dev * 10 + j, none⟩ = some u from fun wz hz j u hu => la_part hkl (T.out.Q.below hz T.out.Q.lt) j u hu)
                    have hq := T.out.Q.lt
                    have AK0 := Lib.hid (fun h0 => T.out.ask hkl h0)
                    have XI := Lib.hid (show InN w (ls2[dev]'hkl).2.1 (ls2[dev]'hkl).2.2 (ls2[dev]'hkl).1.f from T.out.inn _ (List.getElem_mem hkl))
                    have XB := Lib.hid (show (ls2[dev]'hkl).1.f.length ≤ 1000000 from by have := (T.out.row dev hkl).1; rw [this]; exact rowAt_mem (fun x => x.a.f.length ≤ 1000000) T.out.fit (by simp))
                    obtain ⟨xq, hxq⟩ : ∃ x, x = ls2[dev]'hkl := ⟨_, rfl⟩
                    rw [← hxq] at PQ0 AK0 XI XB
                    have XF := Lib.hid XB.out
                    clear hxq hkl h6 XB
                    have c2 := PQ0.out wr (Below.refl _ _) 2 _ rfl
                    have ff := fun i => T.out.Q.frozen i
                    by_cases hz : xq.1.req = 0
                    · have jz : (xq.1.req == 0) = true := by simpa using hz
                      clear hz AK0 PQ0
                      have h6 : dev < 6 := HD6.out
                      go_wp2_with (fail)
                      go_roundw
                      case rel => exact ⟨dev + 1, by omega, by go_num, T.out⟩
                      case measure => simp [intOf]; omega
                    · have jz : (xq.1.req == 0) = false := by simpa using hz
                      have AE := Lib.hid (AK0.out hz)
                      have KA := Lib.hid (fun wz (hz : Lg wz g lg2) => c_ledger_Ask g lg2 dev xq.1.req wz hz)
                      have h6 : dev < 6 := HD6.out
                      have TB := Lib.hid (T.out.step (Below.refl _ _))
                      clear hz AK0
                      have P0 := Lib.hid (Below.refl wr.heap.size wr)
                      go_wp2_with (fail)
                      refine (KA.out _ T.out.L).mono ?_
                      rintro e w8 ⟨A8, c8, rfl, own8, hb8⟩
                      rw [AE.out.1]
                      rw [AE.out.2] at own8 ⊢
                      replace T := Lib.hid (T.out.step hb8)
                      go_wp2_with (with_reducible refine stop_store 47 (.tmp 8) (.tmp 93) rfl rfl ?_)
                      refine Stop.mk (wpList_storeB rfl _ _ _ rfl w8.heap.size _ rfl rfl _ (Blk.new _ _ _) strRp rfl rfl (by simp [Value.oneCell']) ?_)
                      intro w9 hb9 hk9
                      have PB := Lib.hid (hb8.trans ((fresh_below hk9).mono hb8.size))
                      replace T := Lib.hid (T.out.step (fresh_below hk9))
                      have O8 := Lib.hid (own_below own8 (fresh_below hk9))
                      have D8 := Lib.hid hb9
                      obtain ⟨p8, hp8⟩ : ∃ p, p = w8.heap.size := ⟨_, rfl⟩
                      rw [← hp8] at D8 ⊢
                      clear hb8 hb9 hk9 own8 hp8 c2 ff P0
                      have c2 := PQ0.out _ PB.out 2 _ rfl
                      have ff := fun i => T.out.Q.frozen i
                      have hq9 := T.out.Q.lt
                      go_wp2_with (fail)
                      refine (KA.out _ T.out.L).mono ?_
                      rintro e w10 ⟨A10, c10, rfl, own10, hb10⟩
                      rw [AE.out.1]
                      rw [AE.out.2] at own10 ⊢
                      replace T := Lib.hid (T.out.step hb10)
                      go_wp2_with (with_reducible refine stop_store 47 (.tmp 10) (.tmp 103) rfl rfl ?_)
                      refine Stop.mk (wpList_storeB rfl _ _ _ rfl w10.heap.size _ rfl rfl _ (Blk.new _ _ _) strRp rfl rfl (by simp [Value.oneCell']) ?_)
                      intro w11 hb11 hk11
                      have PB2 := Lib.hid (PB.out.trans ((hb10.trans ((fresh_below hk11).mono hb10.size)).mono PB.out.size))
                      replace T := Lib.hid (T.out.step (fresh_below hk11))
                      have O8' := Lib.hid (own_below (own_below O8.out hb10) (fresh_below hk11))
                      have O10 := Lib.hid (own_below own10 (fresh_below hk11))
                      have D8' := Lib.hid ((D8.out.below hb10 D8.out.lt).below (fresh_below hk11) (Nat.lt_of_lt_of_le D8.out.lt hb10.size))
                      have D10 := Lib.hid hb11
                      obtain ⟨p10, hp10⟩ : ∃ p, p = w10.heap.size := ⟨_, rfl⟩
                      rw [← hp10] at D10 ⊢
                      have BB := Lib.hid (show Blk w11 p8 (xq.1.arr A8 c8) ∧ Blk w11 p10 (xq.1.arr A10 c10) ∧ InN w11 A8 c8 xq.1.f ∧ InN w11 A10 c10 xq.1.f ∧ InN w11 xq.2.1 xq.2.2 xq.1.f from ⟨D8'.out, D10.out, In.own3R Node.cells_len O8'.out (by have := XF.out; omega), In.own3R Node.cells_len O10.out (by have := XF.out; omega), XI.out.below T.out.below⟩)
                      have PQ := Lib.hid (fun wz hz => PQ0.out wz (PB2.out.trans (Below.mono hz PB2.out.size)))
                      have hqq := T.out.Q.lt
                      have g8 := D8'.out.lt
                      have g10 := D10.out.lt
                      clear hb10 hb11 hk11 own10 hp10 c2 ff PB PB2 O8 O8' O10 D8 D8' D10 PQ0 KA AE XI TB hq9 hq
                      go_wp2_with (fail)
                      refine wp_region_rel [Sp.eq (.int .i64 7), Sp.eq (.bool false), Sp.eq (.bool false), Sp.eq (.int .i64 7), Sp.eq (.bool false), Sp.eq (.bool false), Sp.eq (.bool false), Sp.eq (.agg (xq.1.arr A8 c8)), Sp.eq (.int .i64 dev), Sp.eq (.pointer (some ⟨q, dev * 10, none⟩)), Sp.eq (.agg (xq.1.arr xq.2.1 xq.2.2)), Sp.eq (.bool true), Sp.eq (.bool false), Sp.eq (.bool false), Sp.eq (.bool false), Sp.eq (.agg (xq.1.arr A10 c10)), Sp.eq (.int .i64 dev), Sp.eq (.pointer (some ⟨q, dev * 10, none⟩)), Sp.eq (.agg (xq.1.arr xq.2.1 xq.2.2)), Sp.eq (.bool true), Sp.eq (.bool false), Sp.eq (.bool false)] 128 (by kernel_rfl) (by kernel_rfl) rfl rfl ?_ ?_
                      · refine ⟨?_, ?_, ?_, ?_, ?_, ?_, ?_, ?_, ?_, ?_, ?_, ?_, ?_, ?_, ?_, ?_, ?_, ?_, ?_, ?_, ?_, ?_, trivial⟩
                        all_goals (intro u W2 hb2 hd; simp [Deps, Region.binds, Sp.eq_holds] at hd; simp only [putDeps, dstOf, Region.binds])
                        case refine_1 =>
                          go_wp2_with (fail); exact RelEnd.mk rfl (Below.refl _ _) rfl
                        case refine_2 =>
                          go_wp2_with (fail); exact RelEnd.mk rfl (Below.refl _ _) rfl
                        case refine_3 =>
                          go_wp2_with (fail); exact RelEnd.mk rfl (Below.refl _ _) rfl
                        case refine_4 =>
                          go_wp2_with (fail); exact RelEnd.mk rfl (Below.refl _ _) rfl
                        case refine_5 =>
                          go_wp2_with (fail); exact RelEnd.mk rfl (Below.refl _ _) rfl
                        case refine_6 =>
                          go_wp2_with (fail); exact RelEnd.mk rfl (Below.refl _ _) rfl
                        case refine_7 =>
                          go_wp2_with (fail); exact RelEnd.mk rfl (Below.refl _ _) rfl
                        case refine_8 =>
                          go_wp2_with (with_reducible refine stop_loadG 47 _ rfl ?_)
                          refine Stop.mk (wpList_loadAtG (by simp [Region.wanted, yielded]) _ _ rfl p8 0 rfl (xq.1.arr A8 c8) ((BB.out.1.below hb2 BB.out.1.lt).all) strRp (rfl) ?_)
                          go_wp2_with (fail); exact RelEnd.mk rfl (Below.refl _ _) rfl
                        case refine_9 =>
                          go_wp2_with (fail); exact RelEnd.mk rfl (Below.refl _ _) rfl
                        case refine_10 =>
                          go_wp2_with (fail); exact RelEnd.mk rfl (Below.refl _ _) rfl
                        case refine_11 =>
                          go_wp2_with (with_reducible refine stop_loadG 47 _ rfl ?_)
                          refine Stop.mk (wpList_loadAtG (by simp [Region.wanted, yielded]) _ _ rfl q (dev * 10) rfl (xq.1.arr xq.2.1 xq.2.2) (PQ.out W2 hb2) strRp (rfl) ?_)
                          go_wp2_with (fail); exact RelEnd.mk rfl (Below.refl _ _) rfl
                        case refine_12 =>
                          go_wp2_with (go_at_call 21; refine (c_ref30_Same xq.1 xq.1 A8 xq.2.1 c8 xq.2.2 _ (BB.out.2.2.1.below hb2) (BB.out.2.2.2.2.below hb2)).mono ?_; rintro e3 W3 ⟨rfl, hb3⟩)
                          first | exact RelEnd.mk rfl hb3 rfl | (rw [decide_eq_true (rfl : xq.1 = xq.1)]; exact RelEnd.mk rfl hb3 rfl)
                        case refine_13 =>
                          go_wp2_with (fail); exact RelEnd.mk rfl (Below.refl _ _) rfl
                        case refine_14 =>
                          go_wp2_with (fail); exact RelEnd.mk rfl (Below.refl _ _) rfl
                        case refine_15 =>
                          go_wp2_with (fail); exact RelEnd.mk rfl (Below.refl _ _) rfl
                        case refine_16 =>
                          go_wp2_with (with_reducible refine stop_loadG 47 _ rfl ?_)
                          refine Stop.mk (wpList_loadAtG (by simp [Region.wanted, yielded]) _ _ rfl p10 0 rfl (xq.1.arr A10 c10) ((BB.out.2.1.below hb2 BB.out.2.1.lt).all) strRp (rfl) ?_)
                          go_wp2_with (fail); exact RelEnd.mk rfl (Below.refl _ _) rfl
                        case refine_17 =>
                          go_wp2_with (fail); exact RelEnd.mk rfl (Below.refl _ _) rfl
                        case refine_18 =>
                          go_wp2_with (fail); exact RelEnd.mk rfl (Below.refl _ _) rfl
                        case refine_19 =>
                          go_wp2_with (with_reducible refine stop_loadG 47 _ rfl ?_)
                          refine Stop.mk (wpList_loadAtG (by simp [Region.wanted, yielded]) _ _ rfl q (dev * 10) rfl (xq.1.arr xq.2.1 xq.2.2) (PQ.out W2 hb2) strRp (rfl) ?_)
                          go_wp2_with (fail); exact RelEnd.mk rfl (Below.refl _ _) rfl
                        case refine_20 =>
                          go_wp2_with (go_at_call 21; refine (c_ref30_Same xq.1 xq.1 A10 xq.2.1 c10 xq.2.2 _ (BB.out.2.2.2.1.below hb2) (BB.out.2.2.2.2.below hb2)).mono ?_; rintro e3 W3 ⟨rfl, hb3⟩)
                          first | exact RelEnd.mk rfl hb3 rfl | (rw [decide_eq_true (rfl : xq.1 = xq.1)]; exact RelEnd.mk rfl hb3 rfl)
                        case refine_21 =>
                          go_wp2_with (fail); exact RelEnd.mk rfl (Below.refl _ _) rfl
                        case refine_22 =>
                          go_wp2_with (fail); exact RelEnd.mk rfl (Below.refl _ _) rfl
                      · intro u W2 hb2 hold
                        simp only [RelHold, Sp.eq_holds, Nat.reduceAdd] at hold
                        obtain ⟨-, -, -, -, -, -, -, -, -, -, -, -, -, -, -, -, -, -, -, -, -, hE, -⟩ := hold
                        simp only [putAll, Act.put, Nat.reduceAdd, List.setIfInBounds_toArray, List.set_cons_zero, List.set_cons_succ]
                        rw [hE]
                        have T2 := Lib.hid (T.out.step hb2)
                        have h6 : dev < 6 := HD6.out
                        clear hb2 T BB PQ XF
                        go_wp2_with (fail)
                        go_roundw
                        case rel => exact ⟨dev + 1, by omega, by go_num, T2.out⟩
                        case measure => simp [intOf]; omega
                  · have dd : decide ((dev : Int) < 6) = false := by simp; omega
                    clear h6
                    have h4 : k < 200 := HLT.out
                    go_wp2_with (fail)
                    go_roundw
                    case rel => exact ⟨k + 1, _, _, by omega, by go_num, T.out⟩
                    case measure => simp [intOf]; omega
          · have j0 : (kind == 1) = false := by simpa using h0
            have j1 : decide (1 < kind) = true := by simpa using h1
            clear h0 h1
            obtain ⟨q0, q1, q2, q3, q4, q5, q6, q7, q8, q9⟩ := rep_cells BP.out
            go_wp2_with (fail)
            refine (c_ledger_Raise g lg a.dev _ S.out.L S.out.pos).mono ?_
            rintro e w9 ⟨rfl, hk9, lg2, L9, r9, o9⟩
            obtain ⟨ls2, hls2⟩ : ∃ x, x = ls := ⟨_, rfl⟩
            replace S := Lib.hid (show LO w w9 g q lg2 ls2 by rw [hls2]; exact S.out.raise hk9 L9 r9 (o9 q S.out.off))
            clear hk9 L9 r9 o9 hls2 kq BP
            clear q0 q1 q2 q3 q4 q5 q6 q7 q8 q9
            go_wp2_with (fail)
            go_loopw [7] (fun v wr => ∃ dev : Nat, dev ≤ 6 ∧ v = .int .i64 dev ∧ Hid (LO w wr g q lg2 ls2))
              (fun v _ => 6 - (intOf v).toNat)
            case atStart => exact ⟨0, by omega, rfl, S.out⟩
            case round =>
              obtain ⟨dev, hdev, rfl, T⟩ := hrel
              clear S
              by_cases h6 : dev < 6
              · have dd : decide ((dev : Int) < 6) = true := by simp; omega
                have HD6 := Lib.hid h6
                have hkl : dev < ls2.length := by rw [T.out.len]; exact h6
                have HKL := Lib.hid hkl
                have PQ0 := Lib.hid (show ∀ wz, Below wr.heap.size wr wz → ∀ j u, ((ls2[dev]'hkl).1.arr (ls2[dev]'hkl).2.1 (ls2[dev]'hkl).2.2)[j]? = some u → wz.cell? ⟨q, dev * 10 + j, none⟩ = some u from fun wz hz j u hu => la_part hkl (T.out.Q.below hz T.out.Q.lt) j u hu)
                have hq := T.out.Q.lt
                have AK0 := Lib.hid (fun h0 => T.out.ask hkl h0)
                have XI := Lib.hid (show InN w (ls2[dev]'hkl).2.1 (ls2[dev]'hkl).2.2 (ls2[dev]'hkl).1.f from T.out.inn _ (List.getElem_mem hkl))
                have XB := Lib.hid (show (ls2[dev]'hkl).1.f.length ≤ 1000000 from by have := (T.out.row dev hkl).1; rw [this]; exact rowAt_mem (fun x => x.a.f.length ≤ 1000000) T.out.fit (by simp))
                obtain ⟨xq, hxq⟩ : ∃ x, x = ls2[dev]'hkl := ⟨_, rfl⟩
                rw [← hxq] at PQ0 AK0 XI XB
                have XF := Lib.hid XB.out
                clear hxq hkl h6 XB
                have c2 := PQ0.out wr (Below.refl _ _) 2 _ rfl
                have ff := fun i => T.out.Q.frozen i
                by_cases hz : xq.1.req = 0
                · have jz : (xq.1.req == 0) = true := by simpa using hz
                  clear hz AK0 PQ0
                  have h6 : dev < 6 := HD6.out
                  go_wp2_with (fail)
                  go_roundw
                  case rel => exact ⟨dev + 1, by omega, by go_num, T.out⟩
                  case measure => simp [intOf]; omega
                · have jz : (xq.1.req == 0) = false := by simpa using hz
                  have AE := Lib.hid (AK0.out hz)
                  have KA := Lib.hid (fun wz (hz : Lg wz g lg2) => c_ledger_Ask g lg2 dev xq.1.req wz hz)
                  have h6 : dev < 6 := HD6.out
                  have TB := Lib.hid (T.out.step (Below.refl _ _))
                  clear hz AK0
                  have P0 := Lib.hid (Below.refl wr.heap.size wr)
                  go_wp2_with (fail)
                  refine (KA.out _ T.out.L).mono ?_
                  rintro e w8 ⟨A8, c8, rfl, own8, hb8⟩
                  rw [AE.out.1]
                  rw [AE.out.2] at own8 ⊢
                  replace T := Lib.hid (T.out.step hb8)
                  go_wp2_with (with_reducible refine stop_store 47 (.tmp 8) (.tmp 93) rfl rfl ?_)
                  refine Stop.mk (wpList_storeB rfl _ _ _ rfl w8.heap.size _ rfl rfl _ (Blk.new _ _ _) strRp rfl rfl (by simp [Value.oneCell']) ?_)
                  intro w9 hb9 hk9
                  have PB := Lib.hid (hb8.trans ((fresh_below hk9).mono hb8.size))
                  replace T := Lib.hid (T.out.step (fresh_below hk9))
                  have O8 := Lib.hid (own_below own8 (fresh_below hk9))
                  have D8 := Lib.hid hb9
                  obtain ⟨p8, hp8⟩ : ∃ p, p = w8.heap.size := ⟨_, rfl⟩
                  rw [← hp8] at D8 ⊢
                  clear hb8 hb9 hk9 own8 hp8 c2 ff P0
                  have c2 := PQ0.out _ PB.out 2 _ rfl
                  have ff := fun i => T.out.Q.frozen i
                  have hq9 := T.out.Q.lt
                  go_wp2_with (fail)
                  refine (KA.out _ T.out.L).mono ?_
                  rintro e w10 ⟨A10, c10, rfl, own10, hb10⟩
                  rw [AE.out.1]
                  rw [AE.out.2] at own10 ⊢
                  replace T := Lib.hid (T.out.step hb10)
                  go_wp2_with (with_reducible refine stop_store 47 (.tmp 10) (.tmp 103) rfl rfl ?_)
                  refine Stop.mk (wpList_storeB rfl _ _ _ rfl w10.heap.size _ rfl rfl _ (Blk.new _ _ _) strRp rfl rfl (by simp [Value.oneCell']) ?_)
                  intro w11 hb11 hk11
                  have PB2 := Lib.hid (PB.out.trans ((hb10.trans ((fresh_below hk11).mono hb10.size)).mono PB.out.size))
                  replace T := Lib.hid (T.out.step (fresh_below hk11))
                  have O8' := Lib.hid (own_below (own_below O8.out hb10) (fresh_below hk11))
                  have O10 := Lib.hid (own_below own10 (fresh_below hk11))
                  have D8' := Lib.hid ((D8.out.below hb10 D8.out.lt).below (fresh_below hk11) (Nat.lt_of_lt_of_le D8.out.lt hb10.size))
                  have D10 := Lib.hid hb11
                  obtain ⟨p10, hp10⟩ : ∃ p, p = w10.heap.size := ⟨_, rfl⟩
                  rw [← hp10] at D10 ⊢
                  have BB := Lib.hid (show Blk w11 p8 (xq.1.arr A8 c8) ∧ Blk w11 p10 (xq.1.arr A10 c10) ∧ InN w11 A8 c8 xq.1.f ∧ InN w11 A10 c10 xq.1.f ∧ InN w11 xq.2.1 xq.2.2 xq.1.f from ⟨D8'.out, D10.out, In.own3R Node.cells_len O8'.out (by have := XF.out; omega), In.own3R Node.cells_len O10.out (by have := XF.out; omega), XI.out.below T.out.below⟩)
                  have PQ := Lib.hid (fun wz hz => PQ0.out wz (PB2.out.trans (Below.mono hz PB2.out.size)))
                  have hqq := T.out.Q.lt
                  have g8 := D8'.out.lt
                  have g10 := D10.out.lt
                  clear hb10 hb11 hk11 own10 hp10 c2 ff PB PB2 O8 O8' O10 D8 D8' D10 PQ0 KA AE XI TB hq9 hq
                  go_wp2_with (fail)
                  refine wp_region_rel [Sp.eq (.int .i64 7), Sp.eq (.bool false), Sp.eq (.bool false), Sp.eq (.int .i64 7), Sp.eq (.bool false), Sp.eq (.bool false), Sp.eq (.bool false), Sp.eq (.agg (xq.1.arr A8 c8)), Sp.eq (.int .i64 dev), Sp.eq (.pointer (some ⟨q, dev * 10, none⟩)), Sp.eq (.agg (xq.1.arr xq.2.1 xq.2.2)), Sp.eq (.bool true), Sp.eq (.bool false), Sp.eq (.bool false), Sp.eq (.bool false), Sp.eq (.agg (xq.1.arr A10 c10)), Sp.eq (.int .i64 dev), Sp.eq (.pointer (some ⟨q, dev * 10, none⟩)), Sp.eq (.agg (xq.1.arr xq.2.1 xq.2.2)), Sp.eq (.bool true), Sp.eq (.bool false), Sp.eq (.bool false)] 128 (by kernel_rfl) (by kernel_rfl) rfl rfl ?_ ?_
                  · refine ⟨?_, ?_, ?_, ?_, ?_, ?_, ?_, ?_, ?_, ?_, ?_, ?_, ?_, ?_, ?_, ?_, ?_, ?_, ?_, ?_, ?_, ?_, trivial⟩
                    all_goals (intro u W2 hb2 hd; simp [Deps, Region.binds, Sp.eq_holds] at hd; simp only [putDeps, dstOf, Region.binds])
                    case refine_1 =>
                      go_wp2_with (fail); exact RelEnd.mk rfl (Below.refl _ _) rfl
                    case refine_2 =>
                      go_wp2_with (fail); exact RelEnd.mk rfl (Below.refl _ _) rfl
                    case refine_3 =>
                      go_wp2_with (fail); exact RelEnd.mk rfl (Below.refl _ _) rfl
                    case refine_4 =>
                      go_wp2_with (fail); exact RelEnd.mk rfl (Below.refl _ _) rfl
                    case refine_5 =>
                      go_wp2_with (fail); exact RelEnd.mk rfl (Below.refl _ _) rfl
                    case refine_6 =>
                      go_wp2_with (fail); exact RelEnd.mk rfl (Below.refl _ _) rfl
                    case refine_7 =>
                      go_wp2_with (fail); exact RelEnd.mk rfl (Below.refl _ _) rfl
                    case refine_8 =>
                      go_wp2_with (with_reducible refine stop_loadG 47 _ rfl ?_)
                      refine Stop.mk (wpList_loadAtG (by simp [Region.wanted, yielded]) _ _ rfl p8 0 rfl (xq.1.arr A8 c8) ((BB.out.1.below hb2 BB.out.1.lt).all) strRp (rfl) ?_)
                      go_wp2_with (fail); exact RelEnd.mk rfl (Below.refl _ _) rfl
                    case refine_9 =>
                      go_wp2_with (fail); exact RelEnd.mk rfl (Below.refl _ _) rfl
                    case refine_10 =>
                      go_wp2_with (fail); exact RelEnd.mk rfl (Below.refl _ _) rfl
                    case refine_11 =>
                      go_wp2_with (with_reducible refine stop_loadG 47 _ rfl ?_)
                      refine Stop.mk (wpList_loadAtG (by simp [Region.wanted, yielded]) _ _ rfl q (dev * 10) rfl (xq.1.arr xq.2.1 xq.2.2) (PQ.out W2 hb2) strRp (rfl) ?_)
                      go_wp2_with (fail); exact RelEnd.mk rfl (Below.refl _ _) rfl
                    case refine_12 =>
                      go_wp2_with (go_at_call 21; refine (c_ref30_Same xq.1 xq.1 A8 xq.2.1 c8 xq.2.2 _ (BB.out.2.2.1.below hb2) (BB.out.2.2.2.2.below hb2)).mono ?_; rintro e3 W3 ⟨rfl, hb3⟩)
                      first | exact RelEnd.mk rfl hb3 rfl | (rw [decide_eq_true (rfl : xq.1 = xq.1)]; exact RelEnd.mk rfl hb3 rfl)
                    case refine_13 =>
                      go_wp2_with (fail); exact RelEnd.mk rfl (Below.refl _ _) rfl
                    case refine_14 =>
                      go_wp2_with (fail); exact RelEnd.mk rfl (Below.refl _ _) rfl
                    case refine_15 =>
                      go_wp2_with (fail); exact RelEnd.mk rfl (Below.refl _ _) rfl
                    case refine_16 =>
                      go_wp2_with (with_reducible refine stop_loadG 47 _ rfl ?_)
                      refine Stop.mk (wpList_loadAtG (by simp [Region.wanted, yielded]) _ _ rfl p10 0 rfl (xq.1.arr A10 c10) ((BB.out.2.1.below hb2 BB.out.2.1.lt).all) strRp (rfl) ?_)
                      go_wp2_with (fail); exact RelEnd.mk rfl (Below.refl _ _) rfl
                    case refine_17 =>
                      go_wp2_with (fail); exact RelEnd.mk rfl (Below.refl _ _) rfl
                    case refine_18 =>
                      go_wp2_with (fail); exact RelEnd.mk rfl (Below.refl _ _) rfl
                    case refine_19 =>
                      go_wp2_with (with_reducible refine stop_loadG 47 _ rfl ?_)
                      refine Stop.mk (wpList_loadAtG (by simp [Region.wanted, yielded]) _ _ rfl q (dev * 10) rfl (xq.1.arr xq.2.1 xq.2.2) (PQ.out W2 hb2) strRp (rfl) ?_)
                      go_wp2_with (fail); exact RelEnd.mk rfl (Below.refl _ _) rfl
                    case refine_20 =>
                      go_wp2_with (go_at_call 21; refine (c_ref30_Same xq.1 xq.1 A10 xq.2.1 c10 xq.2.2 _ (BB.out.2.2.2.1.below hb2) (BB.out.2.2.2.2.below hb2)).mono ?_; rintro e3 W3 ⟨rfl, hb3⟩)
                      first | exact RelEnd.mk rfl hb3 rfl | (rw [decide_eq_true (rfl : xq.1 = xq.1)]; exact RelEnd.mk rfl hb3 rfl)
                    case refine_21 =>
                      go_wp2_with (fail); exact RelEnd.mk rfl (Below.refl _ _) rfl
                    case refine_22 =>
                      go_wp2_with (fail); exact RelEnd.mk rfl (Below.refl _ _) rfl
                  · intro u W2 hb2 hold
                    simp only [RelHold, Sp.eq_holds, Nat.reduceAdd] at hold
                    obtain ⟨-, -, -, -, -, -, -, -, -, -, -, -, -, -, -, -, -, -, -, -, -, hE, -⟩ := hold
                    simp only [putAll, Act.put, Nat.reduceAdd, List.setIfInBounds_toArray, List.set_cons_zero, List.set_cons_succ]
                    rw [hE]
                    have T2 := Lib.hid (T.out.step hb2)
                    have h6 : dev < 6 := HD6.out
                    clear hb2 T BB PQ XF
                    go_wp2_with (fail)
                    go_roundw
                    case rel => exact ⟨dev + 1, by omega, by go_num, T2.out⟩
                    case measure => simp [intOf]; omega
              · have dd : decide ((dev : Int) < 6) = false := by simp; omega
                clear h6
                have h4 : k < 200 := HLT.out
                go_wp2_with (fail)
                go_roundw
                case rel => exact ⟨k + 1, _, _, by omega, by go_num, T.out⟩
                case measure => simp [intOf]; omega
          · have j0 : (kind == 1) = false := by simpa using h0
            have j1 : decide (1 < kind) = false := by simpa using h1
            clear h0 h1
            obtain ⟨ls2, hls2⟩ : ∃ x, x = ls := ⟨_, rfl⟩
            obtain ⟨lg2, hlg2⟩ : ∃ x, x = lg := ⟨_, rfl⟩
            rw [← hls2, ← hlg2] at S
            clear hls2 hlg2 BP
            go_wp2_with (fail)
            go_loopw [7] (fun v wr => ∃ dev : Nat, dev ≤ 6 ∧ v = .int .i64 dev ∧ Hid (LO w wr g q lg2 ls2))
              (fun v _ => 6 - (intOf v).toNat)
            case atStart => exact ⟨0, by omega, rfl, S.out⟩
            case round =>
              obtain ⟨dev, hdev, rfl, T⟩ := hrel
              clear S
              by_cases h6 : dev < 6
              · have dd : decide ((dev : Int) < 6) = true := by simp; omega
                have HD6 := Lib.hid h6
                have hkl : dev < ls2.length := by rw [T.out.len]; exact h6
                have HKL := Lib.hid hkl
                have PQ0 := Lib.hid (show ∀ wz, Below wr.heap.size wr wz → ∀ j u, ((ls2[dev]'hkl).1.arr (ls2[dev]'hkl).2.1 (ls2[dev]'hkl).2.2)[j]? = some u → wz.cell? ⟨q, dev * 10 + j, none⟩ = some u from fun wz hz j u hu => la_part hkl (T.out.Q.below hz T.out.Q.lt) j u hu)
                have hq := T.out.Q.lt
                have AK0 := Lib.hid (fun h0 => T.out.ask hkl h0)
                have XI := Lib.hid (show InN w (ls2[dev]'hkl).2.1 (ls2[dev]'hkl).2.2 (ls2[dev]'hkl).1.f from T.out.inn _ (List.getElem_mem hkl))
                have XB := Lib.hid (show (ls2[dev]'hkl).1.f.length ≤ 1000000 from by have := (T.out.row dev hkl).1; rw [this]; exact rowAt_mem (fun x => x.a.f.length ≤ 1000000) T.out.fit (by simp))
                obtain ⟨xq, hxq⟩ : ∃ x, x = ls2[dev]'hkl := ⟨_, rfl⟩
                rw [← hxq] at PQ0 AK0 XI XB
                have XF := Lib.hid XB.out
                clear hxq hkl h6 XB
                have c2 := PQ0.out wr (Below.refl _ _) 2 _ rfl
                have ff := fun i => T.out.Q.frozen i
                by_cases hz : xq.1.req = 0
                · have jz : (xq.1.req == 0) = true := by simpa using hz
                  clear hz AK0 PQ0
                  have h6 : dev < 6 := HD6.out
                  go_wp2_with (fail)
                  go_roundw
                  case rel => exact ⟨dev + 1, by omega, by go_num, T.out⟩
                  case measure => simp [intOf]; omega
                · have jz : (xq.1.req == 0) = false := by simpa using hz
                  have AE := Lib.hid (AK0.out hz)
                  have KA := Lib.hid (fun wz (hz : Lg wz g lg2) => c_ledger_Ask g lg2 dev xq.1.req wz hz)
                  have h6 : dev < 6 := HD6.out
                  have TB := Lib.hid (T.out.step (Below.refl _ _))
                  clear hz AK0
                  have P0 := Lib.hid (Below.refl wr.heap.size wr)
                  go_wp2_with (fail)
                  refine (KA.out _ T.out.L).mono ?_
                  rintro e w8 ⟨A8, c8, rfl, own8, hb8⟩
                  rw [AE.out.1]
                  rw [AE.out.2] at own8 ⊢
                  replace T := Lib.hid (T.out.step hb8)
                  go_wp2_with (with_reducible refine stop_store 47 (.tmp 8) (.tmp 93) rfl rfl ?_)
                  refine Stop.mk (wpList_storeB rfl _ _ _ rfl w8.heap.size _ rfl rfl _ (Blk.new _ _ _) strRp rfl rfl (by simp [Value.oneCell']) ?_)
                  intro w9 hb9 hk9
                  have PB := Lib.hid (hb8.trans ((fresh_below hk9).mono hb8.size))
                  replace T := Lib.hid (T.out.step (fresh_below hk9))
                  have O8 := Lib.hid (own_below own8 (fresh_below hk9))
                  have D8 := Lib.hid hb9
                  obtain ⟨p8, hp8⟩ : ∃ p, p = w8.heap.size := ⟨_, rfl⟩
                  rw [← hp8] at D8 ⊢
                  clear hb8 hb9 hk9 own8 hp8 c2 ff P0
                  have c2 := PQ0.out _ PB.out 2 _ rfl
                  have ff := fun i => T.out.Q.frozen i
                  have hq9 := T.out.Q.lt
                  go_wp2_with (fail)
                  refine (KA.out _ T.out.L).mono ?_
                  rintro e w10 ⟨A10, c10, rfl, own10, hb10⟩
                  rw [AE.out.1]
                  rw [AE.out.2] at own10 ⊢
                  replace T := Lib.hid (T.out.step hb10)
                  go_wp2_with (with_reducible refine stop_store 47 (.tmp 10) (.tmp 103) rfl rfl ?_)
                  refine Stop.mk (wpList_storeB rfl _ _ _ rfl w10.heap.size _ rfl rfl _ (Blk.new _ _ _) strRp rfl rfl (by simp [Value.oneCell']) ?_)
                  intro w11 hb11 hk11
                  have PB2 := Lib.hid (PB.out.trans ((hb10.trans ((fresh_below hk11).mono hb10.size)).mono PB.out.size))
                  replace T := Lib.hid (T.out.step (fresh_below hk11))
                  have O8' := Lib.hid (own_below (own_below O8.out hb10) (fresh_below hk11))
                  have O10 := Lib.hid (own_below own10 (fresh_below hk11))
                  have D8' := Lib.hid ((D8.out.below hb10 D8.out.lt).below (fresh_below hk11) (Nat.lt_of_lt_of_le D8.out.lt hb10.size))
                  have D10 := Lib.hid hb11
                  obtain ⟨p10, hp10⟩ : ∃ p, p = w10.heap.size := ⟨_, rfl⟩
                  rw [← hp10] at D10 ⊢
                  have BB := Lib.hid (show Blk w11 p8 (xq.1.arr A8 c8) ∧ Blk w11 p10 (xq.1.arr A10 c10) ∧ InN w11 A8 c8 xq.1.f ∧ InN w11 A10 c10 xq.1.f ∧ InN w11 xq.2.1 xq.2.2 xq.1.f from ⟨D8'.out, D10.out, In.own3R Node.cells_len O8'.out (by have := XF.out; omega), In.own3R Node.cells_len O10.out (by have := XF.out; omega), XI.out.below T.out.below⟩)
                  have PQ := Lib.hid (fun wz hz => PQ0.out wz (PB2.out.trans (Below.mono hz PB2.out.size)))
                  have hqq := T.out.Q.lt
                  have g8 := D8'.out.lt
                  have g10 := D10.out.lt
                  clear hb10 hb11 hk11 own10 hp10 c2 ff PB PB2 O8 O8' O10 D8 D8' D10 PQ0 KA AE XI TB hq9 hq
                  go_wp2_with (fail)
                  refine wp_region_rel [Sp.eq (.int .i64 7), Sp.eq (.bool false), Sp.eq (.bool false), Sp.eq (.int .i64 7), Sp.eq (.bool false), Sp.eq (.bool false), Sp.eq (.bool false), Sp.eq (.agg (xq.1.arr A8 c8)), Sp.eq (.int .i64 dev), Sp.eq (.pointer (some ⟨q, dev * 10, none⟩)), Sp.eq (.agg (xq.1.arr xq.2.1 xq.2.2)), Sp.eq (.bool true), Sp.eq (.bool false), Sp.eq (.bool false), Sp.eq (.bool false), Sp.eq (.agg (xq.1.arr A10 c10)), Sp.eq (.int .i64 dev), Sp.eq (.pointer (some ⟨q, dev * 10, none⟩)), Sp.eq (.agg (xq.1.arr xq.2.1 xq.2.2)), Sp.eq (.bool true), Sp.eq (.bool false), Sp.eq (.bool false)] 128 (by kernel_rfl) (by kernel_rfl) rfl rfl ?_ ?_
                  · refine ⟨?_, ?_, ?_, ?_, ?_, ?_, ?_, ?_, ?_, ?_, ?_, ?_, ?_, ?_, ?_, ?_, ?_, ?_, ?_, ?_, ?_, ?_, trivial⟩
                    all_goals (intro u W2 hb2 hd; simp [Deps, Region.binds, Sp.eq_holds] at hd; simp only [putDeps, dstOf, Region.binds])
                    case refine_1 =>
                      go_wp2_with (fail); exact RelEnd.mk rfl (Below.refl _ _) rfl
                    case refine_2 =>
                      go_wp2_with (fail); exact RelEnd.mk rfl (Below.refl _ _) rfl
                    case refine_3 =>
                      go_wp2_with (fail); exact RelEnd.mk rfl (Below.refl _ _) rfl
                    case refine_4 =>
                      go_wp2_with (fail); exact RelEnd.mk rfl (Below.refl _ _) rfl
                    case refine_5 =>
                      go_wp2_with (fail); exact RelEnd.mk rfl (Below.refl _ _) rfl
                    case refine_6 =>
                      go_wp2_with (fail); exact RelEnd.mk rfl (Below.refl _ _) rfl
                    case refine_7 =>
                      go_wp2_with (fail); exact RelEnd.mk rfl (Below.refl _ _) rfl
                    case refine_8 =>
                      go_wp2_with (with_reducible refine stop_loadG 47 _ rfl ?_)
                      refine Stop.mk (wpList_loadAtG (by simp [Region.wanted, yielded]) _ _ rfl p8 0 rfl (xq.1.arr A8 c8) ((BB.out.1.below hb2 BB.out.1.lt).all) strRp (rfl) ?_)
                      go_wp2_with (fail); exact RelEnd.mk rfl (Below.refl _ _) rfl
                    case refine_9 =>
                      go_wp2_with (fail); exact RelEnd.mk rfl (Below.refl _ _) rfl
                    case refine_10 =>
                      go_wp2_with (fail); exact RelEnd.mk rfl (Below.refl _ _) rfl
                    case refine_11 =>
                      go_wp2_with (with_reducible refine stop_loadG 47 _ rfl ?_)
                      refine Stop.mk (wpList_loadAtG (by simp [Region.wanted, yielded]) _ _ rfl q (dev * 10) rfl (xq.1.arr xq.2.1 xq.2.2) (PQ.out W2 hb2) strRp (rfl) ?_)
                      go_wp2_with (fail); exact RelEnd.mk rfl (Below.refl _ _) rfl
                    case refine_12 =>
                      go_wp2_with (go_at_call 21; refine (c_ref30_Same xq.1 xq.1 A8 xq.2.1 c8 xq.2.2 _ (BB.out.2.2.1.below hb2) (BB.out.2.2.2.2.below hb2)).mono ?_; rintro e3 W3 ⟨rfl, hb3⟩)
                      first | exact RelEnd.mk rfl hb3 rfl | (rw [decide_eq_true (rfl : xq.1 = xq.1)]; exact RelEnd.mk rfl hb3 rfl)
                    case refine_13 =>
                      go_wp2_with (fail); exact RelEnd.mk rfl (Below.refl _ _) rfl
                    case refine_14 =>
                      go_wp2_with (fail); exact RelEnd.mk rfl (Below.refl _ _) rfl
                    case refine_15 =>
                      go_wp2_with (fail); exact RelEnd.mk rfl (Below.refl _ _) rfl
                    case refine_16 =>
                      go_wp2_with (with_reducible refine stop_loadG 47 _ rfl ?_)
                      refine Stop.mk (wpList_loadAtG (by simp [Region.wanted, yielded]) _ _ rfl p10 0 rfl (xq.1.arr A10 c10) ((BB.out.2.1.below hb2 BB.out.2.1.lt).all) strRp (rfl) ?_)
                      go_wp2_with (fail); exact RelEnd.mk rfl (Below.refl _ _) rfl
                    case refine_17 =>
                      go_wp2_with (fail); exact RelEnd.mk rfl (Below.refl _ _) rfl
                    case refine_18 =>
                      go_wp2_with (fail); exact RelEnd.mk rfl (Below.refl _ _) rfl
                    case refine_19 =>
                      go_wp2_with (with_reducible refine stop_loadG 47 _ rfl ?_)
                      refine Stop.mk (wpList_loadAtG (by simp [Region.wanted, yielded]) _ _ rfl q (dev * 10) rfl (xq.1.arr xq.2.1 xq.2.2) (PQ.out W2 hb2) strRp (rfl) ?_)
                      go_wp2_with (fail); exact RelEnd.mk rfl (Below.refl _ _) rfl
                    case refine_20 =>
                      go_wp2_with (go_at_call 21; refine (c_ref30_Same xq.1 xq.1 A10 xq.2.1 c10 xq.2.2 _ (BB.out.2.2.2.1.below hb2) (BB.out.2.2.2.2.below hb2)).mono ?_; rintro e3 W3 ⟨rfl, hb3⟩)
                      first | exact RelEnd.mk rfl hb3 rfl | (rw [decide_eq_true (rfl : xq.1 = xq.1)]; exact RelEnd.mk rfl hb3 rfl)
                    case refine_21 =>
                      go_wp2_with (fail); exact RelEnd.mk rfl (Below.refl _ _) rfl
                    case refine_22 =>
                      go_wp2_with (fail); exact RelEnd.mk rfl (Below.refl _ _) rfl
                  · intro u W2 hb2 hold
                    simp only [RelHold, Sp.eq_holds, Nat.reduceAdd] at hold
                    obtain ⟨-, -, -, -, -, -, -, -, -, -, -, -, -, -, -, -, -, -, -, -, -, hE, -⟩ := hold
                    simp only [putAll, Act.put, Nat.reduceAdd, List.setIfInBounds_toArray, List.set_cons_zero, List.set_cons_succ]
                    rw [hE]
                    have T2 := Lib.hid (T.out.step hb2)
                    have h6 : dev < 6 := HD6.out
                    clear hb2 T BB PQ XF
                    go_wp2_with (fail)
                    go_roundw
                    case rel => exact ⟨dev + 1, by omega, by go_num, T2.out⟩
                    case measure => simp [intOf]; omega
              · have dd : decide ((dev : Int) < 6) = false := by simp; omega
                clear h6
                have h4 : k < 200 := HLT.out
                go_wp2_with (fail)
                go_roundw
                case rel => exact ⟨k + 1, _, _, by omega, by go_num, T.out⟩
                case measure => simp [intOf]; omega
      · have d2 : decide ((k : Int) < 200) = false := by simp; omega
        clear h1 h2
        clear D
        go_wp2_with (fail)
        refine (c_law30_awake _).mono ?_
        rintro e w7 ⟨rfl, hb7⟩
        go_wp2_with (fail)
        go_ret
        exact RetV.bool rfl (S0.out.below.trans (hb7.mono S0.out.below.size))
    · have d1 : decide (k < n) = false := by simpa using h1
      clear h1
      clear D
      go_wp2_with (fail)
      refine (c_law30_awake _).mono ?_
      rintro e w7 ⟨rfl, hb7⟩
      go_wp2_with (fail)
      go_ret
      exact RetV.bool rfl (S0.out.below.trans (hb7.mono S0.out.below.size))
end Go.Proofs.Ytjhndilflcigiaa
