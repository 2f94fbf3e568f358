/-
  Lemmas (walks and plain laws), in one text.
-/
import Derived.Test.YtiedkcijjfmhaaaGreatDoorSr3
import Derived.Test.YtiedkcijjfmhaaaGreatDoorSr20
import Derived.Test.YtiedkcijjfmhaaaGreatDoorSr22
import Derived.Test.YtiedkcijjfmhaaaGreatDoorSr23
namespace Go.Proofs.YtiedkcijjfmhaaaGreatDoor
open Go.RowKit

theorem elemOpZ : Elem Tryz.prog 27 55 63 656 := Elem.mk' (z := .agg (dz.arr wz)) Tryz.underlying27 (by rw [dz_arr0]; kernel_rfl) (Deed.arr_size dz_wf) (by omega) (by omega)
theorem OwnD.appR {w w' : World} {B b2 s2 n2 : Nat} {x : DQ} {v2 : Value} {x2 : List Value} (h : OwnD w B x) (o : w.ownsRow b2 55 s2 v2 n2 x2) (hg : w.grownBy w' v2.ownBlock) : OwnD w' B x :=
  ⟨own_kept_ne h.1 o (by decide) hg, own_kept_ne h.2 o (by decide) hg⟩
/-- The state of the loop: what is read so far; where nothing was wrong it is the acts. -/
structure DR (w w' : World) (g B : Nat) (S : Rd) (A : Option Addr) (c : Nat) (l : List DQ) : Prop where
  below : Below w.heap.size w w'
  rd : RdR w' g S
  hB : B ≤ w'.heap.size
  own : w'.ownsRow B 55 63 (.slice A l.length c) l.length (l.flatMap DQ.cells)
  each : ∀ x ∈ l, OwnD w' B x
  small : ∀ x ∈ l, x.o.f.length ≤ 31 ∧ x.o.keep.length ≤ 40
  fit : S.e = 0 → ∀ x ∈ l, x.o.fit
  hg : w.heap.size ≤ g
  gB : g < B
section
variable {w w1 w2 : World} {g B : Nat} {S S' : Rd} {A A' : Option Addr} {c c' : Nat} {l : List DQ}
theorem DR.step (h : DR w w1 g B S A c l) (hb : Below w1.heap.size w1 w2) : DR w w2 g B S A c l :=
  ⟨h.below.trans (hb.mono h.below.size), h.rd.below hb, Nat.le_trans h.hB hb.size, own_below h.own hb, fun x hx => (h.each x hx).below hb, h.small, h.fit, h.hg, h.gB⟩
theorem DR.inQ (h : DR w w1 g B S A c l) (he : S.e = 0) (hl : l.length ≤ 400) : InQ w1 A c l :=
  ⟨In.own4 DQ.cells_len h.own (by omega), h.fit he, fun x hx => (h.each x hx).at_ (h.small x hx).1 (h.small x hx).2⟩
end
set_option maxHeartbeats 8000000 in
set_option maxRecDepth 10000 in
theorem c_ref47_Decode (s : List UInt8) (w : World) (hs : s.length ≤ 1000000) : Calls Tryz.prog 6 #[.string (str s)] w (RetDec w s) := by
  obtain ⟨N, hN⟩ : ∃ N : Nat, (N : Int) = rdN ⟨s, 0⟩ 400 := ⟨(rdN ⟨s, 0⟩ 400).toNat, by have := rdN_bd ⟨s, 0⟩ 400; omega⟩
  have hN4 := rdN_bd ⟨s, 0⟩ 400
  rw [← hN] at hN4
  have hN40 : N ≤ 400 := by omega
  have HN := Lib.hid hN
  have HSN := Lib.hid (show scN s = N by unfold scN; rw [← hN, Int.toNat_natCast])
  clear hN hN4
  have E0 := Lib.hid (show ∀ (t : TypeId), RdR (w.alloc (.cells #[.string (str s), .int .i64 0] t)) w.heap.size ⟨s, 0⟩ from fun t => ⟨Blk.new _ _ _, by simp only; omega⟩)
  go_enter Tryz.func6, Tryz.ntmps6
  go_wp2_with (fail)
  refine (c_ref01_RNum w.heap.size _ 400 _ (E0.out _)).mono ?_
  rintro e w2 ⟨rfl, hr2, hk2⟩
  rw [← HN.out]
  have hb0 : Below w.heap.size w (w.alloc (.cells #[.string (str s), .int .i64 0] 54)) := (Below.refl _ _).alloc (Nat.le_refl _) _
  have hb2 : Below w.heap.size w w2 := hb0.trans (hk2.oneB hb0.size (Nat.le_refl _))
  have B2 := Lib.hid hb2
  have R2 := Lib.hid hr2
  obtain ⟨g, hg⟩ : ∃ g, g = w.heap.size := ⟨_, rfl⟩
  rw [← hg] at R2 ⊢
  have hgw := Lib.hid (show w.heap.size ≤ g by omega)
  have hgl := Lib.hid (show g < w2.heap.size from R2.out.lt)
  clear hr2 hk2 hb0 hb2 hg E0
  obtain ⟨B, hB⟩ : ∃ B, B = w2.heap.size := ⟨_, rfl⟩
  have HB := Lib.hid hB
  clear hB
  have S0 := Lib.hid (show DR w (w2.alloc (.cells #[] 55)) g B (rdN' ⟨s, 0⟩ 400) (some ⟨w2.heap.size, 0, none⟩) 0 [] from
    ⟨B2.out.alloc B2.out.size _, R2.out.below ((Below.refl _ _).alloc (Nat.le_refl _) _), by rw [HB.out]; simp, World.ownsRow_lit w2 #[] 0 (by rw [HB.out]; exact Nat.le_refl _) (by unfold maxLen; omega) (by simp), (fun _ h => by cases h), (fun _ h => by cases h), (fun _ _ h => by cases h), hgw.out, by rw [HB.out]; exact hgl.out⟩)
  have uc0 := S0.out.rd.1.cell (i := 1) rfl
  clear B2 R2 HB hgw hgl
  go_wp2_with (fail)
  clear uc0
  go_loopw [6, 7] (fun v i wr => ∃ (k : Nat) (A : Option Addr) (c : Nat) (l : List DQ) (S : Rd), k ≤ N ∧ i = .int .i64 k ∧ v = .slice A l.length c ∧ Hid (l.length = k) ∧ Hid (DR w wr g B S A c l) ∧ Hid (S.e = 0 → deeds l ++ rdDeeds (N - k) S = scL s) ∧ Hid (rdDeeds' (N - k) S = scS s)) (fun _ i _ => N - (intOf i).toNat)
  case atStart => exact ⟨0, some ⟨w2.heap.size, 0, none⟩, 0, [], rdN' ⟨s, 0⟩ 400, by omega, rfl, rfl, rfl, S0.out, by unfold scL; rw [HSN.out]; exact fun _ => rfl, by unfold scS; rw [HSN.out]; rfl⟩
  case round =>
    obtain ⟨k, A, c, l, S, hk, rfl, rfl, HLN, D, RL, RS⟩ := hrel
    clear S0
    have hk401 : k < 401 := by omega
    have hll : l.length ≤ 400 := by have := HLN.out; omega
    have uc := D.out.rd.1.cell (i := 1) rfl
    by_cases hlt : k < N
    · have d1 : decide ((k : Int) < (N : Int)) = true := by simp; omega
      by_cases hse : S.e = 0
      · have jE : (S.e == 0) = true := by simpa using hse
        obtain ⟨n, hn⟩ : ∃ n, N - k = n + 1 := ⟨N - k - 1, by omega⟩
        have r1 := RL.out hse
        have r2 := RS.out
        rw [hn] at r1 r2
        have hn2 := Lib.hid (show N - (k + 1) = n by omega)
        obtain ⟨S', hS'⟩ : ∃ S', S' = rdDeed' S := ⟨_, rfl⟩
        have HS := Lib.hid hS'
        have R1 := Lib.hid r1
        have R2 := Lib.hid (show rdDeeds' n S' = scS s by rw [← r2, rdDeeds'_ok hse, hS'])
        obtain ⟨f1, f2, f3⟩ := rdDeed_fit S
        have HFD := Lib.hid f1
        have HSE := Lib.hid hse
        clear r1 r2 hn f1 f2 f3 hse
        go_wp2_with (fail)
        clear uc
        refine (c_ref47_read g S _ D.out.rd).mono ?_
        rintro e w3 ⟨d, q, rfl, hdd, hdw, hf31, hk40, of3, ok3, hr3, hk3⟩
        rw [← hS'] at hr3 hdd
        have hp : ∀ y, some g = some y → y < B := fun y hy => by injection hy with hy; have := D.out.gB; omega
        have hbw := D.out.hB
        obtain ⟨x, hx⟩ : ∃ x : DQ, x = ⟨d, q, hdw⟩ := ⟨_, rfl⟩
        have HXD := Lib.hid (show S'.e = 0 → x.o = rdDeed S by rw [hx]; exact hdd)
        have HXS := Lib.hid (show x.o.f.length ≤ 31 ∧ x.o.keep.length ≤ 40 by rw [hx]; exact ⟨hf31, hk40⟩)
        have D3b := Lib.hid (D.out.below.trans (hk3.oneB D.out.below.size D.out.hg))
        have D3o := Lib.hid (own_kept D.out.own hk3 hp)
        have D3e := Lib.hid (show ∀ y ∈ l, OwnD w3 B y from fun y hy => (D.out.each y hy).kept hk3 hp)
        have D3x := Lib.hid (show OwnD w3 B x by rw [hx]; exact ⟨own_base of3 hbw, own_base ok3 hbw⟩)
        have D3h := Lib.hid (show B ≤ w3.heap.size from Nat.le_trans hbw hk3.size)
        have D3r := Lib.hid hr3
        have hxa : (.agg (d.arr q) : Value) = .agg (x.o.arr x.q) := by rw [hx]
        rw [hxa]
        clear hr3 hk3 of3 ok3 hS' hxa hx hbw hp hdd hdw hf31 hk40
        go_wp2_with (with_reducible refine stop_lit 27 _ rfl ?_)
        refine Stop.mk (wpList_lit1 rfl _ _ _ rfl elemOpZ (by omega) _ rfl (Deed.arr_size x.wf) ?_)
        have hb4 : Below w3.heap.size w3 (w3.alloc (.cells (x.o.arr x.q) 55)) := (Below.refl _ _).alloc (Nat.le_refl _) _
        have O4 := Lib.hid (own_below D3o.out hb4)
        have SRC := Lib.hid (show Src (w3.alloc (.cells (x.o.arr x.q) 55)) (some ⟨w3.heap.size, 0, none⟩) 1 63 x.cells by have := Src.new w3 x.cells 55 63 x.cells_len; unfold DQ.cells at this ⊢; simpa using this)
        have H4 := Lib.hid (show B ≤ (w3.alloc (.cells (x.o.arr x.q) 55)).heap.size from Nat.le_trans D3h.out hb4.size)
        have HB4 := Lib.hid hb4
        clear hb4
        go_wp2_with ((at_builtin; refine Stop.out ?_))
        refine Stop.mk (wpList_app _ rfl _ _ elemOpZ rfl B (.slice A l.length c) l.length _ rfl O4.out _ 1 1 x.cells rfl SRC.out x.one (by omega) H4.out ?_)
        intro v7 w7 own7 hgr hb7 _
        obtain ⟨A7, c7, rfl, -⟩ := own_form own7
        have hgb : w.heap.size ≤ B := by have := D.out.hg; have := D.out.gB; omega
        have D7 := Lib.hid (show DR w w7 g B S' A7 c7 (l ++ [x]) from
          ⟨(D3b.out.trans (HB4.out.mono D3b.out.size)).trans (hb7.mono hgb), (D3r.out.below HB4.out).up hb7 D.out.gB, Nat.le_trans H4.out hb7.size,
            by rw [cells_flat, List.length_append, List.length_singleton]; exact own7,
            fun y hy => by
              rcases List.mem_append.1 hy with hy | hy
              · exact ((D3e.out y hy).below HB4.out).appR O4.out hgr
              · rw [List.mem_singleton.1 hy]; exact (D3x.out.below HB4.out).appR O4.out hgr,
            fun y hy => by
              rcases List.mem_append.1 hy with hy | hy
              · exact D.out.small y hy
              · rw [List.mem_singleton.1 hy]; exact HXS.out,
            fun he y hy => by
              rcases List.mem_append.1 hy with hy | hy
              · exact D.out.fit HSE.out y hy
              · rw [List.mem_singleton.1 hy, HXD.out he]; exact HFD.out,
            D.out.hg, D.out.gB⟩)
        have HL7 := Lib.hid (show (l ++ [x]).length = k + 1 by rw [List.length_append, List.length_singleton, HLN.out])
        have RL7 := Lib.hid (show S'.e = 0 → deeds (l ++ [x]) ++ rdDeeds (N - (k + 1)) S' = scL s from fun he => by
          rw [deeds_snoc, HXD.out he, hn2.out, ← R1.out, (rdDeeds_go (n := n) HS.out he).2]
          simp)
        have RS7 := Lib.hid (show rdDeeds' (N - (k + 1)) S' = scS s by rw [hn2.out]; exact R2.out)
        obtain ⟨l7, hl7⟩ : ∃ y, y = l ++ [x] := ⟨_, rfl⟩
        have hv7 : (.slice A7 (l.length + 1) c7 : Value) = .slice A7 l7.length c7 := by rw [hl7, List.length_append, List.length_singleton]
        rw [hv7]
        rw [← hl7] at D7 HL7 RL7
        clear own7 hgr hb7 hl7 hv7 D SRC hgb D3b D3o D3e D3x D3h D3r O4 H4 HB4
        go_wp2_with (fail)
        go_roundw
        case rel => exact ⟨k + 1, A7, c7, l7, S', by omega, by go_num, rfl, HL7.out, D7.out, RL7.out, RS7.out⟩
        case measure => simp [intOf]; omega
      · have jE : (S.e == 0) = false := by simpa using hse
        have hE : S = scS s := (rdDeeds'_bad hse (N - k)).symm.trans RS.out
        have HE := Lib.hid (show rdEnd S = rdScriptE s by unfold rdScriptE; rw [← hE])
        have j2 : (rdEnd S != 0) = true := by rw [rdEnd_bad hse]; simpa using hse
        have HB := Lib.hid (rdScript_bad (s := s) (by rw [← HE.out, rdEnd_bad hse]; exact hse))
        clear hse hE RL RS
        go_wp2_with (fail)
        clear uc
        refine (c_ref01_End g S _ D.out.rd).mono ?_
        rintro e w9 ⟨rfl, hb9⟩
        have D9 := Lib.hid (D.out.step hb9)
        clear hb9 D
        go_wp2_with (fail)
        go_ret2
        exact ⟨none, 0, [], by rw [← HE.out]; rfl, InQ.nil _, by rw [HB.out]; rfl, D9.out.below⟩
    · obtain rfl : k = N := by omega
      have d1 : decide ((k : Int) < (k : Int)) = false := by simp
      have r2 := RS.out
      rw [Nat.sub_self] at r2
      have hE : S = scS s := r2
      have HE := Lib.hid (show rdEnd S = rdScriptE s by unfold rdScriptE; rw [← hE])
      have HL := Lib.hid (show S.e = 0 → deeds l = scL s from fun h0 => by have := RL.out h0; rw [Nat.sub_self] at this; rw [← this]; simp [rdDeeds])
      clear r2 hE RS RL hlt
      go_wp2_with (fail)
      clear uc
      refine (c_ref01_End g S _ D.out.rd).mono ?_
      rintro e w9 ⟨rfl, hb9⟩
      have D9 := Lib.hid (D.out.step hb9)
      clear hb9 D
      by_cases he : rdEnd S = 0
      · have j2 : (rdEnd S != 0) = false := by simpa using he
        have HB := Lib.hid (rdScript_good (s := s) (by rw [← HE.out]; exact he))
        have H0 := Lib.hid he
        have HS0 := Lib.hid (rdEnd_zero he).1
        clear he
        go_wp2_with (fail)
        go_ret2
        exact ⟨A, c, l, by rw [← HE.out, H0.out]; rfl, D9.out.inQ HS0.out hll, by rw [HB.out, HL.out HS0.out], D9.out.below⟩
      · have j2 : (rdEnd S != 0) = true := by simpa using he
        have HB := Lib.hid (rdScript_bad (s := s) (by rw [← HE.out]; exact he))
        clear he
        go_wp2_with (fail)
        go_ret2
        exact ⟨none, 0, [], by rw [← HE.out]; rfl, InQ.nil _, by rw [HB.out]; rfl, D9.out.below⟩
end Go.Proofs.YtiedkcijjfmhaaaGreatDoor
namespace Go.Proofs.YtiedkcijjfmhaaaGreatDoor
open Go.RowKit

theorem deeds_eq_take {la lb : List DQ} (h : la.length = lb.length) (he : (deeds la).take la.length = (deeds lb).take la.length) : deeds la = deeds lb := by
  rw [List.take_of_length_le (by rw [deeds_len']; exact Nat.le_refl _), List.take_of_length_le (by rw [deeds_len']; omega)] at he
  exact he
theorem deeds_ne_at {la lb : List DQ} {k : Nat} (h1 : k < la.length) (h2 : k < lb.length) (hn : la[k].o ≠ lb[k].o) : deeds la ≠ deeds lb := by
  intro e
  apply hn
  have e1 : (deeds la)[k]? = some la[k].o := by unfold deeds; simp [h1]
  have e2 : (deeds lb)[k]? = some lb[k].o := by unfold deeds; simp [h2]
  rw [e, e2] at e1
  injection e1 with e1
  exact e1.symm
set_option maxHeartbeats 40000000 in
set_option maxRecDepth 10000 in
theorem c_law47_same (la lb : List DQ) (A B : Option Addr) (c d : Nat) (w : World) (ha : InQ w A c la) (hb : InQ w B d lb) :
    Calls Tryz.prog 7 #[.slice A la.length c, .slice B lb.length d] w (RetV w (.bool (decide (deeds la = deeds lb)))) := by
  have hL1 := ha.inn.1
  have hC1 := ha.inn.2.1
  have hL2 := hb.inn.1
  have hC2 := hb.inn.2.1
  have HA := Lib.hid ha
  have HB := Lib.hid hb
  clear ha hb
  by_cases hlen : la.length = lb.length
  case neg =>
    have d1 : ((la.length : Int) != (lb.length : Int)) = true := by simp; omega
    have HE := Lib.hid (show decide (deeds la = deeds lb) = false from decide_eq_false (fun e => hlen (by have := congrArg List.length e; rwa [deeds_len', deeds_len'] at this)))
    clear hlen
    go_enter Tryz.func7, Tryz.ntmps7
    go_wp2_with (fail)
    go_ret
    exact RetV.bool HE.out.symm (Below.refl _ _)
  have d1 : ((la.length : Int) != (lb.length : Int)) = false := by simp; omega
  have HLEN := Lib.hid hlen
  go_enter Tryz.func7, Tryz.ntmps7
  go_wp2_with (fail)
  go_loopw [5] (fun i wr => ∃ (k : Nat), k ≤ la.length ∧ i = .int .i64 k ∧ Hid ((deeds la).take k = (deeds lb).take k) ∧ Hid (Below w.heap.size w wr)) (fun i _ => la.length - (intOf i).toNat)
  case atStart => exact ⟨0, by omega, rfl, by show _ = _; simp, Below.refl _ _⟩
  case round =>
    obtain ⟨k, hk, rfl, EQ, S⟩ := hrel
    by_cases hlt : k < la.length
    · have d2 : decide ((k : Int) < (la.length : Int)) = true := by simp; omega
      have hlt2 : k < lb.length := by omega
      obtain ⟨b, off, hA, hbl, hat⟩ := HA.out.at hlt
      obtain ⟨b2, off2, hB, hbl2, hat2⟩ := HB.out.at hlt2
      have hax := HA.out.at_ _ (List.getElem_mem hlt)
      have hay := HB.out.at_ _ (List.getElem_mem hlt2)
      have HATX := Lib.hid hat
      have HATY := Lib.hid hat2
      have HNE := Lib.hid (deeds_ne_at hlt hlt2)
      have HTK := Lib.hid (show la[k].o = lb[k].o → (deeds la).take (k + 1) = (deeds lb).take (k + 1) from fun e => by rw [deeds_take la hlt, deeds_take lb hlt2, EQ.out, e])
      obtain ⟨x, hx⟩ : ∃ x, x = la[k] := ⟨_, rfl⟩
      obtain ⟨y, hy⟩ : ∃ y, y = lb[k] := ⟨_, rfl⟩
      rw [← hx] at HATX hax HNE HTK
      rw [← hy] at HATY hay HNE HTK
      have AX := Lib.hid (hax.below S.out)
      have AY := Lib.hid (hay.below S.out)
      have hi1 : (0 : Int) ≤ (k : Int) := by omega
      have hi2 : (k : Int) < (la.length : Int) := by omega
      have hi3 : (k : Int) < (lb.length : Int) := by omega
      clear hat hat2 hax hay hx hy
      subst hA hB
      by_cases heq : x.o = y.o
      · have HEQ := Lib.hid (decide_eq_true heq)
        have HT2 := Lib.hid (HTK.out heq)
        clear heq
        go_wp2_with (fail)
        refine wp_region_rel [Sp.eq (.slice (some ⟨b, off, none⟩) la.length c), Sp.eq (.int .i64 k), Sp.eq (.pointer (some ⟨b, off + k * 63, none⟩)), Sp.eq (.agg (x.o.arr x.q)), Sp.eq (.agg (x.o.arr x.q)), Sp.eq (.slice (some ⟨b2, off2, none⟩) lb.length d), Sp.eq (.int .i64 k), Sp.eq (.pointer (some ⟨b2, off2 + k * 63, none⟩)), Sp.eq (.agg (y.o.arr y.q)), Sp.eq (.bool true), Sp.eq (.bool false)] 28 (by kernel_rfl) (by kernel_rfl) rfl rfl ?_ ?_
        · refine relgoals_genN fun fr hfr => ?_
          have HFR := Lib.hid hfr
          clear hfr
          refine ⟨?_, ?_, ?_, ?_, ?_, ?_, ?_, ?_, ?_, ?_, ?_, trivial⟩
          all_goals (intro u W2 hb2 hd; simp [Deps, Region.binds, Sp.eq_holds] at hd; simp only [putDeps, dstOf, Region.binds])
          case refine_1 | refine_2 | refine_3 | refine_6 | refine_7 | refine_8 | refine_11 =>
            rw [HFR.out]
            go_wp2_with (fail); exact RelEnd.mk rfl (Below.refl _ _) rfl
          case refine_4 =>
            rw [HFR.out]
            go_wp2_with (with_reducible refine slG 45 _ rfl ?_)
            refine Stop.mk (wlG (by simp [Region.wanted]) _ _ rfl b (off + k * 63) rfl (x.o.arr x.q) (HATX.out _ (S.out.trans (hb2.mono S.out.size))) strOp (Deed.arr_size x.wf) ?_)
            go_wp2_with (fail); exact RelEnd.mk rfl (Below.refl _ _) rfl
          case refine_5 =>
            rw [HFR.out]
            go_wp2_with (go_at_call 18; refine (c_law47_From x _).mono ?_; rintro e3 W3 ⟨rfl, hb3⟩)
            exact RelEnd.mk rfl hb3 rfl
          case refine_9 =>
            rw [HFR.out]
            go_wp2_with (with_reducible refine slG 55 _ rfl ?_)
            refine Stop.mk (wlG (by simp [Region.wanted]) _ _ rfl b2 (off2 + k * 63) rfl (y.o.arr y.q) (HATY.out _ (S.out.trans (hb2.mono S.out.size))) strOpR (Deed.arr_size y.wf) ?_)
            go_wp2_with (fail); exact RelEnd.mk rfl (Below.refl _ _) rfl
          case refine_10 =>
            rw [HFR.out]
            go_wp2_with (go_at_call 17; refine (c_ref47_Same x.o y.o x.q y.q _ x.wf y.wf (AX.out.below hb2) (AY.out.below hb2)).mono ?_; rintro e3 W3 ⟨rfl, hb3⟩; rw [HEQ.out])
            exact RelEnd.mk rfl hb3 rfl
        · intro u W2 hb2 hold
          simp only [RelHold, Sp.eq_holds, Nat.reduceAdd] at hold
          obtain ⟨-, -, -, -, -, -, -, -, -, -, hE, -⟩ := hold
          simp only [putAll, Act.put, Nat.reduceAdd, List.setIfInBounds_toArray, List.set_cons_zero, List.set_cons_succ]
          rw [hE]
          replace S := Lib.hid (S.out.trans (hb2.mono S.out.size))
          clear hE hb2 AX AY
          go_wp2_with (fail)
          go_roundw
          case rel => exact ⟨k + 1, by omega, by go_num, HT2.out, S.out⟩
          case measure => simp [intOf]; omega
      · have HEQ := Lib.hid (decide_eq_false heq)
        have HE := Lib.hid (show decide (deeds la = deeds lb) = false from decide_eq_false (HNE.out heq))
        clear heq
        go_wp2_with (fail)
        refine wp_region_rel [Sp.eq (.slice (some ⟨b, off, none⟩) la.length c), Sp.eq (.int .i64 k), Sp.eq (.pointer (some ⟨b, off + k * 63, none⟩)), Sp.eq (.agg (x.o.arr x.q)), Sp.eq (.agg (x.o.arr x.q)), Sp.eq (.slice (some ⟨b2, off2, none⟩) lb.length d), Sp.eq (.int .i64 k), Sp.eq (.pointer (some ⟨b2, off2 + k * 63, none⟩)), Sp.eq (.agg (y.o.arr y.q)), Sp.eq (.bool false), Sp.eq (.bool true)] 28 (by kernel_rfl) (by kernel_rfl) rfl rfl ?_ ?_
        · refine relgoals_genN fun fr hfr => ?_
          have HFR := Lib.hid hfr
          clear hfr
          refine ⟨?_, ?_, ?_, ?_, ?_, ?_, ?_, ?_, ?_, ?_, ?_, trivial⟩
          all_goals (intro u W2 hb2 hd; simp [Deps, Region.binds, Sp.eq_holds] at hd; simp only [putDeps, dstOf, Region.binds])
          case refine_1 | refine_2 | refine_3 | refine_6 | refine_7 | refine_8 | refine_11 =>
            rw [HFR.out]
            go_wp2_with (fail); exact RelEnd.mk rfl (Below.refl _ _) rfl
          case refine_4 =>
            rw [HFR.out]
            go_wp2_with (with_reducible refine slG 45 _ rfl ?_)
            refine Stop.mk (wlG (by simp [Region.wanted]) _ _ rfl b (off + k * 63) rfl (x.o.arr x.q) (HATX.out _ (S.out.trans (hb2.mono S.out.size))) strOp (Deed.arr_size x.wf) ?_)
            go_wp2_with (fail); exact RelEnd.mk rfl (Below.refl _ _) rfl
          case refine_5 =>
            rw [HFR.out]
            go_wp2_with (go_at_call 18; refine (c_law47_From x _).mono ?_; rintro e3 W3 ⟨rfl, hb3⟩)
            exact RelEnd.mk rfl hb3 rfl
          case refine_9 =>
            rw [HFR.out]
            go_wp2_with (with_reducible refine slG 55 _ rfl ?_)
            refine Stop.mk (wlG (by simp [Region.wanted]) _ _ rfl b2 (off2 + k * 63) rfl (y.o.arr y.q) (HATY.out _ (S.out.trans (hb2.mono S.out.size))) strOpR (Deed.arr_size y.wf) ?_)
            go_wp2_with (fail); exact RelEnd.mk rfl (Below.refl _ _) rfl
          case refine_10 =>
            rw [HFR.out]
            go_wp2_with (go_at_call 17; refine (c_ref47_Same x.o y.o x.q y.q _ x.wf y.wf (AX.out.below hb2) (AY.out.below hb2)).mono ?_; rintro e3 W3 ⟨rfl, hb3⟩; rw [HEQ.out])
            exact RelEnd.mk rfl hb3 rfl
        · intro u W2 hb2 hold
          simp only [RelHold, Sp.eq_holds, Nat.reduceAdd] at hold
          obtain ⟨-, -, -, -, -, -, -, -, -, -, hE, -⟩ := hold
          simp only [putAll, Act.put, Nat.reduceAdd, List.setIfInBounds_toArray, List.set_cons_zero, List.set_cons_succ]
          rw [hE]
          replace S := Lib.hid (S.out.trans (hb2.mono S.out.size))
          clear hE hb2 AX AY
          go_wp2_with (fail)
          go_ret
          exact RetV.bool HE.out.symm S.out
    · obtain rfl : k = la.length := by omega
      have d2 : decide ((la.length : Int) < (la.length : Int)) = false := by simp
      have HE := Lib.hid (show decide (deeds la = deeds lb) = true from decide_eq_true (deeds_eq_take HLEN.out EQ.out))
      go_wp2_with (fail)
      go_ret
      exact RetV.bool HE.out.symm S.out
end Go.Proofs.YtiedkcijjfmhaaaGreatDoor
namespace Go.Proofs.YtiedkcijjfmhaaaGreatDoor
open Go.RowKit

set_option maxHeartbeats 4000000 in
set_option maxRecDepth 10000 in
theorem c_law47_ScriptReads (s : List UInt8) (w : World) (hT : Tab w) (hsz : s.length ≤ 9223372036854775807) : Calls Tryz.prog 3 #[.string (str s)] w (RetV w (.bool true)) := by
  have HT := Lib.hid hT
  by_cases hl : 6000 < s.length
  · have d1 : decide (6000 < (s.length : Int)) = true := by simp; omega
    clear hT hl
    go_enter Tryz.func3, Tryz.ntmps3
    go_wp2_with (fail)
    refine (c_law47_awake _ HT.out).mono ?_
    rintro e w4 ⟨rfl, hb4⟩
    go_wp2_with (fail)
    go_ret
    exact RetV.bool rfl hb4
  have d1 : decide (6000 < (s.length : Int)) = false := by simp; omega
  clear hT
  go_enter Tryz.func3, Tryz.ntmps3
  go_wp2_with (fail)
  refine (c_script_Decode s _ HT.out (by omega)).mono ?_
  rintro e w1 ⟨A1, c1, l, rfl, I1, h1, hb1⟩
  have B1 := Lib.hid hb1
  have J1 := Lib.hid I1
  have H1 := Lib.hid h1
  have a1 := I1.inn.1
  have a2 := I1.inn.2.1
  obtain ⟨E, hE⟩ : ∃ E, E = rdScriptE s := ⟨_, rfl⟩
  have HE := Lib.hid hE
  rw [← hE]
  clear hb1 I1 h1 hE
  go_wp2_with (fail)
  refine (c_ref47_Decode s _ (by omega)).mono ?_
  rintro e w2 ⟨A2, c2, m, rfl, I2, h2, hb2⟩
  rw [← HE.out]
  have B2 := Lib.hid (B1.out.trans (hb2.mono B1.out.size))
  have J2 := Lib.hid I2
  have K1 := Lib.hid (J1.out.below hb2)
  have HQ := Lib.hid (decide_eq_true (show deeds l = deeds m by rw [H1.out, h2]))
  have a3 := I2.inn.1
  have a4 := I2.inn.2.1
  clear hb2 I2 h2 B1 J1
  go_wp2_with (fail)
  refine (c_law47_same l m A1 A2 c1 c2 _ K1.out J2.out).mono ?_
  rintro e w3 ⟨rfl, hb3⟩
  rw [HQ.out]
  have B3 := Lib.hid (B2.out.trans (hb3.mono B2.out.size))
  clear hb3 K1 J2 B2
  go_wp2_with (fail)
  refine (c_law47_awake _ (HT.out.below B3.out)).mono ?_
  rintro e w4 ⟨rfl, hb4⟩
  go_wp2_with (fail)
  go_ret
  exact RetV.bool rfl (B3.out.trans (hb4.mono B3.out.size))
end Go.Proofs.YtiedkcijjfmhaaaGreatDoor
