/-
  The walks of chapter 8's PutPatch, the program's and the reference's: a patch as bytes.
-/
import Derived.Test.YtjhndilflcigiaaDoorQb33
import Derived.Test.YtjhndilflcigiaaDoorRows
import Derived.WalkKit
import Derived.WalkSpells
import Derived.WalkLawsBesides
import Derived.Lib.Hide
import Derived.Deep.QuietTactic
import Derived.BigQuiet
import Derived.Maps.AppendAt
import Derived.WalkSmall
import Derived.ProofKit
import Derived.OpenShut
import Derived.JoinedCond
import Derived.Deep.Slices
import Derived.Deep.Fields
import Derived.Carry
import Derived.Deep.AppendSrc
import Derived.Lib.AppendStr
import Derived.Laws.BytesArg
import Derived.Test.YtjhndilflcigiaaDoorProg
import Derived.Shelf.Spec.TrailingZeros
import Derived.RangeFuncNested
import Derived.RangeFuncBound
import Derived.RangeFuncCalls
import Derived.RangeFuncLeaves
import Derived.Shelf.Abstract
import Derived.Shelf.RegionOpen
import Derived.OwnWalkIn
import Derived.TacticsInMore
import Derived.LoopNIn
import Derived.LoopIn
import Derived.Test.YtjhndilflcigiaaDoorTie
import Derived.Lib.LaidTab
import Derived.LaidMore
import Derived.SevenTiedAt
import Derived.Test.YtjhndilflcigiaaDoorCards
import Derived.Laws.Tables
import Derived.Laws.Rows
import Derived.Maps.Own
import Derived.Deep.CutBlock
import Derived.Deep.DeepCutAuto
import Derived.ChangeKeysEq
import Derived.Laws.StructEq
import Derived.Laws.CopyOwn
import Derived.Outline
import Derived.IntWalk
import Derived.Lib.EndianBits
import Derived.Lib.AppendZeros
import Derived.WalkMore
import Derived.StillTail
import Derived.Deep.Quiet
namespace Go.Proofs.YtjhndilflcigiaaDoor
open Go.RowKit

set_option maxHeartbeats 2000000 in
set_option maxRecDepth 4000 in
theorem c_cardwire_PutPatch (b : List UInt8) (B : Option Addr) (cb : Nat) (p : Patch) (w : World) (hb : InB w B cb b) (hbl : b.length ≤ 1000000) (hT : Tab w) (hm : p.mask < 4294967296) (hf : p.f.length = 8) (hs : ∀ x ∈ p.f, x.s.length ≤ 4294967000) :
    Calls Tryd.prog 39 #[.slice B b.length cb, .agg p.arr] w (RetS 1 bc 5 w (b ++ patchB p)) := by
  have hL' := hb.1
  have hC' := hb.2.1
  obtain ⟨h0, h1⟩ := p.arr_head
  have HF := Lib.hid hf
  have hsz : p.arr.size = 26 := by rw [Patch.arr_size, hf]
  have HZ := Lib.hid hsz
  clear hsz
  by_cases hok : p.code = 0
  case neg =>
    have H : Hid (b = b ++ patchB p) := by show _ = _; rw [patchB_bad hok, List.append_nil]
    have hne : (p.code != 0) = true := by simpa using hok
    clear hok hf
    go_enter Tryd.func39, Tryd.ntmps39
    go_wp2_with (first
      | (with_reducible refine stop_load 27 (.tmp 3) rfl rfl ?_))
    refine Stop.mk (wpList_loadB rfl _ _ rfl w.heap.size rfl p.arr (Blk.new _ _ _) strP HZ.out ?_)
    go_wp2_with (first
      | (go_at_call 36; refine (c_Clone_b b B cb _ ((hb.below (by repeat (first | exact Below.refl _ _ | refine Below.drew ?_ | refine Below.alloc ?_ (by first | omega | (simp; done) | (simp; omega)) _ | refine Below.setCell ?_ (by first | omega | (simp; done) | (simp; omega)) _ | refine Below.trans ?_ (Below.mono (by assumption) (by first | omega | (simp; done) | (simp; omega)))))).below hb1)).mono ?_; rintro e w2 ⟨v2, rfl, own2, hb2⟩)
      | (go_at_call 91; refine (c_card_CheckPatch p _ hm HF.out hs).mono ?_; rintro e w1 ⟨rfl, hb1⟩; have hz1 := hb1.size; simp only [World.size_alloc] at hz1))
    go_ret
    exact RetS.of own2 (by omega) H.out (by repeat (first | exact Below.refl _ _ | refine Below.drew ?_ | refine Below.alloc ?_ (by first | omega | (simp; done) | (simp; omega)) _ | refine Below.setCell ?_ (by first | omega | (simp; done) | (simp; omega)) _ | refine Below.trans ?_ (Below.mono (by assumption) (by first | omega | (simp; done) | (simp; omega)))))
  have hne : (p.code != 0) = false := by simpa using hok
  obtain ⟨a1, a2, a3, a4, a5⟩ := code_zero hok
  have a4' := Lib.hid a4
  have a5' := Lib.hid a5
  have Hok := Lib.hid hok
  clear hok hf a4 a5
  have hl8 := idx8_len p.mask
  have IB := Lib.hid (idx8_bits p.mask)
  have hbl8 := bitsTo_len p.mask 8
  have hn1 := (num_len p.mask).2
  have hn2 := (num_len p.lab).2
  cases h8 : p.mask.testBit 8
  case false =>
    have H : Hid (b ++ num p.mask ++ bodyF p.f ((bitsTo p.mask 8).drop 0) = b ++ patchB p) := by show _ = _; rw [patchB_no Hok.out h8, List.drop_zero, List.append_assoc]
    go_enter Tryd.func39, Tryd.ntmps39
    go_wp2_with (first
      | (with_reducible refine stop_load 27 (.tmp 3) rfl rfl ?_))
    refine Stop.mk (wpList_loadB rfl _ _ rfl w.heap.size rfl p.arr (Blk.new _ _ _) strP HZ.out ?_)
    go_wp2_with (first
      | (go_at_call 37; refine (c_octet_Num b B cb _ _ ((hb.below ((Below.refl _ _).alloc (Nat.le_refl _) _)).below hb1)).mono ?_; rintro e w3 ⟨v3, rfl, own3, hb3⟩; have hz3 := hb3.size; have B3 := Lib.hid (B1.out.below hb3 B1.out.lt); have q3 := B3.out.cell h0; obtain ⟨l3, A3, c3, H3, hl3, rfl, in3, own3'⟩ := own_open bc_len own3 (b.length + 7) (by simp only [List.length_append]; omega) (by omega); clear own3)
      | (go_at_call 91; refine (c_card_CheckPatch p _ hm HF.out hs).mono ?_; rintro e w1 ⟨rfl, hb1⟩; have hz1 := hb1.size; simp only [World.size_alloc] at hz1; have B1 := Lib.hid ((Blk.new w 27 p.arr).below hb1 (by simp)); have q1 := B1.out.cell h0)
      | (go_at_call 95; refine (c_mask_Labels p.mask hm _).mono ?_; rintro e w4 ⟨rfl, hb4⟩; have hz4 := hb4.size; have B4 := Lib.hid (B3.out.below hb4 B3.out.lt); have q4 := B4.out.cell h0; have hb4' : Below w.heap.size w w4 := (((Below.refl _ _).alloc (Nat.le_refl _) _).trans (hb1.mono (by simp))).trans ((hb3.trans (hb4.mono hb3.size)).mono (by omega)))
      | (go_at_call 96; refine (c_mask_Fields p.mask hm _ (hT.below hb4')).mono ?_; rintro e w7 ⟨v7, rfl, own7, hb7⟩; have hz7 := hb7.size; obtain ⟨A7, c7, rfl, in7⟩ := In.of_own ic_len own7 (by omega)))
    go_loopw [0, 6, 29] (fun v _ i wr => ∃ (k : Nat) (acc : List UInt8), k ≤ (idx8 p.mask).length ∧ acc.length ≤ b.length + 14 + k * 38 ∧ i = .int .i64 k ∧ Hid (wr.ownsRow w.heap.size 5 1 v acc.length (acc.flatMap bc)) ∧ Hid (acc ++ bodyF p.f ((bitsTo p.mask 8).drop k) = b ++ patchB p) ∧ Below w.heap.size w wr ∧ Blk wr w.heap.size p.arr ∧ InI wr A7 c7 (idx8 p.mask))
      (fun _ _ i _ => (idx8 p.mask).length - (intOf i).toNat)
    case atStart => exact ⟨0, l3, by omega, by omega, rfl, Lib.hid (own_below (own_below (own_base own3'.out (by omega)) hb4) hb7), by show _ = _; rw [H3.out]; exact H.out, hb4'.trans (hb7.mono hb4'.size), B4.out.below hb7 B4.out.lt, in7⟩
    case round =>
      obtain ⟨k, acc, hk, hac, rfl, O, N, hbl', hB, hI⟩ := hrel
      have hbz := hbl'.size
      clear q1 q3 q4 B1 B3 B4 own3' in3 own7 in7 hb1 hb3 hb4 hb7
      by_cases hlt : k < (idx8 p.mask).length
      · obtain ⟨bl, off, rfl, hbb, hrow⟩ := hI.at hlt
        have hc0 := hrow k hlt 0 _ rfl
        have hlt' : k < (bitsTo p.mask 8).length := by rw [IB.out] at hlt; simpa using hlt
        obtain ⟨n, hn⟩ : ∃ n, n = (bitsTo p.mask 8)[k] := ⟨_, rfl⟩
        have hn8 : n < 8 := by rw [hn]; exact bitsTo_bd (List.getElem_mem hlt')
        have hin : (idx8 p.mask)[k] = (n : Int) := by simp [IB.out, hn]
        rw [hin] at hc0
        simp only [Nat.mul_one, Nat.add_zero] at hc0
        have hnf : n < p.f.length := by have := HF.out; omega
        obtain ⟨d0, d1, d2⟩ := Patch.row hB hnf
        have hs1 := hs _ (List.getElem_mem hnf)
        have hN := N.out
        rw [List.drop_eq_getElem_cons hlt', ← hn] at hN
        have HN := Lib.hid (show (acc ++ valB p.f[n]) ++ bodyF p.f ((bitsTo p.mask 8).drop (k + 1)) = b ++ patchB p by rw [← hN, ← at8_eq hnf]; simp [bodyF])
        obtain ⟨A1, c1, rfl, in1⟩ := In.of_own bc_len O.out (by omega)
        have hvl := valB_len p.f[n]
        clear hN N hn hin hrow H O
        go_wp2_with (go_at_call 97; refine (c_cardwire_PutValue acc A1 c1 p.f[n] _ in1 (by omega) hs1).mono ?_; rintro e w8 ⟨v8, rfl, own8, hb8⟩)
        go_roundw
        case rel => exact ⟨k + 1, acc ++ valB p.f[n], by omega, by simp only [List.length_append]; omega, by go_num, Lib.hid (own_base own8 (by omega)), HN, hbl'.trans (hb8.mono hbz), hB.below hb8 hB.lt, hI.below hb8⟩
        case measure => simp [intOf]; omega
      · have hN := N.out
        have : (bitsTo p.mask 8).length ≤ k := by rw [IB.out] at hlt; simpa using hlt
        rw [List.drop_of_length_le this] at hN
        have HN := Lib.hid hN
        obtain ⟨A1, c1, rfl, _, _⟩ := own_form O.out
        clear hN N H
        go_wp2_with (fail)
        go_ret
        exact RetS.of O.out (by omega) (by rw [← HN.out]; simp [bodyF]) hbl'
  case true =>
    have H : Hid (b ++ num p.mask ++ num p.lab ++ bodyF p.f ((bitsTo p.mask 8).drop 0) = b ++ patchB p) := by show _ = _; rw [patchB_lab Hok.out h8, List.drop_zero]; simp
    go_enter Tryd.func39, Tryd.ntmps39
    go_wp2_with (first
      | (with_reducible refine stop_load 27 (.tmp 3) rfl rfl ?_))
    refine Stop.mk (wpList_loadB rfl _ _ rfl w.heap.size rfl p.arr (Blk.new _ _ _) strP HZ.out ?_)
    go_wp2_with (first
      | (go_at_call 37; refine (c_octet_Num l3 A3 c3 _ _ (in3.below hb4)).mono ?_; rintro e w6 ⟨v6, rfl, own6, hb6⟩; have hz6 := hb6.size; have B6 := Lib.hid (B4.out.below hb6 B4.out.lt); have q6 := B6.out.cell h0; have hb6' : Below w.heap.size w w6 := hb4'.trans (hb6.mono hb4'.size); obtain ⟨l6, A6, c6, H6, hl6, rfl, in6, own6'⟩ := own_open bc_len own6 (b.length + 14) (by simp only [List.length_append]; omega) (by omega); clear own6)
      | (go_at_call 37; refine (c_octet_Num b B cb _ _ ((hb.below ((Below.refl _ _).alloc (Nat.le_refl _) _)).below hb1)).mono ?_; rintro e w3 ⟨v3, rfl, own3, hb3⟩; have hz3 := hb3.size; have B3 := Lib.hid (B1.out.below hb3 B1.out.lt); have q3 := B3.out.cell h0; have q3' := B3.out.cell h1; obtain ⟨l3, A3, c3, H3, hl3, rfl, in3, own3'⟩ := own_open bc_len own3 (b.length + 7) (by simp only [List.length_append]; omega) (by omega); clear own3)
      | (go_at_call 91; refine (c_card_CheckPatch p _ hm HF.out hs).mono ?_; rintro e w1 ⟨rfl, hb1⟩; have hz1 := hb1.size; simp only [World.size_alloc] at hz1; have B1 := Lib.hid ((Blk.new w 27 p.arr).below hb1 (by simp)); have q1 := B1.out.cell h0; have q1' := B1.out.cell h1)
      | (go_at_call 95; refine (c_mask_Labels p.mask hm _).mono ?_; rintro e w4 ⟨rfl, hb4⟩; have hz4 := hb4.size; have B4 := Lib.hid (B3.out.below hb4 B3.out.lt); have q4 := B4.out.cell h0; have q4' := B4.out.cell h1; have hb4' : Below w.heap.size w w4 := (((Below.refl _ _).alloc (Nat.le_refl _) _).trans (hb1.mono (by simp))).trans ((hb3.trans (hb4.mono hb3.size)).mono (by omega)))
      | (go_at_call 96; refine (c_mask_Fields p.mask hm _ (hT.below hb6')).mono ?_; rintro e w7 ⟨v7, rfl, own7, hb7⟩; have hz7 := hb7.size; obtain ⟨A7, c7, rfl, in7⟩ := In.of_own ic_len own7 (by omega)))
    go_loopw [0, 6, 29] (fun v _ i wr => ∃ (k : Nat) (acc : List UInt8), k ≤ (idx8 p.mask).length ∧ acc.length ≤ b.length + 14 + k * 38 ∧ i = .int .i64 k ∧ Hid (wr.ownsRow w.heap.size 5 1 v acc.length (acc.flatMap bc)) ∧ Hid (acc ++ bodyF p.f ((bitsTo p.mask 8).drop k) = b ++ patchB p) ∧ Below w.heap.size w wr ∧ Blk wr w.heap.size p.arr ∧ InI wr A7 c7 (idx8 p.mask))
      (fun _ _ i _ => (idx8 p.mask).length - (intOf i).toNat)
    case atStart => exact ⟨0, l6, by omega, by omega, rfl, Lib.hid (own_below (own_base own6'.out (by omega)) hb7), by show _ = _; rw [H6.out, H3.out]; exact H.out, hb6'.trans (hb7.mono hb6'.size), B6.out.below hb7 B6.out.lt, in7⟩
    case round =>
      obtain ⟨k, acc, hk, hac, rfl, O, N, hbl', hB, hI⟩ := hrel
      have hbz := hbl'.size
      clear q1 q3 q4 q1' q3' q4' q6 B1 B3 B4 B6 own3' in3 own6' in6 own7 in7 hb1 hb3 hb4 hb6 hb7
      by_cases hlt : k < (idx8 p.mask).length
      · obtain ⟨bl, off, rfl, hbb, hrow⟩ := hI.at hlt
        have hc0 := hrow k hlt 0 _ rfl
        have hlt' : k < (bitsTo p.mask 8).length := by rw [IB.out] at hlt; simpa using hlt
        obtain ⟨n, hn⟩ : ∃ n, n = (bitsTo p.mask 8)[k] := ⟨_, rfl⟩
        have hn8 : n < 8 := by rw [hn]; exact bitsTo_bd (List.getElem_mem hlt')
        have hin : (idx8 p.mask)[k] = (n : Int) := by simp [IB.out, hn]
        rw [hin] at hc0
        simp only [Nat.mul_one, Nat.add_zero] at hc0
        have hnf : n < p.f.length := by have := HF.out; omega
        obtain ⟨d0, d1, d2⟩ := Patch.row hB hnf
        have hs1 := hs _ (List.getElem_mem hnf)
        have hN := N.out
        rw [List.drop_eq_getElem_cons hlt', ← hn] at hN
        have HN := Lib.hid (show (acc ++ valB p.f[n]) ++ bodyF p.f ((bitsTo p.mask 8).drop (k + 1)) = b ++ patchB p by rw [← hN, ← at8_eq hnf]; simp [bodyF])
        obtain ⟨A1, c1, rfl, in1⟩ := In.of_own bc_len O.out (by omega)
        have hvl := valB_len p.f[n]
        clear hN N hn hin hrow H O
        go_wp2_with (go_at_call 97; refine (c_cardwire_PutValue acc A1 c1 p.f[n] _ in1 (by omega) hs1).mono ?_; rintro e w8 ⟨v8, rfl, own8, hb8⟩)
        go_roundw
        case rel => exact ⟨k + 1, acc ++ valB p.f[n], by omega, by simp only [List.length_append]; omega, by go_num, Lib.hid (own_base own8 (by omega)), HN, hbl'.trans (hb8.mono hbz), hB.below hb8 hB.lt, hI.below hb8⟩
        case measure => simp [intOf]; omega
      · have hN := N.out
        have : (bitsTo p.mask 8).length ≤ k := by rw [IB.out] at hlt; simpa using hlt
        rw [List.drop_of_length_le this] at hN
        have HN := Lib.hid hN
        obtain ⟨A1, c1, rfl, _, _⟩ := own_form O.out
        clear hN N H
        go_wp2_with (fail)
        go_ret
        exact RetS.of O.out (by omega) (by rw [← HN.out]; simp [bodyF]) hbl'
end Go.Proofs.YtjhndilflcigiaaDoor
