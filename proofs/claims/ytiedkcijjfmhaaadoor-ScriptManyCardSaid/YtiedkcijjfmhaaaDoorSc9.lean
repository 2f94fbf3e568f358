/-
  Lemmas (walks and plain laws), in one text.
-/
import Derived.Test.YtiedkcijjfmhaaaDoorSc6
import Derived.Test.YtiedkcijjfmhaaaDoorSc8
namespace Go.Proofs.YtiedkcijjfmhaaaDoor
open Go.RowKit

def icn (x : Int) : List Value := [.int .i64 x]
theorem icn_len (x : Int) : (icn x).length = 1 := rfl
def orL : List Int → Int
  | [] => 0
  | x :: r => if x ≠ 0 then x else orL r
theorem orL_at (l : List Int) (k : Nat) (h : k < l.length) : orL (l.drop k) = if l[k] ≠ 0 then l[k] else orL (l.drop (k + 1)) := by
  rw [List.drop_eq_getElem_cons h]; rfl
theorem Row.int1 {w : World} {b off : Nat} {l : List Int} (h : Row 1 icn w b off l) {i : Nat} (hi : i < l.length) : w.cell? ⟨b, off + i, none⟩ = some (.int .i64 l[i]) := by
  have := h i hi 0 _ rfl
  simpa using this
set_option maxHeartbeats 400000 in
theorem c_cmp_Or (l : List Int) (A : Option Addr) (c : Nat) (w : World) (h : In 1 icn w A c l) : Calls Tryd.prog 69 #[.slice A l.length c] w (RetV w (.int .i64 (orL l))) := by
  have hL := h.1
  have hC := h.2.1
  have hS := h.2.2.1
  have H0 : Hid (orL (l.drop 0) = orL l) := rfl
  go_enter Tryd.func69, Tryd.ntmps69
  go_wp2_with (fail)
  go_loopw [5, 8] (fun v i wr => ∃ k : Nat, k ≤ l.length ∧ i = .int .i64 k ∧ Hid (orL (l.drop k) = orL l) ∧ Below w.heap.size w wr) (fun _ i _ => l.length - (intOf i).toNat)
  case atStart => exact ⟨0, by omega, rfl, H0, Below.refl _ _⟩
  case round =>
    obtain ⟨k, hk, rfl, H, hbl⟩ := hrel
    have hbz := hbl.size
    by_cases hlt : k < l.length
    · obtain ⟨b, off, rfl, hb, hrow⟩ := h.at hlt
      have e0 := (hrow.below hbl hb).int1 hlt
      have hH := H.out
      rw [orL_at l k hlt] at hH
      clear h H H0
      by_cases hx : l[k] = 0
      · rw [if_neg (fun h => h hx)] at hH
        have HN := Lib.hid hH
        have bx : (l[k] != 0) = false := by simpa using hx
        clear hH hx
        go_wp2_with (fail)
        go_roundw
        case rel => exact ⟨k + 1, by omega, by go_num, HN.out, hbl⟩
        case measure => simp [intOf]; omega
      · rw [if_pos hx] at hH
        have HN := Lib.hid hH
        have bx : (l[k] != 0) = true := by simpa using hx
        clear hH hx
        go_wp2_with (fail)
        go_ret
        exact RetV.int HN.out hbl
    · have hH := H.out
      rw [List.drop_of_length_le (by omega)] at hH
      have HN := Lib.hid hH
      clear hH H H0
      go_wp2_with (fail)
      go_ret
      exact RetV.int HN.out hbl
theorem Node.cmp_or (x y : Node) : orL [cmpI x.op y.op, cmpI x.n y.n, x.v.cmp y.v] = x.cmp y := by
  unfold Node.cmp orL orL orL orL
  by_cases h1 : cmpI x.op y.op = 0 <;> by_cases h2 : cmpI x.n y.n = 0 <;> by_cases h3 : x.v.cmp y.v = 0 <;> simp [h1, h2, h3]
set_option maxHeartbeats 1000000 in
theorem c_pred_Compare1 (x y : Node) (w : World) : Calls Tryd.prog 68 #[x.val, y.val] w (RetV w (.int .i64 (x.cmp y))) := by
  unfold Node.val
  have H := Lib.hid (Node.cmp_or x y)
  go_enter Tryd.func68, Tryd.ntmps68
  go_wp2_with (fail)
  have hs1 : w.heap.size < w.heap.size + 1 + 1 := by omega
  have hs2 : w.heap.size + 1 < w.heap.size + 1 + 1 := by omega
  refine wp_region_tail 15 (by kernel_rfl) (by kernel_rfl) ?_
  simp only [List.take_succ_cons, List.take_zero, List.drop_succ_cons, List.drop_zero]
  repeat (quiet_step ((first | (go_at_call 70; exact quiet_grow (c_cmp_int _ _ _)) | (go_at_call 71; exact quiet_grow (c_value_Compare x.v y.v _)))))
  refine wpQuiet_nil ?_
  intro w2 hb2
  have hz2 := hb2.size
  simp only [World.size_alloc] at hz2
  go_wp2_with (fail)
  refine (c_cmp_Or [cmpI x.op y.op, cmpI x.n y.n, x.v.cmp y.v] _ 3 _ (In.lit icn_len w2 [cmpI x.op y.op, cmpI x.n y.n, x.v.cmp y.v] 3 3 rfl (by simp))).mono ?_
  rintro e w3 ⟨rfl, hb3⟩
  go_wp2_with (fail)
  go_ret
  exact RetV.int H.out (by repeat (first | exact Below.refl _ _ | refine Below.drew ?_ | refine Below.alloc ?_ (by first | omega | (simp; done) | (simp; omega)) _ | refine Below.setCell ?_ (by first | omega | (simp; done) | (simp; omega)) _ | refine Below.trans ?_ (Below.mono (by assumption) (by first | omega | (simp; done) | (simp; omega)))))
set_option maxHeartbeats 1000000 in
theorem c_CompareFunc (l1 l2 : List Node) (A1 A2 : Option Addr) (c1 c2 : Nat) (w : World) (h1 : InN w A1 c1 l1) (h2 : InN w A2 c2 l2) :
    Calls Tryd.prog 67 #[.slice A1 l1.length c1, .slice A2 l2.length c2, .func (.func 68) #[] #[]] w (RetV w (.int .i64 (cmpL l1 l2))) := by
  have hL1 := h1.1
  have hC1 := h1.2.1
  have hS1 := h1.2.2.1
  have hL2 := h2.1
  have hC2 := h2.2.1
  have hS2 := h2.2.2.1
  have H0 : Hid (cmpL (l1.drop 0) (l2.drop 0) = cmpL l1 l2) := by show _ = _; rw [List.drop_zero, List.drop_zero]
  go_enter Tryd.func67, Tryd.ntmps67
  go_wp2_with (fail)
  go_loopw [13] (fun i wr => ∃ k : Nat, k ≤ l1.length ∧ k ≤ l2.length ∧ i = .int .i64 k ∧ Hid (cmpL (l1.drop k) (l2.drop k) = cmpL l1 l2) ∧ Below w.heap.size w wr) (fun i _ => l1.length - (intOf i).toNat)
  case atStart => exact ⟨0, by omega, by omega, rfl, H0, Below.refl _ _⟩
  case round =>
    obtain ⟨k, hk1, hk2, rfl, H, hbl⟩ := hrel
    have hbz := hbl.size
    have hH := H.out
    clear H H0
    by_cases hlt1 : k < l1.length
    · obtain ⟨b1, off1, rfl, hb1, hrow1⟩ := h1.at hlt1
      obtain ⟨e0, e1, e2, e3, e4⟩ := (hrow1.below hbl hb1).node hlt1 rfl
      by_cases hlt2 : k < l2.length
      · obtain ⟨b2, off2, rfl, hb2, hrow2⟩ := h2.at hlt2
        obtain ⟨f0, f1, f2, f3, f4⟩ := (hrow2.below hbl hb2).node hlt2 rfl
        have hbr1 : b1 < wr.heap.size := by omega
        have hbr2 : b2 < wr.heap.size := by omega
        rw [cmpL_at _ _ k hlt1 hlt2] at hH
        clear h1 h2
        by_cases hx : l1[k].cmp l2[k] = 0
        · rw [if_neg (fun h => h hx)] at hH
          have HN := Lib.hid hH
          have bx : (l1[k].cmp l2[k] != 0) = false := by simpa using hx
          clear hH hx
          go_wp2_with (go_at_call 68; refine (c_pred_Compare1 l1[k] l2[k] _).mono ?_; rintro e w3 ⟨rfl, hb3⟩)
          go_roundw
          case rel => exact ⟨k + 1, by omega, by omega, by go_num, HN.out, (by repeat (first | exact Below.refl _ _ | refine Below.drew ?_ | refine Below.alloc ?_ (by first | omega | (simp; done) | (simp; omega)) _ | refine Below.setCell ?_ (by first | omega | (simp; done) | (simp; omega)) _ | refine Below.trans ?_ (Below.mono (by assumption) (by first | omega | (simp; done) | (simp; omega)))))⟩
          case measure => simp [intOf]; omega
        · rw [if_pos hx] at hH
          have HN := Lib.hid hH
          have bx : (l1[k].cmp l2[k] != 0) = true := by simpa using hx
          clear hH hx
          go_wp2_with (go_at_call 68; refine (c_pred_Compare1 l1[k] l2[k] _).mono ?_; rintro e w3 ⟨rfl, hb3⟩)
          go_ret
          exact RetV.int HN.out (by repeat (first | exact Below.refl _ _ | refine Below.drew ?_ | refine Below.alloc ?_ (by first | omega | (simp; done) | (simp; omega)) _ | refine Below.setCell ?_ (by first | omega | (simp; done) | (simp; omega)) _ | refine Below.trans ?_ (Below.mono (by assumption) (by first | omega | (simp; done) | (simp; omega)))))
      · rw [cmpL_right _ _ k hlt1 (by omega)] at hH
        have HN := Lib.hid hH
        clear hH h1 h2
        go_wp2_with (fail)
        go_ret
        exact RetV.int HN.out (by repeat (first | exact Below.refl _ _ | refine Below.drew ?_ | refine Below.alloc ?_ (by first | omega | (simp; done) | (simp; omega)) _ | refine Below.setCell ?_ (by first | omega | (simp; done) | (simp; omega)) _ | refine Below.trans ?_ (Below.mono (by assumption) (by first | omega | (simp; done) | (simp; omega)))))
    · by_cases hlt2 : k < l2.length
      · rw [cmpL_left _ _ k (by omega) hlt2] at hH
        have HN := Lib.hid hH
        have g1 : l1.length < l2.length := by omega
        clear hH
        go_wp2_with (fail)
        go_ret
        exact RetV.int HN.out hbl
      · rw [List.drop_of_length_le (by omega), List.drop_of_length_le (by omega)] at hH
        have HN := Lib.hid hH
        have g1 : ¬ l1.length < l2.length := by omega
        clear hH
        go_wp2_with (fail)
        go_ret
        exact RetV.int HN.out hbl
set_option maxHeartbeats 400000 in
theorem c_pred_Compare (l1 l2 : List Node) (A1 A2 : Option Addr) (c1 c2 : Nat) (w : World) (h1 : InN w A1 c1 l1) (h2 : InN w A2 c2 l2) :
    Calls Tryd.prog 34 #[.slice A1 l1.length c1, .slice A2 l2.length c2] w (RetV w (.int .i64 (cmpL l1 l2))) := by
  have hL1 := h1.1
  have hC1 := h1.2.1
  have hL2 := h2.1
  have hC2 := h2.2.1
  have H1 := Lib.hid h1
  have H2 := Lib.hid h2
  clear h1 h2
  go_enter Tryd.func34, Tryd.ntmps34
  go_wp2_with (fail)
  refine (c_CompareFunc l1 l2 _ _ _ _ _ H1.out H2.out).mono ?_
  rintro e w3 ⟨rfl, hb3⟩
  go_wp2_with (fail)
  go_ret
  exact RetV.int rfl hb3
end Go.Proofs.YtiedkcijjfmhaaaDoor
namespace Go.Proofs.YtiedkcijjfmhaaaDoor
open Go.RowKit

set_option maxHeartbeats 2000000 in
set_option maxRecDepth 4000 in
theorem c_cardwire_PutPatch (b : List UInt8) (B : Option Addr) (cb : Nat) (p : Patch) (w : World) (hb : InB w B cb b) (hbl : b.length ≤ 1000000) (hT : Tab w) (hm : p.mask < 4294967296) (hf : p.f.length = 8) (hs : ∀ x ∈ p.f, x.s.length ≤ 4294967000) :
    Calls Tryd.prog 74 #[.slice B b.length cb, .agg p.arr] w (RetS 1 bc 5 w (b ++ patchB p)) := by
  have hL' := hb.1
  have hC' := hb.2.1
  obtain ⟨h0, h1⟩ := p.arr_head
  have HF := Lib.hid hf
  have hsz : p.arr.size = 26 := by rw [Patch.arr_size, hf]
  have HZ := Lib.hid hsz
  clear hsz
  by_cases hok : p.code = 0
  case neg =>
    have H : Hid (b = b ++ patchB p) := by show _ = _; rw [patchB_bad hok, List.append_nil]
    have hne : (p.code != 0) = true := by simpa using hok
    clear hok hf
    go_enter Tryd.func74, Tryd.ntmps74
    go_wp2_with (first
      | (with_reducible refine stop_load 28 (.tmp 3) rfl rfl ?_))
    refine Stop.mk (wpList_loadB rfl _ _ rfl w.heap.size rfl p.arr (Blk.new _ _ _) strP HZ.out ?_)
    go_wp2_with (first
      | (go_at_call 93; refine (c_Clone_b b B cb _ ((hb.below (by repeat (first | exact Below.refl _ _ | refine Below.drew ?_ | refine Below.alloc ?_ (by first | omega | (simp; done) | (simp; omega)) _ | refine Below.setCell ?_ (by first | omega | (simp; done) | (simp; omega)) _ | refine Below.trans ?_ (Below.mono (by assumption) (by first | omega | (simp; done) | (simp; omega)))))).below hb1)).mono ?_; rintro e w2 ⟨v2, rfl, own2, hb2⟩)
      | (go_at_call 25; refine (c_card_CheckPatch p _ hm HF.out hs).mono ?_; rintro e w1 ⟨rfl, hb1⟩; have hz1 := hb1.size; simp only [World.size_alloc] at hz1))
    go_ret
    exact RetS.of own2 (by omega) H.out (by repeat (first | exact Below.refl _ _ | refine Below.drew ?_ | refine Below.alloc ?_ (by first | omega | (simp; done) | (simp; omega)) _ | refine Below.setCell ?_ (by first | omega | (simp; done) | (simp; omega)) _ | refine Below.trans ?_ (Below.mono (by assumption) (by first | omega | (simp; done) | (simp; omega)))))
  have hne : (p.code != 0) = false := by simpa using hok
  obtain ⟨a1, a2, a3, a4, a5⟩ := code_zero hok
  have a4' := Lib.hid a4
  have a5' := Lib.hid a5
  have Hok := Lib.hid hok
  clear hok hf a4 a5
  have hl8 := idx8_len p.mask
  have IB := Lib.hid (idx8_bits p.mask)
  have hbl8 := bitsTo_len p.mask 8
  have hn1 := (num_len p.mask).2
  have hn2 := (num_len p.lab).2
  cases h8 : p.mask.testBit 8
  case false =>
    have H : Hid (b ++ num p.mask ++ bodyF p.f ((bitsTo p.mask 8).drop 0) = b ++ patchB p) := by show _ = _; rw [patchB_no Hok.out h8, List.drop_zero, List.append_assoc]
    go_enter Tryd.func74, Tryd.ntmps74
    go_wp2_with (first
      | (with_reducible refine stop_load 28 (.tmp 3) rfl rfl ?_))
    refine Stop.mk (wpList_loadB rfl _ _ rfl w.heap.size rfl p.arr (Blk.new _ _ _) strP HZ.out ?_)
    go_wp2_with (first
      | (go_at_call 38; refine (c_octet_Num b B cb _ _ ((hb.below ((Below.refl _ _).alloc (Nat.le_refl _) _)).below hb1)).mono ?_; rintro e w3 ⟨v3, rfl, own3, hb3⟩; have hz3 := hb3.size; have B3 := Lib.hid (B1.out.below hb3 B1.out.lt); have q3 := B3.out.cell h0; obtain ⟨l3, A3, c3, H3, hl3, rfl, in3, own3'⟩ := own_open bc_len own3 (b.length + 7) (by simp only [List.length_append]; omega) (by omega); clear own3)
      | (go_at_call 25; refine (c_card_CheckPatch p _ hm HF.out hs).mono ?_; rintro e w1 ⟨rfl, hb1⟩; have hz1 := hb1.size; simp only [World.size_alloc] at hz1; have B1 := Lib.hid ((Blk.new w 28 p.arr).below hb1 (by simp)); have q1 := B1.out.cell h0)
      | (go_at_call 55; refine (c_mask_Labels p.mask hm _).mono ?_; rintro e w4 ⟨rfl, hb4⟩; have hz4 := hb4.size; have B4 := Lib.hid (B3.out.below hb4 B3.out.lt); have q4 := B4.out.cell h0; have hb4' : Below w.heap.size w w4 := (((Below.refl _ _).alloc (Nat.le_refl _) _).trans (hb1.mono (by simp))).trans ((hb3.trans (hb4.mono hb3.size)).mono (by omega)))
      | (go_at_call 97; refine (c_mask_Fields p.mask hm _ (hT.below hb4')).mono ?_; rintro e w7 ⟨v7, rfl, own7, hb7⟩; have hz7 := hb7.size; obtain ⟨A7, c7, rfl, in7⟩ := In.of_own ic_len own7 (by omega)))
    go_loopw [0, 6, 29] (fun v _ i wr => ∃ (k : Nat) (acc : List UInt8), k ≤ (idx8 p.mask).length ∧ acc.length ≤ b.length + 14 + k * 38 ∧ i = .int .i64 k ∧ Hid (wr.ownsRow w.heap.size 5 1 v acc.length (acc.flatMap bc)) ∧ Hid (acc ++ bodyF p.f ((bitsTo p.mask 8).drop k) = b ++ patchB p) ∧ Below w.heap.size w wr ∧ Blk wr w.heap.size p.arr ∧ InI wr A7 c7 (idx8 p.mask))
      (fun _ _ i _ => (idx8 p.mask).length - (intOf i).toNat)
    case atStart => exact ⟨0, l3, by omega, by omega, rfl, Lib.hid (own_below (own_below (own_base own3'.out (by omega)) hb4) hb7), by show _ = _; rw [H3.out]; exact H.out, hb4'.trans (hb7.mono hb4'.size), B4.out.below hb7 B4.out.lt, in7⟩
    case round =>
      obtain ⟨k, acc, hk, hac, rfl, O, N, hbl', hB, hI⟩ := hrel
      have hbz := hbl'.size
      clear q1 q3 q4 B1 B3 B4 own3' in3 own7 in7 hb1 hb3 hb4 hb7
      by_cases hlt : k < (idx8 p.mask).length
      · obtain ⟨bl, off, rfl, hbb, hrow⟩ := hI.at hlt
        have hc0 := hrow k hlt 0 _ rfl
        have hlt' : k < (bitsTo p.mask 8).length := by rw [IB.out] at hlt; simpa using hlt
        obtain ⟨n, hn⟩ : ∃ n, n = (bitsTo p.mask 8)[k] := ⟨_, rfl⟩
        have hn8 : n < 8 := by rw [hn]; exact bitsTo_bd (List.getElem_mem hlt')
        have hin : (idx8 p.mask)[k] = (n : Int) := by simp [IB.out, hn]
        rw [hin] at hc0
        simp only [Nat.mul_one, Nat.add_zero] at hc0
        have hnf : n < p.f.length := by have := HF.out; omega
        obtain ⟨d0, d1, d2⟩ := Patch.row hB hnf
        have hs1 := hs _ (List.getElem_mem hnf)
        have hN := N.out
        rw [List.drop_eq_getElem_cons hlt', ← hn] at hN
        have HN := Lib.hid (show (acc ++ valB p.f[n]) ++ bodyF p.f ((bitsTo p.mask 8).drop (k + 1)) = b ++ patchB p by rw [← hN, ← at8_eq hnf]; simp [bodyF])
        obtain ⟨A1, c1, rfl, in1⟩ := In.of_own bc_len O.out (by omega)
        have hvl := valB_len p.f[n]
        clear hN N hn hin hrow H O
        go_wp2_with (go_at_call 96; refine (c_cardwire_PutValue acc A1 c1 p.f[n] _ in1 (by omega) hs1).mono ?_; rintro e w8 ⟨v8, rfl, own8, hb8⟩)
        go_roundw
        case rel => exact ⟨k + 1, acc ++ valB p.f[n], by omega, by simp only [List.length_append]; omega, by go_num, Lib.hid (own_base own8 (by omega)), HN, hbl'.trans (hb8.mono hbz), hB.below hb8 hB.lt, hI.below hb8⟩
        case measure => simp [intOf]; omega
      · have hN := N.out
        have : (bitsTo p.mask 8).length ≤ k := by rw [IB.out] at hlt; simpa using hlt
        rw [List.drop_of_length_le this] at hN
        have HN := Lib.hid hN
        obtain ⟨A1, c1, rfl, _, _⟩ := own_form O.out
        clear hN N H
        go_wp2_with (fail)
        go_ret
        exact RetS.of O.out (by omega) (by rw [← HN.out]; simp [bodyF]) hbl'
  case true =>
    have H : Hid (b ++ num p.mask ++ num p.lab ++ bodyF p.f ((bitsTo p.mask 8).drop 0) = b ++ patchB p) := by show _ = _; rw [patchB_lab Hok.out h8, List.drop_zero]; simp
    go_enter Tryd.func74, Tryd.ntmps74
    go_wp2_with (first
      | (with_reducible refine stop_load 28 (.tmp 3) rfl rfl ?_))
    refine Stop.mk (wpList_loadB rfl _ _ rfl w.heap.size rfl p.arr (Blk.new _ _ _) strP HZ.out ?_)
    go_wp2_with (first
      | (go_at_call 38; refine (c_octet_Num l3 A3 c3 _ _ (in3.below hb4)).mono ?_; rintro e w6 ⟨v6, rfl, own6, hb6⟩; have hz6 := hb6.size; have B6 := Lib.hid (B4.out.below hb6 B4.out.lt); have q6 := B6.out.cell h0; have hb6' : Below w.heap.size w w6 := hb4'.trans (hb6.mono hb4'.size); obtain ⟨l6, A6, c6, H6, hl6, rfl, in6, own6'⟩ := own_open bc_len own6 (b.length + 14) (by simp only [List.length_append]; omega) (by omega); clear own6)
      | (go_at_call 38; refine (c_octet_Num b B cb _ _ ((hb.below ((Below.refl _ _).alloc (Nat.le_refl _) _)).below hb1)).mono ?_; rintro e w3 ⟨v3, rfl, own3, hb3⟩; have hz3 := hb3.size; have B3 := Lib.hid (B1.out.below hb3 B1.out.lt); have q3 := B3.out.cell h0; have q3' := B3.out.cell h1; obtain ⟨l3, A3, c3, H3, hl3, rfl, in3, own3'⟩ := own_open bc_len own3 (b.length + 7) (by simp only [List.length_append]; omega) (by omega); clear own3)
      | (go_at_call 25; refine (c_card_CheckPatch p _ hm HF.out hs).mono ?_; rintro e w1 ⟨rfl, hb1⟩; have hz1 := hb1.size; simp only [World.size_alloc] at hz1; have B1 := Lib.hid ((Blk.new w 28 p.arr).below hb1 (by simp)); have q1 := B1.out.cell h0; have q1' := B1.out.cell h1)
      | (go_at_call 55; refine (c_mask_Labels p.mask hm _).mono ?_; rintro e w4 ⟨rfl, hb4⟩; have hz4 := hb4.size; have B4 := Lib.hid (B3.out.below hb4 B3.out.lt); have q4 := B4.out.cell h0; have q4' := B4.out.cell h1; have hb4' : Below w.heap.size w w4 := (((Below.refl _ _).alloc (Nat.le_refl _) _).trans (hb1.mono (by simp))).trans ((hb3.trans (hb4.mono hb3.size)).mono (by omega)))
      | (go_at_call 97; refine (c_mask_Fields p.mask hm _ (hT.below hb6')).mono ?_; rintro e w7 ⟨v7, rfl, own7, hb7⟩; have hz7 := hb7.size; obtain ⟨A7, c7, rfl, in7⟩ := In.of_own ic_len own7 (by omega)))
    go_loopw [0, 6, 29] (fun v _ i wr => ∃ (k : Nat) (acc : List UInt8), k ≤ (idx8 p.mask).length ∧ acc.length ≤ b.length + 14 + k * 38 ∧ i = .int .i64 k ∧ Hid (wr.ownsRow w.heap.size 5 1 v acc.length (acc.flatMap bc)) ∧ Hid (acc ++ bodyF p.f ((bitsTo p.mask 8).drop k) = b ++ patchB p) ∧ Below w.heap.size w wr ∧ Blk wr w.heap.size p.arr ∧ InI wr A7 c7 (idx8 p.mask))
      (fun _ _ i _ => (idx8 p.mask).length - (intOf i).toNat)
    case atStart => exact ⟨0, l6, by omega, by omega, rfl, Lib.hid (own_below (own_base own6'.out (by omega)) hb7), by show _ = _; rw [H6.out, H3.out]; exact H.out, hb6'.trans (hb7.mono hb6'.size), B6.out.below hb7 B6.out.lt, in7⟩
    case round =>
      obtain ⟨k, acc, hk, hac, rfl, O, N, hbl', hB, hI⟩ := hrel
      have hbz := hbl'.size
      clear q1 q3 q4 q1' q3' q4' q6 B1 B3 B4 B6 own3' in3 own6' in6 own7 in7 hb1 hb3 hb4 hb6 hb7
      by_cases hlt : k < (idx8 p.mask).length
      · obtain ⟨bl, off, rfl, hbb, hrow⟩ := hI.at hlt
        have hc0 := hrow k hlt 0 _ rfl
        have hlt' : k < (bitsTo p.mask 8).length := by rw [IB.out] at hlt; simpa using hlt
        obtain ⟨n, hn⟩ : ∃ n, n = (bitsTo p.mask 8)[k] := ⟨_, rfl⟩
        have hn8 : n < 8 := by rw [hn]; exact bitsTo_bd (List.getElem_mem hlt')
        have hin : (idx8 p.mask)[k] = (n : Int) := by simp [IB.out, hn]
        rw [hin] at hc0
        simp only [Nat.mul_one, Nat.add_zero] at hc0
        have hnf : n < p.f.length := by have := HF.out; omega
        obtain ⟨d0, d1, d2⟩ := Patch.row hB hnf
        have hs1 := hs _ (List.getElem_mem hnf)
        have hN := N.out
        rw [List.drop_eq_getElem_cons hlt', ← hn] at hN
        have HN := Lib.hid (show (acc ++ valB p.f[n]) ++ bodyF p.f ((bitsTo p.mask 8).drop (k + 1)) = b ++ patchB p by rw [← hN, ← at8_eq hnf]; simp [bodyF])
        obtain ⟨A1, c1, rfl, in1⟩ := In.of_own bc_len O.out (by omega)
        have hvl := valB_len p.f[n]
        clear hN N hn hin hrow H O
        go_wp2_with (go_at_call 96; refine (c_cardwire_PutValue acc A1 c1 p.f[n] _ in1 (by omega) hs1).mono ?_; rintro e w8 ⟨v8, rfl, own8, hb8⟩)
        go_roundw
        case rel => exact ⟨k + 1, acc ++ valB p.f[n], by omega, by simp only [List.length_append]; omega, by go_num, Lib.hid (own_base own8 (by omega)), HN, hbl'.trans (hb8.mono hbz), hB.below hb8 hB.lt, hI.below hb8⟩
        case measure => simp [intOf]; omega
      · have hN := N.out
        have : (bitsTo p.mask 8).length ≤ k := by rw [IB.out] at hlt; simpa using hlt
        rw [List.drop_of_length_le this] at hN
        have HN := Lib.hid hN
        obtain ⟨A1, c1, rfl, _, _⟩ := own_form O.out
        clear hN N H
        go_wp2_with (fail)
        go_ret
        exact RetS.of O.out (by omega) (by rw [← HN.out]; simp [bodyF]) hbl'
set_option maxHeartbeats 2000000 in
set_option maxRecDepth 4000 in
theorem c_ref08_PutPatch (p : Patch) (w : World) (hm : p.mask < 4294967296) (hf : p.f.length = 8) (hs : ∀ x ∈ p.f, x.s.length ≤ 4294967000) :
    Calls Tryd.prog 78 #[.agg p.arr] w (RetV w (.string (str (patchB p)))) := by
  obtain ⟨h0, h1⟩ := p.arr_head
  have HF := Lib.hid hf
  have hsz : p.arr.size = 26 := by rw [Patch.arr_size, hf]
  have HZ := Lib.hid hsz
  clear hsz
  by_cases hok : p.code = 0
  case neg =>
    have H : Hid (([] : List UInt8) = patchB p) := by show _ = _; rw [patchB_bad hok]
    have hne : (p.code != 0) = true := by simpa using hok
    clear hok hf
    go_enter Tryd.func78, Tryd.ntmps78
    go_wp2_with (first
      | (with_reducible refine stop_load 28 (.tmp 1) rfl rfl ?_))
    refine Stop.mk (wpList_loadB rfl _ _ rfl w.heap.size rfl p.arr (Blk.new _ _ _) strP HZ.out ?_)
    go_wp2_with (first
      | (go_at_call 33; refine (c_ref06_CheckPatch p _ hm HF.out hs).mono ?_; rintro e w1 ⟨rfl, hb1⟩; have hz1 := hb1.size; simp only [World.size_alloc] at hz1))
    go_ret
    exact RetV.str H.out (((Below.refl _ _).alloc (Nat.le_refl _) _).trans (hb1.mono (by simp)))
  have hne : (p.code != 0) = false := by simpa using hok
  obtain ⟨a1, a2, a3, a4, a5⟩ := code_zero hok
  have Hok := Lib.hid hok
  clear hok hf a4 a5
  have hn1 := (num_len p.mask).2
  have hn2 := (num_len p.lab).2
  cases h8 : p.mask.testBit 8
  case false =>
    have H : Hid (num p.mask ++ bodyF p.f (bitsTo p.mask 8) = patchB p) := by show _ = _; rw [patchB_no Hok.out h8]
    go_enter Tryd.func78, Tryd.ntmps78
    go_wp2_with (first
      | (with_reducible refine stop_load 28 (.tmp 1) rfl rfl ?_))
    refine Stop.mk (wpList_loadB rfl _ _ rfl w.heap.size rfl p.arr (Blk.new _ _ _) strP HZ.out ?_)
    go_wp2_with (first
      | (go_at_call 40; refine (c_ref01_Num _ _).mono ?_; rintro e w3 ⟨rfl, hb3⟩; have hz3 := hb3.size; have B3 := Lib.hid (B1.out.below hb3 B1.out.lt); have q3 := B3.out.cell h0; have q3' := B3.out.cell h1)
      | (go_at_call 33; refine (c_ref06_CheckPatch p _ hm HF.out hs).mono ?_; rintro e w1 ⟨rfl, hb1⟩; have hz1 := hb1.size; simp only [World.size_alloc] at hz1; have B1 := Lib.hid ((Blk.new w 28 p.arr).below hb1 (by simp)); have q1 := B1.out.cell h0; have q1' := B1.out.cell h1)
      | (go_at_call 64; refine (c_ref05_Labels p.mask hm _).mono ?_; rintro e w4 ⟨rfl, hb4⟩; have hz4 := hb4.size; have B4 := Lib.hid (B3.out.below hb4 B3.out.lt); have q4 := B4.out.cell h0; have q4' := B4.out.cell h1; have hb4' : Below w.heap.size w w4 := (((Below.refl _ _).alloc (Nat.le_refl _) _).trans (hb1.mono (by simp))).trans ((hb3.trans (hb4.mono hb3.size)).mono (by omega))))
    go_loopw [3, 4] (fun v i wr => ∃ (k : Nat) (acc : List UInt8), k ≤ 8 ∧ acc.length ≤ 14 + k * 38 ∧ i = .int .i64 k ∧ v = .string (str acc) ∧ Hid (acc = num p.mask ++ bodyF p.f (bitsTo p.mask k)) ∧ Below w.heap.size w wr ∧ Blk wr w.heap.size p.arr)
      (fun _ i _ => 8 - (intOf i).toNat)
    case atStart => exact ⟨0, num p.mask, by omega, by omega, rfl, by simp, Lib.hid (by simp [bitsTo, bodyF]), hb4', B4.out⟩
    case round =>
      obtain ⟨k, acc, hk, hac, rfl, rfl, N, hbl', hB⟩ := hrel
      have hbz := hbl'.size
      clear q1 q3 q4 q1' q3' q4' B1 B3 B4 hb1 hb3 hb4 hb4'
      by_cases hlt : k < 8
      · have hnf : k < p.f.length := by have := HF.out; omega
        obtain ⟨d0, d1, d2⟩ := Patch.row hB hnf
        have dm := hB.cell h0
        have hs1 := hs _ (List.getElem_mem hnf)
        have hvl := valB_len p.f[k]
        cases hbit : p.mask.testBit k
        · have HN := Lib.hid (show acc = num p.mask ++ bodyF p.f (bitsTo p.mask (k + 1)) by rw [bitsTo_no hbit]; exact N.out)
          clear N H
          go_wp2_with (go_at_call 66; refine (c_ref03_Has p.mask k hm (by omega) _).mono ?_; rintro e w5 ⟨rfl, hb5⟩)
          go_roundw
          case rel => exact ⟨k + 1, acc, by omega, by omega, by go_num, rfl, HN, hbl'.trans (hb5.mono hbz), hB.below hb5 hB.lt⟩
          case measure => simp [intOf]; omega
        · have HN := Lib.hid (show acc ++ valB p.f[k] = num p.mask ++ bodyF p.f (bitsTo p.mask (k + 1)) by rw [bitsTo_yes hbit, bodyF_snoc, N.out, at8_eq hnf, List.append_assoc])
          clear N H
          go_wp2_with (first
            | (go_at_call 98; refine (c_ref08_PutValue p.f[k] _ hs1).mono ?_; rintro e w8 ⟨rfl, hb8⟩)
            | (go_at_call 66; refine (c_ref03_Has p.mask k hm (by omega) _).mono ?_; rintro e w5 ⟨rfl, hb5⟩; have B5 := hB.below hb5 hB.lt; obtain ⟨e0, e1, e2⟩ := Patch.row B5 hnf; have em := B5.cell h0))
          go_roundw
          case rel => exact ⟨k + 1, acc ++ valB p.f[k], by omega, by simp only [List.length_append]; omega, by go_num, rfl, HN, hbl'.trans ((hb5.trans (hb8.mono hb5.size)).mono hbz), B5.below hb8 B5.lt⟩
          case measure => simp [intOf]; omega
      · have : k = 8 := by omega
        subst this
        have HN := Lib.hid (N.out.trans H.out)
        clear N H
        go_wp2_with (fail)
        go_ret
        exact RetV.str HN.out hbl'
  case true =>
    have H : Hid ((num p.mask ++ num p.lab) ++ bodyF p.f (bitsTo p.mask 8) = patchB p) := by show _ = _; rw [patchB_lab Hok.out h8]
    go_enter Tryd.func78, Tryd.ntmps78
    go_wp2_with (first
      | (with_reducible refine stop_load 28 (.tmp 1) rfl rfl ?_))
    refine Stop.mk (wpList_loadB rfl _ _ rfl w.heap.size rfl p.arr (Blk.new _ _ _) strP HZ.out ?_)
    go_wp2_with (first
      | (go_at_call 40; refine (c_ref01_Num _ _).mono ?_; rintro e w6 ⟨rfl, hb6⟩; have hz6 := hb6.size; have hb6' : Below w.heap.size w w6 := hb4'.trans (hb6.mono hb4'.size); have B6 := Lib.hid (B4.out.below hb6 B4.out.lt); have q6 := B6.out.cell h0)
      | (go_at_call 40; refine (c_ref01_Num _ _).mono ?_; rintro e w3 ⟨rfl, hb3⟩; have hz3 := hb3.size; have B3 := Lib.hid (B1.out.below hb3 B1.out.lt); have q3 := B3.out.cell h0; have q3' := B3.out.cell h1)
      | (go_at_call 33; refine (c_ref06_CheckPatch p _ hm HF.out hs).mono ?_; rintro e w1 ⟨rfl, hb1⟩; have hz1 := hb1.size; simp only [World.size_alloc] at hz1; have B1 := Lib.hid ((Blk.new w 28 p.arr).below hb1 (by simp)); have q1 := B1.out.cell h0; have q1' := B1.out.cell h1)
      | (go_at_call 64; refine (c_ref05_Labels p.mask hm _).mono ?_; rintro e w4 ⟨rfl, hb4⟩; have hz4 := hb4.size; have B4 := Lib.hid (B3.out.below hb4 B3.out.lt); have q4 := B4.out.cell h0; have q4' := B4.out.cell h1; have hb4' : Below w.heap.size w w4 := (((Below.refl _ _).alloc (Nat.le_refl _) _).trans (hb1.mono (by simp))).trans ((hb3.trans (hb4.mono hb3.size)).mono (by omega))))
    go_loopw [3, 4] (fun v i wr => ∃ (k : Nat) (acc : List UInt8), k ≤ 8 ∧ acc.length ≤ 14 + k * 38 ∧ i = .int .i64 k ∧ v = .string (str acc) ∧ Hid (acc = (num p.mask ++ num p.lab) ++ bodyF p.f (bitsTo p.mask k)) ∧ Below w.heap.size w wr ∧ Blk wr w.heap.size p.arr)
      (fun _ i _ => 8 - (intOf i).toNat)
    case atStart => exact ⟨0, (num p.mask ++ num p.lab), by omega, by simp only [List.length_append]; omega, rfl, by simp, Lib.hid (by simp [bitsTo, bodyF]), hb6', B6.out⟩
    case round =>
      obtain ⟨k, acc, hk, hac, rfl, rfl, N, hbl', hB⟩ := hrel
      have hbz := hbl'.size
      clear q1 q3 q4 q1' q3' q4' q6 B1 B3 B4 B6 hb1 hb3 hb4 hb4' hb6 hb6'
      by_cases hlt : k < 8
      · have hnf : k < p.f.length := by have := HF.out; omega
        obtain ⟨d0, d1, d2⟩ := Patch.row hB hnf
        have dm := hB.cell h0
        have hs1 := hs _ (List.getElem_mem hnf)
        have hvl := valB_len p.f[k]
        cases hbit : p.mask.testBit k
        · have HN := Lib.hid (show acc = (num p.mask ++ num p.lab) ++ bodyF p.f (bitsTo p.mask (k + 1)) by rw [bitsTo_no hbit]; exact N.out)
          clear N H
          go_wp2_with (go_at_call 66; refine (c_ref03_Has p.mask k hm (by omega) _).mono ?_; rintro e w5 ⟨rfl, hb5⟩)
          go_roundw
          case rel => exact ⟨k + 1, acc, by omega, by omega, by go_num, rfl, HN, hbl'.trans (hb5.mono hbz), hB.below hb5 hB.lt⟩
          case measure => simp [intOf]; omega
        · have HN := Lib.hid (show acc ++ valB p.f[k] = (num p.mask ++ num p.lab) ++ bodyF p.f (bitsTo p.mask (k + 1)) by rw [bitsTo_yes hbit, bodyF_snoc, N.out, at8_eq hnf, List.append_assoc])
          clear N H
          go_wp2_with (first
            | (go_at_call 98; refine (c_ref08_PutValue p.f[k] _ hs1).mono ?_; rintro e w8 ⟨rfl, hb8⟩)
            | (go_at_call 66; refine (c_ref03_Has p.mask k hm (by omega) _).mono ?_; rintro e w5 ⟨rfl, hb5⟩; have B5 := hB.below hb5 hB.lt; obtain ⟨e0, e1, e2⟩ := Patch.row B5 hnf; have em := B5.cell h0))
          go_roundw
          case rel => exact ⟨k + 1, acc ++ valB p.f[k], by omega, by simp only [List.length_append]; omega, by go_num, rfl, HN, hbl'.trans ((hb5.trans (hb8.mono hb5.size)).mono hbz), B5.below hb8 B5.lt⟩
          case measure => simp [intOf]; omega
      · have : k = 8 := by omega
        subst this
        have HN := Lib.hid (N.out.trans H.out)
        clear N H
        go_wp2_with (fail)
        go_ret
        exact RetV.str HN.out hbl'
end Go.Proofs.YtiedkcijjfmhaaaDoor
