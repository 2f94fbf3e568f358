/-
  The walks of chapter 8's PutCard, the program's and the reference's: a card as bytes.
-/
import Derived.Test.YtjkjfnhplgcigaaDoorCb
import Derived.Test.YtjkjfnhplgcigaaDoorRel
namespace Go.Proofs.YtjkjfnhplgcigaaDoor
open Go.RowKit

theorem i64w {n : Int} (h0 : 0 ≤ n) (h : n ≤ 9223372036854775807) : IntKind.i64.wrap n = n := by
  simp [IntKind.wrap, IntKind.signed, IntKind.bits]; omega
theorem Card.row {p : Card} {w : World} {g : Nat} (h : Blk w g p.arr) {k : Nat} (hk : k < p.f.length) : w.cell? ⟨g, 3 + k * 3, none⟩ = some (.int .i64 p.f[k].kind) ∧ w.cell? ⟨g, 3 + k * 3 + 1, none⟩ = some (.int .i64 p.f[k].n) ∧ w.cell? ⟨g, 3 + k * 3 + 2, none⟩ = some (.string (str p.f[k].s)) := by
  obtain ⟨h0, h1, h2⟩ := Card.arr_val (c := p) hk
  exact ⟨h.cell h0, h.cell h1, h.cell h2⟩
theorem Card.part {p : Card} {w : World} {g : Nat} (h : Blk w g p.arr) (j : Nat) (u : Value) (hu : (farr p.f)[j]? = some u) : w.cell? ⟨g, 3 + j, none⟩ = some u := h.cell (by rw [Card.arr_tail]; exact hu)
set_option maxHeartbeats 2000000 in
set_option maxRecDepth 4000 in
theorem c_cardwire_PutCard (b : List UInt8) (B : Option Addr) (cb : Nat) (p : Card) (w : World) (hb : InB w B cb b) (hbl : b.length ≤ 1000000) (hf : p.f.length = 8) (hs : ∀ x ∈ p.f, x.s.length ≤ 4294967000) :
    Calls Tryd.prog 23 #[.slice B b.length cb, .agg p.arr] w (RetS 1 bc 5 w (b ++ cardB p)) := by
  have hL' := hb.1
  have hC' := hb.2.1
  obtain ⟨h0, h1, h2⟩ := p.arr_head
  have HF := Lib.hid hf
  have hsz : p.arr.size = 27 := by rw [Card.arr_size, hf]
  have HZ := Lib.hid hsz
  clear hsz
  by_cases hok : p.ok = true
  case neg =>
    have H : Hid (b = b ++ cardB p) := by show _ = _; rw [cardB_bad (by simpa using hok), List.append_nil]
    have hne : p.ok = false := by simpa using hok
    clear hok hf
    go_enter Tryd.func23, Tryd.ntmps23
    go_wp2_with (first
      | (with_reducible refine stop_load 40 (.tmp 3) rfl rfl ?_))
    refine Stop.mk (wpList_loadB rfl _ _ rfl w.heap.size rfl p.arr (Blk.new _ _ _) strC HZ.out ?_)
    go_wp2_with (first
      | (go_at_call 53; refine (c_Clone_b b B cb _ ((hb.below (by repeat (first | exact Below.refl _ _ | refine Below.drew ?_ | refine Below.alloc ?_ (by first | omega | (simp; done) | (simp; omega)) _ | refine Below.setCell ?_ (by first | omega | (simp; done) | (simp; omega)) _ | refine Below.trans ?_ (Below.mono (by assumption) (by first | omega | (simp; done) | (simp; omega)))))).below hb1)).mono ?_; rintro e w2 ⟨v2, rfl, own2, hb2⟩)
      | (go_at_call 59; refine (c_card_Check p _ HF.out hs).mono ?_; rintro e w1 ⟨rfl, hb1⟩; have hz1 := hb1.size; simp only [World.size_alloc] at hz1))
    go_ret
    exact RetS.of own2 (by omega) H.out (by repeat (first | exact Below.refl _ _ | refine Below.drew ?_ | refine Below.alloc ?_ (by first | omega | (simp; done) | (simp; omega)) _ | refine Below.setCell ?_ (by first | omega | (simp; done) | (simp; omega)) _ | refine Below.trans ?_ (Below.mono (by assumption) (by first | omega | (simp; done) | (simp; omega)))))
  obtain ⟨a1, a2, a3, a4, a5, a6⟩ := Card.ok_bds hok
  have a6' := Lib.hid a6
  have Hok := Lib.hid hok
  clear hf a6
  have hn1 := (num_len p.id).2
  have hn2 := (num_len p.ver).2
  have hn3 := (num_len p.lab).2
  have hn4 := (num_len (maskTo p.f 8)).2
  have EI := elemI
  have H : Hid (b ++ num p.id ++ num p.ver ++ num p.lab ++ num (maskTo p.f 8) ++ bodyF p.f ((kindsTo p.f 8).drop 0) = b ++ cardB p) := by show _ = _; rw [cardB_ok Hok.out, List.drop_zero]; simp
  go_enter Tryd.func23, Tryd.ntmps23
  go_wp2_with (first
    | (with_reducible refine stop_load 40 (.tmp 3) rfl rfl ?_))
  refine Stop.mk (wpList_loadB rfl _ _ rfl w.heap.size rfl p.arr (Blk.new _ _ _) strC HZ.out ?_)
  go_wp2_with (first
    | (with_reducible refine stop_load 25 (.tmp 15) rfl rfl ?_)
    | (go_at_call 59; refine (c_card_Check p _ HF.out hs).mono ?_; rintro e w1 ⟨rfl, hb1⟩; have hz1 := hb1.size; simp only [World.size_alloc] at hz1; have B1 := Lib.hid ((Blk.new w 40 p.arr).below hb1 (by simp)); have hb1' : Below w.heap.size w w1 := ((Below.refl _ _).alloc (Nat.le_refl _) _).trans (hb1.mono (by simp))))
  refine Stop.mk (wpList_loadAt rfl _ _ rfl w.heap.size 3 rfl (farr p.f) (Card.part B1.out) strF (by rw [farr_size, HF.out]) ?_)
  go_wp2
  go_loopw [5, 6, 7, 17] (fun v _ _ i wr => ∃ k : Nat, k ≤ 8 ∧ i = .int .i64 k ∧ Hid (wr.ownsRow (w.heap.size + 1) 3 1 v (kindsTo p.f k).length ((ints (kindsTo p.f k)).flatMap ic)) ∧ Below w.heap.size w wr ∧ Blk wr w.heap.size p.arr) (fun _ _ _ i _ => 8 - (intOf i).toNat)
  case atStart => exact ⟨0, by omega, rfl, World.ownsRow_nil _ _ _ _, hb1', B1.out⟩
  case round =>
    clear hb1 hb1' B1
    obtain ⟨k, hk, rfl, O, hbl', hB⟩ := hrel
    have hbz := hbl'.size
    have hzl := hB.lt
    by_cases hlt : k < 8
    · have hnf : k < p.f.length := by have := HF.out; omega
      have ki := fun w => index_farr HF.out k hlt w
      have hkl := kindsTo_len p.f k
      obtain ⟨A1, c1, rfl, hc1, hc2⟩ := own_form O.out
      by_cases hkd : p.f[k].kind = 0
      · have hx : (p.f[k].kind != 0) = false := by simp [hkd]
        have EK := Lib.hid (kindsTo_no (f := p.f) (k := k) (by rw [at8_eq hnf]; exact hkd))
        have HK := Lib.hid hkd
        clear hkd
        go_wp2
        go_roundw
        case rel => exact ⟨k + 1, by omega, by go_num, by show World.ownsRow _ _ _ _ _ _ _; rw [EK.out]; exact own_below O.out (by repeat (first | exact Below.refl _ _ | refine Below.drew ?_ | refine Below.alloc ?_ (by first | omega | (simp; done) | (simp; omega)) _ | refine Below.setCell ?_ (by first | omega | (simp; done) | (simp; omega)) _ | refine Below.trans ?_ (Below.mono (by assumption) (by first | omega | (simp; done) | (simp; omega))))), hbl'.trans (by repeat (first | exact Below.refl _ _ | refine Below.drew ?_ | refine Below.alloc ?_ (by first | omega | (simp; done) | (simp; omega)) _ | refine Below.setCell ?_ (by first | omega | (simp; done) | (simp; omega)) _ | refine Below.trans ?_ (Below.mono (by assumption) (by first | omega | (simp; done) | (simp; omega))))), hB.below ((Below.refl _ _).alloc (Nat.le_refl _) _) hB.lt⟩
        case measure => simp [intOf]; omega
      · have hx : (p.f[k].kind != 0) = true := by simpa using hkd
        have EK := Lib.hid (kindsTo_yes (f := p.f) (k := k) (by rw [at8_eq hnf]; exact hkd))
        clear hkd
        go_wp2_with ((at_builtin; refine Stop.out ?_))
        refine Stop.mk (wpList_app _ rfl (.tmp 24) (.tmp 26) EI rfl (w.heap.size + 1) (.slice A1 (kindsTo p.f k).length c1) (kindsTo p.f k).length ((ints (kindsTo p.f k)).flatMap ic) rfl (own_below (own_below O.out ((Below.refl _ _).alloc (Nat.le_refl _) _)) ((Below.refl _ _).alloc (Nat.le_refl _) _)) _ 1 1 [.int .i64 k] rfl (by have := Src.new (wr.alloc (.cells #[.int .i64 p.f[k].kind, .int .i64 p.f[k].n, .string (str p.f[k].s)] 24)) [.int .i64 k] 3 1 rfl; simpa using this) (by simp [Value.oneCell']) (by omega) ?_ ?_)
        · simp only [World.size_alloc]; omega
        intro v2 w2 own2 _ hb2 _
        have hb2' : Below w.heap.size w w2 := (hbl'.trans (by repeat (first | exact Below.refl _ _ | refine Below.drew ?_ | refine Below.alloc ?_ (by first | omega | (simp; done) | (simp; omega)) _ | refine Below.setCell ?_ (by first | omega | (simp; done) | (simp; omega)) _ | refine Below.trans ?_ (Below.mono (by assumption) (by first | omega | (simp; done) | (simp; omega)))))).trans (hb2.mono (by omega))
        have B2 := ((hB.below ((Below.refl _ _).alloc (Nat.le_refl _) _) hB.lt).below ((Below.refl _ _).alloc (Nat.le_refl _) (.cells #[.int .i64 k] 3)) (by simp; omega)).below hb2 (Nat.lt_succ_self _)
        go_wp2_with (fail)
        go_roundw
        case rel => exact ⟨k + 1, by omega, by go_num, by show World.ownsRow _ _ _ _ _ _ _; rw [EK.out]; simpa [ints, ic] using own2, hb2', B2⟩
        case measure => simp [intOf]; omega
    · have : k = 8 := by omega
      subst this
      go_wp2
      have hO := O.out
      rw [show (kindsTo p.f 8).length = (ints (kindsTo p.f 8)).length by simp] at hO
      obtain ⟨AL, cL, rfl, inL⟩ := In.of_own ic_len hO (by have := kindsTo_len p.f 8; simp; omega)
      clear hO
      have IL := Lib.hid inL
      have Bw := Lib.hid hB
      have q0 := hB.cell h0
      have q1 := hB.cell h1
      have q2 := hB.cell h2
      obtain ⟨l1, hl1⟩ : ∃ l1, l1 = b ++ num p.id := ⟨_, rfl⟩
      obtain ⟨l2, hl2⟩ : ∃ l2, l2 = l1 ++ num p.ver := ⟨_, rfl⟩
      obtain ⟨l3, hl3⟩ : ∃ l3, l3 = l2 ++ num p.lab := ⟨_, rfl⟩
      have hl1n : l1.length ≤ b.length + 7 := by rw [hl1]; simp only [List.length_append]; omega
      have hl2n : l2.length ≤ b.length + 14 := by rw [hl2]; simp only [List.length_append]; omega
      have hl3n : l3.length ≤ b.length + 21 := by rw [hl3]; simp only [List.length_append]; omega
      have L1 := Lib.hid hl1
      have L2 := Lib.hid hl2
      have L3 := Lib.hid hl3
      have H3 := Lib.hid (show l3 = b ++ num p.id ++ num p.ver ++ num p.lab by rw [hl3, hl2, hl1])
      clear hl1 hl2 hl3
      refine wp_region_rel [Sp.slice 1 bc b, Sp.eq (.pointer (some ⟨w.heap.size, 0, none⟩)), Sp.eq (.int .i64 p.id), Sp.slice 1 bc l1, Sp.eq (.pointer (some ⟨w.heap.size, 1, none⟩)), Sp.eq (.int .i64 p.ver), Sp.slice 1 bc l2,
        Sp.eq (.pointer (some ⟨w.heap.size, 2, none⟩)), Sp.eq (.int .u32 p.lab), Sp.eq (.int .i64 p.lab), Sp.slice 1 bc l3, Sp.slice 1 bc l3] 59 (by kernel_rfl) (by kernel_rfl) rfl rfl ?_ ?_
      · refine ⟨?_, ?_, ?_, ?_, ?_, ?_, ?_, ?_, ?_, ?_, ?_, ?_, trivial⟩
        all_goals (intro u w2 hb2 hd; simp [Deps, Region.binds, Sp.slice_holds, Sp.eq_holds] at hd; simp only [putDeps, dstOf, Region.binds])
        case refine_1 => go_wp2_with (fail); exact RelEnd.mk rfl (Below.refl _ _) ⟨B, cb, rfl, (hb.below (hbl'.trans (hb2.mono hbz)))⟩
        case refine_2 => go_wp2_with (fail); exact RelEnd.mk rfl (Below.refl _ _) rfl
        case refine_3 =>
          have q := (Bw.out.below hb2 Bw.out.lt).cell h0
          go_wp2_with (fail)
          exact RelEnd.mk rfl (Below.refl _ _) rfl
        case refine_4 =>
          obtain ⟨⟨A4, c4, d0, d1⟩, d2⟩ := hd
          go_wp2_with (go_at_call 54; refine (c_octet_Num b A4 c4 _ _ d1).mono ?_; rintro e w3 ⟨v3, rfl, own3, hb3⟩)
          rw [← L1.out] at own3
          exact RelEnd.mk rfl hb3 (In.of_own bc_len own3 (by omega))
        case refine_5 => go_wp2_with (fail); exact RelEnd.mk rfl (Below.refl _ _) rfl
        case refine_6 =>
          have q := (Bw.out.below hb2 Bw.out.lt).cell h1
          go_wp2_with (fail)
          exact RelEnd.mk rfl (Below.refl _ _) rfl
        case refine_7 =>
          obtain ⟨⟨A4, c4, d0, d1⟩, d2⟩ := hd
          go_wp2_with (go_at_call 54; refine (c_octet_Num l1 A4 c4 _ _ d1).mono ?_; rintro e w3 ⟨v3, rfl, own3, hb3⟩)
          rw [← L2.out] at own3
          exact RelEnd.mk rfl hb3 (In.of_own bc_len own3 (by omega))
        case refine_8 => go_wp2_with (fail); exact RelEnd.mk rfl (Below.refl _ _) rfl
        case refine_9 =>
          have q := (Bw.out.below hb2 Bw.out.lt).cell h2
          go_wp2_with (fail)
          exact RelEnd.mk rfl (Below.refl _ _) rfl
        case refine_10 => go_wp2_with (fail); exact RelEnd.mk rfl (Below.refl _ _) rfl
        case refine_11 =>
          obtain ⟨⟨A4, c4, d0, d1⟩, d2⟩ := hd
          go_wp2_with (go_at_call 54; refine (c_octet_Num l2 A4 c4 _ _ d1).mono ?_; rintro e w3 ⟨v3, rfl, own3, hb3⟩)
          rw [← L3.out] at own3
          exact RelEnd.mk rfl hb3 (In.of_own bc_len own3 (by omega))
        case refine_12 =>
          obtain ⟨⟨A4, c4, d0, d1⟩, -⟩ := hd
          go_wp2_with (fail)
          exact RelEnd.mk rfl (Below.refl _ _) ⟨A4, c4, rfl, d1⟩
      · intro u w2 hb2 hold
        simp only [RelHold, Sp.eq_holds, Sp.slice_holds] at hold
        obtain ⟨-, -, -, -, -, -, -, -, -, -, -, ⟨A3, c3, e3, in3⟩, -⟩ := hold
        have B2 := Lib.hid (Bw.out.below hb2 Bw.out.lt)
        have I2 := Lib.hid (IL.out.below hb2)
        have hbl2 : Below w.heap.size w w2 := hbl'.trans (hb2.mono hbz)
        have hmk : ∀ w', InI w' AL cL (ints (kindsTo p.f 8)) → Calls Tryd.prog 60 #[.bool false, .slice AL (kindsTo p.f 8).length cL] w' (RetV w' (.int .u32 ((maskTo p.f 8 : Nat) : Int))) := fun w' h => by
          have h' := c_mask_Make (ints (kindsTo p.f 8)) AL cL w' (fun n hn => by obtain ⟨k, hk, rfl⟩ := List.mem_map.1 hn; have := kindsTo_bd hk; simp; omega) h
          rw [List.length_map, show maskOf (ints (kindsTo p.f 8)) &&& 255 = maskTo p.f 8 from maskTo_255 p.f] at h'
          exact h'
        have hml := maskTo_lt p.f 8 (by omega)
        have hkl := kindsTo_len p.f 8
        have LL := Lib.hid (show (ints (kindsTo p.f 8)).length = (kindsTo p.f 8).length by simp)
        simp only [putAll, Act.put, Nat.reduceAdd, List.setIfInBounds_toArray, List.set_cons_zero, List.set_cons_succ]
        rw [e3, LL.out]
        have E3 := Lib.hid e3
        clear e3 q0 q1 q2 O hbl' hB
        go_wp2_with (first
          | (go_at_call 60; refine (hmk _ I2.out).mono ?_; rintro e w4 ⟨rfl, hb4⟩; have hz4 := hb4.size)
          | (go_at_call 54; refine (c_octet_Num l3 A3 c3 _ _ (in3.below hb4)).mono ?_; rintro e w6 ⟨v6, rfl, own6, hb6⟩; have hz6 := hb6.size; obtain ⟨l6, A6, c6, H6, hl6, rfl, in6, own6'⟩ := own_open bc_len own6 (b.length + 28) (by simp only [List.length_append]; omega) (by omega); clear own6))
        have hz2 := hbl2.size
        go_loopw [0, 9, 47] (fun v _ i wr => ∃ (k : Nat) (acc : List UInt8), k ≤ (kindsTo p.f 8).length ∧ acc.length ≤ b.length + 28 + k * 38 ∧ i = .int .i64 k ∧ Hid (wr.ownsRow w.heap.size 5 1 v acc.length (acc.flatMap bc)) ∧ Hid (acc ++ bodyF p.f ((kindsTo p.f 8).drop k) = b ++ cardB p) ∧ Below w.heap.size w wr ∧ Blk wr w.heap.size p.arr ∧ InI wr AL cL (ints (kindsTo p.f 8)))
          (fun _ _ i _ => (kindsTo p.f 8).length - (intOf i).toNat)
        case atStart => exact ⟨0, l6, by omega, by omega, rfl, Lib.hid (own_base own6'.out (by omega)), by show _ = _; rw [H6.out, H3.out]; exact H.out, hbl2.trans ((hb4.trans (hb6.mono hz4)).mono hz2), (B2.out.below hb4 B2.out.lt).below hb6 (by have := B2.out.lt; omega), (I2.out.below hb4).below hb6⟩
        case round =>
          obtain ⟨k, acc, hk, hac, rfl, O, N, hbl', hB, hI⟩ := hrel
          have hbz := hbl'.size
          clear hb4 hb6 own6' in6 in3
          by_cases hlt : k < (kindsTo p.f 8).length
          · obtain ⟨bl, off, rfl, hbb, hrow⟩ := hI.at (i := k) (by simpa using hlt)
            have hc0 := hrow k (by simpa using hlt) 0 _ rfl
            obtain ⟨n, hn⟩ : ∃ n, n = (kindsTo p.f 8)[k] := ⟨_, rfl⟩
            have hn8 : n < 8 := by rw [hn]; exact kindsTo_bd (List.getElem_mem hlt)
            have hin : (ints (kindsTo p.f 8))[k]'(by simpa using hlt) = (n : Int) := by simp [hn]
            rw [hin] at hc0
            simp only [Nat.mul_one, Nat.add_zero] at hc0
            have hnf : n < p.f.length := by have := HF.out; omega
            obtain ⟨d0, d1, d2⟩ := Card.row hB hnf
            have hs1 := hs _ (List.getElem_mem hnf)
            have hN := N.out
            rw [List.drop_eq_getElem_cons hlt, ← hn] at hN
            have HN := Lib.hid (show (acc ++ valB p.f[n]) ++ bodyF p.f ((kindsTo p.f 8).drop (k + 1)) = b ++ cardB p by rw [← hN, ← at8_eq hnf]; simp [bodyF])
            obtain ⟨A1, c1, rfl, in1⟩ := In.of_own bc_len O.out (by omega)
            have hvl := valB_len p.f[n]
            clear hN N hn hin hrow H O
            go_wp2_with (go_at_call 21; refine (c_cardwire_PutValue acc A1 c1 p.f[n] _ in1 (by omega) hs1).mono ?_; rintro e w8 ⟨v8, rfl, own8, hb8⟩)
            go_roundw
            case rel => exact ⟨k + 1, acc ++ valB p.f[n], by omega, by simp only [List.length_append]; omega, by go_num, Lib.hid (own_base own8 (by omega)), HN, hbl'.trans (hb8.mono hbz), hB.below hb8 hB.lt, hI.below hb8⟩
            case measure => simp [intOf]; omega
          · have hN := N.out
            rw [List.drop_of_length_le (by omega)] at hN
            have HN := Lib.hid hN
            obtain ⟨A1, c1, rfl, _, _⟩ := own_form O.out
            clear hN N H
            go_wp2_with (fail)
            go_ret
            exact RetS.of O.out (by omega) (by rw [← HN.out]; simp [bodyF]) hbl'
set_option maxHeartbeats 2000000 in
set_option maxRecDepth 4000 in
theorem c_ref08_PutCard (p : Card) (w : World) (hf : p.f.length = 8) (hs : ∀ x ∈ p.f, x.s.length ≤ 4294967000) :
    Calls Tryd.prog 24 #[.agg p.arr] w (RetV w (.string (str (cardB p)))) := by
  obtain ⟨h0, h1, h2⟩ := p.arr_head
  have HF := Lib.hid hf
  have hsz : p.arr.size = 27 := by rw [Card.arr_size, hf]
  have HZ := Lib.hid hsz
  clear hsz
  by_cases hok : p.ok = true
  case neg =>
    have H : Hid (([] : List UInt8) = cardB p) := by show _ = _; rw [cardB_bad (by simpa using hok)]
    have hne : p.ok = false := by simpa using hok
    clear hok hf
    go_enter Tryd.func24, Tryd.ntmps24
    go_wp2_with (first
      | (with_reducible refine stop_load 40 (.tmp 1) rfl rfl ?_))
    refine Stop.mk (wpList_loadB rfl _ _ rfl w.heap.size rfl p.arr (Blk.new _ _ _) strC HZ.out ?_)
    go_wp2_with (first
      | (go_at_call 38; refine (c_ref06_Check p _ HF.out hs).mono ?_; rintro e w1 ⟨rfl, hb1⟩; have hz1 := hb1.size; simp only [World.size_alloc] at hz1))
    go_ret
    exact RetV.str H.out (((Below.refl _ _).alloc (Nat.le_refl _) _).trans (hb1.mono (by simp)))
  obtain ⟨a1, a2, a3, a4, a5, a6⟩ := Card.ok_bds hok
  have a6' := Lib.hid a6
  have Hok := Lib.hid hok
  clear hf a6
  have hn1 := (num_len p.id).2
  have hn2 := (num_len p.ver).2
  have hn3 := (num_len p.lab).2
  have hn4 := (num_len (maskTo p.f 8)).2
  have H : Hid (num p.id ++ num p.ver ++ num p.lab ++ num (maskTo p.f 8) ++ bodyF p.f (kindsTo p.f 8) = cardB p) := by show _ = _; rw [cardB_ok Hok.out]
  go_enter Tryd.func24, Tryd.ntmps24
  go_wp2_with (first
    | (with_reducible refine stop_load 40 (.tmp 1) rfl rfl ?_))
  refine Stop.mk (wpList_loadB rfl _ _ rfl w.heap.size rfl p.arr (Blk.new _ _ _) strC HZ.out ?_)
  go_wp2_with (first
    | (go_at_call 38; refine (c_ref06_Check p _ HF.out hs).mono ?_; rintro e w1 ⟨rfl, hb1⟩; have hz1 := hb1.size; simp only [World.size_alloc] at hz1; have B1 := Lib.hid ((Blk.new w 40 p.arr).below hb1 (by simp)); have hb1' : Below w.heap.size w w1 := ((Below.refl _ _).alloc (Nat.le_refl _) _).trans (hb1.mono (by simp))))
  go_loopw [3, 4, 5] (fun m v i wr => ∃ (k : Nat) (acc : List UInt8), k ≤ 8 ∧ acc.length ≤ k * 38 ∧ i = .int .i64 k ∧ m = .int .u32 ((maskTo p.f k : Nat) : Int) ∧ v = .string (str acc) ∧ Hid (acc = bodyF p.f (kindsTo p.f k)) ∧ Below w.heap.size w wr ∧ Blk wr w.heap.size p.arr)
    (fun _ _ i _ => 8 - (intOf i).toNat)
  case atStart => exact ⟨0, [], by omega, by simp, rfl, rfl, rfl, Lib.hid rfl, hb1', B1.out⟩
  case round =>
    clear hb1 hb1' B1
    obtain ⟨k, acc, hk, hac, rfl, rfl, rfl, N, hbl', hB⟩ := hrel
    have hbz := hbl'.size
    by_cases hlt : k < 8
    · have hnf : k < p.f.length := by have := HF.out; omega
      obtain ⟨d0, d1, d2⟩ := Card.row hB hnf
      have hs1 := hs _ (List.getElem_mem hnf)
      have hvl := valB_len p.f[k]
      by_cases hkd : p.f[k].kind = 0
      · have hx : (p.f[k].kind != 0) = false := by simp [hkd]
        have hk0 : (at8 p.f k).kind = 0 := by rw [at8_eq hnf]; exact hkd
        have EM := Lib.hid (maskTo_no hk0)
        have HN := Lib.hid (show acc = bodyF p.f (kindsTo p.f (k + 1)) by rw [kindsTo_no hk0]; exact N.out)
        have HK := Lib.hid hkd
        clear hkd hk0 N H
        go_wp2
        go_roundw
        case rel => exact ⟨k + 1, acc, by omega, by omega, by go_num, by rw [EM.out], rfl, HN, hbl', hB⟩
        case measure => simp [intOf]; omega
      · have hx : (p.f[k].kind != 0) = true := by simpa using hkd
        have hk0 : (at8 p.f k).kind ≠ 0 := by rw [at8_eq hnf]; exact hkd
        have hml := maskTo_lt p.f k (by omega)
        have hmp : (2 : Nat) ^ k ≤ 2 ^ 8 := Nat.pow_le_pow_right (by omega) (by omega)
        have hml2 := maskTo_lt p.f (k + 1) (by omega)
        have hmp2 : (2 : Nat) ^ (k + 1) ≤ 2 ^ 8 := Nat.pow_le_pow_right (by omega) (by omega)
        have hm9 : maskTo p.f k < 256 := by omega
        have hm92 : maskTo p.f (k + 1) < 256 := by omega
        have hw : ∀ w', Calls Tryd.prog 61 #[.int .u32 (maskTo p.f k), .int .i64 k] w' (RetV w' (.int .u32 ((maskTo p.f (k + 1) : Nat) : Int))) := fun w' => by
          have h' := c_ref03_With (maskTo p.f k) k (by omega) (by omega) w'
          rw [maskTo_with (by omega) hk0, Int.emod_eq_of_lt (by omega) (by omega)] at h'
          exact h'
        have HN := Lib.hid (show acc ++ valB p.f[k] = bodyF p.f (kindsTo p.f (k + 1)) by rw [kindsTo_yes hk0, bodyF_snoc, N.out, at8_eq hnf])
        clear hkd hk0 N H hml hmp hml2 hmp2
        go_wp2_with (first
          | (go_at_call 22; refine (c_ref08_PutValue p.f[k] _ hs1).mono ?_; rintro e w8 ⟨rfl, hb8⟩)
          | (go_at_call 61; refine (hw _).mono ?_; rintro e w5 ⟨rfl, hb5⟩; have B5 := hB.below hb5 hB.lt; obtain ⟨e0, e1, e2⟩ := Card.row B5 hnf))
        go_roundw
        case rel => exact ⟨k + 1, acc ++ valB p.f[k], by omega, by simp only [List.length_append]; omega, by go_num, rfl, rfl, HN, hbl'.trans ((hb5.trans (hb8.mono hb5.size)).mono hbz), B5.below hb8 B5.lt⟩
        case measure => simp [intOf]; omega
    · have : k = 8 := by omega
      subst this
      have HN := Lib.hid (show num p.id ++ num p.ver ++ num p.lab ++ num (maskTo p.f 8) ++ acc = cardB p by rw [N.out]; exact H.out)
      have hml := maskTo_lt p.f 8 (by omega)
      have hml' : ((maskTo p.f 8 : Nat) : Int) ≤ 255 := by omega
      have q0 := hB.cell h0
      have q1 := hB.cell h1
      have q2 := hB.cell h2
      have hlt0 := hB.lt
      have b1 : ¬ 9223372036854775807 < (num p.id).length + (num p.ver).length := by omega
      have b2 : ¬ 9223372036854775807 < (num p.id).length + (num p.ver).length + (num p.lab).length := by omega
      have b3 : ¬ 9223372036854775807 < (num p.id).length + (num p.ver).length + (num p.lab).length + (num (maskTo p.f 8)).length := by omega
      have b4 : ¬ 9223372036854775807 < (num p.id).length + (num p.ver).length + (num p.lab).length + (num (maskTo p.f 8)).length + acc.length := by omega
      have b2' : ¬ 9223372036854775807 < (num p.id).length + ((num p.ver).length + (num p.lab).length) := by omega
      have b3' : ¬ 9223372036854775807 < (num p.id).length + ((num p.ver).length + (num p.lab).length) + (num (maskTo p.f 8)).length := by omega
      have b4' : ¬ 9223372036854775807 < (num p.id).length + ((num p.ver).length + ((num p.lab).length + (num (maskTo p.f 8)).length)) + acc.length := by omega
      have kw1 : IntKind.i64.wrap (p.lab : Int) = p.lab := i64w (by omega) (by omega)
      have kw2 : IntKind.i64.wrap ((maskTo p.f 8 : Nat) : Int) = maskTo p.f 8 := i64w (by omega) (by omega)
      clear N H
      go_wp2
      refine wp_region_grow (by kernel_rfl) (by kernel_rfl) ?_
      repeat (quiet_step ((first | (go_at_call 55; exact quiet_grow (c_ref01_Num _ _)))))
      refine wpQuiet_nil ?_
      intro w2 hb2
      go_wp2_with (fail)
      go_ret
      refine RetV.str ?_ (hbl'.trans (hb2.mono hbz))
      rw [← HN.out]
      simp
end Go.Proofs.YtjkjfnhplgcigaaDoor
