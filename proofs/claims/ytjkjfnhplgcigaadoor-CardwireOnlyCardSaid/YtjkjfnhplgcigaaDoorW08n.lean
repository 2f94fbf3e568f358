/-
  The walk of the statement CardwireOnly: it answers true, whatever the bytes. (Printed by gen08n.py.)
-/
import Derived.Test.YtjkjfnhplgcigaaDoorW08f
import Derived.Test.YtjkjfnhplgcigaaDoorW08i
import Derived.Test.YtjkjfnhplgcigaaDoorW08j
import Derived.Test.YtjkjfnhplgcigaaDoorW01d
import Derived.Test.YtjkjfnhplgcigaaDoorW01f
import Derived.Test.YtjkjfnhplgcigaaDoorRel
namespace Go.Proofs.YtjkjfnhplgcigaaDoor
open Go.RowKit

theorem RdP.other {w w' : World} {g1 g2 : Nat} {st1 st2 : Rd} (h1 : RdP w (some g1) st1) (h2 : RdP w (some g2) st2) (hne : g1 ≠ g2) (k : Kept (some g1) w.heap.size w w') : RdP w' (some g2) st2 := by
  obtain ⟨A1, c1, L1, pos1, ha1, -⟩ := h1.at
  obtain ⟨A, c, L, pos, ha, hs⟩ := h2.at
  obtain ⟨x1, x2, x3, x4, x5, x6⟩ := ha
  refine RdP.mk (A := A) (c := c) (B := L) (pos := pos) ⟨x1.kept k x1.lt (by simpa using hne), x2, x3, x4, x5, ?_⟩ hs
  rcases x6 with x6 | ⟨bb, off, hA, hb, hrw⟩
  · exact .inl x6
  · by_cases hL : L = []
    · exact .inl hL
    · refine .inr ⟨bb, off, hA, hb, hrw.keep fun o => k.cell (by have := x1.lt; show bb < _; omega) (fun e => ?_)⟩
      injection e with e
      have hlen : 0 < L.length := List.length_pos_iff.2 hL
      have h0 := hrw 0 hlen 0 _ rfl
      simp only [Nat.zero_mul, Nat.add_zero] at h0
      rw [show bb = g1 from e.symm] at h0
      obtain ⟨t, hB⟩ := ha1.1
      simp only [World.cell?, hB] at h0
      rcases off with _ | _ | _ | off <;> simp at h0
theorem In.take {α : Type} {k : Nat} {cs : α → List Value} {w : World} {A : Option Addr} {c : Nat} {l : List α} (h : In k cs w A c l) {n : Nat} (hn : n ≤ l.length) : In k cs w A c (l.take n) := by
  have hl : (l.take n).length = n := by rw [List.length_take]; omega
  have h1 := h.1
  have h3 := h.2.2.1
  refine ⟨by omega, h.2.1, by omega, ?_⟩
  rcases h.2.2.2 with h0 | ⟨b, off, hA, hb, hr⟩
  · subst h0; left; simp
  · exact .inr ⟨b, off, hA, hb, hr.take n⟩
theorem head_run (A : Option Addr) (c len n : Nat) (hn : n ≤ len) (hc : len ≤ c) (x : World) :
    (Instr.slice 30 (.slice A len c) none (some (.int .i64 n)) none).run Tryd.prog x = .ok (.slice A n c) x := by
  have hr := run_slice_h (P := Tryd.prog) (w := x) 30 A len c bytes_elem .i64 (n : Int) (by omega) (by omega)
  rw [hr, bytes_size]
  simp only [Result.andThen, sliced]
  rw [show ((n : Int)).toNat = n by omega, Nat.zero_mul, Nat.sub_zero, Nat.sub_zero]
  have : A.map (·.add 0) = A := by
    cases A with
    | none => rfl
    | some a => simp [Addr.add]
  rw [this]
  split <;> rfl
set_option maxHeartbeats 400000 in
theorem c_law08_CardwireOnly_long (n : Nat) (A : Option Addr) (c : Nat) (w : World) (hn : 1000 < n) :
    Calls Tryd.prog 9 #[.slice A n c] w (RetV w (.bool true)) := by
  go_enter Tryd.func9, Tryd.ntmps9
  go_wp2_with (go_at_call 20; refine (c_law08_awake _).mono ?_; rintro e w2 ⟨rfl, hb2⟩)
  go_ret
  exact RetV.bool rfl (by repeat (first | exact Below.refl _ _ | refine Below.drew ?_ | refine Below.alloc ?_ (by first | omega | (simp; done) | (simp; omega)) _ | refine Below.setCell ?_ (by first | omega | (simp; done) | (simp; omega)) _ | refine Below.trans ?_ (Below.mono (by assumption) (by first | omega | (simp; done) | (simp; omega)))))
set_option maxHeartbeats 16000000 in
set_option maxRecDepth 4000 in
theorem c_law08_CardwireOnly (b : List UInt8) (A : Option Addr) (c : Nat) (w : World) (h : InB w A c b) (hbl : b.length ≤ 1000) (hT : Tab w) :
    Calls Tryd.prog 9 #[.slice A b.length c] w (RetV w (.bool true)) := by
  have hL := h.1
  have hC := h.2.1
  have HB := Lib.hid h
  have HT := Lib.hid hT
  obtain ⟨s1, hs1⟩ : ∃ s, s = rdCard' ⟨b, 0⟩ := ⟨_, rfl⟩
  obtain ⟨C, hCd⟩ : ∃ C, C = rdCard ⟨b, 0⟩ := ⟨_, rfl⟩
  obtain ⟨s2, hs2⟩ : ∃ s, s = rdPatch' ⟨b, 0⟩ := ⟨_, rfl⟩
  obtain ⟨Q, hQd⟩ : ∃ Q, Q = rdPatch ⟨b, 0⟩ := ⟨_, rfl⟩
  have l1 : s1.s.length ≤ b.length := by rw [hs1]; exact rdCard'_len _
  have l2 : s2.s.length ≤ b.length := by rw [hs2]; exact rdPatch'_len _
  have t1 : s1.e = 0 → C.ok = true ∧ b = cardB C ++ s1.s := fun h => by
    rw [hs1] at h
    have := (rdCard_took h).2
    rw [hCd, hs1]
    exact this
  have t2 : s2.e = 0 → Q.code = 0 ∧ b = patchB Q ++ s2.s := fun h => by
    rw [hs2] at h
    have := (rdPatch_took h).2
    rw [hQd, hs2]
    exact this
  have hCl : C.f.length = 8 := by rw [hCd]; exact rdCard_len _
  have hQl : Q.f.length = 8 := by rw [hQd]; exact rdPatch_len _
  have HCL := Lib.hid hCl
  have HQL := Lib.hid hQl
  have HCV := Lib.hid (show ∀ x ∈ C.f, x.ok = true by rw [hCd]; exact rdCard_vals _)
  have HCS := Lib.hid (show ∀ x ∈ C.f, x.s.length ≤ 4294967000 by rw [hCd]; exact rdCard_sizes _)
  have HQS := Lib.hid (show ∀ x ∈ Q.f, x.s.length ≤ 4294967000 by rw [hQd]; exact rdPatch_sizes _)
  have HQM := Lib.hid (show Q.mask < 4294967296 by rw [hQd]; have := (rdPatch_mask ⟨b, 0⟩).1; omega)
  have HCZ := Lib.hid (show C.arr.size = 27 by rw [Card.arr_size, hCl])
  have HQZ := Lib.hid (show Q.arr.size = 26 by rw [Patch.arr_size, hQl])
  have H1 := Lib.hid hs1
  have H2 := Lib.hid hs2
  have HCd := Lib.hid hCd
  have HQd := Lib.hid hQd
  have mc := cardB_len C
  have mp := patchB_len Q
  obtain ⟨n1, hn1d⟩ : ∃ n, n = b.length - s1.s.length := ⟨_, rfl⟩
  obtain ⟨n2, hn2d⟩ : ∃ n, n = b.length - s2.s.length := ⟨_, rfl⟩
  have hn1 : n1 ≤ b.length := by omega
  have hn2 : n2 ≤ b.length := by omega
  have hw1 : IntKind.i64.wrap ((b.length : Int) - (s1.s.length : Int)) = (n1 : Int) := by rw [IntWalk.i64_in _ (by omega)]; omega
  have hw2 : IntKind.i64.wrap ((b.length : Int) - (s2.s.length : Int)) = (n2 : Int) := by rw [IntWalk.i64_in _ (by omega)]; omega
  have N1 := Lib.hid hn1d
  have N2 := Lib.hid hn2d
  have h0l : 0 < C.f.length := by omega
  obtain ⟨x0, hx0⟩ : ∃ x, x = C.f[0]'h0l := ⟨_, rfl⟩
  have hxo : x0.ok = true := by rw [hx0]; exact HCV.out _ (List.getElem_mem _)
  have hxs := Val.ok_len hxo
  have X0 := Lib.hid hx0
  clear h hT hs1 hs2 hCd hQd hCl hQl hn1d hn2d hx0
  go_enter Tryd.func9, Tryd.ntmps9
  go_wp2_with (fail)
  refine (c_octet_New b A c _ HB.out).mono ?_
  rintro e1 a1 ⟨g1, rfl, hg1, hr1, hb1⟩
  have hz1 := hb1.size
  have hl1 := hr1.lt rfl
  go_wp2_with (fail)
  refine (c_octet_New b A c _ (HB.out.below hb1)).mono ?_
  rintro e2 a2 ⟨g2, rfl, hg2, hr2, hb2⟩
  have hz2 := hb2.size
  have hl2 := hr2.lt rfl
  have hW2 : Below w.heap.size w a2 := hb1.trans (hb2.mono hz1)
  have hr1' := hr1.below hb2
  clear hr1 hb1 hb2
  go_wp2_with (fail)
  refine (c_cardwire_Card (some g1) ⟨b, 0⟩ _ (HT.out.below hW2) hr1').mono ?_
  rintro e3 a3 ⟨rfl, hr3, hk3⟩
  have hz3 := hk3.size
  have hW3 : Below w.heap.size w a3 := hW2.trans (hk3.below hW2.size (fun x hx => by injection hx with hx; omega))
  have hr3' : RdP a3 (some g2) ⟨b, 0⟩ := hr1'.other hr2 (by omega) hk3
  rw [← HCd.out]
  rw [← H1.out] at hr3
  clear hk3 hr1' hr2
  go_wp2_with (fail)
  refine (c_cardwire_Patch (some g2) ⟨b, 0⟩ _ (HT.out.below hW3) hr3').mono ?_
  rintro e4 a4 ⟨rfl, hr4, hk4⟩
  have hz4 := hk4.size
  have hW4 : Below w.heap.size w a4 := hW3.trans (hk4.below hW3.size (fun x hx => by injection hx with hx; omega))
  have hq4 : RdP a4 (some g1) s1 := hr3.kept hk4 (fun x y e1 e2 => by injection e1 with e1; injection e2 with e2; omega)
  rw [← HQd.out]
  rw [← H2.out] at hr4
  clear hk4 hr3' hr3
  go_wp2_with (with_reducible refine stop_store 40 (.tmp 5) (.tmp 18) rfl rfl ?_)
  refine Stop.mk (wpList_storeB rfl _ _ _ rfl a4.heap.size _ rfl rfl _ ((Blk.new a4 _ _).alloc _) strC HCZ.out (by rw [HCZ.out]; rfl) (Card.arr_ones _) ?_)
  intro a5 hb5 hk5
  have hz5 := hk5.size
  simp only [World.size_alloc] at hz5
  have XB5 := Lib.hid hb5
  have YB5 := Lib.hid ((show Blk ((a4.alloc _).alloc _) (a4.heap.size + 1) _ by simpa using Blk.new (a4.alloc _) _ _).kept hk5 (by simp) (by simp))
  have bb5 : Below a4.heap.size a4 a5 := (((Below.refl _ _).alloc (Nat.le_refl _) _).alloc (by simp) _).trans (hk5.oneB (by simp; omega) (Nat.le_refl _))
  clear hb5 hk5
  go_wp2_with (with_reducible refine stop_store 27 (.tmp 6) (.tmp 20) rfl rfl ?_)
  refine Stop.mk (wpList_storeB rfl _ _ _ rfl (a4.heap.size + 1) _ rfl rfl _ YB5.out strP HQZ.out (by rw [HQZ.out]; rfl) (Patch.arr_ones _) ?_)
  intro a6 hb6 hk6
  have hz6 := hk6.size
  have YB6 := Lib.hid hb6
  have XB6 := Lib.hid (XB5.out.kept hk6 (by omega) (by simp))
  have bb6 : Below a4.heap.size a4 a6 := bb5.trans (hk6.oneB (by omega) (by omega))
  have hW6 : Below w.heap.size w a6 := hW4.trans (bb6.mono hW4.size)
  have hq6 := hq4.below bb6
  have hr6 := hr4.below bb6
  clear hb6 hk6 XB5 YB5 bb5 bb6 hq4 hr4
  go_wp2_with (fail)
  refine (c_octet_Left' (some g1) _ _ hq6).mono ?_
  rintro e7 a7 ⟨rfl, hb7⟩
  have hW7 : Below w.heap.size w a7 := hW6.trans (hb7.mono hW6.size)
  have hz7 := hb7.size
  have hq7 := hq6.below hb7
  have hr7 := hr6.below hb7
  have XB7 := Lib.hid (XB6.out.below hb7 XB6.out.lt)
  have YB7 := Lib.hid (YB6.out.below hb7 YB6.out.lt)
  clear hb7 hq6 hr6 XB6 YB6
  go_wp2_with (fail)
  refine (c_octet_Left' (some g2) _ _ hr7).mono ?_
  rintro e8 a8 ⟨rfl, hb8⟩
  have hwR : Below w.heap.size w a8 := hW7.trans (hb8.mono hW7.size)
  have hzR := hwR.size
  have hz8 := hb8.size
  have hrA := hq7.below hb8
  have hrB := hr7.below hb8
  have XB := Lib.hid (XB7.out.below hb8 XB7.out.lt)
  have YB := Lib.hid (YB7.out.below hb8 YB7.out.lt)
  clear hb8 hq7 hr7 XB7 YB7 hW2 hW3 hW4 hW6 hW7
  have f10 : decide ((n1 : Int) < 0) = false := by simp
  have f11 : decide (b.length < n1) = false := by simp; omega
  have f20 : decide ((n2 : Int) < 0) = false := by simp
  have f21 : decide (b.length < n2) = false := by simp; omega
  go_wp2_with (fail)
  by_cases q1 : s1.e = 0
  · have h1b : (s1.e == 0) = true := by simpa using q1
    obtain ⟨hcx, hmx⟩ := t1 q1
    have hpn : b.take n1 = cardB C := by
      rw [N1.out]
      have : b.length - s1.s.length = (cardB C).length := by rw [hmx, List.length_append]; omega
      rw [this]; conv => lhs; rw [hmx]
      exact List.take_left
    have Hcx := Lib.hid hcx
    have Hpn1 := Lib.hid hpn
    clear hcx hmx hpn
    clear q1 t1
    refine wp_region_rel [Sp.eq (ptr (some g1)), Sp.eq (.int .i64 s1.e), Sp.eq (.bool true), Sp.eq (.bool true), Sp.eq (.agg C.arr), Sp.eq (.bool true), Sp.eq (.bool false), Sp.eq (.bool false), Sp.eq (.agg C.arr), Sp.slice 1 bc (cardB C), Sp.eq (.string (str (cardB C))), Sp.eq (.slice A b.length c), Sp.eq (.int .i64 n1), Sp.eq (.slice A n1 c), Sp.eq (.string (str (cardB C))), Sp.eq (.bool false), Sp.eq (.bool false), Sp.eq (.bool false)] 92 (by kernel_rfl) (by kernel_rfl) rfl rfl ?_ ?_
    · refine ⟨?_, ?_, ?_, ?_, ?_, ?_, ?_, ?_, ?_, ?_, ?_, ?_, ?_, ?_, ?_, ?_, ?_, ?_, trivial⟩
      all_goals (intro u w4 hb4 hd; simp [Deps, Region.binds, Sp.slice_holds, Sp.eq_holds] at hd; simp only [putDeps, dstOf, Region.binds])
      case refine_1 =>
        (try (obtain ⟨d0, hd⟩ := hd; (try (obtain ⟨d1, hd⟩ := hd; (try (obtain ⟨d2, hd⟩ := hd))))))
        go_wp2_with (fail)
        exact RelEnd.mk rfl (Below.refl _ _) rfl
      case refine_2 =>
        go_wp2_with (go_at_call 34; refine (c_octet_Err' (some g1) _ _ (hrA.below hb4)).mono ?_; rintro e5 w5 ⟨rfl, hb5⟩)
        exact RelEnd.mk rfl hb5 rfl
      case refine_3 =>
        (try (obtain ⟨d0, hd⟩ := hd; (try (obtain ⟨d1, hd⟩ := hd; (try (obtain ⟨d2, hd⟩ := hd))))))
        go_wp2_with (fail)
        exact RelEnd.mk rfl (Below.refl _ _) rfl
      case refine_4 =>
        (try (obtain ⟨d0, hd⟩ := hd; (try (obtain ⟨d1, hd⟩ := hd; (try (obtain ⟨d2, hd⟩ := hd))))))
        go_wp2_with (fail)
        exact RelEnd.mk rfl (Below.refl _ _) rfl
      case refine_5 =>
        go_wp2_with (with_reducible refine stop_loadG 40 (.tmp 5) rfl ?_)
        refine Stop.mk (wpList_loadAtG (by simp [Region.wanted, yielded]) _ _ rfl a4.heap.size 0 rfl C.arr (XB.out.below hb4 XB.out.lt).all strC HCZ.out ?_)
        go_wp2_with (fail)
        exact RelEnd.mk rfl (Below.refl _ _) rfl
      case refine_6 =>
        go_wp2_with (go_at_call 38; refine (c_ref06_Check C _ HCL.out HCS.out).mono ?_; rintro e5 w5 ⟨rfl, hb5⟩; rw [Hcx.out])
        exact RelEnd.mk rfl hb5 rfl
      case refine_7 =>
        (try (obtain ⟨d0, hd⟩ := hd; (try (obtain ⟨d1, hd⟩ := hd; (try (obtain ⟨d2, hd⟩ := hd))))))
        go_wp2_with (fail)
        exact RelEnd.mk rfl (Below.refl _ _) rfl
      case refine_8 =>
        (try (obtain ⟨d0, hd⟩ := hd; (try (obtain ⟨d1, hd⟩ := hd; (try (obtain ⟨d2, hd⟩ := hd))))))
        go_wp2_with (fail)
        exact RelEnd.mk rfl (Below.refl _ _) rfl
      case refine_9 =>
        go_wp2_with (with_reducible refine stop_loadG 40 (.tmp 5) rfl ?_)
        refine Stop.mk (wpList_loadAtG (by simp [Region.wanted, yielded]) _ _ rfl a4.heap.size 0 rfl C.arr (XB.out.below hb4 XB.out.lt).all strC HCZ.out ?_)
        go_wp2_with (fail)
        exact RelEnd.mk rfl (Below.refl _ _) rfl
      case refine_10 =>
        go_wp2_with (go_at_call 23; refine (c_cardwire_PutCard [] none 0 C _ (In.nil (by omega)) (by simp) HCL.out HCS.out).mono ?_; rintro e5 w5 ⟨v5, rfl, own5, hb5⟩; rw [List.nil_append] at own5)
        exact RelEnd.mk rfl hb5 (In.of_own bc_len own5 (by omega))
      case refine_11 =>
        obtain ⟨⟨A5, c5, d0, d1⟩, d9⟩ := hd
        have kc := conv_str (P := Tryd.prog) w4 Tryd.underlying30 Tryd.underlying5 Tryd.underlying9 d1
        have kc' : (convert 30 9 (u 9)).run Tryd.prog w4 = .ok (.string (str (cardB C))) w4 := by rw [d0]; exact kc
        clear kc d0 d1
        go_wp2_with (fail)
        exact RelEnd.mk rfl (Below.refl _ _) rfl
      case refine_12 =>
        (try (obtain ⟨d0, hd⟩ := hd; (try (obtain ⟨d1, hd⟩ := hd; (try (obtain ⟨d2, hd⟩ := hd))))))
        go_wp2_with (fail)
        exact RelEnd.mk rfl (Below.refl _ _) rfl
      case refine_13 =>
        (try (obtain ⟨d0, hd⟩ := hd; (try (obtain ⟨d1, hd⟩ := hd; (try (obtain ⟨d2, hd⟩ := hd))))))
        go_wp2_with (fail)
        exact RelEnd.mk rfl (Below.refl _ _) rfl
      case refine_14 =>
        have kc := head_run A c b.length n1 hn1 hL w4
        go_wp2_with (fail)
        exact RelEnd.mk rfl (Below.refl _ _) rfl
      case refine_15 =>
        have kc := conv_str (P := Tryd.prog) w4 Tryd.underlying30 Tryd.underlying5 Tryd.underlying9 ((HB.out.below (hwR.trans (hb4.mono hzR))).take hn1)
        rw [show (b.take n1).length = n1 by rw [List.length_take]; omega, Hpn1.out] at kc
        go_wp2_with (fail)
        exact RelEnd.mk rfl (Below.refl _ _) rfl
      case refine_16 =>
        (try (obtain ⟨d0, hd⟩ := hd; (try (obtain ⟨d1, hd⟩ := hd; (try (obtain ⟨d2, hd⟩ := hd))))))
        go_wp2_with (fail)
        exact RelEnd.mk rfl (Below.refl _ _) rfl
      case refine_17 =>
        (try (obtain ⟨d0, hd⟩ := hd; (try (obtain ⟨d1, hd⟩ := hd; (try (obtain ⟨d2, hd⟩ := hd))))))
        go_wp2_with (fail)
        exact RelEnd.mk rfl (Below.refl _ _) rfl
      case refine_18 =>
        (try (obtain ⟨d0, hd⟩ := hd; (try (obtain ⟨d1, hd⟩ := hd; (try (obtain ⟨d2, hd⟩ := hd))))))
        go_wp2_with (fail)
        exact RelEnd.mk rfl (Below.refl _ _) rfl
    · intro u a9 hb4 hold
      simp only [RelHold, Sp.eq_holds, Nat.reduceAdd] at hold
      obtain ⟨-, -, -, -, -, -, -, -, -, -, -, -, -, -, -, -, -, dL, -⟩ := hold
      simp only [putAll, Act.put, Nat.reduceAdd, List.setIfInBounds_toArray, List.set_cons_zero, List.set_cons_succ, dL]
      have hwR2 : Below w.heap.size w a9 := hwR.trans (hb4.mono hzR)
      replace hrB := hrB.below hb4
      replace XB := Lib.hid (XB.out.below hb4 XB.out.lt)
      replace YB := Lib.hid (YB.out.below hb4 YB.out.lt)
      clear hb4 hrA hzR
      replace hwR : Below w.heap.size w a9 := hwR2
      have hzR := hwR.size
      go_wp2_with (fail)
      by_cases q2 : s2.e = 0
      · have h2b : (s2.e == 0) = true := by simpa using q2
        obtain ⟨hqx, hmx⟩ := t2 q2
        have hpn : b.take n2 = patchB Q := by
          rw [N2.out]
          have : b.length - s2.s.length = (patchB Q).length := by rw [hmx, List.length_append]; omega
          rw [this]; conv => lhs; rw [hmx]
          exact List.take_left
        have Hqx := Lib.hid hqx
        have Hpn2 := Lib.hid hpn
        clear hqx hmx hpn
        clear q2 t2
        refine wp_region_rel [Sp.eq (ptr (some g2)), Sp.eq (.int .i64 s2.e), Sp.eq (.bool true), Sp.eq (.bool true), Sp.eq (.agg Q.arr), Sp.eq (.int .i64 0), Sp.eq (.bool false), Sp.eq (.bool false), Sp.eq (.agg Q.arr), Sp.slice 1 bc (patchB Q), Sp.eq (.string (str (patchB Q))), Sp.eq (.slice A b.length c), Sp.eq (.int .i64 n2), Sp.eq (.slice A n2 c), Sp.eq (.string (str (patchB Q))), Sp.eq (.bool false), Sp.eq (.bool false), Sp.eq (.bool false)] 92 (by kernel_rfl) (by kernel_rfl) rfl rfl ?_ ?_
        · refine ⟨?_, ?_, ?_, ?_, ?_, ?_, ?_, ?_, ?_, ?_, ?_, ?_, ?_, ?_, ?_, ?_, ?_, ?_, trivial⟩
          all_goals (intro u w4 hb4 hd; simp [Deps, Region.binds, Sp.slice_holds, Sp.eq_holds] at hd; simp only [putDeps, dstOf, Region.binds])
          case refine_1 =>
            (try (obtain ⟨d0, hd⟩ := hd; (try (obtain ⟨d1, hd⟩ := hd; (try (obtain ⟨d2, hd⟩ := hd))))))
            go_wp2_with (fail)
            exact RelEnd.mk rfl (Below.refl _ _) rfl
          case refine_2 =>
            go_wp2_with (go_at_call 34; refine (c_octet_Err' (some g2) _ _ (hrB.below hb4)).mono ?_; rintro e5 w5 ⟨rfl, hb5⟩)
            exact RelEnd.mk rfl hb5 rfl
          case refine_3 =>
            (try (obtain ⟨d0, hd⟩ := hd; (try (obtain ⟨d1, hd⟩ := hd; (try (obtain ⟨d2, hd⟩ := hd))))))
            go_wp2_with (fail)
            exact RelEnd.mk rfl (Below.refl _ _) rfl
          case refine_4 =>
            (try (obtain ⟨d0, hd⟩ := hd; (try (obtain ⟨d1, hd⟩ := hd; (try (obtain ⟨d2, hd⟩ := hd))))))
            go_wp2_with (fail)
            exact RelEnd.mk rfl (Below.refl _ _) rfl
          case refine_5 =>
            go_wp2_with (with_reducible refine stop_loadG 27 (.tmp 6) rfl ?_)
            refine Stop.mk (wpList_loadAtG (by simp [Region.wanted, yielded]) _ _ rfl (a4.heap.size + 1) 0 rfl Q.arr (YB.out.below hb4 YB.out.lt).all strP HQZ.out ?_)
            go_wp2_with (fail)
            exact RelEnd.mk rfl (Below.refl _ _) rfl
          case refine_6 =>
            go_wp2_with (go_at_call 39; refine (c_ref06_CheckPatch Q _ HQM.out HQL.out HQS.out).mono ?_; rintro e5 w5 ⟨rfl, hb5⟩; rw [Hqx.out])
            exact RelEnd.mk rfl hb5 rfl
          case refine_7 =>
            (try (obtain ⟨d0, hd⟩ := hd; (try (obtain ⟨d1, hd⟩ := hd; (try (obtain ⟨d2, hd⟩ := hd))))))
            go_wp2_with (fail)
            exact RelEnd.mk rfl (Below.refl _ _) rfl
          case refine_8 =>
            (try (obtain ⟨d0, hd⟩ := hd; (try (obtain ⟨d1, hd⟩ := hd; (try (obtain ⟨d2, hd⟩ := hd))))))
            go_wp2_with (fail)
            exact RelEnd.mk rfl (Below.refl _ _) rfl
          case refine_9 =>
            go_wp2_with (with_reducible refine stop_loadG 27 (.tmp 6) rfl ?_)
            refine Stop.mk (wpList_loadAtG (by simp [Region.wanted, yielded]) _ _ rfl (a4.heap.size + 1) 0 rfl Q.arr (YB.out.below hb4 YB.out.lt).all strP HQZ.out ?_)
            go_wp2_with (fail)
            exact RelEnd.mk rfl (Below.refl _ _) rfl
          case refine_10 =>
            go_wp2_with (go_at_call 25; refine (c_cardwire_PutPatch [] none 0 Q _ (In.nil (by omega)) (by simp) (HT.out.below (hwR.trans (hb4.mono hzR))) HQM.out HQL.out HQS.out).mono ?_; rintro e5 w5 ⟨v5, rfl, own5, hb5⟩; rw [List.nil_append] at own5)
            exact RelEnd.mk rfl hb5 (In.of_own bc_len own5 (by omega))
          case refine_11 =>
            obtain ⟨⟨A5, c5, d0, d1⟩, d9⟩ := hd
            have kc := conv_str (P := Tryd.prog) w4 Tryd.underlying30 Tryd.underlying5 Tryd.underlying9 d1
            have kc' : (convert 30 9 (u 9)).run Tryd.prog w4 = .ok (.string (str (patchB Q))) w4 := by rw [d0]; exact kc
            clear kc d0 d1
            go_wp2_with (fail)
            exact RelEnd.mk rfl (Below.refl _ _) rfl
          case refine_12 =>
            (try (obtain ⟨d0, hd⟩ := hd; (try (obtain ⟨d1, hd⟩ := hd; (try (obtain ⟨d2, hd⟩ := hd))))))
            go_wp2_with (fail)
            exact RelEnd.mk rfl (Below.refl _ _) rfl
          case refine_13 =>
            (try (obtain ⟨d0, hd⟩ := hd; (try (obtain ⟨d1, hd⟩ := hd; (try (obtain ⟨d2, hd⟩ := hd))))))
            go_wp2_with (fail)
            exact RelEnd.mk rfl (Below.refl _ _) rfl
          case refine_14 =>
            have kc := head_run A c b.length n2 hn2 hL w4
            go_wp2_with (fail)
            exact RelEnd.mk rfl (Below.refl _ _) rfl
          case refine_15 =>
            have kc := conv_str (P := Tryd.prog) w4 Tryd.underlying30 Tryd.underlying5 Tryd.underlying9 ((HB.out.below (hwR.trans (hb4.mono hzR))).take hn2)
            rw [show (b.take n2).length = n2 by rw [List.length_take]; omega, Hpn2.out] at kc
            go_wp2_with (fail)
            exact RelEnd.mk rfl (Below.refl _ _) rfl
          case refine_16 =>
            (try (obtain ⟨d0, hd⟩ := hd; (try (obtain ⟨d1, hd⟩ := hd; (try (obtain ⟨d2, hd⟩ := hd))))))
            go_wp2_with (fail)
            exact RelEnd.mk rfl (Below.refl _ _) rfl
          case refine_17 =>
            (try (obtain ⟨d0, hd⟩ := hd; (try (obtain ⟨d1, hd⟩ := hd; (try (obtain ⟨d2, hd⟩ := hd))))))
            go_wp2_with (fail)
            exact RelEnd.mk rfl (Below.refl _ _) rfl
          case refine_18 =>
            (try (obtain ⟨d0, hd⟩ := hd; (try (obtain ⟨d1, hd⟩ := hd; (try (obtain ⟨d2, hd⟩ := hd))))))
            go_wp2_with (fail)
            exact RelEnd.mk rfl (Below.refl _ _) rfl
        · intro u a10 hb4 hold
          simp only [RelHold, Sp.eq_holds, Nat.reduceAdd] at hold
          obtain ⟨-, -, -, -, -, -, -, -, -, -, -, -, -, -, -, -, -, dL, -⟩ := hold
          simp only [putAll, Act.put, Nat.reduceAdd, List.setIfInBounds_toArray, List.set_cons_zero, List.set_cons_succ, dL]
          have hwS : Below w.heap.size w a10 := hwR.trans (hb4.mono hzR)
          have XS := XB.out.below hb4 XB.out.lt
          obtain ⟨d0, d1, d2⟩ := Card.row XS (p := C) (k := 0) (by have := HCL.out; omega)
          simp only [Nat.zero_mul, Nat.add_zero, ← X0.out] at d0 d1 d2
          clear hb4 XS
          go_wp2_with (fail)
          refine (c_ref04_Check x0 _ (by omega)).mono ?_
          rintro e11 a11 ⟨rfl, hb11⟩
          rw [hxo]
          have hwU : Below w.heap.size w a11 := hwS.trans (hb11.mono hwS.size)
          go_wp2_with (fail)
          refine (c_law08_awake _).mono ?_
          rintro e12 a12 ⟨rfl, hb12⟩
          go_wp2_with (fail)
          go_ret
          exact RetV.bool rfl (hwU.trans (hb12.mono hwU.size))
      · have h2b : (s2.e == 0) = false := by simpa using q2
        clear q2 t2
        refine wp_region_rel [Sp.eq (ptr (some g2)), Sp.eq (.int .i64 s2.e), Sp.eq (.bool false), Sp.eq (.bool false), Sp.eq (.tuple #[]), Sp.eq (.tuple #[]), Sp.eq (.tuple #[]), Sp.eq (.tuple #[]), Sp.eq (.tuple #[]), Sp.eq (.tuple #[]), Sp.eq (.tuple #[]), Sp.eq (.tuple #[]), Sp.eq (.tuple #[]), Sp.eq (.tuple #[]), Sp.eq (.tuple #[]), Sp.eq (.tuple #[]), Sp.eq (.tuple #[]), Sp.eq (.bool false)] 92 (by kernel_rfl) (by kernel_rfl) rfl rfl ?_ ?_
        · refine ⟨?_, ?_, ?_, ?_, ?_, ?_, ?_, ?_, ?_, ?_, ?_, ?_, ?_, ?_, ?_, ?_, ?_, ?_, trivial⟩
          all_goals (intro u w4 hb4 hd; simp [Deps, Region.binds, Sp.eq_holds] at hd; simp only [putDeps, dstOf, Region.binds])
          case refine_1 =>
            (try (obtain ⟨d0, hd⟩ := hd; (try (obtain ⟨d1, hd⟩ := hd; (try (obtain ⟨d2, hd⟩ := hd))))))
            go_wp2_with (fail)
            exact RelEnd.mk rfl (Below.refl _ _) rfl
          case refine_2 =>
            go_wp2_with (go_at_call 34; refine (c_octet_Err' (some g2) _ _ (hrB.below hb4)).mono ?_; rintro e5 w5 ⟨rfl, hb5⟩)
            exact RelEnd.mk rfl hb5 rfl
          case refine_3 =>
            (try (obtain ⟨d0, hd⟩ := hd; (try (obtain ⟨d1, hd⟩ := hd; (try (obtain ⟨d2, hd⟩ := hd))))))
            go_wp2_with (fail)
            exact RelEnd.mk rfl (Below.refl _ _) rfl
          case refine_4 =>
            (try (obtain ⟨d0, hd⟩ := hd; (try (obtain ⟨d1, hd⟩ := hd; (try (obtain ⟨d2, hd⟩ := hd))))))
            go_wp2_with (fail)
            exact RelEnd.mk rfl (Below.refl _ _) rfl
          case refine_5 =>
            (try (obtain ⟨d0, hd⟩ := hd; (try (obtain ⟨d1, hd⟩ := hd; (try (obtain ⟨d2, hd⟩ := hd))))))
            go_wp2_with (fail)
            exact RelEnd.mk rfl (Below.refl _ _) rfl
          case refine_6 =>
            (try (obtain ⟨d0, hd⟩ := hd; (try (obtain ⟨d1, hd⟩ := hd; (try (obtain ⟨d2, hd⟩ := hd))))))
            go_wp2_with (fail)
            exact RelEnd.mk rfl (Below.refl _ _) rfl
          case refine_7 =>
            (try (obtain ⟨d0, hd⟩ := hd; (try (obtain ⟨d1, hd⟩ := hd; (try (obtain ⟨d2, hd⟩ := hd))))))
            go_wp2_with (fail)
            exact RelEnd.mk rfl (Below.refl _ _) rfl
          case refine_8 =>
            (try (obtain ⟨d0, hd⟩ := hd; (try (obtain ⟨d1, hd⟩ := hd; (try (obtain ⟨d2, hd⟩ := hd))))))
            go_wp2_with (fail)
            exact RelEnd.mk rfl (Below.refl _ _) rfl
          case refine_9 =>
            (try (obtain ⟨d0, hd⟩ := hd; (try (obtain ⟨d1, hd⟩ := hd; (try (obtain ⟨d2, hd⟩ := hd))))))
            go_wp2_with (fail)
            exact RelEnd.mk rfl (Below.refl _ _) rfl
          case refine_10 =>
            (try (obtain ⟨d0, hd⟩ := hd; (try (obtain ⟨d1, hd⟩ := hd; (try (obtain ⟨d2, hd⟩ := hd))))))
            go_wp2_with (fail)
            exact RelEnd.mk rfl (Below.refl _ _) rfl
          case refine_11 =>
            (try (obtain ⟨d0, hd⟩ := hd; (try (obtain ⟨d1, hd⟩ := hd; (try (obtain ⟨d2, hd⟩ := hd))))))
            go_wp2_with (fail)
            exact RelEnd.mk rfl (Below.refl _ _) rfl
          case refine_12 =>
            (try (obtain ⟨d0, hd⟩ := hd; (try (obtain ⟨d1, hd⟩ := hd; (try (obtain ⟨d2, hd⟩ := hd))))))
            go_wp2_with (fail)
            exact RelEnd.mk rfl (Below.refl _ _) rfl
          case refine_13 =>
            (try (obtain ⟨d0, hd⟩ := hd; (try (obtain ⟨d1, hd⟩ := hd; (try (obtain ⟨d2, hd⟩ := hd))))))
            go_wp2_with (fail)
            exact RelEnd.mk rfl (Below.refl _ _) rfl
          case refine_14 =>
            (try (obtain ⟨d0, hd⟩ := hd; (try (obtain ⟨d1, hd⟩ := hd; (try (obtain ⟨d2, hd⟩ := hd))))))
            go_wp2_with (fail)
            exact RelEnd.mk rfl (Below.refl _ _) rfl
          case refine_15 =>
            (try (obtain ⟨d0, hd⟩ := hd; (try (obtain ⟨d1, hd⟩ := hd; (try (obtain ⟨d2, hd⟩ := hd))))))
            go_wp2_with (fail)
            exact RelEnd.mk rfl (Below.refl _ _) rfl
          case refine_16 =>
            (try (obtain ⟨d0, hd⟩ := hd; (try (obtain ⟨d1, hd⟩ := hd; (try (obtain ⟨d2, hd⟩ := hd))))))
            go_wp2_with (fail)
            exact RelEnd.mk rfl (Below.refl _ _) rfl
          case refine_17 =>
            (try (obtain ⟨d0, hd⟩ := hd; (try (obtain ⟨d1, hd⟩ := hd; (try (obtain ⟨d2, hd⟩ := hd))))))
            go_wp2_with (fail)
            exact RelEnd.mk rfl (Below.refl _ _) rfl
          case refine_18 =>
            (try (obtain ⟨d0, hd⟩ := hd; (try (obtain ⟨d1, hd⟩ := hd; (try (obtain ⟨d2, hd⟩ := hd))))))
            go_wp2_with (fail)
            exact RelEnd.mk rfl (Below.refl _ _) rfl
        · intro u a10 hb4 hold
          simp only [RelHold, Sp.eq_holds, Nat.reduceAdd] at hold
          obtain ⟨-, -, -, -, -, -, -, -, -, -, -, -, -, -, -, -, -, dL, -⟩ := hold
          simp only [putAll, Act.put, Nat.reduceAdd, List.setIfInBounds_toArray, List.set_cons_zero, List.set_cons_succ, dL]
          have hwS : Below w.heap.size w a10 := hwR.trans (hb4.mono hzR)
          have XS := XB.out.below hb4 XB.out.lt
          obtain ⟨d0, d1, d2⟩ := Card.row XS (p := C) (k := 0) (by have := HCL.out; omega)
          simp only [Nat.zero_mul, Nat.add_zero, ← X0.out] at d0 d1 d2
          clear hb4 XS
          go_wp2_with (fail)
          refine (c_ref04_Check x0 _ (by omega)).mono ?_
          rintro e11 a11 ⟨rfl, hb11⟩
          rw [hxo]
          have hwU : Below w.heap.size w a11 := hwS.trans (hb11.mono hwS.size)
          go_wp2_with (fail)
          refine (c_law08_awake _).mono ?_
          rintro e12 a12 ⟨rfl, hb12⟩
          go_wp2_with (fail)
          go_ret
          exact RetV.bool rfl (hwU.trans (hb12.mono hwU.size))
  · have h1b : (s1.e == 0) = false := by simpa using q1
    clear q1 t1
    refine wp_region_rel [Sp.eq (ptr (some g1)), Sp.eq (.int .i64 s1.e), Sp.eq (.bool false), Sp.eq (.bool false), Sp.eq (.tuple #[]), Sp.eq (.tuple #[]), Sp.eq (.tuple #[]), Sp.eq (.tuple #[]), Sp.eq (.tuple #[]), Sp.eq (.tuple #[]), Sp.eq (.tuple #[]), Sp.eq (.tuple #[]), Sp.eq (.tuple #[]), Sp.eq (.tuple #[]), Sp.eq (.tuple #[]), Sp.eq (.tuple #[]), Sp.eq (.tuple #[]), Sp.eq (.bool false)] 92 (by kernel_rfl) (by kernel_rfl) rfl rfl ?_ ?_
    · refine ⟨?_, ?_, ?_, ?_, ?_, ?_, ?_, ?_, ?_, ?_, ?_, ?_, ?_, ?_, ?_, ?_, ?_, ?_, trivial⟩
      all_goals (intro u w4 hb4 hd; simp [Deps, Region.binds, Sp.eq_holds] at hd; simp only [putDeps, dstOf, Region.binds])
      case refine_1 =>
        (try (obtain ⟨d0, hd⟩ := hd; (try (obtain ⟨d1, hd⟩ := hd; (try (obtain ⟨d2, hd⟩ := hd))))))
        go_wp2_with (fail)
        exact RelEnd.mk rfl (Below.refl _ _) rfl
      case refine_2 =>
        go_wp2_with (go_at_call 34; refine (c_octet_Err' (some g1) _ _ (hrA.below hb4)).mono ?_; rintro e5 w5 ⟨rfl, hb5⟩)
        exact RelEnd.mk rfl hb5 rfl
      case refine_3 =>
        (try (obtain ⟨d0, hd⟩ := hd; (try (obtain ⟨d1, hd⟩ := hd; (try (obtain ⟨d2, hd⟩ := hd))))))
        go_wp2_with (fail)
        exact RelEnd.mk rfl (Below.refl _ _) rfl
      case refine_4 =>
        (try (obtain ⟨d0, hd⟩ := hd; (try (obtain ⟨d1, hd⟩ := hd; (try (obtain ⟨d2, hd⟩ := hd))))))
        go_wp2_with (fail)
        exact RelEnd.mk rfl (Below.refl _ _) rfl
      case refine_5 =>
        (try (obtain ⟨d0, hd⟩ := hd; (try (obtain ⟨d1, hd⟩ := hd; (try (obtain ⟨d2, hd⟩ := hd))))))
        go_wp2_with (fail)
        exact RelEnd.mk rfl (Below.refl _ _) rfl
      case refine_6 =>
        (try (obtain ⟨d0, hd⟩ := hd; (try (obtain ⟨d1, hd⟩ := hd; (try (obtain ⟨d2, hd⟩ := hd))))))
        go_wp2_with (fail)
        exact RelEnd.mk rfl (Below.refl _ _) rfl
      case refine_7 =>
        (try (obtain ⟨d0, hd⟩ := hd; (try (obtain ⟨d1, hd⟩ := hd; (try (obtain ⟨d2, hd⟩ := hd))))))
        go_wp2_with (fail)
        exact RelEnd.mk rfl (Below.refl _ _) rfl
      case refine_8 =>
        (try (obtain ⟨d0, hd⟩ := hd; (try (obtain ⟨d1, hd⟩ := hd; (try (obtain ⟨d2, hd⟩ := hd))))))
        go_wp2_with (fail)
        exact RelEnd.mk rfl (Below.refl _ _) rfl
      case refine_9 =>
        (try (obtain ⟨d0, hd⟩ := hd; (try (obtain ⟨d1, hd⟩ := hd; (try (obtain ⟨d2, hd⟩ := hd))))))
        go_wp2_with (fail)
        exact RelEnd.mk rfl (Below.refl _ _) rfl
      case refine_10 =>
        (try (obtain ⟨d0, hd⟩ := hd; (try (obtain ⟨d1, hd⟩ := hd; (try (obtain ⟨d2, hd⟩ := hd))))))
        go_wp2_with (fail)
        exact RelEnd.mk rfl (Below.refl _ _) rfl
      case refine_11 =>
        (try (obtain ⟨d0, hd⟩ := hd; (try (obtain ⟨d1, hd⟩ := hd; (try (obtain ⟨d2, hd⟩ := hd))))))
        go_wp2_with (fail)
        exact RelEnd.mk rfl (Below.refl _ _) rfl
      case refine_12 =>
        (try (obtain ⟨d0, hd⟩ := hd; (try (obtain ⟨d1, hd⟩ := hd; (try (obtain ⟨d2, hd⟩ := hd))))))
        go_wp2_with (fail)
        exact RelEnd.mk rfl (Below.refl _ _) rfl
      case refine_13 =>
        (try (obtain ⟨d0, hd⟩ := hd; (try (obtain ⟨d1, hd⟩ := hd; (try (obtain ⟨d2, hd⟩ := hd))))))
        go_wp2_with (fail)
        exact RelEnd.mk rfl (Below.refl _ _) rfl
      case refine_14 =>
        (try (obtain ⟨d0, hd⟩ := hd; (try (obtain ⟨d1, hd⟩ := hd; (try (obtain ⟨d2, hd⟩ := hd))))))
        go_wp2_with (fail)
        exact RelEnd.mk rfl (Below.refl _ _) rfl
      case refine_15 =>
        (try (obtain ⟨d0, hd⟩ := hd; (try (obtain ⟨d1, hd⟩ := hd; (try (obtain ⟨d2, hd⟩ := hd))))))
        go_wp2_with (fail)
        exact RelEnd.mk rfl (Below.refl _ _) rfl
      case refine_16 =>
        (try (obtain ⟨d0, hd⟩ := hd; (try (obtain ⟨d1, hd⟩ := hd; (try (obtain ⟨d2, hd⟩ := hd))))))
        go_wp2_with (fail)
        exact RelEnd.mk rfl (Below.refl _ _) rfl
      case refine_17 =>
        (try (obtain ⟨d0, hd⟩ := hd; (try (obtain ⟨d1, hd⟩ := hd; (try (obtain ⟨d2, hd⟩ := hd))))))
        go_wp2_with (fail)
        exact RelEnd.mk rfl (Below.refl _ _) rfl
      case refine_18 =>
        (try (obtain ⟨d0, hd⟩ := hd; (try (obtain ⟨d1, hd⟩ := hd; (try (obtain ⟨d2, hd⟩ := hd))))))
        go_wp2_with (fail)
        exact RelEnd.mk rfl (Below.refl _ _) rfl
    · intro u a9 hb4 hold
      simp only [RelHold, Sp.eq_holds, Nat.reduceAdd] at hold
      obtain ⟨-, -, -, -, -, -, -, -, -, -, -, -, -, -, -, -, -, dL, -⟩ := hold
      simp only [putAll, Act.put, Nat.reduceAdd, List.setIfInBounds_toArray, List.set_cons_zero, List.set_cons_succ, dL]
      have hwR2 : Below w.heap.size w a9 := hwR.trans (hb4.mono hzR)
      replace hrB := hrB.below hb4
      replace XB := Lib.hid (XB.out.below hb4 XB.out.lt)
      replace YB := Lib.hid (YB.out.below hb4 YB.out.lt)
      clear hb4 hrA hzR
      replace hwR : Below w.heap.size w a9 := hwR2
      have hzR := hwR.size
      go_wp2_with (fail)
      by_cases q2 : s2.e = 0
      · have h2b : (s2.e == 0) = true := by simpa using q2
        obtain ⟨hqx, hmx⟩ := t2 q2
        have hpn : b.take n2 = patchB Q := by
          rw [N2.out]
          have : b.length - s2.s.length = (patchB Q).length := by rw [hmx, List.length_append]; omega
          rw [this]; conv => lhs; rw [hmx]
          exact List.take_left
        have Hqx := Lib.hid hqx
        have Hpn2 := Lib.hid hpn
        clear hqx hmx hpn
        clear q2 t2
        refine wp_region_rel [Sp.eq (ptr (some g2)), Sp.eq (.int .i64 s2.e), Sp.eq (.bool true), Sp.eq (.bool true), Sp.eq (.agg Q.arr), Sp.eq (.int .i64 0), Sp.eq (.bool false), Sp.eq (.bool false), Sp.eq (.agg Q.arr), Sp.slice 1 bc (patchB Q), Sp.eq (.string (str (patchB Q))), Sp.eq (.slice A b.length c), Sp.eq (.int .i64 n2), Sp.eq (.slice A n2 c), Sp.eq (.string (str (patchB Q))), Sp.eq (.bool false), Sp.eq (.bool false), Sp.eq (.bool false)] 92 (by kernel_rfl) (by kernel_rfl) rfl rfl ?_ ?_
        · refine ⟨?_, ?_, ?_, ?_, ?_, ?_, ?_, ?_, ?_, ?_, ?_, ?_, ?_, ?_, ?_, ?_, ?_, ?_, trivial⟩
          all_goals (intro u w4 hb4 hd; simp [Deps, Region.binds, Sp.slice_holds, Sp.eq_holds] at hd; simp only [putDeps, dstOf, Region.binds])
          case refine_1 =>
            (try (obtain ⟨d0, hd⟩ := hd; (try (obtain ⟨d1, hd⟩ := hd; (try (obtain ⟨d2, hd⟩ := hd))))))
            go_wp2_with (fail)
            exact RelEnd.mk rfl (Below.refl _ _) rfl
          case refine_2 =>
            go_wp2_with (go_at_call 34; refine (c_octet_Err' (some g2) _ _ (hrB.below hb4)).mono ?_; rintro e5 w5 ⟨rfl, hb5⟩)
            exact RelEnd.mk rfl hb5 rfl
          case refine_3 =>
            (try (obtain ⟨d0, hd⟩ := hd; (try (obtain ⟨d1, hd⟩ := hd; (try (obtain ⟨d2, hd⟩ := hd))))))
            go_wp2_with (fail)
            exact RelEnd.mk rfl (Below.refl _ _) rfl
          case refine_4 =>
            (try (obtain ⟨d0, hd⟩ := hd; (try (obtain ⟨d1, hd⟩ := hd; (try (obtain ⟨d2, hd⟩ := hd))))))
            go_wp2_with (fail)
            exact RelEnd.mk rfl (Below.refl _ _) rfl
          case refine_5 =>
            go_wp2_with (with_reducible refine stop_loadG 27 (.tmp 6) rfl ?_)
            refine Stop.mk (wpList_loadAtG (by simp [Region.wanted, yielded]) _ _ rfl (a4.heap.size + 1) 0 rfl Q.arr (YB.out.below hb4 YB.out.lt).all strP HQZ.out ?_)
            go_wp2_with (fail)
            exact RelEnd.mk rfl (Below.refl _ _) rfl
          case refine_6 =>
            go_wp2_with (go_at_call 39; refine (c_ref06_CheckPatch Q _ HQM.out HQL.out HQS.out).mono ?_; rintro e5 w5 ⟨rfl, hb5⟩; rw [Hqx.out])
            exact RelEnd.mk rfl hb5 rfl
          case refine_7 =>
            (try (obtain ⟨d0, hd⟩ := hd; (try (obtain ⟨d1, hd⟩ := hd; (try (obtain ⟨d2, hd⟩ := hd))))))
            go_wp2_with (fail)
            exact RelEnd.mk rfl (Below.refl _ _) rfl
          case refine_8 =>
            (try (obtain ⟨d0, hd⟩ := hd; (try (obtain ⟨d1, hd⟩ := hd; (try (obtain ⟨d2, hd⟩ := hd))))))
            go_wp2_with (fail)
            exact RelEnd.mk rfl (Below.refl _ _) rfl
          case refine_9 =>
            go_wp2_with (with_reducible refine stop_loadG 27 (.tmp 6) rfl ?_)
            refine Stop.mk (wpList_loadAtG (by simp [Region.wanted, yielded]) _ _ rfl (a4.heap.size + 1) 0 rfl Q.arr (YB.out.below hb4 YB.out.lt).all strP HQZ.out ?_)
            go_wp2_with (fail)
            exact RelEnd.mk rfl (Below.refl _ _) rfl
          case refine_10 =>
            go_wp2_with (go_at_call 25; refine (c_cardwire_PutPatch [] none 0 Q _ (In.nil (by omega)) (by simp) (HT.out.below (hwR.trans (hb4.mono hzR))) HQM.out HQL.out HQS.out).mono ?_; rintro e5 w5 ⟨v5, rfl, own5, hb5⟩; rw [List.nil_append] at own5)
            exact RelEnd.mk rfl hb5 (In.of_own bc_len own5 (by omega))
          case refine_11 =>
            obtain ⟨⟨A5, c5, d0, d1⟩, d9⟩ := hd
            have kc := conv_str (P := Tryd.prog) w4 Tryd.underlying30 Tryd.underlying5 Tryd.underlying9 d1
            have kc' : (convert 30 9 (u 9)).run Tryd.prog w4 = .ok (.string (str (patchB Q))) w4 := by rw [d0]; exact kc
            clear kc d0 d1
            go_wp2_with (fail)
            exact RelEnd.mk rfl (Below.refl _ _) rfl
          case refine_12 =>
            (try (obtain ⟨d0, hd⟩ := hd; (try (obtain ⟨d1, hd⟩ := hd; (try (obtain ⟨d2, hd⟩ := hd))))))
            go_wp2_with (fail)
            exact RelEnd.mk rfl (Below.refl _ _) rfl
          case refine_13 =>
            (try (obtain ⟨d0, hd⟩ := hd; (try (obtain ⟨d1, hd⟩ := hd; (try (obtain ⟨d2, hd⟩ := hd))))))
            go_wp2_with (fail)
            exact RelEnd.mk rfl (Below.refl _ _) rfl
          case refine_14 =>
            have kc := head_run A c b.length n2 hn2 hL w4
            go_wp2_with (fail)
            exact RelEnd.mk rfl (Below.refl _ _) rfl
          case refine_15 =>
            have kc := conv_str (P := Tryd.prog) w4 Tryd.underlying30 Tryd.underlying5 Tryd.underlying9 ((HB.out.below (hwR.trans (hb4.mono hzR))).take hn2)
            rw [show (b.take n2).length = n2 by rw [List.length_take]; omega, Hpn2.out] at kc
            go_wp2_with (fail)
            exact RelEnd.mk rfl (Below.refl _ _) rfl
          case refine_16 =>
            (try (obtain ⟨d0, hd⟩ := hd; (try (obtain ⟨d1, hd⟩ := hd; (try (obtain ⟨d2, hd⟩ := hd))))))
            go_wp2_with (fail)
            exact RelEnd.mk rfl (Below.refl _ _) rfl
          case refine_17 =>
            (try (obtain ⟨d0, hd⟩ := hd; (try (obtain ⟨d1, hd⟩ := hd; (try (obtain ⟨d2, hd⟩ := hd))))))
            go_wp2_with (fail)
            exact RelEnd.mk rfl (Below.refl _ _) rfl
          case refine_18 =>
            (try (obtain ⟨d0, hd⟩ := hd; (try (obtain ⟨d1, hd⟩ := hd; (try (obtain ⟨d2, hd⟩ := hd))))))
            go_wp2_with (fail)
            exact RelEnd.mk rfl (Below.refl _ _) rfl
        · intro u a10 hb4 hold
          simp only [RelHold, Sp.eq_holds, Nat.reduceAdd] at hold
          obtain ⟨-, -, -, -, -, -, -, -, -, -, -, -, -, -, -, -, -, dL, -⟩ := hold
          simp only [putAll, Act.put, Nat.reduceAdd, List.setIfInBounds_toArray, List.set_cons_zero, List.set_cons_succ, dL]
          have hwS : Below w.heap.size w a10 := hwR.trans (hb4.mono hzR)
          have XS := XB.out.below hb4 XB.out.lt
          obtain ⟨d0, d1, d2⟩ := Card.row XS (p := C) (k := 0) (by have := HCL.out; omega)
          simp only [Nat.zero_mul, Nat.add_zero, ← X0.out] at d0 d1 d2
          clear hb4 XS
          go_wp2_with (fail)
          refine (c_ref04_Check x0 _ (by omega)).mono ?_
          rintro e11 a11 ⟨rfl, hb11⟩
          rw [hxo]
          have hwU : Below w.heap.size w a11 := hwS.trans (hb11.mono hwS.size)
          go_wp2_with (fail)
          refine (c_law08_awake _).mono ?_
          rintro e12 a12 ⟨rfl, hb12⟩
          go_wp2_with (fail)
          go_ret
          exact RetV.bool rfl (hwU.trans (hb12.mono hwU.size))
      · have h2b : (s2.e == 0) = false := by simpa using q2
        clear q2 t2
        refine wp_region_rel [Sp.eq (ptr (some g2)), Sp.eq (.int .i64 s2.e), Sp.eq (.bool false), Sp.eq (.bool false), Sp.eq (.tuple #[]), Sp.eq (.tuple #[]), Sp.eq (.tuple #[]), Sp.eq (.tuple #[]), Sp.eq (.tuple #[]), Sp.eq (.tuple #[]), Sp.eq (.tuple #[]), Sp.eq (.tuple #[]), Sp.eq (.tuple #[]), Sp.eq (.tuple #[]), Sp.eq (.tuple #[]), Sp.eq (.tuple #[]), Sp.eq (.tuple #[]), Sp.eq (.bool false)] 92 (by kernel_rfl) (by kernel_rfl) rfl rfl ?_ ?_
        · refine ⟨?_, ?_, ?_, ?_, ?_, ?_, ?_, ?_, ?_, ?_, ?_, ?_, ?_, ?_, ?_, ?_, ?_, ?_, trivial⟩
          all_goals (intro u w4 hb4 hd; simp [Deps, Region.binds, Sp.eq_holds] at hd; simp only [putDeps, dstOf, Region.binds])
          case refine_1 =>
            (try (obtain ⟨d0, hd⟩ := hd; (try (obtain ⟨d1, hd⟩ := hd; (try (obtain ⟨d2, hd⟩ := hd))))))
            go_wp2_with (fail)
            exact RelEnd.mk rfl (Below.refl _ _) rfl
          case refine_2 =>
            go_wp2_with (go_at_call 34; refine (c_octet_Err' (some g2) _ _ (hrB.below hb4)).mono ?_; rintro e5 w5 ⟨rfl, hb5⟩)
            exact RelEnd.mk rfl hb5 rfl
          case refine_3 =>
            (try (obtain ⟨d0, hd⟩ := hd; (try (obtain ⟨d1, hd⟩ := hd; (try (obtain ⟨d2, hd⟩ := hd))))))
            go_wp2_with (fail)
            exact RelEnd.mk rfl (Below.refl _ _) rfl
          case refine_4 =>
            (try (obtain ⟨d0, hd⟩ := hd; (try (obtain ⟨d1, hd⟩ := hd; (try (obtain ⟨d2, hd⟩ := hd))))))
            go_wp2_with (fail)
            exact RelEnd.mk rfl (Below.refl _ _) rfl
          case refine_5 =>
            (try (obtain ⟨d0, hd⟩ := hd; (try (obtain ⟨d1, hd⟩ := hd; (try (obtain ⟨d2, hd⟩ := hd))))))
            go_wp2_with (fail)
            exact RelEnd.mk rfl (Below.refl _ _) rfl
          case refine_6 =>
            (try (obtain ⟨d0, hd⟩ := hd; (try (obtain ⟨d1, hd⟩ := hd; (try (obtain ⟨d2, hd⟩ := hd))))))
            go_wp2_with (fail)
            exact RelEnd.mk rfl (Below.refl _ _) rfl
          case refine_7 =>
            (try (obtain ⟨d0, hd⟩ := hd; (try (obtain ⟨d1, hd⟩ := hd; (try (obtain ⟨d2, hd⟩ := hd))))))
            go_wp2_with (fail)
            exact RelEnd.mk rfl (Below.refl _ _) rfl
          case refine_8 =>
            (try (obtain ⟨d0, hd⟩ := hd; (try (obtain ⟨d1, hd⟩ := hd; (try (obtain ⟨d2, hd⟩ := hd))))))
            go_wp2_with (fail)
            exact RelEnd.mk rfl (Below.refl _ _) rfl
          case refine_9 =>
            (try (obtain ⟨d0, hd⟩ := hd; (try (obtain ⟨d1, hd⟩ := hd; (try (obtain ⟨d2, hd⟩ := hd))))))
            go_wp2_with (fail)
            exact RelEnd.mk rfl (Below.refl _ _) rfl
          case refine_10 =>
            (try (obtain ⟨d0, hd⟩ := hd; (try (obtain ⟨d1, hd⟩ := hd; (try (obtain ⟨d2, hd⟩ := hd))))))
            go_wp2_with (fail)
            exact RelEnd.mk rfl (Below.refl _ _) rfl
          case refine_11 =>
            (try (obtain ⟨d0, hd⟩ := hd; (try (obtain ⟨d1, hd⟩ := hd; (try (obtain ⟨d2, hd⟩ := hd))))))
            go_wp2_with (fail)
            exact RelEnd.mk rfl (Below.refl _ _) rfl
          case refine_12 =>
            (try (obtain ⟨d0, hd⟩ := hd; (try (obtain ⟨d1, hd⟩ := hd; (try (obtain ⟨d2, hd⟩ := hd))))))
            go_wp2_with (fail)
            exact RelEnd.mk rfl (Below.refl _ _) rfl
          case refine_13 =>
            (try (obtain ⟨d0, hd⟩ := hd; (try (obtain ⟨d1, hd⟩ := hd; (try (obtain ⟨d2, hd⟩ := hd))))))
            go_wp2_with (fail)
            exact RelEnd.mk rfl (Below.refl _ _) rfl
          case refine_14 =>
            (try (obtain ⟨d0, hd⟩ := hd; (try (obtain ⟨d1, hd⟩ := hd; (try (obtain ⟨d2, hd⟩ := hd))))))
            go_wp2_with (fail)
            exact RelEnd.mk rfl (Below.refl _ _) rfl
          case refine_15 =>
            (try (obtain ⟨d0, hd⟩ := hd; (try (obtain ⟨d1, hd⟩ := hd; (try (obtain ⟨d2, hd⟩ := hd))))))
            go_wp2_with (fail)
            exact RelEnd.mk rfl (Below.refl _ _) rfl
          case refine_16 =>
            (try (obtain ⟨d0, hd⟩ := hd; (try (obtain ⟨d1, hd⟩ := hd; (try (obtain ⟨d2, hd⟩ := hd))))))
            go_wp2_with (fail)
            exact RelEnd.mk rfl (Below.refl _ _) rfl
          case refine_17 =>
            (try (obtain ⟨d0, hd⟩ := hd; (try (obtain ⟨d1, hd⟩ := hd; (try (obtain ⟨d2, hd⟩ := hd))))))
            go_wp2_with (fail)
            exact RelEnd.mk rfl (Below.refl _ _) rfl
          case refine_18 =>
            (try (obtain ⟨d0, hd⟩ := hd; (try (obtain ⟨d1, hd⟩ := hd; (try (obtain ⟨d2, hd⟩ := hd))))))
            go_wp2_with (fail)
            exact RelEnd.mk rfl (Below.refl _ _) rfl
        · intro u a10 hb4 hold
          simp only [RelHold, Sp.eq_holds, Nat.reduceAdd] at hold
          obtain ⟨-, -, -, -, -, -, -, -, -, -, -, -, -, -, -, -, -, dL, -⟩ := hold
          simp only [putAll, Act.put, Nat.reduceAdd, List.setIfInBounds_toArray, List.set_cons_zero, List.set_cons_succ, dL]
          have hwS : Below w.heap.size w a10 := hwR.trans (hb4.mono hzR)
          have XS := XB.out.below hb4 XB.out.lt
          obtain ⟨d0, d1, d2⟩ := Card.row XS (p := C) (k := 0) (by have := HCL.out; omega)
          simp only [Nat.zero_mul, Nat.add_zero, ← X0.out] at d0 d1 d2
          clear hb4 XS
          go_wp2_with (fail)
          refine (c_ref04_Check x0 _ (by omega)).mono ?_
          rintro e11 a11 ⟨rfl, hb11⟩
          rw [hxo]
          have hwU : Below w.heap.size w a11 := hwS.trans (hb11.mono hwS.size)
          go_wp2_with (fail)
          refine (c_law08_awake _).mono ?_
          rintro e12 a12 ⟨rfl, hb12⟩
          go_wp2_with (fail)
          go_ret
          exact RetV.bool rfl (hwU.trans (hb12.mono hwU.size))
end Go.Proofs.YtjkjfnhplgcigaaDoor
