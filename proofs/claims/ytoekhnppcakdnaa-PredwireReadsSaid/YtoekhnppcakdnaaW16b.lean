/-
  The walk of the statement PredwirePuts: it answers true, whatever the list and the bytes ahead.
-/
import Derived.Test.YtoekhnppcakdnaaW16a
import Derived.Test.YtoekhnppcakdnaaW10f
import Derived.Test.YtoekhnppcakdnaaRel
namespace Go.Proofs.Ytoekhnppcakdnaa
open Go.RowKit

theorem exOk_put : putB exOk = [2, 10, 3, 3] := by decide +kernel
set_option maxHeartbeats 1000000 in
set_option maxRecDepth 100000 in
theorem c_law16_awake (w : World) : Calls Try.prog 32 #[] w (RetV w (.bool true)) := by
  have i1 := InN.lit w exOk 29 2 rfl (by decide)
  have h1 : ∀ x ∈ exOk, x.v.s.length ≤ 4294967000 := by decide
  have I1 := Lib.hid i1
  have H1 := Lib.hid h1
  clear i1 h1
  go_enter Try.func32, Try.ntmps32
  go_wp2_with (fail)
  refine (c_predwire_Put [] _ 0 exOk _ 2 _ (In.nil (by omega)) I1.out (by simp) H1.out).mono ?_
  rintro e w1 ⟨v1, rfl, own1, hb1⟩
  rw [List.nil_append, exOk_put] at own1
  obtain ⟨A2, c2, rfl, in2⟩ := In.of_own bc_len own1 (by simp)
  have kc : (convert 48 9 (.slice A2 4 c2)).run Try.prog w1 = .ok (.string (str [2, 10, 3, 3])) w1 := conv_str w1 Try.underlying48 Try.underlying5 Try.underlying9 in2
  have hz1 := hb1.size
  simp only [World.size_alloc] at hz1
  clear own1 in2
  go_wp2_with (fail)
  go_ret
  exact RetV.bool rfl (by repeat (first | exact Below.refl _ _ | refine Below.drew ?_ | refine Below.alloc ?_ (by first | omega | (simp; done) | (simp; omega)) _ | refine Below.setCell ?_ (by first | omega | (simp; done) | (simp; omega)) _ | refine Below.trans ?_ (Below.mono (by assumption) (by first | omega | (simp; done) | (simp; omega)))))
set_option maxHeartbeats 400000 in
theorem c_law16_PredwirePuts_long (n : Nat) (A : Option Addr) (c : Nat) (b : Value) (w : World) (hn : 100 < n) (hL : n ≤ c) (hC : c ≤ 9223372036854775807) :
    Calls Try.prog 5 #[.slice A n c, b] w (RetV w (.bool true)) := by
  go_enter Try.func5, Try.ntmps5
  go_wp2_with (first
    | (go_at_call 15; refine (c_law10_Large_long n A c _ hn hL hC).mono ?_; rintro e w1 ⟨rfl, hb1⟩)
    | (go_at_call 32; refine (c_law16_awake _).mono ?_; rintro e w2 ⟨rfl, hb2⟩))
  have hz1 := hb1.size
  go_ret
  exact RetV.bool rfl (by repeat (first | exact Below.refl _ _ | refine Below.drew ?_ | refine Below.alloc ?_ (by first | omega | (simp; done) | (simp; omega)) _ | refine Below.setCell ?_ (by first | omega | (simp; done) | (simp; omega)) _ | refine Below.trans ?_ (Below.mono (by assumption) (by first | omega | (simp; done) | (simp; omega)))))
set_option maxHeartbeats 2000000 in
set_option maxRecDepth 4000 in
theorem c_law16_PredwirePuts (l : List Node) (A : Option Addr) (c : Nat) (B : Option Addr) (nb cb : Nat) (w : World) (h : InN w A c l) (hsw : ∀ x ∈ l, x.v.s.length ≤ 9223372036854775807)
    (hnb : nb ≤ cb) (hcb : cb ≤ 9223372036854775807) (hb : nb ≤ 500 → ∃ b, b.length = nb ∧ InB w B cb b) :
    Calls Try.prog 5 #[.slice A l.length c, .slice B nb cb] w (RetV w (.bool true)) := by
  have hL := h.1
  have hC := h.2.1
  have hS := h.2.2.1
  have Hsw := Lib.hid hsw
  clear hsw
  cases hlg : large l
  case true =>
    go_enter Try.func5, Try.ntmps5
    go_wp2_with (first
      | (go_at_call 15; refine (c_law10_Large l A c _ h Hsw.out).mono ?_; rintro e w1 ⟨rfl, hb1⟩)
      | (go_at_call 32; refine (c_law16_awake _).mono ?_; rintro e w2 ⟨rfl, hb2⟩))
    have hz1 := hb1.size
    go_ret
    exact RetV.bool rfl (by repeat (first | exact Below.refl _ _ | refine Below.drew ?_ | refine Below.alloc ?_ (by first | omega | (simp; done) | (simp; omega)) _ | refine Below.setCell ?_ (by first | omega | (simp; done) | (simp; omega)) _ | refine Below.trans ?_ (Below.mono (by assumption) (by first | omega | (simp; done) | (simp; omega)))))
  by_cases h5 : 500 < nb
  · go_enter Try.func5, Try.ntmps5
    go_wp2_with (first
      | (go_at_call 15; refine (c_law10_Large l A c _ h Hsw.out).mono ?_; rintro e w1 ⟨rfl, hb1⟩)
      | (go_at_call 32; refine (c_law16_awake _).mono ?_; rintro e w2 ⟨rfl, hb2⟩))
    have hz1 := hb1.size
    go_ret
    exact RetV.bool rfl (by repeat (first | exact Below.refl _ _ | refine Below.drew ?_ | refine Below.alloc ?_ (by first | omega | (simp; done) | (simp; omega)) _ | refine Below.setCell ?_ (by first | omega | (simp; done) | (simp; omega)) _ | refine Below.trans ?_ (Below.mono (by assumption) (by first | omega | (simp; done) | (simp; omega)))))
  obtain ⟨b, rfl, hib⟩ := hb (by omega)
  obtain ⟨_, hsl⟩ := large_short hlg
  have hs : ∀ x ∈ l, x.v.s.length ≤ 4294967000 := fun x hx => by have := hsl x hx; omega
  have Hs := Lib.hid hs
  have H := Lib.hid h
  have HB := Lib.hid hib
  have hpl := putB_len l
  clear hsl hs h hib hb
  have kb := fun (w' : World) (hw : Below w.heap.size w w') => conv_str (P := Try.prog) w' Try.underlying48 Try.underlying5 Try.underlying9 (HB.out.below hw)
  have KB := Lib.hid kb
  clear kb
  go_enter Try.func5, Try.ntmps5
  go_wp2_with (first
    | (go_at_call 15; refine (c_law10_Large l A c _ H.out Hsw.out).mono ?_; rintro e w1 ⟨rfl, hb1⟩))
  have hz1 := hb1.size
  have hb1' := hb1
  refine wp_region_rel [Sp.eq (.slice B b.length cb), Sp.eq (.slice A l.length c), Sp.slice 1 bc (b ++ putB l), Sp.eq (.string (str (b ++ putB l))), Sp.eq (.slice B b.length cb), Sp.eq (.string (str b)), Sp.eq (.slice A l.length c), Sp.eq (.string (str (putB l))), Sp.eq (.string (str (b ++ putB l))), Sp.eq (.bool true), Sp.eq (.bool true), Sp.eq (.bool true), Sp.eq (.bool true), Sp.eq (.bool true)] 26 (by kernel_rfl) (by kernel_rfl) rfl rfl ?_ ?_
  · refine ⟨?_, ?_, ?_, ?_, ?_, ?_, ?_, ?_, ?_, ?_, ?_, ?_, ?_, ?_, trivial⟩
    all_goals (intro u w2 hb2 hd; have hbw : Below w.heap.size w w2 := hb1.trans (hb2.mono hz1); clear hb1'; simp [Deps, Region.binds, Sp.slice_holds, Sp.eq_holds] at hd; simp only [putDeps, dstOf, Region.binds])
    case refine_1 => go_wp2_with (fail); exact RelEnd.mk rfl (Below.refl _ _) rfl
    case refine_2 => go_wp2_with (fail); exact RelEnd.mk rfl (Below.refl _ _) rfl
    case refine_3 =>
      obtain ⟨d0, d1⟩ := hd
      go_wp2_with (go_at_call 33; refine (c_predwire_Put b B cb l A c _ (HB.out.below hbw) (H.out.below hbw) (by omega) Hs.out).mono ?_; rintro e w3 ⟨v3, rfl, own3, hb3⟩)
      exact RelEnd.mk rfl hb3 (In.of_own bc_len own3 (by simp only [List.length_append]; omega))
    case refine_4 =>
      obtain ⟨A2, c2, d0, d1⟩ := hd
      have kc := conv_str (P := Try.prog) w2 Try.underlying48 Try.underlying5 Try.underlying9 d1
      have kc' : (convert 48 9 (u 2)).run Try.prog w2 = .ok (.string (str (b ++ putB l))) w2 := by rw [d0, ← List.length_append]; exact kc
      clear kc d0 d1
      go_wp2_with (fail)
      exact RelEnd.mk rfl (Below.refl _ _) rfl
    case refine_5 => go_wp2_with (fail); exact RelEnd.mk rfl (Below.refl _ _) rfl
    case refine_6 =>
      have kc := KB.out w2 hbw
      go_wp2_with (fail)
      exact RelEnd.mk rfl (Below.refl _ _) rfl
    case refine_7 => go_wp2_with (fail); exact RelEnd.mk rfl (Below.refl _ _) rfl
    case refine_8 =>
      obtain ⟨d0, d1⟩ := hd
      go_wp2_with (go_at_call 34; refine (c_ref16_Put l A c _ (H.out.below hbw) Hs.out).mono ?_; rintro e w3 ⟨rfl, hb3⟩)
      exact RelEnd.mk rfl hb3 rfl
    case refine_9 =>
      obtain ⟨d0, d1⟩ := hd
      go_wp2_with (fail)
      exact RelEnd.mk rfl (Below.refl _ _) rfl
    case refine_10 =>
      obtain ⟨d0, d1⟩ := hd
      go_wp2_with (fail)
      exact RelEnd.mk rfl (Below.refl _ _) rfl
    case refine_11 =>
      obtain ⟨d0, d1⟩ := hd
      go_wp2_with (fail)
      exact RelEnd.mk rfl (Below.refl _ _) rfl
    case refine_12 =>
      go_wp2_with (go_at_call 32; refine (c_law16_awake _).mono ?_; rintro e w3 ⟨rfl, hb3⟩)
      exact RelEnd.mk rfl hb3 rfl
    case refine_13 =>
      obtain ⟨d0, d1⟩ := hd
      go_wp2_with (fail)
      exact RelEnd.mk rfl (Below.refl _ _) rfl
    case refine_14 =>
      go_wp2_with (fail)
      exact RelEnd.mk rfl (Below.refl _ _) rfl
  · intro u w2 hb2 hold
    simp only [RelHold, Sp.eq_holds] at hold
    obtain ⟨-, -, -, -, -, -, -, -, -, -, -, -, -, d13, -⟩ := hold
    simp only [putAll, Act.put, Nat.reduceAdd, List.setIfInBounds_toArray, List.set_cons_zero, List.set_cons_succ]
    have hbw : Below w.heap.size w w2 := hb1.trans (hb2.mono hz1)
    clear hb1' KB HB H Hs Hsw hpl hb1 hb2
    go_wp2_with (fail)
    go_ret
    exact RetV.of d13 hbw
end Go.Proofs.Ytoekhnppcakdnaa
