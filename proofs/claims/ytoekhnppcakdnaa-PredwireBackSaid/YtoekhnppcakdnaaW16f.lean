/-
  The walk of the statement PredwireBack: it answers true, whatever the list and the bytes.
-/
import Derived.Test.YtoekhnppcakdnaaW16b
import Derived.Test.YtoekhnppcakdnaaW16c
import Derived.Test.YtoekhnppcakdnaaW10h
import Derived.Test.YtoekhnppcakdnaaW10i
import Derived.Test.YtoekhnppcakdnaaW01d
import Derived.Test.YtoekhnppcakdnaaW01f
import Derived.Test.YtoekhnppcakdnaaRpl
import Derived.Test.YtoekhnppcakdnaaRel
namespace Go.Proofs.Ytoekhnppcakdnaa
open Go.RowKit

theorem Node.ok_text {x : Node} (h : x.ok = true) : x.v.s.length ≤ 24 := by
  rcases named_cases x.op with ⟨h1, h2⟩ | ⟨h1, h2⟩ | ⟨h1, h2⟩
  · rw [(Node.ok_A h h1).2]; simp
  · rw [Node.ok_V0 h h1 h2]; simp
  · exact Val.ok_len (Node.ok_V h h2)
theorem In.own' {α : Type} {k : Nat} {cs : α → List Value} {w : World} {base : Nat} {e : TypeId} {A : Option Addr} {c : Nat} {l : List α} (hk : ∀ x, (cs x).length = k) (h : w.ownsRow base e k (.slice A l.length c) l.length (l.flatMap cs)) (hs : l.length ≤ 4294967296) : In k cs w A c l := by
  obtain ⟨A', c', hv, hin⟩ := In.of_own hk h hs
  injection hv with e1 _ e2
  subst e1 e2
  exact hin
theorem In.take {α : Type} {k : Nat} {cs : α → List Value} {w : World} {A : Option Addr} {c : Nat} {l : List α} (h : In k cs w A c l) {n : Nat} (hn : n ≤ l.length) : In k cs w A c (l.take n) := by
  have hl : (l.take n).length = n := by rw [List.length_take]; omega
  have h1 := h.1
  have h3 := h.2.2.1
  refine ⟨by omega, h.2.1, by omega, ?_⟩
  rcases h.2.2.2 with h0 | ⟨b, off, hA, hb, hr⟩
  · subst h0; left; simp
  · exact .inr ⟨b, off, hA, hb, hr.take n⟩
theorem head_run (A : Option Addr) (c len n : Nat) (hn : n ≤ len) (hc : len ≤ c) (x : World) :
    (Instr.slice 48 (.slice A len c) none (some (.int .i64 n)) none).run Try.prog x = .ok (.slice A n c) x := by
  have hr := run_slice_h (P := Try.prog) (w := x) 48 A len c bytes_elem .i64 (n : Int) (by omega) (by omega)
  rw [hr, bytes_size]
  simp only [Result.andThen, sliced]
  rw [show ((n : Int)).toNat = n by omega, Nat.zero_mul, Nat.sub_zero, Nat.sub_zero]
  have : A.map (·.add 0) = A := by
    cases A with
    | none => rfl
    | some a => simp [Addr.add]
  rw [this]
  split <;> rfl
set_option maxHeartbeats 400000 in
theorem c_law16_PredwireBack_long (v : Value) (n : Nat) (A : Option Addr) (c : Nat) (w : World) (hn : 500 < n) (hL : n ≤ c) (hC : c ≤ 9223372036854775807) :
    Calls Try.prog 10 #[v, .slice A n c] w (RetV w (.bool true)) := by
  go_enter Try.func10, Try.ntmps10
  go_wp2_with (go_at_call 32; refine (c_law16_awake _).mono ?_; rintro e w2 ⟨rfl, hb2⟩)
  go_ret
  exact RetV.bool rfl (by repeat (first | exact Below.refl _ _ | refine Below.drew ?_ | refine Below.alloc ?_ (by first | omega | (simp; done) | (simp; omega)) _ | refine Below.setCell ?_ (by first | omega | (simp; done) | (simp; omega)) _ | refine Below.trans ?_ (Below.mono (by assumption) (by first | omega | (simp; done) | (simp; omega)))))
/-- What the first part of the statement leaves. -/
def Part1 (w : World) (w' : World) : Prop := Below w.heap.size w w'
set_option maxHeartbeats 2000000 in
set_option maxRecDepth 4000 in
theorem c_law16_PredwireBack (l : List Node) (LA : Option Addr) (lc ln : Nat) (hln : ln = l.length) (ea : Int) (more : List UInt8) (B : Option Addr) (cb : Nat) (w : World) (hb : InB w B cb more) (hm : more.length ≤ 500)
    (ka : ∀ w', Below w.heap.size w w' → Calls Try.prog 24 #[.slice LA l.length lc] w' (RetV w' (.int .i64 ea))) (ka0 : ea = 0 → InN w LA lc l ∧ check l = 0) :
    Calls Try.prog 10 #[.slice LA l.length lc, .slice B more.length cb] w (RetV w (.bool true)) := by
  have hL := hb.1
  have hC := hb.2.1
  have HB := Lib.hid hb
  obtain ⟨st, hst⟩ : ∃ st, st = rdPred' ⟨more, 0⟩ := ⟨_, rfl⟩
  obtain ⟨X, hX⟩ : ∃ X, X = rdPred ⟨more, 0⟩ := ⟨_, rfl⟩
  have hlen : st.s.length ≤ more.length := by rw [hst]; exact rdPred'_len _
  have hX31 : X.length ≤ 31 := by
    rw [hX]; unfold rdPred; split
    · exact pdL_len _
    · simp
  have htook : st.e = 0 → check X = 0 ∧ more = putB X ++ st.s := fun h => by
    rw [hst] at h
    have := rdPred_took h
    rw [hX, hst]
    exact this
  have Hst := Lib.hid hst
  have HX := Lib.hid hX
  obtain ⟨n, hn⟩ : ∃ n, n = more.length - st.s.length := ⟨_, rfl⟩
  have hnm : n ≤ more.length := by omega
  have hw : IntKind.i64.wrap ((more.length : Int) - (st.s.length : Int)) = (n : Int) := by rw [IntWalk.i64_in _ (by omega)]; omega
  have Hn := Lib.hid hn
  clear hst hX hb hn
  go_enter Try.func10, Try.ntmps10
  go_wp2_with (fail)
  refine (c_octet_New more B cb _ HB.out).mono ?_
  rintro e w1 ⟨g, rfl, hg, hr1, hb1⟩
  go_wp2_with (fail)
  refine (c_predwire_Read (some g) ⟨more, 0⟩ _ hr1).mono ?_
  rintro e w2 ⟨v2, rfl, own2, hr2, hk2⟩
  have hb2 := hb1.trans (hk2.below hb1.size (fun x hx => by injection hx with hx; omega))
  rw [← HX.out] at own2
  rw [← Hst.out] at hr2
  obtain ⟨A2, c2, rfl, in2⟩ := In.of_own Node.cells_len own2 (by omega)
  have In2 := Lib.hid in2
  clear own2 in2 hk2 hr1 hb1
  go_wp2_with (go_at_call 48; refine (c_octet_Left' (some g) _ _ hr2).mono ?_; rintro e w3 ⟨rfl, hb3⟩)
  have hb3' := hb2.trans (hb3.mono hb2.size)
  have hr3 := hr2.below hb3
  have In3 := Lib.hid (In2.out.below hb3)
  clear hb3 hr2 hb2 In2
  have htx : ∀ x ∈ X, x.v.s.length ≤ 24 := by
    rw [HX.out]; unfold rdPred; intro x hx; split at hx
    · exact rdNodes_texts _ _ x hx
    · simp at hx
  have Htx := Lib.hid htx
  clear htx
  have hpx := putB_len X
  have hn0 : decide ((n : Int) < 0) = false := by simp
  have hn1 : decide (more.length < n) = false := by simp; omega
  by_cases he : st.e = 0
  · have heb : (st.e == 0) = true := by simpa using he
    obtain ⟨hcx, hmx⟩ := htook he
    have hpn : more.take n = putB X := by
      rw [Hn.out]
      have : more.length - st.s.length = (putB X).length := by rw [hmx, List.length_append]; omega
      rw [this]; conv => lhs; rw [hmx]
      exact List.take_left
    have Hcx := Lib.hid hcx
    have Hpn := Lib.hid hpn
    clear hcx hmx hpn he htook
    refine wp_region_rel [Sp.eq (.int .i64 n), Sp.eq (.bool false), Sp.eq (.bool false), Sp.eq (.int .i64 n), Sp.eq (.slice B more.length cb), Sp.eq (.int .i64 more.length), Sp.eq (.bool false), Sp.eq (.bool false), Sp.eq (.bool false), Sp.eq (ptr (some g)), Sp.eq (.int .i64 st.e), Sp.eq (.bool true), Sp.eq (.bool true), Sp.eq (.slice A2 X.length c2), Sp.eq (.int .i64 0), Sp.eq (.bool false), Sp.eq (.bool false), Sp.eq (.slice A2 X.length c2), Sp.slice 1 bc (putB X), Sp.eq (.string (str (putB X))), Sp.eq (.slice B more.length cb), Sp.eq (.int .i64 n), Sp.eq (.slice B n cb), Sp.eq (.string (str (putB X))), Sp.eq (.bool false), Sp.eq (.bool false), Sp.eq (.bool false), Sp.eq (.bool false)] 80 (by kernel_rfl) (by kernel_rfl) rfl rfl ?_ ?_
    · refine ⟨?_, ?_, ?_, ?_, ?_, ?_, ?_, ?_, ?_, ?_, ?_, ?_, ?_, ?_, ?_, ?_, ?_, ?_, ?_, ?_, ?_, ?_, ?_, ?_, ?_, ?_, ?_, ?_, trivial⟩
      all_goals (intro u w4 hb4 hd; simp [Deps, Region.binds, Sp.slice_holds, Sp.eq_holds, Sp.any_holds] at hd; simp only [putDeps, dstOf, Region.binds])
      case refine_1 =>
        (try (obtain ⟨d0, hd⟩ := hd; (try (obtain ⟨d1, hd⟩ := hd; (try (obtain ⟨d2, hd⟩ := hd))))))
        go_wp2_with (fail)
        exact RelEnd.mk rfl (Below.refl _ _) rfl
      case refine_2 =>
        (try (obtain ⟨d0, hd⟩ := hd; (try (obtain ⟨d1, hd⟩ := hd; (try (obtain ⟨d2, hd⟩ := hd))))))
        go_wp2_with (fail)
        exact RelEnd.mk rfl (Below.refl _ _) rfl
      case refine_3 =>
        (try (obtain ⟨d0, hd⟩ := hd; (try (obtain ⟨d1, hd⟩ := hd; (try (obtain ⟨d2, hd⟩ := hd))))))
        go_wp2_with (fail)
        exact RelEnd.mk rfl (Below.refl _ _) rfl
      case refine_4 =>
        (try (obtain ⟨d0, hd⟩ := hd; (try (obtain ⟨d1, hd⟩ := hd; (try (obtain ⟨d2, hd⟩ := hd))))))
        go_wp2_with (fail)
        exact RelEnd.mk rfl (Below.refl _ _) rfl
      case refine_5 =>
        (try (obtain ⟨d0, hd⟩ := hd; (try (obtain ⟨d1, hd⟩ := hd; (try (obtain ⟨d2, hd⟩ := hd))))))
        go_wp2_with (fail)
        exact RelEnd.mk rfl (Below.refl _ _) rfl
      case refine_6 =>
        (try (obtain ⟨d0, hd⟩ := hd; (try (obtain ⟨d1, hd⟩ := hd; (try (obtain ⟨d2, hd⟩ := hd))))))
        go_wp2_with (fail)
        exact RelEnd.mk rfl (Below.refl _ _) rfl
      case refine_7 =>
        (try (obtain ⟨d0, hd⟩ := hd; (try (obtain ⟨d1, hd⟩ := hd; (try (obtain ⟨d2, hd⟩ := hd))))))
        go_wp2_with (fail)
        exact RelEnd.mk rfl (Below.refl _ _) rfl
      case refine_8 =>
        (try (obtain ⟨d0, hd⟩ := hd; (try (obtain ⟨d1, hd⟩ := hd; (try (obtain ⟨d2, hd⟩ := hd))))))
        go_wp2_with (fail)
        exact RelEnd.mk rfl (Below.refl _ _) rfl
      case refine_9 =>
        (try (obtain ⟨d0, hd⟩ := hd; (try (obtain ⟨d1, hd⟩ := hd; (try (obtain ⟨d2, hd⟩ := hd))))))
        go_wp2_with (fail)
        exact RelEnd.mk rfl (Below.refl _ _) rfl
      case refine_10 =>
        (try (obtain ⟨d0, hd⟩ := hd; (try (obtain ⟨d1, hd⟩ := hd; (try (obtain ⟨d2, hd⟩ := hd))))))
        go_wp2_with (fail)
        exact RelEnd.mk rfl (Below.refl _ _) rfl
      case refine_11 =>
        go_wp2_with (go_at_call 47; refine (c_octet_Err' (some g) _ _ (hr3.below hb4)).mono ?_; rintro e w5 ⟨rfl, hb5⟩)
        exact RelEnd.mk rfl hb5 rfl
      case refine_12 =>
        (try (obtain ⟨d0, hd⟩ := hd; (try (obtain ⟨d1, hd⟩ := hd; (try (obtain ⟨d2, hd⟩ := hd))))))
        go_wp2_with (fail)
        exact RelEnd.mk rfl (Below.refl _ _) rfl
      case refine_13 =>
        (try (obtain ⟨d0, hd⟩ := hd; (try (obtain ⟨d1, hd⟩ := hd; (try (obtain ⟨d2, hd⟩ := hd))))))
        go_wp2_with (fail)
        exact RelEnd.mk rfl (Below.refl _ _) rfl
      case refine_14 =>
        (try (obtain ⟨d0, hd⟩ := hd; (try (obtain ⟨d1, hd⟩ := hd; (try (obtain ⟨d2, hd⟩ := hd))))))
        go_wp2_with (fail)
        exact RelEnd.mk rfl (Below.refl _ _) rfl
      case refine_15 =>
        go_wp2_with (go_at_call 24; refine (c_ref10_Check X A2 c2 _ (In3.out.below hb4) (fun x hx => by have := Htx.out x hx; omega)).mono ?_; rintro e w5 ⟨rfl, hb5⟩; rw [Hcx.out])
        exact RelEnd.mk rfl hb5 rfl
      case refine_16 =>
        (try (obtain ⟨d0, hd⟩ := hd; (try (obtain ⟨d1, hd⟩ := hd; (try (obtain ⟨d2, hd⟩ := hd))))))
        go_wp2_with (fail)
        exact RelEnd.mk rfl (Below.refl _ _) rfl
      case refine_17 =>
        (try (obtain ⟨d0, hd⟩ := hd; (try (obtain ⟨d1, hd⟩ := hd; (try (obtain ⟨d2, hd⟩ := hd))))))
        go_wp2_with (fail)
        exact RelEnd.mk rfl (Below.refl _ _) rfl
      case refine_18 =>
        (try (obtain ⟨d0, hd⟩ := hd; (try (obtain ⟨d1, hd⟩ := hd; (try (obtain ⟨d2, hd⟩ := hd))))))
        go_wp2_with (fail)
        exact RelEnd.mk rfl (Below.refl _ _) rfl
      case refine_19 =>
        go_wp2_with (go_at_call 33; refine (c_predwire_Put [] _ 0 X A2 c2 _ (In.nil (by omega)) (In3.out.below hb4) (by simp) (fun x hx => by have := Htx.out x hx; omega)).mono ?_; rintro e w5 ⟨v5, rfl, own5, hb5⟩; rw [List.nil_append] at own5)
        exact RelEnd.mk rfl hb5 (In.of_own bc_len own5 (by omega))
      case refine_20 =>
        obtain ⟨⟨A5, c5, d0, d1⟩, d9⟩ := hd
        have kc := conv_str (P := Try.prog) w4 Try.underlying48 Try.underlying5 Try.underlying9 d1
        have kc' : (convert 48 9 (u 18)).run Try.prog w4 = .ok (.string (str (putB X))) w4 := by rw [d0]; exact kc
        clear kc d0 d1
        go_wp2_with (fail)
        exact RelEnd.mk rfl (Below.refl _ _) rfl
      case refine_21 =>
        (try (obtain ⟨d0, hd⟩ := hd; (try (obtain ⟨d1, hd⟩ := hd; (try (obtain ⟨d2, hd⟩ := hd))))))
        go_wp2_with (fail)
        exact RelEnd.mk rfl (Below.refl _ _) rfl
      case refine_22 =>
        (try (obtain ⟨d0, hd⟩ := hd; (try (obtain ⟨d1, hd⟩ := hd; (try (obtain ⟨d2, hd⟩ := hd))))))
        go_wp2_with (fail)
        exact RelEnd.mk rfl (Below.refl _ _) rfl
      case refine_23 =>
        have kc := head_run B cb more.length n hnm hL w4
        go_wp2_with (fail)
        exact RelEnd.mk rfl (Below.refl _ _) rfl
      case refine_24 =>
        have kc := conv_str (P := Try.prog) w4 Try.underlying48 Try.underlying5 Try.underlying9 ((HB.out.below (hb3'.trans (hb4.mono hb3'.size))).take hnm)
        rw [show (more.take n).length = n by rw [List.length_take]; omega, Hpn.out] at kc
        go_wp2_with (fail)
        exact RelEnd.mk rfl (Below.refl _ _) rfl
      case refine_25 =>
        (try (obtain ⟨d0, hd⟩ := hd; (try (obtain ⟨d1, hd⟩ := hd; (try (obtain ⟨d2, hd⟩ := hd))))))
        go_wp2_with (fail)
        exact RelEnd.mk rfl (Below.refl _ _) rfl
      case refine_26 =>
        (try (obtain ⟨d0, hd⟩ := hd; (try (obtain ⟨d1, hd⟩ := hd; (try (obtain ⟨d2, hd⟩ := hd))))))
        go_wp2_with (fail)
        exact RelEnd.mk rfl (Below.refl _ _) rfl
      case refine_27 =>
        (try (obtain ⟨d0, hd⟩ := hd; (try (obtain ⟨d1, hd⟩ := hd; (try (obtain ⟨d2, hd⟩ := hd))))))
        go_wp2_with (fail)
        exact RelEnd.mk rfl (Below.refl _ _) rfl
      case refine_28 =>
        (try (obtain ⟨d0, hd⟩ := hd; (try (obtain ⟨d1, hd⟩ := hd; (try (obtain ⟨d2, hd⟩ := hd))))))
        go_wp2_with (fail)
        exact RelEnd.mk rfl (Below.refl _ _) rfl
    · intro u w7 hb7' hold
      simp only [RelHold, Sp.eq_holds, Nat.reduceAdd] at hold
      obtain ⟨-, -, -, -, -, -, -, -, -, -, -, -, -, -, -, -, -, -, -, -, -, -, -, -, -, -, -, d27, -⟩ := hold
      simp only [putAll, Act.put, Nat.reduceAdd, List.setIfInBounds_toArray, List.set_cons_zero, List.set_cons_succ, d27]
      have hb7 := hb3'.trans (hb7'.mono hb3'.size)
      clear hb7' hb3' In3 Htx hpx hn0 hn1 heb
      go_wp2_with (fail)
      refine (ka w7 hb7).mono ?_
      rintro e w8 ⟨rfl, hb8⟩
      have hb8' := hb7.trans (hb8.mono hb7.size)
      clear hb8
      by_cases hea : ea = 0
      case neg =>
        have hne : (ea != 0) = true := by simpa using hea
        clear ka0 ka hea
        go_wp2_with (go_at_call 32; refine (c_law16_awake _).mono ?_; rintro e w9 ⟨rfl, hb9⟩)
        go_ret
        exact RetV.bool rfl (hb8'.trans (hb9.mono hb8'.size))
      obtain ⟨hin, hck⟩ := ka0 hea
      have hne : (ea != 0) = false := by simpa using hea
      have hs : ∀ x ∈ l, x.v.s.length ≤ 4294967000 := fun x hx => by have := Node.ok_text (check_ok hck x hx); omega
      obtain ⟨hp1, hp2⟩ := rdPred_put hck more
      have hpl := putB_len l
      have Hin := Lib.hid hin
      have Hs := Lib.hid hs
      have HP1 := Lib.hid hp1
      have HP2 := Lib.hid hp2
      have Hck := Lib.hid hck
      clear ka0 ka hea hin hs hp1 hp2 hck
      go_wp2_with (fail)
      refine (c_predwire_Put [] _ 0 l LA lc _ (In.nil (by omega)) (Hin.out.below hb8') (by simp) Hs.out).mono ?_
      rintro e w9 ⟨v9, rfl, own9, hb9⟩
      have hb9' := hb8'.trans (hb9.mono hb8'.size)
      rw [List.nil_append] at own9
      have Own9 := Lib.hid own9
      obtain ⟨A9, c9, rfl, _, _⟩ := own_form own9
      clear own9
      go_wp2_with ((at_builtin; refine Stop.out ?_))
      refine Stop.mk (wpList_app _ rfl (.tmp 56) (.tmp 57) elemB rfl w8.heap.size _ (putB l).length ((putB l).flatMap bc) rfl Own9.out B more.length cb (more.flatMap bc) rfl (Src.of_in bc_len (by omega) (HB.out.below hb9')) (bc_one more) (by omega) hb9.size ?_)
      intro v10 w10 own10 _ hb10 _
      have hb10' := hb9'.trans (hb10.mono hb8'.size)
      rw [← List.flatMap_append, ← List.length_append] at own10
      obtain ⟨A10, c10, rfl, in10⟩ := In.of_own bc_len own10 (by simp only [List.length_append]; omega)
      have In10 := Lib.hid in10
      clear own10 in10 hb9 hb10
      obtain ⟨all, hall⟩ : ∃ all, all = putB l ++ more := ⟨_, rfl⟩
      have Hall := Lib.hid hall
      rw [← hall] at In10 ⊢
      clear hall
      go_wp2_with (fail)
      refine (c_octet_New all A10 c10 _ In10.out).mono ?_
      rintro e w11 ⟨g, rfl, hg, hr11, hb11⟩
      have hb11' := hb10'.trans (hb11.mono hb10'.size)
      go_wp2_with (fail)
      refine (c_predwire_Read (some g) ⟨all, 0⟩ _ hr11).mono ?_
      rintro e w12 ⟨v12, rfl, own12, hr12, hk12⟩
      have hb12' := hb11'.trans (hk12.below hb11'.size (fun x hx => by injection hx with hx; have := hb10'.size; omega))
      rw [Hall.out, HP1.out] at own12
      rw [Hall.out, HP2.out] at hr12
      have hl31 := check_len Hck.out
      obtain ⟨A12, c12, rfl, in12⟩ := In.of_own Node.cells_len own12 (by omega)
      have In12 := Lib.hid in12
      clear own12 in12 hk12 hb11 hr11
      go_wp2_with (first
        | (go_at_call 47; refine (c_octet_Err' (some g) _ _ hr12).mono ?_; rintro e w13 ⟨rfl, hb13⟩; have hb13' := hb12'.trans (hb13.mono hb12'.size))
        | (go_at_call 41; refine (c_ref10_Same l l A12 LA c12 lc _ (In12.out.below hb13) (Hin.out.below hb13')).mono ?_; rintro e w14 ⟨rfl, hb14⟩; rw [decide_eq_true (rfl : l = l)]; have hb14' := hb13'.trans (hb14.mono hb13'.size))
        | (go_at_call 48; refine (c_octet_Left' (some g) _ _ ((hr12.below hb13).below hb14)).mono ?_; rintro e w15 ⟨rfl, hb15⟩; have hb15' := hb14'.trans (hb15.mono hb14'.size))
        | (go_at_call 32; refine (c_law16_awake _).mono ?_; rintro e w16 ⟨rfl, hb16⟩))
      go_ret
      exact RetV.bool rfl (hb15'.trans (hb16.mono hb15'.size))
  · have heb : (st.e == 0) = false := by simpa using he
    clear he htook
    refine wp_region_rel [Sp.eq (.int .i64 n), Sp.eq (.bool false), Sp.eq (.bool false), Sp.eq (.int .i64 n), Sp.eq (.slice B more.length cb), Sp.eq (.int .i64 more.length), Sp.eq (.bool false), Sp.eq (.bool false), Sp.eq (.bool false), Sp.eq (ptr (some g)), Sp.eq (.int .i64 st.e), Sp.eq (.bool false), Sp.eq (.bool false), Sp.eq (.tuple #[]), Sp.eq (.tuple #[]), Sp.eq (.tuple #[]), Sp.eq (.tuple #[]), Sp.eq (.tuple #[]), Sp.eq (.tuple #[]), Sp.eq (.tuple #[]), Sp.eq (.tuple #[]), Sp.eq (.tuple #[]), Sp.eq (.tuple #[]), Sp.eq (.tuple #[]), Sp.eq (.tuple #[]), Sp.eq (.tuple #[]), Sp.eq (.bool false), Sp.eq (.bool false)] 80 (by kernel_rfl) (by kernel_rfl) rfl rfl ?_ ?_
    · refine ⟨?_, ?_, ?_, ?_, ?_, ?_, ?_, ?_, ?_, ?_, ?_, ?_, ?_, ?_, ?_, ?_, ?_, ?_, ?_, ?_, ?_, ?_, ?_, ?_, ?_, ?_, ?_, ?_, trivial⟩
      all_goals (intro u w4 hb4 hd; simp [Deps, Region.binds, Sp.slice_holds, Sp.eq_holds, Sp.any_holds] at hd; simp only [putDeps, dstOf, Region.binds])
      case refine_1 =>
        (try (obtain ⟨d0, hd⟩ := hd; (try (obtain ⟨d1, hd⟩ := hd; (try (obtain ⟨d2, hd⟩ := hd))))))
        go_wp2_with (fail)
        exact RelEnd.mk rfl (Below.refl _ _) rfl
      case refine_2 =>
        (try (obtain ⟨d0, hd⟩ := hd; (try (obtain ⟨d1, hd⟩ := hd; (try (obtain ⟨d2, hd⟩ := hd))))))
        go_wp2_with (fail)
        exact RelEnd.mk rfl (Below.refl _ _) rfl
      case refine_3 =>
        (try (obtain ⟨d0, hd⟩ := hd; (try (obtain ⟨d1, hd⟩ := hd; (try (obtain ⟨d2, hd⟩ := hd))))))
        go_wp2_with (fail)
        exact RelEnd.mk rfl (Below.refl _ _) rfl
      case refine_4 =>
        (try (obtain ⟨d0, hd⟩ := hd; (try (obtain ⟨d1, hd⟩ := hd; (try (obtain ⟨d2, hd⟩ := hd))))))
        go_wp2_with (fail)
        exact RelEnd.mk rfl (Below.refl _ _) rfl
      case refine_5 =>
        (try (obtain ⟨d0, hd⟩ := hd; (try (obtain ⟨d1, hd⟩ := hd; (try (obtain ⟨d2, hd⟩ := hd))))))
        go_wp2_with (fail)
        exact RelEnd.mk rfl (Below.refl _ _) rfl
      case refine_6 =>
        (try (obtain ⟨d0, hd⟩ := hd; (try (obtain ⟨d1, hd⟩ := hd; (try (obtain ⟨d2, hd⟩ := hd))))))
        go_wp2_with (fail)
        exact RelEnd.mk rfl (Below.refl _ _) rfl
      case refine_7 =>
        (try (obtain ⟨d0, hd⟩ := hd; (try (obtain ⟨d1, hd⟩ := hd; (try (obtain ⟨d2, hd⟩ := hd))))))
        go_wp2_with (fail)
        exact RelEnd.mk rfl (Below.refl _ _) rfl
      case refine_8 =>
        (try (obtain ⟨d0, hd⟩ := hd; (try (obtain ⟨d1, hd⟩ := hd; (try (obtain ⟨d2, hd⟩ := hd))))))
        go_wp2_with (fail)
        exact RelEnd.mk rfl (Below.refl _ _) rfl
      case refine_9 =>
        (try (obtain ⟨d0, hd⟩ := hd; (try (obtain ⟨d1, hd⟩ := hd; (try (obtain ⟨d2, hd⟩ := hd))))))
        go_wp2_with (fail)
        exact RelEnd.mk rfl (Below.refl _ _) rfl
      case refine_10 =>
        (try (obtain ⟨d0, hd⟩ := hd; (try (obtain ⟨d1, hd⟩ := hd; (try (obtain ⟨d2, hd⟩ := hd))))))
        go_wp2_with (fail)
        exact RelEnd.mk rfl (Below.refl _ _) rfl
      case refine_11 =>
        go_wp2_with (go_at_call 47; refine (c_octet_Err' (some g) _ _ (hr3.below hb4)).mono ?_; rintro e w5 ⟨rfl, hb5⟩)
        exact RelEnd.mk rfl hb5 rfl
      case refine_12 =>
        (try (obtain ⟨d0, hd⟩ := hd; (try (obtain ⟨d1, hd⟩ := hd; (try (obtain ⟨d2, hd⟩ := hd))))))
        go_wp2_with (fail)
        exact RelEnd.mk rfl (Below.refl _ _) rfl
      case refine_13 =>
        (try (obtain ⟨d0, hd⟩ := hd; (try (obtain ⟨d1, hd⟩ := hd; (try (obtain ⟨d2, hd⟩ := hd))))))
        go_wp2_with (fail)
        exact RelEnd.mk rfl (Below.refl _ _) rfl
      case refine_14 =>
        (try (obtain ⟨d0, hd⟩ := hd; (try (obtain ⟨d1, hd⟩ := hd; (try (obtain ⟨d2, hd⟩ := hd))))))
        go_wp2_with (fail)
        exact RelEnd.mk rfl (Below.refl _ _) rfl
      case refine_15 =>
        (try (obtain ⟨d0, hd⟩ := hd; (try (obtain ⟨d1, hd⟩ := hd; (try (obtain ⟨d2, hd⟩ := hd))))))
        go_wp2_with (fail)
        exact RelEnd.mk rfl (Below.refl _ _) rfl
      case refine_16 =>
        (try (obtain ⟨d0, hd⟩ := hd; (try (obtain ⟨d1, hd⟩ := hd; (try (obtain ⟨d2, hd⟩ := hd))))))
        go_wp2_with (fail)
        exact RelEnd.mk rfl (Below.refl _ _) rfl
      case refine_17 =>
        (try (obtain ⟨d0, hd⟩ := hd; (try (obtain ⟨d1, hd⟩ := hd; (try (obtain ⟨d2, hd⟩ := hd))))))
        go_wp2_with (fail)
        exact RelEnd.mk rfl (Below.refl _ _) rfl
      case refine_18 =>
        (try (obtain ⟨d0, hd⟩ := hd; (try (obtain ⟨d1, hd⟩ := hd; (try (obtain ⟨d2, hd⟩ := hd))))))
        go_wp2_with (fail)
        exact RelEnd.mk rfl (Below.refl _ _) rfl
      case refine_19 =>
        (try (obtain ⟨d0, hd⟩ := hd; (try (obtain ⟨d1, hd⟩ := hd; (try (obtain ⟨d2, hd⟩ := hd))))))
        go_wp2_with (fail)
        exact RelEnd.mk rfl (Below.refl _ _) rfl
      case refine_20 =>
        (try (obtain ⟨d0, hd⟩ := hd; (try (obtain ⟨d1, hd⟩ := hd; (try (obtain ⟨d2, hd⟩ := hd))))))
        go_wp2_with (fail)
        exact RelEnd.mk rfl (Below.refl _ _) rfl
      case refine_21 =>
        (try (obtain ⟨d0, hd⟩ := hd; (try (obtain ⟨d1, hd⟩ := hd; (try (obtain ⟨d2, hd⟩ := hd))))))
        go_wp2_with (fail)
        exact RelEnd.mk rfl (Below.refl _ _) rfl
      case refine_22 =>
        (try (obtain ⟨d0, hd⟩ := hd; (try (obtain ⟨d1, hd⟩ := hd; (try (obtain ⟨d2, hd⟩ := hd))))))
        go_wp2_with (fail)
        exact RelEnd.mk rfl (Below.refl _ _) rfl
      case refine_23 =>
        (try (obtain ⟨d0, hd⟩ := hd; (try (obtain ⟨d1, hd⟩ := hd; (try (obtain ⟨d2, hd⟩ := hd))))))
        go_wp2_with (fail)
        exact RelEnd.mk rfl (Below.refl _ _) rfl
      case refine_24 =>
        (try (obtain ⟨d0, hd⟩ := hd; (try (obtain ⟨d1, hd⟩ := hd; (try (obtain ⟨d2, hd⟩ := hd))))))
        go_wp2_with (fail)
        exact RelEnd.mk rfl (Below.refl _ _) rfl
      case refine_25 =>
        (try (obtain ⟨d0, hd⟩ := hd; (try (obtain ⟨d1, hd⟩ := hd; (try (obtain ⟨d2, hd⟩ := hd))))))
        go_wp2_with (fail)
        exact RelEnd.mk rfl (Below.refl _ _) rfl
      case refine_26 =>
        (try (obtain ⟨d0, hd⟩ := hd; (try (obtain ⟨d1, hd⟩ := hd; (try (obtain ⟨d2, hd⟩ := hd))))))
        go_wp2_with (fail)
        exact RelEnd.mk rfl (Below.refl _ _) rfl
      case refine_27 =>
        (try (obtain ⟨d0, hd⟩ := hd; (try (obtain ⟨d1, hd⟩ := hd; (try (obtain ⟨d2, hd⟩ := hd))))))
        go_wp2_with (fail)
        exact RelEnd.mk rfl (Below.refl _ _) rfl
      case refine_28 =>
        (try (obtain ⟨d0, hd⟩ := hd; (try (obtain ⟨d1, hd⟩ := hd; (try (obtain ⟨d2, hd⟩ := hd))))))
        go_wp2_with (fail)
        exact RelEnd.mk rfl (Below.refl _ _) rfl
    · intro u w7 hb7' hold
      simp only [RelHold, Sp.eq_holds, Nat.reduceAdd] at hold
      obtain ⟨-, -, -, -, -, -, -, -, -, -, -, -, -, -, -, -, -, -, -, -, -, -, -, -, -, -, -, d27, -⟩ := hold
      simp only [putAll, Act.put, Nat.reduceAdd, List.setIfInBounds_toArray, List.set_cons_zero, List.set_cons_succ, d27]
      have hb7 := hb3'.trans (hb7'.mono hb3'.size)
      clear hb7' hb3' In3 Htx hpx hn0 hn1 heb
      go_wp2_with (fail)
      refine (ka w7 hb7).mono ?_
      rintro e w8 ⟨rfl, hb8⟩
      have hb8' := hb7.trans (hb8.mono hb7.size)
      clear hb8
      by_cases hea : ea = 0
      case neg =>
        have hne : (ea != 0) = true := by simpa using hea
        clear ka0 ka hea
        go_wp2_with (go_at_call 32; refine (c_law16_awake _).mono ?_; rintro e w9 ⟨rfl, hb9⟩)
        go_ret
        exact RetV.bool rfl (hb8'.trans (hb9.mono hb8'.size))
      obtain ⟨hin, hck⟩ := ka0 hea
      have hne : (ea != 0) = false := by simpa using hea
      have hs : ∀ x ∈ l, x.v.s.length ≤ 4294967000 := fun x hx => by have := Node.ok_text (check_ok hck x hx); omega
      obtain ⟨hp1, hp2⟩ := rdPred_put hck more
      have hpl := putB_len l
      have Hin := Lib.hid hin
      have Hs := Lib.hid hs
      have HP1 := Lib.hid hp1
      have HP2 := Lib.hid hp2
      have Hck := Lib.hid hck
      clear ka0 ka hea hin hs hp1 hp2 hck
      go_wp2_with (fail)
      refine (c_predwire_Put [] _ 0 l LA lc _ (In.nil (by omega)) (Hin.out.below hb8') (by simp) Hs.out).mono ?_
      rintro e w9 ⟨v9, rfl, own9, hb9⟩
      have hb9' := hb8'.trans (hb9.mono hb8'.size)
      rw [List.nil_append] at own9
      have Own9 := Lib.hid own9
      obtain ⟨A9, c9, rfl, _, _⟩ := own_form own9
      clear own9
      go_wp2_with ((at_builtin; refine Stop.out ?_))
      refine Stop.mk (wpList_app _ rfl (.tmp 56) (.tmp 57) elemB rfl w8.heap.size _ (putB l).length ((putB l).flatMap bc) rfl Own9.out B more.length cb (more.flatMap bc) rfl (Src.of_in bc_len (by omega) (HB.out.below hb9')) (bc_one more) (by omega) hb9.size ?_)
      intro v10 w10 own10 _ hb10 _
      have hb10' := hb9'.trans (hb10.mono hb8'.size)
      rw [← List.flatMap_append, ← List.length_append] at own10
      obtain ⟨A10, c10, rfl, in10⟩ := In.of_own bc_len own10 (by simp only [List.length_append]; omega)
      have In10 := Lib.hid in10
      clear own10 in10 hb9 hb10
      obtain ⟨all, hall⟩ : ∃ all, all = putB l ++ more := ⟨_, rfl⟩
      have Hall := Lib.hid hall
      rw [← hall] at In10 ⊢
      clear hall
      go_wp2_with (fail)
      refine (c_octet_New all A10 c10 _ In10.out).mono ?_
      rintro e w11 ⟨g, rfl, hg, hr11, hb11⟩
      have hb11' := hb10'.trans (hb11.mono hb10'.size)
      go_wp2_with (fail)
      refine (c_predwire_Read (some g) ⟨all, 0⟩ _ hr11).mono ?_
      rintro e w12 ⟨v12, rfl, own12, hr12, hk12⟩
      have hb12' := hb11'.trans (hk12.below hb11'.size (fun x hx => by injection hx with hx; have := hb10'.size; omega))
      rw [Hall.out, HP1.out] at own12
      rw [Hall.out, HP2.out] at hr12
      have hl31 := check_len Hck.out
      obtain ⟨A12, c12, rfl, in12⟩ := In.of_own Node.cells_len own12 (by omega)
      have In12 := Lib.hid in12
      clear own12 in12 hk12 hb11 hr11
      go_wp2_with (first
        | (go_at_call 47; refine (c_octet_Err' (some g) _ _ hr12).mono ?_; rintro e w13 ⟨rfl, hb13⟩; have hb13' := hb12'.trans (hb13.mono hb12'.size))
        | (go_at_call 41; refine (c_ref10_Same l l A12 LA c12 lc _ (In12.out.below hb13) (Hin.out.below hb13')).mono ?_; rintro e w14 ⟨rfl, hb14⟩; rw [decide_eq_true (rfl : l = l)]; have hb14' := hb13'.trans (hb14.mono hb13'.size))
        | (go_at_call 48; refine (c_octet_Left' (some g) _ _ ((hr12.below hb13).below hb14)).mono ?_; rintro e w15 ⟨rfl, hb15⟩; have hb15' := hb14'.trans (hb15.mono hb14'.size))
        | (go_at_call 32; refine (c_law16_awake _).mono ?_; rintro e w16 ⟨rfl, hb16⟩))
      go_ret
      exact RetV.bool rfl (hb15'.trans (hb16.mono hb15'.size))
end Go.Proofs.Ytoekhnppcakdnaa
