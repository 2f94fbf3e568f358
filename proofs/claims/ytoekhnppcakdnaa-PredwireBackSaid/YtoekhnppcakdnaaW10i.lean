/-
  The walk of the statement PredJoins: it answers true, whatever the two filters.
-/
import Derived.Test.YtoekhnppcakdnaaW10h
import Derived.Test.YtoekhnppcakdnaaW10f
namespace Go.Proofs.Ytoekhnppcakdnaa
open Go.RowKit

theorem In.lit {α : Type} {k : Nat} {cs : α → List Value} (hk : ∀ x, (cs x).length = k) (w : World) (l : List α) (t : TypeId) (n : Nat) (hn : n = l.length) (hl : l.length ≤ 4294967296) : In k cs (w.alloc (.cells (l.flatMap cs).toArray t)) (some ⟨w.heap.size, 0, none⟩) n l := by
  subst hn
  refine ⟨Nat.le_refl _, by omega, hl, .inr ⟨_, 0, rfl, by simp, fun i hi j u hu => ?_⟩⟩
  have hj : j < k := by rw [← hk l[i]]; exact (List.getElem?_eq_some_iff.1 hu).1
  rw [World.cell?_alloc_new, Nat.zero_add]
  have := flat_get (k := k) hk l i hi j hj
  rw [List.getElem?_toArray, this]; exact hu
set_option maxHeartbeats 400000 in
theorem c_ref10_Check_long (n : Nat) (A : Option Addr) (c : Nat) (w : World) (hn : 31 < n) (hL : n ≤ c) (hC : c ≤ 9223372036854775807) :
    Calls Try.prog 24 #[.slice A n c] w (RetV w (.int .i64 4)) := by
  go_enter Try.func24, Try.ntmps24
  go_wp2_with (fail)
  go_ret
  exact RetV.int rfl (by repeat (first | exact Below.refl _ _ | refine Below.drew ?_ | refine Below.alloc ?_ (by first | omega | (simp; done) | (simp; omega)) _ | refine Below.setCell ?_ (by first | omega | (simp; done) | (simp; omega)) _ | refine Below.trans ?_ (Below.mono (by assumption) (by first | omega | (simp; done) | (simp; omega)))))
/-- One of the two is no filter. -/
theorem c_law10_PredJoins_bad (va vb : Value) (ea eb : Int) (w : World) (ka : ∀ w', Below w.heap.size w w' → Calls Try.prog 24 #[va] w' (RetV w' (.int .i64 ea)))
    (kb : ∀ w', Below w.heap.size w w' → Calls Try.prog 24 #[vb] w' (RetV w' (.int .i64 eb))) (h : ea ≠ 0 ∨ eb ≠ 0) :
    Calls Try.prog 6 #[va, vb] w (RetV w (.bool true)) := by
  have KA := Lib.hid ka
  have KB := Lib.hid kb
  clear ka kb
  by_cases h1 : ea = 0
  · have h2 : eb ≠ 0 := h.resolve_left (fun hn => hn h1)
    have b1 : (ea != 0) = false := by simpa using h1
    have b2 : (eb != 0) = true := by simpa using h2
    clear h h1 h2
    go_enter Try.func6, Try.ntmps6
    go_wp2_with (fail)
    refine (KA.out w (Below.refl _ _)).mono ?_
    rintro e w1 ⟨rfl, hb1⟩
    go_wp2_with (fail)
    refine (KB.out w1 hb1).mono ?_
    rintro e w2 ⟨rfl, hb2⟩
    have hz1 := hb1.size
    have hz2 := hb2.size
    go_wp2_with (go_at_call 16; refine (c_law10_awake _).mono ?_; rintro e w3 ⟨rfl, hb3⟩)
    go_ret
    exact RetV.bool rfl (by repeat (first | exact Below.refl _ _ | refine Below.drew ?_ | refine Below.alloc ?_ (by first | omega | (simp; done) | (simp; omega)) _ | refine Below.setCell ?_ (by first | omega | (simp; done) | (simp; omega)) _ | refine Below.trans ?_ (Below.mono (by assumption) (by first | omega | (simp; done) | (simp; omega)))))
  · have b1 : (ea != 0) = true := by simpa using h1
    clear h h1
    go_enter Try.func6, Try.ntmps6
    go_wp2_with (fail)
    refine (KA.out w (Below.refl _ _)).mono ?_
    rintro e w1 ⟨rfl, hb1⟩
    have hz1 := hb1.size
    go_wp2_with (go_at_call 16; refine (c_law10_awake _).mono ?_; rintro e w3 ⟨rfl, hb3⟩)
    go_ret
    exact RetV.bool rfl (by repeat (first | exact Below.refl _ _ | refine Below.drew ?_ | refine Below.alloc ?_ (by first | omega | (simp; done) | (simp; omega)) _ | refine Below.setCell ?_ (by first | omega | (simp; done) | (simp; omega)) _ | refine Below.trans ?_ (Below.mono (by assumption) (by first | omega | (simp; done) | (simp; omega)))))
theorem joined_len (op : Int) (l : List Node) : (joined op l).length = 1 + l.length := by simp [joined]; omega
set_option maxHeartbeats 4000000 in
set_option maxRecDepth 4000 in
theorem c_law10_PredJoins (a b : List Node) (A B : Option Addr) (ca cb : Nat) (w : World) (ha : InN w A ca a) (hb : InN w B cb b) (hsa : ∀ x ∈ a, x.v.s.length ≤ 9223372036854775807) (hsb : ∀ x ∈ b, x.v.s.length ≤ 9223372036854775807)
    (oka : check a = 0) (okb : check b = 0) : Calls Try.prog 6 #[.slice A a.length ca, .slice B b.length cb] w (RetV w (.bool true)) := by
  have hLa := ha.1
  have hCa := ha.2.1
  have hLb := hb.1
  have hCb := hb.2.1
  obtain ⟨da, ta, ea, oa, la⟩ := tree_of_check oka
  obtain ⟨db, tb, eb, ob, lb⟩ := tree_of_check okb
  have hda := depth_bd a
  have hdb := depth_bd b
  obtain ⟨l, hl⟩ : ∃ l, joined 11 (a ++ b) = l := ⟨_, rfl⟩
  obtain ⟨m, hm⟩ : ∃ m, joined 10 a = m := ⟨_, rfl⟩
  have hll : l.length = 1 + a.length + b.length := by rw [← hl, joined_len, List.length_append]; omega
  have hml : m.length = 1 + a.length := by rw [← hm, joined_len]
  have Eoka := Lib.hid oka
  have Eokb := Lib.hid okb
  have El : Hid (endAt l 0 = l.length) := by show _ = _; rw [← hl]; exact end_joined2 oka okb
  have Em : Hid (endAt m 0 = m.length) := by show _ = _; rw [← hm]; exact end_joined1 oka
  have Dl : Hid (depth l = max (depth a) (depth b) + 1) := by show _ = _; rw [← hl]; exact depth_joined2 oka okb
  have Cl : Hid (check l = if 31 < l.length then 4 else if 8 < max (depth a) (depth b) + 1 then 5 else 0) := by show _ = _; rw [← hl]; exact check_joined2 oka okb
  have l0 : 0 < l.length := by omega
  have m0 : 0 < m.length := by omega
  have Tl : Hid (Trees (parts l[0].op).toNat (l.drop (0 + 1)) [] (max da db)) := by
    subst hl
    exact (ta.ahead b).append tb
  have Tm : Hid (Trees (parts m[0].op).toNat (m.drop (0 + 1)) [] da) := by
    subst hm
    exact ta
  have Kl : Hid (cut (parts l[0].op).toNat (l.drop (0 + 1)) = [a, b]) := by
    subst hl
    exact cut_two ta tb
  have Km : Hid (cut (parts m[0].op).toNat (m.drop (0 + 1)) = [a]) := by
    subst hm
    exact cut_one ta
  have Jl : Hid (joined 11 (([(A, ca, a), (B, cb, b)] : List Kid).flatMap (·.2.2)) = l) := by show _ = _; rw [← hl]; simp
  have Jm : Hid (joined 10 (([(A, ca, a)] : List Kid).flatMap (·.2.2)) = m) := by show _ = _; rw [← hm]; simp
  have Sl : Hid (sumLen ([(A, ca, a), (B, cb, b)] : List Kid) ≤ 62 ∧ sumLen ([(A, ca, a)] : List Kid) ≤ 31) := by
    show _ ∧ _
    simp [sumLen]; omega
  have sl : ∀ x ∈ l, x.v.s.length ≤ 9223372036854775807 := by
    rw [← hl]
    intro x hx
    rcases List.mem_cons.1 hx with rfl | hx
    · simp
    · rcases List.mem_append.1 hx with hx | hx
      · exact hsa x hx
      · exact hsb x hx
  have HA := Lib.hid ha
  have HB := Lib.hid hb
  have HSA := Lib.hid hsa
  have HSB := Lib.hid hsb
  have HSL := Lib.hid sl
  have B1 : ((l.length : Int) != 1 + (a.length : Int) + (b.length : Int)) = false := by simp; omega
  have B2 : ((m.length : Int) != (a.length : Int) + 1) = false := by simp; omega
  have Hll := Lib.hid hll
  have Hml := Lib.hid hml
  have hl63 : l.length ≤ 63 := by omega
  have hm32 : m.length ≤ 32 := by omega
  clear ha hb hsa hsb sl hl hm ta tb ea eb oa ob oka okb hll hml
  go_enter Try.func6, Try.ntmps6
  go_wp2_with (fail)
  refine (c_ref10_Check a A ca _ HA.out HSA.out).mono ?_
  rintro e w1 ⟨rfl, hb1⟩
  rw [Eoka.out]
  go_wp2_with (fail)
  refine (c_ref10_Check b B cb _ (HB.out.below hb1) HSB.out).mono ?_
  rintro e w2 ⟨rfl, hb2⟩
  rw [Eokb.out]
  have hz1 := hb1.size
  have hz2 := hb2.size
  have hB2 : Below w.heap.size w w2 := (by repeat (first | exact Below.refl _ _ | refine Below.drew ?_ | refine Below.alloc ?_ (by first | omega | (simp; done) | (simp; omega)) _ | refine Below.setCell ?_ (by first | omega | (simp; done) | (simp; omega)) _ | refine Below.trans ?_ (Below.mono (by assumption) (by first | omega | (simp; done) | (simp; omega)))))
  clear hb1 hb2
  go_wp2_with (fail)
  refine (c_pred_Join 11 [(A, ca, a), (B, cb, b)] _ 2 _ (In.lit Kid.cells_len w2 [(A, ca, a), (B, cb, b)] 22 2 rfl (by simp)) ?_ (by have := Sl.out; omega)).mono ?_
  · intro o ho
    simp only [List.mem_cons, List.not_mem_nil, or_false] at ho
    rcases ho with rfl | rfl
    · exact (HA.out.below hB2).alloc _
    · exact (HB.out.below hB2).alloc _
  rintro e w3 ⟨v3, rfl, own3, hb3⟩
  rw [Jl.out] at own3
  obtain ⟨A3, c3, rfl, in3⟩ := In.of_own Node.cells_len own3 (by omega)
  have hB3 : Below w.heap.size w w3 := (by repeat (first | exact Below.refl _ _ | refine Below.drew ?_ | refine Below.alloc ?_ (by first | omega | (simp; done) | (simp; omega)) _ | refine Below.setCell ?_ (by first | omega | (simp; done) | (simp; omega)) _ | refine Below.trans ?_ (Below.mono (by assumption) (by first | omega | (simp; done) | (simp; omega)))))
  have hz3 := hB3.size
  clear own3 hb3
  go_wp2_with (fail)
  refine (c_pred_Join 10 [(A, ca, a)] _ 1 _ (In.lit Kid.cells_len w3 [(A, ca, a)] 22 1 rfl (by simp)) ?_ (by have := Sl.out; omega)).mono ?_
  · intro o ho
    simp only [List.mem_cons, List.not_mem_nil, or_false] at ho
    rcases ho with rfl
    exact (HA.out.below hB3).alloc _
  rintro e w4 ⟨v4, rfl, own4, hb4⟩
  rw [Jm.out] at own4
  obtain ⟨A4, c4, rfl, in4⟩ := In.of_own Node.cells_len own4 (by omega)
  have I3 := Lib.hid ((in3.alloc (.cells #[.slice A a.length ca] 22)).below hb4)
  have I4 := Lib.hid in4
  have hB4 : Below w.heap.size w w4 := (by repeat (first | exact Below.refl _ _ | refine Below.drew ?_ | refine Below.alloc ?_ (by first | omega | (simp; done) | (simp; omega)) _ | refine Below.setCell ?_ (by first | omega | (simp; done) | (simp; omega)) _ | refine Below.trans ?_ (Below.mono (by assumption) (by first | omega | (simp; done) | (simp; omega)))))
  have HA4 := Lib.hid (HA.out.below hB4)
  have HB4 := Lib.hid (HB.out.below hB4)
  have hz4 := hB4.size
  have HB4' := Lib.hid hB4
  clear own4 hb4 in3 in4 hB3 hB2 hB4 hz1 hz2 hz3
  go_wp2_with (fail)
  refine (c_pred_End l A3 c3 0 _ I3.out).mono ?_
  rintro e w5 ⟨rfl, hb5⟩
  rw [El.out]
  go_wp2_with (fail)
  refine (c_pred_End m A4 c4 0 _ (I4.out.below hb5)).mono ?_
  rintro e w6 ⟨rfl, hb6⟩
  rw [Em.out]
  have hz5 := hb5.size
  have hz6 := hb6.size
  have hB6 : Below w4.heap.size w4 w6 := (by repeat (first | exact Below.refl _ _ | refine Below.drew ?_ | refine Below.alloc ?_ (by first | omega | (simp; done) | (simp; omega)) _ | refine Below.setCell ?_ (by first | omega | (simp; done) | (simp; omega)) _ | refine Below.trans ?_ (Below.mono (by assumption) (by first | omega | (simp; done) | (simp; omega)))))
  clear hb5 hb6
  go_wp2_with (fail)
  refine (c_pred_Depth a A ca _ (HA4.out.below hB6)).mono ?_
  rintro e w7 ⟨rfl, hb7⟩
  have hB7 : Below w4.heap.size w4 w7 := (by repeat (first | exact Below.refl _ _ | refine Below.drew ?_ | refine Below.alloc ?_ (by first | omega | (simp; done) | (simp; omega)) _ | refine Below.setCell ?_ (by first | omega | (simp; done) | (simp; omega)) _ | refine Below.trans ?_ (Below.mono (by assumption) (by first | omega | (simp; done) | (simp; omega)))))
  have hz7 := hB7.size
  clear hb7
  go_wp2_with (fail)
  refine (c_pred_Depth b B cb _ (HB4.out.below hB7)).mono ?_
  rintro e w8 ⟨rfl, hb8⟩
  have hB8 : Below w4.heap.size w4 w8 := (by repeat (first | exact Below.refl _ _ | refine Below.drew ?_ | refine Below.alloc ?_ (by first | omega | (simp; done) | (simp; omega)) _ | refine Below.setCell ?_ (by first | omega | (simp; done) | (simp; omega)) _ | refine Below.trans ?_ (Below.mono (by assumption) (by first | omega | (simp; done) | (simp; omega)))))
  have hz8 := hB8.size
  clear hb8 hB6 hB7 hz5 hz6
  have hcase : (31 < l.length ∧ Hid (check l = 4)) ∨ (¬ 31 < l.length ∧ 8 < max (depth a) (depth b) + 1 ∧ Hid (check l = 5)) ∨ (¬ 31 < l.length ∧ ¬ 8 < max (depth a) (depth b) + 1 ∧ Hid (check l = 0)) := by
    have hc := Cl.out
    by_cases h1 : 31 < l.length
    · rw [if_pos h1] at hc; exact .inl ⟨h1, hc⟩
    · rw [if_neg h1] at hc
      by_cases h2 : 8 < max (depth a) (depth b) + 1
      · rw [if_pos h2] at hc; exact .inr (.inl ⟨h1, h2, hc⟩)
      · rw [if_neg h2] at hc; exact .inr (.inr ⟨h1, h2, hc⟩)
  clear Cl
  rcases hcase with ⟨g1, CC⟩ | ⟨g1, g2, CC⟩ | ⟨g1, g2, CC⟩
  all_goals (
    go_wp2_with (fail)
    refine (c_pred_Kids l 0 A3 c3 _ (I3.out.below hB8) l0 [] (max da db) Tl.out).mono ?_
    rintro e w9 ⟨os, hmap, ⟨v9, rfl, own9, hb9⟩, hin9⟩
    rw [Kl.out] at hmap
    have hos : os.length = 2 := by have := congrArg List.length hmap; simpa using this
    obtain ⟨A9, c9, rfl, in9⟩ := In.of_own Kid.cells_len own9 (by omega)
    have hB9 : Below w4.heap.size w4 w9 := (by repeat (first | exact Below.refl _ _ | refine Below.drew ?_ | refine Below.alloc ?_ (by first | omega | (simp; done) | (simp; omega)) _ | refine Below.setCell ?_ (by first | omega | (simp; done) | (simp; omega)) _ | refine Below.trans ?_ (Below.mono (by assumption) (by first | omega | (simp; done) | (simp; omega)))))
    have hz9 := hB9.size
    have IN9 := Lib.hid in9
    have HI9 := Lib.hid hin9
    have HM9 := Lib.hid hmap
    clear own9 in9 hin9 hmap hb9 hB8 hz8 hz7
    clear hos
    go_wp2_with (fail)
    refine (c_ref10_Lists os [(A, ca, a), (B, cb, b)] A9 _ c9 2 _ (IN9.out.alloc _) (In.lit Kid.cells_len w9 [(A, ca, a), (B, cb, b)] 22 2 rfl (by simp)) (fun o ho => (HI9.out o ho).alloc _) ?_).mono ?_
    · intro o ho
      simp only [List.mem_cons, List.not_mem_nil, or_false] at ho
      rcases ho with rfl | rfl
      · exact (HA4.out.below hB9).alloc _
      · exact (HB4.out.below hB9).alloc _
    rintro e w10 ⟨rfl, hb10⟩
    rw [show decide (os.map (·.2.2) = ([(A, ca, a), (B, cb, b)] : List Kid).map (·.2.2)) = true by rw [HM9.out]; simp]
    have hB10 : Below w4.heap.size w4 w10 := (by repeat (first | exact Below.refl _ _ | refine Below.drew ?_ | refine Below.alloc ?_ (by first | omega | (simp; done) | (simp; omega)) _ | refine Below.setCell ?_ (by first | omega | (simp; done) | (simp; omega)) _ | refine Below.trans ?_ (Below.mono (by assumption) (by first | omega | (simp; done) | (simp; omega)))))
    have hz10 := hB10.size
    clear hb10 hB9 hz9
    go_wp2_with (fail)
    refine (c_pred_Kids m 0 A4 c4 _ (I4.out.below hB10) m0 [] da Tm.out).mono ?_
    rintro e w11 ⟨os2, hmap2, ⟨v11, rfl, own11, hb11⟩, hin11⟩
    rw [Km.out] at hmap2
    have hos2 : os2.length = 1 := by have := congrArg List.length hmap2; simpa using this
    obtain ⟨A11, c11, rfl, in11⟩ := In.of_own Kid.cells_len own11 (by omega)
    have hB11 : Below w4.heap.size w4 w11 := (by repeat (first | exact Below.refl _ _ | refine Below.drew ?_ | refine Below.alloc ?_ (by first | omega | (simp; done) | (simp; omega)) _ | refine Below.setCell ?_ (by first | omega | (simp; done) | (simp; omega)) _ | refine Below.trans ?_ (Below.mono (by assumption) (by first | omega | (simp; done) | (simp; omega)))))
    have hz11 := hB11.size
    have IN11 := Lib.hid in11
    have HI11 := Lib.hid hin11
    have HM11 := Lib.hid hmap2
    clear own11 in11 hin11 hmap2 hb11 hB10 hz10 hos2
    go_wp2_with (fail)
    refine (c_ref10_Lists os2 [(A, ca, a)] A11 _ c11 1 _ (IN11.out.alloc _) (In.lit Kid.cells_len w11 [(A, ca, a)] 22 1 rfl (by simp)) (fun o ho => (HI11.out o ho).alloc _) ?_).mono ?_
    · intro o ho
      simp only [List.mem_cons, List.not_mem_nil, or_false] at ho
      rcases ho with rfl
      exact (HA4.out.below hB11).alloc _
    rintro e w12 ⟨rfl, hb12⟩
    rw [show decide (os2.map (·.2.2) = ([(A, ca, a)] : List Kid).map (·.2.2)) = true by rw [HM11.out]; simp]
    have hB12 : Below w4.heap.size w4 w12 := (by repeat (first | exact Below.refl _ _ | refine Below.drew ?_ | refine Below.alloc ?_ (by first | omega | (simp; done) | (simp; omega)) _ | refine Below.setCell ?_ (by first | omega | (simp; done) | (simp; omega)) _ | refine Below.trans ?_ (Below.mono (by assumption) (by first | omega | (simp; done) | (simp; omega)))))
    have hz12 := hB12.size
    clear hb12 hB11 hz11
    go_wp2_with (fail)
    refine (c_pred_Depth l A3 c3 _ (I3.out.below hB12)).mono ?_
    rintro e w13 ⟨rfl, hb13⟩
    rw [Dl.out]
    have hB13 : Below w4.heap.size w4 w13 := (by repeat (first | exact Below.refl _ _ | refine Below.drew ?_ | refine Below.alloc ?_ (by first | omega | (simp; done) | (simp; omega)) _ | refine Below.setCell ?_ (by first | omega | (simp; done) | (simp; omega)) _ | refine Below.trans ?_ (Below.mono (by assumption) (by first | omega | (simp; done) | (simp; omega)))))
    have hz13 := hB13.size
    clear hb13 hB12 hz12
    go_wp2_with (fail)
    refine (c_pred_Check l A3 c3 _ (I3.out.below hB13) HSL.out).mono ?_
    rintro e w14 ⟨rfl, hb14⟩
    rw [CC.out]
    have hB14 : Below w4.heap.size w4 w14 := (by repeat (first | exact Below.refl _ _ | refine Below.drew ?_ | refine Below.alloc ?_ (by first | omega | (simp; done) | (simp; omega)) _ | refine Below.setCell ?_ (by first | omega | (simp; done) | (simp; omega)) _ | refine Below.trans ?_ (Below.mono (by assumption) (by first | omega | (simp; done) | (simp; omega)))))
    have hz14 := hB14.size
    clear hb14 hB13 hz13
    go_wp2_with (fail)
    refine (c_law10_awake _).mono ?_
    rintro e w15 ⟨rfl, hb15⟩
    have hB15 : Below w4.heap.size w4 w15 := (by repeat (first | exact Below.refl _ _ | refine Below.drew ?_ | refine Below.alloc ?_ (by first | omega | (simp; done) | (simp; omega)) _ | refine Below.setCell ?_ (by first | omega | (simp; done) | (simp; omega)) _ | refine Below.trans ?_ (Below.mono (by assumption) (by first | omega | (simp; done) | (simp; omega)))))
    clear hb15 hB14 hz14
    go_wp2_with (fail)
    go_ret
    exact RetV.bool rfl (HB4'.out.trans (hB15.mono hz4)))
theorem check_any (a : List Node) (A : Option Addr) (ca : Nat) (w : World) (hl : a.length ≤ ca) (hc : ca ≤ 9223372036854775807) (hr : a = [] ∨ ∃ b off, A = some ⟨b, off, none⟩ ∧ b < w.heap.size ∧ Row 5 Node.cells w b off a) (hs : ∀ x ∈ a, x.v.s.length ≤ 9223372036854775807) :
    ∃ ea : Int, (∀ w', Below w.heap.size w w' → Calls Try.prog 24 #[.slice A a.length ca] w' (RetV w' (.int .i64 ea))) ∧ (ea = 0 → InN w A ca a ∧ check a = 0) := by
  by_cases h : 31 < a.length
  · exact ⟨4, fun w' _ => c_ref10_Check_long a.length A ca w' h hl hc, fun e => by omega⟩
  · have hin : InN w A ca a := ⟨hl, hc, by omega, hr⟩
    exact ⟨check a, fun w' hb => c_ref10_Check a A ca w' (hin.below hb) hs, fun e => ⟨hin, e⟩⟩
end Go.Proofs.Ytoekhnppcakdnaa
