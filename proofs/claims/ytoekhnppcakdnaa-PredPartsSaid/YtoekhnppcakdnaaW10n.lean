/-
  The walk of the statement PredParts: it answers true, whatever the filter, the place and the other list.
-/
import Derived.Test.YtoekhnppcakdnaaW10m
namespace Go.Proofs.Ytoekhnppcakdnaa
open Go.RowKit

set_option maxHeartbeats 400000 in
theorem c_pred_Kids_out (n : Nat) (a : Int) (A : Option Addr) (c : Nat) (w : World) (hL : n ≤ c) (hC : c ≤ 9223372036854775807) (ha : a < 0 ∨ (n : Int) ≤ a) :
    Calls Try.prog 37 #[.slice A n c, .int .i64 a] w (RetV w (.slice none 0 0)) := by
  by_cases h1 : a < 0
  · clear ha
    go_enter Try.func37, Try.ntmps37
    go_wp2_with (fail)
    go_ret
    exact RetV.of rfl (by repeat (first | exact Below.refl _ _ | refine Below.drew ?_ | refine Below.alloc ?_ (by first | omega | (simp; done) | (simp; omega)) _ | refine Below.setCell ?_ (by first | omega | (simp; done) | (simp; omega)) _ | refine Below.trans ?_ (Below.mono (by assumption) (by first | omega | (simp; done) | (simp; omega)))))
  · have h2 : (n : Int) ≤ a := ha.resolve_left h1
    clear ha
    go_enter Try.func37, Try.ntmps37
    go_wp2_with (fail)
    go_ret
    exact RetV.of rfl (by repeat (first | exact Below.refl _ _ | refine Below.drew ?_ | refine Below.alloc ?_ (by first | omega | (simp; done) | (simp; omega)) _ | refine Below.setCell ?_ (by first | omega | (simp; done) | (simp; omega)) _ | refine Below.trans ?_ (Below.mono (by assumption) (by first | omega | (simp; done) | (simp; omega)))))
set_option maxHeartbeats 400000 in
theorem c_ref10_Kids_out (n : Nat) (a : Int) (A : Option Addr) (c : Nat) (w : World) (hL : n ≤ c) (hC : c ≤ 9223372036854775807) (ha : a < 0 ∨ (n : Int) ≤ a) :
    Calls Try.prog 43 #[.slice A n c, .int .i64 a] w (RetV w (.slice none 0 0)) := by
  by_cases h1 : a < 0
  · clear ha
    go_enter Try.func43, Try.ntmps43
    go_wp2_with (fail)
    go_ret
    exact RetV.of rfl (by repeat (first | exact Below.refl _ _ | refine Below.drew ?_ | refine Below.alloc ?_ (by first | omega | (simp; done) | (simp; omega)) _ | refine Below.setCell ?_ (by first | omega | (simp; done) | (simp; omega)) _ | refine Below.trans ?_ (Below.mono (by assumption) (by first | omega | (simp; done) | (simp; omega)))))
  · have h2 : (n : Int) ≤ a := ha.resolve_left h1
    clear ha
    go_enter Try.func43, Try.ntmps43
    go_wp2_with (fail)
    go_ret
    exact RetV.of rfl (by repeat (first | exact Below.refl _ _ | refine Below.drew ?_ | refine Below.alloc ?_ (by first | omega | (simp; done) | (simp; omega)) _ | refine Below.setCell ?_ (by first | omega | (simp; done) | (simp; omega)) _ | refine Below.trans ?_ (Below.mono (by assumption) (by first | omega | (simp; done) | (simp; omega)))))
/-- One of the two lists is large: va, vb the two lists, ba, bb whether Large says so. -/
theorem c_law10_PredParts_large (va vb : Value) (a : Int) (ba bb : Bool) (w : World) (ka : ∀ w', Below w.heap.size w w' → Calls Try.prog 15 #[va] w' (RetV w' (.bool ba)))
    (kb : ∀ w', Below w.heap.size w w' → Calls Try.prog 15 #[vb] w' (RetV w' (.bool bb))) (h : ba = true ∨ bb = true) :
    Calls Try.prog 8 #[va, .int .i64 a, vb] w (RetV w (.bool true)) := by
  have KA := Lib.hid ka
  have KB := Lib.hid kb
  clear ka kb
  cases ba with
  | false =>
    have h2 : bb = true := h.resolve_left (by simp)
    subst h2
    clear h
    go_enter Try.func8, Try.ntmps8
    go_wp2_with (fail)
    refine (KA.out w (Below.refl _ _)).mono ?_
    rintro e w1 ⟨rfl, hb1⟩
    go_wp2_with (fail)
    refine (KB.out w1 hb1).mono ?_
    rintro e w2 ⟨rfl, hb2⟩
    have hz1 := hb1.size
    have hz2 := hb2.size
    go_wp2_with (go_at_call 16; refine (c_law10_awake _).mono ?_; rintro e w3 ⟨rfl, hb3⟩)
    go_ret
    exact RetV.bool rfl (by repeat (first | exact Below.refl _ _ | refine Below.drew ?_ | refine Below.alloc ?_ (by first | omega | (simp; done) | (simp; omega)) _ | refine Below.setCell ?_ (by first | omega | (simp; done) | (simp; omega)) _ | refine Below.trans ?_ (Below.mono (by assumption) (by first | omega | (simp; done) | (simp; omega)))))
  | true =>
    clear h
    go_enter Try.func8, Try.ntmps8
    go_wp2_with (fail)
    refine (KA.out w (Below.refl _ _)).mono ?_
    rintro e w1 ⟨rfl, hb1⟩
    have hz1 := hb1.size
    go_wp2_with (go_at_call 16; refine (c_law10_awake _).mono ?_; rintro e w3 ⟨rfl, hb3⟩)
    go_ret
    exact RetV.bool rfl (by repeat (first | exact Below.refl _ _ | refine Below.drew ?_ | refine Below.alloc ?_ (by first | omega | (simp; done) | (simp; omega)) _ | refine Below.setCell ?_ (by first | omega | (simp; done) | (simp; omega)) _ | refine Below.trans ?_ (Below.mono (by assumption) (by first | omega | (simp; done) | (simp; omega)))))
set_option maxHeartbeats 4000000 in
set_option maxRecDepth 4000 in
theorem c_law10_PredParts (a b : List Node) (A B : Option Addr) (ca cb : Nat) (i : Int) (w : World) (ha : InN w A ca a) (hb : InN w B cb b) (la : large a = false) (lb : large b = false) :
    Calls Try.prog 8 #[.slice A a.length ca, .int .i64 i, .slice B b.length cb] w (RetV w (.bool true)) := by
  have hLa := ha.1
  have hCa := ha.2.1
  have hLb := hb.1
  have hCb := hb.2.1
  obtain ⟨na, sa⟩ := large_short la
  obtain ⟨nb, sb⟩ := large_short lb
  have hsa : ∀ x ∈ a, x.v.s.length ≤ 4294967296 := fun x hx => by have := sa x hx; omega
  have hsb : ∀ x ∈ b, x.v.s.length ≤ 4294967296 := fun x hx => by have := sb x hx; omega
  have hta : ∀ x ∈ a, x.v.s.length ≤ 9223372036854775807 := fun x hx => by have := sa x hx; omega
  have htb : ∀ x ∈ b, x.v.s.length ≤ 9223372036854775807 := fun x hx => by have := sb x hx; omega
  have HA := Lib.hid ha
  have HB := Lib.hid hb
  have HSA := Lib.hid hsa
  have HSB := Lib.hid hsb
  have HTA := Lib.hid hta
  have HTB := Lib.hid htb
  have LA := Lib.hid la
  have LB := Lib.hid lb
  have CN := Lib.hid (cmpL_neg a b)
  have hcb := cmpL_bd a b
  clear ha hb sa sb hsa hsb hta htb la lb
  go_enter Try.func8, Try.ntmps8
  go_wp2_with (fail)
  refine (c_law10_Large a A ca _ HA.out HTA.out).mono ?_
  rintro e w1 ⟨rfl, hb1⟩
  rw [LA.out]
  have hz1 := hb1.size
  go_wp2_with (fail)
  refine (c_law10_Large b B cb _ (HB.out.below hb1) HTB.out).mono ?_
  rintro e w2 ⟨rfl, hb2⟩
  rw [LB.out]
  have hB2 : Below w.heap.size w w2 := (by repeat (first | exact Below.refl _ _ | refine Below.drew ?_ | refine Below.alloc ?_ (by first | omega | (simp; done) | (simp; omega)) _ | refine Below.setCell ?_ (by first | omega | (simp; done) | (simp; omega)) _ | refine Below.trans ?_ (Below.mono (by assumption) (by first | omega | (simp; done) | (simp; omega)))))
  have hz2 := hB2.size
  clear hb1 hb2 hz1
  go_wp2_with (fail)
  refine (c_pred_Compare a b A B ca cb _ (HA.out.below hB2) (HB.out.below hB2)).mono ?_
  rintro e w3 ⟨rfl, hb3⟩
  have hB3 : Below w.heap.size w w3 := (by repeat (first | exact Below.refl _ _ | refine Below.drew ?_ | refine Below.alloc ?_ (by first | omega | (simp; done) | (simp; omega)) _ | refine Below.setCell ?_ (by first | omega | (simp; done) | (simp; omega)) _ | refine Below.trans ?_ (Below.mono (by assumption) (by first | omega | (simp; done) | (simp; omega)))))
  have hz3 := hB3.size
  clear hb3 hB2 hz2
  go_wp2_with (fail)
  refine (c_ref10_Compare a b A B ca cb _ (HA.out.below hB3) (HB.out.below hB3) HSA.out HSB.out).mono ?_
  rintro e w4 ⟨rfl, hb4⟩
  have hB4 : Below w.heap.size w w4 := (by repeat (first | exact Below.refl _ _ | refine Below.drew ?_ | refine Below.alloc ?_ (by first | omega | (simp; done) | (simp; omega)) _ | refine Below.setCell ?_ (by first | omega | (simp; done) | (simp; omega)) _ | refine Below.trans ?_ (Below.mono (by assumption) (by first | omega | (simp; done) | (simp; omega)))))
  have hz4 := hB4.size
  clear hb4 hB3 hz3
  go_wp2_with (fail)
  refine (c_pred_Compare b a B A cb ca _ (HB.out.below hB4) (HA.out.below hB4)).mono ?_
  rintro e w5 ⟨rfl, hb5⟩
  rw [CN.out]
  have hB5 : Below w.heap.size w w5 := (by repeat (first | exact Below.refl _ _ | refine Below.drew ?_ | refine Below.alloc ?_ (by first | omega | (simp; done) | (simp; omega)) _ | refine Below.setCell ?_ (by first | omega | (simp; done) | (simp; omega)) _ | refine Below.trans ?_ (Below.mono (by assumption) (by first | omega | (simp; done) | (simp; omega)))))
  have hz5 := hB5.size
  clear hb5 hB4 hz4
  go_wp2_with (fail)
  refine (c_ref10_Compare a b A B ca cb _ (HA.out.below hB5) (HB.out.below hB5) HSA.out HSB.out).mono ?_
  rintro e w6 ⟨rfl, hb6⟩
  have hB6 : Below w.heap.size w w6 := (by repeat (first | exact Below.refl _ _ | refine Below.drew ?_ | refine Below.alloc ?_ (by first | omega | (simp; done) | (simp; omega)) _ | refine Below.setCell ?_ (by first | omega | (simp; done) | (simp; omega)) _ | refine Below.trans ?_ (Below.mono (by assumption) (by first | omega | (simp; done) | (simp; omega)))))
  have hz6 := hB6.size
  clear hb6 hB5 hz5
  go_wp2_with (fail)
  refine (c_ref10_Check a A ca _ (HA.out.below hB6) HTA.out).mono ?_
  rintro e w7 ⟨rfl, hb7⟩
  have hB7 : Below w.heap.size w w7 := hB6.trans (hb7.mono hB6.size)
  have hz7 := hB7.size
  clear hb7 hB6 hz6
  by_cases oka : check a = 0
  case neg =>
    have bk : (check a != 0) = true := by simpa using oka
    clear oka
    go_wp2_with (fail)
    refine (c_law10_awake _).mono ?_
    rintro e w8 ⟨rfl, hb8⟩
    have hB8 : Below w.heap.size w w8 := hB7.trans (hb8.mono hB7.size)
    go_wp2_with (fail)
    go_ret
    exact RetV.bool rfl hB8
  have OKA := Lib.hid oka
  clear oka
  rw [OKA.out]
  go_wp2_with (fail)
  refine (c_ref10_Check b B cb _ (HB.out.below hB7) HTB.out).mono ?_
  rintro e w8 ⟨rfl, hb8⟩
  have hB8 : Below w.heap.size w w8 := hB7.trans (hb8.mono hB7.size)
  have hz8 := hB8.size
  clear hb8 hB7 hz7
  by_cases okb : check b = 0
  case neg =>
    have bk : (check b == 0) = false := by simpa using okb
    clear okb
    by_cases hi : i < 0 ∨ (a.length : Int) ≤ i
    · go_wp2_with (fail)
      refine (c_pred_Kids_out a.length i A ca _ hLa hCa hi).mono ?_
      rintro e w20 ⟨rfl, hb20⟩
      have hB20 : Below w.heap.size w w20 := hB8.trans (hb20.mono hB8.size)
      go_wp2_with (fail)
      refine (c_ref10_Kids_out a.length i A ca _ hLa hCa hi).mono ?_
      rintro e w21 ⟨rfl, hb21⟩
      have hB21 : Below w.heap.size w w21 := hB20.trans (hb21.mono hB20.size)
      go_wp2_with (fail)
      refine (c_ref10_Lists [] [] none none 0 0 _ (In.nil (by omega)) (In.nil (by omega)) (fun o ho => by cases ho) (fun o ho => by cases ho)).mono ?_
      rintro e w22 ⟨rfl, hb22⟩
      have hB22 : Below w.heap.size w w22 := hB21.trans (hb22.mono hB21.size)
      rw [show decide (([] : List Kid).map (·.2.2) = ([] : List Kid).map (·.2.2)) = true by simp]
      go_wp2_with (fail)
      refine (c_law10_awake _).mono ?_
      rintro e w23 ⟨rfl, hb23⟩
      have hB23 : Below w.heap.size w w23 := hB22.trans (hb23.mono hB22.size)
      go_wp2_with (fail)
      go_ret
      exact RetV.bool rfl hB23
    · obtain ⟨k, rfl⟩ : ∃ k : Nat, i = k := ⟨i.toNat, by omega⟩
      have hk : k < a.length := by omega
      obtain ⟨da, ta, _⟩ := tree_of_check OKA.out
      obtain ⟨mid, d', htr⟩ := Trees.parts_at ta k hk (by simp; omega)
      have HT := Lib.hid htr
      have hp2 := (parts_bd a[k].op).2
      have hcl : (cut (parts a[k].op).toNat (a.drop (k + 1))).length ≤ 2 := by rw [(cut_trees htr).1]; omega
      clear ta htr hi
      go_wp2_with (fail)
      refine (c_pred_Kids a k A ca _ (HA.out.below hB8) hk mid d' HT.out).mono ?_
      rintro e w20 ⟨os, hmap, ⟨v20, rfl, own20, hb20⟩, hin20⟩
      have hB20 : Below w.heap.size w w20 := hB8.trans (hb20.mono hB8.size)
      obtain ⟨A20, c20, rfl, in20⟩ := In.of_own Kid.cells_len own20 (by have := congrArg List.length hmap; rw [List.length_map] at this; omega)
      have IN20 := Lib.hid in20
      have HI20 := Lib.hid hin20
      have HM20 := Lib.hid hmap
      clear own20 in20 hin20 hmap
      go_wp2_with (fail)
      refine (c_ref10_Kids a k A ca _ (HA.out.below hB20) hk mid d' HT.out).mono ?_
      rintro e w21 ⟨os2, hmap, ⟨v21, rfl, own21, hb21⟩, hin21⟩
      have hB21 : Below w.heap.size w w21 := hB20.trans (hb21.mono hB20.size)
      obtain ⟨A21, c21, rfl, in21⟩ := In.of_own Kid.cells_len own21 (by have := congrArg List.length hmap; rw [List.length_map] at this; omega)
      have IN21 := Lib.hid in21
      have HI21 := Lib.hid hin21
      have HM21 := Lib.hid hmap
      have HBB := Lib.hid hb21
      clear own21 in21 hin21 hmap hb21
      go_wp2_with (fail)
      refine (c_ref10_Lists os os2 A20 A21 c20 c21 _ (IN20.out.below HBB.out) IN21.out (fun o ho => (HI20.out o ho).below HBB.out) HI21.out).mono ?_
      rintro e w22 ⟨rfl, hb22⟩
      have hB22 : Below w.heap.size w w22 := hB21.trans (hb22.mono hB21.size)
      rw [show decide (os.map (·.2.2) = os2.map (·.2.2)) = true by rw [HM20.out, HM21.out]; simp]
      go_wp2_with (fail)
      refine (c_law10_awake _).mono ?_
      rintro e w23 ⟨rfl, hb23⟩
      have hB23 : Below w.heap.size w w23 := hB22.trans (hb23.mono hB22.size)
      go_wp2_with (fail)
      go_ret
      exact RetV.bool rfl hB23
  have OKB := Lib.hid okb
  clear okb
  rw [OKB.out]
  have SL : Hid (sumLen ([(A, ca, a), (B, cb, b)] : List Kid) ≤ 4294967295) := by
    show _ ≤ _
    simp [sumLen]; omega
  have JL : Hid (joined 12 (([(A, ca, a), (B, cb, b)] : List Kid).flatMap (·.2.2)) = joined 12 (a ++ b)) := by show _ = _; simp
  have hjl : (joined 12 (a ++ b)).length ≤ 201 := by rw [joined_len, List.length_append]; omega
  go_wp2_with (fail)
  refine (c_pred_Join 12 [(A, ca, a), (B, cb, b)] _ 2 _ (In.lit Kid.cells_len w8 [(A, ca, a), (B, cb, b)] 22 2 rfl (by simp)) ?_ SL.out).mono ?_
  · intro o ho
    simp only [List.mem_cons, List.not_mem_nil, or_false] at ho
    rcases ho with rfl | rfl
    · exact (HA.out.below hB8).alloc _
    · exact (HB.out.below hB8).alloc _
  rintro e w9 ⟨v9, rfl, own9, hb9⟩
  rw [JL.out] at own9
  obtain ⟨A9, c9, rfl, in9⟩ := In.of_own Node.cells_len own9 (by omega)
  have hB9 : Below w.heap.size w w9 := (by repeat (first | exact Below.refl _ _ | refine Below.drew ?_ | refine Below.alloc ?_ (by first | omega | (simp; done) | (simp; omega)) _ | refine Below.setCell ?_ (by first | omega | (simp; done) | (simp; omega)) _ | refine Below.trans ?_ (Below.mono (by assumption) (by first | omega | (simp; done) | (simp; omega)))))
  have hz9 := hB9.size
  clear own9 hb9
  go_wp2_with (fail)
  refine (c_ref10_Join 12 [(A, ca, a), (B, cb, b)] _ 2 _ (In.lit Kid.cells_len w9 [(A, ca, a), (B, cb, b)] 22 2 rfl (by simp)) ?_ SL.out).mono ?_
  · intro o ho
    simp only [List.mem_cons, List.not_mem_nil, or_false] at ho
    rcases ho with rfl | rfl
    · exact (HA.out.below hB9).alloc _
    · exact (HB.out.below hB9).alloc _
  rintro e w10 ⟨v10, rfl, own10, hb10⟩
  rw [JL.out] at own10
  obtain ⟨A10, c10, rfl, in10⟩ := In.of_own Node.cells_len own10 (by omega)
  have I9 := Lib.hid ((in9.alloc (.cells #[.slice A a.length ca, .slice B b.length cb] 22)).below hb10)
  have I10 := Lib.hid in10
  have hB10 : Below w.heap.size w w10 := (by repeat (first | exact Below.refl _ _ | refine Below.drew ?_ | refine Below.alloc ?_ (by first | omega | (simp; done) | (simp; omega)) _ | refine Below.setCell ?_ (by first | omega | (simp; done) | (simp; omega)) _ | refine Below.trans ?_ (Below.mono (by assumption) (by first | omega | (simp; done) | (simp; omega)))))
  have hz10 := hB10.size
  clear own10 hb10 in9 in10 hB8 hB9 hz8 hz9
  go_wp2_with (fail)
  refine (c_ref10_Same (joined 12 (a ++ b)) (joined 12 (a ++ b)) A9 A10 c9 c10 _ I9.out I10.out).mono ?_
  rintro e w11 ⟨rfl, hb11⟩
  rw [show decide (joined 12 (a ++ b) = joined 12 (a ++ b)) = true by simp]
  have hB11 : Below w.heap.size w w11 := (by repeat (first | exact Below.refl _ _ | refine Below.drew ?_ | refine Below.alloc ?_ (by first | omega | (simp; done) | (simp; omega)) _ | refine Below.setCell ?_ (by first | omega | (simp; done) | (simp; omega)) _ | refine Below.trans ?_ (Below.mono (by assumption) (by first | omega | (simp; done) | (simp; omega)))))
  have hz11 := hB11.size
  clear hb11 hB10 hz10
  by_cases hi : i < 0 ∨ (a.length : Int) ≤ i
  · go_wp2_with (fail)
    refine (c_pred_Kids_out a.length i A ca _ hLa hCa hi).mono ?_
    rintro e w20 ⟨rfl, hb20⟩
    have hB20 : Below w.heap.size w w20 := hB11.trans (hb20.mono hB11.size)
    go_wp2_with (fail)
    refine (c_ref10_Kids_out a.length i A ca _ hLa hCa hi).mono ?_
    rintro e w21 ⟨rfl, hb21⟩
    have hB21 : Below w.heap.size w w21 := hB20.trans (hb21.mono hB20.size)
    go_wp2_with (fail)
    refine (c_ref10_Lists [] [] none none 0 0 _ (In.nil (by omega)) (In.nil (by omega)) (fun o ho => by cases ho) (fun o ho => by cases ho)).mono ?_
    rintro e w22 ⟨rfl, hb22⟩
    have hB22 : Below w.heap.size w w22 := hB21.trans (hb22.mono hB21.size)
    rw [show decide (([] : List Kid).map (·.2.2) = ([] : List Kid).map (·.2.2)) = true by simp]
    go_wp2_with (fail)
    refine (c_law10_awake _).mono ?_
    rintro e w23 ⟨rfl, hb23⟩
    have hB23 : Below w.heap.size w w23 := hB22.trans (hb23.mono hB22.size)
    go_wp2_with (fail)
    go_ret
    exact RetV.bool rfl hB23
  · obtain ⟨k, rfl⟩ : ∃ k : Nat, i = k := ⟨i.toNat, by omega⟩
    have hk : k < a.length := by omega
    obtain ⟨da, ta, _⟩ := tree_of_check OKA.out
    obtain ⟨mid, d', htr⟩ := Trees.parts_at ta k hk (by simp; omega)
    have HT := Lib.hid htr
    have hp2 := (parts_bd a[k].op).2
    have hcl : (cut (parts a[k].op).toNat (a.drop (k + 1))).length ≤ 2 := by rw [(cut_trees htr).1]; omega
    clear ta htr hi
    go_wp2_with (fail)
    refine (c_pred_Kids a k A ca _ (HA.out.below hB11) hk mid d' HT.out).mono ?_
    rintro e w20 ⟨os, hmap, ⟨v20, rfl, own20, hb20⟩, hin20⟩
    have hB20 : Below w.heap.size w w20 := hB11.trans (hb20.mono hB11.size)
    obtain ⟨A20, c20, rfl, in20⟩ := In.of_own Kid.cells_len own20 (by have := congrArg List.length hmap; rw [List.length_map] at this; omega)
    have IN20 := Lib.hid in20
    have HI20 := Lib.hid hin20
    have HM20 := Lib.hid hmap
    clear own20 in20 hin20 hmap
    go_wp2_with (fail)
    refine (c_ref10_Kids a k A ca _ (HA.out.below hB20) hk mid d' HT.out).mono ?_
    rintro e w21 ⟨os2, hmap, ⟨v21, rfl, own21, hb21⟩, hin21⟩
    have hB21 : Below w.heap.size w w21 := hB20.trans (hb21.mono hB20.size)
    obtain ⟨A21, c21, rfl, in21⟩ := In.of_own Kid.cells_len own21 (by have := congrArg List.length hmap; rw [List.length_map] at this; omega)
    have IN21 := Lib.hid in21
    have HI21 := Lib.hid hin21
    have HM21 := Lib.hid hmap
    have HBB := Lib.hid hb21
    clear own21 in21 hin21 hmap hb21
    go_wp2_with (fail)
    refine (c_ref10_Lists os os2 A20 A21 c20 c21 _ (IN20.out.below HBB.out) IN21.out (fun o ho => (HI20.out o ho).below HBB.out) HI21.out).mono ?_
    rintro e w22 ⟨rfl, hb22⟩
    have hB22 : Below w.heap.size w w22 := hB21.trans (hb22.mono hB21.size)
    rw [show decide (os.map (·.2.2) = os2.map (·.2.2)) = true by rw [HM20.out, HM21.out]; simp]
    go_wp2_with (fail)
    refine (c_law10_awake _).mono ?_
    rintro e w23 ⟨rfl, hb23⟩
    have hB23 : Below w.heap.size w w23 := hB22.trans (hb23.mono hB22.size)
    go_wp2_with (fail)
    go_ret
    exact RetV.bool rfl hB23
end Go.Proofs.Ytoekhnppcakdnaa
