/-
  Lemmas (walks and plain laws), in one text.
-/
import Derived.Test.YtbidnflcbgnckaaPt3
import Derived.Test.YtbidnflcbgnckaaPt4
import Derived.Test.YtbidnflcbgnckaaPt5
namespace Go.Proofs.Ytbidnflcbgnckaa
open Go.RowKit

/-- The reference's join of one list, of two, laid in a new row. -/
theorem join_litR (op : Int) (os : List Kid) (w1 w2 : World) (hk : ∀ o ∈ os, InN w1 o.1 o.2.1 o.2.2) (h : w2 = w1.alloc (.cells (os.flatMap Kid.cells).toArray 23)) (hl : os.length ≤ 4294967296) (hs : sumLen os ≤ 4294967295) (hj : (joined op (os.flatMap (·.2.2))).length ≤ 4294967296) :
    Calls Try.prog 35 #[.int .i64 op, .slice (some ⟨w1.heap.size, 0, none⟩) os.length os.length] w2 (RetL w1 (joined op (os.flatMap (·.2.2)))) := by
  have b1 : Below w1.heap.size w1 w2 := by rw [h]; exact (by repeat (first | exact Below.refl _ _ | refine Below.drew ?_ | refine Below.alloc ?_ (by first | omega | (simp; done) | (simp; omega)) _ | refine Below.setCell ?_ (by first | omega | (simp; done) | (simp; omega)) _ | refine Below.trans ?_ (Below.mono (by assumption) (by first | omega | (simp; done) | (simp; omega)))))
  have s1 := b1.size
  refine (c_ref10_Join op os _ os.length w2 (by rw [h]; exact In.lit (k := 1) (cs := Kid.cells) Kid.cells_len w1 os _ _ rfl hl) (fun o ho => (hk o ho).below b1) hs).mono ?_
  rintro e w3 ⟨v, rfl, own, hb⟩
  obtain ⟨g, c, rfl, hg, hi⟩ := own_in5 own (by simp [joined]) hj
  exact ⟨_, _, rfl, b1.trans (hb.mono s1), hi, fun ad e => by injection e with e; subst e; show w1.heap.size ≤ g; omega⟩
theorem StL.not {L : List Wd} {x : PR (List Node)} {l : List Node} {J : Nat} {p e : Int} (h : StL L x l J p e) : StL L (pNot x) (joined 10 l) J p e := by
  cases x with
  | ok a r => obtain ⟨rfl, rfl, h3, h4, h5⟩ := h; exact ⟨rfl, rfl, h3, h4, h5⟩
  | bad a r => exact h
theorem StL.zero {α : Type} {L : List Wd} {x : PR α} {l : α} {J : Nat} {p : Int} (h : StL L x l J p 0) : x = .ok l (L.drop J) ∧ p = 0 ∧ J ≤ L.length := by
  cases x with
  | ok a r => obtain ⟨rfl, rfl, h3, h4, h5⟩ := h; exact ⟨rfl, h3, h5⟩
  | bad a r => exact absurd rfl h.2.2
theorem StL.some {α : Type} {L : List Wd} {x : PR α} {l : α} {J : Nat} {p e : Int} (h : StL L x l J p e) (he : e ≠ 0) : x = .bad p e := by
  cases x with
  | ok a r => exact absurd h.2.2.2.1 he
  | bad a r => obtain ⟨rfl, rfl, -⟩ := h; rfl
theorem StL.ok {α : Type} {L : List Wd} {l : α} {J : Nat} (h : J ≤ L.length) : StL L (.ok l (L.drop J)) l J 0 0 := ⟨rfl, rfl, rfl, rfl, h⟩
theorem StL.bad {α : Type} {L : List Wd} {l : α} {J : Nat} {p e : Int} (h : e ≠ 0) : StL L (.bad p e) l J p e := ⟨rfl, rfl, h⟩
theorem drop_one (L : List Wd) (J : Nat) : (L.drop J).drop 1 = L.drop (J + 1) := by simp [List.drop_drop]
theorem one_not {N : Int} {f : Nat} {L : List Wd} {I : Nat} (h : isW 1 sNot (L.drop I) = true) : pOne N (f + 1) (L.drop I) = pNot (pOne N f (L.drop (I + 1))) := by
  have hJ := isW_at h
  rw [drop_at (show I < L.length by omega)] at h ⊢
  simp only [isW, Bool.and_eq_true, decide_eq_true_eq] at h
  exact pOne_not N f _ _ h.1 h.2
theorem one_open {N : Int} {f : Nat} {L : List Wd} {I : Nat} (h : isW 4 [40] (L.drop I) = true) : pOne N (f + 1) (L.drop I) = pClose N (pAny N f (L.drop (I + 1))) := by
  have hJ := isW_at h
  rw [drop_at (show I < L.length by omega)] at h ⊢
  simp only [isW, Bool.and_eq_true, decide_eq_true_eq] at h
  exact pOne_open N f _ _ h
theorem one_bad {N : Int} {f : Nat} {x : Wd} {r : List Wd} (h : isW 4 [40] (x :: r) = false) (hk : x.kind ≠ 1) : pOne N (f + 1) (x :: r) = .bad x.pos 3 := by
  simp only [isW, Bool.and_eq_false_iff, decide_eq_false_iff_not] at h
  exact pOne_bad N f x r hk (by rintro ⟨a, b⟩; rcases h with h | h; exact h a; exact h b)
theorem one_word {N : Int} {f : Nat} {x : Wd} {r : List Wd} (h : isW 1 sNot (x :: r) = false) (hk : x.kind = 1) : pOne N (f + 1) (x :: r) = pWord N x r := by
  simp only [isW, Bool.and_eq_false_iff, decide_eq_false_iff_not] at h
  exact pOne_word N f x r hk (by rcases h with h | h; exact absurd hk h; exact h)
theorem StL.close {N : Int} {L : List Wd} {x : PR (List Node)} {l : List Node} {J : Nat} {p e : Int} (h : StL L x l J p e) (he : e ≠ 0) (m : List Node) (K : Nat) : StL L (pClose N x) m K p e := by
  rw [h.some he]; exact .bad he
theorem StL.close0 {N : Int} {L : List Wd} {x : PR (List Node)} {l : List Node} {J : Nat} {p : Int} (h : StL L x l J p 0) (hw : isW 4 [41] (L.drop J) = true) : StL L (pClose N x) l (J + 1) p 0 := by
  obtain ⟨rfl, rfl, -⟩ := h.zero
  unfold pClose
  simp only
  rw [if_pos hw, drop_one]
  exact .ok (isW_at hw)
theorem StL.close3 {N : Int} {L : List Wd} {x : PR (List Node)} {l : List Node} {J : Nat} {p : Int} (h : StL L x l J p 0) (hw : isW 4 [41] (L.drop J) = false) (m : List Node) (K : Nat) : StL L (pClose N x) m K (posW N (L.drop J)) 3 := by
  obtain ⟨rfl, rfl, -⟩ := h.zero
  unfold pClose
  simp only
  rw [if_neg (by rw [hw]; simp)]
  exact .bad (by decide)
theorem StL.leaf {N below : Int} {op : Int} {L : List Wd} {I J : Nat} {n p e : Int} (h : StL L (pNum N below (L.drop I)) n J p e) : StL L (pLeaf N op below (L.drop I)) (nd op n zv) J p e := by
  unfold pLeaf
  cases hp : pNum N below (L.drop I) with
  | ok a r => rw [hp] at h; obtain ⟨rfl, rfl, h3, h4, h5⟩ := h; exact ⟨rfl, rfl, h3, h4, h5⟩
  | bad a r => rw [hp] at h; exact h
def OneR (N : Int) (f : Nat) : Prop := ∀ (L : List Wd) (I b : Nat) (w : World), Rst w b L N I 0 0 → I ≤ L.length → L.length ≤ 100000 → 4 * (L.drop I).length + 1 ≤ f → Calls Try.prog 56 #[.pointer (some ⟨b, 0, none⟩)] w (RetQ w b L N (L.drop I).length ((L.drop I).length + 1) (pOne N f (L.drop I)))
def AllR (N : Int) (f : Nat) : Prop := ∀ (L : List Wd) (I b : Nat) (w : World), Rst w b L N I 0 0 → I ≤ L.length → L.length ≤ 100000 → 4 * (L.drop I).length + 2 ≤ f → Calls Try.prog 33 #[.pointer (some ⟨b, 0, none⟩)] w (RetQ w b L N (L.drop I).length ((L.drop I).length + 1) (pAll N f (L.drop I)))
def AnyR (N : Int) (f : Nat) : Prop := ∀ (L : List Wd) (I b : Nat) (w : World), Rst w b L N I 0 0 → I ≤ L.length → L.length ≤ 100000 → 4 * (L.drop I).length + 3 ≤ f → Calls Try.prog 15 #[.pointer (some ⟨b, 0, none⟩)] w (RetQ w b L N (L.drop I).length ((L.drop I).length + 1) (pAny N f (L.drop I)))
theorem field_end0 {w W : World} {b : Nat} {L : List Wd} {N op n : Int} {v : Val} {J n' m' z : Nat} {p e : Int} {x : PR (List Node)} (K : Kept (some b) w.heap.size w W) (R : Rst W b L N J p e) (hJ : J ≤ L.length + m') (hn : 1 ≤ n') (S : StL L x (nd op n v) J p e) (hz : z = W.heap.size) :
    RetQ w b L N n' m' x (.returned (.slice (some ⟨z, 0, none⟩) 1 1)) (W.alloc (.cells #[.int .i64 op, .int .i64 n, .int .i64 v.kind, .int .i64 v.n, .string (str v.s)] 41)) := by
  subst hz
  have hb : Below W.heap.size W (W.alloc (.cells #[.int .i64 op, .int .i64 n, .int .i64 v.kind, .int .i64 v.n, .string (str v.s)] 41)) := (by repeat (first | exact Below.refl _ _ | refine Below.drew ?_ | refine Below.alloc ?_ (by first | omega | (simp; done) | (simp; omega)) _ | refine Below.setCell ?_ (by first | omega | (simp; done) | (simp; omega)) _ | refine Below.trans ?_ (Below.mono (by assumption) (by first | omega | (simp; done) | (simp; omega)))))
  have i1 := InN.lit W (nd op n v) 41 1 rfl (by simp [nd])
  have hl := R.lt
  exact ⟨nd op n v, _, J, p, e, rfl, ⟨_, 1, rfl, i1, fun ad e => by injection e with e; subst e; show W.heap.size ≠ b; omega⟩, K.then_below hb K.size, R.below hb, hJ, by simpa [nd] using hn, S⟩
theorem RetQ.mono {w : World} {b : Nat} {L : List Wd} {N : Int} {n m n' m' : Nat} {x : PR (List Node)} {en : Ending} {w' : World} (h : RetQ w b L N n m x en w') (hn : n ≤ n') (hm : m ≤ m') : RetQ w b L N n' m' x en w' := by
  obtain ⟨l, v, J, p, e, h1, h2, h3, h4, h5, h6, h7⟩ := h
  exact ⟨l, v, J, p, e, h1, h2, h3, h4, by omega, by omega, h7⟩
set_option maxRecDepth 10000 in
set_option maxHeartbeats 8000000 in
theorem oneR_of_any (N : Int) (f : Nat) (IH1 : ∀ f' ≤ f, OneR N f') (IH2 : ∀ f' ≤ f, AnyR N f') : OneR N (f + 1) := by
  intro L I b w h hIL hLL hf
  have hLI : (L.drop I).length = L.length - I := List.length_drop
  have R0 := Lib.hid h
  have K0 := Lib.hid (Kept.refl (some b) w.heap.size w)
  obtain ⟨A, c, hB, hI, hA⟩ := h
  have r3 := hB.cell (i := 3) rfl
  clear hB hI hA
  go_enter Try.func56, Try.ntmps56
  go_wp2_with (fail)
  clear r3
  -- 1 kind, [110, 111, 116] the text, 0 the world's number ahead, 1 behind
  refine (c_ref11_is 1 [110, 111, 116] L N I 0 0 b _ R0.out).mono ?_
  rintro e1 w1 ⟨rfl, hb2⟩
  have R1 := Lib.hid (R0.out.below hb2)
  have K1 := Lib.hid (K0.out.then_below hb2 K0.out.size)
  clear hb2
  cases hc : isW 1 [110, 111, 116] (L.drop I) with
  | true =>
    have PN := Lib.hid (one_not (N := N) (f := f) hc)
    have hJ1 := isW_at hc
    clear hc
    -- 1 the world's number ahead, 2 behind, I the place ahead, J2 its name behind, 0 the place, 0 the error,  what is walked on
    obtain ⟨A, c, hB, hI, hA⟩ := R1.out
    have r1 := hB.cell (i := 1) rfl
    have z1 := hB.frozen 1
    obtain ⟨J2, hJ2⟩ : ∃ x, x = I + 1 := ⟨_, rfl⟩
    obtain ⟨w2, hw6⟩ : ∃ w6, w6 = w1.setCell ⟨b, 1, none⟩ (.int .i64 ((I : Int) + 1)) := ⟨_, rfl⟩
    have R2 := Lib.hid (show Rst w2 b L N J2 0 0 by rw [hw6, show ((I : Int) + 1) = ((J2 : Nat) : Int) by omega]; exact R1.out.next J2)
    have K2 := Lib.hid (show Kept (some b) w.heap.size w w2 by rw [hw6]; exact K1.out.setCell (q := ⟨b, 1, none⟩) (.inr rfl) _)
    have KS2 := Lib.hid (show Kept (some b) w1.heap.size w1 w2 by rw [hw6]; exact kept_set _ _ _ _)
    have HJ2 := Lib.hid hJ2
    have HZ := Lib.hid (show w1.heap.size = w2.heap.size by rw [hw6]; simp [World.setCell])
    clear hB hI hA hJ2
    go_wp2_with (fail)
    rw [← hw6]
    clear hw6 r1 z1
    refine (IH1 f (Nat.le_refl _) L J2 b _ R2.out (by have := HJ2.out; omega) hLL (by have := HJ2.out; rw [List.length_drop]; omega)).mono ?_
    -- 3 the world's number behind the call; 2 the one ahead
    rintro e3 w3 ⟨l, v, J, p, e, rfl, ⟨A0, c0, rfl, j1, j2⟩, k3, q3, hJ, hl, s3⟩
    rw [List.length_drop] at hJ hl
    have K3 := Lib.hid (K2.out.then_kept k3 K2.out.size)
    have R3 := Lib.hid q3
    have V3 := Lib.hid j1
    have U3 := Lib.hid j2
    have S3 := Lib.hid s3
    clear k3 q3 j1 j2 s3
    go_wp2_with (fail)
    have hx := HJ2.out
    refine (join_litR 10 [(A0, c0, l)] w3 _ (fun o ho => by rw [List.mem_singleton.1 ho]; exact V3.out) rfl (by simp) (by simp [sumLen]; omega) (by simp [joined]; omega)).mono ?_
    clear hx
    rintro e4 w4 ⟨A4, c4, rfl, hb4, i4', hA4⟩
    rw [show ([(A0, c0, l)] : List Kid).flatMap (·.2.2) = l by simp] at i4' ⊢
    have K4 := Lib.hid (K3.out.then_below hb4 K3.out.size)
    have R4 := Lib.hid (R3.out.below hb4)
    have I4 := Lib.hid i4'
    have HA4 := Lib.hid hA4
    have hz := R3.out.lt
    clear hb4 i4' hA4
    go_wp2_with (fail)
    go_ret
    have hx := HJ2.out
    rw [PN.out, ← hx]
    exact ⟨joined 10 l, _, J, p, e, rfl, ⟨A4, c4, rfl, I4.out, fun ad e => by have := HA4.out ad e; omega⟩, K4.out, R4.out, by omega, by rw [joined_lenP]; omega, S3.out.not⟩
  | false =>
    have C1 := Lib.hid hc
    clear hc
    go_wp2_with (fail)
    -- 4 kind, [40] the text, 1 the world's number ahead, 2 behind
    refine (c_ref11_is 4 [40] L N I 0 0 b _ R1.out).mono ?_
    rintro e1 w2 ⟨rfl, hb2⟩
    have R2 := Lib.hid (R1.out.below hb2)
    have K2 := Lib.hid (K1.out.then_below hb2 K1.out.size)
    clear hb2
    cases hc : isW 4 [40] (L.drop I) with
    | true =>
      have PN := Lib.hid (one_open (N := N) (f := f) hc)
      have hJ1 := isW_at hc
      clear hc
      -- 2 the world's number ahead, 3 behind, I the place ahead, J2 its name behind, 0 the place, 0 the error,  what is walked on
      obtain ⟨A, c, hB, hI, hA⟩ := R2.out
      have r1 := hB.cell (i := 1) rfl
      have z1 := hB.frozen 1
      obtain ⟨J2, hJ2⟩ : ∃ x, x = I + 1 := ⟨_, rfl⟩
      obtain ⟨w3, hw6⟩ : ∃ w6, w6 = w2.setCell ⟨b, 1, none⟩ (.int .i64 ((I : Int) + 1)) := ⟨_, rfl⟩
      have R3 := Lib.hid (show Rst w3 b L N J2 0 0 by rw [hw6, show ((I : Int) + 1) = ((J2 : Nat) : Int) by omega]; exact R2.out.next J2)
      have K3 := Lib.hid (show Kept (some b) w.heap.size w w3 by rw [hw6]; exact K2.out.setCell (q := ⟨b, 1, none⟩) (.inr rfl) _)
      have KS3 := Lib.hid (show Kept (some b) w2.heap.size w2 w3 by rw [hw6]; exact kept_set _ _ _ _)
      have HJ2 := Lib.hid hJ2
      have HZ := Lib.hid (show w2.heap.size = w3.heap.size by rw [hw6]; simp [World.setCell])
      clear hB hI hA hJ2
      go_wp2_with (fail)
      rw [← hw6]
      clear hw6 r1 z1
      refine (IH2 f (Nat.le_refl _) L J2 b _ R3.out (by have := HJ2.out; omega) hLL (by have := HJ2.out; rw [List.length_drop]; omega)).mono ?_
      -- 4 the world's number behind the call; 3 the one ahead
      rintro e3 w4 ⟨l, v, J, p, e, rfl, ⟨A0, c0, rfl, j1, j2⟩, k3, q3, hJ, hl, s3⟩
      rw [List.length_drop] at hJ hl
      have K4 := Lib.hid (K3.out.then_kept k3 K3.out.size)
      have R4 := Lib.hid q3
      have V4 := Lib.hid j1
      have U4 := Lib.hid j2
      have S4 := Lib.hid s3
      clear k3 q3 j1 j2 s3
      obtain ⟨A, c, hB, hI, hA⟩ := R4.out
      have r3 := hB.cell (i := 3) rfl
      clear hB hI hA
      have hJB : J ≤ 1000000 := by have := HJ2.out; omega
      by_cases he : e = 0
      · subst he
        go_wp2_with (fail)
        clear r3
        refine (c_ref11_is 4 [41] L N J p 0 b _ R4.out).mono ?_
        rintro e1 w5 ⟨rfl, hb2⟩
        have R5 := Lib.hid (R4.out.below hb2)
        have K5 := Lib.hid (K4.out.then_below hb2 K4.out.size)
        have V5 := Lib.hid (V4.out.below hb2)
        clear hb2
        cases hc : isW 4 [41] (L.drop J) with
        | true =>
          have PS := Lib.hid (StL.close0 (N := N) S4.out hc)
          clear hc
          -- 5 the world's number ahead, 6 behind, J the place ahead, J3 its name behind, p the place, 0 the error,  what is walked on
          obtain ⟨A, c, hB, hI, hA⟩ := R5.out
          have r1 := hB.cell (i := 1) rfl
          have z1 := hB.frozen 1
          obtain ⟨J3, hJ2⟩ : ∃ x, x = J + 1 := ⟨_, rfl⟩
          obtain ⟨w6, hw6⟩ : ∃ w6, w6 = w5.setCell ⟨b, 1, none⟩ (.int .i64 ((J : Int) + 1)) := ⟨_, rfl⟩
          have R6 := Lib.hid (show Rst w6 b L N J3 p 0 by rw [hw6, show ((J : Int) + 1) = ((J3 : Nat) : Int) by omega]; exact R5.out.next J3)
          have K6 := Lib.hid (show Kept (some b) w.heap.size w w6 by rw [hw6]; exact K5.out.setCell (q := ⟨b, 1, none⟩) (.inr rfl) _)
          have KS6 := Lib.hid (show Kept (some b) w5.heap.size w5 w6 by rw [hw6]; exact kept_set _ _ _ _)
          have HJ3 := Lib.hid hJ2
          have HZ := Lib.hid (show w5.heap.size = w6.heap.size by rw [hw6]; simp [World.setCell])
          clear hB hI hA hJ2
          go_wp2_with (fail)
          rw [← hw6]
          clear hw6 r1 z1
          go_ret
          have V6 := Lib.hid (V5.out.kept4 U4.out KS6.out)
          -- 6 the world's number, J3 the place's name, p the position, 0 the error, by rw [HJ3.out]; exact PS.out what stands
          exact ⟨l, _, J3, p, 0, rfl, ⟨A0, c0, rfl, V6.out, U4.out⟩, K6.out, R6.out, by have := HJ2.out; have := HJ3.out; omega, by have := HJ2.out; omega, by rw [PN.out, ← HJ2.out]; exact by rw [HJ3.out]; exact PS.out⟩
        | false =>
          have PS := Lib.hid (fun K => StL.close3 (N := N) S4.out hc l K)
          clear hc
          go_wp2_with (fail)
          refine (c_ref11_place L N J p 0 b _ R5.out).mono ?_
          rintro e5 w7 ⟨rfl, hb3⟩
          have R7 := Lib.hid (R5.out.below hb3)
          have K7 := Lib.hid (K5.out.then_below hb3 K5.out.size)
          have V7 := Lib.hid (V5.out.below hb3)
          clear hb3
          go_wp2_with (fail)
          refine (c_ref11_fail L N J b p 0 _ 3 _ R7.out).mono ?_
          rintro e9 w8 ⟨rfl, k9, q9⟩
          have K8 := Lib.hid (K7.out.then_kept k9 K7.out.size)
          have R8 := Lib.hid (show Rst w8 b L N J (posW N (L.drop J)) 3 by simpa using q9)
          have V8 := Lib.hid (V7.out.kept4 U4.out k9)
          clear k9 q9
          -- 8 the world's number ahead, 9 behind, J the place ahead, J3 its name behind, (posW N (L.drop J)) the place, 3 the error,  what is walked on
          obtain ⟨A, c, hB, hI, hA⟩ := R8.out
          have r1 := hB.cell (i := 1) rfl
          have z1 := hB.frozen 1
          obtain ⟨J3, hJ2⟩ : ∃ x, x = J + 1 := ⟨_, rfl⟩
          obtain ⟨w9, hw6⟩ : ∃ w6, w6 = w8.setCell ⟨b, 1, none⟩ (.int .i64 ((J : Int) + 1)) := ⟨_, rfl⟩
          have R9 := Lib.hid (show Rst w9 b L N J3 (posW N (L.drop J)) 3 by rw [hw6, show ((J : Int) + 1) = ((J3 : Nat) : Int) by omega]; exact R8.out.next J3)
          have K9 := Lib.hid (show Kept (some b) w.heap.size w w9 by rw [hw6]; exact K8.out.setCell (q := ⟨b, 1, none⟩) (.inr rfl) _)
          have KS9 := Lib.hid (show Kept (some b) w8.heap.size w8 w9 by rw [hw6]; exact kept_set _ _ _ _)
          have HJ3 := Lib.hid hJ2
          have HZ := Lib.hid (show w8.heap.size = w9.heap.size by rw [hw6]; simp [World.setCell])
          clear hB hI hA hJ2
          go_wp2_with (fail)
          rw [← hw6]
          clear hw6 r1 z1
          go_ret
          have V9 := Lib.hid (V8.out.kept4 U4.out KS9.out)
          -- 9 the world's number, J3 the place's name, _ the position, 3 the error, PS.out _ what stands
          exact ⟨l, _, J3, _, 3, rfl, ⟨A0, c0, rfl, V9.out, U4.out⟩, K9.out, R9.out, by have := HJ2.out; have := HJ3.out; omega, by have := HJ2.out; omega, by rw [PN.out, ← HJ2.out]; exact PS.out _⟩
      · have be : (e == 0) = false := by simpa using he
        have PS := Lib.hid (fun K => StL.close (N := N) S4.out he l K)
        clear he
        -- 4 the world's number ahead, 5 behind, J the place ahead, J3 its name behind, p the place, e the error,  what is walked on
        obtain ⟨A, c, hB, hI, hA⟩ := R4.out
        have r1 := hB.cell (i := 1) rfl
        have z1 := hB.frozen 1
        obtain ⟨J3, hJ2⟩ : ∃ x, x = J + 1 := ⟨_, rfl⟩
        obtain ⟨w5, hw6⟩ : ∃ w6, w6 = w4.setCell ⟨b, 1, none⟩ (.int .i64 ((J : Int) + 1)) := ⟨_, rfl⟩
        have R5 := Lib.hid (show Rst w5 b L N J3 p e by rw [hw6, show ((J : Int) + 1) = ((J3 : Nat) : Int) by omega]; exact R4.out.next J3)
        have K5 := Lib.hid (show Kept (some b) w.heap.size w w5 by rw [hw6]; exact K4.out.setCell (q := ⟨b, 1, none⟩) (.inr rfl) _)
        have KS5 := Lib.hid (show Kept (some b) w4.heap.size w4 w5 by rw [hw6]; exact kept_set _ _ _ _)
        have HJ3 := Lib.hid hJ2
        have HZ := Lib.hid (show w4.heap.size = w5.heap.size by rw [hw6]; simp [World.setCell])
        clear hB hI hA hJ2
        go_wp2_with (fail)
        rw [← hw6]
        clear hw6 r1 z1
        go_ret
        have V5 := Lib.hid (V4.out.kept4 U4.out KS5.out)
        -- 5 the world's number, J3 the place's name, p the position, e the error, PS.out _ what stands
        exact ⟨l, _, J3, p, e, rfl, ⟨A0, c0, rfl, V5.out, U4.out⟩, K5.out, R5.out, by have := HJ2.out; have := HJ3.out; omega, by have := HJ2.out; omega, by rw [PN.out, ← HJ2.out]; exact PS.out _⟩
    | false =>
      have C2 := Lib.hid hc
      clear hc
      go_wp2_with (fail)
      obtain ⟨A, c, hB, hI, hA⟩ := R2.out
      have hbl := hB.lt
      have r0 := hB.cell (i := 0) rfl
      have r1 := hB.cell (i := 1) rfl
      have hL := hI.1
      have hC := hI.2.1
      have hS := hI.2.2.1
      by_cases hlt : I < L.length
      · have dl : decide (I < L.length) = true := by simpa using hlt
        obtain ⟨g, off, rfl, hg, hq⟩ := hI.wd hlt
        obtain ⟨x, hx⟩ : ∃ x, x = L[I] := ⟨_, rfl⟩
        have HD := Lib.hid (show L.drop I = x :: L.drop (I + 1) by rw [hx]; exact drop_at hlt)
        obtain ⟨e0, e1, e2, e3⟩ := hq _ (Below.refl _ _)
        rw [← hx] at e0 e1 e2 e3
        clear hq hx hI hA hB
        by_cases hk : x.kind = 1
        · have bk : (x.kind == 1) = true := by simpa using hk
          have W := Lib.hid (show pOne N (f + 1) (L.drop I) = pWord N x (L.drop (I + 1)) by have := C1.out; rw [HD.out] at this ⊢; exact one_word this hk)
          clear hk
          go_quiet (fail)
          go_wp2_with (fail)
          go_quiet (fail)
          go_wp2_with (fail)
          clear e0 e1 e2 e3 r0 r1
          by_cases s2 : x.s = sAll
          · have c2 : (x.s == [97, 108, 108]) = true := by rw [s2]; rfl
            have HP := Lib.hid (show pOne N (f + 1) (L.drop I) = .ok (nd 1 0 zv) (L.drop (I + 1)) by rw [W.out]; simp [pWord, s2])
            clear s2
            refine (c_ref11_place L N I 0 0 b _ (R2.out.below (Below.drewN (Below.refl _ _) _))).mono ?_
            rintro e5 w3 ⟨rfl, hb3⟩
            have R3 := Lib.hid (R2.out.below (Below.trans (Below.drewN (Below.refl _ _) _) hb3))
            have K3 := Lib.hid (K2.out.then_below (Below.trans (Below.drewN (Below.refl _ _) _) hb3) K2.out.size)
            obtain ⟨q, hq⟩ : ∃ q, q = posW N (L.drop I) := ⟨_, rfl⟩
            rw [← hq]
            have HQ := Lib.hid hq
            clear hb3 hq
            -- 3 the world's number ahead, 5 behind, I the place ahead, J2 its name behind, 0 the place, 0 the error,  what is walked on
            obtain ⟨A, c, hB, hI, hA⟩ := R3.out
            have r1 := hB.cell (i := 1) rfl
            have z1 := hB.frozen 1
            obtain ⟨J2, hJ2⟩ : ∃ x, x = I + 1 := ⟨_, rfl⟩
            obtain ⟨w5, hw6⟩ : ∃ w6, w6 = w3.setCell ⟨b, 1, none⟩ (.int .i64 ((I : Int) + 1)) := ⟨_, rfl⟩
            have R5 := Lib.hid (show Rst w5 b L N J2 0 0 by rw [hw6, show ((I : Int) + 1) = ((J2 : Nat) : Int) by omega]; exact R3.out.next J2)
            have K5 := Lib.hid (show Kept (some b) w.heap.size w w5 by rw [hw6]; exact K3.out.setCell (q := ⟨b, 1, none⟩) (.inr rfl) _)
            have KS5 := Lib.hid (show Kept (some b) w3.heap.size w3 w5 by rw [hw6]; exact kept_set _ _ _ _)
            have HJ2 := Lib.hid hJ2
            have HZ := Lib.hid (show w3.heap.size = w5.heap.size by rw [hw6]; simp [World.setCell])
            clear hB hI hA hJ2
            go_wp2_with (fail)
            rw [← hw6]
            clear hw6 r1 z1
            go_ret
            exact field_end0 (op := 1) (n := 0) (v := zv) (n' := (L.drop I).length) (m' := (L.drop I).length + 1) (x := pOne N (f + 1) (L.drop I)) K5.out R5.out (by have := HJ2.out; omega) (by omega) (by rw [HP.out, ← HJ2.out]; exact .ok (by have := HJ2.out; omega)) HZ.out
          have c2 : (x.s == [97, 108, 108]) = false := by simpa using s2
          by_cases s3 : x.s = sNever
          · have c3 : (x.s == [110, 101, 118, 101, 114]) = true := by rw [s3]; rfl
            have HP := Lib.hid (show pOne N (f + 1) (L.drop I) = .ok (nd 2 0 zv) (L.drop (I + 1)) by rw [W.out]; simp [pWord, s3])
            clear s2 s3
            refine (c_ref11_place L N I 0 0 b _ (R2.out.below (Below.drewN (Below.refl _ _) _))).mono ?_
            rintro e5 w3 ⟨rfl, hb3⟩
            have R3 := Lib.hid (R2.out.below (Below.trans (Below.drewN (Below.refl _ _) _) hb3))
            have K3 := Lib.hid (K2.out.then_below (Below.trans (Below.drewN (Below.refl _ _) _) hb3) K2.out.size)
            obtain ⟨q, hq⟩ : ∃ q, q = posW N (L.drop I) := ⟨_, rfl⟩
            rw [← hq]
            have HQ := Lib.hid hq
            clear hb3 hq
            -- 3 the world's number ahead, 5 behind, I the place ahead, J2 its name behind, 0 the place, 0 the error,  what is walked on
            obtain ⟨A, c, hB, hI, hA⟩ := R3.out
            have r1 := hB.cell (i := 1) rfl
            have z1 := hB.frozen 1
            obtain ⟨J2, hJ2⟩ : ∃ x, x = I + 1 := ⟨_, rfl⟩
            obtain ⟨w5, hw6⟩ : ∃ w6, w6 = w3.setCell ⟨b, 1, none⟩ (.int .i64 ((I : Int) + 1)) := ⟨_, rfl⟩
            have R5 := Lib.hid (show Rst w5 b L N J2 0 0 by rw [hw6, show ((I : Int) + 1) = ((J2 : Nat) : Int) by omega]; exact R3.out.next J2)
            have K5 := Lib.hid (show Kept (some b) w.heap.size w w5 by rw [hw6]; exact K3.out.setCell (q := ⟨b, 1, none⟩) (.inr rfl) _)
            have KS5 := Lib.hid (show Kept (some b) w3.heap.size w3 w5 by rw [hw6]; exact kept_set _ _ _ _)
            have HJ2 := Lib.hid hJ2
            have HZ := Lib.hid (show w3.heap.size = w5.heap.size by rw [hw6]; simp [World.setCell])
            clear hB hI hA hJ2
            go_wp2_with (fail)
            rw [← hw6]
            clear hw6 r1 z1
            go_ret
            exact field_end0 (op := 2) (n := 0) (v := zv) (n' := (L.drop I).length) (m' := (L.drop I).length + 1) (x := pOne N (f + 1) (L.drop I)) K5.out R5.out (by have := HJ2.out; omega) (by omega) (by rw [HP.out, ← HJ2.out]; exact .ok (by have := HJ2.out; omega)) HZ.out
          have c3 : (x.s == [110, 101, 118, 101, 114]) = false := by simpa using s3
          by_cases s4 : x.s = sLabel
          · have c4 : (x.s == [108, 97, 98, 101, 108]) = true := by rw [s4]; rfl
            have HP0 := Lib.hid (show pOne N (f + 1) (L.drop I) = pLeaf N 3 16 (L.drop (I + 1)) by rw [W.out]; simp [pWord, s4])
            clear s2 s3 s4
            refine (c_ref11_place L N I 0 0 b _ (R2.out.below (Below.drewN (Below.refl _ _) _))).mono ?_
            rintro e5 w3 ⟨rfl, hb3⟩
            have R3 := Lib.hid (R2.out.below (Below.trans (Below.drewN (Below.refl _ _) _) hb3))
            have K3 := Lib.hid (K2.out.then_below (Below.trans (Below.drewN (Below.refl _ _) _) hb3) K2.out.size)
            obtain ⟨q, hq⟩ : ∃ q, q = posW N (L.drop I) := ⟨_, rfl⟩
            rw [← hq]
            have HQ := Lib.hid hq
            clear hb3 hq
            -- 3 the world's number ahead, 5 behind, I the place ahead, J2 its name behind, 0 the place, 0 the error,  what is walked on
            obtain ⟨A, c, hB, hI, hA⟩ := R3.out
            have r1 := hB.cell (i := 1) rfl
            have z1 := hB.frozen 1
            obtain ⟨J2, hJ2⟩ : ∃ x, x = I + 1 := ⟨_, rfl⟩
            obtain ⟨w5, hw6⟩ : ∃ w6, w6 = w3.setCell ⟨b, 1, none⟩ (.int .i64 ((I : Int) + 1)) := ⟨_, rfl⟩
            have R5 := Lib.hid (show Rst w5 b L N J2 0 0 by rw [hw6, show ((I : Int) + 1) = ((J2 : Nat) : Int) by omega]; exact R3.out.next J2)
            have K5 := Lib.hid (show Kept (some b) w.heap.size w w5 by rw [hw6]; exact K3.out.setCell (q := ⟨b, 1, none⟩) (.inr rfl) _)
            have KS5 := Lib.hid (show Kept (some b) w3.heap.size w3 w5 by rw [hw6]; exact kept_set _ _ _ _)
            have HJ2 := Lib.hid hJ2
            have HZ := Lib.hid (show w3.heap.size = w5.heap.size by rw [hw6]; simp [World.setCell])
            clear hB hI hA hJ2
            go_wp2_with (fail)
            rw [← hw6]
            clear hw6 r1 z1
            have HP := Lib.hid (show pOne N (f + 1) (L.drop I) = pLeaf N 3 16 (L.drop J2) by rw [HP0.out, HJ2.out])
            -- 3 op, 16 below
            refine (c_ref11_number 16 L N J2 b _ R5.out (by have := HJ2.out; omega)).mono ?_
            rintro e6 w6 ⟨n, J, p, e, rfl, k6, q6, hJ, s6⟩
            have K6 := Lib.hid (K5.out.then_kept k6 K5.out.size)
            have R6 := Lib.hid q6
            have S6 := Lib.hid s6
            clear k6 q6 s6
            go_wp2_with (fail)
            go_ret
            exact field_end0 (v := zv) K6.out R6.out (by omega) (by omega) (by rw [HP.out]; exact S6.out.leaf (op := 3)) rfl
          have c4 : (x.s == [108, 97, 98, 101, 108]) = false := by simpa using s4
          by_cases s5 : x.s = sMember
          · have c5 : (x.s == [109, 101, 109, 98, 101, 114]) = true := by rw [s5]; rfl
            have HP0 := Lib.hid (show pOne N (f + 1) (L.drop I) = pLeaf N 4 16 (L.drop (I + 1)) by rw [W.out]; simp [pWord, s5])
            clear s2 s3 s4 s5
            refine (c_ref11_place L N I 0 0 b _ (R2.out.below (Below.drewN (Below.refl _ _) _))).mono ?_
            rintro e5 w3 ⟨rfl, hb3⟩
            have R3 := Lib.hid (R2.out.below (Below.trans (Below.drewN (Below.refl _ _) _) hb3))
            have K3 := Lib.hid (K2.out.then_below (Below.trans (Below.drewN (Below.refl _ _) _) hb3) K2.out.size)
            obtain ⟨q, hq⟩ : ∃ q, q = posW N (L.drop I) := ⟨_, rfl⟩
            rw [← hq]
            have HQ := Lib.hid hq
            clear hb3 hq
            -- 3 the world's number ahead, 5 behind, I the place ahead, J2 its name behind, 0 the place, 0 the error,  what is walked on
            obtain ⟨A, c, hB, hI, hA⟩ := R3.out
            have r1 := hB.cell (i := 1) rfl
            have z1 := hB.frozen 1
            obtain ⟨J2, hJ2⟩ : ∃ x, x = I + 1 := ⟨_, rfl⟩
            obtain ⟨w5, hw6⟩ : ∃ w6, w6 = w3.setCell ⟨b, 1, none⟩ (.int .i64 ((I : Int) + 1)) := ⟨_, rfl⟩
            have R5 := Lib.hid (show Rst w5 b L N J2 0 0 by rw [hw6, show ((I : Int) + 1) = ((J2 : Nat) : Int) by omega]; exact R3.out.next J2)
            have K5 := Lib.hid (show Kept (some b) w.heap.size w w5 by rw [hw6]; exact K3.out.setCell (q := ⟨b, 1, none⟩) (.inr rfl) _)
            have KS5 := Lib.hid (show Kept (some b) w3.heap.size w3 w5 by rw [hw6]; exact kept_set _ _ _ _)
            have HJ2 := Lib.hid hJ2
            have HZ := Lib.hid (show w3.heap.size = w5.heap.size by rw [hw6]; simp [World.setCell])
            clear hB hI hA hJ2
            go_wp2_with (fail)
            rw [← hw6]
            clear hw6 r1 z1
            have HP := Lib.hid (show pOne N (f + 1) (L.drop I) = pLeaf N 4 16 (L.drop J2) by rw [HP0.out, HJ2.out])
            -- 4 op, 16 below
            refine (c_ref11_number 16 L N J2 b _ R5.out (by have := HJ2.out; omega)).mono ?_
            rintro e6 w6 ⟨n, J, p, e, rfl, k6, q6, hJ, s6⟩
            have K6 := Lib.hid (K5.out.then_kept k6 K5.out.size)
            have R6 := Lib.hid q6
            have S6 := Lib.hid s6
            clear k6 q6 s6
            go_wp2_with (fail)
            go_ret
            exact field_end0 (v := zv) K6.out R6.out (by omega) (by omega) (by rw [HP.out]; exact S6.out.leaf (op := 4)) rfl
          have c5 : (x.s == [109, 101, 109, 98, 101, 114]) = false := by simpa using s5
          by_cases s6 : x.s = sHas
          · have c6 : (x.s == [104, 97, 115]) = true := by rw [s6]; rfl
            have HP0 := Lib.hid (show pOne N (f + 1) (L.drop I) = pLeaf N 5 8 (L.drop (I + 1)) by rw [W.out]; simp [pWord, s6])
            clear s2 s3 s4 s5 s6
            refine (c_ref11_place L N I 0 0 b _ (R2.out.below (Below.drewN (Below.refl _ _) _))).mono ?_
            rintro e5 w3 ⟨rfl, hb3⟩
            have R3 := Lib.hid (R2.out.below (Below.trans (Below.drewN (Below.refl _ _) _) hb3))
            have K3 := Lib.hid (K2.out.then_below (Below.trans (Below.drewN (Below.refl _ _) _) hb3) K2.out.size)
            obtain ⟨q, hq⟩ : ∃ q, q = posW N (L.drop I) := ⟨_, rfl⟩
            rw [← hq]
            have HQ := Lib.hid hq
            clear hb3 hq
            -- 3 the world's number ahead, 5 behind, I the place ahead, J2 its name behind, 0 the place, 0 the error,  what is walked on
            obtain ⟨A, c, hB, hI, hA⟩ := R3.out
            have r1 := hB.cell (i := 1) rfl
            have z1 := hB.frozen 1
            obtain ⟨J2, hJ2⟩ : ∃ x, x = I + 1 := ⟨_, rfl⟩
            obtain ⟨w5, hw6⟩ : ∃ w6, w6 = w3.setCell ⟨b, 1, none⟩ (.int .i64 ((I : Int) + 1)) := ⟨_, rfl⟩
            have R5 := Lib.hid (show Rst w5 b L N J2 0 0 by rw [hw6, show ((I : Int) + 1) = ((J2 : Nat) : Int) by omega]; exact R3.out.next J2)
            have K5 := Lib.hid (show Kept (some b) w.heap.size w w5 by rw [hw6]; exact K3.out.setCell (q := ⟨b, 1, none⟩) (.inr rfl) _)
            have KS5 := Lib.hid (show Kept (some b) w3.heap.size w3 w5 by rw [hw6]; exact kept_set _ _ _ _)
            have HJ2 := Lib.hid hJ2
            have HZ := Lib.hid (show w3.heap.size = w5.heap.size by rw [hw6]; simp [World.setCell])
            clear hB hI hA hJ2
            go_wp2_with (fail)
            rw [← hw6]
            clear hw6 r1 z1
            have HP := Lib.hid (show pOne N (f + 1) (L.drop I) = pLeaf N 5 8 (L.drop J2) by rw [HP0.out, HJ2.out])
            -- 5 op, 8 below
            refine (c_ref11_number 8 L N J2 b _ R5.out (by have := HJ2.out; omega)).mono ?_
            rintro e6 w6 ⟨n, J, p, e, rfl, k6, q6, hJ, s6⟩
            have K6 := Lib.hid (K5.out.then_kept k6 K5.out.size)
            have R6 := Lib.hid q6
            have S6 := Lib.hid s6
            clear k6 q6 s6
            go_wp2_with (fail)
            go_ret
            exact field_end0 (v := zv) K6.out R6.out (by omega) (by omega) (by rw [HP.out]; exact S6.out.leaf (op := 5)) rfl
          have c6 : (x.s == [104, 97, 115]) = false := by simpa using s6
          by_cases s7 : x.s = sField
          · have c7 : (x.s == [102, 105, 101, 108, 100]) = true := by rw [s7]; rfl
            have HP0 := Lib.hid (show pOne N (f + 1) (L.drop I) = pField N (L.drop (I + 1)) by rw [W.out]; simp [pWord, s7])
            clear s2 s3 s4 s5 s6 s7
            refine (c_ref11_place L N I 0 0 b _ (R2.out.below (Below.drewN (Below.refl _ _) _))).mono ?_
            rintro e5 w3 ⟨rfl, hb3⟩
            have R3 := Lib.hid (R2.out.below (Below.trans (Below.drewN (Below.refl _ _) _) hb3))
            have K3 := Lib.hid (K2.out.then_below (Below.trans (Below.drewN (Below.refl _ _) _) hb3) K2.out.size)
            obtain ⟨q, hq⟩ : ∃ q, q = posW N (L.drop I) := ⟨_, rfl⟩
            rw [← hq]
            have HQ := Lib.hid hq
            clear hb3 hq
            -- 3 the world's number ahead, 5 behind, I the place ahead, J2 its name behind, 0 the place, 0 the error,  what is walked on
            obtain ⟨A, c, hB, hI, hA⟩ := R3.out
            have r1 := hB.cell (i := 1) rfl
            have z1 := hB.frozen 1
            obtain ⟨J2, hJ2⟩ : ∃ x, x = I + 1 := ⟨_, rfl⟩
            obtain ⟨w5, hw6⟩ : ∃ w6, w6 = w3.setCell ⟨b, 1, none⟩ (.int .i64 ((I : Int) + 1)) := ⟨_, rfl⟩
            have R5 := Lib.hid (show Rst w5 b L N J2 0 0 by rw [hw6, show ((I : Int) + 1) = ((J2 : Nat) : Int) by omega]; exact R3.out.next J2)
            have K5 := Lib.hid (show Kept (some b) w.heap.size w w5 by rw [hw6]; exact K3.out.setCell (q := ⟨b, 1, none⟩) (.inr rfl) _)
            have KS5 := Lib.hid (show Kept (some b) w3.heap.size w3 w5 by rw [hw6]; exact kept_set _ _ _ _)
            have HJ2 := Lib.hid hJ2
            have HZ := Lib.hid (show w3.heap.size = w5.heap.size by rw [hw6]; simp [World.setCell])
            clear hB hI hA hJ2
            go_wp2_with (fail)
            rw [← hw6]
            clear hw6 r1 z1
            have HP := Lib.hid (show pOne N (f + 1) (L.drop I) = pField N (L.drop J2) by rw [HP0.out, HJ2.out])
            refine (c_ref11_field L N J2 b _ R5.out (by have := HJ2.out; omega)).mono ?_
            rintro e6 w6 ⟨l, v, J, p, e, rfl, hv, k6, q6, hJ, hl, s6⟩
            have K6 := Lib.hid (K5.out.then_kept k6 K5.out.size)
            have R6 := Lib.hid q6
            have S6 := Lib.hid s6
            have V6 := Lib.hid hv
            clear k6 q6 s6 hv
            go_wp2_with (fail)
            go_ret
            exact ⟨l, _, J, p, e, rfl, V6.out, K6.out, R6.out, by omega, by omega, by rw [HP.out]; exact S6.out⟩
          have c7 : (x.s == [102, 105, 101, 108, 100]) = false := by simpa using s7
          have HP0 := Lib.hid (show pOne N (f + 1) (L.drop I) = .bad (posW N (L.drop I)) 3 by rw [W.out, HD.out]; simp [pWord, s2, s3, s4, s5, s6, s7, posW])
          clear s2 s3 s4 s5 s6 s7
          refine (c_ref11_place L N I 0 0 b _ (R2.out.below (Below.drewN (Below.refl _ _) _))).mono ?_
          rintro e5 w3 ⟨rfl, hb3⟩
          have R3 := Lib.hid (R2.out.below (Below.trans (Below.drewN (Below.refl _ _) _) hb3))
          have K3 := Lib.hid (K2.out.then_below (Below.trans (Below.drewN (Below.refl _ _) _) hb3) K2.out.size)
          obtain ⟨q, hq⟩ : ∃ q, q = posW N (L.drop I) := ⟨_, rfl⟩
          rw [← hq]
          have HQ := Lib.hid hq
          clear hb3 hq
          -- 3 the world's number ahead, 5 behind, I the place ahead, J2 its name behind, 0 the place, 0 the error,  what is walked on
          obtain ⟨A, c, hB, hI, hA⟩ := R3.out
          have r1 := hB.cell (i := 1) rfl
          have z1 := hB.frozen 1
          obtain ⟨J2, hJ2⟩ : ∃ x, x = I + 1 := ⟨_, rfl⟩
          obtain ⟨w5, hw6⟩ : ∃ w6, w6 = w3.setCell ⟨b, 1, none⟩ (.int .i64 ((I : Int) + 1)) := ⟨_, rfl⟩
          have R5 := Lib.hid (show Rst w5 b L N J2 0 0 by rw [hw6, show ((I : Int) + 1) = ((J2 : Nat) : Int) by omega]; exact R3.out.next J2)
          have K5 := Lib.hid (show Kept (some b) w.heap.size w w5 by rw [hw6]; exact K3.out.setCell (q := ⟨b, 1, none⟩) (.inr rfl) _)
          have KS5 := Lib.hid (show Kept (some b) w3.heap.size w3 w5 by rw [hw6]; exact kept_set _ _ _ _)
          have HJ2 := Lib.hid hJ2
          have HZ := Lib.hid (show w3.heap.size = w5.heap.size by rw [hw6]; simp [World.setCell])
          clear hB hI hA hJ2
          go_wp2_with (fail)
          rw [← hw6]
          clear hw6 r1 z1
          -- 5 the world's number, HP0.out.trans (by rw [← HQ.out]) the plain fact: .bad at q
          refine (c_ref11_fail L N J2 b 0 0 q 3 _ R5.out).mono ?_
          rintro e9 w9 ⟨rfl, k9, q9⟩
          have K9 := Lib.hid (K5.out.then_kept k9 K5.out.size)
          have R9 := Lib.hid (show Rst w9 b L N J2 q 3 by simpa using q9)
          clear k9 q9
          go_wp2_with (fail)
          go_ret
          exact ⟨[], _, J2, q, 3, rfl, ⟨none, 0, rfl, In.nil (by omega), fun ad e => by cases e⟩, K9.out, R9.out, by have := HJ2.out; omega, by simp, by rw [HP0.out.trans (by rw [← HQ.out])]; exact .bad (by decide)⟩
        · have bk : (x.kind == 1) = false := by simpa using hk
          have W := Lib.hid (show pOne N (f + 1) (L.drop I) = .bad (posW N (L.drop I)) 3 by have := C2.out; rw [HD.out] at this ⊢; exact one_bad this hk)
          clear hk
          go_quiet (fail)
          go_wp2_with (fail)
          clear e0 e1 e2 e3 r0 r1
          refine (c_ref11_place L N I 0 0 b _ (R2.out.below (Below.drewN (Below.refl _ _) _))).mono ?_
          rintro e5 w3 ⟨rfl, hb3⟩
          have R3 := Lib.hid (R2.out.below (Below.trans (Below.drewN (Below.refl _ _) _) hb3))
          have K3 := Lib.hid (K2.out.then_below (Below.trans (Below.drewN (Below.refl _ _) _) hb3) K2.out.size)
          obtain ⟨q, hq⟩ : ∃ q, q = posW N (L.drop I) := ⟨_, rfl⟩
          rw [← hq]
          have HQ := Lib.hid hq
          clear hb3 hq
          -- 3 the world's number ahead, 5 behind, I the place ahead, J2 its name behind, 0 the place, 0 the error,  what is walked on
          obtain ⟨A, c, hB, hI, hA⟩ := R3.out
          have r1 := hB.cell (i := 1) rfl
          have z1 := hB.frozen 1
          obtain ⟨J2, hJ2⟩ : ∃ x, x = I + 1 := ⟨_, rfl⟩
          obtain ⟨w5, hw6⟩ : ∃ w6, w6 = w3.setCell ⟨b, 1, none⟩ (.int .i64 ((I : Int) + 1)) := ⟨_, rfl⟩
          have R5 := Lib.hid (show Rst w5 b L N J2 0 0 by rw [hw6, show ((I : Int) + 1) = ((J2 : Nat) : Int) by omega]; exact R3.out.next J2)
          have K5 := Lib.hid (show Kept (some b) w.heap.size w w5 by rw [hw6]; exact K3.out.setCell (q := ⟨b, 1, none⟩) (.inr rfl) _)
          have KS5 := Lib.hid (show Kept (some b) w3.heap.size w3 w5 by rw [hw6]; exact kept_set _ _ _ _)
          have HJ2 := Lib.hid hJ2
          have HZ := Lib.hid (show w3.heap.size = w5.heap.size by rw [hw6]; simp [World.setCell])
          clear hB hI hA hJ2
          go_wp2_with (fail)
          rw [← hw6]
          clear hw6 r1 z1
          -- 5 the world's number, W.out.trans (by rw [← HQ.out]) the plain fact: .bad at q
          refine (c_ref11_fail L N J2 b 0 0 q 3 _ R5.out).mono ?_
          rintro e9 w9 ⟨rfl, k9, q9⟩
          have K9 := Lib.hid (K5.out.then_kept k9 K5.out.size)
          have R9 := Lib.hid (show Rst w9 b L N J2 q 3 by simpa using q9)
          clear k9 q9
          go_wp2_with (fail)
          go_ret
          exact ⟨[], _, J2, q, 3, rfl, ⟨none, 0, rfl, In.nil (by omega), fun ad e => by cases e⟩, K9.out, R9.out, by have := HJ2.out; omega, by simp, by rw [W.out.trans (by rw [← HQ.out])]; exact .bad (by decide)⟩
      · have dl : decide (I < L.length) = false := by simpa using hlt
        have W := Lib.hid (show pOne N (f + 1) (L.drop I) = .bad (posW N (L.drop I)) 3 by rw [drop_out hlt]; rfl)
        clear hI hA hB
        go_quiet (fail)
        go_wp2_with (fail)
        clear r0 r1
        refine (c_ref11_place L N I 0 0 b _ (R2.out.below (Below.drewN (Below.refl _ _) _))).mono ?_
        rintro e5 w3 ⟨rfl, hb3⟩
        have R3 := Lib.hid (R2.out.below (Below.trans (Below.drewN (Below.refl _ _) _) hb3))
        have K3 := Lib.hid (K2.out.then_below (Below.trans (Below.drewN (Below.refl _ _) _) hb3) K2.out.size)
        obtain ⟨q, hq⟩ : ∃ q, q = posW N (L.drop I) := ⟨_, rfl⟩
        rw [← hq]
        have HQ := Lib.hid hq
        clear hb3 hq
        -- 3 the world's number ahead, 5 behind, I the place ahead, J2 its name behind, 0 the place, 0 the error,  what is walked on
        obtain ⟨A, c, hB, hI, hA⟩ := R3.out
        have r1 := hB.cell (i := 1) rfl
        have z1 := hB.frozen 1
        obtain ⟨J2, hJ2⟩ : ∃ x, x = I + 1 := ⟨_, rfl⟩
        obtain ⟨w5, hw6⟩ : ∃ w6, w6 = w3.setCell ⟨b, 1, none⟩ (.int .i64 ((I : Int) + 1)) := ⟨_, rfl⟩
        have R5 := Lib.hid (show Rst w5 b L N J2 0 0 by rw [hw6, show ((I : Int) + 1) = ((J2 : Nat) : Int) by omega]; exact R3.out.next J2)
        have K5 := Lib.hid (show Kept (some b) w.heap.size w w5 by rw [hw6]; exact K3.out.setCell (q := ⟨b, 1, none⟩) (.inr rfl) _)
        have KS5 := Lib.hid (show Kept (some b) w3.heap.size w3 w5 by rw [hw6]; exact kept_set _ _ _ _)
        have HJ2 := Lib.hid hJ2
        have HZ := Lib.hid (show w3.heap.size = w5.heap.size by rw [hw6]; simp [World.setCell])
        clear hB hI hA hJ2
        go_wp2_with (fail)
        rw [← hw6]
        clear hw6 r1 z1
        -- 5 the world's number, W.out.trans (by rw [← HQ.out]) the plain fact: .bad at q
        refine (c_ref11_fail L N J2 b 0 0 q 3 _ R5.out).mono ?_
        rintro e9 w9 ⟨rfl, k9, q9⟩
        have K9 := Lib.hid (K5.out.then_kept k9 K5.out.size)
        have R9 := Lib.hid (show Rst w9 b L N J2 q 3 by simpa using q9)
        clear k9 q9
        go_wp2_with (fail)
        go_ret
        exact ⟨[], _, J2, q, 3, rfl, ⟨none, 0, rfl, In.nil (by omega), fun ad e => by cases e⟩, K9.out, R9.out, by have := HJ2.out; omega, by simp, by rw [W.out.trans (by rw [← HQ.out])]; exact .bad (by decide)⟩
end Go.Proofs.Ytbidnflcbgnckaa
namespace Go.Proofs.Ytbidnflcbgnckaa
open Go.RowKit

/-- How many words are left, by the reader's block; none, behind the first error. -/
def leftR (w : World) (b : Nat) : Nat := match w.cell? ⟨b, 0, none⟩, w.cell? ⟨b, 1, none⟩, w.cell? ⟨b, 3, none⟩ with
  | some (.slice _ n _), some (.int _ i), some (.int _ e) => if e = 0 then n + 1 - i.toNat else 0
  | _, _, _ => 0
theorem leftR_of {w : World} {b : Nat} {L : List Wd} {N : Int} {I : Nat} {p e : Int} (h : Rst w b L N I p e) : leftR w b = if e = 0 then L.length + 1 - I else 0 := by
  obtain ⟨A, c, h1, -⟩ := h
  unfold leftR
  rw [h1.cell (i := 0) rfl, h1.cell (i := 1) rfl, h1.cell (i := 3) rfl]; rfl
/-- What holds ahead of each round. -/
structure Rnd (w0 : World) (b : Nat) (L : List Wd) (N : Int) (I : Nat) (X : PR (List Node)) (P : Nat → List Node → List Wd → PR (List Node)) (f : Nat) (J : Nat) (l : List Node) (p e : Int) (f' : Nat) : Prop where
  hJ : J ≤ L.length + (L.length - I) + 1
  hl : l.length ≤ L.length - I
  zero : e = 0 → p = 0 ∧ J ≤ L.length ∧ f' ≤ f ∧ 4 * (L.length - J) + 1 ≤ f' ∧ 1 ≤ l.length ∧ l.length + (L.length - J) ≤ L.length - I ∧ X = P f' l (L.drop J)
  bad : e ≠ 0 → X = .bad p e
theorem Fits.drop {L : List Wd} {I J : Nat} {l : List Node} (h : Fits (L.drop I) (.ok l (L.drop J))) : 1 ≤ l.length ∧ l.length + (L.length - J) ≤ L.length - I := by
  obtain ⟨h1, h2, -⟩ := h
  rw [List.length_drop, List.length_drop] at h2
  exact ⟨h1, h2⟩
set_option maxRecDepth 10000 in
set_option maxHeartbeats 2000000 in
theorem allR_of_one (N : Int) (f : Nat) (IH : ∀ f' ≤ f, OneR N f') : AllR N (f + 1) := by
  -- all the function's name, pOne the inner plain one, pAllL the plain loop, pAll the plain whole, sAnd the word, 11 the op, pOne_fit fit of the inner
  intro L I b w h hIL hLL hf
  have hLI : (L.drop I).length = L.length - I := List.length_drop
  have R0 := Lib.hid h
  have hbl := h.lt
  clear h
  go_enter Try.func33, Try.ntmps33
  go_wp2_with (fail)
  refine (IH f (Nat.le_refl _) L I b w R0.out hIL hLL (by omega)).mono ?_
  rintro e3 w1 ⟨l, v, J, p, e, rfl, hv, k1, q1, hJ, hl, s1⟩
  have ht := pOne_fit N f (L.drop I)
  rw [hLI] at hJ hl
  obtain ⟨X, hX⟩ : ∃ X, X = pAll N (f + 1) (L.drop I) := ⟨_, rfl⟩
  have HW := Lib.hid hX.symm
  have H1 := Lib.hid (show Rnd w b L N I X (pAllL N) f J l p e f from ⟨by omega, hl, fun he => by
    subst he
    obtain ⟨z1, z2, z3⟩ := s1.zero
    rw [z1] at ht
    have hd := ht.drop
    exact ⟨z2, z3, Nat.le_refl _, by omega, hd.1, hd.2, by rw [hX]; unfold pAll; rw [z1]⟩, fun he => by rw [hX]; unfold pAll; rw [s1.some he]⟩)
  have R1 := Lib.hid q1
  have K1 := Lib.hid k1
  have V1 := Lib.hid hv
  clear k1 q1 s1 hv ht hX
  go_wp2_with (fail)
  go_loopw [3] (fun v wr => ∃ (J : Nat) (l : List Node) (p e : Int) (f' : Nat), Hid (Rnd w b L N I X (pAllL N) f J l p e f') ∧ Hid (Rst wr b L N J p e) ∧ Hid (Kept (some b) w.heap.size w wr) ∧ Hid (VL b wr l v)) (fun _ wr => leftR wr b)
  case atStart => exact ⟨J, l, p, e, f, H1, R1, K1, V1⟩
  case round =>
    clear H1 R1 K1 V1 hJ hl
    obtain ⟨J, l, p, e, f', H2, R2, K2, V2⟩ := hrel
    obtain ⟨hJ, hl, hz, hbad⟩ := H2.out
    obtain ⟨A0, c0, rfl, j1, j2⟩ := V2.out
    have J1 := Lib.hid j1
    have J2 := Lib.hid j2
    clear j1 j2
    obtain ⟨A, c, hB, hI, hA⟩ := R2.out
    have r3 := hB.cell (i := 3) rfl
    clear hB hI hA
    by_cases he : e = 0
    · subst he
      obtain ⟨rfl, z2, z3, z4, z5, z6, z7⟩ := hz rfl
      have HX := Lib.hid z7
      have HLR := Lib.hid (show leftR wr b = L.length + 1 - J by rw [leftR_of R2.out, if_pos rfl])
      clear hz hbad z7
      obtain ⟨f2, rfl⟩ : ∃ f2, f' = f2 + 1 := ⟨f' - 1, by omega⟩
      go_wp2_with (fail)
      clear r3
      refine (c_ref11_is 1 sAnd L N J 0 0 b _ R2.out).mono ?_
      rintro e1 w3 ⟨rfl, hb2⟩
      have R3 := Lib.hid (R2.out.below hb2)
      have K3 := Lib.hid (K2.out.then_below hb2 K2.out.size)
      have J3 := Lib.hid (J1.out.below hb2)
      clear hb2
      cases hc : isW 1 sAnd (L.drop J) with
      | false =>
        have HS := Lib.hid (show X = .ok l (L.drop J) by rw [HX.out]; show (if isW 1 sAnd (L.drop J) then _ else _) = _; rw [hc, if_neg (by simp)])
        clear hc
        go_wp2_with (fail)
        go_ret
        exact ⟨l, _, J, 0, 0, rfl, ⟨A0, c0, rfl, J3.out, J2.out⟩, K3.out, R3.out, by omega, by omega, by rw [HW.out, HS.out]; exact .ok z2⟩
      | true =>
        have hJ1 := isW_at hc
        have HS := Lib.hid (show X = (match pOne N f2 (L.drop (J + 1)) with
          | .bad p e => .bad p e
          | .ok m r => pAllL N f2 (joined 11 (l ++ m)) r) by rw [HX.out, ← drop_one]; show (if isW 1 sAnd (L.drop J) then _ else _) = _; rw [hc, if_pos rfl]; generalize pOne N f2 ((L.drop J).drop 1) = y; cases y <;> rfl)
        clear hc
        obtain ⟨A, c, hB, hI, hA⟩ := R3.out
        have r1 := hB.cell (i := 1) rfl
        have z1 := hB.frozen 1
        obtain ⟨Y, hY⟩ : ∃ x, x = J + 1 := ⟨_, rfl⟩
        obtain ⟨w4, hw4⟩ : ∃ w4, w4 = w3.setCell ⟨b, 1, none⟩ (.int .i64 ((J : Int) + 1)) := ⟨_, rfl⟩
        have R4 := Lib.hid (show Rst w4 b L N Y 0 0 by rw [hw4, show ((J : Int) + 1) = ((Y : Nat) : Int) by omega]; exact R3.out.next Y)
        have K4 := Lib.hid (show Kept (some b) w.heap.size w w4 by rw [hw4]; exact K3.out.setCell (q := ⟨b, 1, none⟩) (.inr rfl) _)
        have J4 := Lib.hid (show InN w4 A0 c0 l by rw [hw4]; exact J3.out.kept4 J2.out (kept_set _ _ _ _))
        have HY := Lib.hid hY
        rw [← hY] at HS
        clear hB hI hA hY
        go_wp2_with (fail)
        rw [← hw4]
        clear hw4 r1 z1
        refine (IH f2 (by omega) L Y b _ R4.out (by have := HY.out; omega) hLL (by have := HY.out; rw [List.length_drop]; omega)).mono ?_
        rintro e3 w5 ⟨m, v5, J5, p5, e5, rfl, ⟨A5, c5, rfl, j51, j52⟩, k5, q5, hJ5, hl5, s5⟩
        have ht := pOne_fit N f2 (L.drop Y)
        rw [List.length_drop] at hJ5 hl5
        have HT := Lib.hid ht
        have S5 := Lib.hid s5
        have K5 := Lib.hid (K4.out.then_kept k5 K4.out.size)
        have R5 := Lib.hid q5
        have J5' := Lib.hid (J4.out.kept4 J2.out k5)
        have M5 := Lib.hid j51
        clear ht s5 k5 q5 j51 j52
        go_wp2_with (fail)
        have hy := HY.out
        refine (join_litR 11 [(A0, c0, l), (A5, c5, m)] w5 _ (fun o ho => by
          simp only [List.mem_cons, List.not_mem_nil, or_false] at ho
          rcases ho with rfl | rfl
          · exact J5'.out
          · exact M5.out) rfl (by simp) (by simp [sumLen]; omega) (by simp [joined]; omega)).mono ?_
        clear hy
        rintro e4 w6 ⟨A6, c6, rfl, hb6, i6, hA6⟩
        rw [show ([(A0, c0, l), (A5, c5, m)] : List Kid).flatMap (·.2.2) = l ++ m by simp] at i6 ⊢
        have K6 := Lib.hid (K5.out.then_below hb6 K5.out.size)
        have R6 := Lib.hid (R5.out.below hb6)
        have hz6 := R5.out.lt
        have V6 := Lib.hid (show VL b w6 (joined 11 (l ++ m)) (.slice A6 (joined 11 (l ++ m)).length c6) from ⟨A6, c6, rfl, i6, fun ad e => by have := hA6 ad e; omega⟩)
        clear hb6 i6 hA6
        go_wp2_with (fail)
        go_roundw
        case rel =>
          have hy := HY.out
          refine ⟨J5, joined 11 (l ++ m), p5, e5, f2, ⟨by omega, by rw [joined_lenP, List.length_append]; omega, fun he => ?_, fun he => ?_⟩, R6, K6, V6⟩
          · subst he
            obtain ⟨y1, y2, y3⟩ := S5.out.zero
            have ht := HT.out
            rw [y1] at ht
            have hd := ht.drop
            exact ⟨y2, y3, by omega, by omega, by rw [joined_lenP]; omega, by rw [joined_lenP, List.length_append]; omega, by rw [HS.out, y1]⟩
          · rw [HS.out, S5.out.some he]
        case measure =>
          rw [leftR_of R6.out, HLR.out]
          have hy := HY.out
          split
          · rename_i he
            subst he
            obtain ⟨y1, y2, y3⟩ := S5.out.zero
            have ht := HT.out
            rw [y1] at ht
            have hd := ht.drop
            omega
          · omega
    · have be : (e == 0) = false := by simpa using he
      have HX := Lib.hid (hbad he)
      have HE := Lib.hid he
      clear hz hbad he
      go_wp2_with (fail)
      go_ret
      exact ⟨l, _, J, p, e, rfl, ⟨A0, c0, rfl, J1.out, J2.out⟩, K2.out, R2.out, by omega, by omega, by rw [HW.out, HX.out]; exact .bad HE.out⟩
set_option maxRecDepth 10000 in
set_option maxHeartbeats 2000000 in
theorem anyR_of_all (N : Int) (f : Nat) (IH : ∀ f' ≤ f, AllR N f') : AnyR N (f + 1) := by
  -- any the function's name, pAll the inner plain one, pAnyL the plain loop, pAny the plain whole, sOr the word, 12 the op, pAll_fit fit of the inner
  intro L I b w h hIL hLL hf
  have hLI : (L.drop I).length = L.length - I := List.length_drop
  have R0 := Lib.hid h
  have hbl := h.lt
  clear h
  go_enter Try.func15, Try.ntmps15
  go_wp2_with (fail)
  refine (IH f (Nat.le_refl _) L I b w R0.out hIL hLL (by omega)).mono ?_
  rintro e3 w1 ⟨l, v, J, p, e, rfl, hv, k1, q1, hJ, hl, s1⟩
  have ht := pAll_fit N f (L.drop I)
  rw [hLI] at hJ hl
  obtain ⟨X, hX⟩ : ∃ X, X = pAny N (f + 1) (L.drop I) := ⟨_, rfl⟩
  have HW := Lib.hid hX.symm
  have H1 := Lib.hid (show Rnd w b L N I X (pAnyL N) f J l p e f from ⟨by omega, hl, fun he => by
    subst he
    obtain ⟨z1, z2, z3⟩ := s1.zero
    rw [z1] at ht
    have hd := ht.drop
    exact ⟨z2, z3, Nat.le_refl _, by omega, hd.1, hd.2, by rw [hX]; unfold pAny; rw [z1]⟩, fun he => by rw [hX]; unfold pAny; rw [s1.some he]⟩)
  have R1 := Lib.hid q1
  have K1 := Lib.hid k1
  have V1 := Lib.hid hv
  clear k1 q1 s1 hv ht hX
  go_wp2_with (fail)
  go_loopw [3] (fun v wr => ∃ (J : Nat) (l : List Node) (p e : Int) (f' : Nat), Hid (Rnd w b L N I X (pAnyL N) f J l p e f') ∧ Hid (Rst wr b L N J p e) ∧ Hid (Kept (some b) w.heap.size w wr) ∧ Hid (VL b wr l v)) (fun _ wr => leftR wr b)
  case atStart => exact ⟨J, l, p, e, f, H1, R1, K1, V1⟩
  case round =>
    clear H1 R1 K1 V1 hJ hl
    obtain ⟨J, l, p, e, f', H2, R2, K2, V2⟩ := hrel
    obtain ⟨hJ, hl, hz, hbad⟩ := H2.out
    obtain ⟨A0, c0, rfl, j1, j2⟩ := V2.out
    have J1 := Lib.hid j1
    have J2 := Lib.hid j2
    clear j1 j2
    obtain ⟨A, c, hB, hI, hA⟩ := R2.out
    have r3 := hB.cell (i := 3) rfl
    clear hB hI hA
    by_cases he : e = 0
    · subst he
      obtain ⟨rfl, z2, z3, z4, z5, z6, z7⟩ := hz rfl
      have HX := Lib.hid z7
      have HLR := Lib.hid (show leftR wr b = L.length + 1 - J by rw [leftR_of R2.out, if_pos rfl])
      clear hz hbad z7
      obtain ⟨f2, rfl⟩ : ∃ f2, f' = f2 + 1 := ⟨f' - 1, by omega⟩
      go_wp2_with (fail)
      clear r3
      refine (c_ref11_is 1 sOr L N J 0 0 b _ R2.out).mono ?_
      rintro e1 w3 ⟨rfl, hb2⟩
      have R3 := Lib.hid (R2.out.below hb2)
      have K3 := Lib.hid (K2.out.then_below hb2 K2.out.size)
      have J3 := Lib.hid (J1.out.below hb2)
      clear hb2
      cases hc : isW 1 sOr (L.drop J) with
      | false =>
        have HS := Lib.hid (show X = .ok l (L.drop J) by rw [HX.out]; show (if isW 1 sOr (L.drop J) then _ else _) = _; rw [hc, if_neg (by simp)])
        clear hc
        go_wp2_with (fail)
        go_ret
        exact ⟨l, _, J, 0, 0, rfl, ⟨A0, c0, rfl, J3.out, J2.out⟩, K3.out, R3.out, by omega, by omega, by rw [HW.out, HS.out]; exact .ok z2⟩
      | true =>
        have hJ1 := isW_at hc
        have HS := Lib.hid (show X = (match pAll N f2 (L.drop (J + 1)) with
          | .bad p e => .bad p e
          | .ok m r => pAnyL N f2 (joined 12 (l ++ m)) r) by rw [HX.out, ← drop_one]; show (if isW 1 sOr (L.drop J) then _ else _) = _; rw [hc, if_pos rfl]; generalize pAll N f2 ((L.drop J).drop 1) = y; cases y <;> rfl)
        clear hc
        obtain ⟨A, c, hB, hI, hA⟩ := R3.out
        have r1 := hB.cell (i := 1) rfl
        have z1 := hB.frozen 1
        obtain ⟨Y, hY⟩ : ∃ x, x = J + 1 := ⟨_, rfl⟩
        obtain ⟨w4, hw4⟩ : ∃ w4, w4 = w3.setCell ⟨b, 1, none⟩ (.int .i64 ((J : Int) + 1)) := ⟨_, rfl⟩
        have R4 := Lib.hid (show Rst w4 b L N Y 0 0 by rw [hw4, show ((J : Int) + 1) = ((Y : Nat) : Int) by omega]; exact R3.out.next Y)
        have K4 := Lib.hid (show Kept (some b) w.heap.size w w4 by rw [hw4]; exact K3.out.setCell (q := ⟨b, 1, none⟩) (.inr rfl) _)
        have J4 := Lib.hid (show InN w4 A0 c0 l by rw [hw4]; exact J3.out.kept4 J2.out (kept_set _ _ _ _))
        have HY := Lib.hid hY
        rw [← hY] at HS
        clear hB hI hA hY
        go_wp2_with (fail)
        rw [← hw4]
        clear hw4 r1 z1
        refine (IH f2 (by omega) L Y b _ R4.out (by have := HY.out; omega) hLL (by have := HY.out; rw [List.length_drop]; omega)).mono ?_
        rintro e3 w5 ⟨m, v5, J5, p5, e5, rfl, ⟨A5, c5, rfl, j51, j52⟩, k5, q5, hJ5, hl5, s5⟩
        have ht := pAll_fit N f2 (L.drop Y)
        rw [List.length_drop] at hJ5 hl5
        have HT := Lib.hid ht
        have S5 := Lib.hid s5
        have K5 := Lib.hid (K4.out.then_kept k5 K4.out.size)
        have R5 := Lib.hid q5
        have J5' := Lib.hid (J4.out.kept4 J2.out k5)
        have M5 := Lib.hid j51
        clear ht s5 k5 q5 j51 j52
        go_wp2_with (fail)
        have hy := HY.out
        refine (join_litR 12 [(A0, c0, l), (A5, c5, m)] w5 _ (fun o ho => by
          simp only [List.mem_cons, List.not_mem_nil, or_false] at ho
          rcases ho with rfl | rfl
          · exact J5'.out
          · exact M5.out) rfl (by simp) (by simp [sumLen]; omega) (by simp [joined]; omega)).mono ?_
        clear hy
        rintro e4 w6 ⟨A6, c6, rfl, hb6, i6, hA6⟩
        rw [show ([(A0, c0, l), (A5, c5, m)] : List Kid).flatMap (·.2.2) = l ++ m by simp] at i6 ⊢
        have K6 := Lib.hid (K5.out.then_below hb6 K5.out.size)
        have R6 := Lib.hid (R5.out.below hb6)
        have hz6 := R5.out.lt
        have V6 := Lib.hid (show VL b w6 (joined 12 (l ++ m)) (.slice A6 (joined 12 (l ++ m)).length c6) from ⟨A6, c6, rfl, i6, fun ad e => by have := hA6 ad e; omega⟩)
        clear hb6 i6 hA6
        go_wp2_with (fail)
        go_roundw
        case rel =>
          have hy := HY.out
          refine ⟨J5, joined 12 (l ++ m), p5, e5, f2, ⟨by omega, by rw [joined_lenP, List.length_append]; omega, fun he => ?_, fun he => ?_⟩, R6, K6, V6⟩
          · subst he
            obtain ⟨y1, y2, y3⟩ := S5.out.zero
            have ht := HT.out
            rw [y1] at ht
            have hd := ht.drop
            exact ⟨y2, y3, by omega, by omega, by rw [joined_lenP]; omega, by rw [joined_lenP, List.length_append]; omega, by rw [HS.out, y1]⟩
          · rw [HS.out, S5.out.some he]
        case measure =>
          rw [leftR_of R6.out, HLR.out]
          have hy := HY.out
          split
          · rename_i he
            subst he
            obtain ⟨y1, y2, y3⟩ := S5.out.zero
            have ht := HT.out
            rw [y1] at ht
            have hd := ht.drop
            omega
          · omega
    · have be : (e == 0) = false := by simpa using he
      have HX := Lib.hid (hbad he)
      have HE := Lib.hid he
      clear hz hbad he
      go_wp2_with (fail)
      go_ret
      exact ⟨l, _, J, p, e, rfl, ⟨A0, c0, rfl, J1.out, J2.out⟩, K2.out, R2.out, by omega, by omega, by rw [HW.out, HX.out]; exact .bad HE.out⟩
theorem c_ref11_all3 (N : Int) : ∀ f, OneR N f ∧ AllR N f ∧ AnyR N f := by
  intro f
  induction f using Nat.strongRecOn with
  | ind f ih =>
    cases f with
    | zero => exact ⟨fun L I b w _ _ _ hf => by omega, fun L I b w _ _ _ hf => by omega, fun L I b w _ _ _ hf => by omega⟩
    | succ f =>
      have h1 : ∀ f' ≤ f, OneR N f' := fun f' h => (ih f' (by omega)).1
      have h2 : ∀ f' ≤ f, AllR N f' := fun f' h => (ih f' (by omega)).2.1
      have h3 : ∀ f' ≤ f, AnyR N f' := fun f' h => (ih f' (by omega)).2.2
      exact ⟨oneR_of_any N f h1 h3, allR_of_one N f h1, anyR_of_all N f h2⟩
end Go.Proofs.Ytbidnflcbgnckaa
namespace Go.Proofs.Ytbidnflcbgnckaa
open Go.RowKit

theorem fil_nz {M : Nat} {N : Int} {ws : List Wd} {p e : Int} (h : Wds M ws) (hp : pTop N ws = .bad p e) : e ≠ 0 := by
  have := pTop_told N h
  rw [hp] at this
  rcases this with h | h <;> omega
set_option maxRecDepth 10000 in
set_option maxHeartbeats 2000000 in
theorem c_ref11_Filter (s : List UInt8) (w : World) (hs : s.length ≤ 9223372036854775807) : Calls Try.prog 7 #[.string (str s)] w (RetFil w (fil s)) := by
  go_enter Try.func7, Try.ntmps7
  go_wp2_with (fail)
  refine (c_ref09_All s w hs).mono ?_
  rintro e w1 ⟨hb1, hx⟩
  rcases hx with ⟨hl, rfl⟩ | ⟨hl, ⟨k, hk, rfl⟩ | ⟨v, ws, hk, rfl, own⟩⟩
  · have F := Lib.hid (fil_long hl)
    clear hl
    go_wp2_with (fail)
    go_ret3
    rw [F.out]
    exact ⟨hb1, by omega, rfl⟩
  · have F := Lib.hid (fil_lex (by omega) hk)
    clear hk
    go_wp2_with (fail)
    go_ret3
    rw [F.out]
    exact ⟨hb1, by omega, rfl⟩
  · obtain ⟨hn, hM⟩ := lexS_short hk
    obtain ⟨A, c, rfl, hI, hA⟩ := own_at Wd.cells_len own (by omega)
    have HK := Lib.hid hk
    have HM := Lib.hid hM
    have B1 := Lib.hid hb1
    have z1 := hb1.size
    have HI := Lib.hid hI
    have HA := Lib.hid hA
    clear hk hM hb1 hI hA own
    obtain ⟨b, hb⟩ : ∃ b, b = w1.heap.size := ⟨_, rfl⟩
    obtain ⟨w2, hw2⟩ : ∃ w2, w2 = w1.alloc (.cells #[.slice A ws.length c, .int .i64 0, .int .i64 0, .int .i64 0, .int .i64 (s.length : Int)] 54) := ⟨_, rfl⟩
    have b2 : Below w1.heap.size w1 w2 := by rw [hw2]; exact (by repeat (first | exact Below.refl _ _ | refine Below.drew ?_ | refine Below.alloc ?_ (by first | omega | (simp; done) | (simp; omega)) _ | refine Below.setCell ?_ (by first | omega | (simp; done) | (simp; omega)) _ | refine Below.trans ?_ (Below.mono (by assumption) (by first | omega | (simp; done) | (simp; omega)))))
    have R2 := Lib.hid (show Rst w2 w1.heap.size ws s.length 0 0 0 from ⟨A, c, by rw [hw2]; exact Blk.new _ _ _, HI.out.below b2, fun ad e => by have := (HA.out ad e).2; omega⟩)
    have B2 := Lib.hid (B1.out.trans (b2.mono z1))
    clear b2
    go_wp2_with (rw [← hw2]; clear hw2)
    have hbl0 := R2.out.lt
    refine ((c_ref11_all3 s.length (4 * ws.length + 8)).2.2 ws 0 _ w2 R2.out (by omega) (by omega) (by rw [List.drop_zero]; omega)).mono ?_
    rintro e3 w3 ⟨l, v, J, p, e, rfl, ⟨A0, c0, rfl, j1, j2⟩, k3, q3, hJ, hl, s3⟩
    rw [List.drop_zero] at hJ hl s3
    have K3 := Lib.hid (B2.out.trans (k3.below B2.out.size (fun g e => by injection e with e; omega)))
    have R3 := Lib.hid q3
    have J3 := Lib.hid j1
    have U3 := Lib.hid j2
    have S3 := Lib.hid s3
    have hJB : J ≤ 1000000 := by omega
    clear k3 q3 j1 j2 s3
    by_cases he : e = 0
    · subst he
      obtain ⟨y1, rfl, y3⟩ := S3.out.zero
      have Y1 := Lib.hid y1
      clear y1
      obtain ⟨A9, c9, hB, hI, hA⟩ := R3.out
      have hbl := hB.lt
      have r1 := hB.cell (i := 1) rfl
      have r3 := hB.cell (i := 3) rfl
      clear hB hI hA
      by_cases hlt : J < ws.length
      · have dl : decide (J < ws.length) = true := by simpa using hlt
        have HP := Lib.hid (show pTop s.length ws = .bad (posW s.length (ws.drop J)) 3 by unfold pTop; rw [Y1.out]; simp only; rw [if_neg (by rw [drop_at hlt]; exact List.cons_ne_nil _ _)])
        clear hlt
        go_wp2_with (fail)
        clear r1 r3
        refine (c_ref11_place ws s.length J 0 0 _ _ R3.out).mono ?_
        rintro e4 w4 ⟨rfl, hb4⟩
        have R4 := Lib.hid (R3.out.below hb4)
        have K4 := Lib.hid (K3.out.trans (hb4.mono K3.out.size))
        clear hb4
        go_wp2_with (fail)
        refine (c_ref11_fail ws s.length J _ 0 0 _ 3 _ R4.out).mono ?_
        rintro e5 w5 ⟨rfl, k5, q5⟩
        obtain ⟨q, hq⟩ : ∃ q, q = posW s.length (ws.drop J) := ⟨_, rfl⟩
        rw [← hq] at q5 HP ⊢
        have R5 := Lib.hid (show Rst w5 w1.heap.size ws s.length J q 3 by simpa using q5)
        have K5 := Lib.hid (K4.out.trans (k5.below K4.out.size (fun g e => by injection e with e; omega)))
        clear k5 q5 hq
        -- 5 the world's number, J the place's name, q the place, 3 the error: what is wrong is handed back
        obtain ⟨A9, c9, hB, hI, hA⟩ := R5.out
        have hbl := hB.lt
        have r2 := hB.cell (i := 2) rfl
        have r3 := hB.cell (i := 3) rfl
        clear hB hI hA
        have NZ := Lib.hid (fil_nz HM.out HP.out)
        have bz : ((3 : Int) == 0) = false := beq_eq_false_iff_ne.2 NZ.out
        have bz2 : ((3 : Int) != 0) = true := bne_iff_ne.2 NZ.out
        have F := Lib.hid (fil_bad (by omega) HK.out HP.out)
        clear bz bz2
        go_wp2_with (fail)
        go_quiet (fail)
        go_wp2_with (fail)
        go_ret3
        rw [F.out]
        exact ⟨Below.drewN K5.out _, by decide, rfl⟩
      · have dl : decide (J < ws.length) = false := by simpa using hlt
        have HP := Lib.hid (show pTop s.length ws = .ok l [] by unfold pTop; rw [Y1.out]; simp only; rw [if_pos (drop_out hlt)])
        have T := pTop_told s.length HM.out
        rw [HP.out] at T
        have HT := Lib.hid T.1
        clear hlt T
        go_wp2_with (fail)
        clear r1 r3
        refine (c_ref10_Check l A0 c0 _ J3.out (fun x hx => by have := HT.out x hx; omega)).mono ?_
        rintro e w5 ⟨rfl, hb5⟩
        have B5 := Lib.hid (K3.out.trans (hb5.mono K3.out.size))
        have I5 := Lib.hid (J3.out.below hb5)
        clear hb5
        by_cases hc : check l = 0
        · have F := Lib.hid (fil_ok (by omega) HK.out HP.out hc)
          have HC := Lib.hid hc
          have bc : (check l != 0) = false := by simpa using hc
          clear hc
          go_wp2_with (fail)
          go_ret3
          rw [F.out]
          exact ⟨B5.out, HC.out, A0, c0, rfl, I5.out⟩
        · have F := Lib.hid (fil_check (by omega) HK.out HP.out hc)
          have HC := Lib.hid hc
          have bc : (check l != 0) = true := by simpa using hc
          clear hc
          go_wp2_with (fail)
          go_ret3
          rw [F.out]
          exact ⟨B5.out, HC.out, rfl⟩
    · have HP := Lib.hid (show pTop s.length ws = .bad p e by unfold pTop; rw [S3.out.some he])
      clear he
      -- 3 the world's number, J the place's name, p the place, e the error: what is wrong is handed back
      obtain ⟨A9, c9, hB, hI, hA⟩ := R3.out
      have hbl := hB.lt
      have r2 := hB.cell (i := 2) rfl
      have r3 := hB.cell (i := 3) rfl
      clear hB hI hA
      have NZ := Lib.hid (fil_nz HM.out HP.out)
      have bz : ((e : Int) == 0) = false := beq_eq_false_iff_ne.2 NZ.out
      have bz2 : ((e : Int) != 0) = true := bne_iff_ne.2 NZ.out
      have F := Lib.hid (fil_bad (by omega) HK.out HP.out)
      go_wp2_with (fail)
      go_quiet (fail)
      go_wp2_with (fail)
      go_ret3
      rw [F.out]
      exact ⟨Below.drewN K3.out _, NZ.out, rfl⟩
end Go.Proofs.Ytbidnflcbgnckaa
namespace Go.Proofs.Ytbidnflcbgnckaa
open Go.RowKit

abbrev pex1 : List UInt8 := [108, 97, 98, 101, 108, 32, 49, 32, 97, 110, 100, 32, 110, 111, 116, 32, 104, 97, 115, 32, 50]
abbrev pex2 : List UInt8 := [108, 97, 98, 101, 108, 32, 49, 54]
abbrev pex3 : List UInt8 := [108, 97, 98, 101, 108, 32, 49, 32, 111, 114]
abbrev pex1L : List Node := [⟨11, 0, ⟨0, 0, []⟩⟩, ⟨3, 1, ⟨0, 0, []⟩⟩, ⟨10, 0, ⟨0, 0, []⟩⟩, ⟨5, 2, ⟨0, 0, []⟩⟩]
theorem fil_ex1 : fil pex1 = .ok pex1L [] := by kernel_rfl
theorem fil_ex2 : fil pex2 = .bad 6 1 := by kernel_rfl
theorem fil_ex3 : fil pex3 = .bad 10 3 := by kernel_rfl
set_option maxRecDepth 10000 in
set_option maxHeartbeats 1000000 in
theorem c_law11_awake (w : World) : Calls Try.prog 5 #[] w (RetV w (.bool true)) := by
  have C1 := Lib.hid (c_parse_Filter pex1 w (by decide))
  rw [fil_ex1] at C1
  go_enter Try.func5, Try.ntmps5
  go_wp2_with (fail)
  refine C1.out.mono ?_
  rintro e w1 ⟨hb1, hc, A, c, rfl, hI⟩
  have B1 := Lib.hid hb1
  have I1 := Lib.hid hI
  clear hb1 hI hc
  have C2 := Lib.hid (c_parse_Filter pex2 w1 (by decide))
  rw [fil_ex2] at C2
  go_wp2_with (fail)
  refine C2.out.mono ?_
  rintro e w2 ⟨hb2, hc, rfl⟩
  have B2 := Lib.hid (B1.out.trans (hb2.mono B1.out.size))
  have I2 := Lib.hid (I1.out.below hb2)
  clear hb2 hc
  have C3 := Lib.hid (c_parse_Filter pex3 w2 (by decide))
  rw [fil_ex3] at C3
  go_wp2_with (fail)
  refine C3.out.mono ?_
  rintro e w3 ⟨hb3, hc, rfl⟩
  have B3 := Lib.hid (B2.out.trans (hb3.mono B2.out.size))
  have I3 := Lib.hid (I2.out.below hb3)
  clear hb3 hc
  go_wp2_with (fail)
  have hb4 : ∀ t, Below w3.heap.size w3 (w3.alloc (.cells (pex1L.flatMap Node.cells).toArray t)) := fun t => (by repeat (first | exact Below.refl _ _ | refine Below.drew ?_ | refine Below.alloc ?_ (by first | omega | (simp; done) | (simp; omega)) _ | refine Below.setCell ?_ (by first | omega | (simp; done) | (simp; omega)) _ | refine Below.trans ?_ (Below.mono (by assumption) (by first | omega | (simp; done) | (simp; omega)))))
  refine (c_ref10_Same pex1L pex1L _ _ _ _ _ (I3.out.below (hb4 _)) (In.lit (k := 5) (cs := Node.cells) Node.cells_len w3 pex1L _ 4 rfl (by simp))).mono ?_
  rintro e w5 ⟨rfl, hb5⟩
  have B5 := Lib.hid (B3.out.trans (((hb4 _).trans (hb5.mono (hb4 _).size)).mono B3.out.size))
  clear hb5 hb4
  go_wp2_with (fail)
  go_ret
  exact RetV.bool (by simp) B5.out
set_option maxHeartbeats 1000000 in
theorem law11_ParseTells_long (s : List UInt8) (w : World) (h : 3000 < s.length) (_hs : s.length ≤ 9223372036854775807) : Calls Try.prog 3 #[.string (str s)] w (RetV w (.bool true)) := by
  have d1 : decide ((3000 : Int) < (s.length : Int)) = true := by rw [decide_eq_true_iff]; omega
  go_enter Try.func3, Try.ntmps3
  go_wp2_with (fail)
  refine (c_law11_awake _).mono ?_
  rintro e w1 ⟨rfl, hb1⟩
  go_wp2_with (fail)
  go_ret
  exact RetV.bool rfl hb1
set_option maxHeartbeats 1000000 in
theorem c_law11_ParseTells (s : List UInt8) (w : World) (hs : s.length ≤ 9223372036854775807) : Calls Try.prog 3 #[.string (str s)] w (RetV w (.bool true)) := by
  by_cases hl : 3000 < s.length
  · exact law11_ParseTells_long s w hl hs
  have d1 : decide ((3000 : Int) < (s.length : Int)) = false := by rw [decide_eq_false_iff_not]; omega
  go_enter Try.func3, Try.ntmps3
  go_wp2_with (fail)
  refine (c_parse_Filter s w hs).mono ?_
  rintro e w1 ⟨hb1, hx⟩
  have B1 := Lib.hid hb1
  have C2 := Lib.hid (c_ref11_Filter s w1 hs)
  clear hb1
  cases hf : fil s with
  | bad p er =>
    rw [hf] at hx C2
    obtain ⟨h1, rfl⟩ := hx
    clear h1 hf
    go_wp2_with (fail)
    refine C2.out.mono ?_
    rintro e w2 ⟨hb2, h2, rfl⟩
    have B2 := Lib.hid (B1.out.trans (hb2.mono B1.out.size))
    clear hb2 h2
    go_wp2_with (fail)
    refine (c_ref10_Same ([] : List Node) ([] : List Node) _ _ _ _ _ (In.nil (by omega)) (In.nil (by omega))).mono ?_
    rintro e w4 ⟨rfl, hb4⟩
    have B4 := Lib.hid (B2.out.trans (hb4.mono B2.out.size))
    have es : decide (([] : List Node) = ([] : List Node)) = true := by simp
    rw [es]
    clear hb4 es
    go_wp2_with (fail)
    refine (c_law11_awake _).mono ?_
    rintro e w5 ⟨rfl, hb5⟩
    have B5 := Lib.hid (B4.out.trans (hb5.mono B4.out.size))
    clear hb5
    go_wp2_with (fail)
    go_ret
    exact RetV.bool (by simp) B5.out
  | ok l r =>
    rw [hf] at hx C2
    obtain ⟨h1, A, c, rfl, hI⟩ := hx
    have I1 := Lib.hid hI
    clear h1 hf hI
    go_wp2_with (fail)
    refine C2.out.mono ?_
    rintro e w2 ⟨hb2, h2, A2, c2, rfl, hI2⟩
    have B2 := Lib.hid (B1.out.trans (hb2.mono B1.out.size))
    have I2 := Lib.hid (I1.out.below hb2)
    have J2 := Lib.hid hI2
    clear hb2 h2 hI2
    go_wp2_with (fail)
    refine (c_ref10_Same l l _ _ _ _ _ I2.out J2.out).mono ?_
    rintro e w4 ⟨rfl, hb4⟩
    have B4 := Lib.hid (B2.out.trans (hb4.mono B2.out.size))
    have es : decide (l = l) = true := by simp
    rw [es]
    clear hb4 es
    go_wp2_with (fail)
    refine (c_law11_awake _).mono ?_
    rintro e w5 ⟨rfl, hb5⟩
    have B5 := Lib.hid (B4.out.trans (hb5.mono B4.out.size))
    clear hb5
    go_wp2_with (fail)
    go_ret
    exact RetV.bool (by simp) B5.out
end Go.Proofs.Ytbidnflcbgnckaa
namespace Go.Proofs.Ytbidnflcbgnckaa
open Go.RowKit

theorem fil_inv {s : List UInt8} {l : List Node} {r : List Wd} (h : fil s = .ok l r) : ∃ ws, lexS s = (ws, none) ∧ pTop s.length ws = .ok l [] ∧ check l = 0 := by
  unfold fil at h
  split at h
  · cases h
  · rename_i h1
    generalize hx : lexS s = x at h
    obtain ⟨ws, o⟩ := x
    cases o with
    | some k => cases h
    | none =>
      simp only at h
      cases hp : pTop s.length ws with
      | bad p e => rw [hp] at h; cases h
      | ok m q =>
        rw [hp] at h
        simp only at h
        by_cases hc : check m = 0
        · rw [if_pos hc] at h
          injection h with h2 h3
          subst h2
          refine ⟨ws, rfl, ?_, hc⟩
          rw [hp]
          unfold pTop at hp
          split at hp
          · cases hp
          · split at hp
            · injection hp with a1 a2; rw [a2]
            · cases hp
        · rw [if_neg hc] at h; cases h
/-- A text of words that were read, with blanks between them, is read as the same. -/
theorem fil_blanks {s : List UInt8} {l : List Node} {r : List Wd} (h : fil s = .ok l r) {ws : List Wd} (hw : lexS s = (ws, none)) (gl : List (Wd × Nat)) (hg : gl.map (·.1) = ws) (ht : (bText gl).length ≤ 1000) : fil (bText gl) = .ok l [] := by
  obtain ⟨ws', h1, h2, h3⟩ := fil_inv h
  rw [hw] at h1
  injection h1 with h1 _
  subst h1
  have hmay : ∀ x ∈ gl, Wd.may x.1.kind x.1.n x.1.s := by
    intro x hx
    have hm : x.1 ∈ ws := by rw [← hg]; exact List.mem_map_of_mem hx
    have h4 : ws = (lexF s.length s 0).1 := by have := congrArg Prod.fst hw; exact this.symm
    exact lexF_may _ _ _ _ (by rw [← h4]; exact hm)
  obtain ⟨q, h4, h5⟩ := lexF_b gl 0 hmay
  rw [hg] at h5
  obtain ⟨q2, h6, h7⟩ := (pTop_alk s.length (bText gl).length h5).ok h2
  have : q2 = [] := by cases h7; rfl
  subst this
  exact fil_ok (by omega) h4 h6 h3
def gapK (gs : List UInt8) (i : Nat) : Nat := if h : i < gs.length then gs[i].toNat % 3 else 0
theorem gapK_le (gs : List UInt8) (i : Nat) : gapK gs i ≤ 2 := by unfold gapK; split <;> omega
set_option maxHeartbeats 1000000 in
theorem law11_Blanks_long (s : List UInt8) (G : Option Addr) (gn gc : Nat) (w : World) (h : 300 < s.length) (_hs : s.length ≤ 9223372036854775807) : Calls Try.prog 4 #[.string (str s), .slice G gn gc] w (RetV w (.bool true)) := by
  have d1 : decide ((300 : Int) < (s.length : Int)) = true := by rw [decide_eq_true_iff]; omega
  go_enter Try.func4, Try.ntmps4
  go_wp2_with (fail)
  refine (c_law11_awake _).mono ?_
  rintro e w1 ⟨rfl, hb1⟩
  go_wp2_with (fail)
  go_ret
  exact RetV.bool rfl hb1
set_option maxHeartbeats 4000000 in
set_option maxRecDepth 10000 in
theorem c_law11_ParseBlanks (s : List UInt8) (G : Option Addr) (gs : List UInt8) (gc : Nat) (w : World) (hs : s.length ≤ 9223372036854775807)
    (hgl : gs.length ≤ gc) (hgc : gc ≤ 9223372036854775807) (hgi : gs = [] ∨ ∃ b off, G = some ⟨b, off, none⟩ ∧ b < w.heap.size ∧ Row 1 bc w b off gs) :
    Calls Try.prog 4 #[.string (str s), .slice G gs.length gc] w (RetV w (.bool true)) := by
  by_cases hl : 300 < s.length
  · exact law11_Blanks_long s G _ gc w hl hs
  have d1 : decide ((300 : Int) < (s.length : Int)) = false := by rw [decide_eq_false_iff_not]; omega
  have HG := Lib.hid hgi
  clear hgi
  go_enter Try.func4, Try.ntmps4
  go_wp2_with (fail)
  refine (c_parse_Filter s w hs).mono ?_
  rintro e w1 ⟨hb1, hx⟩
  have B1 := Lib.hid hb1
  clear hb1
  cases hf : fil s with
  | bad p er =>
    rw [hf] at hx
    obtain ⟨h1, rfl⟩ := hx
    have be : (er != 0) = true := by simpa using h1
    clear h1 hf
    go_wp2_with (fail)
    refine (c_law11_awake _).mono ?_
    rintro e w2 ⟨rfl, hb2⟩
    have B2 := Lib.hid (B1.out.trans (hb2.mono B1.out.size))
    clear hb2
    go_wp2_with (fail)
    go_ret
    exact RetV.bool rfl B2.out
  | ok l r =>
    rw [hf] at hx
    obtain ⟨hc0, A, c, rfl, hI⟩ := hx
    have I1 := Lib.hid hI
    have HF := Lib.hid hf
    have HC := Lib.hid hc0
    clear hf hI hc0
    go_wp2_with (fail)
    refine (c_ref09_All s _ hs).mono ?_
    rintro e w2 ⟨hb2, hx⟩
    have B2 := Lib.hid (B1.out.trans (hb2.mono B1.out.size))
    have I2 := Lib.hid (I1.out.below hb2)
    obtain ⟨ws, hk, hp⟩ := fil_inv HF.out
    obtain ⟨v, rfl, own⟩ : ∃ v, e = .returned (.tuple #[v, .int .i64 0, .int .i64 0]) ∧ w2.ownsRow w1.heap.size 35 4 v ws.length (ws.flatMap Wd.cells) := by
      rcases hx with ⟨h, -⟩ | ⟨-, ⟨k, h, -⟩ | ⟨v, ws', h, he, own⟩⟩
      · omega
      · rw [hk] at h; cases h
      · rw [hk] at h
        injection h with h _
        subst h
        exact ⟨v, he, own⟩
    obtain ⟨hn, hM⟩ := lexS_short hk
    obtain ⟨W, wc, rfl, hw, -⟩ := own_at Wd.cells_len own (by omega)
    have HK := Lib.hid hk
    have HM := Lib.hid hM
    have HW := Lib.hid hw
    have hmay := Lib.hid (show ∀ x ∈ ws, Wd.may x.kind x.n x.s by
      have h4 : ws = (lexF s.length s 0).1 := by have := congrArg Prod.fst hk; exact this.symm
      intro x hx
      exact lexF_may _ _ _ _ (by rw [← h4]; exact hx))
    have hwL := hw.1
    have hwC := hw.2.1
    clear hb2 hx own hk hp hM hw
    have z2 := B2.out.size
    go_wp2_with (fail)
    rw [show ({data := #[]} : ByteArray) = str [] from rfl]
    go_loopw [11, 12, 13] (fun t i k wr => ∃ (j : Nat) (gl : List (Wd × Nat)) (tl : List UInt8), j ≤ ws.length ∧ t = .string (str tl) ∧ i = .int .i64 j ∧ tl.length ≤ 5003 * j ∧ Hid (tl = bText gl) ∧ Hid (gl.map (·.1) = ws.take j) ∧ Hid (Below w2.heap.size w2 wr))
      (fun _ i _ _ => ws.length - (intOf i).toNat)
    case atStart => exact ⟨0, [], [], by omega, rfl, rfl, by simp, rfl, rfl, Below.refl _ _⟩
    case round =>
      obtain ⟨j, gl, tl, hj, rfl, rfl, htl, T, GM, BW⟩ := hrel
      by_cases hlt : j < ws.length
      · have dl : decide (j < ws.length) = true := by simpa using hlt
        obtain ⟨b, off, rfl, hb, RX⟩ := HW.out.wd hlt
        obtain ⟨c0, c1, c2, c3⟩ := RX _ BW.out
        have hx := hmay.out ws[j] (List.getElem_mem hlt)
        have hxs := HM.out ws[j] (List.getElem_mem hlt)
        obtain ⟨x, hxx⟩ : ∃ x, x = ws[j] := ⟨_, rfl⟩
        rw [← hxx] at c0 c1 c2 c3 hx hxs
        have HXX := Lib.hid hxx
        obtain ⟨xk, xn, xp, xs⟩ := x
        simp only at c0 c1 c2 c3 hx hxs
        have hxn : xk = 2 → 0 ≤ xn ∧ xn ≤ 1099511627776 := by
          intro e
          rcases hx with h | h | h | h
          · omega
          · exact h.2.2
          · omega
          · omega
        have CT := Lib.hid (fun w' => c_ref09_Text xk xn xp xs w' hxn (by omega))
        obtain ⟨tx, htx⟩ : ∃ tx, tx = wText xk xn xs := ⟨_, rfl⟩
        rw [← htx] at CT
        have hlx : tx.length ≤ 5000 := by rw [htx]; exact wText_len hxn (by omega)
        have HTX := Lib.hid htx
        clear hxx RX htx hx hxs
        go_wp2_with (fail)
        refine (CT.out _).mono ?_
        rintro e w3 ⟨rfl, hb3⟩
        have B3 := Lib.hid (BW.out.trans (hb3.mono BW.out.size))
        obtain ⟨g, hg⟩ : ∃ g, g = gapK gs j := ⟨_, rfl⟩
        have hg2 : g ≤ 2 := by rw [hg]; exact gapK_le gs j
        obtain ⟨t0, ht0⟩ : ∃ t0, t0 = tl ++ 32 :: tx := ⟨_, rfl⟩
        have htl0 : t0.length ≤ 5003 * j + 5001 := by rw [ht0, List.length_append, List.length_cons]; omega
        have HT0 := Lib.hid ht0
        have HGK := Lib.hid hg
        have HLT := Lib.hid hlt
        clear hb3 c0 c1 c2 c3 hg CT
        go_wp2_with (fail)
        rw [← ht0]
        clear ht0
        go_loopw [11, 13] (fun t i wr => ∃ (k : Nat) (tl2 : List UInt8), k ≤ g ∧ t = .string (str tl2) ∧ i = .int .i64 k ∧ tl2.length = t0.length + k ∧ Hid (tl2 = t0 ++ List.replicate k 32) ∧ Hid (Below w2.heap.size w2 wr)) (fun _ i _ => g - (intOf i).toNat)
        case atStart => exact ⟨0, t0, by omega, rfl, rfl, by omega, by show _ = _; simp, B3⟩
        case round =>
          obtain ⟨k, tl2, hk, rfl, rfl, htl2, T2, B2'⟩ := hrel
          by_cases hgj : j < gs.length
          · have dg : decide (j < gs.length) = true := by simpa using hgj
            obtain ⟨bo, oo, rfl, hbo, RO⟩ : ∃ b off, G = some ⟨b, off, none⟩ ∧ b < w.heap.size ∧ Row 1 bc w b off gs := by
              rcases HG.out with h | h
              · rw [h] at hgj; simp at hgj
              · exact h
            have qo : wr.cell? ⟨bo, oo + j, none⟩ = some (.int .u8 gs[j].toNat) := by
              have := ((RO.below B2.out hbo).below B2'.out (by omega)) j hgj 0 _ rfl
              simpa using this
            have hgv : g = gs[j].toNat % 3 := by rw [HGK.out]; unfold gapK; rw [dif_pos hgj]
            obtain ⟨y, hy⟩ : ∃ y, y = gs[j].toNat := ⟨_, rfl⟩
            rw [← hy] at qo hgv
            have hr2 : (y : Int).tmod 3 = (g : Int) := by rw [Int.tmod_eq_emod_of_nonneg (by omega)]; omega
            have hy8 : y < 256 := by rw [hy]; exact gs[j].toNat_lt
            have hbr := B2'.out.size
            have HGV := Lib.hid hgv
            clear hy hgv RO
            by_cases hkg : k < g
            · have dk : decide (k < g) = true := by simpa using hkg
              have hkl : tl2.length ≤ 2000000 := by omega
              clear hr2
              have hr2 : (y : Int).tmod 3 = (g : Int) := by rw [Int.tmod_eq_emod_of_nonneg (by omega)]; have := HGV.out; omega
              go_wp2_with (fail)
              go_roundw
              case rel => exact ⟨k + 1, tl2 ++ [32], by omega, rfl, by go_num, by rw [List.length_append, List.length_singleton]; omega, by show _ = _; rw [T2.out, List.append_assoc, ← List.replicate_succ'], B2'⟩
              case measure => simp [intOf]; omega
            · have dk : decide (k < g) = false := by simpa using hkg
              go_wp2_with (fail)
              go_roundw
              case rel =>
                have hkg2 : k = g := by omega
                subst hkg2
                refine ⟨j + 1, gl ++ [(⟨xk, xn, xp, xs⟩, k)], tl2, HLT.out, rfl, by go_num, by omega, ?_, ?_, B2'⟩
                · show _ = _
                  rw [T2.out, HT0.out, bText_snoc, ← T.out, HTX.out, List.append_assoc]; rfl
                · show _ = _
                  rw [List.map_append, GM.out, List.take_succ_eq_append_getElem HLT.out, ← HXX.out]; rfl
              case measure => have := HLT.out; simp [intOf]; omega
          · have dg : decide (j < gs.length) = false := by simpa using hgj
            have hgv : g = 0 := by rw [HGK.out]; unfold gapK; rw [dif_neg hgj]
            have HGV := Lib.hid hgv
            clear hgv
            have hkg : ¬ k < g := by have := HGV.out; omega
            go_wp2_with (fail)
            go_roundw
            case rel =>
              have hkg2 : k = g := by omega
              subst hkg2
              refine ⟨j + 1, gl ++ [(⟨xk, xn, xp, xs⟩, k)], tl2, HLT.out, rfl, by go_num, by omega, ?_, ?_, B2'⟩
              · show _ = _
                rw [T2.out, HT0.out, bText_snoc, ← T.out, HTX.out, List.append_assoc]; rfl
              · show _ = _
                rw [List.map_append, GM.out, List.take_succ_eq_append_getElem HLT.out, ← HXX.out]; rfl
            case measure => have := HLT.out; simp [intOf]; omega
      · have dl : decide (j < ws.length) = false := by simpa using hlt
        have hjw : j = ws.length := by omega
        have HT := Lib.hid (fun h => fil_blanks HF.out HK.out gl (by rw [GM.out, List.take_of_length_le (by omega)]) h)
        have htB : tl.length ≤ 2000000 := by omega
        by_cases ht : 1000 < tl.length
        · have dt : decide ((1000 : Int) < (tl.length : Int)) = true := by rw [decide_eq_true_iff]; omega
          clear ht hlt hjw
          go_wp2_with (fail)
          refine (c_law11_awake _).mono ?_
          rintro e w3 ⟨rfl, hb3⟩
          have B3 := Lib.hid (B2.out.trans ((BW.out.trans (hb3.mono BW.out.size)).mono z2))
          clear hb3
          go_wp2_with (fail)
          go_ret
          exact RetV.bool rfl B3.out
        · have dt : decide ((1000 : Int) < (tl.length : Int)) = false := by rw [decide_eq_false_iff_not]; omega
          have F2 := HT.out (by rw [← T.out]; omega)
          rw [← T.out] at F2
          have C2 := Lib.hid (c_parse_Filter tl wr (by omega))
          rw [F2] at C2
          have I2' := Lib.hid (I2.out.below BW.out)
          clear ht hlt hjw F2
          go_wp2_with (fail)
          refine C2.out.mono ?_
          rintro e w3 ⟨hb3, -, A3, c3, rfl, hI3⟩
          have B3 := Lib.hid (B2.out.trans ((BW.out.trans (hb3.mono BW.out.size)).mono z2))
          have I3 := Lib.hid (I2'.out.below hb3)
          have J3 := Lib.hid hI3
          have HTX := Lib.hid (show ∀ x ∈ l, x.v.s.length ≤ 9223372036854775807 by
            obtain ⟨ws', h1, h2, -⟩ := fil_inv HF.out
            have h3 := pTop_told s.length (lexS_short h1).2
            rw [h2] at h3
            intro x hx
            have := h3.1 x hx
            omega)
          clear hb3 hI3
          go_wp2_with (fail)
          refine (c_ref10_Check l A c _ I3.out HTX.out).mono ?_
          rintro e w4 ⟨rfl, hb4⟩
          have B4 := Lib.hid (B3.out.trans (hb4.mono B3.out.size))
          have I4 := Lib.hid (I3.out.below hb4)
          have J4 := Lib.hid (J3.out.below hb4)
          rw [HC.out]
          clear hb4
          go_wp2_with (fail)
          refine (c_ref10_Same l l _ _ _ _ _ I4.out J4.out).mono ?_
          rintro e w5 ⟨rfl, hb5⟩
          have B5 := Lib.hid (B4.out.trans (hb5.mono B4.out.size))
          rw [show decide (l = l) = true by simp]
          clear hb5
          go_wp2_with (fail)
          refine (c_law11_awake _).mono ?_
          rintro e w6 ⟨rfl, hb6⟩
          have B6 := Lib.hid (B5.out.trans (hb6.mono B5.out.size))
          clear hb6
          go_wp2_with (fail)
          go_ret
          exact RetV.bool (by simp) B6.out
end Go.Proofs.Ytbidnflcbgnckaa
