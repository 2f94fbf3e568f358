/-
  Lemmas (walks and plain laws), in one text.
-/
import Derived.Test.YtldoedmclfbgpaaBw1
import Derived.Maps.Own
import Derived.Great.BuildSlice
import Derived.Laws.Tables
import Derived.StillTail
namespace Go.Proofs.Ytldoedmclfbgpaa
open Go.RowKit

/-- A value's bytes. -/
def valB (x : Val) : List UInt8 := if x.ok then num x.kind ++ (if x.kind = 1 then num x.n else if x.kind = 2 then strB x.s else []) else []
theorem valB_none {x : Val} (h : x.ok = false) : valB x = [] := by unfold valB; rw [h]; rfl
theorem valB_0 {x : Val} (h : x.ok = true) (hk : x.kind = 0) : valB x = num x.kind := by unfold valB; rw [if_pos h, if_neg (by omega), if_neg (by omega), List.append_nil]
theorem valB_1 {x : Val} (h : x.ok = true) (hk : x.kind = 1) : valB x = num x.kind ++ num x.n := by unfold valB; rw [if_pos h, if_pos hk]
theorem valB_2 {x : Val} (h : x.ok = true) (hk : x.kind = 2) : valB x = num x.kind ++ strB x.s := by unfold valB; rw [if_pos h, if_neg (by omega), if_pos hk]
theorem Val.ok_len {x : Val} (h : x.ok = true) : x.s.length ≤ 24 := by
  unfold Val.ok at h
  by_cases h0 : x.kind = 0
  · simp [h0] at h; simp [h.2]
  · by_cases h1 : x.kind = 1
    · simp [h1] at h; simp [h.2]
    · by_cases h2 : x.kind = 2
      · simp [h2] at h; exact h.2
      · simp [h0, h1, h2] at h
theorem valB_len (x : Val) : (valB x).length ≤ 38 := by
  rcases Val.ok_cases x with ⟨h, _⟩ | ⟨h, _, hk⟩ | ⟨h, _, hk⟩ | ⟨h, _, hk⟩
  · rw [valB_none h]; simp
  · have := num_len x.kind; rw [valB_0 h hk]; omega
  · have := num_len x.kind; have := num_len x.n; rw [valB_1 h hk, List.length_append]; omega
  · have := num_len x.kind; have := num_len x.s.length; have := Val.ok_len h; rw [valB_2 h hk, List.length_append, strB, List.length_append]; omega

set_option maxHeartbeats 400000 in
set_option maxRecDepth 4000 in
theorem c_cardwire_PutValue (l : List UInt8) (A : Option Addr) (c : Nat) (x : Val) (w : World) (h : InB w A c l) (hl : l.length ≤ 1073741824) (hs : x.s.length ≤ 4294967000) :
    Calls Try.prog 84 #[.slice A l.length c, x.val] w (RetS 1 bc 5 w (l ++ valB x)) := by
  have hL := h.1
  have hC := h.2.1
  have hS := h.2.2.1
  have hn1 := (num_len x.kind).2
  have hn2 := (num_len x.n).2
  unfold Val.val
  rcases Val.ok_cases x with ⟨hok, _⟩ | ⟨hok, _, hk⟩ | ⟨hok, _, hk⟩ | ⟨hok, _, hk⟩
  · have H : Hid (l = l ++ valB x) := by rw [valB_none hok, List.append_nil]; rfl
    go_enter Try.func84, Try.ntmps84
    go_wp2_with (first
      | (go_at_call 130; refine (c_value_Check x _ (by omega)).mono ?_; rintro e w1 ⟨rfl, hb1⟩; have hz1 := hb1.size; simp only [World.size_alloc] at hz1; have q1 := fun o => hb1.cell (p := ⟨w.heap.size, o, none⟩) (by simp); have hlt1 : w.heap.size < w1.heap.size := by omega)
      | (go_at_call 45; refine (c_Clone_b l A c _ (h.below (by repeat (first | exact Below.refl _ _ | refine Below.drew ?_ | refine Below.alloc ?_ (by first | omega | (simp; done) | (simp; omega)) _ | refine Below.setCell ?_ (by first | omega | (simp; done) | (simp; omega)) _ | refine Below.trans ?_ (Below.mono (by assumption) (by first | omega | (simp; done) | (simp; omega))))))).mono ?_; rintro e w2 ⟨v2, rfl, own2, hb2⟩))
    go_ret
    exact RetS.of own2 (by omega) H.out (by repeat (first | exact Below.refl _ _ | refine Below.drew ?_ | refine Below.alloc ?_ (by first | omega | (simp; done) | (simp; omega)) _ | refine Below.setCell ?_ (by first | omega | (simp; done) | (simp; omega)) _ | refine Below.trans ?_ (Below.mono (by assumption) (by first | omega | (simp; done) | (simp; omega)))))
  · have H : Hid (l ++ num x.kind = l ++ valB x) := by rw [valB_0 hok hk]; rfl
    obtain ⟨k, n, s⟩ := x
    obtain rfl : k = 0 := hk
    simp only at *
    go_enter Try.func84, Try.ntmps84
    go_wp2_with (first
      | (go_at_call 130; refine (c_value_Check ⟨0, n, s⟩ _ (by have := hs; simp at this ⊢; omega)).mono ?_; rintro e w1 ⟨rfl, hb1⟩; have hz1 := hb1.size; simp only [World.size_alloc] at hz1; have q1 := fun o => hb1.cell (p := ⟨w.heap.size, o, none⟩) (by simp); have hlt1 : w.heap.size < w1.heap.size := by omega)
      | (go_at_call 46; refine (c_octet_Num l A c _ _ (h.below (by repeat (first | exact Below.refl _ _ | refine Below.drew ?_ | refine Below.alloc ?_ (by first | omega | (simp; done) | (simp; omega)) _ | refine Below.setCell ?_ (by first | omega | (simp; done) | (simp; omega)) _ | refine Below.trans ?_ (Below.mono (by assumption) (by first | omega | (simp; done) | (simp; omega))))))).mono ?_; rintro e w2 ⟨v2, rfl, own2, hb2⟩; have q2 := fun o => hb2.cell (p := ⟨w.heap.size, o, none⟩) (by omega)))
    go_ret
    exact RetS.of own2 (by omega) H.out (by repeat (first | exact Below.refl _ _ | refine Below.drew ?_ | refine Below.alloc ?_ (by first | omega | (simp; done) | (simp; omega)) _ | refine Below.setCell ?_ (by first | omega | (simp; done) | (simp; omega)) _ | refine Below.trans ?_ (Below.mono (by assumption) (by first | omega | (simp; done) | (simp; omega)))))
  · have H : Hid (l ++ num x.kind ++ num x.n = l ++ valB x) := by rw [valB_1 hok hk, List.append_assoc]; rfl
    obtain ⟨k, n, s⟩ := x
    obtain rfl : k = 1 := hk
    simp only at *
    go_enter Try.func84, Try.ntmps84
    go_wp2_with (first
      | (go_at_call 130; refine (c_value_Check ⟨1, n, s⟩ _ (by have := hs; simp at this ⊢; omega)).mono ?_; rintro e w1 ⟨rfl, hb1⟩; have hz1 := hb1.size; simp only [World.size_alloc] at hz1; have q1 := fun o => hb1.cell (p := ⟨w.heap.size, o, none⟩) (by simp); have hlt1 : w.heap.size < w1.heap.size := by omega)
      | (go_at_call 46; refine (c_octet_Num l2 A2 c2 _ _ in2).mono ?_; rintro e w3 ⟨v3, rfl, own3, hb3⟩)
      | (go_at_call 46; refine (c_octet_Num l A c _ _ (h.below (by repeat (first | exact Below.refl _ _ | refine Below.drew ?_ | refine Below.alloc ?_ (by first | omega | (simp; done) | (simp; omega)) _ | refine Below.setCell ?_ (by first | omega | (simp; done) | (simp; omega)) _ | refine Below.trans ?_ (Below.mono (by assumption) (by first | omega | (simp; done) | (simp; omega))))))).mono ?_; rintro e w2 ⟨v2, rfl, own2, hb2⟩; have hz2 := hb2.size; have q2 := fun o => hb2.cell (p := ⟨w.heap.size, o, none⟩) (by omega); obtain ⟨l2, A2, c2, H2, hl2, rfl, in2, own2'⟩ := own_open bc_len own2 (l.length + 7) (by simp only [List.length_append]; omega) (by omega); clear own2))
    go_ret
    exact RetS.of own3 (by omega) (by rw [H2.out]; exact H.out) (by repeat (first | exact Below.refl _ _ | refine Below.drew ?_ | refine Below.alloc ?_ (by first | omega | (simp; done) | (simp; omega)) _ | refine Below.setCell ?_ (by first | omega | (simp; done) | (simp; omega)) _ | refine Below.trans ?_ (Below.mono (by assumption) (by first | omega | (simp; done) | (simp; omega)))))
  · have H : Hid (l ++ num x.kind ++ strB x.s = l ++ valB x) := by rw [valB_2 hok hk, List.append_assoc]; rfl
    obtain ⟨k, n, s⟩ := x
    obtain rfl : k = 2 := hk
    simp only at *
    go_enter Try.func84, Try.ntmps84
    go_wp2_with (first
      | (go_at_call 130; refine (c_value_Check ⟨2, n, s⟩ _ (by have := hs; simp at this ⊢; omega)).mono ?_; rintro e w1 ⟨rfl, hb1⟩; have hz1 := hb1.size; simp only [World.size_alloc] at hz1; have q1 := fun o => hb1.cell (p := ⟨w.heap.size, o, none⟩) (by simp); have hlt1 : w.heap.size < w1.heap.size := by omega)
      | (go_at_call 46; refine (c_octet_Num l A c _ _ (h.below (by repeat (first | exact Below.refl _ _ | refine Below.drew ?_ | refine Below.alloc ?_ (by first | omega | (simp; done) | (simp; omega)) _ | refine Below.setCell ?_ (by first | omega | (simp; done) | (simp; omega)) _ | refine Below.trans ?_ (Below.mono (by assumption) (by first | omega | (simp; done) | (simp; omega))))))).mono ?_; rintro e w2 ⟨v2, rfl, own2, hb2⟩; have hz2 := hb2.size; have q2 := fun o => hb2.cell (p := ⟨w.heap.size, o, none⟩) (by omega); obtain ⟨l2, A2, c2, H2, hl2, rfl, in2, own2'⟩ := own_open bc_len own2 (l.length + 7) (by simp only [List.length_append]; omega) (by omega); clear own2)
      | (go_at_call 132; refine (c_octet_Str l2 A2 c2 _ _ in2 (by omega)).mono ?_; rintro e w3 ⟨v3, rfl, own3, hb3⟩))
    go_ret
    exact RetS.of own3 (by omega) (by rw [H2.out]; exact H.out) (by repeat (first | exact Below.refl _ _ | refine Below.drew ?_ | refine Below.alloc ?_ (by first | omega | (simp; done) | (simp; omega)) _ | refine Below.setCell ?_ (by first | omega | (simp; done) | (simp; omega)) _ | refine Below.trans ?_ (Below.mono (by assumption) (by first | omega | (simp; done) | (simp; omega)))))
set_option maxHeartbeats 400000 in
set_option maxRecDepth 4000 in
theorem c_ref08_PutValue (x : Val) (w : World) (hs : x.s.length ≤ 4294967000) :
    Calls Try.prog 90 #[x.val] w (RetV w (.string (str (valB x)))) := by
  have hn1 := (num_len x.kind).2
  have hn2 := (num_len x.n).2
  have hn0 := (num_len 0).2
  have hn11 := (num_len 1).2
  have hn12 := (num_len 2).2
  have hsl : (strB x.s).length ≤ 4294967007 := by have := (num_len x.s.length).2; unfold strB; simp only [List.length_append]; omega
  unfold Val.val
  rcases Val.ok_cases x with ⟨hok, _⟩ | ⟨hok, _, hk⟩ | ⟨hok, _, hk⟩ | ⟨hok, _, hk⟩
  · have H : Hid ([] = valB x) := (valB_none hok).symm
    go_enter Try.func90, Try.ntmps90
    go_wp2_with (first
      | (go_at_call 91; refine (c_ref04_Check x _ (by omega)).mono ?_; rintro e w1 ⟨rfl, hb1⟩; have hz1 := hb1.size; simp only [World.size_alloc] at hz1; have q1 := fun o => hb1.cell (p := ⟨w.heap.size, o, none⟩) (by simp); have hlt1 : w.heap.size < w1.heap.size := by omega))
    go_ret
    exact RetV.str H.out (by repeat (first | exact Below.refl _ _ | refine Below.drew ?_ | refine Below.alloc ?_ (by first | omega | (simp; done) | (simp; omega)) _ | refine Below.setCell ?_ (by first | omega | (simp; done) | (simp; omega)) _ | refine Below.trans ?_ (Below.mono (by assumption) (by first | omega | (simp; done) | (simp; omega)))))
  · have H : Hid (num 0 = valB x) := by rw [valB_0 hok hk, hk]; rfl
    obtain ⟨k, n, s⟩ := x
    obtain rfl : k = 0 := hk
    simp only at *
    go_enter Try.func90, Try.ntmps90
    go_wp2_with (first
      | (go_at_call 91; refine (c_ref04_Check ⟨0, n, s⟩ _ (by have := hs; simp at this ⊢; omega)).mono ?_; rintro e w1 ⟨rfl, hb1⟩; have hz1 := hb1.size; simp only [World.size_alloc] at hz1; have q1 := fun o => hb1.cell (p := ⟨w.heap.size, o, none⟩) (by simp); have hlt1 : w.heap.size < w1.heap.size := by omega)
      | (go_at_call 49; refine (c_ref01_Num _ _).mono ?_; rintro e w2 ⟨rfl, hb2⟩))
    go_ret
    exact RetV.str H.out (by repeat (first | exact Below.refl _ _ | refine Below.drew ?_ | refine Below.alloc ?_ (by first | omega | (simp; done) | (simp; omega)) _ | refine Below.setCell ?_ (by first | omega | (simp; done) | (simp; omega)) _ | refine Below.trans ?_ (Below.mono (by assumption) (by first | omega | (simp; done) | (simp; omega)))))
  · have H : Hid (num 1 ++ num x.n = valB x) := by rw [valB_1 hok hk, hk]; rfl
    obtain ⟨k, n, s⟩ := x
    obtain rfl : k = 1 := hk
    simp only at *
    go_enter Try.func90, Try.ntmps90
    go_wp2_with (first
      | (go_at_call 91; refine (c_ref04_Check ⟨1, n, s⟩ _ (by have := hs; simp at this ⊢; omega)).mono ?_; rintro e w1 ⟨rfl, hb1⟩; have hz1 := hb1.size; simp only [World.size_alloc] at hz1; have q1 := fun o => hb1.cell (p := ⟨w.heap.size, o, none⟩) (by simp); have hlt1 : w.heap.size < w1.heap.size := by omega))
    have hbd : ¬ (9223372036854775807 < (num 1).length + (num n).length) := by omega
    refine wp_region_grow (by kernel_rfl) (by kernel_rfl) ?_
    repeat (quiet_step ((first | (go_at_call 49; exact quiet_grow (c_ref01_Num _ _)))))
    refine wpQuiet_nil ?_
    intro w2 hb2
    go_wp2_with (fail)
    go_ret
    exact RetV.str H.out (by repeat (first | exact Below.refl _ _ | refine Below.drew ?_ | refine Below.alloc ?_ (by first | omega | (simp; done) | (simp; omega)) _ | refine Below.setCell ?_ (by first | omega | (simp; done) | (simp; omega)) _ | refine Below.trans ?_ (Below.mono (by assumption) (by first | omega | (simp; done) | (simp; omega)))))
  · have H : Hid (num 2 ++ strB x.s = valB x) := by rw [valB_2 hok hk, hk]; rfl
    obtain ⟨k, n, s⟩ := x
    obtain rfl : k = 2 := hk
    simp only at *
    go_enter Try.func90, Try.ntmps90
    go_wp2_with (first
      | (go_at_call 91; refine (c_ref04_Check ⟨2, n, s⟩ _ (by have := hs; simp at this ⊢; omega)).mono ?_; rintro e w1 ⟨rfl, hb1⟩; have hz1 := hb1.size; simp only [World.size_alloc] at hz1; have q1 := fun o => hb1.cell (p := ⟨w.heap.size, o, none⟩) (by simp); have hlt1 : w.heap.size < w1.heap.size := by omega))
    have hbd : ¬ (9223372036854775807 < (num 2).length + (strB s).length) := by omega
    refine wp_region_grow (by kernel_rfl) (by kernel_rfl) ?_
    repeat (quiet_step ((first | (go_at_call 49; exact quiet_grow (c_ref01_Num _ _)) | (go_at_call 136; exact quiet_grow (c_ref01_Str _ _ (by have := hs; simp at this ⊢; omega))))))
    refine wpQuiet_nil ?_
    intro w2 hb2
    go_wp2_with (fail)
    go_ret
    exact RetV.str H.out (by repeat (first | exact Below.refl _ _ | refine Below.drew ?_ | refine Below.alloc ?_ (by first | omega | (simp; done) | (simp; omega)) _ | refine Below.setCell ?_ (by first | omega | (simp; done) | (simp; omega)) _ | refine Below.trans ?_ (Below.mono (by assumption) (by first | omega | (simp; done) | (simp; omega)))))
end Go.Proofs.Ytldoedmclfbgpaa
namespace Go.Proofs.Ytldoedmclfbgpaa
open Go.RowKit

abbrev vz : Val := ⟨0, 0, []⟩
def at8 (f : List Val) (k : Nat) : Val := f.getD k vz
theorem at8_eq {f : List Val} {k : Nat} (h : k < f.length) : at8 f k = f[k] := by simp [at8, h]
abbrev ints (l : List Nat) : List Int := l.map Int.ofNat
/-- The fields below k that hold something. -/
def kindsTo (f : List Val) (k : Nat) : List Nat := (List.range k).filter fun i => decide ((at8 f i).kind ≠ 0)
def bodyF (f : List Val) (l : List Nat) : List UInt8 := l.flatMap fun k => valB (at8 f k)
theorem kindsTo_yes {f : List Val} {k : Nat} (h : (at8 f k).kind ≠ 0) : kindsTo f (k + 1) = kindsTo f k ++ [k] := by unfold kindsTo; rw [List.range_succ, List.filter_append]; simp [h]
theorem kindsTo_no {f : List Val} {k : Nat} (h : (at8 f k).kind = 0) : kindsTo f (k + 1) = kindsTo f k := by unfold kindsTo; rw [List.range_succ, List.filter_append]; simp [h]
theorem kindsTo_len (f : List Val) (k : Nat) : (kindsTo f k).length ≤ k := by have := List.length_filter_le (fun i => decide ((at8 f i).kind ≠ 0)) (List.range k); simpa [kindsTo] using this
theorem kindsTo_bd {f : List Val} {k n : Nat} (h : n ∈ kindsTo f k) : n < k := List.mem_range.1 (List.mem_filter.1 h).1
theorem bodyF_snoc (f : List Val) (l : List Nat) (k : Nat) : bodyF f (l ++ [k]) = bodyF f l ++ valB (at8 f k) := by unfold bodyF; rw [List.flatMap_append]; simp
theorem bodyF_len (f : List Val) : ∀ l : List Nat, (bodyF f l).length ≤ l.length * 38
  | [] => by simp [bodyF]
  | k :: l => by
    have h1 := bodyF_len f l
    have h2 := valB_len (at8 f k)
    unfold bodyF at *
    rw [List.flatMap_cons, List.length_append, List.length_cons]
    omega
theorem or_two {m k : Nat} (h : m < 2 ^ k) : m ||| 2 ^ k = m + 2 ^ k := by
  have := Nat.two_pow_add_eq_or_of_lt h 1
  rw [Nat.mul_one] at this
  rw [Nat.or_comm, ← this, Nat.add_comm]
/-- The mask of the fields below k. -/
def maskTo (f : List Val) (k : Nat) : Nat := maskOf (ints (kindsTo f k))
theorem maskTo_yes {f : List Val} {k : Nat} (hk : k ≤ 31) (h : (at8 f k).kind ≠ 0) : maskTo f (k + 1) = maskTo f k ||| 2 ^ k := by
  unfold maskTo
  rw [kindsTo_yes h]
  show maskOf (List.map Int.ofNat (kindsTo f k ++ [k])) = _
  rw [List.map_append]
  show maskOf (_ ++ [(k : Int)]) = _
  rw [maskOf_snoc, bitN_nat hk]
theorem maskTo_no {f : List Val} {k : Nat} (h : (at8 f k).kind = 0) : maskTo f (k + 1) = maskTo f k := by unfold maskTo; rw [kindsTo_no h]
theorem maskTo_lt (f : List Val) : ∀ k, k ≤ 32 → maskTo f k < 2 ^ k
  | 0, _ => by show 0 < 1; omega
  | k + 1, h => by
    have ih := maskTo_lt f k (by omega)
    rw [Nat.pow_succ]
    by_cases hk : (at8 f k).kind = 0
    · rw [maskTo_no hk]; omega
    · rw [maskTo_yes (by omega) hk, or_two ih]; omega
theorem maskTo_with {f : List Val} {k : Nat} (hk : k ≤ 31) (h : (at8 f k).kind ≠ 0) : withN (maskTo f k) k = maskTo f (k + 1) := by
  have hl := maskTo_lt f k (by omega)
  rw [maskTo_yes hk h, or_two hl]
  unfold withN
  rw [Nat.testBit_lt_two_pow hl]
  rfl
theorem maskTo_255 (f : List Val) : maskTo f 8 &&& 255 = maskTo f 8 := by
  have := maskTo_lt f 8 (by omega)
  have e : maskTo f 8 &&& (2 ^ 8 - 1) = maskTo f 8 % 2 ^ 8 := Nat.and_two_pow_sub_one_eq_mod _ _
  rw [show (255 : Nat) = 2 ^ 8 - 1 from rfl, e, Nat.mod_eq_of_lt this]
theorem Card.ok_bds {c : Card} (h : c.ok = true) : 1 ≤ c.id ∧ c.id < 1073741824 ∧ 1 ≤ c.ver ∧ c.ver ≤ 1099511627776 ∧ c.lab < 65536 ∧ vals c.f = true := by
  unfold Card.ok at h
  simp only [Bool.and_eq_true, decide_eq_true_eq] at h
  obtain ⟨⟨⟨⟨⟨h1, h2⟩, h3⟩, h4⟩, h5⟩, h6⟩ := h
  exact ⟨h1, h2, h3, h4, h5, h6⟩
def cardB (c : Card) : List UInt8 := if c.ok then num c.id ++ num c.ver ++ num c.lab ++ num (maskTo c.f 8) ++ bodyF c.f (kindsTo c.f 8) else []
theorem cardB_bad {c : Card} (h : c.ok = false) : cardB c = [] := by unfold cardB; rw [h]; rfl
theorem cardB_ok {c : Card} (h : c.ok = true) : cardB c = num c.id ++ num c.ver ++ num c.lab ++ num (maskTo c.f 8) ++ bodyF c.f (kindsTo c.f 8) := by unfold cardB; rw [if_pos h]
theorem cardB_len (c : Card) : (cardB c).length ≤ 332 := by
  cases h : c.ok
  · rw [cardB_bad h]; simp
  · rw [cardB_ok h]
    have h1 := (num_len c.id).2
    have h2 := (num_len c.ver).2
    have h3 := (num_len c.lab).2
    have h4 := (num_len (maskTo c.f 8)).2
    have h5 := bodyF_len c.f (kindsTo c.f 8)
    have h6 := kindsTo_len c.f 8
    simp only [List.length_append]
    omega
end Go.Proofs.Ytldoedmclfbgpaa
namespace Go.Proofs.Ytldoedmclfbgpaa
open Go.RowKit

structure Dead where
  id : Int
  ver : Int
  seq : Int
deriving DecidableEq
structure Grp where
  no : Int
  mem : List Int
deriving DecidableEq
structure Book where
  seq : Int
  next : Int
  cards : List Card
  dead : List Dead
  groups : List Grp
deriving DecidableEq
def Dead.cells (d : Dead) : List Value := [.int .i64 d.id, .int .i64 d.ver, .int .i64 d.seq]
theorem Dead.cells_len (d : Dead) : d.cells.length = 3 := rfl
/-! Cards that rise. -/
def cardAt (next last : Int) (c : Card) : Bool := c.ok && (decide (last < c.id) && decide (c.id < next))
def cardsOk (next : Int) : Int → List Card → Bool
  | _, [] => true
  | last, c :: r => cardAt next last c && cardsOk next c.id r
/-! Cards that were deleted. -/
def deadAt (next last : Int) (d : Dead) : Bool := decide (1 ≤ d.id ∧ d.id < next ∧ 1 ≤ d.ver ∧ d.ver ≤ 1099511627776 ∧ last ≤ d.seq ∧ d.seq ≤ 1099511627776)
def hasCard (cards : List Card) (id : Int) : Bool := cards.any fun c => decide (c.id = id)
def hasDead (dead : List Dead) (id : Int) : Bool := dead.any fun c => decide (c.id = id)
def deadsOk (next : Int) (cards : List Card) : List Dead → Int → List Dead → Bool
  | _, _, [] => true
  | was, last, d :: r => deadAt next last d && (!hasCard cards d.id && (!hasDead was d.id && deadsOk next cards (was ++ [d]) d.seq r))
def shelfOk (next : Int) (cards : List Card) (dead : List Dead) : Bool :=
  decide (1 ≤ next ∧ next ≤ 1073741824 ∧ cards.length ≤ 48 ∧ dead.length ≤ 40) && (cardsOk next 0 cards && deadsOk next cards [] 0 dead)
/-! Numbers and groups that rise. -/
def idsOk : Int → List Int → Bool
  | _, [] => true
  | last, x :: r => decide (last < x ∧ x < 1073741824) && idsOk x r
def grpAt (last : Int) (g : Grp) : Bool := decide (last < g.no ∧ g.no < 16) && idsOk 0 g.mem
def grpsOk : Int → List Grp → Bool
  | _, [] => true
  | last, g :: r => grpAt last g && grpsOk g.no r
def memOk (cards : List Card) (l : List Int) : Bool := l.all fun x => hasCard cards x
def lastSeq (dead : List Dead) : Int := (dead.getLast?.map (·.seq)).getD 0
def Book.ok (b : Book) : Bool :=
  shelfOk b.next b.cards b.dead && (decide (0 ≤ b.seq ∧ b.seq ≤ 1099511627776) && (grpsOk (-1) b.groups && (decide (b.dead = [] ∨ lastSeq b.dead ≤ b.seq) && b.groups.all fun g => memOk b.cards g.mem)))
def deadB (d : Dead) : List UInt8 := num d.id ++ (num d.ver ++ num d.seq)
def grpB (g : Grp) : List UInt8 := num g.no ++ (num g.mem.length ++ g.mem.flatMap num)
def bookB (b : Book) : List UInt8 :=
  if b.ok then num b.seq ++ (num b.next ++ (num b.cards.length ++ (b.cards.flatMap cardB ++ (num b.dead.length ++ (b.dead.flatMap deadB ++ (num b.groups.length ++ b.groups.flatMap grpB)))))) else []
theorem bookB_bad {b : Book} (h : b.ok = false) : bookB b = [] := by unfold bookB; rw [h]; rfl
theorem bookB_ok {b : Book} (h : b.ok = true) : bookB b = num b.seq ++ (num b.next ++ (num b.cards.length ++ (b.cards.flatMap cardB ++ (num b.dead.length ++ (b.dead.flatMap deadB ++ (num b.groups.length ++ b.groups.flatMap grpB)))))) := by unfold bookB; rw [if_pos h]
end Go.Proofs.Ytldoedmclfbgpaa
namespace Go.Proofs.Ytldoedmclfbgpaa
open Go.RowKit

/-- A card with its eight fields. -/
structure CQ where
  c : Card
  wf : c.f.length = 8
def CQ.cells (x : CQ) : List Value := x.c.arr.toList
theorem CQ.cells_len (x : CQ) : x.cells.length = 27 := by unfold CQ.cells; rw [Array.length_toList, Card.arr_size, x.wf]
/-- A group and where its members lie. -/
structure GQ where
  no : Int
  mem : List Int
  A : Option Addr
  c : Nat
def GQ.cells (x : GQ) : List Value := [.int .i64 x.no, .slice x.A x.mem.length x.c]
theorem GQ.cells_len (x : GQ) : x.cells.length = 2 := rfl
def GQ.g (x : GQ) : Grp := ⟨x.no, x.mem⟩
/-- A book in memory. -/
structure BQ where
  seq : Int
  next : Int
  cards : List CQ
  dead : List Dead
  groups : List GQ
  A : Option Addr
  a : Nat
  D : Option Addr
  d : Nat
  G : Option Addr
  g : Nat
def BQ.arr (b : BQ) : Array Value := #[.int .i64 b.seq, .int .i64 b.next, .slice b.A b.cards.length b.a, .slice b.D b.dead.length b.d, .slice b.G b.groups.length b.g]
def BQ.book (b : BQ) : Book := ⟨b.seq, b.next, b.cards.map CQ.c, b.dead, b.groups.map GQ.g⟩
/-- Its lists lie where said. -/
structure BQ.at_ (b : BQ) (w : World) : Prop where
  cards : In 27 CQ.cells w b.A b.a b.cards
  dead : In 3 Dead.cells w b.D b.d b.dead
  groups : In 2 GQ.cells w b.G b.g b.groups
  mem : ∀ x ∈ b.groups, InI w x.A x.c x.mem
  fit : ∀ x ∈ b.cards, ∀ y ∈ x.c.f, y.s.length ≤ 4294967000
theorem BQ.at_.below {b : BQ} {w w' : World} (h : b.at_ w) (hb : Below w.heap.size w w') : b.at_ w' := ⟨h.cards.below hb, h.dead.below hb, h.groups.below hb, fun x hx => (h.mem x hx).below hb, h.fit⟩
theorem drop_at {α : Type} {l : List α} {k : Nat} (h : k < l.length) : l.drop k = l[k] :: l.drop (k + 1) := List.drop_eq_getElem_cons h
/-! Numbers that rise: round by round. -/
theorem idsOk_at {l : List Int} {k : Nat} (h : k < l.length) (last : Int) : idsOk last (l.drop k) = (decide (last < l[k] ∧ l[k] < 1073741824) && idsOk l[k] (l.drop (k + 1))) := by rw [drop_at h, idsOk]
theorem idsOk_end {l : List Int} (last : Int) : idsOk last (l.drop l.length) = true := by rw [List.drop_length]; rfl
theorem grpsOk_at {l : List Grp} {k : Nat} (h : k < l.length) (last : Int) : grpsOk last (l.drop k) = (grpAt last l[k] && grpsOk l[k].no (l.drop (k + 1))) := by rw [drop_at h, grpsOk]
/-- Where the reference stands: the number before this one. -/
def before (l : List Int) (k : Nat) : Int := if k = 0 then 0 else l.getD (k - 1) 0
/-! What one list has that another, which rises as well, lacks. -/
theorem idsOk_tail {x last : Int} {l : List Int} (h : idsOk last (x :: l) = true) : last < x ∧ x < 1073741824 ∧ idsOk x l = true := by
  rw [idsOk, Bool.and_eq_true, decide_eq_true_eq] at h
  exact ⟨h.1.1, h.1.2, h.2⟩
end Go.Proofs.Ytldoedmclfbgpaa
namespace Go.Proofs.Ytldoedmclfbgpaa
open Go.ChangeShapes Go.WideShapes Go.ChangeAt Go.RowKit Go.Deep
open Go.ChangeMaps (open_string shut_string)

/-- A book that came in, however large. -/
structure BQ.raw (w : World) (b : BQ) : Prop where
  cards : RawS 27 CQ.cells w b.A b.a b.cards
  dead : RawS 3 Dead.cells w b.D b.d b.dead
  groups : RawS 2 GQ.cells w b.G b.g b.groups
  mem : ∀ x ∈ b.groups, RawS 1 ic w x.A x.c x.mem
  str : ∀ x ∈ b.cards, ∀ y ∈ x.c.f, y.s.length ≤ 9223372036854775807
theorem BQ.raw.below {w w' : World} {b : BQ} (h : b.raw w) (hb : Below w.heap.size w w') : b.raw w' := ⟨h.cards.below hb, h.dead.below hb, h.groups.below hb, fun x hx => (h.mem x hx).below hb, h.str⟩
/-- Is a book larger than is looked at? -/
def Book.large (b : Book) : Bool := decide (60 < b.cards.length) || (decide (60 < b.dead.length) || ((decide (40 < b.groups.length) || b.groups.any fun g => decide (100 < g.mem.length)) || b.cards.any fun c => longF c.f))
structure BQ.few (b : BQ) : Prop where
  cards : b.cards.length ≤ 60
  dead : b.dead.length ≤ 60
  groups : b.groups.length ≤ 40
  mem : ∀ x ∈ b.groups, x.mem.length ≤ 100
theorem large_no {b : BQ} (h : b.book.large = false) : b.few ∧ ∀ x ∈ b.cards, ∀ y ∈ x.c.f, y.s.length ≤ 4294967000 := by
  unfold Book.large at h
  simp only [Bool.or_eq_false_iff, decide_eq_false_iff_not, List.any_eq_false] at h
  obtain ⟨h1, h2, ⟨h3, h4⟩, h5⟩ := h
  unfold BQ.book at h1 h2 h3 h4 h5
  simp only [List.length_map] at h1 h2 h3
  refine ⟨⟨by omega, by omega, by omega, fun x hx => ?_⟩, fun x hx y hy => ?_⟩
  · have h6 := h4 x.g (List.mem_map.2 ⟨x, hx, rfl⟩)
    have h7 : ¬ 100 < x.mem.length := fun e => by rw [show x.g.mem = x.mem from rfl, decide_eq_true e] at h6; simp at h6
    omega
  · have := h5 x.c (List.mem_map.2 ⟨x, hx, rfl⟩)
    rw [Bool.not_eq_true] at this
    have := List.any_eq_false.1 this y hy
    simp only [decide_eq_true_eq] at this
    omega
theorem BQ.raw.at_ {w : World} {b : BQ} (h : b.raw w) (hf : b.few) (hs : ∀ x ∈ b.cards, ∀ y ∈ x.c.f, y.s.length ≤ 4294967000) : b.at_ w :=
  ⟨h.cards.fit (by have := hf.cards; omega), h.dead.fit (by have := hf.dead; omega), h.groups.fit (by have := hf.groups; omega), fun x hx => (h.mem x hx).fit (by have := hf.mem x hx; omega), hs⟩
theorem list2 {α : Type} {l : List α} (h : l.length = 2) : ∃ a b, l = [a, b] := by
  cases l with
  | nil => cases h
  | cons a l =>
    cases l with
    | nil => cases h
    | cons b l =>
      cases l with
      | nil => exact ⟨a, b, rfl⟩
      | cons c l => simp at h
section
variable {H : Type} {enc : TypeId × Value → H} {w : World} {spare : Nat → Bool} {held : Bool}
theorem c_intB : Try.prog.cellsOf 3 = 1 := by kernel_rfl
theorem c_deadB : Try.prog.cellsOf 86 = 3 := by kernel_rfl
theorem c_groupB : Try.prog.cellsOf 89 = 2 := by kernel_rfl
theorem c_bookB : Try.prog.cellsOf 26 = 5 := by kernel_rfl
theorem c_sl1 : Try.prog.cellsOf 22 = 1 := by kernel_rfl
theorem c_sl2 : Try.prog.cellsOf 23 = 1 := by kernel_rfl
theorem c_sl3 : Try.prog.cellsOf 24 = 1 := by kernel_rfl
theorem c_sl4 : Try.prog.cellsOf 87 = 1 := by kernel_rfl
theorem open_intsB {fuel : Nat} {cs : List Value} {x : DataW H × List MemPlace} (h : DataW.trod enc Try.prog w 0 spare held fuel 87 cs = some x) :
    ∃ (A : Option Addr) (c : Nat) (l : List Int), cs = [.slice A l.length c] ∧ RawS 1 ic w A c l := by
  obtain ⟨A, c, l, h1, h2, -⟩ := open_rows (k := 1) (cs := ic) (Pr := fun _ => True) (by decide) (fun _ => rfl) Try.underlying87 c_intB (fun h => by
    obtain ⟨n, hn, -⟩ := open_i64 h
    exact ⟨n, hn, trivial⟩) h
  exact ⟨A, c, l, h1, h2⟩
theorem open_deadB {fuel : Nat} {cs : List Value} {x : DataW H × List MemPlace} (h : DataW.trod enc Try.prog w 0 spare held fuel 86 cs = some x) : ∃ v : Dead, cs = v.cells ∧ True := by
  obtain ⟨xs, n, _, _, hl, hxl, hf⟩ := DataW.trod_struct Try.underlying86 h
  rw [c_deadB] at hl
  obtain ⟨c0, c1, c2, rfl⟩ := list3 hl
  obtain ⟨x0, x1, x2, rfl⟩ := list3 (show xs.length = 3 from hxl)
  have h0 := hf 0
  have h1 := hf 1
  have h2 := hf 2
  simp [c_int] at h0 h1 h2
  obtain ⟨a, ha, -⟩ := open_i64 h0
  obtain ⟨b, hb, -⟩ := open_i64 h1
  obtain ⟨d, hd, -⟩ := open_i64 h2
  simp at ha hb hd
  subst ha hb hd
  exact ⟨⟨a, b, d⟩, rfl, trivial⟩
theorem open_groupB {fuel : Nat} {cs : List Value} {x : DataW H × List MemPlace} (h : DataW.trod enc Try.prog w 0 spare held fuel 89 cs = some x) : ∃ v : GQ, cs = v.cells ∧ RawS 1 ic w v.A v.c v.mem := by
  obtain ⟨xs, n, _, _, hl, hxl, hf⟩ := DataW.trod_struct Try.underlying89 h
  rw [c_groupB] at hl
  obtain ⟨c0, c1, rfl⟩ := list2 hl
  obtain ⟨x0, x1, rfl⟩ := list2 (show xs.length = 2 from hxl)
  have h0 := hf 0
  have h1 := hf 1
  simp [c_int, c_sl4] at h0 h1
  obtain ⟨a, ha, -⟩ := open_i64 h0
  obtain ⟨A, c, l, hb, hr⟩ := open_intsB h1
  simp at ha hb
  subst ha hb
  exact ⟨⟨a, l, A, c⟩, rfl, hr⟩
theorem open_book {fuel : Nat} {cs : List Value} {x : DataW H × List MemPlace} (h : DataW.trod enc Try.prog w 0 spare held fuel 26 cs = some x) : ∃ v : BQ, cs = v.arr.toList ∧ v.raw w := by
  obtain ⟨xs, n, _, _, hl, hxl, hf⟩ := DataW.trod_struct Try.underlying26 h
  rw [c_bookB] at hl
  obtain ⟨c0, c1, c2, c3, c4, rfl⟩ := list5 hl
  obtain ⟨x0, x1, x2, x3, x4, rfl⟩ := list5 (show xs.length = 5 from hxl)
  have h0 := hf 0
  have h1 := hf 1
  have h2 := hf 2
  have h3 := hf 3
  have h4 := hf 4
  simp [c_int, c_sl1, c_sl2, c_sl3] at h0 h1 h2 h3 h4
  obtain ⟨a, ha, -⟩ := open_i64 h0
  obtain ⟨b, hb, -⟩ := open_i64 h1
  obtain ⟨A, ca, cl, e2, r2, q2⟩ := open_rows (k := 27) (cs := CQ.cells) (Pr := fun x : CQ => ∀ y ∈ x.c.f, y.s.length ≤ 9223372036854775807) (by decide) CQ.cells_len Try.underlying22 c_card (fun h => by
    obtain ⟨c, hc, hf, -, -, -, hw⟩ := open_card h
    exact ⟨⟨c, hf⟩, hc, fun y hy => (hw y hy).2.2⟩) h2
  obtain ⟨D, cd, dl, e3, r3, -⟩ := open_rows (k := 3) (cs := Dead.cells) (Pr := fun _ => True) (by decide) Dead.cells_len Try.underlying23 c_deadB open_deadB h3
  obtain ⟨G, cg, gl, e4, r4, q4⟩ := open_rows (k := 2) (cs := GQ.cells) (Pr := fun v : GQ => RawS 1 ic w v.A v.c v.mem) (by decide) GQ.cells_len Try.underlying24 c_groupB open_groupB h4
  simp at ha hb e2 e3 e4
  subst ha hb e2 e3 e4
  exact ⟨⟨a, b, cl, dl, gl, A, ca, D, cd, G, cg⟩, rfl, r2, r3, r4, q4, q2⟩
end
end Go.Proofs.Ytldoedmclfbgpaa
namespace Go.Proofs.Ytldoedmclfbgpaa
open Go.ChangeShapes Go.WideShapes Go.ChangeAt Go.RowKit Go.Deep
open Go.ChangeMaps (open_string shut_string)

theorem u8_range {n : Int} (h : (Lit.int .u8 n).wf = true) : 0 ≤ n ∧ n ≤ 255 := by
  simpa [Lit.wf, IntKind.min, IntKind.max, IntKind.signed, IntKind.bits] using h
section
variable {H : Type} {enc : TypeId × Value → H} {w : World} {base : Nat} {spare : Nat → Bool} {held : Bool}
theorem c_uint8 : Try.prog.cellsOf 5 = 1 := by kernel_rfl
/-- A slice of bytes that came in. -/
theorem open_bytes {fuel : Nat} {cs : List Value} {x : DataW H × List MemPlace} (h : DataW.trod enc Try.prog w 0 spare held fuel 27 cs = some x) :
    ∃ (A : Option Addr) (c : Nat) (l : List UInt8), cs = [.slice A l.length c] ∧ l.length ≤ c ∧ c ≤ 9223372036854775807 ∧ (l = [] ∨ ∃ b off, A = some ⟨b, off, none⟩ ∧ b < w.heap.size ∧ Row 1 bc w b off l) := by
  rcases open_slice Try.underlying27 h with ⟨rfl, rfl⟩ | ⟨a, len, cap, m, n, D, Pl, rfl, hb, hl, hm, hmm, hx, hi⟩
  · exact ⟨none, 0, [], rfl, by simp, by omega, .inl rfl⟩
  · have hlm : len ≤ m := by rw [hmm]; split <;> omega
    have hq : ∀ i, i < len → ∃ v : UInt8, ∀ j u, (bc v)[j]? = some u → w.cell? (a.add (i * 1 + j)) = some u := by
      intro i hil
      obtain ⟨cs', hc, ht⟩ := hi i (by omega)
      rw [c_uint8] at hc
      obtain ⟨k, hk, _, wk⟩ := DataW.trod_int Try.underlying5 ht
      have hr := u8_range wk
      obtain ⟨_, hcl, hat⟩ := World.cells?_some hc
      refine ⟨UInt8.ofNat k.toNat, fun j u hu => ?_⟩
      have hj : j < 1 := (List.getElem?_eq_some_iff.1 hu).1
      have hj0 : j = 0 := by omega
      subst hj0
      have h1 := hat 0 (by omega)
      rw [Go.Deep.add_add] at h1
      rw [h1, hk]
      have e : ((UInt8.ofNat k.toNat).toNat : Int) = k := by simp; omega
      simp [bc] at hu
      rw [← hu]
      simp; omega
    obtain ⟨l, hll, hq⟩ := list_of len hq
    refine ⟨some a, cap, l, by rw [hll], by omega, by unfold maxLen at hm; omega, ?_⟩
    rcases Nat.eq_zero_or_pos len with h0 | h0
    · exact .inl (List.eq_nil_of_length_eq_zero (by omega))
    · right
      have h1 := hq 0 (by omega) 0 _ rfl
      have hsp := cell_spot h1
      have hlt := World.block_lt_of_cell? w _ h1
      obtain ⟨ab, ao, asp⟩ := a
      simp [Addr.add] at hsp hlt
      subst hsp
      refine ⟨ab, ao, rfl, hlt, fun i hi j u hu => ?_⟩
      have := hq i hi j u hu
      rw [add_lit'] at this
      rw [Nat.add_assoc]; exact this
end
end Go.Proofs.Ytldoedmclfbgpaa
namespace Go.Proofs.Ytldoedmclfbgpaa
open Go.RowKit

/-- Blocks from number B on, each known whole, no two the same. -/
def Blks (w : World) (B : Nat) : List (Nat × Array Value) → Prop
  | [] => True
  | x :: r => (Blk w x.1 x.2 ∧ B ≤ x.1 ∧ ∀ y ∈ r, y.1 ≠ x.1) ∧ Blks w B r
section
variable {w w' : World} {B : Nat} {l : List (Nat × Array Value)}
theorem Blks.kept {q : Option Nat} (h : Blks w B l) (k : Kept q w.heap.size w w') (hq : ∀ g, q = some g → g < B) : Blks w' B l := by
  induction l with
  | nil => trivial
  | cons x r ih =>
    obtain ⟨⟨h1, h2, h3⟩, h4⟩ := h
    exact ⟨⟨h1.kept k h1.lt (fun e => by have := hq _ e; omega), h2, h3⟩, ih h4⟩
theorem Blks.far {q : Nat} (h : Blks w B l) (k : Kept (some q) w.heap.size w w') (hq : ∀ y ∈ l, y.1 ≠ q) : Blks w' B l := by
  induction l with
  | nil => trivial
  | cons x r ih =>
    obtain ⟨⟨h1, h2, h3⟩, h4⟩ := h
    exact ⟨⟨h1.kept k h1.lt (fun e => by injection e with e; exact hq x (List.mem_cons_self ..) e.symm), h2, h3⟩, ih h4 (fun y hy => hq y (List.mem_cons_of_mem _ hy))⟩
theorem Blks.lt (h : Blks w B l) : ∀ y ∈ l, y.1 < w.heap.size := by
  induction l with
  | nil => intro y hy; cases hy
  | cons x r ih =>
    intro y hy
    rcases List.mem_cons.1 hy with rfl | hy
    · exact h.1.1.lt
    · exact ih h.2 y hy
end
theorem kept_set (w : World) (g off : Nat) (v : Value) : Kept (some g) w.heap.size w (w.setCell ⟨g, off, none⟩ v) := (Kept.refl (some g) _ w).setCell (q := ⟨g, off, none⟩) (.inr rfl) v
/-- The program's reader, and blocks of the call's own. -/
structure EnvP (p : Option Nat) (S : Rd) (w w' : World) (l : List (Nat × Array Value)) : Prop where
  low : ∀ g, p = some g → g < w.heap.size
  kept : Kept p w.heap.size w w'
  rd : RdP w' p S
  blks : Blks w' w.heap.size l
section
variable {p : Option Nat} {S S' : Rd} {w w1 w2 : World} {l : List (Nat × Array Value)} {g g0 : Nat} {cs c0 cs' : Array Value}
theorem EnvP.start (r : RdP w p S) : EnvP p S w w [] := ⟨fun _ hg => r.lt hg, Kept.refl _ _ _, r, trivial⟩
theorem EnvP.size (h : EnvP p S w w1 l) : w.heap.size ≤ w1.heap.size := h.kept.size
theorem EnvP.call (h : EnvP p S w w1 l) (r : RdP w2 p S') (k : Kept p w1.heap.size w1 w2) : EnvP p S' w w2 l :=
  ⟨h.low, h.kept.then_kept k h.size, r, h.blks.kept k h.low⟩
theorem EnvP.below (h : EnvP p S w w1 l) (k : Below w1.heap.size w1 w2) : EnvP p S w w2 l :=
  ⟨h.low, h.kept.then_below k h.size, h.rd.below k, h.blks.kept (q := none) (.of_below k) (fun _ e => by cases e)⟩
theorem EnvP.alloc (h : EnvP p S w w1 l) (t : TypeId) (cs : Array Value) : EnvP p S w (w1.alloc (.cells cs t)) ((w1.heap.size, cs) :: l) := by
  have h' := h.below ((Below.refl _ _).alloc (Nat.le_refl _) (.cells cs t))
  exact ⟨h.low, h'.kept, h'.rd, ⟨Blk.new _ _ _, h.size, fun y hy => by have := h.blks.lt y hy; simp only; omega⟩, h'.blks⟩
theorem EnvP.own (h : EnvP p S w w1 l) (hg : w.heap.size ≤ g) (k : Kept (some g) w1.heap.size w1 w2) : Kept p w.heap.size w w2 ∧ RdP w2 p S :=
  ⟨h.kept.trans (k.one h.size (.inl hg)), h.rd.kept k (fun a b ha hb => by injection hb with hb; have := h.low a ha; omega)⟩
theorem EnvP.b0 (h : EnvP p S w w1 ((g, cs) :: l)) : Blk w1 g cs := h.blks.1.1
theorem EnvP.b1 (h : EnvP p S w w1 ((g0, c0) :: (g, cs) :: l)) : Blk w1 g cs := h.blks.2.1.1
theorem EnvP.as (h : EnvP p S w w1 ((g, cs) :: l)) (e : cs = cs') : EnvP p S w w1 ((g, cs') :: l) := e ▸ h
end
/-- The reference's reader, and blocks of the call's own. -/
structure EnvR (p : Nat) (S : Rd) (w w' : World) (l : List (Nat × Array Value)) : Prop where
  low : p < w.heap.size
  kept : Kept (some p) w.heap.size w w'
  rd : RdR w' p S
  blks : Blks w' w.heap.size l
section
variable {p : Nat} {S S' : Rd} {w w1 w2 : World} {l : List (Nat × Array Value)} {g g0 : Nat} {cs c0 cs' : Array Value}
theorem EnvR.start (r : RdR w p S) : EnvR p S w w [] := ⟨r.lt, Kept.refl _ _ _, r, trivial⟩
theorem EnvR.size (h : EnvR p S w w1 l) : w.heap.size ≤ w1.heap.size := h.kept.size
theorem EnvR.call (h : EnvR p S w w1 l) (r : RdR w2 p S') (k : Kept (some p) w1.heap.size w1 w2) : EnvR p S' w w2 l :=
  ⟨h.low, h.kept.then_kept k h.size, r, h.blks.kept k (fun g e => by injection e with e; have := h.low; omega)⟩
theorem EnvR.below (h : EnvR p S w w1 l) (k : Below w1.heap.size w1 w2) : EnvR p S w w2 l :=
  ⟨h.low, h.kept.then_below k h.size, h.rd.below k, h.blks.kept (q := none) (.of_below k) (fun _ e => by cases e)⟩
theorem EnvR.alloc (h : EnvR p S w w1 l) (t : TypeId) (cs : Array Value) : EnvR p S w (w1.alloc (.cells cs t)) ((w1.heap.size, cs) :: l) := by
  have h' := h.below ((Below.refl _ _).alloc (Nat.le_refl _) (.cells cs t))
  exact ⟨h.low, h'.kept, h'.rd, ⟨Blk.new _ _ _, h.size, fun y hy => by have := h.blks.lt y hy; simp only; omega⟩, h'.blks⟩
theorem EnvR.own (h : EnvR p S w w1 l) (hg : w.heap.size ≤ g) (k : Kept (some g) w1.heap.size w1 w2) : Kept (some p) w.heap.size w w2 ∧ RdR w2 p S :=
  ⟨h.kept.trans (k.one h.size (.inl hg)), h.rd.kept k (fun e => by injection e with e; have := h.low; omega)⟩
theorem EnvR.b0 (h : EnvR p S w w1 ((g, cs) :: l)) : Blk w1 g cs := h.blks.1.1
theorem EnvR.b1 (h : EnvR p S w w1 ((g0, c0) :: (g, cs) :: l)) : Blk w1 g cs := h.blks.2.1.1
theorem EnvR.as (h : EnvR p S w w1 ((g, cs) :: l)) (e : cs = cs') : EnvR p S w w1 ((g, cs') :: l) := e ▸ h
end
end Go.Proofs.Ytldoedmclfbgpaa
namespace Go.Proofs.Ytldoedmclfbgpaa
open Go.RowKit
open Go.ChangeMaps (setBlock)

/-- The map at block b. -/
def MapAt (w : World) (b : Nat) (es : Array MapEntry) (clock : Nat) : Prop := w.heap[b]? = some (.map es clock)
section
variable {P : Program} {w w' : World} {b : Nat} {es : Array MapEntry} {clock : Nat}
theorem MapAt.lt (h : MapAt w b es clock) : b < w.heap.size := by
  rcases Nat.lt_or_ge b w.heap.size with hlt | hge
  · exact hlt
  · unfold MapAt at h; rw [Array.getElem?_eq_none hge] at h; cases h
theorem MapAt.new (w : World) : MapAt (w.alloc (.map #[] 0)) w.heap.size #[] 0 := heap_alloc_new w _
theorem MapAt.kept {p : Option Nat} {B : Nat} (h : MapAt w b es clock) (k : Kept p B w w') (hb : b < B) (hp : p ≠ some b) : MapAt w' b es clock := (k.block b hb hp).trans h
theorem MapAt.below {B : Nat} (h : MapAt w b es clock) (k : Below B w w') (hb : b < B) : MapAt w' b es clock := (k.block b hb).trans h
theorem isKey64 (k : Int) : MapKept.IsKey (.int .i64) (.int .i64 k) := by simp [MapKept.IsKey]
theorem stop_makeMap {ops : Array Oper} {rest : List Oper} {o : Oper} {a : Act} {Q : Exit → Act → World → Prop} (t : TypeId) (_ : o.op = .makeMap t none) (h : Stop (wpList P ops Q (o :: rest) a w)) : wpList P ops Q (o :: rest) a w := h
theorem wpList_makeMapI {ops : Array Oper} {rest : List Oper} {o : Oper} {a : Act} {Q : Exit → Act → World → Prop} (hg : o.guard = none) (t : TypeId) (hop : o.op = .makeMap t none)
    (h : ∀ w', MapAt w' w.heap.size #[] 0 → Below w.heap.size w w' → w'.heap.size = w.heap.size + 1 → wpList P ops Q rest (a.put o.dst (.map (some w.heap.size))) w') : wpList P ops Q (o :: rest) a w := by
  refine wpList_plain hg fun K' hK' => ?_
  have hrun : (Instr.makeMap t none).run P w = .ok (.map (some w.heap.size)) (w.alloc (.map #[] 0)) := by simp [Instr.makeMap, Result.andThen]
  unfold Oper.wp
  simp only [execOp, hop, hrun, Option.map_none, Sem.run_bind, Sem.run_pure, Result.andThen_ok]
  exact hK' _ _ (h _ (MapAt.new w) ((Below.refl _ _).alloc (Nat.le_refl _) _) (by simp))
end
/-! A call that reads and stores: two blocks may turn. -/
structure Kpq (p : Option Nat) (q B : Nat) (w w' : World) : Prop where
  os : w'.os = w.os
  tape : w'.tape = w.tape
  output : w'.output = w.output
  size : w.heap.size ≤ w'.heap.size
  block : ∀ k, k < B → p ≠ some k → k ≠ q → w'.heap[k]? = w.heap[k]?
section
variable {p : Option Nat} {q B B' : Nat} {a b c w w' : World}
theorem Kpq.refl (p : Option Nat) (q B : Nat) (w : World) : Kpq p q B w w := ⟨rfl, rfl, rfl, Nat.le_refl _, fun _ _ _ _ => rfl⟩
theorem Kpq.trans (h : Kpq p q B a b) (k : Kpq p q B b c) : Kpq p q B a c := ⟨k.os.trans h.os, k.tape.trans h.tape, k.output.trans h.output, Nat.le_trans h.size k.size, fun i hi hp hq => (k.block i hi hp hq).trans (h.block i hi hp hq)⟩
theorem Kpq.mono (h : Kpq p q B w w') (hB : B' ≤ B) : Kpq p q B' w w' := ⟨h.os, h.tape, h.output, h.size, fun k hk hp hq => h.block k (by omega) hp hq⟩
theorem Kpq.of_p (h : Kept p B w w') : Kpq p q B w w' := ⟨h.os, h.tape, h.output, h.size, fun k hk hp _ => h.block k hk hp⟩
theorem Kpq.of_q (h : Kept (some q) B w w') : Kpq p q B w w' := ⟨h.os, h.tape, h.output, h.size, fun k hk _ hq => h.block k hk (fun e => hq (by injection e with e; exact e.symm))⟩
theorem Kpq.kept (h : Kpq p q B w w') (hB : B' ≤ B) (hq : B' ≤ q) : Kept p B' w w' := ⟨h.os, h.tape, h.output, h.size, fun k hk hp => h.block k (by omega) hp (by omega)⟩
end
/-- The program's reader, and one block that may be stored into. -/
structure EnvQ (p : Option Nat) (S : Rd) (q : Nat) (cs : Array Value) (w w' : World) : Prop where
  low : ∀ g, p = some g → g < q
  lt : q < w.heap.size
  kept : Kpq p q w.heap.size w w'
  rd : RdP w' p S
  blk : Blk w' q cs
section
variable {p : Option Nat} {S S' : Rd} {q : Nat} {cs cs' : Array Value} {w w1 w2 : World}
theorem EnvQ.start (r : RdP w p S) (b : Blk w q cs) (low : ∀ g, p = some g → g < q) : EnvQ p S q cs w w := ⟨low, b.lt, Kpq.refl _ _ _ _, r, b⟩
theorem EnvQ.size (h : EnvQ p S q cs w w1) : w.heap.size ≤ w1.heap.size := h.kept.size
theorem EnvQ.call (h : EnvQ p S q cs w w1) (r : RdP w2 p S') (k : Kept p w1.heap.size w1 w2) : EnvQ p S' q cs w w2 :=
  ⟨h.low, h.lt, h.kept.trans (Kpq.of_p (k.mono h.size)), r, h.blk.kept k h.blk.lt (fun e => by have := h.low q e; omega)⟩
theorem EnvQ.below (h : EnvQ p S q cs w w1) (k : Below w1.heap.size w1 w2) : EnvQ p S q cs w w2 :=
  ⟨h.low, h.lt, h.kept.trans (Kpq.of_p (.of_below (k.mono h.size))), h.rd.below k, h.blk.below k h.blk.lt⟩
theorem EnvQ.put (h : EnvQ p S q cs w w1) (b : Blk w2 q cs') (k : Kept (some q) w1.heap.size w1 w2) : EnvQ p S q cs' w w2 :=
  ⟨h.low, h.lt, h.kept.trans (Kpq.of_q (k.mono h.size)), h.rd.kept k (fun a b ha hb => by injection hb with hb; have := h.low a ha; omega), b⟩
theorem EnvQ.store (h : EnvQ p S q cs w w1) (off : Nat) (v : Value) : EnvQ p S q (cs.setIfInBounds off v) w (w1.setCell ⟨q, off, none⟩ v) := h.put (h.blk.store off v) (kept_set w1 q off v)
theorem EnvQ.as (h : EnvQ p S q cs w w1) (e : cs = cs') : EnvQ p S q cs' w w1 := e ▸ h
theorem EnvQ.calls (h : EnvQ p S q cs w w1) (k : EnvQ p S' q cs' w1 w2) : EnvQ p S' q cs' w w2 := ⟨h.low, h.lt, h.kept.trans (k.kept.mono h.size), k.rd, k.blk⟩
/-- The first block of a call's own is made. -/
theorem EnvP.go {P : Program} {ops : Array Oper} {l : List Oper} {a : Act} {Q : Exit → Act → World → Prop} {t : TypeId} (r : RdP w p S) (h : ∀ w', EnvP p S w w' [(w.heap.size, cs)] → w'.heap.size = w.heap.size + 1 → wpList P ops Q l a w') :
    wpList P ops Q l a (w.alloc (.cells cs t)) := h _ ((EnvP.start r).alloc t cs) (by simp)
end
end Go.Proofs.Ytldoedmclfbgpaa
namespace Go.Proofs.Ytldoedmclfbgpaa
open Go.RowKit

def esOf : List CQ → Nat → List MapEntry
  | [], _ => []
  | x :: r, i => { key := .int .i64 x.c.id, val := .agg x.c.arr, born := i } :: esOf r (i + 1)
def esA (l : List CQ) : Array MapEntry := (esOf l 0).toArray
theorem esOf_snoc : ∀ (l : List CQ) (x : CQ) (i : Nat), esOf (l ++ [x]) i = esOf l i ++ [{ key := .int .i64 x.c.id, val := .agg x.c.arr, born := i + l.length }]
  | [], x, i => rfl
  | y :: l, x, i => by
    rw [List.cons_append, esOf, esOf_snoc l x (i + 1), esOf, List.length_cons, List.cons_append, show i + 1 + l.length = i + (l.length + 1) by omega]
theorem esA_push (l : List CQ) (x : CQ) : (esA l).push { key := .int .i64 x.c.id, val := .agg x.c.arr, born := l.length } = esA (l ++ [x]) := by
  unfold esA
  rw [esOf_snoc, Nat.zero_add]
  simp
theorem esOf_keys : ∀ (l : List CQ) (i : Nat), ∀ e ∈ esOf l i, ∃ x ∈ l, e.key = .int .i64 x.c.id ∧ e.val = .agg x.c.arr
  | [], _, e, h => by cases h
  | y :: l, i, e, h => by
    rw [esOf] at h
    rcases List.mem_cons.1 h with rfl | h
    · exact ⟨y, List.mem_cons_self .., rfl, rfl⟩
    · obtain ⟨x, hx, h1, h2⟩ := esOf_keys l (i + 1) e h
      exact ⟨x, List.mem_cons_of_mem _ hx, h1, h2⟩
theorem esOf_has : ∀ (l : List CQ) (i : Nat), ∀ x ∈ l, ∃ e ∈ esOf l i, e.key = .int .i64 x.c.id
  | [], _, x, h => by cases h
  | y :: l, i, x, h => by
    rw [esOf]
    rcases List.mem_cons.1 h with rfl | h
    · exact ⟨_, List.mem_cons_self .., rfl⟩
    · obtain ⟨e, he, h1⟩ := esOf_has l (i + 1) x h
      exact ⟨e, List.mem_cons_of_mem _ he, h1⟩
theorem es_isKey (l : List CQ) : ∀ e ∈ esOf l 0, MapKept.IsKey (.int .i64) e.key := by
  intro e he
  obtain ⟨x, -, h1, -⟩ := esOf_keys l 0 e he
  rw [h1]
  exact isKey64 _
theorem find_none {l : List CQ} {k : Int} (h : hasCard (l.map CQ.c) k = false) : Instr.findNow (.int .i64) (.int .i64 k) (esA l).toList 0 = some none := by
  rcases MapKept.findNow_spec (isKey64 k) (esOf l 0) 0 (es_isKey l) with ⟨h1, -⟩ | ⟨j, e, -, h2, h3⟩
  · exact h1
  · exfalso
    obtain ⟨x, hx, h4, -⟩ := esOf_keys l 0 e (List.mem_of_getElem? h2)
    rw [h4] at h3
    injection h3 with _ h3
    unfold hasCard at h
    rw [List.any_eq_false] at h
    exact h x.c (List.mem_map.2 ⟨x, hx, rfl⟩) (by simpa using h3)
theorem find_some {l : List CQ} {k : Int} (h : hasCard (l.map CQ.c) k = true) : ∃ (i : Nat) (x : CQ), x ∈ l ∧ Instr.findNow (.int .i64) (.int .i64 k) (esA l).toList 0 = some (some (i, .agg x.c.arr)) := by
  rcases MapKept.findNow_spec (isKey64 k) (esOf l 0) 0 (es_isKey l) with ⟨-, h1⟩ | ⟨j, e, h1, h2, h3⟩
  · exfalso
    unfold hasCard at h
    obtain ⟨c, hc, hk⟩ := List.any_eq_true.1 h
    obtain ⟨x, hx, rfl⟩ := List.mem_map.1 hc
    obtain ⟨e, he, h4⟩ := esOf_has l 0 x hx
    exact h1 e he (by rw [h4, of_decide_eq_true hk])
  · obtain ⟨x, hx, -, h5⟩ := esOf_keys l 0 e (List.mem_of_getElem? h2)
    exact ⟨0 + j, x, hx, by rw [← h5]; exact h1⟩
section
variable {P : Program} {w w' : World}
theorem stop_lookup2 {ops : Array Oper} {rest : List Oper} {o : Oper} {a : Act} {Q : Exit → Act → World → Prop} (t : TypeId) (m x : Operand) (_ : o.op = .lookup t m x true) (h : Stop (wpList P ops Q (o :: rest) a w)) : wpList P ops Q (o :: rest) a w := h
theorem wpList_lookup2I {ops : Array Oper} {rest : List Oper} {o : Oper} {a : Act} {Q : Exit → Act → World → Prop} (hg : o.guard = none) (m x : Operand) (t : TypeId) (hop : o.op = .lookup t m x true) (kt et : TypeId) (ht : P.underlying t = some (.map kt et)) (hd : P.underlying kt = some (.int .i64))
    (b : Nat) (es : Array MapEntry) (clock : Nat) (hm : a.eval m = .map (some b)) (k : Int) (hx : a.eval x = .int .i64 k) (hb : MapAt w b es clock) (i : Nat) (val : Value) (hf : Instr.findNow (.int .i64) (.int .i64 k) es.toList 0 = some (some (i, val)))
    (h : wpList P ops Q rest (a.put o.dst (.tuple #[val, .bool true])) w) : wpList P ops Q (o :: rest) a w := by
  refine wpList_plain hg fun K' hK' => ?_
  have hrun : (Instr.lookup t (.map (some b)) (.int .i64 k) true).run P w = .ok (.tuple #[val, .bool true]) w := by
    simp [Instr.lookup, run_underlying ht, MapKept.run_getObj_map hb, MapKept.run_checkKey hd (isKey64 k), MapKept.run_findKey hd hf, Result.andThen]
  unfold Oper.wp
  simp [execOp, hop, hm, hx, hrun, Result.andThen]
  exact hK' _ _ h
theorem wpList_lookup2N {ops : Array Oper} {rest : List Oper} {o : Oper} {a : Act} {Q : Exit → Act → World → Prop} (hg : o.guard = none) (m x : Operand) (t : TypeId) (hop : o.op = .lookup t m x true) (kt et : TypeId) (ht : P.underlying t = some (.map kt et)) (hd : P.underlying kt = some (.int .i64))
    (z : Value) (hz : (zeroValue et).run P w = .ok z w) (b : Nat) (es : Array MapEntry) (clock : Nat) (hm : a.eval m = .map (some b)) (k : Int) (hx : a.eval x = .int .i64 k) (hb : MapAt w b es clock) (hf : Instr.findNow (.int .i64) (.int .i64 k) es.toList 0 = some none)
    (h : wpList P ops Q rest (a.put o.dst (.tuple #[z, .bool false])) w) : wpList P ops Q (o :: rest) a w := by
  refine wpList_plain hg fun K' hK' => ?_
  have hrun : (Instr.lookup t (.map (some b)) (.int .i64 k) true).run P w = .ok (.tuple #[z, .bool false]) w := by
    simp [Instr.lookup, run_underlying ht, MapKept.run_getObj_map hb, MapKept.run_checkKey hd (isKey64 k), MapKept.run_findKey hd hf, Result.andThen, hz]
  unfold Oper.wp
  simp [execOp, hop, hm, hx, hrun, Result.andThen]
  exact hK' _ _ h
theorem stop_mapUpd {ops : Array Oper} {rest : List Oper} {o : Oper} {a : Act} {Q : Exit → Act → World → Prop} (t : TypeId) (m x v : Operand) (_ : o.op = .mapUpdate t m x v) (h : Stop (wpList P ops Q (o :: rest) a w)) : wpList P ops Q (o :: rest) a w := h
open Go.ChangeMaps (setBlock) in
theorem wpList_mapUpdI {ops : Array Oper} {rest : List Oper} {o : Oper} {a : Act} {Q : Exit → Act → World → Prop} (hg : o.guard = none) (m x v : Operand) (t : TypeId) (hop : o.op = .mapUpdate t m x v) (kt et : TypeId) (ht : P.underlying t = some (.map kt et)) (hd : P.underlying kt = some (.int .i64))
    (b : Nat) (es : Array MapEntry) (clock : Nat) (hm : a.eval m = .map (some b)) (k : Int) (hx : a.eval x = .int .i64 k) (val : Value) (hv : a.eval v = val) (hb : MapAt w b es clock) (hf : Instr.findNow (.int .i64) (.int .i64 k) es.toList 0 = some none)
    (h : ∀ w', MapAt w' b (es.push { key := .int .i64 k, val := val, born := clock }) (clock + 1) → Kept (some b) w.heap.size w w' → wpList P ops Q rest (a.put o.dst undef) w') : wpList P ops Q (o :: rest) a w := by
  refine wpList_plain hg fun K' hK' => ?_
  have hrun : (Instr.mapUpdate t (.map (some b)) (.int .i64 k) val).run P w = .ok () (setBlock w b (.map (es.push { key := .int .i64 k, val := val, born := clock }) (clock + 1))) := by
    simp [Instr.mapUpdate, run_underlying ht, MapKept.run_getObj_map hb, MapKept.run_checkKey hd (isKey64 k), MapKept.run_findKey hd hf, MapKept.run_setObj_map _ hb, Result.andThen, setBlock]
  unfold Oper.wp
  simp [execOp, hop, hm, hx, hv, hrun, Result.andThen]
  refine hK' _ _ (h _ ?_ ?_)
  · exact (MapKept.heap_set hb).1
  · exact ⟨rfl, rfl, rfl, by simp [setBlock], fun j _ hp => (MapKept.heap_set hb).2 j (fun e => hp (by rw [e]))⟩
end
end Go.Proofs.Ytldoedmclfbgpaa
namespace Go.Proofs.Ytldoedmclfbgpaa
open Go.RowKit

/-- The place of a card, or -1. -/
def placeI (id : Int) : List Card → Nat → Int
  | [], _ => -1
  | c :: r, i => if c.id = id then (i : Int) else placeI id r (i + 1)
theorem placeI_has (id : Int) : ∀ (l : List Card) (i : Nat), decide (0 ≤ placeI id l i) = hasCard l id
  | [], _ => rfl
  | c :: r, i => by
    unfold placeI hasCard
    rw [List.any_cons]
    by_cases h : c.id = id
    · rw [if_pos h, decide_eq_true h]; simp
    · rw [if_neg h, decide_eq_false h, Bool.false_or]; exact placeI_has id r (i + 1)
theorem placeI_at (id : Int) {l : List Card} {k : Nat} (h : k < l.length) : placeI id (l.drop k) k = if l[k].id = id then (k : Int) else placeI id (l.drop (k + 1)) (k + 1) := by rw [drop_at h, placeI]
theorem cardsOk_at {next : Int} {l : List Card} {k : Nat} (h : k < l.length) (last : Int) : cardsOk next last (l.drop k) = (cardAt next last l[k] && cardsOk next l[k].id (l.drop (k + 1))) := by rw [drop_at h, cardsOk]
theorem deadsOk_at {next : Int} {cards : List Card} {l : List Dead} {k : Nat} (h : k < l.length) (last : Int) :
    deadsOk next cards (l.take k) last (l.drop k) = (deadAt next last l[k] && (!hasCard cards l[k].id && (!hasDead (l.take k) l[k].id && deadsOk next cards (l.take (k + 1)) l[k].seq (l.drop (k + 1))))) := by
  rw [drop_at h, deadsOk, List.take_succ_eq_append_getElem h]
theorem Card.ok_id {c : Card} (h : c.ok = true) : 1 ≤ c.id := by
  unfold Card.ok at h
  simp only [Bool.and_eq_true, decide_eq_true_eq] at h
  omega
/-- The dead rise: what is asked of the last holds of all. -/
theorem deadsOk_seqs (next : Int) (cards : List Card) : ∀ (l was : List Dead) (last : Int), deadsOk next cards was last l = true → ∀ x ∈ l, last ≤ x.seq ∧ x.seq ≤ (l.getLast?.map (·.seq)).getD last
  | [], _, _, _ => by intro x hx; cases hx
  | d :: r, was, last, h => by
    unfold deadsOk at h
    simp only [Bool.and_eq_true] at h
    obtain ⟨h1, -, -, h4⟩ := h
    unfold deadAt at h1
    rw [decide_eq_true_eq] at h1
    have ih := deadsOk_seqs next cards r (was ++ [d]) d.seq h4
    have hl : ((d :: r).getLast?.map (·.seq)).getD last = (r.getLast?.map (·.seq)).getD d.seq := by
      cases r with
      | nil => rfl
      | cons y r =>
        obtain ⟨z, hz⟩ : ∃ z, (y :: r).getLast? = some z := ⟨_, List.getLast?_eq_some_getLast (by simp)⟩
        simp [List.getLast?_cons_cons, hz]
    rw [hl]
    intro x hx
    rcases List.mem_cons.1 hx with rfl | hx
    · refine ⟨h1.2.2.2.2.1, ?_⟩
      cases r with
      | nil => simp
      | cons y r =>
        obtain ⟨z, hz⟩ : ∃ z, (y :: r).getLast? = some z := ⟨_, List.getLast?_eq_some_getLast (by simp)⟩
        have hm : z ∈ y :: r := by
          have := List.mem_of_getLast? hz
          exact this
        have := (ih z hm).1
        rw [hz]; simpa using this
    · have := ih x hx
      exact ⟨by have := h1.2.2.2.2.1; omega, this.2⟩
theorem lastSeq_all {next seq : Int} {cards : List Card} {l : List Dead} (h : deadsOk next cards [] 0 l = true) : decide (l = [] ∨ lastSeq l ≤ seq) = l.all fun d => decide (d.seq ≤ seq) := by
  rw [Bool.eq_iff_iff, decide_eq_true_eq, List.all_eq_true]
  simp only [decide_eq_true_eq]
  have hs := deadsOk_seqs next cards l [] 0 h
  constructor
  · intro e x hx
    rcases e with rfl | e
    · cases hx
    · have := (hs x hx).2
      unfold lastSeq at e
      omega
  · intro e
    cases l with
    | nil => exact .inl rfl
    | cons d r =>
      right
      obtain ⟨z, hz⟩ : ∃ z, (d :: r).getLast? = some z := ⟨_, List.getLast?_eq_some_getLast (by simp)⟩
      have := e z (List.mem_of_getLast? hz)
      unfold lastSeq
      rw [hz]
      simpa using this
/-! The dead, round by round, as the reference goes over them. -/
def deadGood (next : Int) (cards : List Card) (was : List Dead) (d : Dead) : Prop :=
  1 ≤ d.id ∧ d.id < next ∧ hasCard cards d.id = false ∧ 1 ≤ d.ver ∧ d.ver ≤ 1099511627776 ∧ 0 ≤ d.seq ∧ d.seq ≤ 1099511627776 ∧ ∀ x ∈ was, x.id ≠ d.id ∧ x.seq ≤ d.seq
structure SeqAt (was : List Dead) (last : Int) : Prop where
  pos : 0 ≤ last
  top : ∀ x ∈ was, x.seq ≤ last
  hit : last = 0 ∨ ∃ x ∈ was, x.seq = last
theorem SeqAt.start : SeqAt [] 0 := ⟨by omega, (fun x hx => by cases hx), .inl rfl⟩
theorem SeqAt.next {was : List Dead} {_last next : Int} {cards : List Card} {d : Dead} (h : deadGood next cards was d) : SeqAt (was ++ [d]) d.seq := by
  obtain ⟨-, -, -, -, -, h0, -, h1⟩ := h
  refine ⟨h0, fun x hx => ?_, .inr ⟨d, by simp, rfl⟩⟩
  rcases List.mem_append.1 hx with hx | hx
  · exact (h1 x hx).2
  · rw [List.mem_singleton.1 hx]; exact Int.le_refl _
theorem dead_fin {next last : Int} {cards : List Card} {was : List Dead} {d : Dead} {r z : Bool} (h : (deadAt next last d && (!hasCard cards d.id && (!hasDead was d.id && r))) = z) (hs : SeqAt was last) :
    (¬ deadGood next cards was d → z = false) ∧ (deadGood next cards was d → r = z) := by
  constructor
  · intro hn
    rw [← h]
    rw [Bool.and_eq_false_iff, Bool.and_eq_false_iff, Bool.and_eq_false_iff]
    by_cases a1 : deadAt next last d = true
    · by_cases a2 : hasCard cards d.id = true
      · exact .inr (.inl (by rw [a2]; rfl))
      · by_cases a3 : hasDead was d.id = true
        · exact .inr (.inr (.inl (by rw [a3]; rfl)))
        · exfalso
          apply hn
          unfold deadAt at a1
          rw [decide_eq_true_eq] at a1
          obtain ⟨b1, b2, b3, b4, b5, b6⟩ := a1
          have := hs.pos
          refine ⟨b1, b2, by simpa using a2, b3, b4, by omega, b6, fun x hx => ⟨fun e => a3 ?_, by have := hs.top x hx; omega⟩⟩
          unfold hasDead
          exact List.any_eq_true.2 ⟨x, hx, by simpa using e⟩
    · exact .inl (by simpa using a1)
  · rintro ⟨b1, b2, b3, b4, b5, b6, b7, b8⟩
    have a1 : deadAt next last d = true := by
      unfold deadAt
      rw [decide_eq_true_eq]
      refine ⟨b1, b2, b4, b5, ?_, b7⟩
      rcases hs.hit with e | ⟨x, hx, e⟩
      · omega
      · have := (b8 x hx).2; omega
    have a3 : hasDead was d.id = false := by
      unfold hasDead
      rw [List.any_eq_false]
      intro x hx
      simpa using (b8 x hx).1
    rw [a1, b3, a3] at h
    simpa using h
/-- What the program asks of a dead card. -/
theorem dead_fin' {next last : Int} {cards : List Card} {was : List Dead} {d : Dead} {r z : Bool} (h : (deadAt next last d && (!hasCard cards d.id && (!hasDead was d.id && r))) = z) :
    (deadAt next last d = false → z = false) ∧ (hasCard cards d.id = true → z = false) ∧ (hasDead was d.id = true → z = false) ∧ (deadAt next last d = true → hasCard cards d.id = false → hasDead was d.id = false → r = z) := by
  refine ⟨fun e => ?_, fun e => ?_, fun e => ?_, fun e1 e2 e3 => ?_⟩
  · rw [e] at h; simpa using h.symm
  · rw [e] at h; simpa using h.symm
  · rw [e] at h; simpa using h.symm
  · rw [e1, e2, e3] at h; simpa using h
theorem lastSeq_at {l : List Dead} (h : 0 < l.length) : lastSeq l = (l[l.length - 1]'(by omega)).seq := by
  unfold lastSeq
  rw [List.getLast?_eq_getElem?, List.getElem?_eq_getElem (by omega)]
  rfl
/-! What a look for a card answers. -/
def getE (cards : List Card) (dead : List Dead) (id : Int) : Int := if hasCard cards id then 0 else if hasDead dead id then 9 else 6
/-! The parts of a book that may be. -/
theorem ok_shelf {b : Book} (h : shelfOk b.next b.cards b.dead = false) : b.ok = false := by unfold Book.ok; rw [h]; rfl
theorem ok_seq {b : Book} (h : ¬ (0 ≤ b.seq ∧ b.seq ≤ 1099511627776)) : b.ok = false := by unfold Book.ok; rw [decide_eq_false h]; simp
theorem ok_grps {b : Book} (h : grpsOk (-1) b.groups = false) : b.ok = false := by unfold Book.ok; rw [h]; simp
theorem ok_last {b : Book} (h : ¬ (b.dead = [] ∨ lastSeq b.dead ≤ b.seq)) : b.ok = false := by unfold Book.ok; rw [decide_eq_false h]; simp
theorem ok_rest {b : Book} (h1 : shelfOk b.next b.cards b.dead = true) (h2 : 0 ≤ b.seq ∧ b.seq ≤ 1099511627776) (h3 : grpsOk (-1) b.groups = true) (h4 : b.dead = [] ∨ lastSeq b.dead ≤ b.seq) : (b.groups.all fun g => memOk b.cards g.mem) = b.ok := by
  unfold Book.ok
  rw [h1, decide_eq_true h2, h3, decide_eq_true h4]
  simp
end Go.Proofs.Ytldoedmclfbgpaa
namespace Go.Proofs.Ytldoedmclfbgpaa
open Go.RowKit

theorem stop_build {P : Program} {w : World} {ops : Array Oper} {rest : List Oper} {o : Oper} {a : Act} {Q : Exit → Act → World → Prop} (t : TypeId) (parts : Array (Nat × Operand)) (_ : o.op = .build t parts) (h : Stop (wpList P ops Q (o :: rest) a w)) : wpList P ops Q (o :: rest) a w := h
theorem wpList_buildD {P : Program} {w : World} {ops : Array Oper} {rest : List Oper} {o : Oper} {a : Act} {Q : Exit → Act → World → Prop} (hgd : o.guard = none) (t : TypeId) (parts : Array (Nat × Operand)) (ho : o.op = .build t parts) (ps : List (Nat × Value))
    (hp : (parts.toList.map fun (i, x) => (i, a.eval x)) = ps) (cells : Array Value) (hc : P.built t ps = some cells)
    (h : wpList P ops Q rest (a.put o.dst (.agg cells)) w) : wpList P ops Q (o :: rest) a w := by
  refine wpList_plain hgd fun K hK => ?_
  unfold Oper.wp execOp
  simp only [ho, Sem.run_bind, run_build w t _ cells (by rw [Array.toList_map, hp]; exact hc), Result.andThen_ok]
  exact hK _ _ h
theorem foldl_put : ∀ (vs : List Value) (cs : Array Value) (off k : Nat), (vs.zipIdx k).foldl (fun cs (x : Value × Nat) => cs.setIfInBounds (off + x.2) x.1) cs = putAt cs (off + k) vs
  | [], _, _, _ => rfl
  | v :: r, cs, off, k => by
    rw [List.zipIdx_cons, List.foldl_cons, foldl_put r, putAt]
    rfl
theorem fill_agg (pl : Nat → Option (Nat × Nat)) (cells : Array Value) (i off n : Nat) (E : Array Value) (rest : List (Nat × Value)) (hp : pl i = some (off, n)) (hn : E.size = n) (hs : off + n ≤ cells.size) : Instr.fill pl cells ((i, .agg E) :: rest) = Instr.fill pl (putAt cells off E.toList) rest := by
  subst hn
  rw [Instr.fill, hp]
  have hc : (Value.agg E).cells = E := rfl
  simp only [hc]
  rw [if_neg (by simp; omega)]
  congr 1
  have := foldl_put E.toList cells off 0
  rw [Nat.add_zero] at this
  rw [← this, ← Array.foldl_toList, Array.toList_zipIdx]

theorem putAt_full (cs : Array Value) (vs : List Value) (h : cs.size = vs.length) : putAt cs 0 vs = vs.toArray := by
  apply Array.ext_getElem?
  intro i
  have hr : vs.toArray[i]? = vs[i]? := by simp
  rw [hr]
  by_cases hi : i < vs.length
  · have := putAt_in vs cs 0 i (by omega) hi
    rwa [Nat.zero_add] at this
  · rw [Array.getElem?_eq_none (by rw [putAt_size]; omega), List.getElem?_eq_none (by omega)]
theorem stop_lit {P : Program} {w : World} {ops : Array Oper} {rest : List Oper} {o : Oper} {a : Act} {Q : Exit → Act → World → Prop} (t : TypeId) (parts : Array (Nat × Operand)) (_ : o.op = .buildSlice t 1 parts) (h : Stop (wpList P ops Q (o :: rest) a w)) : wpList P ops Q (o :: rest) a w := h
theorem wpList_lit1 {P : Program} {w : World} {ops : Array Oper} {rest : List Oper} {o : Oper} {a : Act} {Q : Exit → Act → World → Prop} (hg : o.guard = none) (t e : TypeId) (x : Operand) (ho : o.op = .buildSlice t 1 #[(0, x)]) {n bytes : Nat} (I : Elem P t e n bytes) (hn : n ≤ 16777216) (E : Array Value)
    (hx : a.eval x = .agg E) (hE : E.size = n) (h : wpList P ops Q rest (a.put o.dst (.slice (some ⟨w.heap.size, 0, none⟩) 1 1)) (w.alloc (.cells E e))) : wpList P ops Q (o :: rest) a w := by
  obtain ⟨i, z, h1, h2, h3, h4, h5⟩ := I.info
  have hp := I.pos
  refine wpList_buildSlice hg t e 1 _ ho E i z I.under h1 h2 (by omega) (by omega) ?_ h
  have e0 : ((#[(0, x)] : Array (Nat × Operand)).map fun (i, x) => (i, a.eval x)).toList = [(0, .agg E)] := by simp [hx]
  rw [e0, fill_agg _ _ 0 0 n E [] (by simp [h3]) hE (by simp; omega)]
  rw [putAt_full _ _ (by simp; omega)]
  simp [Instr.fill]
end Go.Proofs.Ytldoedmclfbgpaa
namespace Go.Proofs.Ytldoedmclfbgpaa
open Go.RowKit

/-- A world behind the making of one block, in which that block is as it was made. -/
def At (w w' : World) (cs : Array Value) : Prop := Below w.heap.size w w' ∧ Blk w' w.heap.size cs
theorem At.new (w : World) (t : TypeId) (cs : Array Value) : At w (w.alloc (.cells cs t)) cs := ⟨(Below.refl _ _).alloc (Nat.le_refl _) _, Blk.new _ _ _⟩
theorem At.step {w w1 w2 : World} {cs : Array Value} (h : At w w1 cs) (hb : Below w1.heap.size w1 w2) : At w w2 cs := ⟨h.1.trans (hb.mono h.1.size), h.2.below hb h.2.lt⟩
theorem At.alloc {w w1 : World} {cs : Array Value} (h : At w w1 cs) (o : Obj) : At w (w1.alloc o) cs := h.step ((Below.refl _ _).alloc (Nat.le_refl _) o)
end Go.Proofs.Ytldoedmclfbgpaa
namespace Go.Proofs.Ytldoedmclfbgpaa
open Go.RowKit

theorem results_B2 {P : Program} {w : World} {fn : Func} {p s : Tmp} {ty : TypeId} (h : fn.results = #[.cell p ty, .tmp s]) {tmps : Array Value} {g : Nat} {cs : Array Value} {v : Value} (hp : tmps.getD p undef = .pointer (some ⟨g, 0, none⟩)) (hv : tmps.getD s undef = v) (hb : Blk w g cs) {n : Nat} (S : Str P ty n) (hn : cs.size = n) :
    (results fn tmps).run P w = .ok (.tuple #[.agg cs, v]) w := by
  obtain ⟨d, h1, h2⟩ := S.desc
  obtain ⟨t, hb⟩ := hb
  have hl := run_loadVar_row (P := P) w g t ty cs (0, 0) d hb h1 (by cases d <;> first | rfl | (simp at h2)) (by rw [S.size, hn])
  have hp' : tmps[p]?.getD undef = .pointer (some ⟨g, 0, none⟩) := by simpa using hp
  have hv' : tmps[s]?.getD undef = v := by simpa using hv
  simp [results, h, hp', hv', asAddr, hl]
theorem fresh_below {w w' : World} {o : Obj} (hk : Kept (some w.heap.size) (w.alloc o).heap.size (w.alloc o) w') : Below w.heap.size w w' := ((Below.refl _ _).alloc (Nat.le_refl _) _).trans (hk.oneB (by simp) (Nat.le_refl _))
/-- The first block of a call's own is made. -/
theorem At.go {P : Program} {ops : Array Oper} {l : List Oper} {a : Act} {Q : Exit → Act → World → Prop} {t : TypeId} {w : World} {cs : Array Value} (h : ∀ w', At w w' cs → w'.heap.size = w.heap.size + 1 → wpList P ops Q l a w') :
    wpList P ops Q l a (w.alloc (.cells cs t)) := h _ (At.new w t cs) (by simp)
theorem At.as {w w' : World} {cs ds : Array Value} (h : At w w' cs) (e : cs = ds) : At w w' ds := e ▸ h
theorem At.kept {w w1 w2 : World} {cs : Array Value} (h : At w w1 cs) {q : Nat} (hq : w.heap.size < q) (k : Kept (some q) w1.heap.size w1 w2) : At w w2 cs :=
  ⟨h.1.trans (k.oneB h.1.size (by omega)), h.2.kept k h.2.lt (fun e => by injection e with e; omega)⟩
theorem At.lt {w w' : World} {cs : Array Value} (h : At w w' cs) : w.heap.size < w'.heap.size := h.2.lt
end Go.Proofs.Ytldoedmclfbgpaa
namespace Go.Proofs.Ytldoedmclfbgpaa
open Go.RowKit

/-- What is told of an operation's value. -/
structure Sp where
  holds : Value → World → Prop
  stays : ∀ v w w', holds v w → Below w.heap.size w w' → holds v w'
def Sp.any : Sp := ⟨fun _ _ => True, fun _ _ _ _ _ => trivial⟩
def Sp.eq (x : Value) : Sp := ⟨fun v _ => v = x, fun _ _ _ h _ => h⟩
def Sp.slice {α : Type} (k : Nat) (cs : α → List Value) (l : List α) : Sp := ⟨fun v w => ∃ A c, v = .slice A l.length c ∧ In k cs w A c l, fun _ _ _ ⟨A, c, hv, h⟩ hb => ⟨A, c, hv, h.below hb⟩⟩
theorem Sp.eq_holds (x v : Value) (w : World) : (Sp.eq x).holds v w = (v = x) := rfl
theorem Sp.slice_holds {α : Type} (k : Nat) (cs : α → List Value) (l : List α) (v : Value) (w : World) : (Sp.slice k cs l).holds v w = ∃ A c, v = .slice A l.length c ∧ In k cs w A c l := rfl

def dstOf (ops : Array Oper) (j : Nat) : Option Tmp := (ops[j]?).bind (·.dst)
/-- The frame with all values put. -/
def putAll (u : Nat → Value) : List Oper → Nat → Act → Act
  | [], _, a => a
  | o :: r, i, a => putAll u r (i + 1) (a.put o.dst (u i))
/-- The frame with the values of what is waited for. -/
def putDeps (ops : Array Oper) (u : Nat → Value) : List Edge → Act → Act
  | [], a => a
  | e :: r, a => putDeps ops u r (if Region.binds .any e = true then a.put (dstOf ops e.on) (u e.on) else a)
def Deps (S : List Sp) (u : Nat → Value) (w : World) : List Edge → Prop
  | [] => True
  | e :: r => (Region.binds .any e = true → (S.getD e.on Sp.any).holds (u e.on) w) ∧ Deps S u w r
def RelEnd (ds : List Deferred) (d : Option Tmp) (s : Sp) (w1 : World) (e : Exit) (a' : Act) (w' : World) : Prop :=
  e = .normal ∧ a'.defers = ds ∧ Below w1.heap.size w1 w' ∧ ∀ t, d = some t → s.holds (a'.tmps.getD t undef) w'
theorem RelEnd.mk {ds : List Deferred} {d : Tmp} {s : Sp} {w1 : World} {a' : Act} {w' : World} (h1 : a'.defers = ds) (h2 : Below w1.heap.size w1 w') (h3 : s.holds (a'.tmps.getD d undef) w') : RelEnd ds (some d) s w1 .normal a' w' :=
  ⟨rfl, h1, h2, fun t e => by injection e with e; subst e; exact h3⟩
def RelGoals (P : Program) (ops : Array Oper) (S : List Sp) (a : Act) (w : World) : List Oper → Nat → Prop
  | [], _ => True
  | o :: r, i => (∀ (u : Nat → Value) (w1 : World), Below w.heap.size w w1 → Deps S u w1 o.after.toList → wpList P ops (RelEnd a.defers o.dst (S.getD i Sp.any) w1) [o] (putDeps ops u o.after.toList a) w1) ∧ RelGoals P ops S a w r (i + 1)
def RelHold (u : Nat → Value) (w : World) : List Sp → Nat → Prop
  | [], _ => True
  | s :: r, i => s.holds (u i) w ∧ RelHold u w r (i + 1)
def relB (ops : Array Oper) (N : Nat) : Bool :=
  (List.range ops.size).all fun i => match ops[i]? with
    | none => false
    | some o =>
      (match o.dst with
        | none => false
        | some d => decide (d < N) && (List.range ops.size).all (fun j => j == i || dstOf ops j != some d)) &&
      (match o.op with
        | .select .. => false
        | _ => true) &&
      o.after.all (fun e => !Region.binds .any e || decide (e.on < i)) &&
      (o.looksAt ops).all (fun t => (List.range ops.size).all fun j => dstOf ops j != some t || o.after.any (fun e => Region.binds .any e && e.on == j) ||
        (match ops[j]? with
          | none => false
          | some oj => oj.after.any (fun e => Region.binds .any e && e.on == i)))
section
variable {ops : Array Oper} {N : Nat}
theorem relB_spec (h : relB ops N = true) {i : Nat} {o : Oper} (ho : ops[i]? = some o) :
    (∃ d, o.dst = some d ∧ d < N ∧ ∀ j, dstOf ops j = some d → j = i) ∧ (∀ cs b, o.op ≠ .select cs b) ∧ (∀ e ∈ o.after, Region.binds .any e = true → e.on < i) ∧
    (∀ t ∈ o.looksAt ops, ∀ j, dstOf ops j = some t → (∃ e ∈ o.after, Region.binds .any e = true ∧ e.on = j) ∨ (∃ oj, ops[j]? = some oj ∧ ∃ e ∈ oj.after, Region.binds .any e = true ∧ e.on = i)) := by
  have hi : i < ops.size := (Array.getElem?_eq_some_iff.1 ho).1
  have hlt : ∀ j t, dstOf ops j = some t → j < ops.size := fun j t hj => by
    rcases Nat.lt_or_ge j ops.size with h | h
    · exact h
    · simp [dstOf, Array.getElem?_eq_none h] at hj
  unfold relB at h
  rw [List.all_eq_true] at h
  have h1 := h i (List.mem_range.2 hi)
  rw [ho] at h1
  simp only [Bool.and_eq_true] at h1
  obtain ⟨⟨⟨h2, h3⟩, h4⟩, h5⟩ := h1
  refine ⟨?_, ?_, ?_, ?_⟩
  · cases hd : o.dst with
    | none => rw [hd] at h2; cases h2
    | some d =>
      rw [hd] at h2
      simp only [Bool.and_eq_true, decide_eq_true_eq] at h2
      refine ⟨d, rfl, h2.1, fun j hj => ?_⟩
      have := List.all_eq_true.1 h2.2 j (List.mem_range.2 (hlt j d hj))
      simp only [Bool.or_eq_true, beq_iff_eq, bne_iff_ne] at this
      exact this.resolve_right (fun hn => hn hj)
  · intro cs b hs
    rw [hs] at h3
    cases h3
  · intro e he hb
    have := Array.all_eq_true_iff_forall_mem.1 h4 e he
    simpa [hb] using this
  · intro t ht j hj
    have := List.all_eq_true.1 (List.all_eq_true.1 h5 t ht) j (List.mem_range.2 (hlt j t hj))
    simp only [Bool.or_eq_true, bne_iff_ne] at this
    rcases this with (h6 | h6) | h6
    · exact absurd hj h6
    · left
      rw [Array.any_eq_true'] at h6
      obtain ⟨e, he, h7⟩ := h6
      simp only [Bool.and_eq_true, beq_iff_eq] at h7
      exact ⟨e, he, h7.1, h7.2⟩
    · right
      cases hoj : ops[j]? with
      | none => rw [hoj] at h6; cases h6
      | some oj =>
        rw [hoj] at h6
        simp only at h6
        rw [Array.any_eq_true'] at h6
        obtain ⟨e, he, h7⟩ := h6
        simp only [Bool.and_eq_true, beq_iff_eq] at h7
        exact ⟨oj, rfl, e, he, h7.1, h7.2⟩
theorem put_size (a : Act) (d : Option Tmp) (v : Value) : (a.put d v).tmps.size = a.tmps.size := by cases d <;> simp [Act.put]
theorem put_defers (a : Act) (d : Option Tmp) (v : Value) : (a.put d v).defers = a.defers := by cases d <;> rfl
theorem put_get_ne (a : Act) {d : Option Tmp} (v : Value) {t : Tmp} (h : d ≠ some t) : (a.put d v).tmps[t]? = a.tmps[t]? := by
  cases d with
  | none => rfl
  | some d => simp only [Act.put]; rw [Array.getElem?_setIfInBounds_ne (fun e => h (by rw [e]))]
theorem put_get_eq (a : Act) (v : Value) {t : Tmp} (h : t < a.tmps.size) : (a.put (some t) v).tmps[t]? = some v := by
  simp only [Act.put]
  rw [Array.getElem?_setIfInBounds]
  simp [h]
theorem putDeps_size (u : Nat → Value) : ∀ (es : List Edge) (a : Act), (putDeps ops u es a).tmps.size = a.tmps.size ∧ (putDeps ops u es a).defers = a.defers
  | [], a => ⟨rfl, rfl⟩
  | e :: r, a => by
    unfold putDeps
    have := putDeps_size u r (if Region.binds .any e = true then a.put (dstOf ops e.on) (u e.on) else a)
    split at this
    · rename_i hb
      rw [if_pos hb]
      exact ⟨this.1.trans (put_size _ _ _), this.2.trans (put_defers _ _ _)⟩
    · rename_i hb
      rw [if_neg hb]
      exact this
theorem putDeps_miss (u : Nat → Value) {t : Tmp} : ∀ (es : List Edge) (a : Act), (∀ e ∈ es, Region.binds .any e = true → dstOf ops e.on ≠ some t) → (putDeps ops u es a).tmps[t]? = a.tmps[t]?
  | [], a, _ => rfl
  | e :: r, a, h => by
    unfold putDeps
    rw [putDeps_miss u r _ (fun e' he' => h e' (List.mem_cons_of_mem _ he'))]
    split
    · rename_i hb
      exact put_get_ne _ _ (h e (List.mem_cons_self ..) hb)
    · rfl
theorem putDeps_hit (u : Nat → Value) {t : Tmp} {j : Nat} (hj : ∀ i, dstOf ops i = some t → i = j) : ∀ (es : List Edge) (a : Act), t < a.tmps.size → (∃ e ∈ es, Region.binds .any e = true ∧ dstOf ops e.on = some t) → (putDeps ops u es a).tmps[t]? = some (u j)
  | [], a, _, ⟨_, he, _⟩ => by cases he
  | e :: r, a, ht, ⟨e', he', hb', hd'⟩ => by
    unfold putDeps
    by_cases hex : ∃ e ∈ r, Region.binds .any e = true ∧ dstOf ops e.on = some t
    · refine putDeps_hit u hj r _ ?_ hex
      split
      · rw [put_size]; exact ht
      · exact ht
    · rw [putDeps_miss u r _ (fun x hx hb hd => hex ⟨x, hx, hb, hd⟩)]
      rcases List.mem_cons.1 he' with rfl | he'
      · rw [if_pos hb', hd', hj _ hd']
        exact put_get_eq _ _ ht
      · exact absurd ⟨e', he', hb', hd'⟩ hex
theorem putAll_size (u : Nat → Value) : ∀ (l : List Oper) (i : Nat) (a : Act), (putAll u l i a).tmps.size = a.tmps.size ∧ (putAll u l i a).defers = a.defers
  | [], _, a => ⟨rfl, rfl⟩
  | o :: r, i, a => by
    unfold putAll
    have := putAll_size u r (i + 1) (a.put o.dst (u i))
    exact ⟨this.1.trans (put_size _ _ _), this.2.trans (put_defers _ _ _)⟩
theorem putAll_miss (u : Nat → Value) {t : Tmp} : ∀ (l : List Oper) (i : Nat) (a : Act), (∀ o ∈ l, o.dst ≠ some t) → (putAll u l i a).tmps[t]? = a.tmps[t]?
  | [], _, a, _ => rfl
  | o :: r, i, a, h => by
    unfold putAll
    rw [putAll_miss u r (i + 1) _ (fun x hx => h x (List.mem_cons_of_mem _ hx))]
    exact put_get_ne _ _ (h o (List.mem_cons_self ..))
theorem putAll_hit (u : Nat → Value) {t : Tmp} : ∀ (l : List Oper) (i : Nat) (a : Act) (j : Nat) (o : Oper), t < a.tmps.size → l[j]? = some o → o.dst = some t → (∀ k x, l[k]? = some x → x.dst = some t → k = j) → (putAll u l i a).tmps[t]? = some (u (i + j))
  | [], _, _, _, _, _, h, _, _ => by simp at h
  | x :: r, i, a, 0, o, ht, h, hd, hu => by
    unfold putAll
    simp only [List.getElem?_cons_zero, Option.some.injEq] at h
    subst h
    rw [putAll_miss u r (i + 1) _ (fun y hy hyd => by
      obtain ⟨k, hk, rfl⟩ := List.getElem_of_mem hy
      have := hu (k + 1) r[k] (by simp [hk]) hyd
      omega), hd]
    exact put_get_eq _ _ ht
  | x :: r, i, a, j + 1, o, ht, h, hd, hu => by
    unfold putAll
    rw [putAll_hit u r (i + 1) _ j o (by rw [put_size]; exact ht) (by simpa using h) hd (fun k y hk hy => by have := hu (k + 1) y (by simpa using hk) hy; omega)]
    congr 2
    omega
end
section
variable {P : Program} {S : List Sp} {a : Act} {w : World} {l : List Oper}
theorem RelGoals.at {ops : Array Oper} : ∀ (l : List Oper) (i : Nat), RelGoals P ops S a w l i → ∀ (j : Nat) (o : Oper), l[j]? = some o → ∀ (u : Nat → Value) (w1 : World), Below w.heap.size w w1 → Deps S u w1 o.after.toList →
    wpList P ops (RelEnd a.defers o.dst (S.getD (i + j) Sp.any) w1) [o] (putDeps ops u o.after.toList a) w1
  | [], _, _, _, _, h => by simp at h
  | x :: r, i, hg, 0, o, h => by
    simp only [List.getElem?_cons_zero, Option.some.injEq] at h
    subst h
    exact hg.1
  | x :: r, i, hg, j + 1, o, h => by
    have := RelGoals.at r (i + 1) hg.2 j o (by simpa using h)
    rw [show i + 1 + j = i + (j + 1) by omega] at this
    exact this
theorem Deps.of {u : Nat → Value} {w1 : World} : ∀ es : List Edge, (∀ e ∈ es, Region.binds .any e = true → (S.getD e.on Sp.any).holds (u e.on) w1) → Deps S u w1 es
  | [], _ => trivial
  | e :: r, h => ⟨h e (List.mem_cons_self ..), Deps.of r (fun x hx => h x (List.mem_cons_of_mem _ hx))⟩
theorem RelHold.of {u : Nat → Value} {w1 : World} : ∀ (S : List Sp) (i : Nat), (∀ (j : Nat) (s : Sp), S[j]? = some s → s.holds (u (i + j)) w1) → RelHold u w1 S i
  | [], _, _ => trivial
  | s :: r, i, h => ⟨by simpa using h 0 s (by simp), RelHold.of r (i + 1) (fun j x hx => by have := h (j + 1) x (by simpa using hx); rwa [show i + (j + 1) = i + 1 + j by omega] at this)⟩
def RelInv (l : List Oper) (S : List Sp) (a : Act) (w : World) (listed : Array Bool) (a' : Act) (w' : World) : Prop :=
  Below w.heap.size w w' ∧ a'.defers = a.defers ∧ a'.tmps.size = a.tmps.size ∧
  (∀ j o, l[j]? = some o → listed.getD j false = true → ∀ e ∈ o.after, Region.binds .any e = true → listed.getD e.on false = true) ∧
  (∀ t, (∀ j o, l[j]? = some o → o.dst = some t → listed.getD j false = false) → a'.tmps[t]? = a.tmps[t]?) ∧
  ∃ u : Nat → Value, ∀ j o t, l[j]? = some o → o.dst = some t → listed.getD j false = true → a'.tmps[t]? = some (u j) ∧ (S.getD j Sp.any).holds (u j) w'
/-- The goals from operation s on. -/
def Hop (P : Program) (l : List Oper) (S : List Sp) (a : Act) (w : World) (s : Nat) : Prop :=
  ∀ (i : Nat) (o : Oper), l[i]? = some o → s ≤ i → ∀ (u : Nat → Value) (w1 : World), Below w.heap.size w w1 → Deps S u w1 o.after.toList →
    wpList P l.toArray (RelEnd a.defers o.dst (S.getD i Sp.any) w1) [o] (putDeps l.toArray u o.after.toList a) w1
theorem Hop.of {s : Nat} (h : RelGoals P l.toArray S a w (l.drop s) s) : Hop P l S a w s := fun i o ho hi u w1 hb hd => by
  have := RelGoals.at (l.drop s) s h (i - s) o (by rw [List.getElem?_drop, show s + (i - s) = i by omega]; exact ho) u w1 hb hd
  rw [show s + (i - s) = i by omega] at this
  exact this
theorem getD_set_false {listed : Array Bool} {i j : Nat} (h : i ≠ j) : (listed.setIfInBounds i true).getD j false = listed.getD j false := getD_set_ne false h
theorem eval_agree {b b' : Act} {ops : Array Oper} {o : Oper} (h : ∀ t ∈ o.looksAt ops, b.tmps[t]? = b'.tmps[t]?) : ∀ x ∈ o.op.operands, b.eval x = b'.eval x := by
  intro x hx
  cases x with
  | tmp t =>
    have ht : t ∈ o.looksAt ops := List.mem_append_left _ (List.mem_filterMap.2 ⟨.tmp t, by simpa using hx, rfl⟩)
    show b.tmps.getD t undef = b'.tmps.getD t undef
    rw [Array.getD_eq_getD_getElem?, Array.getD_eq_getD_getElem?, h t ht]
  | _ => rfl
theorem wanted_agree {b b' : Act} {ops : Array Oper} {o : Oper} (h : ∀ t ∈ o.looksAt ops, b.tmps[t]? = b'.tmps[t]?) : Region.wanted o (yielded ops b.tmps) = Region.wanted o (yielded ops b'.tmps) := by
  unfold Region.wanted
  cases hg : o.guard with
  | none => rfl
  | some gw =>
    obtain ⟨g, want⟩ := gw
    have hy : yielded ops b.tmps g = yielded ops b'.tmps g := by
      unfold yielded
      cases ht : (ops[g]?).bind (·.dst) with
      | none => rfl
      | some t =>
        have := h t (by simp [Oper.looksAt, hg, ht])
        simp only [Option.bind_some, this]
    simp only [hy]
theorem rel_step {Q : Exit → Act → World → Prop} {N : Nat} (hB : relB l.toArray N = true) (ha : a.tmps.size = N) {s : Nat} (hop : Hop P l S a w s) {listed : Array Bool} (hs : ∀ j, j < s → listed.getD j false = true) (hsz : listed.size = l.length) {a' : Act} {w' : World} (inv : RelInv l S a w listed a' w') {i : Nat} (hr : i ∈ Region.ready .any l.toArray listed) :
    wpOp P l.toArray Q i (RelInv l S a w (listed.setIfInBounds i true)) a' w' := by
  obtain ⟨hun, o, ho, hall⟩ := mem_ready.1 hr
  have hol : l[i]? = some o := by simpa using ho
  obtain ⟨⟨d, hd, hdN, huniq⟩, hsel, _, hlook⟩ := relB_spec hB ho
  obtain ⟨hbel, hdef, hsize, hclosed, hold, u, hu⟩ := inv
  have hil : i < l.length := by
    rcases Nat.lt_or_ge i l.length with h | h
    · exact h
    · simp [List.getElem?_eq_none h] at hol
  have hunf : listed.getD i false = false := by
    have : i < listed.size := by omega
    simpa [this] using hun
  have dst_at : ∀ j t, dstOf l.toArray j = some t → ∃ oj, l[j]? = some oj ∧ oj.dst = some t := fun j t h => by
    unfold dstOf at h
    rw [List.getElem?_toArray] at h
    cases hj : l[j]? with
    | none => rw [hj] at h; cases h
    | some oj => rw [hj] at h; exact ⟨oj, rfl, h⟩
  have dst_of : ∀ j oj t, l[j]? = some oj → oj.dst = some t → dstOf l.toArray j = some t := fun j oj t h h' => by
    unfold dstOf
    rw [List.getElem?_toArray, h]; exact h'
  have hdeps : Deps S u w' o.after.toList := Deps.of _ (fun e he hb => by
    have he' : e ∈ o.after := by simpa using he
    have hl := hall e he' hb
    have hlt : e.on < l.length := by
      have := (relB_spec hB ho).2.2.1 e he' hb
      omega
    obtain ⟨⟨t, ht, _⟩, _⟩ := relB_spec hB (i := e.on) (o := l[e.on]) (by simp [hlt])
    exact (hu e.on l[e.on] t (by simp [hlt]) ht hl).2)
  have hsi : s ≤ i := by
    rcases Nat.lt_or_ge i s with h | h
    · rw [hs i h] at hunf; cases hunf
    · exact h
  have hgoal := hop i o hol hsi u w' hbel hdeps
  have hF := putDeps_size (ops := l.toArray) u o.after.toList a
  generalize hFe : putDeps l.toArray u o.after.toList a = F at hgoal hF
  have agree : ∀ t ∈ o.looksAt l.toArray, F.tmps[t]? = a'.tmps[t]? := by
    intro t ht
    by_cases hex : ∃ e ∈ o.after.toList, Region.binds .any e = true ∧ dstOf l.toArray e.on = some t
    · obtain ⟨e, he, hb, hde⟩ := hex
      obtain ⟨oj, hj, hdj⟩ := dst_at _ _ hde
      have hw := (hu e.on oj t hj hdj (hall e (by simpa using he) hb)).1
      obtain ⟨⟨d', hd', hdN', huniq'⟩, _⟩ := relB_spec hB (i := e.on) (o := oj) (by simpa using hj)
      have : d' = t := by rw [hd'] at hdj; injection hdj
      subst this
      rw [hw, ← hFe]
      exact putDeps_hit u huniq' _ _ (by rw [ha]; exact hdN') ⟨e, he, hb, hde⟩
    · rw [← hFe, putDeps_miss u _ _ (fun e he hb hde => hex ⟨e, he, hb, hde⟩)]
      symm
      refine hold t (fun j oj hj hdj => ?_)
      cases hlj : listed.getD j false
      · rfl
      · rcases hlook t ht j (dst_of j oj t hj hdj) with ⟨e, he, hb, hej⟩ | ⟨oj', hoj', e, he, hb, hei⟩
        · exact absurd ⟨e, by simpa using he, hb, by rw [hej]; exact dst_of j oj t hj hdj⟩ hex
        · have : oj' = oj := by
            rw [List.getElem?_toArray, hj] at hoj'
            injection hoj' with hoj'
            exact hoj'.symm
          subst this
          have := hclosed j oj' hj hlj e he hb
          rw [hei, hunf] at this
          cases this
  have heval : execOp F.eval o = execOp a'.eval o := execOp_congr o hsel (eval_agree agree)
  have hwant := wanted_agree agree
  have fin : ∀ v w'', RelEnd a.defers o.dst (S.getD i Sp.any) w' .normal (F.put o.dst v) w'' → RelInv l S a w (listed.setIfInBounds i true) (a'.put o.dst v) w'' := by
    rintro v w'' ⟨_, _, hb2, hs⟩
    have hs' := hs d hd
    rw [hd] at hs'
    have hg : (F.put (some d) v).tmps.getD d undef = v := by
      have := put_get_eq F v (t := d) (by rw [hF.1, ha]; exact hdN)
      rw [Array.getD_eq_getD_getElem?, this]; rfl
    rw [hg] at hs'
    refine ⟨hbel.trans (hb2.mono hbel.size), by rw [put_defers, hdef], by rw [put_size, hsize], ?_, ?_, fun j => if j = i then v else u j, ?_⟩
    · intro j oj hj hlj e he hb
      by_cases hji : i = j
      · subst hji
        rw [hol] at hj
        injection hj with hj
        subst hj
        exact getD_set_true (hall e he hb)
      · rw [getD_set_false hji] at hlj
        exact getD_set_true (hclosed j oj hj hlj e he hb)
    · intro t ht
      have hne : o.dst ≠ some t := fun he => by
        have := ht i o hol he
        rw [show (listed.setIfInBounds i true).getD i false = true by simp [hsz, hil]] at this
        cases this
      rw [put_get_ne _ _ hne]
      refine hold t (fun j oj hj hdj => ?_)
      have hji : i ≠ j := fun e => by
        subst e
        rw [hol] at hj
        injection hj with hj
        subst hj
        exact hne hdj
      have := ht j oj hj hdj
      rwa [getD_set_false hji] at this
    · intro j oj t hj hdj hlj
      by_cases hji : j = i
      · subst hji
        rw [hol] at hj
        injection hj with hj
        subst hj
        rw [hd] at hdj
        injection hdj with hdj
        subst hdj
        simp only [if_true]
        rw [hd]
        exact ⟨put_get_eq _ _ (by rw [hsize, ha]; exact hdN), hs'⟩
      · rw [getD_set_false (Ne.symm hji)] at hlj
        simp only [if_neg hji]
        have hne : o.dst ≠ some t := fun he => by
          rw [hd] at he
          injection he with he
          subst he
          exact hji (huniq j (dst_of j oj d hj hdj))
        obtain ⟨h1, h2⟩ := hu j oj t hj hdj hlj
        exact ⟨(put_get_ne _ _ hne).trans h1, (S.getD j Sp.any).stays _ _ _ h2 hb2⟩
  have nolets : ¬ LetsOut (RelEnd a.defers o.dst (S.getD i Sp.any) w') := by
    rintro ⟨_, _, h, _⟩
    cases h
  unfold wpOp
  simp only [ho]
  simp only [wpList, hwant] at hgoal
  by_cases hw : Region.wanted o (yielded l.toArray a'.tmps) = true
  · rw [if_pos hw] at hgoal ⊢
    rcases hgoal with h | ⟨_, h⟩
    · left
      unfold Oper.wp at h ⊢
      rw [heval] at h
      generalize (execOp a'.eval o).run P w' = r at h ⊢
      cases r with
      | ok n w'' =>
        cases n <;> simp only [Oper.upon] at h ⊢
        case value u => exact fin _ _ h
        case skip => exact fin _ _ h
        case defer x =>
          exfalso
          obtain ⟨_, h2, _⟩ := h
          rw [put_defers] at h2
          have := congrArg List.length h2
          simp only [List.length_cons, hF.2] at this
          omega
        case enter f args =>
          refine Calls.mono h fun e w'' he => ?_
          cases e with
          | returned u => exact fin _ _ he
          | panicked c => cases he.1
          | outgrown => exact absurd he nolets
        case row row args => exact Rows.mono h fun u w'' he => fin _ _ he
      | halt x w'' =>
        cases x <;> simp only [Oper.upon] at h ⊢
        case panic u => cases h.1
    · exact absurd h nolets
  · rw [if_neg hw] at hgoal ⊢
    exact fin _ _ hgoal
theorem rel_any {Q : Exit → Act → World → Prop} {N : Nat} (hB : relB l.toArray N = true) (ha : a.tmps.size = N) (hS : S.length = l.length) {s : Nat} (hop : Hop P l S a w s)
    (hend : ∀ u w1, Below w.heap.size w w1 → RelHold u w1 S 0 → Q .normal (putAll u l 0 a) w1) :
    ∀ (f : Nat) (listed : Array Bool) (a' : Act) (w' : World), (∀ j, j < s → listed.getD j false = true) → listed.size = l.length → listed.toList.count false = f → RelInv l S a w listed a' w' → wpAny P .any l.toArray Q f listed a' w'
  | 0, listed, a', w', hs, hsz, hc, inv => by
    have hall : ∀ j, j < l.length → listed.getD j false = true := fun j hj => by
      have h1 : false ∉ listed.toList := List.count_eq_zero.1 hc
      have hlt : j < listed.size := by omega
      cases hb : listed[j]
      · exact absurd (by rw [← hb]; simp) h1
      · simp [hlt, hb]
    have hready : Region.ready .any l.toArray listed = [] := by
      rw [List.eq_nil_iff_forall_not_mem]
      intro j hj
      obtain ⟨h0, o, ho, _⟩ := mem_ready.1 hj
      have hj' : j < l.length := by
        rcases Nat.lt_or_ge j l.length with h | h
        · exact h
        · simp [List.getElem?_eq_none h] at ho
      have := hall j hj'
      have hlt : j < listed.size := by omega
      simp [hlt] at this h0
      rw [this] at h0
      cases h0
    refine ⟨hready, ?_⟩
    obtain ⟨hbel, hdef, hsize, _, hold, u, hu⟩ := inv
    have e : a' = putAll u l 0 a := by
      have h1 := putAll_size u l 0 a
      obtain ⟨tm, df⟩ := a'
      generalize hFe : putAll u l 0 a = F at h1
      obtain ⟨tm2, df2⟩ := F
      simp only at hdef hsize h1
      have : tm = tm2 := by
        apply Array.ext_getElem?
        intro t
        have hF2 : tm2[t]? = (putAll u l 0 a).tmps[t]? := by rw [hFe]
        rw [hF2]
        by_cases hex : ∃ (j : Nat) (o : Oper), l[j]? = some o ∧ o.dst = some t
        · obtain ⟨j, o, hj, hd⟩ := hex
          obtain ⟨⟨d, hd', hdN, huniq⟩, _⟩ := relB_spec hB (i := j) (o := o) (by simpa using hj)
          have hdt : d = t := by rw [hd'] at hd; injection hd
          subst hdt
          have hj' : j < l.length := by
            rcases Nat.lt_or_ge j l.length with h | h
            · exact h
            · simp [List.getElem?_eq_none h] at hj
          have h2 := putAll_hit u l 0 a j o (t := d) (by rw [ha]; exact hdN) hj hd (fun k x hk hx => huniq k (by unfold dstOf; rw [List.getElem?_toArray, hk]; exact hx))
          rw [Nat.zero_add] at h2
          rw [h2]
          exact (hu j o d hj hd (hall j hj')).1
        · rw [putAll_miss u l 0 a (fun (o : Oper) ho hd => by
            obtain ⟨j, hj, rfl⟩ := List.getElem_of_mem ho
            exact hex ⟨j, l[j], by simp [hj], hd⟩)]
          exact hold t (fun j o hj hd => absurd ⟨j, o, hj, hd⟩ hex)
      rw [this, hdef, h1.2]
    rw [e]
    refine hend u w' hbel (RelHold.of S 0 (fun j s hj => ?_))
    have hj' : j < S.length := by
      rcases Nat.lt_or_ge j S.length with h | h
      · exact h
      · simp [List.getElem?_eq_none h] at hj
    have hjl : j < l.length := by omega
    obtain ⟨⟨d, hd', _⟩, _⟩ := relB_spec hB (i := j) (o := l[j]) (by simp [hjl])
    have := (hu j l[j] d (by simp [hjl]) hd' (hall j hjl)).2
    rw [Nat.zero_add]
    rw [List.getD_eq_getElem?_getD, hj] at this
    exact this
  | f + 1, listed, a', w', hs, hsz, hc, inv => by
    refine ⟨fun h0 => ?_, fun i hi => ?_⟩
    · exfalso
      have hall : ∀ j, j < l.length → listed.getD j false = true := by
        intro j
        induction j using Nat.strongRecOn with
        | ind j ih =>
          intro hj
          cases hlj : listed.getD j false
          · exfalso
            have hlt : j < listed.size := by omega
            have : j ∈ Region.ready .any l.toArray listed := mem_ready.2 ⟨by simpa [hlt] using hlj, l[j], by simp [hj], fun e he hb => by
              have := (relB_spec hB (i := j) (o := l[j]) (by simp [hj])).2.2.1 e he hb
              exact ih e.on this (by omega)⟩
            rw [h0] at this
            cases this
          · rfl
      have : listed.toList.count false = 0 := List.count_eq_zero.2 (fun hm => by
        obtain ⟨j, hj, he⟩ := List.getElem_of_mem hm
        have hj' : j < listed.size := by simpa using hj
        have := hall j (by omega)
        simp [hj'] at this
        simp [this] at he)
      omega
    · refine wpOp_mono (fun a'' w'' h => ?_) (rel_step hB ha hop hs hsz inv hi)
      refine rel_any hB ha hS hop hend f _ a'' w'' (fun j hj => getD_set_true (hs j hj)) (by simpa using hsz) ?_ h
      obtain ⟨hun, o, ho, _⟩ := mem_ready.1 hi
      have hil : i < listed.size := by
        have : i < l.length := by
          rcases Nat.lt_or_ge i l.length with h | h
          · exact h
          · simp [List.getElem?_eq_none h] at ho
        omega
      have hun' : listed[i] = false := by simpa [hil] using hun
      rw [Array.toList_setIfInBounds, List.count_set (by simpa using hil)]
      simp [hun', hc]
end
/-- Each operation by itself; no order is looked at. -/
theorem wp_region_rel {P : Program} {id : Nat} {Q : Exit → Act → World → Prop} {a : Act} {w : World} {l : List Oper} (S : List Sp) (N : Nat) (hm : P.follows .mixedOrders = true) (hB : relB l.toArray N = true) (ha : a.tmps.size = N) (hS : S.length = l.length)
    (hop : RelGoals P l.toArray S a w l 0) (hend : ∀ u w1, Below w.heap.size w w1 → RelHold u w1 S 0 → Q .normal (putAll u l 0 a) w1) : (Code.region id l.toArray true).wp P Q a w := by
  refine wp_region_any hm ?_
  have := rel_any (Q := Q) hB ha hS (Hop.of (s := 0) hop) hend l.length (Array.replicate l.length false) a { w with drawn := w.drawn + 1 } (fun j hj => by omega) (by simp) (by simp)
    ⟨(Below.refl _ _).drew, rfl, rfl, fun j o _ hl => (by rw [getD_replicate_false] at hl; cases hl), fun _ _ => rfl, fun _ => undef, fun j o t _ _ hl => (by rw [getD_replicate_false] at hl; cases hl)⟩
  simpa using this
end Go.Proofs.Ytldoedmclfbgpaa
namespace Go.Proofs.Ytldoedmclfbgpaa
open Go.RowKit

def upd {α : Type} (f : Nat → α) (i : Nat) (x : α) : Nat → α := fun j => if j = i then x else f j
theorem upd_same {α : Type} (f : Nat → α) (i : Nat) (x : α) : upd f i x i = x := if_pos rfl
theorem upd_other {α : Type} (f : Nat → α) {i j : Nat} (x : α) (h : j ≠ i) : upd f i x j = f j := if_neg h
/-- What an operation hands back: the value in its slot. -/
def given (d : Option Tmp) (a : Act) : Value := match d with | some t => a.tmps.getD t undef | none => undef
def EndM (ds : List Deferred) (d : Option Tmp) (F : Value → World → Prop) (e : Exit) (a' : Act) (w' : World) : Prop := e = .normal ∧ a'.defers = ds ∧ F (given d a') w'
theorem EndM.mk {ds : List Deferred} {d : Tmp} {F : Value → World → Prop} {a' : Act} {w' : World} (h1 : a'.defers = ds) (h2 : F (a'.tmps.getD d undef) w') : EndM ds (some d) F .normal a' w' := ⟨rfl, h1, h2⟩
theorem EndM.mk0 {ds : List Deferred} {F : Value → World → Prop} {a' : Act} {w' : World} (h1 : a'.defers = ds) (h2 : F undef w') : EndM ds none F .normal a' w' := ⟨rfl, h1, h2⟩
def relBm (ops : Array Oper) (N : Nat) : Bool :=
  (List.range ops.size).all fun i => match ops[i]? with
    | none => false
    | some o =>
      (match o.dst with
        | none => true
        | some d => decide (d < N) && (List.range ops.size).all (fun j => j == i || dstOf ops j != some d)) &&
      (match o.op with
        | .select .. => false
        | _ => true) &&
      o.after.all (fun e => !Region.binds .any e || decide (e.on < i)) &&
      (o.looksAt ops).all (fun t => (List.range ops.size).all fun j => dstOf ops j != some t || o.after.any (fun e => Region.binds .any e && e.on == j) ||
        (match ops[j]? with
          | none => false
          | some oj => oj.after.any (fun e => Region.binds .any e && e.on == i)))
section
variable {ops : Array Oper} {N : Nat}
theorem relBm_spec (h : relBm ops N = true) {i : Nat} {o : Oper} (ho : ops[i]? = some o) :
    (∀ d, o.dst = some d → d < N ∧ ∀ j, dstOf ops j = some d → j = i) ∧ (∀ cs b, o.op ≠ .select cs b) ∧ (∀ e ∈ o.after, Region.binds .any e = true → e.on < i) ∧
    (∀ t ∈ o.looksAt ops, ∀ j, dstOf ops j = some t → (∃ e ∈ o.after, Region.binds .any e = true ∧ e.on = j) ∨ (∃ oj, ops[j]? = some oj ∧ ∃ e ∈ oj.after, Region.binds .any e = true ∧ e.on = i)) := by
  have hi : i < ops.size := (Array.getElem?_eq_some_iff.1 ho).1
  have hlt : ∀ j t, dstOf ops j = some t → j < ops.size := fun j t hj => by
    rcases Nat.lt_or_ge j ops.size with h | h
    · exact h
    · simp [dstOf, Array.getElem?_eq_none h] at hj
  unfold relBm at h
  rw [List.all_eq_true] at h
  have h1 := h i (List.mem_range.2 hi)
  rw [ho] at h1
  simp only [Bool.and_eq_true] at h1
  obtain ⟨⟨⟨h2, h3⟩, h4⟩, h5⟩ := h1
  refine ⟨?_, ?_, ?_, ?_⟩
  · intro d hd
    rw [hd] at h2
    simp only [Bool.and_eq_true, decide_eq_true_eq] at h2
    refine ⟨h2.1, fun j hj => ?_⟩
    have := List.all_eq_true.1 h2.2 j (List.mem_range.2 (hlt j d hj))
    simp only [Bool.or_eq_true, beq_iff_eq, bne_iff_ne] at this
    exact this.resolve_right (fun hn => hn hj)
  · intro cs b hs
    rw [hs] at h3
    cases h3
  · intro e he hb
    have := Array.all_eq_true_iff_forall_mem.1 h4 e he
    simpa [hb] using this
  · intro t ht j hj
    have := List.all_eq_true.1 (List.all_eq_true.1 h5 t ht) j (List.mem_range.2 (hlt j t hj))
    simp only [Bool.or_eq_true, bne_iff_ne] at this
    rcases this with (h6 | h6) | h6
    · exact absurd hj h6
    · left
      rw [Array.any_eq_true'] at h6
      obtain ⟨e, he, h7⟩ := h6
      simp only [Bool.and_eq_true, beq_iff_eq] at h7
      exact ⟨e, he, h7.1, h7.2⟩
    · right
      cases hoj : ops[j]? with
      | none => rw [hoj] at h6; cases h6
      | some oj =>
        rw [hoj] at h6
        simp only at h6
        rw [Array.any_eq_true'] at h6
        obtain ⟨e, he, h7⟩ := h6
        simp only [Bool.and_eq_true, beq_iff_eq] at h7
        exact ⟨oj, rfl, e, he, h7.1, h7.2⟩
end
/-- What is told of the operations that one waits for. -/
def DepsM (V : Nat → Value → Prop) (L : Nat → Bool) (u : Nat → Value) : List Edge → Prop
  | [] => True
  | e :: r => (Region.binds .any e = true → L e.on = true ∧ V e.on (u e.on)) ∧ DepsM V L u r
theorem DepsM.of {V : Nat → Value → Prop} {L : Nat → Bool} {u : Nat → Value} : ∀ es : List Edge, (∀ e ∈ es, Region.binds .any e = true → L e.on = true ∧ V e.on (u e.on)) → DepsM V L u es
  | [], _ => trivial
  | e :: r, h => ⟨h e (List.mem_cons_self ..), DepsM.of r (fun x hx => h x (List.mem_cons_of_mem _ hx))⟩
/-- The goal of one operation. -/
def GoalM (P : Program) (ops : Array Oper) (V : Nat → Value → Prop) (M : (Nat → Bool) → (Nat → Value) → World → Prop) (a : Act) (i : Nat) (o : Oper) : Prop :=
  ∀ (L : Nat → Bool) (u : Nat → Value) (w1 : World), M L u w1 → L i = false → DepsM V L u o.after.toList →
    wpList P ops (EndM a.defers o.dst (fun v w2 => V i v ∧ M (upd L i true) (upd u i v) w2)) [o] (putDeps ops u o.after.toList a) w1
def GoalsM (P : Program) (ops : Array Oper) (V : Nat → Value → Prop) (M : (Nat → Bool) → (Nat → Value) → World → Prop) (a : Act) : List Oper → Nat → Prop
  | [], _ => True
  | o :: r, i => GoalM P ops V M a i o ∧ GoalsM P ops V M a r (i + 1)
section
variable {P : Program} {V : Nat → Value → Prop} {M : (Nat → Bool) → (Nat → Value) → World → Prop} {a : Act} {l : List Oper}
theorem GoalsM.at {ops : Array Oper} : ∀ (l : List Oper) (i : Nat), GoalsM P ops V M a l i → ∀ (j : Nat) (o : Oper), l[j]? = some o → GoalM P ops V M a (i + j) o
  | [], _, _, _, _, h => by simp at h
  | x :: r, i, hg, 0, o, h => by
    simp only [List.getElem?_cons_zero, Option.some.injEq] at h
    subst h
    exact hg.1
  | x :: r, i, hg, j + 1, o, h => by
    have := GoalsM.at r (i + 1) hg.2 j o (by simpa using h)
    rw [show i + 1 + j = i + (j + 1) by omega] at this
    exact this
def InvM (V : Nat → Value → Prop) (M : (Nat → Bool) → (Nat → Value) → World → Prop) (l : List Oper) (a : Act) (listed : Array Bool) (a' : Act) (w' : World) : Prop :=
  a'.defers = a.defers ∧ a'.tmps.size = a.tmps.size ∧
  (∀ j o, l[j]? = some o → listed.getD j false = true → ∀ e ∈ o.after, Region.binds .any e = true → listed.getD e.on false = true) ∧
  (∀ t, (∀ j o, l[j]? = some o → o.dst = some t → listed.getD j false = false) → a'.tmps[t]? = a.tmps[t]?) ∧
  ∃ u : Nat → Value, (∀ j o t, l[j]? = some o → o.dst = some t → listed.getD j false = true → a'.tmps[t]? = some (u j)) ∧ (∀ j, j < l.length → listed.getD j false = true → V j (u j)) ∧ M (fun j => listed.getD j false) u w'
theorem relM_step {Q : Exit → Act → World → Prop} {N : Nat} (hB : relBm l.toArray N = true) (ha : a.tmps.size = N) (hop : GoalsM P l.toArray V M a l 0) {listed : Array Bool} (hsz : listed.size = l.length) {a' : Act} {w' : World} (inv : InvM V M l a listed a' w') {i : Nat} (hr : i ∈ Region.ready .any l.toArray listed) :
    wpOp P l.toArray Q i (InvM V M l a (listed.setIfInBounds i true)) a' w' := by
  obtain ⟨hun, o, ho, hall⟩ := mem_ready.1 hr
  have hol : l[i]? = some o := by simpa using ho
  obtain ⟨hdu, hsel, _, hlook⟩ := relBm_spec hB ho
  obtain ⟨hdef, hsize, hclosed, hold, u, hu, hv, hM⟩ := inv
  have hil : i < l.length := by
    rcases Nat.lt_or_ge i l.length with h | h
    · exact h
    · simp [List.getElem?_eq_none h] at hol
  have hunf : listed.getD i false = false := by
    have : i < listed.size := by omega
    simpa [this] using hun
  have dst_at : ∀ j t, dstOf l.toArray j = some t → ∃ oj, l[j]? = some oj ∧ oj.dst = some t := fun j t h => by
    unfold dstOf at h
    rw [List.getElem?_toArray] at h
    cases hj : l[j]? with
    | none => rw [hj] at h; cases h
    | some oj => rw [hj] at h; exact ⟨oj, rfl, h⟩
  have dst_of : ∀ j oj t, l[j]? = some oj → oj.dst = some t → dstOf l.toArray j = some t := fun j oj t h h' => by
    unfold dstOf
    rw [List.getElem?_toArray, h]; exact h'
  have hdeps : DepsM V (fun j => listed.getD j false) u o.after.toList := DepsM.of _ (fun e he hb => by
    have he' : e ∈ o.after := by simpa using he
    have hl := hall e he' hb
    have hlt : e.on < l.length := by
      have := (relBm_spec hB ho).2.2.1 e he' hb
      omega
    exact ⟨hl, hv e.on hlt hl⟩)
  have hgoal0 := GoalsM.at l 0 hop i o hol
  rw [Nat.zero_add] at hgoal0
  have hgoal := hgoal0 (fun j => listed.getD j false) u w' hM hunf hdeps
  have hF := putDeps_size (ops := l.toArray) u o.after.toList a
  generalize hFe : putDeps l.toArray u o.after.toList a = F at hgoal hF
  have agree : ∀ t ∈ o.looksAt l.toArray, F.tmps[t]? = a'.tmps[t]? := by
    intro t ht
    by_cases hex : ∃ e ∈ o.after.toList, Region.binds .any e = true ∧ dstOf l.toArray e.on = some t
    · obtain ⟨e, he, hb, hde⟩ := hex
      obtain ⟨oj, hj, hdj⟩ := dst_at _ _ hde
      have hw := hu e.on oj t hj hdj (hall e (by simpa using he) hb)
      obtain ⟨hdN', huniq'⟩ := (relBm_spec hB (i := e.on) (o := oj) (by simpa using hj)).1 t hdj
      rw [hw, ← hFe]
      exact putDeps_hit u huniq' _ _ (by rw [ha]; exact hdN') ⟨e, he, hb, hde⟩
    · rw [← hFe, putDeps_miss u _ _ (fun e he hb hde => hex ⟨e, he, hb, hde⟩)]
      symm
      refine hold t (fun j oj hj hdj => ?_)
      cases hlj : listed.getD j false
      · rfl
      · rcases hlook t ht j (dst_of j oj t hj hdj) with ⟨e, he, hb, hej⟩ | ⟨oj', hoj', e, he, hb, hei⟩
        · exact absurd ⟨e, by simpa using he, hb, by rw [hej]; exact dst_of j oj t hj hdj⟩ hex
        · have : oj' = oj := by
            rw [List.getElem?_toArray, hj] at hoj'
            injection hoj' with hoj'
            exact hoj'.symm
          subst this
          have := hclosed j oj' hj hlj e he hb
          rw [hei, hunf] at this
          cases this
  have heval : execOp F.eval o = execOp a'.eval o := execOp_congr o hsel (eval_agree agree)
  have hwant := wanted_agree agree
  have hL : (fun j => (listed.setIfInBounds i true).getD j false) = upd (fun j => listed.getD j false) i true := by
    funext j
    by_cases hji : j = i
    · subst hji
      rw [upd_same]
      simp [hsz, hil]
    · rw [upd_other _ _ hji]
      exact getD_set_false (Ne.symm hji)
  have fin : ∀ v w'', EndM a.defers o.dst (fun v w2 => V i v ∧ M (upd (fun j => listed.getD j false) i true) (upd u i v) w2) .normal (F.put o.dst v) w'' → InvM V M l a (listed.setIfInBounds i true) (a'.put o.dst v) w'' := by
    rintro v w'' ⟨_, _, hs1, hs2⟩
    refine ⟨by rw [put_defers, hdef], by rw [put_size, hsize], ?_, ?_, upd u i (given o.dst (F.put o.dst v)), ?_, ?_, by rw [hL]; exact hs2⟩
    · intro j oj hj hlj e he hb
      by_cases hji : i = j
      · subst hji
        rw [hol] at hj
        injection hj with hj
        subst hj
        exact getD_set_true (hall e he hb)
      · rw [getD_set_false hji] at hlj
        exact getD_set_true (hclosed j oj hj hlj e he hb)
    · intro t ht
      have hne : o.dst ≠ some t := fun he => by
        have := ht i o hol he
        rw [show (listed.setIfInBounds i true).getD i false = true by simp [hsz, hil]] at this
        cases this
      rw [put_get_ne _ _ hne]
      refine hold t (fun j oj hj hdj => ?_)
      have hji : i ≠ j := fun e => by
        subst e
        rw [hol] at hj
        injection hj with hj
        subst hj
        exact hne hdj
      have := ht j oj hj hdj
      rwa [getD_set_false hji] at this
    · intro j oj t hj hdj hlj
      by_cases hji : j = i
      · subst hji
        rw [hol] at hj
        injection hj with hj
        subst hj
        rw [upd_same, hdj]
        obtain ⟨hdN, _⟩ := hdu t hdj
        have h1 := put_get_eq a' v (t := t) (by rw [hsize, ha]; exact hdN)
        have h2 := put_get_eq F v (t := t) (by rw [hF.1, ha]; exact hdN)
        rw [h1]
        show _ = some ((F.put (some t) v).tmps.getD t undef)
        rw [Array.getD_eq_getD_getElem?, h2]
        rfl
      · rw [getD_set_false (Ne.symm hji)] at hlj
        rw [upd_other _ _ hji]
        have hne : o.dst ≠ some t := fun he => hji ((hdu t he).2 j (dst_of j oj t hj hdj))
        exact (put_get_ne _ _ hne).trans (hu j oj t hj hdj hlj)
    · intro j hjl hlj
      by_cases hji : j = i
      · subst hji
        rw [upd_same]
        exact hs1
      · rw [upd_other _ _ hji]
        rw [getD_set_false (Ne.symm hji)] at hlj
        exact hv j hjl hlj
  have nolets : ¬ LetsOut (EndM a.defers o.dst (fun v w2 => V i v ∧ M (upd (fun j => listed.getD j false) i true) (upd u i v) w2)) := by
    rintro ⟨_, _, h, _⟩
    cases h
  unfold wpOp
  simp only [ho]
  simp only [wpList, hwant] at hgoal
  by_cases hw : Region.wanted o (yielded l.toArray a'.tmps) = true
  · rw [if_pos hw] at hgoal ⊢
    rcases hgoal with h | ⟨_, h⟩
    · left
      unfold Oper.wp at h ⊢
      rw [heval] at h
      generalize (execOp a'.eval o).run P w' = r at h ⊢
      cases r with
      | ok n w'' =>
        cases n <;> simp only [Oper.upon] at h ⊢
        case value u => exact fin _ _ h
        case skip => exact fin _ _ h
        case defer x =>
          exfalso
          obtain ⟨_, h2, _⟩ := h
          rw [put_defers] at h2
          have := congrArg List.length h2
          simp only [List.length_cons, hF.2] at this
          omega
        case enter f args =>
          refine Calls.mono h fun e w'' he => ?_
          cases e with
          | returned u => exact fin _ _ he
          | panicked c => cases he.1
          | outgrown => exact absurd he nolets
        case row row args => exact Rows.mono h fun u w'' he => fin _ _ he
      | halt x w'' =>
        cases x <;> simp only [Oper.upon] at h ⊢
        case panic u => cases h.1
    · exact absurd h nolets
  · rw [if_neg hw] at hgoal ⊢
    exact fin _ _ hgoal
theorem relM_any {Q : Exit → Act → World → Prop} {N : Nat} (hB : relBm l.toArray N = true) (ha : a.tmps.size = N) (hop : GoalsM P l.toArray V M a l 0)
    (hend : ∀ u w1, (∀ j, j < l.length → V j (u j)) → M (fun j => decide (j < l.length)) u w1 → Q .normal (putAll u l 0 a) w1) :
    ∀ (f : Nat) (listed : Array Bool) (a' : Act) (w' : World), listed.size = l.length → listed.toList.count false = f → InvM V M l a listed a' w' → wpAny P .any l.toArray Q f listed a' w'
  | 0, listed, a', w', hsz, hc, inv => by
    have hall : ∀ j, j < l.length → listed.getD j false = true := fun j hj => by
      have h1 : false ∉ listed.toList := List.count_eq_zero.1 hc
      have hlt : j < listed.size := by omega
      cases hb : listed[j]
      · exact absurd (by rw [← hb]; simp) h1
      · simp [hlt, hb]
    have hready : Region.ready .any l.toArray listed = [] := by
      rw [List.eq_nil_iff_forall_not_mem]
      intro j hj
      obtain ⟨h0, o, ho, _⟩ := mem_ready.1 hj
      have hj' : j < l.length := by
        rcases Nat.lt_or_ge j l.length with h | h
        · exact h
        · simp [List.getElem?_eq_none h] at ho
      have := hall j hj'
      have hlt : j < listed.size := by omega
      simp [hlt] at this h0
      rw [this] at h0
      cases h0
    refine ⟨hready, ?_⟩
    obtain ⟨hdef, hsize, _, hold, u, hu, hv, hM⟩ := inv
    have e : a' = putAll u l 0 a := by
      have h1 := putAll_size u l 0 a
      obtain ⟨tm, df⟩ := a'
      generalize hFe : putAll u l 0 a = F at h1
      obtain ⟨tm2, df2⟩ := F
      simp only at hdef hsize h1
      have : tm = tm2 := by
        apply Array.ext_getElem?
        intro t
        have hF2 : tm2[t]? = (putAll u l 0 a).tmps[t]? := by rw [hFe]
        rw [hF2]
        by_cases hex : ∃ (j : Nat) (o : Oper), l[j]? = some o ∧ o.dst = some t
        · obtain ⟨j, o, hj, hd⟩ := hex
          obtain ⟨hdN, huniq⟩ := (relBm_spec hB (i := j) (o := o) (by simpa using hj)).1 t hd
          have hj' : j < l.length := by
            rcases Nat.lt_or_ge j l.length with h | h
            · exact h
            · simp [List.getElem?_eq_none h] at hj
          have h2 := putAll_hit u l 0 a j o (t := t) (by rw [ha]; exact hdN) hj hd (fun k x hk hx => huniq k (by unfold dstOf; rw [List.getElem?_toArray, hk]; exact hx))
          rw [Nat.zero_add] at h2
          rw [h2]
          exact hu j o t hj hd (hall j hj')
        · rw [putAll_miss u l 0 a (fun (o : Oper) ho hd => by
            obtain ⟨j, hj, rfl⟩ := List.getElem_of_mem ho
            exact hex ⟨j, l[j], by simp [hj], hd⟩)]
          exact hold t (fun j o hj hd => absurd ⟨j, o, hj, hd⟩ hex)
      rw [this, hdef, h1.2]
    rw [e]
    refine hend u w' (fun j hj => hv j hj (hall j hj)) ?_
    have hL : (fun j => listed.getD j false) = fun j => decide (j < l.length) := by
      funext j
      by_cases hj : j < l.length
      · rw [hall j hj]; simp [hj]
      · rw [decide_eq_false hj]
        simp [Array.getD, hsz, hj]
    rw [← hL]
    exact hM
  | f + 1, listed, a', w', hsz, hc, inv => by
    refine ⟨fun h0 => ?_, fun i hi => ?_⟩
    · exfalso
      have hall : ∀ j, j < l.length → listed.getD j false = true := by
        intro j
        induction j using Nat.strongRecOn with
        | ind j ih =>
          intro hj
          cases hlj : listed.getD j false
          · exfalso
            have hlt : j < listed.size := by omega
            have : j ∈ Region.ready .any l.toArray listed := mem_ready.2 ⟨by simpa [hlt] using hlj, l[j], by simp [hj], fun e he hb => by
              have := (relBm_spec hB (i := j) (o := l[j]) (by simp [hj])).2.2.1 e he hb
              exact ih e.on this (by omega)⟩
            rw [h0] at this
            cases this
          · rfl
      have : listed.toList.count false = 0 := List.count_eq_zero.2 (fun hm => by
        obtain ⟨j, hj, he⟩ := List.getElem_of_mem hm
        have hj' : j < listed.size := by simpa using hj
        have := hall j (by omega)
        simp [hj'] at this
        simp [this] at he)
      omega
    · refine wpOp_mono (fun a'' w'' h => ?_) (relM_step hB ha hop hsz inv hi)
      refine relM_any hB ha hop hend f _ a'' w'' (by simpa using hsz) ?_ h
      obtain ⟨hun, o, ho, _⟩ := mem_ready.1 hi
      have hil : i < listed.size := by
        have : i < l.length := by
          rcases Nat.lt_or_ge i l.length with h | h
          · exact h
          · simp [List.getElem?_eq_none h] at ho
        omega
      have hun' : listed[i] = false := by simpa [hil] using hun
      rw [Array.toList_setIfInBounds, List.count_set (by simpa using hil)]
      simp [hun', hc]
end
/-- Each operation by itself, under the watch M; no order is looked at. -/
theorem wp_region_relM {P : Program} {id : Nat} {Q : Exit → Act → World → Prop} {a : Act} {w : World} {l : List Oper} (V : Nat → Value → Prop) (M : (Nat → Bool) → (Nat → Value) → World → Prop) (N : Nat) (hm : P.follows .mixedOrders = true) (hB : relBm l.toArray N = true) (ha : a.tmps.size = N)
    (h0 : ∀ u w', Below w.heap.size w w' → w'.heap = w.heap → M (fun _ => false) u w') (hop : GoalsM P l.toArray V M a l 0)
    (hend : ∀ u w1, (∀ j, j < l.length → V j (u j)) → M (fun j => decide (j < l.length)) u w1 → Q .normal (putAll u l 0 a) w1) : (Code.region id l.toArray true).wp P Q a w := by
  refine wp_region_any hm ?_
  have hf : (fun j => (Array.replicate l.length false).getD j false) = fun _ => false := by funext j; exact getD_replicate_false _ j
  have := relM_any (Q := Q) hB ha hop hend l.length (Array.replicate l.length false) a { w with drawn := w.drawn + 1 } (by simp) (by simp)
    ⟨rfl, rfl, fun j o _ hl => (by rw [getD_replicate_false] at hl; cases hl), fun _ _ => rfl, fun _ => undef, fun j o t _ _ hl => (by rw [getD_replicate_false] at hl; cases hl), fun j _ hl => (by rw [getD_replicate_false] at hl; cases hl), by rw [hf]; exact h0 _ _ (Below.refl _ _).drew rfl⟩
  simpa using this
end Go.Proofs.Ytldoedmclfbgpaa
namespace Go.Proofs.Ytldoedmclfbgpaa
open Go.RowKit

/-- Along two lists: what the left one has alone. -/
def alongM : List Int → List Int → List Int
  | [], _ => []
  | x :: a, [] => x :: a
  | x :: a, y :: b => if x < y then x :: alongM a (y :: b) else if y < x then alongM (x :: a) b else alongM a b
termination_by a b => a.length + b.length
theorem alongM_nil (b : List Int) : alongM [] b = [] := by unfold alongM; rfl
theorem alongM_nilr (a : List Int) : alongM a [] = a := by cases a <;> (unfold alongM; rfl)
theorem alongM_lt {x y : Int} {a b : List Int} (h : x < y) : alongM (x :: a) (y :: b) = x :: alongM a (y :: b) := by rw [alongM, if_pos h]
theorem alongM_gt {x y : Int} {a b : List Int} (h : y < x) : alongM (x :: a) (y :: b) = alongM (x :: a) b := by rw [alongM, if_neg (by omega), if_pos h]
theorem alongM_eq {x y : Int} {a b : List Int} (h : x = y) : alongM (x :: a) (y :: b) = alongM a b := by rw [alongM, if_neg (by omega), if_neg (by omega)]
/-- Strictly rising above a bound. -/
def risesI : Int → List Int → Prop
  | _, [] => True
  | last, x :: r => last < x ∧ risesI x r
theorem risesI_gt : ∀ (l : List Int) (last : Int), risesI last l → ∀ x ∈ l, last < x
  | [], _, _ => by intro x hx; cases hx
  | y :: l, last, h => by
    intro x hx
    rcases List.mem_cons.1 hx with rfl | hx
    · exact h.1
    · have := risesI_gt l y h.2 x hx; have := h.1; omega
theorem alongM_none : ∀ (n : Nat) (a b : List Int) (la lb : Int), a.length + b.length ≤ n → risesI la a → risesI lb b → (alongM a b = [] ↔ ∀ x ∈ a, x ∈ b)
  | n, [], b, la, lb, _, _, _ => by rw [alongM_nil]; simp
  | n, x :: a, [], la, lb, _, _, _ => by
    rw [alongM_nilr]
    constructor
    · intro h; cases h
    · intro h; have := h x (List.mem_cons_self ..); cases this
  | 0, x :: a, y :: b, la, lb, hn, _, _ => by simp at hn
  | n + 1, x :: a, y :: b, la, lb, hn, ha, hb => by
    simp only [List.length_cons] at hn
    rcases (show x < y ∨ y < x ∨ x = y by omega) with h | h | h
    · rw [alongM_lt h]
      constructor
      · intro e; cases e
      · intro e
        have h1 := e x (List.mem_cons_self ..)
        rcases List.mem_cons.1 h1 with h1 | h1
        · omega
        · have := risesI_gt b y hb.2 x h1; omega
    · rw [alongM_gt h, alongM_none n (x :: a) b la y (by simp only [List.length_cons]; omega) ha hb.2]
      constructor
      · intro e z hz; exact List.mem_cons_of_mem _ (e z hz)
      · intro e z hz
        rcases List.mem_cons.1 (e z hz) with h1 | h1
        · rcases List.mem_cons.1 hz with h2 | h2
          · omega
          · have := risesI_gt a x ha.2 z h2; omega
        · exact h1
    · rw [alongM_eq h, alongM_none n a b x y (by omega) ha.2 hb.2]
      constructor
      · intro e z hz
        rcases List.mem_cons.1 hz with h1 | h1
        · rw [h1, h]; exact List.mem_cons_self ..
        · exact List.mem_cons_of_mem _ (e z h1)
      · intro e z hz
        rcases List.mem_cons.1 (e z (List.mem_cons_of_mem _ hz)) with h1 | h1
        · have := risesI_gt a x ha.2 z hz; omega
        · exact h1
theorem risesI_of_ids : ∀ (l : List Int) (last : Int), idsOk last l = true → risesI last l
  | [], _, _ => trivial
  | x :: r, last, h => by
    obtain ⟨h1, -, h3⟩ := idsOk_tail h
    exact ⟨h1, risesI_of_ids r x h3⟩
theorem risesI_of_cards (next : Int) : ∀ (l : List Card) (last : Int), cardsOk next last l = true → risesI last (l.map (·.id))
  | [], _, _ => trivial
  | c :: r, last, h => by
    rw [cardsOk, Bool.and_eq_true] at h
    have h1 := h.1
    unfold cardAt at h1
    simp only [Bool.and_eq_true, decide_eq_true_eq] at h1
    exact ⟨h1.2.1, risesI_of_cards next r c.id h.2⟩
/-- A group's members are cards that are there. -/
theorem memOk_along {cards : List Card} {next : Int} {m : List Int} (hc : cardsOk next 0 cards = true) (hm : idsOk 0 m = true) : memOk cards m = decide (alongM m (cards.map (·.id)) = []) := by
  have h := alongM_none _ m (cards.map (·.id)) 0 0 (Nat.le_refl _) (risesI_of_ids m 0 hm) (risesI_of_cards next cards 0 hc)
  rw [Bool.eq_iff_iff, decide_eq_true_eq, h]
  unfold memOk hasCard
  simp only [List.all_eq_true, List.any_eq_true, decide_eq_true_eq, List.mem_map]
end Go.Proofs.Ytldoedmclfbgpaa
namespace Go.Proofs.Ytldoedmclfbgpaa
open Go.RowKit

/-- A slice of a call's own, as a property. -/
def Sp.own {α : Type} (B : Nat) (e : TypeId) (k : Nat) (cs : α → List Value) (l : List α) : Sp := ⟨fun v w => w.ownsRow B e k v l.length (l.flatMap cs), fun _ _ _ h hb => own_below h hb⟩
theorem Sp.own_holds {α : Type} (B : Nat) (e : TypeId) (k : Nat) (cs : α → List Value) (l : List α) (v : Value) (w : World) : (Sp.own B e k cs l).holds v w = w.ownsRow B e k v l.length (l.flatMap cs) := rfl
end Go.Proofs.Ytldoedmclfbgpaa
