/-
  Masks: the bits of small sets, the program's and the reference's: which numbers are in, the set with one more, the labels' bit.
-/
import Derived.Test.YtplipddgeanajaaOct
import Derived.Test.YtplipddgeanajaaProg
import Derived.Shelf.Spec.TrailingZeros
namespace Go.Proofs.Ytplipddgeanajaa
open Go.RowKit

/-! Lists of numbers. -/
def ic (n : Int) : List Value := [.int .i64 n]
theorem ic_len (n : Int) : (ic n).length = 1 := rfl
abbrev InI := In 1 ic
theorem ic_one (l : List Int) : ∀ u ∈ l.flatMap ic, u.oneCell' = true := by
  intro u hu
  obtain ⟨x, _, hx⟩ := List.mem_flatMap.1 hu
  simp only [ic, List.mem_singleton] at hx
  subst hx; rfl
theorem ic_flat (l : List Int) : l.flatMap ic = l.map (Value.int .i64) := by
  induction l with
  | nil => rfl
  | cons x l ih => rw [List.flatMap_cons, ih]; rfl

/-! Bits. -/
theorem and_u32 (a b : Nat) (ha : a < 4294967296) (hb : b < 4294967296) : bits .and .u32 (a : Int) (b : Int) = ((a &&& b : Nat) : Int) := bits_and_u32_nat a b ha hb
theorem or_u32 (a b : Nat) (ha : a < 4294967296) (hb : b < 4294967296) : bits .or .u32 (a : Int) (b : Int) = ((a ||| b : Nat) : Int) := by
  have hx : a ||| b < 2 ^ 32 := Nat.or_lt_two_pow (by omega) (by omega)
  have h1 : (BitVec.ofInt 32 (a : Int)).toNat = a := by
    rw [BitVec.ofInt_natCast, BitVec.toNat_ofNat]; exact Nat.mod_eq_of_lt (by omega)
  have h2 : (BitVec.ofInt 32 (b : Int)).toNat = b := by
    rw [BitVec.ofInt_natCast, BitVec.toNat_ofNat]; exact Nat.mod_eq_of_lt (by omega)
  show IntKind.u32.wrap ((BitVec.ofInt 32 (a : Int) ||| BitVec.ofInt 32 (b : Int)).toNat : Int) = _
  rw [BitVec.toNat_or, h1, h2, wrap_u32']
  omega
/-- A number's bit. -/
def bitN (n : Int) : Nat := if 0 ≤ n ∧ n ≤ 31 then 2 ^ n.toNat else 0
theorem bitN_nat {n : Nat} (h : n ≤ 31) : bitN n = 2 ^ n := by unfold bitN; rw [if_pos (by omega)]; rfl
theorem bitN_lt (n : Int) : bitN n < 4294967296 := by
  unfold bitN; split
  · have : (2 : Nat) ^ n.toNat < 2 ^ 32 := Nat.pow_lt_pow_right (by omega) (by omega)
    omega
  · omega
def maskOf (l : List Int) : Nat := l.foldl (fun s n => s ||| bitN n) 0
theorem maskOf_snoc (l : List Int) (n : Int) : maskOf (l ++ [n]) = maskOf l ||| bitN n := by unfold maskOf; rw [List.foldl_append]; rfl
theorem maskOf_lt (l : List Int) : maskOf l < 4294967296 := by
  rcases snoc_cases l with rfl | ⟨r, t, rfl⟩
  · decide
  · rw [maskOf_snoc]
    have h1 := maskOf_lt r
    have h2 := bitN_lt t
    have : maskOf r ||| bitN t < 2 ^ 32 := Nat.or_lt_two_pow (by omega) (by omega)
    omega
termination_by l.length
decreasing_by simp_all

theorem andNot_u32 (a b : Nat) (ha : a < 4294967296) (hb : b < 4294967296) : bits .andNot .u32 (a : Int) (b : Int) = ((a &&& (4294967295 - b) : Nat) : Int) := by
  have hx : a &&& (4294967295 - b) < 2 ^ 32 := Nat.and_lt_two_pow _ (by omega)
  have h1 : (BitVec.ofInt 32 (a : Int)).toNat = a := by
    rw [BitVec.ofInt_natCast, BitVec.toNat_ofNat]; exact Nat.mod_eq_of_lt (by omega)
  have h2 : (BitVec.ofInt 32 (b : Int)).toNat = b := by
    rw [BitVec.ofInt_natCast, BitVec.toNat_ofNat]; exact Nat.mod_eq_of_lt (by omega)
  show IntKind.u32.wrap ((BitVec.ofInt 32 (a : Int) &&& ~~~ BitVec.ofInt 32 (b : Int)).toNat : Int) = _
  have e : (2 : Nat) ^ 32 - 1 - b = 4294967295 - b := rfl
  rw [BitVec.toNat_and, BitVec.toNat_not, h1, h2, wrap_u32', e]
  omega
theorem low9 (m : Nat) (h : m < 4294967296) : ((m &&& 4294966784 : Nat) : Int) = 0 ↔ m ≤ 511 := by
  have e : m &&& 4294966784 = (m / 512 % 8388608) * 512 := by
    apply Nat.eq_of_testBit_eq
    intro i
    have e2 : (4294966784 : Nat) = (2 ^ 23 - 1) * 2 ^ 9 := by decide
    have e3 : m / 512 % 8388608 * 512 = (m / 2 ^ 9 % 2 ^ 23) * 2 ^ 9 := rfl
    rw [e3, Nat.testBit_and, e2, Nat.testBit_mul_two_pow, Nat.testBit_mul_two_pow]
    by_cases hi : 9 ≤ i
    · rw [Nat.testBit_two_pow_sub_one, Nat.testBit_mod_two_pow, Nat.testBit_div_two_pow]
      simp [hi, Nat.sub_add_cancel hi]
      exact Bool.and_comm _ _
    · simp [hi]
  rw [e]
  omega
theorem bit8 (m : Nat) : ((m &&& 256 : Nat) : Int) = 0 ↔ m.testBit 8 = false := by
  have e : m &&& 256 = if m.testBit 8 then 256 else 0 := by
    apply Nat.eq_of_testBit_eq
    intro i
    have e2 : (256 : Nat) = 2 ^ 8 := by decide
    rw [Nat.testBit_and]
    by_cases hi : i = 8
    · subst hi
      cases h : m.testBit 8 <;> simp [e2]
    · have e3 : Nat.testBit 256 i = false := by rw [e2, Nat.testBit_two_pow]; simpa using Ne.symm hi
      cases h : m.testBit 8 <;> simp [e3]
  rw [e]
  cases m.testBit 8 <;> simp
theorem has_div (m n : Nat) : m.testBit n = decide (m / 2 ^ n % 2 = 1) := Nat.testBit_eq_decide_div_mod_eq

/-! The program's. -/
set_option maxHeartbeats 400000 in
theorem c_bits_bit (n : Nat) (w : World) (hn : n ≤ 31) : Calls Try.prog 117 #[.int .i64 n] w (RetV w (.int .u32 (bitN n))) := by
  have H : Hid (bitN n = 2 ^ n) := bitN_nat hn
  have h0 : (decide ((n : Int) < 0)) = false := by simp
  have h31 : (decide ((31 : Int) < n)) = false := by simp; omega
  go_enter Try.func117, Try.ntmps117
  go_wp2
  go_ret
  refine RetV.int ?_ (by repeat (first | exact Below.refl _ _ | refine Below.drew ?_ | refine Below.alloc ?_ (by first | omega | (simp; done) | (simp; omega)) _ | refine Below.setCell ?_ (by first | omega | (simp; done) | (simp; omega)) _ | refine Below.trans ?_ (Below.mono (by assumption) (by first | omega | (simp; done) | (simp; omega)))))
  rw [H.out]
  have hp : (2 : Nat) ^ n < 2 ^ 32 := Nat.pow_lt_pow_right (by omega) (by omega)
  have e : (2 : Int) ^ n = ((2 ^ n : Nat) : Int) := by simp
  rw [e]
  generalize (2 : Nat) ^ n = q at hp ⊢
  exact Int.emod_eq_of_lt (Int.natCast_nonneg _) (by omega)
set_option maxHeartbeats 400000 in
theorem c_bits_Of (l : List Int) (A : Option Addr) (c : Nat) (w : World) (hl : ∀ n ∈ l, 0 ≤ n ∧ n ≤ 31) (h : InI w A c l) :
    Calls Try.prog 94 #[.slice A l.length c] w (RetV w (.int .u32 (maskOf l))) := by
  have hL := h.1
  have hC := h.2.1
  have hS := h.2.2.1
  have hm0 : maskOf (l.take 0) = 0 := rfl
  go_enter Try.func94, Try.ntmps94
  go_wp2
  go_loopw [3, 5, 8] (fun s _ i wr => ∃ k : Nat, k ≤ l.length ∧ i = .int .i64 k ∧ s = .int .u32 (maskOf (l.take k)) ∧ Below w.heap.size w wr) (fun _ _ i _ => l.length - (intOf i).toNat)
  case atStart => exact ⟨0, Nat.zero_le _, rfl, rfl, (by repeat (first | exact Below.refl _ _ | refine Below.drew ?_ | refine Below.alloc ?_ (by first | omega | (simp; done) | (simp; omega)) _ | refine Below.setCell ?_ (by first | omega | (simp; done) | (simp; omega)) _ | refine Below.trans ?_ (Below.mono (by assumption) (by first | omega | (simp; done) | (simp; omega)))))⟩
  case round =>
    obtain ⟨k, hk, rfl, rfl, hb⟩ := hrel
    by_cases hlt : k < l.length
    · obtain ⟨b, off, rfl, hbb, hrow⟩ := h.at (i := k) hlt
      have hc0 := hrow.belowB hb hbb k hlt 0 _ rfl
      obtain ⟨hn0, hn⟩ := hl l[k] (List.getElem_mem hlt)
      obtain ⟨n, hnn⟩ : ∃ n : Nat, l[k] = n := ⟨l[k].toNat, by omega⟩
      have hb1 := maskOf_lt (l.take k)
      have hb2 := bitN_lt n
      have ho := or_u32 _ _ hb1 hb2
      have H := Lib.hid (show maskOf (l.take (k + 1)) = maskOf (l.take k) ||| bitN n by
        rw [List.take_succ_eq_append_getElem hlt, maskOf_snoc, hnn])
      simp [hnn] at hc0
      rw [hnn] at hn0 hn
      clear hnn hrow h
      go_wp2_with (go_at_call 117; refine (c_bits_bit n _ (by omega)).mono ?_; rintro e w1 ⟨rfl, hb3⟩)
      go_roundw
      case rel => exact ⟨k + 1, by omega, by go_num, by rw [H.out], hb.trans (hb3.mono hb.size)⟩
      case measure => simp [intOf]; omega
    · have : k = l.length := by omega
      subst this
      have H := Lib.hid (List.take_of_length_le (Nat.le_refl l.length))
      go_wp2
      go_ret
      exact RetV.of (by rw [H.out]; rfl) hb
set_option maxHeartbeats 400000 in
theorem c_mask_Make (l : List Int) (A : Option Addr) (c : Nat) (w : World) (hl : ∀ n ∈ l, 0 ≤ n ∧ n ≤ 31) (h : InI w A c l) :
    Calls Try.prog 55 #[.bool false, .slice A l.length c] w (RetV w (.int .u32 (maskOf l &&& 255 : Nat))) := by
  have hb1 := maskOf_lt l
  have ho : bits .and .u32 (maskOf l : Int) 255 = ((maskOf l &&& 255 : Nat) : Int) := and_u32 (maskOf l) 255 hb1 (by omega)
  go_enter Try.func55, Try.ntmps55
  go_wp2_with (go_at_call 94; refine (c_bits_Of l A c _ hl h).mono ?_; rintro e w1 ⟨rfl, hb3⟩)
  go_ret
  exact RetV.of rfl hb3
theorem c_bits_Within (m : Nat) (hm : m < 4294967296) (w : World) : Calls Try.prog 70 #[.int .u32 m, .int .u32 511] w (RetV w (.bool (decide (m ≤ 511)))) := by
  have ho : bits .andNot .u32 (m : Int) 511 = ((m &&& 4294966784 : Nat) : Int) := andNot_u32 m 511 hm (by omega)
  have H := Lib.hid (low9 m hm)
  go_enter Try.func70, Try.ntmps70
  go_wp2
  go_ret
  refine RetV.bool ?_ (by repeat (first | exact Below.refl _ _ | refine Below.drew ?_ | refine Below.alloc ?_ (by first | omega | (simp; done) | (simp; omega)) _ | refine Below.setCell ?_ (by first | omega | (simp; done) | (simp; omega)) _ | refine Below.trans ?_ (Below.mono (by assumption) (by first | omega | (simp; done) | (simp; omega)))))
  have := H.out
  by_cases h : m ≤ 511
  · simp_all
  · have h' : ¬ ((m &&& 4294966784 : Nat) : Int) = 0 := fun e => h (this.1 e)
    rw [decide_eq_false h]
    simpa using h'
theorem c_mask_Check (m : Nat) (hm : m < 4294967296) (w : World) : Calls Try.prog 36 #[.int .u32 m] w (RetV w (.bool (decide (m ≤ 511)))) := by
  go_enter Try.func36, Try.ntmps36
  go_wp2_with (go_at_call 70; refine (c_bits_Within m hm _).mono ?_; rintro e w1 ⟨rfl, hb3⟩)
  go_ret
  exact RetV.of rfl hb3

/-! The reference's. -/
set_option maxHeartbeats 400000 in
theorem c_ref03_Has (m n : Nat) (hm : m < 4294967296) (hn : n ≤ 31) (w : World) : Calls Try.prog 100 #[.int .u32 m, .int .i64 n] w (RetV w (.bool (m.testBit n))) := by
  have h0 : (decide ((n : Int) < 0)) = false := by simp
  have h31 : (decide ((31 : Int) < n)) = false := by simp; omega
  have hd0 : m / 2 ^ 0 = m := by simp
  go_enter Try.func100, Try.ntmps100
  go_wp2
  go_loop [0, 5] (fun s i => ∃ k : Nat, k ≤ n ∧ i = .int .i64 k ∧ s = .int .u32 (m / 2 ^ k : Nat)) (fun _ i => n - (intOf i).toNat)
  case atStart => exact ⟨0, Nat.zero_le _, rfl, by rw [hd0]⟩
  case round =>
    obtain ⟨k, hk, rfl, rfl⟩ := hrel
    clear hd0
    have hle : m / 2 ^ k ≤ m := Nat.div_le_self _ _
    have hle' : ((m / 2 ^ k : Nat) : Int) ≤ 4294967295 := by omega
    by_cases hlt : k < n
    · have H := Lib.hid (show m / 2 ^ (k + 1) = m / 2 ^ k / 2 by rw [Nat.pow_succ, Nat.div_div_eq_div_mul])
      obtain ⟨q, hq⟩ : ∃ q, q = m / 2 ^ k := ⟨_, rfl⟩
      rw [← hq] at hle hle'
      have Q := Lib.hid hq
      rw [← hq]
      clear hq
      go_wp2
      go_round
      case rel => exact ⟨k + 1, by omega, by go_num, by rw [H.out, ← Q.out]; first | rfl | (congr 1; omega)⟩
      case measure => simp [intOf]; omega
    · have : k = n := by omega
      subst this
      have H := Lib.hid (has_div m k)
      obtain ⟨q, hq⟩ : ∃ q, q = m / 2 ^ k := ⟨_, rfl⟩
      rw [← hq] at hle hle'
      have Q := Lib.hid hq
      rw [← hq]
      clear hq
      go_wp2
      go_ret
      refine RetV.bool ?_ (by repeat (first | exact Below.refl _ _ | refine Below.drew ?_ | refine Below.alloc ?_ (by first | omega | (simp; done) | (simp; omega)) _ | refine Below.setCell ?_ (by first | omega | (simp; done) | (simp; omega)) _ | refine Below.trans ?_ (Below.mono (by assumption) (by first | omega | (simp; done) | (simp; omega)))))
      rw [H.out, ← Q.out]
      rw [Bool.eq_iff_iff]; simp; try omega
set_option maxHeartbeats 400000 in
theorem c_ref03_One (n : Nat) (hn : n ≤ 31) (w : World) : Calls Try.prog 101 #[.int .i64 n] w (RetV w (.int .u32 ((2 ^ n : Nat) : Int))) := by
  have h0 : (decide ((n : Int) < 0)) = false := by simp
  have h31 : (decide ((31 : Int) < n)) = false := by simp; omega
  go_enter Try.func101, Try.ntmps101
  go_wp2
  go_loop [3, 4] (fun s i => ∃ k : Nat, k ≤ n ∧ i = .int .i64 k ∧ s = .int .u32 (2 ^ k : Nat)) (fun _ i => n - (intOf i).toNat)
  case atStart => exact ⟨0, Nat.zero_le _, rfl, rfl⟩
  case round =>
    obtain ⟨k, hk, rfl, rfl⟩ := hrel
    by_cases hlt : k < n
    · have H := Lib.hid (show 2 ^ (k + 1) = 2 ^ k * 2 from Nat.pow_succ ..)
      have hp : (2 : Nat) ^ (k + 1) ≤ 2 ^ 31 := Nat.pow_le_pow_right (by omega) (by omega)
      obtain ⟨q, hq⟩ : ∃ q : Nat, q = 2 ^ k := ⟨_, rfl⟩
      have hq2 : (q : Int) * 2 ≤ 2147483648 := by rw [H.out, ← hq] at hp; omega
      have Q := Lib.hid hq
      rw [← hq]
      clear hq hp
      go_wp2
      go_round
      case rel => exact ⟨k + 1, by omega, by go_num, by rw [H.out, ← Q.out]; first | rfl | (congr 1; omega)⟩
      case measure => simp [intOf]; omega
    · have : k = n := by omega
      subst this
      obtain ⟨q, hq⟩ : ∃ q : Nat, q = 2 ^ k := ⟨_, rfl⟩
      have Q := Lib.hid hq
      rw [← hq]
      clear hq
      go_wp2
      go_ret
      exact RetV.int (show (q : Int) = ((2 ^ k : Nat) : Int) by rw [Q.out]) (by repeat (first | exact Below.refl _ _ | refine Below.drew ?_ | refine Below.alloc ?_ (by first | omega | (simp; done) | (simp; omega)) _ | refine Below.setCell ?_ (by first | omega | (simp; done) | (simp; omega)) _ | refine Below.trans ?_ (Below.mono (by assumption) (by first | omega | (simp; done) | (simp; omega)))))
/-- A set with one more. -/
def withN (m n : Nat) : Nat := if m.testBit n then m else m + 2 ^ n
set_option maxHeartbeats 400000 in
theorem c_ref03_With (m n : Nat) (hm : m < 4294967296) (hn : n ≤ 31) (w : World) : Calls Try.prog 62 #[.int .u32 m, .int .i64 n] w (RetV w (.int .u32 ((withN m n : Nat) % 4294967296 : Int))) := by
  cases h : m.testBit n
  · have H := Lib.hid (show withN m n = m + 2 ^ n by unfold withN; rw [h]; rfl)
    go_enter Try.func62, Try.ntmps62
    go_wp2_with (first
      | (go_at_call 100; refine (c_ref03_Has m n hm hn _).mono ?_; rintro e w1 ⟨rfl, hb1⟩; have hz1 := hb1.size)
      | (go_at_call 101; refine (c_ref03_One n hn _).mono ?_; rintro e w2 ⟨rfl, hb2⟩))
    go_ret
    exact RetV.int (by rw [H.out]; simp) (hb1.trans (hb2.mono hz1))
  · have H := Lib.hid (show withN m n = m by unfold withN; rw [h]; rfl)
    go_enter Try.func62, Try.ntmps62
    go_wp2_with (first
      | (go_at_call 100; refine (c_ref03_Has m n hm hn _).mono ?_; rintro e w1 ⟨rfl, hb1⟩; have hz1 := hb1.size))
    go_ret
    exact RetV.int (by rw [H.out]; omega) hb1
theorem c_ref05_Check (m : Nat) (w : World) : Calls Try.prog 38 #[.int .u32 m] w (RetV w (.bool (decide (m ≤ 511)))) := by
  go_enter Try.func38, Try.ntmps38
  go_wp2
  go_ret
  refine RetV.bool ?_ (by repeat (first | exact Below.refl _ _ | refine Below.drew ?_ | refine Below.alloc ?_ (by first | omega | (simp; done) | (simp; omega)) _ | refine Below.setCell ?_ (by first | omega | (simp; done) | (simp; omega)) _ | refine Below.trans ?_ (Below.mono (by assumption) (by first | omega | (simp; done) | (simp; omega)))))
  rw [Bool.eq_iff_iff]; simp; omega
end Go.Proofs.Ytplipddgeanajaa
