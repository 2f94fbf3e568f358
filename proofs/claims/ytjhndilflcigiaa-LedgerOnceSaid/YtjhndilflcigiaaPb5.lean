/-
  Lemmas (walks and plain laws), in one text.
-/
import Derived.Test.YtjhndilflcigiaaPb4
import Derived.Test.YtjhndilflcigiaaRows
import Derived.WalkKit
import Derived.WalkSpells
import Derived.WalkLawsBesides
import Derived.Lib.Hide
import Derived.Deep.QuietTactic
import Derived.BigQuiet
import Derived.Maps.AppendAt
import Derived.WalkSmall
import Derived.ProofKit
import Derived.OpenShut
import Derived.JoinedCond
import Derived.Deep.Slices
import Derived.Deep.Fields
import Derived.Carry
import Derived.Test.YtjhndilflcigiaaProg
import Derived.Deep.CutBlock
import Derived.Deep.DeepCutAuto
import Derived.Deep.AppendSrc
import Derived.Lib.AppendStr
import Derived.Laws.BytesArg
import Derived.Laws.CopyOwn
import Derived.Outline
import Derived.IntWalk
import Derived.Lib.EndianBits
import Derived.Laws.Tables
import Derived.Laws.Rows
import Derived.Shelf.Spec.TrailingZeros
import Derived.StillTail
import Derived.Lib.AppendZeros
import Derived.Deep.Quiet
import Derived.ChangeKeysEq
import Derived.Laws.StructEq
import Derived.Laws.LoneSync
namespace Go.Proofs.Ytjhndilflcigiaa
open Go.RowKit

/-- A world behind the making of one block, in which that block is as it was made. -/
def At (w w' : World) (cs : Array Value) : Prop := Below w.heap.size w w' ∧ Blk w' w.heap.size cs
theorem At.new (w : World) (t : TypeId) (cs : Array Value) : At w (w.alloc (.cells cs t)) cs := ⟨(Below.refl _ _).alloc (Nat.le_refl _) _, Blk.new _ _ _⟩
theorem At.step {w w1 w2 : World} {cs : Array Value} (h : At w w1 cs) (hb : Below w1.heap.size w1 w2) : At w w2 cs := ⟨h.1.trans (hb.mono h.1.size), h.2.below hb h.2.lt⟩
theorem At.alloc {w w1 : World} {cs : Array Value} (h : At w w1 cs) (o : Obj) : At w (w1.alloc o) cs := h.step ((Below.refl _ _).alloc (Nat.le_refl _) o)
end Go.Proofs.Ytjhndilflcigiaa
namespace Go.Proofs.Ytjhndilflcigiaa
open Go.RowKit

/-! Lists of numbers. -/
/-! Bits. -/
theorem andNot_u32 (a b : Nat) (ha : a < 4294967296) (hb : b < 4294967296) : bits .andNot .u32 (a : Int) (b : Int) = ((a &&& (4294967295 - b) : Nat) : Int) := by
  have hx : a &&& (4294967295 - b) < 2 ^ 32 := Nat.and_lt_two_pow _ (by omega)
  have h1 : (BitVec.ofInt 32 (a : Int)).toNat = a := by
    rw [BitVec.ofInt_natCast, BitVec.toNat_ofNat]; exact Nat.mod_eq_of_lt (by omega)
  have h2 : (BitVec.ofInt 32 (b : Int)).toNat = b := by
    rw [BitVec.ofInt_natCast, BitVec.toNat_ofNat]; exact Nat.mod_eq_of_lt (by omega)
  show IntKind.u32.wrap ((BitVec.ofInt 32 (a : Int) &&& ~~~ BitVec.ofInt 32 (b : Int)).toNat : Int) = _
  have e : (2 : Nat) ^ 32 - 1 - b = 4294967295 - b := rfl
  rw [BitVec.toNat_and, BitVec.toNat_not, h1, h2, wrap_u32', e]
  omega
theorem low9 (m : Nat) (h : m < 4294967296) : ((m &&& 4294966784 : Nat) : Int) = 0 ↔ m ≤ 511 := by
  have e : m &&& 4294966784 = (m / 512 % 8388608) * 512 := by
    apply Nat.eq_of_testBit_eq
    intro i
    have e2 : (4294966784 : Nat) = (2 ^ 23 - 1) * 2 ^ 9 := by decide
    have e3 : m / 512 % 8388608 * 512 = (m / 2 ^ 9 % 2 ^ 23) * 2 ^ 9 := rfl
    rw [e3, Nat.testBit_and, e2, Nat.testBit_mul_two_pow, Nat.testBit_mul_two_pow]
    by_cases hi : 9 ≤ i
    · rw [Nat.testBit_two_pow_sub_one, Nat.testBit_mod_two_pow, Nat.testBit_div_two_pow]
      simp [hi, Nat.sub_add_cancel hi]
      exact Bool.and_comm _ _
    · simp [hi]
  rw [e]
  omega
/-! The program's. -/
theorem c_bits_Within (m : Nat) (hm : m < 4294967296) (w : World) : Calls Try.prog 101 #[.int .u32 m, .int .u32 511] w (RetV w (.bool (decide (m ≤ 511)))) := by
  have ho : bits .andNot .u32 (m : Int) 511 = ((m &&& 4294966784 : Nat) : Int) := andNot_u32 m 511 hm (by omega)
  have H := Lib.hid (low9 m hm)
  go_enter Try.func101, Try.ntmps101
  go_wp2
  go_ret
  refine RetV.bool ?_ (by repeat (first | exact Below.refl _ _ | refine Below.drew ?_ | refine Below.alloc ?_ (by first | omega | (simp; done) | (simp; omega)) _ | refine Below.setCell ?_ (by first | omega | (simp; done) | (simp; omega)) _ | refine Below.trans ?_ (Below.mono (by assumption) (by first | omega | (simp; done) | (simp; omega)))))
  have := H.out
  by_cases h : m ≤ 511
  · simp_all
  · have h' : ¬ ((m &&& 4294966784 : Nat) : Int) = 0 := fun e => h (this.1 e)
    rw [decide_eq_false h]
    simpa using h'
theorem c_mask_Check (m : Nat) (hm : m < 4294967296) (w : World) : Calls Try.prog 70 #[.int .u32 m] w (RetV w (.bool (decide (m ≤ 511)))) := by
  go_enter Try.func70, Try.ntmps70
  go_wp2_with (go_at_call 101; refine (c_bits_Within m hm _).mono ?_; rintro e w1 ⟨rfl, hb3⟩)
  go_ret
  exact RetV.of rfl hb3

/-! The reference's. -/
end Go.Proofs.Ytjhndilflcigiaa
namespace Go.Proofs.Ytjhndilflcigiaa
open Go.RowKit

def withinB (n a b : Int) (must : Bool) : Bool := if must then decide (a ≤ n ∧ n ≤ b) else decide (n = 0)
set_option maxHeartbeats 400000 in
theorem c_ledger_within (n a b : Int) (must : Bool) (w : World) : Calls Try.prog 68 #[.int .i64 n, .int .i64 a, .int .i64 b, .bool must] w (fun e w' => e = .returned (.bool (withinB n a b must)) ∧ w = w') := by
  cases must
  · go_enter Try.func68, Try.ntmps68
    go_wp2
    go_ret
    exact ⟨by simp [withinB]; rw [Bool.eq_iff_iff]; simp, rfl⟩
  · go_enter Try.func68, Try.ntmps68
    go_wp2
    all_goals
      go_ret
      refine ⟨?_, rfl⟩
      simp_all [withinB] <;> (try (intros; omega)) <;> (try omega)
theorem At.rep {w w' : World} {a : Rep} {A : Option Addr} {c : Nat} (h : At w w' (a.arr A c)) :
    w'.cell? ⟨w.heap.size, 0, none⟩ = some (.int .i64 a.kind) ∧ w'.cell? ⟨w.heap.size, 1, none⟩ = some (.int .i64 a.dev) ∧ w'.cell? ⟨w.heap.size, 2, none⟩ = some (.int .i64 a.req) ∧ w'.cell? ⟨w.heap.size, 3, none⟩ = some (.int .i64 a.code) ∧
    w'.cell? ⟨w.heap.size, 4, none⟩ = some (.int .i64 a.id) ∧ w'.cell? ⟨w.heap.size, 5, none⟩ = some (.int .i64 a.ver) ∧ w'.cell? ⟨w.heap.size, 6, none⟩ = some (.int .i64 a.seq) ∧ w'.cell? ⟨w.heap.size, 7, none⟩ = some (.int .i64 a.epoch) ∧
    w'.cell? ⟨w.heap.size, 8, none⟩ = some (.slice A a.f.length c) ∧ w'.cell? ⟨w.heap.size, 9, none⟩ = some (.int .u32 a.mask) :=
  ⟨h.2.cell rfl, h.2.cell rfl, h.2.cell rfl, h.2.cell rfl, h.2.cell rfl, h.2.cell rfl, h.2.cell rfl, h.2.cell rfl, h.2.cell rfl, h.2.cell rfl⟩
theorem Rep.base_no {a : Rep} (h : a.base = false) : ¬ (2 ≤ a.kind ∧ a.kind ≤ 4 ∧ 0 ≤ a.dev ∧ a.dev < 6 ∧ 1 ≤ a.req ∧ a.req ≤ 1099511627776 ∧ 0 ≤ a.code ∧ a.code ≤ 16) := fun h' => by rw [Rep.base_iff.2 h'] at h; cases h
theorem Rep.ok_no {a : Rep} (h : a.base = false) : a.ok = false := by unfold Rep.ok; rw [h]; rfl
set_option maxHeartbeats 1000000 in
set_option maxRecDepth 4000 in
theorem ledger_Check_no (a : Rep) (A : Option Addr) (c : Nat) (w : World) (hb : a.base = false) : Calls Try.prog 39 #[.agg (a.arr A c)] w (RetV w (.bool a.ok)) := by
  rw [Rep.ok_no hb]
  have HB := Lib.hid (Rep.base_no hb)
  have BC := Lib.hid (At.new w 47 (a.arr A c))
  obtain ⟨q0, q1, q2, q3, -, -, -, -, -, -⟩ := BC.out.rep
  clear hb
  go_enter Try.func39, Try.ntmps39
  go_wp2_with (fail)
  all_goals first
    | (go_ret; exact RetV.bool rfl BC.out.1)
    | (exfalso; have := HB.out; simp_all)
theorem Rep.ok_with {a : Rep} (h : a.base = true) : a.ok = (withinB a.seq 0 1099511627776 (decide (a.code = 0)) && (withinB a.id 1 1073741823 a.isPut && (withinB a.ver 1 1099511627776 a.isPut && (withinB a.epoch 1 1099511627776 a.isSub &&
    (if a.isSub then decide (check a.f = 0) && decide (a.mask ≤ 511) else decide (a.f.length = 0) && decide (a.mask = 0)))))) := by
  unfold Rep.ok Rep.seqOk Rep.putOk Rep.subOk withinB
  rw [h, Bool.true_and]
  have e1 : a.mask < 512 ↔ a.mask ≤ 511 := by omega
  have e2 : a.f = [] ↔ a.f.length = 0 := by simp
  rw [Bool.eq_iff_iff]
  by_cases hc : a.code = 0 <;> cases hp : a.isPut <;> cases hs : a.isSub <;> simp [hc, e1] <;> grind
theorem beq_dec (n : Int) : (n == 0) = decide (n = 0) := by rw [Bool.eq_iff_iff]; simp
set_option maxHeartbeats 4000000 in
set_option maxRecDepth 4000 in
theorem ledger_Check_yes (a : Rep) (A : Option Addr) (c : Nat) (w : World) (h : InN w A c a.f) (hs : ∀ x ∈ a.f, x.v.s.length ≤ 4294967000) (hm : a.mask < 4294967296) (hb : a.base = true) : Calls Try.prog 39 #[.agg (a.arr A c)] w (RetV w (.bool a.ok)) := by
  rw [Rep.ok_with hb]
  obtain ⟨b1, b2, b3, b4, b5, b6, b7, b8⟩ := Rep.base_iff.1 hb
  have k1 : decide (a.kind < 2) = false := by simpa using b1
  have k2 : decide (4 < a.kind) = false := by simpa using b2
  have k3 : decide (a.dev < 0) = false := by simpa using b3
  have k4 : decide (6 ≤ a.dev) = false := by simpa using b4
  have k5 : decide (a.req < 1) = false := by simpa using b5
  have k6 : decide (1099511627776 < a.req) = false := by simpa using b6
  have k7 : decide (a.code < 0) = false := by simpa using b7
  have k8 : decide (16 < a.code) = false := by simpa using b8
  have HI := Lib.hid h
  have Hs := Lib.hid hs
  have BC := Lib.hid (At.new w 47 (a.arr A c))
  obtain ⟨q0, q1, q2, q3, q4, q5, q6, q7, q8, q9⟩ := BC.out.rep
  obtain ⟨V, hV⟩ : ∃ V, V = a.ok := ⟨_, rfl⟩
  have hcs : (a.code ≠ 0) ∨ (a.code = 0 ∧ a.kind = 2) ∨ (a.code = 0 ∧ a.kind = 3) ∨ (a.code = 0 ∧ a.kind = 4) := by omega
  clear hb b1 b2 b3 b4 b5 b6 b7 b8 h hs hV
  rcases hcs with h0 | ⟨h0, h1⟩ | ⟨h0, h1⟩ | ⟨h0, h1⟩
  · have j0 : (a.code == 0) = false := by simpa using h0
    have i1 : a.isPut = false := by unfold Rep.isPut; simp [h0]
    have i2 : a.isSub = false := by unfold Rep.isSub; simp [h0]
    have i0 : decide (a.code = 0) = false := by simp [h0]
    rw [i0, i1, i2]
    clear h0 i0 i1 i2
    go_enter Try.func39, Try.ntmps39
    go_wp2_with (fail)
    refine wp_region_grow (by kernel_rfl) (by kernel_rfl) ?_
    repeat (quiet_step ((first | (fail))))
    refine wpQuiet_nil ?_
    intro w2 hb2
    replace BC := Lib.hid (BC.out.step hb2)
    replace HI := Lib.hid (HI.out.below BC.out.1)
    clear q0 q1 q2 q3 q4 q5 q6 q7 q8 q9
    obtain ⟨q0, q1, q2, q3, q4, q5, q6, q7, q8, q9⟩ := BC.out.rep
    go_wp2_with (first
      | (go_at_call 68; refine (c_ledger_within _ _ _ _ _).mono ?_; rintro e w1 ⟨rfl, rfl⟩))
    all_goals
      go_ret
      refine RetV.bool ?_ BC.out.1
      simp_all [beq_dec]
  · have j0 : (a.code == 0) = true := by simpa using h0
    have i1 : a.isPut = true := by unfold Rep.isPut; simp [h0, h1]
    have i2 : a.isSub = false := by unfold Rep.isSub; simp [h1]
    have i0 : decide (a.code = 0) = true := by simp [h0]
    have j2 : (a.kind == 2) = true := by simpa using h1
    have j3 : (a.kind == 3) = false := by simp [h1]
    rw [i0, i1, i2]
    clear h0 i0 i1 i2 h1
    go_enter Try.func39, Try.ntmps39
    go_wp2_with (fail)
    refine wp_region_grow (by kernel_rfl) (by kernel_rfl) ?_
    repeat (quiet_step ((first | (fail))))
    refine wpQuiet_nil ?_
    intro w2 hb2
    replace BC := Lib.hid (BC.out.step hb2)
    replace HI := Lib.hid (HI.out.below BC.out.1)
    clear q0 q1 q2 q3 q4 q5 q6 q7 q8 q9
    obtain ⟨q0, q1, q2, q3, q4, q5, q6, q7, q8, q9⟩ := BC.out.rep
    go_wp2_with (first
      | (go_at_call 68; refine (c_ledger_within _ _ _ _ _).mono ?_; rintro e w1 ⟨rfl, rfl⟩))
    all_goals
      go_ret
      refine RetV.bool ?_ BC.out.1
      simp_all [beq_dec]
  · have j0 : (a.code == 0) = true := by simpa using h0
    have i1 : a.isPut = false := by unfold Rep.isPut; simp [h1]
    have i2 : a.isSub = true := by unfold Rep.isSub; simp [h0, h1]
    have i0 : decide (a.code = 0) = true := by simp [h0]
    have j2 : (a.kind == 2) = false := by simp [h1]
    have j3 : (a.kind == 3) = true := by simpa using h1
    rw [i0, i1, i2]
    clear h0 i0 i1 i2 h1
    go_enter Try.func39, Try.ntmps39
    go_wp2_with (fail)
    refine wp_region_grow (by kernel_rfl) (by kernel_rfl) ?_
    repeat (quiet_step ((first | (fail))))
    refine wpQuiet_nil ?_
    intro w2 hb2
    replace BC := Lib.hid (BC.out.step hb2)
    replace HI := Lib.hid (HI.out.below BC.out.1)
    clear q0 q1 q2 q3 q4 q5 q6 q7 q8 q9
    obtain ⟨q0, q1, q2, q3, q4, q5, q6, q7, q8, q9⟩ := BC.out.rep
    go_wp2_with (first
      | (go_at_call 68; refine (c_ledger_within _ _ _ _ _).mono ?_; rintro e w1 ⟨rfl, rfl⟩)
      | (go_at_call 69; refine (c_pred_Check a.f A c _ HI.out (fun x hx => by have := Hs.out x hx; omega)).mono ?_; rintro e w3 ⟨rfl, hb3⟩; replace BC := Lib.hid (BC.out.step hb3); clear q0 q1 q2 q3 q4 q5 q6 q7 q8 q9; obtain ⟨q0, q1, q2, q3, q4, q5, q6, q7, q8, q9⟩ := BC.out.rep)
      | (go_at_call 70; refine (c_mask_Check a.mask hm _).mono ?_; rintro e w4 ⟨rfl, hb4⟩; replace BC := Lib.hid (BC.out.step hb4); clear q0 q1 q2 q3 q4 q5 q6 q7 q8 q9; obtain ⟨q0, q1, q2, q3, q4, q5, q6, q7, q8, q9⟩ := BC.out.rep))
    all_goals
      go_ret
      refine RetV.bool ?_ BC.out.1
      simp_all [beq_dec]
  · have j0 : (a.code == 0) = true := by simpa using h0
    have i1 : a.isPut = false := by unfold Rep.isPut; simp [h1]
    have i2 : a.isSub = false := by unfold Rep.isSub; simp [h1]
    have i0 : decide (a.code = 0) = true := by simp [h0]
    have j2 : (a.kind == 2) = false := by simp [h1]
    have j3 : (a.kind == 3) = false := by simp [h1]
    rw [i0, i1, i2]
    clear h0 i0 i1 i2 h1
    go_enter Try.func39, Try.ntmps39
    go_wp2_with (fail)
    refine wp_region_grow (by kernel_rfl) (by kernel_rfl) ?_
    repeat (quiet_step ((first | (fail))))
    refine wpQuiet_nil ?_
    intro w2 hb2
    replace BC := Lib.hid (BC.out.step hb2)
    replace HI := Lib.hid (HI.out.below BC.out.1)
    clear q0 q1 q2 q3 q4 q5 q6 q7 q8 q9
    obtain ⟨q0, q1, q2, q3, q4, q5, q6, q7, q8, q9⟩ := BC.out.rep
    go_wp2_with (first
      | (go_at_call 68; refine (c_ledger_within _ _ _ _ _).mono ?_; rintro e w1 ⟨rfl, rfl⟩))
    all_goals
      go_ret
      refine RetV.bool ?_ BC.out.1
      simp_all [beq_dec]
theorem c_ledger_Check (a : Rep) (A : Option Addr) (c : Nat) (w : World) (h : InN w A c a.f) (hs : ∀ x ∈ a.f, x.v.s.length ≤ 4294967000) (hm : a.mask < 4294967296) : Calls Try.prog 39 #[.agg (a.arr A c)] w (RetV w (.bool a.ok)) := by
  cases hb : a.base
  · exact ledger_Check_no a A c w hb
  · exact ledger_Check_yes a A c w h hs hm hb
end Go.Proofs.Ytjhndilflcigiaa
