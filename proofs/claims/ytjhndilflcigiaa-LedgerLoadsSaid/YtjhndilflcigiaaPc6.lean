/-
  Lemmas (walks and plain laws), in one text.
-/
import Derived.Test.YtjhndilflcigiaaPc5
import Derived.Test.YtjhndilflcigiaaRows
import Derived.WalkKit
import Derived.WalkSpells
import Derived.WalkLawsBesides
import Derived.Lib.Hide
import Derived.Deep.QuietTactic
import Derived.BigQuiet
import Derived.Maps.AppendAt
import Derived.WalkSmall
import Derived.ProofKit
import Derived.OpenShut
import Derived.JoinedCond
import Derived.Deep.Slices
import Derived.Deep.Fields
import Derived.Carry
import Derived.Test.YtjhndilflcigiaaProg
import Derived.Deep.CutBlock
import Derived.Deep.DeepCutAuto
import Derived.Deep.AppendSrc
import Derived.Lib.AppendStr
import Derived.Laws.BytesArg
import Derived.Laws.CopyOwn
import Derived.Outline
import Derived.IntWalk
import Derived.Lib.EndianBits
import Derived.Laws.Tables
import Derived.Laws.Rows
import Derived.Shelf.Spec.TrailingZeros
import Derived.StillTail
import Derived.Lib.AppendZeros
import Derived.Deep.Quiet
import Derived.ChangeKeysEq
import Derived.Laws.StructEq
import Derived.Laws.LoneSync
namespace Go.Proofs.Ytjhndilflcigiaa
open Go.RowKit

structure Rep where
  kind : Int
  dev : Int
  req : Int
  code : Int
  id : Int
  ver : Int
  seq : Int
  epoch : Int
  f : List Node
  mask : Nat
deriving DecidableEq
abbrev rz : Rep := ⟨0, 0, 0, 0, 0, 0, 0, 0, [], 0⟩
/-- An answer's cells; the filter lies elsewhere. -/
abbrev Rep.arr (a : Rep) (A : Option Addr) (c : Nat) : Array Value := #[.int .i64 a.kind, .int .i64 a.dev, .int .i64 a.req, .int .i64 a.code, .int .i64 a.id, .int .i64 a.ver, .int .i64 a.seq, .int .i64 a.epoch, .slice A a.f.length c, .int .u32 a.mask]
def Rep.base (a : Rep) : Bool := decide (2 ≤ a.kind ∧ a.kind ≤ 4 ∧ 0 ≤ a.dev ∧ a.dev < 6 ∧ 1 ≤ a.req ∧ a.req ≤ 1099511627776 ∧ 0 ≤ a.code ∧ a.code ≤ 16)
def Rep.seqOk (a : Rep) : Bool := if a.code = 0 then decide (0 ≤ a.seq ∧ a.seq ≤ 1099511627776) else decide (a.seq = 0)
def Rep.isPut (a : Rep) : Bool := decide (a.code = 0 ∧ a.kind = 2)
def Rep.isSub (a : Rep) : Bool := decide (a.code = 0 ∧ a.kind = 3)
def Rep.putOk (a : Rep) : Bool := if a.isPut then decide (1 ≤ a.id ∧ a.id ≤ 1073741823 ∧ 1 ≤ a.ver ∧ a.ver ≤ 1099511627776) else decide (a.id = 0 ∧ a.ver = 0)
def Rep.subOk (a : Rep) : Bool := if a.isSub then decide (1 ≤ a.epoch ∧ a.epoch ≤ 1099511627776 ∧ check a.f = 0 ∧ a.mask < 512) else decide (a.epoch = 0 ∧ a.f = [] ∧ a.mask = 0)
def Rep.ok (a : Rep) : Bool := a.base && (a.seqOk && (a.putOk && a.subOk))
theorem Rep.base_iff {a : Rep} : a.base = true ↔ (2 ≤ a.kind ∧ a.kind ≤ 4 ∧ 0 ≤ a.dev ∧ a.dev < 6 ∧ 1 ≤ a.req ∧ a.req ≤ 1099511627776 ∧ 0 ≤ a.code ∧ a.code ≤ 16) := by unfold Rep.base; exact decide_eq_true_iff
/-! A number that is not less than another one. -/
/-! What is read as an answer. -/
end Go.Proofs.Ytjhndilflcigiaa
namespace Go.Proofs.Ytjhndilflcigiaa
open Go.ChangeShapes Go.WideShapes Go.ChangeAt Go.RowKit Go.Deep
open Go.ChangeMaps (open_string shut_string)

theorem list10 {α : Type} {l : List α} (h : l.length = 10) : ∃ a b c d e f g i j k, l = [a, b, c, d, e, f, g, i, j, k] := by
  match l, h with
  | [a, b, c, d, e, f, g, i, j, k], _ => exact ⟨a, b, c, d, e, f, g, i, j, k, rfl⟩
section
variable {H : Type} {enc : TypeId × Value → H} {w : World} {base : Nat} {spare : Nat → Bool} {held : Bool}
theorem c_reply : Try.prog.cellsOf 47 = 10 := by kernel_rfl
theorem c_errno : Try.prog.cellsOf 24 = 1 := by kernel_rfl
theorem c_nodes : Try.prog.cellsOf 44 = 1 := by kernel_rfl
theorem c_uint32 : Try.prog.cellsOf 45 = 1 := by kernel_rfl
theorem u32_rng {n : Int} (h : (Lit.int .u32 n).wf = true) : 0 ≤ n ∧ n < 4294967296 := by
  have := (show 0 ≤ n ∧ n ≤ 4294967295 by simpa [Lit.wf, IntKind.min, IntKind.max, IntKind.signed, IntKind.bits] using h)
  omega
theorem open_reply {fuel : Nat} {cs : List Value} {x : DataW H × List MemPlace} (h : DataW.trod enc Try.prog w 0 spare held fuel 47 cs = some x) :
    ∃ (a : Rep) (A : Option Addr) (c : Nat), cs = (a.arr A c).toList ∧ a.f.length ≤ c ∧ c ≤ 9223372036854775807 ∧ (a.f = [] ∨ ∃ b off, A = some ⟨b, off, none⟩ ∧ b < w.heap.size ∧ Row 5 Node.cells w b off a.f) ∧ (∀ v ∈ a.f, v.wf) ∧ a.mask < 4294967296 := by
  obtain ⟨xs, n, _, _, hl, hxl, hf⟩ := DataW.trod_struct Try.underlying47 h
  rw [c_reply] at hl
  obtain ⟨q0, q1, q2, q3, q4, q5, q6, q7, q8, q9, rfl⟩ := list10 hl
  obtain ⟨x0, x1, x2, x3, x4, x5, x6, x7, x8, x9, rfl⟩ := list10 (show xs.length = 10 from hxl)
  have h0 := hf 0
  have h1 := hf 1
  have h2 := hf 2
  have h3 := hf 3
  have h4 := hf 4
  have h5 := hf 5
  have h6 := hf 6
  have h7 := hf 7
  have h8 := hf 8
  have h9 := hf 9
  simp [c_int, c_errno, c_nodes, c_uint32] at h0 h1 h2 h3 h4 h5 h6 h7 h8 h9
  obtain ⟨a0, e0, -, -⟩ := DataW.trod_int Try.underlying3 h0
  obtain ⟨a1, e1, -, -⟩ := DataW.trod_int Try.underlying3 h1
  obtain ⟨a2, e2, -, -⟩ := DataW.trod_int Try.underlying3 h2
  obtain ⟨a3, e3, -, -⟩ := DataW.trod_int Try.underlying24 h3
  obtain ⟨a4, e4, -, -⟩ := DataW.trod_int Try.underlying3 h4
  obtain ⟨a5, e5, -, -⟩ := DataW.trod_int Try.underlying3 h5
  obtain ⟨a6, e6, -, -⟩ := DataW.trod_int Try.underlying3 h6
  obtain ⟨a7, e7, -, -⟩ := DataW.trod_int Try.underlying3 h7
  obtain ⟨A, c, l, e8, k1, k2, k3, k4, -⟩ := open_nodes h8
  obtain ⟨a9, e9, -, w9⟩ := DataW.trod_int Try.underlying45 h9
  have hr := u32_rng w9
  simp at e0 e1 e2 e3 e4 e5 e6 e7 e8 e9
  subst e0 e1 e2 e3 e4 e5 e6 e7 e8 e9
  exact ⟨⟨a0, a1, a2, a3, a4, a5, a6, a7, l, a9.toNat⟩, A, c, by simp [Int.toNat_of_nonneg hr.1], k1, k2, k3, k4, by show a9.toNat < _; omega⟩
end
end Go.Proofs.Ytjhndilflcigiaa
namespace Go.Proofs.Ytjhndilflcigiaa
open Go.RowKit

/-- The type ty is a struct or an array of n cells. -/
structure Str (P : Program) (ty : TypeId) (n : Nat) : Prop where
  desc : ∃ d, P.underlying ty = some d ∧ (match d with | .struct _ | .array _ _ => true | _ => false) = true
  size : (P.info? ty).map (·.size) = some n
section
variable {P : Program} {w : World}
theorem Kept.one {g : Nat} {w' : World} (h : Kept (some g) w.heap.size w w') {p : Option Nat} {B : Nat} (hB : B ≤ w.heap.size) (hg : B ≤ g ∨ p = some g) : Kept p B w w' :=
  ⟨h.os, h.tape, h.output, h.size, fun k hk hp => h.block k (by omega) (fun e => by
    injection e with e; subst e
    rcases hg with hg | hg
    · omega
    · exact hp hg)⟩
theorem Kept.oneB {g B : Nat} {w' : World} (h : Kept (some g) w.heap.size w w') (hB : B ≤ w.heap.size) (hg : B ≤ g) : Below B w w' := h.below hB (fun k hk => by injection hk with hk; omega)
theorem wpList_loadB {ops : Array Oper} {rest : List Oper} {o : Oper} {a : Act} {Q : Exit → Act → World → Prop} (hgd : o.guard = none) (ty : TypeId) (x : Operand) (ho : o.op = .load ty x)
    (g : Nat) (hx : a.eval x = .pointer (some ⟨g, 0, none⟩)) (cs : Array Value) (hb : Blk w g cs) {n : Nat} (S : Str P ty n) (hn : cs.size = n)
    (h : wpList P ops Q rest (a.put o.dst (.agg cs)) w) : wpList P ops Q (o :: rest) a w := by
  obtain ⟨d, h1, h2⟩ := S.desc
  obtain ⟨t, hb⟩ := hb
  exact wpList_load_row hgd ty x ho g hx t cs (0, 0) d hb h1 (by cases d <;> first | rfl | (simp at h2)) (by rw [S.size, hn]) h
theorem Blk.row {g : Nat} {cs : Array Value} (hb : Blk w g cs) (cells : Array Value) : Blk (w.setRow g cells) g cells ∧ Kept (some g) w.heap.size w (w.setRow g cells) := by
  have hlt := hb.lt
  obtain ⟨t, hb⟩ := hb
  exact ⟨⟨t, setRow_heap w g _ _ t _ hb⟩, ⟨rfl, rfl, rfl, by simp [World.setRow], fun k hk hp => setRow_other w g k _ (fun e => hp (by rw [e]))⟩⟩
theorem wpList_storeB {ops : Array Oper} {rest : List Oper} {o : Oper} {a : Act} {Q : Exit → Act → World → Prop} (hgd : o.guard = none) (ty : TypeId) (x y : Operand) (ho : o.op = .store ty x y)
    (g : Nat) (cells : Array Value) (hx : a.eval x = .pointer (some ⟨g, 0, none⟩)) (hy : a.eval y = .agg cells) (old : Array Value) (hb : Blk w g old) {n : Nat} (S : Str P ty n) (hn : cells.size = n)
    (hold : old.size = cells.size) (h1 : cells.all (·.oneCell') = true)
    (h : ∀ w', Blk w' g cells → Kept (some g) w.heap.size w w' → wpList P ops Q rest (a.put o.dst undef) w') : wpList P ops Q (o :: rest) a w := by
  obtain ⟨k1, k2⟩ := hb.row cells
  obtain ⟨t, hb⟩ := hb
  exact wpList_store_row hgd ty x y ho g cells hx hy t old hb (by rw [S.size, hn]) hold h1 (h _ k1 k2)
/-- The walk stands still at a read, at a store of a value of type ty. -/
theorem stop_load {ops : Array Oper} {rest : List Oper} {o : Oper} {a : Act} {Q : Exit → Act → World → Prop} (ty : TypeId) (x : Operand) (_ : o.guard = none) (_ : o.op = .load ty x) (h : Stop (wpList P ops Q (o :: rest) a w)) : wpList P ops Q (o :: rest) a w := h
theorem stop_store {ops : Array Oper} {rest : List Oper} {o : Oper} {a : Act} {Q : Exit → Act → World → Prop} (ty : TypeId) (x y : Operand) (_ : o.guard = none) (_ : o.op = .store ty x y) (h : Stop (wpList P ops Q (o :: rest) a w)) : wpList P ops Q (o :: rest) a w := h
theorem results_B {fn : Func} {p : Tmp} {ty : TypeId} (h : fn.results = #[.cell p ty]) {tmps : Array Value} {g : Nat} {cs : Array Value} (hp : tmps.getD p undef = .pointer (some ⟨g, 0, none⟩)) (hb : Blk w g cs) {n : Nat} (S : Str P ty n) (hn : cs.size = n) :
    (results fn tmps).run P w = .ok (.agg cs) w := by
  obtain ⟨d, h1, h2⟩ := S.desc
  obtain ⟨t, hb⟩ := hb
  exact results_cell_row h tmps w g t cs (0, 0) d hp hb h1 (by cases d <;> first | rfl | (simp at h2)) (by rw [S.size, hn])
end
end Go.Proofs.Ytjhndilflcigiaa
namespace Go.Proofs.Ytjhndilflcigiaa
open Go.RowKit

/-- A world behind the making of one block, in which that block is as it was made. -/
def At (w w' : World) (cs : Array Value) : Prop := Below w.heap.size w w' ∧ Blk w' w.heap.size cs
theorem At.new (w : World) (t : TypeId) (cs : Array Value) : At w (w.alloc (.cells cs t)) cs := ⟨(Below.refl _ _).alloc (Nat.le_refl _) _, Blk.new _ _ _⟩
theorem At.step {w w1 w2 : World} {cs : Array Value} (h : At w w1 cs) (hb : Below w1.heap.size w1 w2) : At w w2 cs := ⟨h.1.trans (hb.mono h.1.size), h.2.below hb h.2.lt⟩
theorem At.alloc {w w1 : World} {cs : Array Value} (h : At w w1 cs) (o : Obj) : At w (w1.alloc o) cs := h.step ((Below.refl _ _).alloc (Nat.le_refl _) o)
end Go.Proofs.Ytjhndilflcigiaa
namespace Go.Proofs.Ytjhndilflcigiaa
open Go.RowKit

/-! Lists of numbers. -/
/-! Bits. -/
theorem andNot_u32 (a b : Nat) (ha : a < 4294967296) (hb : b < 4294967296) : bits .andNot .u32 (a : Int) (b : Int) = ((a &&& (4294967295 - b) : Nat) : Int) := by
  have hx : a &&& (4294967295 - b) < 2 ^ 32 := Nat.and_lt_two_pow _ (by omega)
  have h1 : (BitVec.ofInt 32 (a : Int)).toNat = a := by
    rw [BitVec.ofInt_natCast, BitVec.toNat_ofNat]; exact Nat.mod_eq_of_lt (by omega)
  have h2 : (BitVec.ofInt 32 (b : Int)).toNat = b := by
    rw [BitVec.ofInt_natCast, BitVec.toNat_ofNat]; exact Nat.mod_eq_of_lt (by omega)
  show IntKind.u32.wrap ((BitVec.ofInt 32 (a : Int) &&& ~~~ BitVec.ofInt 32 (b : Int)).toNat : Int) = _
  have e : (2 : Nat) ^ 32 - 1 - b = 4294967295 - b := rfl
  rw [BitVec.toNat_and, BitVec.toNat_not, h1, h2, wrap_u32', e]
  omega
theorem low9 (m : Nat) (h : m < 4294967296) : ((m &&& 4294966784 : Nat) : Int) = 0 ↔ m ≤ 511 := by
  have e : m &&& 4294966784 = (m / 512 % 8388608) * 512 := by
    apply Nat.eq_of_testBit_eq
    intro i
    have e2 : (4294966784 : Nat) = (2 ^ 23 - 1) * 2 ^ 9 := by decide
    have e3 : m / 512 % 8388608 * 512 = (m / 2 ^ 9 % 2 ^ 23) * 2 ^ 9 := rfl
    rw [e3, Nat.testBit_and, e2, Nat.testBit_mul_two_pow, Nat.testBit_mul_two_pow]
    by_cases hi : 9 ≤ i
    · rw [Nat.testBit_two_pow_sub_one, Nat.testBit_mod_two_pow, Nat.testBit_div_two_pow]
      simp [hi, Nat.sub_add_cancel hi]
      exact Bool.and_comm _ _
    · simp [hi]
  rw [e]
  omega
/-! The program's. -/
theorem c_bits_Within (m : Nat) (hm : m < 4294967296) (w : World) : Calls Try.prog 101 #[.int .u32 m, .int .u32 511] w (RetV w (.bool (decide (m ≤ 511)))) := by
  have ho : bits .andNot .u32 (m : Int) 511 = ((m &&& 4294966784 : Nat) : Int) := andNot_u32 m 511 hm (by omega)
  have H := Lib.hid (low9 m hm)
  go_enter Try.func101, Try.ntmps101
  go_wp2
  go_ret
  refine RetV.bool ?_ (by repeat (first | exact Below.refl _ _ | refine Below.drew ?_ | refine Below.alloc ?_ (by first | omega | (simp; done) | (simp; omega)) _ | refine Below.setCell ?_ (by first | omega | (simp; done) | (simp; omega)) _ | refine Below.trans ?_ (Below.mono (by assumption) (by first | omega | (simp; done) | (simp; omega)))))
  have := H.out
  by_cases h : m ≤ 511
  · simp_all
  · have h' : ¬ ((m &&& 4294966784 : Nat) : Int) = 0 := fun e => h (this.1 e)
    rw [decide_eq_false h]
    simpa using h'
theorem c_mask_Check (m : Nat) (hm : m < 4294967296) (w : World) : Calls Try.prog 70 #[.int .u32 m] w (RetV w (.bool (decide (m ≤ 511)))) := by
  go_enter Try.func70, Try.ntmps70
  go_wp2_with (go_at_call 101; refine (c_bits_Within m hm _).mono ?_; rintro e w1 ⟨rfl, hb3⟩)
  go_ret
  exact RetV.of rfl hb3

/-! The reference's. -/
theorem c_ref05_Check (m : Nat) (w : World) : Calls Try.prog 75 #[.int .u32 m] w (RetV w (.bool (decide (m ≤ 511)))) := by
  go_enter Try.func75, Try.ntmps75
  go_wp2
  go_ret
  refine RetV.bool ?_ (by repeat (first | exact Below.refl _ _ | refine Below.drew ?_ | refine Below.alloc ?_ (by first | omega | (simp; done) | (simp; omega)) _ | refine Below.setCell ?_ (by first | omega | (simp; done) | (simp; omega)) _ | refine Below.trans ?_ (Below.mono (by assumption) (by first | omega | (simp; done) | (simp; omega)))))
  rw [Bool.eq_iff_iff]; simp; omega
end Go.Proofs.Ytjhndilflcigiaa
namespace Go.Proofs.Ytjhndilflcigiaa
open Go.RowKit

def withinB (n a b : Int) (must : Bool) : Bool := if must then decide (a ≤ n ∧ n ≤ b) else decide (n = 0)
set_option maxHeartbeats 400000 in
theorem c_ledger_within (n a b : Int) (must : Bool) (w : World) : Calls Try.prog 68 #[.int .i64 n, .int .i64 a, .int .i64 b, .bool must] w (fun e w' => e = .returned (.bool (withinB n a b must)) ∧ w = w') := by
  cases must
  · go_enter Try.func68, Try.ntmps68
    go_wp2
    go_ret
    exact ⟨by simp [withinB]; rw [Bool.eq_iff_iff]; simp, rfl⟩
  · go_enter Try.func68, Try.ntmps68
    go_wp2
    all_goals
      go_ret
      refine ⟨?_, rfl⟩
      simp_all [withinB] <;> (try (intros; omega)) <;> (try omega)
theorem At.rep {w w' : World} {a : Rep} {A : Option Addr} {c : Nat} (h : At w w' (a.arr A c)) :
    w'.cell? ⟨w.heap.size, 0, none⟩ = some (.int .i64 a.kind) ∧ w'.cell? ⟨w.heap.size, 1, none⟩ = some (.int .i64 a.dev) ∧ w'.cell? ⟨w.heap.size, 2, none⟩ = some (.int .i64 a.req) ∧ w'.cell? ⟨w.heap.size, 3, none⟩ = some (.int .i64 a.code) ∧
    w'.cell? ⟨w.heap.size, 4, none⟩ = some (.int .i64 a.id) ∧ w'.cell? ⟨w.heap.size, 5, none⟩ = some (.int .i64 a.ver) ∧ w'.cell? ⟨w.heap.size, 6, none⟩ = some (.int .i64 a.seq) ∧ w'.cell? ⟨w.heap.size, 7, none⟩ = some (.int .i64 a.epoch) ∧
    w'.cell? ⟨w.heap.size, 8, none⟩ = some (.slice A a.f.length c) ∧ w'.cell? ⟨w.heap.size, 9, none⟩ = some (.int .u32 a.mask) :=
  ⟨h.2.cell rfl, h.2.cell rfl, h.2.cell rfl, h.2.cell rfl, h.2.cell rfl, h.2.cell rfl, h.2.cell rfl, h.2.cell rfl, h.2.cell rfl, h.2.cell rfl⟩
theorem Rep.base_no {a : Rep} (h : a.base = false) : ¬ (2 ≤ a.kind ∧ a.kind ≤ 4 ∧ 0 ≤ a.dev ∧ a.dev < 6 ∧ 1 ≤ a.req ∧ a.req ≤ 1099511627776 ∧ 0 ≤ a.code ∧ a.code ≤ 16) := fun h' => by rw [Rep.base_iff.2 h'] at h; cases h
theorem Rep.ok_no {a : Rep} (h : a.base = false) : a.ok = false := by unfold Rep.ok; rw [h]; rfl
set_option maxHeartbeats 1000000 in
set_option maxRecDepth 4000 in
theorem ledger_Check_no (a : Rep) (A : Option Addr) (c : Nat) (w : World) (hb : a.base = false) : Calls Try.prog 39 #[.agg (a.arr A c)] w (RetV w (.bool a.ok)) := by
  rw [Rep.ok_no hb]
  have HB := Lib.hid (Rep.base_no hb)
  have BC := Lib.hid (At.new w 47 (a.arr A c))
  obtain ⟨q0, q1, q2, q3, -, -, -, -, -, -⟩ := BC.out.rep
  clear hb
  go_enter Try.func39, Try.ntmps39
  go_wp2_with (fail)
  all_goals first
    | (go_ret; exact RetV.bool rfl BC.out.1)
    | (exfalso; have := HB.out; simp_all)
theorem Rep.ok_with {a : Rep} (h : a.base = true) : a.ok = (withinB a.seq 0 1099511627776 (decide (a.code = 0)) && (withinB a.id 1 1073741823 a.isPut && (withinB a.ver 1 1099511627776 a.isPut && (withinB a.epoch 1 1099511627776 a.isSub &&
    (if a.isSub then decide (check a.f = 0) && decide (a.mask ≤ 511) else decide (a.f.length = 0) && decide (a.mask = 0)))))) := by
  unfold Rep.ok Rep.seqOk Rep.putOk Rep.subOk withinB
  rw [h, Bool.true_and]
  have e1 : a.mask < 512 ↔ a.mask ≤ 511 := by omega
  have e2 : a.f = [] ↔ a.f.length = 0 := by simp
  rw [Bool.eq_iff_iff]
  by_cases hc : a.code = 0 <;> cases hp : a.isPut <;> cases hs : a.isSub <;> simp [hc, e1] <;> grind
theorem beq_dec (n : Int) : (n == 0) = decide (n = 0) := by rw [Bool.eq_iff_iff]; simp
set_option maxHeartbeats 4000000 in
set_option maxRecDepth 4000 in
theorem ledger_Check_yes (a : Rep) (A : Option Addr) (c : Nat) (w : World) (h : InN w A c a.f) (hs : ∀ x ∈ a.f, x.v.s.length ≤ 4294967000) (hm : a.mask < 4294967296) (hb : a.base = true) : Calls Try.prog 39 #[.agg (a.arr A c)] w (RetV w (.bool a.ok)) := by
  rw [Rep.ok_with hb]
  obtain ⟨b1, b2, b3, b4, b5, b6, b7, b8⟩ := Rep.base_iff.1 hb
  have k1 : decide (a.kind < 2) = false := by simpa using b1
  have k2 : decide (4 < a.kind) = false := by simpa using b2
  have k3 : decide (a.dev < 0) = false := by simpa using b3
  have k4 : decide (6 ≤ a.dev) = false := by simpa using b4
  have k5 : decide (a.req < 1) = false := by simpa using b5
  have k6 : decide (1099511627776 < a.req) = false := by simpa using b6
  have k7 : decide (a.code < 0) = false := by simpa using b7
  have k8 : decide (16 < a.code) = false := by simpa using b8
  have HI := Lib.hid h
  have Hs := Lib.hid hs
  have BC := Lib.hid (At.new w 47 (a.arr A c))
  obtain ⟨q0, q1, q2, q3, q4, q5, q6, q7, q8, q9⟩ := BC.out.rep
  obtain ⟨V, hV⟩ : ∃ V, V = a.ok := ⟨_, rfl⟩
  have hcs : (a.code ≠ 0) ∨ (a.code = 0 ∧ a.kind = 2) ∨ (a.code = 0 ∧ a.kind = 3) ∨ (a.code = 0 ∧ a.kind = 4) := by omega
  clear hb b1 b2 b3 b4 b5 b6 b7 b8 h hs hV
  rcases hcs with h0 | ⟨h0, h1⟩ | ⟨h0, h1⟩ | ⟨h0, h1⟩
  · have j0 : (a.code == 0) = false := by simpa using h0
    have i1 : a.isPut = false := by unfold Rep.isPut; simp [h0]
    have i2 : a.isSub = false := by unfold Rep.isSub; simp [h0]
    have i0 : decide (a.code = 0) = false := by simp [h0]
    rw [i0, i1, i2]
    clear h0 i0 i1 i2
    go_enter Try.func39, Try.ntmps39
    go_wp2_with (fail)
    refine wp_region_grow (by kernel_rfl) (by kernel_rfl) ?_
    repeat (quiet_step ((first | (fail))))
    refine wpQuiet_nil ?_
    intro w2 hb2
    replace BC := Lib.hid (BC.out.step hb2)
    replace HI := Lib.hid (HI.out.below BC.out.1)
    clear q0 q1 q2 q3 q4 q5 q6 q7 q8 q9
    obtain ⟨q0, q1, q2, q3, q4, q5, q6, q7, q8, q9⟩ := BC.out.rep
    go_wp2_with (first
      | (go_at_call 68; refine (c_ledger_within _ _ _ _ _).mono ?_; rintro e w1 ⟨rfl, rfl⟩))
    all_goals
      go_ret
      refine RetV.bool ?_ BC.out.1
      simp_all [beq_dec]
  · have j0 : (a.code == 0) = true := by simpa using h0
    have i1 : a.isPut = true := by unfold Rep.isPut; simp [h0, h1]
    have i2 : a.isSub = false := by unfold Rep.isSub; simp [h1]
    have i0 : decide (a.code = 0) = true := by simp [h0]
    have j2 : (a.kind == 2) = true := by simpa using h1
    have j3 : (a.kind == 3) = false := by simp [h1]
    rw [i0, i1, i2]
    clear h0 i0 i1 i2 h1
    go_enter Try.func39, Try.ntmps39
    go_wp2_with (fail)
    refine wp_region_grow (by kernel_rfl) (by kernel_rfl) ?_
    repeat (quiet_step ((first | (fail))))
    refine wpQuiet_nil ?_
    intro w2 hb2
    replace BC := Lib.hid (BC.out.step hb2)
    replace HI := Lib.hid (HI.out.below BC.out.1)
    clear q0 q1 q2 q3 q4 q5 q6 q7 q8 q9
    obtain ⟨q0, q1, q2, q3, q4, q5, q6, q7, q8, q9⟩ := BC.out.rep
    go_wp2_with (first
      | (go_at_call 68; refine (c_ledger_within _ _ _ _ _).mono ?_; rintro e w1 ⟨rfl, rfl⟩))
    all_goals
      go_ret
      refine RetV.bool ?_ BC.out.1
      simp_all [beq_dec]
  · have j0 : (a.code == 0) = true := by simpa using h0
    have i1 : a.isPut = false := by unfold Rep.isPut; simp [h1]
    have i2 : a.isSub = true := by unfold Rep.isSub; simp [h0, h1]
    have i0 : decide (a.code = 0) = true := by simp [h0]
    have j2 : (a.kind == 2) = false := by simp [h1]
    have j3 : (a.kind == 3) = true := by simpa using h1
    rw [i0, i1, i2]
    clear h0 i0 i1 i2 h1
    go_enter Try.func39, Try.ntmps39
    go_wp2_with (fail)
    refine wp_region_grow (by kernel_rfl) (by kernel_rfl) ?_
    repeat (quiet_step ((first | (fail))))
    refine wpQuiet_nil ?_
    intro w2 hb2
    replace BC := Lib.hid (BC.out.step hb2)
    replace HI := Lib.hid (HI.out.below BC.out.1)
    clear q0 q1 q2 q3 q4 q5 q6 q7 q8 q9
    obtain ⟨q0, q1, q2, q3, q4, q5, q6, q7, q8, q9⟩ := BC.out.rep
    go_wp2_with (first
      | (go_at_call 68; refine (c_ledger_within _ _ _ _ _).mono ?_; rintro e w1 ⟨rfl, rfl⟩)
      | (go_at_call 69; refine (c_pred_Check a.f A c _ HI.out (fun x hx => by have := Hs.out x hx; omega)).mono ?_; rintro e w3 ⟨rfl, hb3⟩; replace BC := Lib.hid (BC.out.step hb3); clear q0 q1 q2 q3 q4 q5 q6 q7 q8 q9; obtain ⟨q0, q1, q2, q3, q4, q5, q6, q7, q8, q9⟩ := BC.out.rep)
      | (go_at_call 70; refine (c_mask_Check a.mask hm _).mono ?_; rintro e w4 ⟨rfl, hb4⟩; replace BC := Lib.hid (BC.out.step hb4); clear q0 q1 q2 q3 q4 q5 q6 q7 q8 q9; obtain ⟨q0, q1, q2, q3, q4, q5, q6, q7, q8, q9⟩ := BC.out.rep))
    all_goals
      go_ret
      refine RetV.bool ?_ BC.out.1
      simp_all [beq_dec]
  · have j0 : (a.code == 0) = true := by simpa using h0
    have i1 : a.isPut = false := by unfold Rep.isPut; simp [h1]
    have i2 : a.isSub = false := by unfold Rep.isSub; simp [h1]
    have i0 : decide (a.code = 0) = true := by simp [h0]
    have j2 : (a.kind == 2) = false := by simp [h1]
    have j3 : (a.kind == 3) = false := by simp [h1]
    rw [i0, i1, i2]
    clear h0 i0 i1 i2 h1
    go_enter Try.func39, Try.ntmps39
    go_wp2_with (fail)
    refine wp_region_grow (by kernel_rfl) (by kernel_rfl) ?_
    repeat (quiet_step ((first | (fail))))
    refine wpQuiet_nil ?_
    intro w2 hb2
    replace BC := Lib.hid (BC.out.step hb2)
    replace HI := Lib.hid (HI.out.below BC.out.1)
    clear q0 q1 q2 q3 q4 q5 q6 q7 q8 q9
    obtain ⟨q0, q1, q2, q3, q4, q5, q6, q7, q8, q9⟩ := BC.out.rep
    go_wp2_with (first
      | (go_at_call 68; refine (c_ledger_within _ _ _ _ _).mono ?_; rintro e w1 ⟨rfl, rfl⟩))
    all_goals
      go_ret
      refine RetV.bool ?_ BC.out.1
      simp_all [beq_dec]
theorem c_ledger_Check (a : Rep) (A : Option Addr) (c : Nat) (w : World) (h : InN w A c a.f) (hs : ∀ x ∈ a.f, x.v.s.length ≤ 4294967000) (hm : a.mask < 4294967296) : Calls Try.prog 39 #[.agg (a.arr A c)] w (RetV w (.bool a.ok)) := by
  cases hb : a.base
  · exact ledger_Check_no a A c w hb
  · exact ledger_Check_yes a A c w h hs hm hb
end Go.Proofs.Ytjhndilflcigiaa
namespace Go.Proofs.Ytjhndilflcigiaa
open Go.RowKit

set_option maxHeartbeats 1000000 in
set_option maxRecDepth 4000 in
theorem ref30_Check_no (a : Rep) (A : Option Addr) (c : Nat) (w : World) (hb : a.base = false) : Calls Try.prog 44 #[.agg (a.arr A c)] w (RetV w (.bool a.ok)) := by
  rw [Rep.ok_no hb]
  have HB := Lib.hid (Rep.base_no hb)
  have BC := Lib.hid (At.new w 47 (a.arr A c))
  obtain ⟨q0, q1, q2, q3, -, -, -, -, -, -⟩ := BC.out.rep
  clear hb
  go_enter Try.func44, Try.ntmps44
  go_wp2_with (fail)
  all_goals first
    | (go_ret; exact RetV.bool rfl BC.out.1)
    | (exfalso; have := HB.out; simp_all)
set_option maxHeartbeats 4000000 in
set_option maxRecDepth 4000 in
theorem ref30_Check_yes (a : Rep) (A : Option Addr) (c : Nat) (w : World) (h : InN w A c a.f) (hs : ∀ x ∈ a.f, x.v.s.length ≤ 4294967000) (_hm : a.mask < 4294967296) (hb : a.base = true) : Calls Try.prog 44 #[.agg (a.arr A c)] w (RetV w (.bool a.ok)) := by
  rw [Rep.ok_with hb]
  obtain ⟨b1, b2, b3, b4, b5, b6, b7, b8⟩ := Rep.base_iff.1 hb
  have k1 : decide (a.kind < 2) = false := by simpa using b1
  have k2 : decide (4 < a.kind) = false := by simpa using b2
  have k3 : decide (a.dev < 0) = false := by simpa using b3
  have k4 : decide (6 ≤ a.dev) = false := by simpa using b4
  have k5 : decide (a.req < 1) = false := by simpa using b5
  have k6 : decide (1099511627776 < a.req) = false := by simpa using b6
  have k7 : decide (a.code < 0) = false := by simpa using b7
  have k8 : decide (16 < a.code) = false := by simpa using b8
  have HI := Lib.hid h
  have Hs := Lib.hid hs
  have BC := Lib.hid (At.new w 47 (a.arr A c))
  obtain ⟨q0, q1, q2, q3, q4, q5, q6, q7, q8, q9⟩ := BC.out.rep
  obtain ⟨V, hV⟩ : ∃ V, V = a.ok := ⟨_, rfl⟩
  have hcs : (a.code ≠ 0) ∨ (a.code = 0 ∧ a.kind = 2) ∨ (a.code = 0 ∧ a.kind = 3) ∨ (a.code = 0 ∧ a.kind = 4) := by omega
  clear hb b1 b2 b3 b4 b5 b6 b7 b8 h hs hV
  rcases hcs with h0 | ⟨h0, h1⟩ | ⟨h0, h1⟩ | ⟨h0, h1⟩
  · have j0 : (a.code == 0) = false := by simpa using h0
    have i1 : a.isPut = false := by unfold Rep.isPut; simp [h0]
    have i2 : a.isSub = false := by unfold Rep.isSub; simp [h0]
    have i0 : decide (a.code = 0) = false := by simp [h0]
    rw [i0, i1, i2]
    clear h0 i0 i1 i2
    go_enter Try.func44, Try.ntmps44
    go_wp2_with (fail)
    refine wp_region_grow (by kernel_rfl) (by kernel_rfl) ?_
    repeat (quiet_step ((first | (fail))))
    refine wpQuiet_nil ?_
    intro w2 hb2
    replace BC := Lib.hid (BC.out.step hb2)
    replace HI := Lib.hid (HI.out.below BC.out.1)
    clear q0 q1 q2 q3 q4 q5 q6 q7 q8 q9
    obtain ⟨q0, q1, q2, q3, q4, q5, q6, q7, q8, q9⟩ := BC.out.rep
    go_wp2_with (fail)
    all_goals
      go_ret
      refine RetV.bool ?_ BC.out.1
      simp_all [beq_dec, withinB] <;> (try omega)
  · have j0 : (a.code == 0) = true := by simpa using h0
    have i1 : a.isPut = true := by unfold Rep.isPut; simp [h0, h1]
    have i2 : a.isSub = false := by unfold Rep.isSub; simp [h1]
    have i0 : decide (a.code = 0) = true := by simp [h0]
    have j2 : (a.kind == 2) = true := by simpa using h1
    have j3 : (a.kind == 3) = false := by simp [h1]
    rw [i0, i1, i2]
    clear h0 i0 i1 i2 h1
    go_enter Try.func44, Try.ntmps44
    go_wp2_with (fail)
    refine wp_region_grow (by kernel_rfl) (by kernel_rfl) ?_
    repeat (quiet_step ((first | (fail))))
    refine wpQuiet_nil ?_
    intro w2 hb2
    replace BC := Lib.hid (BC.out.step hb2)
    replace HI := Lib.hid (HI.out.below BC.out.1)
    clear q0 q1 q2 q3 q4 q5 q6 q7 q8 q9
    obtain ⟨q0, q1, q2, q3, q4, q5, q6, q7, q8, q9⟩ := BC.out.rep
    go_wp2_with (fail)
    all_goals
      go_ret
      refine RetV.bool ?_ BC.out.1
      simp_all [beq_dec, withinB] <;> (try omega)
  · have j0 : (a.code == 0) = true := by simpa using h0
    have i1 : a.isPut = false := by unfold Rep.isPut; simp [h1]
    have i2 : a.isSub = true := by unfold Rep.isSub; simp [h0, h1]
    have i0 : decide (a.code = 0) = true := by simp [h0]
    have j2 : (a.kind == 2) = false := by simp [h1]
    have j3 : (a.kind == 3) = true := by simpa using h1
    rw [i0, i1, i2]
    clear h0 i0 i1 i2 h1
    go_enter Try.func44, Try.ntmps44
    go_wp2_with (fail)
    refine wp_region_grow (by kernel_rfl) (by kernel_rfl) ?_
    repeat (quiet_step ((first | (fail))))
    refine wpQuiet_nil ?_
    intro w2 hb2
    replace BC := Lib.hid (BC.out.step hb2)
    replace HI := Lib.hid (HI.out.below BC.out.1)
    clear q0 q1 q2 q3 q4 q5 q6 q7 q8 q9
    obtain ⟨q0, q1, q2, q3, q4, q5, q6, q7, q8, q9⟩ := BC.out.rep
    go_wp2_with (first
      | (go_at_call 74; refine (c_ref10_Check a.f A c _ HI.out (fun x hx => by have := Hs.out x hx; omega)).mono ?_; rintro e w3 ⟨rfl, hb3⟩; replace BC := Lib.hid (BC.out.step hb3); clear q0 q1 q2 q3 q4 q5 q6 q7 q8 q9; obtain ⟨q0, q1, q2, q3, q4, q5, q6, q7, q8, q9⟩ := BC.out.rep)
      | (go_at_call 75; refine (c_ref05_Check a.mask _).mono ?_; rintro e w4 ⟨rfl, hb4⟩; replace BC := Lib.hid (BC.out.step hb4); clear q0 q1 q2 q3 q4 q5 q6 q7 q8 q9; obtain ⟨q0, q1, q2, q3, q4, q5, q6, q7, q8, q9⟩ := BC.out.rep))
    all_goals
      go_ret
      refine RetV.bool ?_ BC.out.1
      simp_all [beq_dec, withinB] <;> (try omega)
  · have j0 : (a.code == 0) = true := by simpa using h0
    have i1 : a.isPut = false := by unfold Rep.isPut; simp [h1]
    have i2 : a.isSub = false := by unfold Rep.isSub; simp [h1]
    have i0 : decide (a.code = 0) = true := by simp [h0]
    have j2 : (a.kind == 2) = false := by simp [h1]
    have j3 : (a.kind == 3) = false := by simp [h1]
    rw [i0, i1, i2]
    clear h0 i0 i1 i2 h1
    go_enter Try.func44, Try.ntmps44
    go_wp2_with (fail)
    refine wp_region_grow (by kernel_rfl) (by kernel_rfl) ?_
    repeat (quiet_step ((first | (fail))))
    refine wpQuiet_nil ?_
    intro w2 hb2
    replace BC := Lib.hid (BC.out.step hb2)
    replace HI := Lib.hid (HI.out.below BC.out.1)
    clear q0 q1 q2 q3 q4 q5 q6 q7 q8 q9
    obtain ⟨q0, q1, q2, q3, q4, q5, q6, q7, q8, q9⟩ := BC.out.rep
    go_wp2_with (fail)
    all_goals
      go_ret
      refine RetV.bool ?_ BC.out.1
      simp_all [beq_dec, withinB] <;> (try omega)
theorem c_ref30_Check (a : Rep) (A : Option Addr) (c : Nat) (w : World) (h : InN w A c a.f) (hs : ∀ x ∈ a.f, x.v.s.length ≤ 4294967000) (hm : a.mask < 4294967296) : Calls Try.prog 44 #[.agg (a.arr A c)] w (RetV w (.bool a.ok)) := by
  cases hb : a.base
  · exact ref30_Check_no a A c w hb
  · exact ref30_Check_yes a A c w h hs hm hb
end Go.Proofs.Ytjhndilflcigiaa
