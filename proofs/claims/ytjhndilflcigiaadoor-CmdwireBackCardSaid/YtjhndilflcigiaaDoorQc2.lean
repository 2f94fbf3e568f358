/-
  Lemmas (walks and plain laws), in one text.
-/
import Derived.Test.YtjhndilflcigiaaDoorQc1
import Derived.Test.YtjhndilflcigiaaDoorRows
import Derived.WalkKit
import Derived.WalkSpells
import Derived.WalkLawsBesides
import Derived.Lib.Hide
import Derived.Deep.QuietTactic
import Derived.BigQuiet
import Derived.Maps.AppendAt
import Derived.WalkSmall
import Derived.ProofKit
import Derived.OpenShut
import Derived.JoinedCond
import Derived.Deep.Slices
import Derived.Deep.Fields
import Derived.Carry
import Derived.Deep.AppendSrc
import Derived.Lib.AppendStr
import Derived.Laws.BytesArg
import Derived.Test.YtjhndilflcigiaaDoorProg
import Derived.Shelf.Spec.TrailingZeros
import Derived.RangeFuncNested
import Derived.RangeFuncBound
import Derived.RangeFuncCalls
import Derived.RangeFuncLeaves
import Derived.Shelf.Abstract
import Derived.Shelf.RegionOpen
import Derived.OwnWalkIn
import Derived.TacticsInMore
import Derived.LoopNIn
import Derived.LoopIn
import Derived.Test.YtjhndilflcigiaaDoorTie
import Derived.Lib.LaidTab
import Derived.LaidMore
import Derived.SevenTiedAt
import Derived.Test.YtjhndilflcigiaaDoorCards
import Derived.Laws.Tables
import Derived.Laws.Rows
import Derived.ChangeKeysEq
import Derived.Laws.StructEq
import Derived.Deep.CutBlock
import Derived.Deep.DeepCutAuto
import Derived.Laws.CopyOwn
import Derived.Outline
import Derived.IntWalk
import Derived.Lib.EndianBits
import Derived.StillTail
import Derived.Lib.AppendZeros
import Derived.Deep.Quiet
import Derived.Maps.Own
import Derived.WalkMore
namespace Go.Proofs.YtjhndilflcigiaaDoor
open Go.RowKit

def bc (b : UInt8) : List Value := [.int .u8 b.toNat]
theorem bc_len (b : UInt8) : (bc b).length = 1 := rfl
theorem bc_one (l : List UInt8) : ∀ u ∈ l.flatMap bc, u.oneCell' = true := by
  intro u hu
  obtain ⟨x, _, hx⟩ := List.mem_flatMap.1 hu
  simp only [bc, List.mem_singleton] at hx
  subst hx; rfl
theorem bc_flat (l : List UInt8) : l.flatMap bc = l.map fun b => Value.int .u8 b.toNat := by
  induction l with
  | nil => rfl
  | cons x l ih => rw [List.flatMap_cons, ih]; rfl
theorem bc_str (l : List UInt8) : Lib.strCells (str l) = l.flatMap bc := by rw [bc_flat]; rfl
/-- A slice of bytes. -/
abbrev InB := In 1 bc

theorem RetV.str {w w' : World} {a b : List UInt8} (h : a = b) (hb : Below w.heap.size w w') : RetV w (.string (str b)) (.returned (.string (str a))) w' := ⟨by rw [h], hb⟩

theorem RetS.of {α : Type} {k : Nat} {cs : α → List Value} {et : TypeId} {w w' : World} {l l' : List α} {v : Value} {b : Nat} (h : w'.ownsRow b et k v l'.length (l'.flatMap cs)) (hb : w.heap.size ≤ b) (e : l' = l) (hB : Below w.heap.size w w') :
    RetS k cs et w l (.returned v) w' := ⟨v, rfl, by subst e; exact own_base h hb, hB⟩

/-! Numbers and texts as bytes. -/
def numF : Nat → Nat → List UInt8
  | 0, v => [UInt8.ofNat v]
  | f + 1, v => if v < 128 then [UInt8.ofNat v] else UInt8.ofNat (v % 128 + 128) :: numF f (v / 128)
def clampN (n : Int) : Nat := (min (max n 0) 1099511627776).toNat
@[irreducible] def num (n : Int) : List UInt8 := numF 6 (clampN n)
theorem num_def (n : Int) : num n = numF 6 (clampN n) := by unfold num; rfl
def strB (s : List UInt8) : List UInt8 := num s.length ++ s
theorem numF_lt {f v : Nat} (h : v < 128) : numF f v = [UInt8.ofNat v] := by
  cases f with
  | zero => rfl
  | succ f => unfold numF; rw [if_pos h]
theorem numF_ge {f v : Nat} (h : ¬ v < 128) : numF (f + 1) v = UInt8.ofNat (v % 128 + 128) :: numF f (v / 128) := by rw [numF, if_neg h]
theorem clampN_le (n : Int) : clampN n ≤ 1099511627776 := by unfold clampN; omega
theorem clampN_lt (n : Int) : clampN n < 128 ^ (6 + 1) := Nat.lt_of_le_of_lt (clampN_le n) (by decide)
theorem clampN_int (n : Int) : (clampN n : Int) = min (max n 0) 1099511627776 := by unfold clampN; omega
theorem numF_len : ∀ f v, 1 ≤ (numF f v).length ∧ (numF f v).length ≤ f + 1
  | 0, v => by simp [numF]
  | f + 1, v => by
    unfold numF
    have := numF_len f (v / 128)
    split
    · simp
    · simp only [List.length_cons]; omega
theorem num_len (n : Int) : 1 ≤ (num n).length ∧ (num n).length ≤ 7 := by rw [num_def]; exact numF_len 6 _

section
variable {P : Program} (w : World)
theorem own_grown {w : World} {base : Nat} {e : TypeId} {size N : Nat} {z : Value} {xs : List Value} (hz : z.cells.size = size) (hx : xs.length = N * size) (hb : base ≤ w.heap.size) (old : Nat) (hN : N ≤ maxLen) :
    (w.drew.alloc (.cells (xs.toArray ++ Builtin.zeroCells z.cells (grownCap w N old e - N)) e)).ownsRow base e size (.slice (some ⟨w.heap.size, 0, none⟩) N (grownCap w N old e)) N xs := by
  have hge := grownCap_ge w N old e
  have hcm : grownCap w N old e ≤ maxLen := grownCap_le_maxLen w N old e hN
  refine ⟨hx, .inr ⟨w.heap.size, _, _, rfl, hb, heap_alloc_new w.drew _, hge, hcm, ?_, ?_⟩⟩
  · simp only [Array.size_append, List.size_toArray, size_zeroCells, hz, hx, ← Nat.add_mul]
    congr 1
    omega
  · simp only [Array.toList_append]
    rw [← hx]
    exact List.take_left
theorem Src.go {A : Option Addr} {m size c : Nat} {news : List Value} {tx e' : TypeId} (hk : P.underlying tx = some (.slice e')) (h : Src w A m size news) (h1 : ∀ u ∈ news, u.oneCell' = true) : Go.Src P size tx (.slice A m c) m news w := by
  rcases A with _ | ad
  · have hm : m = 0 := by
      rcases Nat.eq_zero_or_pos m with h0 | h0
      · exact h0
      · obtain ⟨ad, hh, _⟩ := h.2 h0; cases hh
    subst hm
    have hnil : news = [] := List.eq_nil_of_length_eq_zero (by simpa using h.1)
    subst hnil
    exact Go.Src.ofNil w hk c
  · refine Go.Src.ofSlice w hk ad m c news h.1 (fun j u hu => ?_) h1
    rcases Nat.eq_zero_or_pos m with h0 | h0
    · subst h0
      have hnil : news = [] := List.eq_nil_of_length_eq_zero (by simpa using h.1)
      subst hnil; simp at hu
    · obtain ⟨ad', hh, hc⟩ := h.2 h0
      injection hh with hh; subst hh; exact hc j u hu
theorem Src.first {A : Option Addr} {m size c : Nat} {news : List Value} (h : Src w A m size news) : (Builtin.firstCells size m (.slice A m c)).run P w.drew = .ok news.toArray w.drew := by
  rcases A with _ | ad
  · have hm : m = 0 := by
      rcases Nat.eq_zero_or_pos m with h0 | h0
      · exact h0
      · obtain ⟨ad, hh, _⟩ := h.2 h0; cases hh
    subst hm
    have hnil : news = [] := List.eq_nil_of_length_eq_zero (by simpa using h.1)
    subst hnil
    exact run_firstCells_none w.drew size 0 0 c
  · refine run_firstCells_some w.drew size m ad m c news h.1 (fun j u hu => ?_)
    rcases Nat.eq_zero_or_pos m with h0 | h0
    · subst h0
      have hnil : news = [] := List.eq_nil_of_length_eq_zero (by simpa using h.1)
      subst hnil; simp at hu
    · obtain ⟨ad', hh, hc⟩ := h.2 h0
      injection hh with hh; subst hh; exact hc j u hu
/-- append onto a slice that is full: a new row. -/
theorem wpList_appF {ops : Array Oper} {rest : List Oper} {o : Oper} {a : Act} {Q : Exit → Act → World → Prop} (hgd : o.guard = none) (s x : Operand) {t e tx : TypeId} {size bytes : Nat} (I : Elem P t e size bytes)
    (ho : o.op = .call { callee := .builtin .append, args := #[s, x], argTypes := #[t, tx] })
    (base : Nat) (A : Option Addr) (n : Nat) (olds : List Value) (hs : a.eval s = .slice A n n) (hb : Src w A n size olds)
    (xv : Value) (m : Nat) (news : List Value) (hx : a.eval x = xv) (hsrc : Go.Src P size tx xv m news w) (hm : 0 < m) (hn : n + m ≤ 8589934592) (hbase : base ≤ w.heap.size)
    (h : ∀ v' w', w'.ownsRow base e size v' (n + m) (olds ++ news) → Below base w w' → wpList P ops Q rest (a.put o.dst v') w') : wpList P ops Q (o :: rest) a w := by
  refine wpList_plain hgd fun K hK => ?_
  obtain ⟨i, z, h2, h3, h4, h5, h6⟩ := I.info
  subst h4; subst h5
  have hb1 : (n + m) * i.bytes ≤ 140737488355328 := Nat.le_trans (Nat.mul_le_mul hn I.small) (by omega)
  have hL : (olds ++ news).length = (n + m) * i.size := by rw [List.length_append, hb.1, hsrc.newsLen, Nat.add_mul]
  have hrun := run_append_grow_src (P := P) w t tx o.type e i z I.under h2 h3 A n n olds hb.first xv m news hsrc (by omega) (by omega) (growslice_fits (by omega) hb1)
  unfold Oper.wp execOp
  simp only [ho, resolve, invoke, builtin, Sem.run_bind, Sem.run_pure, Result.andThen_ok, List.map_toArray, List.map_cons, List.map_nil, hs, hx, hrun]
  refine hK _ _ (h _ _ (own_grown h6 hL hbase _ (by unfold maxLen; omega)) ?_)
  exact Below.alloc ((Below.refl _ _).drew) hbase _
/-- A slice that is full, or a call's own. -/
def Held (w : World) (base : Nat) (e : TypeId) (size : Nat) (v : Value) (n : Nat) (xs : List Value) : Prop :=
  w.ownsRow base e size v n xs ∨ ∃ A, v = .slice A n n ∧ Src w A n size xs
/-- append onto such a slice. -/
theorem wpList_appH {ops : Array Oper} {rest : List Oper} {o : Oper} {a : Act} {Q : Exit → Act → World → Prop} (hgd : o.guard = none) (s x : Operand) {t e : TypeId} {size bytes : Nat} (I : Elem P t e size bytes)
    (ho : o.op = .call { callee := .builtin .append, args := #[s, x], argTypes := #[t, t] })
    (base : Nat) (v : Value) (n : Nat) (olds : List Value) (hs : a.eval s = v) (hb : Held w base e size v n olds)
    (A : Option Addr) (m c : Nat) (news : List Value) (hx : a.eval x = .slice A m c) (hr : Src w A m size news) (h1 : ∀ u ∈ news, u.oneCell' = true) (hm : 0 < m) (hn : n + m ≤ 8589934592) (hbase : base ≤ w.heap.size)
    (h : ∀ v' w', w'.ownsRow base e size v' (n + m) (olds ++ news) → Below base w w' → wpList P ops Q rest (a.put o.dst v') w') : wpList P ops Q (o :: rest) a w := by
  rcases hb with hb | ⟨A0, rfl, hb⟩
  · exact wpList_app w hgd s x I ho base v n olds hs hb A m c news hx hr h1 hn hbase (fun v' w' h1 _ h2 _ => h v' w' h1 h2)
  · exact wpList_appF w hgd s x I ho base A0 n olds hs hb _ m news hx (hr.go w I.under h1) hm hn hbase h
/-- append of a text onto a slice of bytes of the call's own. -/
theorem wpList_appS {ops : Array Oper} {rest : List Oper} {o : Oper} {a : Act} {Q : Exit → Act → World → Prop} (hgd : o.guard = none) (s x : Operand) {t e tx : TypeId} (ht : P.underlying t = some (.slice e)) (hu : P.underlying tx = some .string)
    (hi : (P.info? e).map (fun i => (i.zero, i.size, i.bytes)) = some (some (.int .u8 0), 1, 1))
    (ho : o.op = .call { callee := .builtin .append, args := #[s, x], argTypes := #[t, tx] })
    (base : Nat) (v : Value) (n : Nat) (xs : List Value) (hs : a.eval s = v) (hown : w.ownsRow base e 1 v n xs)
    (l : List UInt8) (hx : a.eval x = .string (str l)) (hn : n + l.length ≤ 8589934592) (hbase : base ≤ w.heap.size)
    (h : ∀ v' w', w'.ownsRow base e 1 v' (n + l.length) (xs ++ l.flatMap bc) → w.grownBy w' v.ownBlock → Below base w w' → wpList P ops Q rest (a.put o.dst v') w') : wpList P ops Q (o :: rest) a w := by
  refine wpList_plain hgd fun K hK => ?_
  obtain ⟨i, h1, h2, h3, h4⟩ := info_parts hi
  obtain ⟨v', w', hrun, g2, g3, _⟩ := Lib.run_append_own_string (P := P) w base t tx o.type e i ht hu h1 h2 h3 h4 v n xs hown (str l) (by unfold maxLen; simp; omega) (by simp; omega) hbase
  unfold Oper.wp execOp
  simp only [ho, resolve, invoke, builtin, Sem.run_bind, Sem.run_pure, Result.andThen_ok, List.map_toArray, List.map_cons, List.map_nil, hs, hx, hrun]
  rw [str_size, bc_str] at g2
  exact hK _ _ (h v' w' g2 g3 (grown_below g3 hbase fun k hk => (hown.lt k hk).1))
end
section
variable {w w' : World} {base : Nat} {e : TypeId} {size n : Nat} {v : Value} {xs : List Value}
theorem Src.below {A : Option Addr} (h : Src w A n size xs) (hb : Below w.heap.size w w') : Src w' A n size xs := by
  refine ⟨h.1, fun hm => ?_⟩
  obtain ⟨ad, rfl, hc⟩ := h.2 hm
  refine ⟨ad, rfl, fun j u hu => ?_⟩
  have h1 := hc j u hu
  rw [hb.cell (World.block_lt_of_cell? _ _ h1)]
  exact h1
theorem Held.below (h : Held w base e size v n xs) (hb : Below w.heap.size w w') : Held w' base e size v n xs := by
  rcases h with h | ⟨A, rfl, h⟩
  · exact .inl (own_below h hb)
  · exact .inr ⟨A, rfl, h.below hb⟩
theorem Held.shape (h : Held w base e size v n xs) : ∃ A c, v = .slice A n c := by
  rcases h with h | ⟨A, rfl, _⟩
  · obtain ⟨A, c, rfl, _⟩ := own_form h; exact ⟨_, _, rfl⟩
  · exact ⟨_, _, rfl⟩
/-- A slice that came in, its capacity cut to its length. -/
theorem Held.of_in {α : Type} {k : Nat} {cs : α → List Value} {A : Option Addr} {c : Nat} {l : List α} (hk : ∀ x, (cs x).length = k) (hk0 : 0 < k) (h : In k cs w A c l) :
    Held w base e k (.slice A l.length l.length) l.length (l.flatMap cs) := .inr ⟨A, rfl, Src.of_in hk hk0 h⟩
end
/-- A slice that a call has handed back, under a name of its own. -/
theorem own_open {α : Type} {k : Nat} {cs : α → List Value} {w : World} {base : Nat} {e : TypeId} {v : Value} {l : List α} (hk : ∀ x, (cs x).length = k) (h : w.ownsRow base e k v l.length (l.flatMap cs)) (N : Nat) (hN : l.length ≤ N) (hs : N ≤ 4294967296) :
    ∃ l2 A c, Hid (l2 = l) ∧ l2.length ≤ N ∧ v = .slice A l2.length c ∧ In k cs w A c l2 ∧ Hid (w.ownsRow base e k v l2.length (l2.flatMap cs)) := by
  obtain ⟨A, c, hv, hin⟩ := In.of_own hk h (by omega)
  exact ⟨l, A, c, rfl, hN, hv, hin, h⟩
/-! Bytes as texts. -/
section
variable {P : Program} (w : World)
theorem conv_str {src dst e : TypeId} (hs : P.underlying src = some (.slice e)) (he : P.underlying e = some (.int .u8)) (hd : P.underlying dst = some .string) {A : Option Addr} {c : Nat} {l : List UInt8} (h : InB w A c l) :
    (convert src dst (.slice A l.length c)).run P w = .ok (.string (str l)) w := by
  rcases A with _ | ad
  · have : l = [] := by
      rcases h.2.2.2 with h | ⟨b, off, hh, _⟩
      · exact h
      · cases hh
    subst this
    exact run_convert_bytes_nil w src e hs he _ _ dst hd
  · refine run_convert_bytes_back w src dst e ad c l hs he hd (fun j hj => ?_)
    obtain ⟨b, off, hA, _, hrow⟩ := h.at hj
    injection hA with hA
    subst hA
    have := hrow j hj 0 _ rfl
    rw [add_lit']
    simpa using this
end
end Go.Proofs.YtjhndilflcigiaaDoor
namespace Go.Proofs.YtjhndilflcigiaaDoor
open Go.RowKit

/-! Lists of numbers. -/
def ic (n : Int) : List Value := [.int .i64 n]
theorem ic_len (n : Int) : (ic n).length = 1 := rfl
abbrev InI := In 1 ic
/-! Bits. -/
theorem and_u32 (a b : Nat) (ha : a < 4294967296) (hb : b < 4294967296) : bits .and .u32 (a : Int) (b : Int) = ((a &&& b : Nat) : Int) := bits_and_u32_nat a b ha hb
theorem andNot_u32 (a b : Nat) (ha : a < 4294967296) (hb : b < 4294967296) : bits .andNot .u32 (a : Int) (b : Int) = ((a &&& (4294967295 - b) : Nat) : Int) := by
  have hx : a &&& (4294967295 - b) < 2 ^ 32 := Nat.and_lt_two_pow _ (by omega)
  have h1 : (BitVec.ofInt 32 (a : Int)).toNat = a := by
    rw [BitVec.ofInt_natCast, BitVec.toNat_ofNat]; exact Nat.mod_eq_of_lt (by omega)
  have h2 : (BitVec.ofInt 32 (b : Int)).toNat = b := by
    rw [BitVec.ofInt_natCast, BitVec.toNat_ofNat]; exact Nat.mod_eq_of_lt (by omega)
  show IntKind.u32.wrap ((BitVec.ofInt 32 (a : Int) &&& ~~~ BitVec.ofInt 32 (b : Int)).toNat : Int) = _
  have e : (2 : Nat) ^ 32 - 1 - b = 4294967295 - b := rfl
  rw [BitVec.toNat_and, BitVec.toNat_not, h1, h2, wrap_u32', e]
  omega
theorem low9 (m : Nat) (h : m < 4294967296) : ((m &&& 4294966784 : Nat) : Int) = 0 ↔ m ≤ 511 := by
  have e : m &&& 4294966784 = (m / 512 % 8388608) * 512 := by
    apply Nat.eq_of_testBit_eq
    intro i
    have e2 : (4294966784 : Nat) = (2 ^ 23 - 1) * 2 ^ 9 := by decide
    have e3 : m / 512 % 8388608 * 512 = (m / 2 ^ 9 % 2 ^ 23) * 2 ^ 9 := rfl
    rw [e3, Nat.testBit_and, e2, Nat.testBit_mul_two_pow, Nat.testBit_mul_two_pow]
    by_cases hi : 9 ≤ i
    · rw [Nat.testBit_two_pow_sub_one, Nat.testBit_mod_two_pow, Nat.testBit_div_two_pow]
      simp [hi, Nat.sub_add_cancel hi]
      exact Bool.and_comm _ _
    · simp [hi]
  rw [e]
  omega
theorem bit8 (m : Nat) : ((m &&& 256 : Nat) : Int) = 0 ↔ m.testBit 8 = false := by
  have e : m &&& 256 = if m.testBit 8 then 256 else 0 := by
    apply Nat.eq_of_testBit_eq
    intro i
    have e2 : (256 : Nat) = 2 ^ 8 := by decide
    rw [Nat.testBit_and]
    by_cases hi : i = 8
    · subst hi
      cases h : m.testBit 8 <;> simp [e2]
    · have e3 : Nat.testBit 256 i = false := by rw [e2, Nat.testBit_two_pow]; simpa using Ne.symm hi
      cases h : m.testBit 8 <;> simp [e3]
  rw [e]
  cases m.testBit 8 <;> simp
theorem has_div (m n : Nat) : m.testBit n = decide (m / 2 ^ n % 2 = 1) := Nat.testBit_eq_decide_div_mod_eq

/-! The program's. -/
theorem c_mask_Labels (m : Nat) (hm : m < 4294967296) (w : World) : Calls Tryd.prog 95 #[.int .u32 m] w (RetV w (.bool (m.testBit 8))) := by
  have ho : bits .and .u32 (m : Int) 256 = ((m &&& 256 : Nat) : Int) := and_u32 m 256 hm (by omega)
  have H := Lib.hid (bit8 m)
  go_enter Tryd.func95, Tryd.ntmps95
  go_wp2
  go_ret
  refine RetV.bool ?_ (by repeat (first | exact Below.refl _ _ | refine Below.drew ?_ | refine Below.alloc ?_ (by first | omega | (simp; done) | (simp; omega)) _ | refine Below.setCell ?_ (by first | omega | (simp; done) | (simp; omega)) _ | refine Below.trans ?_ (Below.mono (by assumption) (by first | omega | (simp; done) | (simp; omega)))))
  have := H.out
  cases h : m.testBit 8 <;> simp_all
theorem c_bits_Within (m : Nat) (hm : m < 4294967296) (w : World) : Calls Tryd.prog 149 #[.int .u32 m, .int .u32 511] w (RetV w (.bool (decide (m ≤ 511)))) := by
  have ho : bits .andNot .u32 (m : Int) 511 = ((m &&& 4294966784 : Nat) : Int) := andNot_u32 m 511 hm (by omega)
  have H := Lib.hid (low9 m hm)
  go_enter Tryd.func149, Tryd.ntmps149
  go_wp2
  go_ret
  refine RetV.bool ?_ (by repeat (first | exact Below.refl _ _ | refine Below.drew ?_ | refine Below.alloc ?_ (by first | omega | (simp; done) | (simp; omega)) _ | refine Below.setCell ?_ (by first | omega | (simp; done) | (simp; omega)) _ | refine Below.trans ?_ (Below.mono (by assumption) (by first | omega | (simp; done) | (simp; omega)))))
  have := H.out
  by_cases h : m ≤ 511
  · simp_all
  · have h' : ¬ ((m &&& 4294966784 : Nat) : Int) = 0 := fun e => h (this.1 e)
    rw [decide_eq_false h]
    simpa using h'
theorem c_mask_Check (m : Nat) (hm : m < 4294967296) (w : World) : Calls Tryd.prog 93 #[.int .u32 m] w (RetV w (.bool (decide (m ≤ 511)))) := by
  go_enter Tryd.func93, Tryd.ntmps93
  go_wp2_with (go_at_call 149; refine (c_bits_Within m hm _).mono ?_; rintro e w1 ⟨rfl, hb3⟩)
  go_ret
  exact RetV.of rfl hb3

/-! The reference's. -/
set_option maxHeartbeats 400000 in
theorem c_ref03_Has (m n : Nat) (hm : m < 4294967296) (hn : n ≤ 31) (w : World) : Calls Tryd.prog 104 #[.int .u32 m, .int .i64 n] w (RetV w (.bool (m.testBit n))) := by
  have h0 : (decide ((n : Int) < 0)) = false := by simp
  have h31 : (decide ((31 : Int) < n)) = false := by simp; omega
  have hd0 : m / 2 ^ 0 = m := by simp
  go_enter Tryd.func104, Tryd.ntmps104
  go_wp2
  go_loop [0, 5] (fun s i => ∃ k : Nat, k ≤ n ∧ i = .int .i64 k ∧ s = .int .u32 (m / 2 ^ k : Nat)) (fun _ i => n - (intOf i).toNat)
  case atStart => exact ⟨0, Nat.zero_le _, rfl, by rw [hd0]⟩
  case round =>
    obtain ⟨k, hk, rfl, rfl⟩ := hrel
    clear hd0
    have hle : m / 2 ^ k ≤ m := Nat.div_le_self _ _
    have hle' : ((m / 2 ^ k : Nat) : Int) ≤ 4294967295 := by omega
    by_cases hlt : k < n
    · have H := Lib.hid (show m / 2 ^ (k + 1) = m / 2 ^ k / 2 by rw [Nat.pow_succ, Nat.div_div_eq_div_mul])
      obtain ⟨q, hq⟩ : ∃ q, q = m / 2 ^ k := ⟨_, rfl⟩
      rw [← hq] at hle hle'
      have Q := Lib.hid hq
      rw [← hq]
      clear hq
      go_wp2
      go_round
      case rel => exact ⟨k + 1, by omega, by go_num, by rw [H.out, ← Q.out]; first | rfl | (congr 1; omega)⟩
      case measure => simp [intOf]; omega
    · have : k = n := by omega
      subst this
      have H := Lib.hid (has_div m k)
      obtain ⟨q, hq⟩ : ∃ q, q = m / 2 ^ k := ⟨_, rfl⟩
      rw [← hq] at hle hle'
      have Q := Lib.hid hq
      rw [← hq]
      clear hq
      go_wp2
      go_ret
      refine RetV.bool ?_ (by repeat (first | exact Below.refl _ _ | refine Below.drew ?_ | refine Below.alloc ?_ (by first | omega | (simp; done) | (simp; omega)) _ | refine Below.setCell ?_ (by first | omega | (simp; done) | (simp; omega)) _ | refine Below.trans ?_ (Below.mono (by assumption) (by first | omega | (simp; done) | (simp; omega)))))
      rw [H.out, ← Q.out]
      rw [Bool.eq_iff_iff]; simp; try omega
theorem c_ref05_Check (m : Nat) (w : World) : Calls Tryd.prog 88 #[.int .u32 m] w (RetV w (.bool (decide (m ≤ 511)))) := by
  go_enter Tryd.func88, Tryd.ntmps88
  go_wp2
  go_ret
  refine RetV.bool ?_ (by repeat (first | exact Below.refl _ _ | refine Below.drew ?_ | refine Below.alloc ?_ (by first | omega | (simp; done) | (simp; omega)) _ | refine Below.setCell ?_ (by first | omega | (simp; done) | (simp; omega)) _ | refine Below.trans ?_ (Below.mono (by assumption) (by first | omega | (simp; done) | (simp; omega)))))
  rw [Bool.eq_iff_iff]; simp; omega
theorem c_ref05_Labels (m : Nat) (hm : m < 4294967296) (w : World) : Calls Tryd.prog 103 #[.int .u32 m] w (RetV w (.bool (m.testBit 8))) := by
  go_enter Tryd.func103, Tryd.ntmps103
  go_wp2_with (go_at_call 104; refine (c_ref03_Has m 8 hm (by omega) _).mono ?_; rintro e w1 ⟨rfl, hb1⟩)
  go_ret
  exact RetV.of rfl hb1
end Go.Proofs.YtjhndilflcigiaaDoor
