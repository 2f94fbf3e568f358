/-
  Lemmas (walks and plain laws), in one text.
-/
import Derived.Test.YtjhndilflcigiaaPc1
import Derived.Test.YtjhndilflcigiaaRows
import Derived.WalkKit
import Derived.WalkSpells
import Derived.WalkLawsBesides
import Derived.Lib.Hide
import Derived.Deep.QuietTactic
import Derived.BigQuiet
import Derived.Maps.AppendAt
import Derived.WalkSmall
import Derived.ProofKit
import Derived.OpenShut
import Derived.JoinedCond
import Derived.Deep.Slices
import Derived.Deep.Fields
import Derived.Carry
import Derived.Test.YtjhndilflcigiaaProg
import Derived.Deep.CutBlock
import Derived.Deep.DeepCutAuto
import Derived.Deep.AppendSrc
import Derived.Lib.AppendStr
import Derived.Laws.BytesArg
import Derived.Laws.CopyOwn
import Derived.Outline
import Derived.IntWalk
import Derived.Lib.EndianBits
import Derived.Laws.Tables
import Derived.Laws.Rows
import Derived.Shelf.Spec.TrailingZeros
import Derived.StillTail
import Derived.Lib.AppendZeros
import Derived.Deep.Quiet
import Derived.ChangeKeysEq
import Derived.Laws.StructEq
import Derived.Laws.LoneSync
namespace Go.Proofs.Ytjhndilflcigiaa
open Go.ChangeShapes Go.WideShapes Go.ChangeAt Go.RowKit Go.Deep
open Go.ChangeMaps (open_string shut_string)

theorem list_of {α : Type} {Q : Nat → α → Prop} : ∀ n, (∀ i, i < n → ∃ x, Q i x) → ∃ l : List α, l.length = n ∧ ∀ i (h : i < l.length), Q i l[i]
  | 0, _ => ⟨[], rfl, fun i h => by simp at h⟩
  | n + 1, h => by
    obtain ⟨l, hl, hq⟩ := list_of n (fun i hi => h i (by omega))
    obtain ⟨x, hx⟩ := h n (by omega)
    refine ⟨l ++ [x], by simp [hl], fun i hi => ?_⟩
    by_cases hin : i < l.length
    · rw [List.getElem_append_left hin]; exact hq i hin
    · have : i = n := by simp at hi; omega
      subst this
      rw [List.getElem_append_right (by omega)]
      simpa using hx
theorem list3 {α : Type} {l : List α} (h : l.length = 3) : ∃ a b c, l = [a, b, c] := by
  match l, h with
  | [a, b, c], _ => exact ⟨a, b, c, rfl⟩
theorem list5 {α : Type} {l : List α} (h : l.length = 5) : ∃ a b c d e, l = [a, b, c, d, e] := by
  match l, h with
  | [a, b, c, d, e], _ => exact ⟨a, b, c, d, e, rfl⟩
theorem cell_spot {w : World} {a : Addr} {v : Value} (h : w.cell? a = some v) : a.spot = none := by
  unfold World.cell? at h
  split at h
  · split at h
    · cases h
    · rename_i hs; simpa using hs
  · cases h
theorem i64_range {n : Int} (h : (Lit.int .i64 n).wf = true) : -9223372036854775808 ≤ n ∧ n ≤ 9223372036854775807 := by
  simpa [Lit.wf, IntKind.min, IntKind.max, IntKind.signed, IntKind.bits] using h
def I64 (n : Int) : Prop := -9223372036854775808 ≤ n ∧ n ≤ 9223372036854775807
theorem c_int : Try.prog.cellsOf 3 = 1 := by kernel_rfl
theorem c_string : Try.prog.cellsOf 9 = 1 := by kernel_rfl
end Go.Proofs.Ytjhndilflcigiaa
namespace Go.Proofs.Ytjhndilflcigiaa
open Go.ChangeShapes Go.WideShapes Go.ChangeAt Go.RowKit Go.Deep
open Go.ChangeMaps (open_string shut_string)

def Val.wf (x : Val) : Prop := I64 x.kind ∧ I64 x.n ∧ x.s.length ≤ 9223372036854775807
section
variable {H : Type} {enc : TypeId × Value → H} {w : World} {base : Nat} {spare : Nat → Bool} {held : Bool}
theorem c_value : Try.prog.cellsOf 100 = 3 := by kernel_rfl
theorem open_val {fuel : Nat} {cs : List Value} {x : DataW H × List MemPlace} (h : DataW.trod enc Try.prog w base spare held fuel 100 cs = some x) :
    ∃ v : Val, cs = v.cells ∧ x = (.agg [.lit (.int .i64 v.kind), .lit (.int .i64 v.n), .lit (.string v.s)], []) ∧ v.wf := by
  obtain ⟨xs, n, _, hx, hl, hxl, hf⟩ := DataW.trod_struct Try.underlying100 h
  rw [c_value] at hl
  · obtain ⟨c0, c1, c2, rfl⟩ := list3 hl
    · obtain ⟨x0, x1, x2, rfl⟩ := list3 (show xs.length = 3 from hxl)
      have h0 := hf 0
      have h1 := hf 1
      have h2 := hf 2
      simp [c_int, c_string] at h0 h1 h2
      obtain ⟨a, ha, hxa, wa⟩ := DataW.trod_int Try.underlying3 h0
      obtain ⟨b, hb, hxb, wb⟩ := DataW.trod_int Try.underlying3 h1
      obtain ⟨s, hs, hxs, ws⟩ := DataW.trod_string Try.underlying9 h2
      simp at ha hb hs
      subst ha hb hs hxa hxb hxs
      refine ⟨⟨a, b, s.data.toList⟩, ?_, by rw [hx]; rfl, i64_range wa, i64_range wb, ?_⟩
      · unfold Val.cells; rw [← str_of]
      · unfold maxLen at ws
        have : s.data.toList.length = s.size := by rw [Array.length_toList]; rfl
        show _ ≤ _
        rw [this]; omega
end
end Go.Proofs.Ytjhndilflcigiaa
namespace Go.Proofs.Ytjhndilflcigiaa
open Go.ChangeShapes Go.WideShapes Go.ChangeAt Go.RowKit Go.Deep
open Go.ChangeMaps (open_string shut_string)

def Node.wf (x : Node) : Prop := I64 x.op ∧ I64 x.n ∧ x.v.wf
section
variable {H : Type} {enc : TypeId × Value → H} {w : World} {base : Nat} {spare : Nat → Bool} {held : Bool}
theorem c_node : Try.prog.cellsOf 102 = 5 := by kernel_rfl
theorem open_node {fuel : Nat} {cs : List Value} {x : DataW H × List MemPlace} (h : DataW.trod enc Try.prog w base spare held fuel 102 cs = some x) :
    ∃ v : Node, cs = v.cells ∧ x = (.agg [.lit (.int .i64 v.op), .lit (.int .i64 v.n), .agg [.lit (.int .i64 v.v.kind), .lit (.int .i64 v.v.n), .lit (.string v.v.s)]], []) ∧ v.wf := by
  obtain ⟨xs, n, _, hx, hl, hxl, hf⟩ := DataW.trod_struct Try.underlying102 h
  rw [c_node] at hl
  · obtain ⟨c0, c1, c2, c3, c4, rfl⟩ := list5 hl
    · obtain ⟨x0, x1, x2, rfl⟩ := list3 (show xs.length = 3 from hxl)
      have h0 := hf 0
      have h1 := hf 1
      have h2 := hf 2
      simp [c_int, c_value] at h0 h1 h2
      obtain ⟨a, ha, hxa, wa⟩ := DataW.trod_int Try.underlying3 h0
      obtain ⟨b, hb, hxb, wb⟩ := DataW.trod_int Try.underlying3 h1
      obtain ⟨v, hv, hxv, wv⟩ := open_val h2
      simp [Val.cells] at ha hb hv
      obtain ⟨e2, e3, e4⟩ := hv
      subst ha hb hxa hxb hxv e2 e3 e4
      exact ⟨⟨a, b, v⟩, rfl, by rw [hx]; rfl, i64_range wa, i64_range wb, wv⟩
/-- A slice of nodes that came in. -/
theorem open_nodes {fuel : Nat} {cs : List Value} {x : DataW H × List MemPlace} (h : DataW.trod enc Try.prog w 0 spare held fuel 44 cs = some x) :
    ∃ (A : Option Addr) (c : Nat) (l : List Node), cs = [.slice A l.length c] ∧ l.length ≤ c ∧ c ≤ 9223372036854775807 ∧ (l = [] ∨ ∃ b off, A = some ⟨b, off, none⟩ ∧ b < w.heap.size ∧ Row 5 Node.cells w b off l) ∧
      (∀ v ∈ l, v.wf) ∧ (x.1 = .nil ∧ l = [] ∨ ∃ spares, x.1 = .slice (l.map fun v => .agg [.lit (.int .i64 v.op), .lit (.int .i64 v.n), .agg [.lit (.int .i64 v.v.kind), .lit (.int .i64 v.v.n), .lit (.string v.v.s)]]) spares) := by
  rcases open_slice Try.underlying44 h with ⟨rfl, rfl⟩ | ⟨a, len, cap, m, n, D, Pl, rfl, hb, hl, hm, hmm, hx, hi⟩
  · exact ⟨none, 0, [], rfl, by simp, by omega, .inl rfl, by simp, .inl ⟨rfl, rfl⟩⟩
  · have hlm : len ≤ m := by rw [hmm]; split <;> omega
    have hq : ∀ i, i < len → ∃ v : Node, (∀ j u, v.cells[j]? = some u → w.cell? (a.add (i * 5 + j)) = some u) ∧ D i = .agg [.lit (.int .i64 v.op), .lit (.int .i64 v.n), .agg [.lit (.int .i64 v.v.kind), .lit (.int .i64 v.v.n), .lit (.string v.v.s)]] ∧ v.wf := by
      intro i hil
      obtain ⟨cs', hc, ht⟩ := hi i (by omega)
      rw [c_node] at hc
      obtain ⟨v, rfl, hv, wv⟩ := open_node ht
      obtain ⟨_, hcl, hat⟩ := World.cells?_some hc
      simp only [Prod.mk.injEq] at hv
      refine ⟨v, fun j u hu => ?_, hv.1, wv⟩
      have hj : j < 5 := by rw [← Node.cells_len v]; exact (List.getElem?_eq_some_iff.1 hu).1
      have h1 := hat j hj
      rw [Go.Deep.add_add] at h1
      rw [h1]; exact hu
    obtain ⟨l, hll, hq⟩ := list_of len hq
    refine ⟨some a, cap, l, by rw [hll], by omega, by unfold maxLen at hm; omega, ?_, ?_, .inr ⟨(List.range (m - len)).map fun j => D (len + j), ?_⟩⟩
    · rcases Nat.eq_zero_or_pos len with h0 | h0
      · exact .inl (List.eq_nil_of_length_eq_zero (by omega))
      · right
        have h1 := (hq 0 (by omega)).1 0 _ rfl
        have hsp := cell_spot h1
        have hlt := World.block_lt_of_cell? w _ h1
        obtain ⟨ab, ao, asp⟩ := a
        simp [Addr.add] at hsp hlt
        subst hsp
        refine ⟨ab, ao, rfl, hlt, fun i hi j u hu => ?_⟩
        have := (hq i hi).1 j u hu
        rw [add_lit'] at this
        rw [Nat.add_assoc]; exact this
    · intro v hv
      obtain ⟨i, hi, rfl⟩ := List.getElem_of_mem hv
      exact (hq i hi).2.2
    · rw [hx]
      have e : (List.range len).map D = l.map fun v => .agg [.lit (.int .i64 v.op), .lit (.int .i64 v.n), .agg [.lit (.int .i64 v.v.kind), .lit (.int .i64 v.v.n), .lit (.string v.v.s)]] := by
        apply List.ext_getElem
        · simp [hll]
        · intro i h1 h2
          simp only [List.getElem_map, List.getElem_range]
          exact (hq i (by simpa using h2)).2.1
      show DataW.slice _ _ = _
      rw [e]
end
end Go.Proofs.Ytjhndilflcigiaa
namespace Go.Proofs.Ytjhndilflcigiaa
open Go.RowKit

def bc (b : UInt8) : List Value := [.int .u8 b.toNat]
/-- A slice of bytes. -/
abbrev InB := In 1 bc

theorem RetV.str {w w' : World} {a b : List UInt8} (h : a = b) (hb : Below w.heap.size w w') : RetV w (.string (str b)) (.returned (.string (str a))) w' := ⟨by rw [h], hb⟩

theorem RetS.of {α : Type} {k : Nat} {cs : α → List Value} {et : TypeId} {w w' : World} {l l' : List α} {v : Value} {b : Nat} (h : w'.ownsRow b et k v l'.length (l'.flatMap cs)) (hb : w.heap.size ≤ b) (e : l' = l) (hB : Below w.heap.size w w') :
    RetS k cs et w l (.returned v) w' := ⟨v, rfl, by subst e; exact own_base h hb, hB⟩

/-! Numbers and texts as bytes. -/
def numF : Nat → Nat → List UInt8
  | 0, v => [UInt8.ofNat v]
  | f + 1, v => if v < 128 then [UInt8.ofNat v] else UInt8.ofNat (v % 128 + 128) :: numF f (v / 128)
def clampN (n : Int) : Nat := (min (max n 0) 1099511627776).toNat
@[irreducible] def num (n : Int) : List UInt8 := numF 6 (clampN n)
def strB (s : List UInt8) : List UInt8 := num s.length ++ s
section
variable {P : Program} (w : World)
theorem Src.go {A : Option Addr} {m size c : Nat} {news : List Value} {tx e' : TypeId} (hk : P.underlying tx = some (.slice e')) (h : Src w A m size news) (h1 : ∀ u ∈ news, u.oneCell' = true) : Go.Src P size tx (.slice A m c) m news w := by
  rcases A with _ | ad
  · have hm : m = 0 := by
      rcases Nat.eq_zero_or_pos m with h0 | h0
      · exact h0
      · obtain ⟨ad, hh, _⟩ := h.2 h0; cases hh
    subst hm
    have hnil : news = [] := List.eq_nil_of_length_eq_zero (by simpa using h.1)
    subst hnil
    exact Go.Src.ofNil w hk c
  · refine Go.Src.ofSlice w hk ad m c news h.1 (fun j u hu => ?_) h1
    rcases Nat.eq_zero_or_pos m with h0 | h0
    · subst h0
      have hnil : news = [] := List.eq_nil_of_length_eq_zero (by simpa using h.1)
      subst hnil; simp at hu
    · obtain ⟨ad', hh, hc⟩ := h.2 h0
      injection hh with hh; subst hh; exact hc j u hu
theorem Src.first {A : Option Addr} {m size c : Nat} {news : List Value} (h : Src w A m size news) : (Builtin.firstCells size m (.slice A m c)).run P w.drew = .ok news.toArray w.drew := by
  rcases A with _ | ad
  · have hm : m = 0 := by
      rcases Nat.eq_zero_or_pos m with h0 | h0
      · exact h0
      · obtain ⟨ad, hh, _⟩ := h.2 h0; cases hh
    subst hm
    have hnil : news = [] := List.eq_nil_of_length_eq_zero (by simpa using h.1)
    subst hnil
    exact run_firstCells_none w.drew size 0 0 c
  · refine run_firstCells_some w.drew size m ad m c news h.1 (fun j u hu => ?_)
    rcases Nat.eq_zero_or_pos m with h0 | h0
    · subst h0
      have hnil : news = [] := List.eq_nil_of_length_eq_zero (by simpa using h.1)
      subst hnil; simp at hu
    · obtain ⟨ad', hh, hc⟩ := h.2 h0
      injection hh with hh; subst hh; exact hc j u hu
/-- A slice that is full, or a call's own. -/
def Held (w : World) (base : Nat) (e : TypeId) (size : Nat) (v : Value) (n : Nat) (xs : List Value) : Prop :=
  w.ownsRow base e size v n xs ∨ ∃ A, v = .slice A n n ∧ Src w A n size xs
end
section
variable {w w' : World} {base : Nat} {e : TypeId} {size n : Nat} {v : Value} {xs : List Value}
theorem Src.below {A : Option Addr} (h : Src w A n size xs) (hb : Below w.heap.size w w') : Src w' A n size xs := by
  refine ⟨h.1, fun hm => ?_⟩
  obtain ⟨ad, rfl, hc⟩ := h.2 hm
  refine ⟨ad, rfl, fun j u hu => ?_⟩
  have h1 := hc j u hu
  rw [hb.cell (World.block_lt_of_cell? _ _ h1)]
  exact h1
theorem Held.below (h : Held w base e size v n xs) (hb : Below w.heap.size w w') : Held w' base e size v n xs := by
  rcases h with h | ⟨A, rfl, h⟩
  · exact .inl (own_below h hb)
  · exact .inr ⟨A, rfl, h.below hb⟩
/-- A slice that came in, its capacity cut to its length. -/
theorem Held.of_in {α : Type} {k : Nat} {cs : α → List Value} {A : Option Addr} {c : Nat} {l : List α} (hk : ∀ x, (cs x).length = k) (hk0 : 0 < k) (h : In k cs w A c l) :
    Held w base e k (.slice A l.length l.length) l.length (l.flatMap cs) := .inr ⟨A, rfl, Src.of_in hk hk0 h⟩
end
/-! Bytes as texts. -/
section
variable {P : Program} (w : World)
end
end Go.Proofs.Ytjhndilflcigiaa
namespace Go.Proofs.Ytjhndilflcigiaa
open Go.RowKit

set_option maxHeartbeats 400000 in
theorem c_value_Check (x : Val) (w : World) (hs : x.s.length ≤ 9223372036854775807) : Calls Try.prog 111 #[x.val] w (RetV w (.bool x.ok)) := by
  unfold Val.val
  go_enter Try.func111, Try.ntmps111
  go_wp2
  all_goals (go_ret; refine RetV.bool ?_ (by repeat (first | exact Below.refl _ _ | refine Below.drew ?_ | refine Below.alloc ?_ (by first | omega | (simp; done) | (simp; omega)) _ | refine Below.setCell ?_ (by first | omega | (simp; done) | (simp; omega)) _ | refine Below.trans ?_ (Below.mono (by assumption) (by first | omega | (simp; done) | (simp; omega))))); simp_all [Val.ok]; try omega)
set_option maxHeartbeats 400000 in
theorem c_ref04_Check (x : Val) (w : World) (hs : x.s.length ≤ 9223372036854775807) : Calls Try.prog 117 #[x.val] w (RetV w (.bool x.ok)) := by
  unfold Val.val
  go_enter Try.func117, Try.ntmps117
  go_wp2
  all_goals (go_ret; refine RetV.bool ?_ (by repeat (first | exact Below.refl _ _ | refine Below.drew ?_ | refine Below.alloc ?_ (by first | omega | (simp; done) | (simp; omega)) _ | refine Below.setCell ?_ (by first | omega | (simp; done) | (simp; omega)) _ | refine Below.trans ?_ (Below.mono (by assumption) (by first | omega | (simp; done) | (simp; omega))))); simp_all [Val.ok]; try omega)
theorem Val.ok_kind {x : Val} (h : x.ok = true) : x.kind = 0 ∨ x.kind = 1 ∨ x.kind = 2 := by
  unfold Val.ok at h
  by_cases h0 : x.kind = 0
  · exact .inl h0
  · by_cases h1 : x.kind = 1
    · exact .inr (.inl h1)
    · by_cases h2 : x.kind = 2
      · exact .inr (.inr h2)
      · simp [h0, h1, h2] at h
theorem Val.ok_cases (x : Val) : (x.ok = false ∧ x.none = false) ∨ (x.ok = true ∧ x.none = true ∧ x.kind = 0) ∨ (x.ok = true ∧ x.none = false ∧ x.kind = 1) ∨ (x.ok = true ∧ x.none = false ∧ x.kind = 2) := by
  cases h : x.ok
  · simp only [true_and, Bool.false_eq_true, false_and, or_false]
    cases hn : x.none
    · rfl
    · unfold Val.none at hn; unfold Val.ok at h; simp_all
  · rcases Val.ok_kind h with hk | hk | hk <;> simp [Val.none_kind h, hk]
theorem Val.none_ok {x : Val} (h : x.none = true) : x.ok = true := by
  rcases Val.ok_cases x with ⟨h1, h2⟩ | ⟨h1, _⟩ | ⟨h1, _⟩ | ⟨h1, _⟩
  · rw [h] at h2; cases h2
  all_goals exact h1
end Go.Proofs.Ytjhndilflcigiaa
namespace Go.Proofs.Ytjhndilflcigiaa
open Go.RowKit

/-- A value's bytes. -/
def valB (x : Val) : List UInt8 := if x.ok then num x.kind ++ (if x.kind = 1 then num x.n else if x.kind = 2 then strB x.s else []) else []
end Go.Proofs.Ytjhndilflcigiaa
namespace Go.Proofs.Ytjhndilflcigiaa
open Go.RowKit

set_option maxHeartbeats 400000 in
theorem c_pred_Parts (op : Int) (w : World) : Calls Try.prog 129 #[.int .i64 op] w (RetV w (.int .i64 (parts op))) := by
  go_enter Try.func129, Try.ntmps129
  go_wp2
  all_goals (go_ret; refine RetV.int ?_ (by repeat (first | exact Below.refl _ _ | refine Below.drew ?_ | refine Below.alloc ?_ (by first | omega | (simp; done) | (simp; omega)) _ | refine Below.setCell ?_ (by first | omega | (simp; done) | (simp; omega)) _ | refine Below.trans ?_ (Below.mono (by assumption) (by first | omega | (simp; done) | (simp; omega))))); simp_all [parts])
set_option maxHeartbeats 400000 in
theorem c_ref10_Parts (op : Int) (w : World) : Calls Try.prog 131 #[.int .i64 op] w (RetV w (.int .i64 (parts op))) := by
  go_enter Try.func131, Try.ntmps131
  go_wp2
  all_goals (go_ret; refine RetV.int ?_ (by repeat (first | exact Below.refl _ _ | refine Below.drew ?_ | refine Below.alloc ?_ (by first | omega | (simp; done) | (simp; omega)) _ | refine Below.setCell ?_ (by first | omega | (simp; done) | (simp; omega)) _ | refine Below.trans ?_ (Below.mono (by assumption) (by first | omega | (simp; done) | (simp; omega))))); simp_all [parts])
/-- What the switch of pred.Node comes to. -/
def nodeClass (op below kinds : Int) : Prop :=
  ((op = 1 ∨ op = 2 ∨ op = 10 ∨ op = 11 ∨ op = 12) ∧ below = 1 ∧ kinds = 1) ∨ ((op = 3 ∨ op = 4) ∧ below = 16 ∧ kinds = 1) ∨ (op = 5 ∧ below = 8 ∧ kinds = 1) ∨
  ((op = 6 ∨ op = 7 ∨ op = 8) ∧ below = 8 ∧ kinds = 6) ∨ (op = 9 ∧ below = 8 ∧ kinds = 4)
def kindIn (kinds kind : Int) : Bool := if kinds = 1 then decide (kind = 0) else if kinds = 6 then decide (kind = 1) || decide (kind = 2) else decide (kind = 2)
theorem node_ok_of {x : Node} {b k : Int} (h : nodeClass x.op b k) : x.ok = (decide (0 ≤ x.n) && decide (x.n < b) && x.v.ok && kindIn k x.v.kind) := by
  have hn : ∀ y : Val, (y.ok && decide (y.kind = 0)) = y.none := fun y => by
    rcases Val.ok_cases y with ⟨h1, h2⟩ | ⟨h1, h2, h3⟩ | ⟨h1, h2, h3⟩ | ⟨h1, h2, h3⟩ <;> simp [*]
  have hm : ∀ y : Val, (y.ok && (decide (y.kind = 1) || decide (y.kind = 2))) = (y.ok && !y.none) := fun y => by
    rcases Val.ok_cases y with ⟨h1, h2⟩ | ⟨h1, h2, h3⟩ | ⟨h1, h2, h3⟩ | ⟨h1, h2, h3⟩ <;> simp [*]
  unfold Node.ok
  rcases h with ⟨h, rfl, rfl⟩ | ⟨h, rfl, rfl⟩ | ⟨h, rfl, rfl⟩ | ⟨h, rfl, rfl⟩ | ⟨h, rfl, rfl⟩
  · rw [if_pos h]
    simp only [kindIn, if_true, Bool.and_assoc, hn]
    by_cases h0 : x.n = 0
    · simp [h0]
    · by_cases h1 : 0 ≤ x.n
      · simp [h0, h1, show ¬ x.n < 1 by omega]
      · simp [h0, h1]
  · rw [if_neg (by omega), if_pos h]
    simp only [kindIn, if_true, Bool.and_assoc, hn]
  · rw [if_neg (by omega), if_neg (by omega), if_pos h]
    simp only [kindIn, if_true, Bool.and_assoc, hn]
  · rw [if_neg (by omega), if_neg (by omega), if_neg (by omega), if_pos h]
    simp only [kindIn, if_true, Bool.and_assoc, hm, show ¬ (6 : Int) = 1 by omega, if_false]
  · rw [if_neg (by omega), if_neg (by omega), if_neg (by omega), if_neg (by omega), if_pos h]
    simp only [kindIn, Bool.and_assoc, show ¬ (4 : Int) = 1 by omega, show ¬ (4 : Int) = 6 by omega, if_false]
set_option maxRecDepth 100000 in
set_option maxHeartbeats 1000000 in
theorem c_pred_Node (x : Node) (w : World) (hs : x.v.s.length ≤ 9223372036854775807) : Calls Try.prog 99 #[x.val] w (RetV w (.bool x.ok)) := by
  unfold Node.val
  go_enter Try.func99, Try.ntmps99
  go_upto_block 0 with (fail)
  go_cut [3, 4] from 5 to 24 (fun b k w1 => ∃ bl kn : Int, b = .int .i64 bl ∧ k = .int .i64 kn ∧ 1 ≤ bl ∧ bl ≤ 16 ∧ (kn = 1 ∨ kn = 6 ∨ kn = 4) ∧ Hid (nodeClass x.op bl kn) ∧
    w1 = w.alloc (.cells #[.int .i64 x.op, .int .i64 x.n, .int .i64 x.v.kind, .int .i64 x.v.n, .string (str x.v.s)] 102))
  case first =>
    go_wp2_with (fail)
    all_goals first
      | (go_meet
         case rel =>
           refine ⟨_, _, rfl, rfl, by omega, by omega, by omega, ?_, rfl⟩
           show nodeClass _ _ _
           unfold nodeClass
           simp_all)
      | (go_ret; refine RetV.bool ?_ (by repeat (first | exact Below.refl _ _ | refine Below.drew ?_ | refine Below.alloc ?_ (by first | omega | (simp; done) | (simp; omega)) _ | refine Below.setCell ?_ (by first | omega | (simp; done) | (simp; omega)) _ | refine Below.trans ?_ (Below.mono (by assumption) (by first | omega | (simp; done) | (simp; omega))))); simp_all [Node.ok])
  case rest =>
    obtain ⟨bl, kn, rfl, rfl, hbl, hbl2, hkn, hcls, rfl⟩ := hcut
    go_wp2_with (go_at_call 111; refine (c_value_Check x.v _ hs).mono ?_; rintro e w1 ⟨rfl, hb1⟩; have q1 := fun o => hb1.cell (p := ⟨w.heap.size, o, none⟩) (by simp); rcases Val.ok_cases x.v with ⟨hok, hno⟩ | ⟨hok, hno, hk⟩ | ⟨hok, hno, hk⟩ | ⟨hok, hno, hk⟩ <;> rcases hkn with h1 | h1 | h1)
    all_goals (go_ret; refine RetV.bool ?_ (by repeat (first | exact Below.refl _ _ | refine Below.drew ?_ | refine Below.alloc ?_ (by first | omega | (simp; done) | (simp; omega)) _ | refine Below.setCell ?_ (by first | omega | (simp; done) | (simp; omega)) _ | refine Below.trans ?_ (Below.mono (by assumption) (by first | omega | (simp; done) | (simp; omega))))); rw [node_ok_of hcls.out]; (try clear hb1 q1); (simp_all [kindIn] <;> first | omega | (intros; omega) | decide | grind))
set_option maxRecDepth 100000 in
set_option maxHeartbeats 1000000 in
theorem c_ref10_Node (x : Node) (w : World) (hs : x.v.s.length ≤ 9223372036854775807) : Calls Try.prog 102 #[x.val] w (RetV w (.bool x.ok)) := by
  unfold Node.val
  go_enter Try.func102, Try.ntmps102
  go_upto_region 1 with (fail)
  go_cut [0, 3] from 5 to 84 (fun _ a w1 => a = .bool x.v.none ∧ w1 = w.alloc (.cells #[.int .i64 x.op, .int .i64 x.n, .int .i64 x.v.kind, .int .i64 x.v.n, .string (str x.v.s)] 102))
  case first =>
    go_wp2_with (fail)
    all_goals (go_meet; case rel => refine ⟨?_, ?_⟩ <;> simp_all [Val.none])
  case rest =>
    obtain ⟨rfl, rfl⟩ := hcut
    go_upto_region 2 with (fail)
    go_cut [4] from 5 to 84 (fun a w1 => a = .bool (decide (0 ≤ x.n) && decide (x.n < 8) && x.v.ok) ∧ Below w.heap.size w w1 ∧ w.heap.size < w1.heap.size ∧ w1.cell? ⟨w.heap.size, 0, none⟩ = some (.int .i64 x.op) ∧ w1.cell? ⟨w.heap.size, 1, none⟩ = some (.int .i64 x.n) ∧
      w1.cell? ⟨w.heap.size, 2, none⟩ = some (.int .i64 x.v.kind) ∧ w1.cell? ⟨w.heap.size, 3, none⟩ = some (.int .i64 x.v.n) ∧ w1.cell? ⟨w.heap.size, 4, none⟩ = some (.string (str x.v.s)))
    case first =>
      go_wp2_with (go_at_call 117; refine (c_ref04_Check x.v _ hs).mono ?_; rintro e w1 ⟨rfl, hb1⟩; have q1 := fun o => hb1.cell (p := ⟨w.heap.size, o, none⟩) (by simp))
      all_goals (go_meet; case rel => refine ⟨?_, (by repeat (first | exact Below.refl _ _ | refine Below.drew ?_ | refine Below.alloc ?_ (by first | omega | (simp; done) | (simp; omega)) _ | refine Below.setCell ?_ (by first | omega | (simp; done) | (simp; omega)) _ | refine Below.trans ?_ (Below.mono (by assumption) (by first | omega | (simp; done) | (simp; omega))))), ?_⟩ <;> (first | (have hz1 := hb1.size; simp at hz1) | skip) <;> (simp_all [] <;> first | omega | (intros; omega) | decide | grind))
    case rest =>
      obtain ⟨rfl, hb, hz, c0, c1, c2, c3, c4⟩ := hcut
      obtain ⟨fb, hfb⟩ : ∃ fb, (decide (0 ≤ x.n) && decide (x.n < 8) && x.v.ok) = fb := ⟨_, rfl⟩
      rw [hfb]
      have Hfb := Lib.hid hfb
      clear hfb
      cases hno : x.v.none <;> cases fb
      all_goals go_wp2_with (fail)
      all_goals (go_ret; refine RetV.bool ?_ (by repeat (first | exact Below.refl _ _ | refine Below.drew ?_ | refine Below.alloc ?_ (by first | omega | (simp; done) | (simp; omega)) _ | refine Below.setCell ?_ (by first | omega | (simp; done) | (simp; omega)) _ | refine Below.trans ?_ (Below.mono (by assumption) (by first | omega | (simp; done) | (simp; omega))))); have hfb := Hfb.out; have hnk := Val.none_ok (x := x.v); (simp_all [Node.ok] <;> first | omega | (intros; omega) | decide | grind))
end Go.Proofs.Ytjhndilflcigiaa
