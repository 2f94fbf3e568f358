/-
  The plain data of the filters (values, nodes), how slices of them lie in memory, and what the filters' functions say of them. No program is looked at here.
-/
import Derived.Test.YtplipddgeanajaaBase
namespace Go.Proofs.Ytplipddgeanajaa
open Go.RowKit

/-! A slice that reads as a list: k cells an element. -/
def Row {α : Type} (k : Nat) (cs : α → List Value) (w : World) (b off : Nat) (l : List α) : Prop :=
  ∀ i (h : i < l.length) (j : Nat) u, (cs l[i])[j]? = some u → w.cell? ⟨b, off + i * k + j, none⟩ = some u
def In {α : Type} (k : Nat) (cs : α → List Value) (w : World) (A : Option Addr) (c : Nat) (l : List α) : Prop :=
  l.length ≤ c ∧ c ≤ 9223372036854775807 ∧ l.length ≤ 4294967296 ∧ (l = [] ∨ ∃ b off, A = some ⟨b, off, none⟩ ∧ b < w.heap.size ∧ Row k cs w b off l)
section
variable {α : Type} {k : Nat} {cs : α → List Value} {w w' : World} {A : Option Addr} {c b off : Nat} {l : List α}
theorem Row.keep (h : Row k cs w b off l) (hk : ∀ o, w'.cell? ⟨b, o, none⟩ = w.cell? ⟨b, o, none⟩) : Row k cs w' b off l :=
  fun i hi j u hu => (hk _).trans (h i hi j u hu)
theorem Row.below (h : Row k cs w b off l) (hb : Below w.heap.size w w') (hlt : b < w.heap.size) : Row k cs w' b off l :=
  h.keep fun o => hb.cell (p := ⟨b, o, none⟩) hlt
theorem Row.belowB {B : Nat} (h : Row k cs w b off l) (hb : Below B w w') (hlt : b < B) : Row k cs w' b off l :=
  h.keep fun o => hb.cell (p := ⟨b, o, none⟩) hlt
theorem Row.drop (h : Row k cs w b off l) (m : Nat) : Row k cs w b (off + m * k) (l.drop m) := fun i hi j u hu => by
  rw [List.getElem_drop] at hu
  have hm : m + i < l.length := by rw [List.length_drop] at hi; omega
  rw [show off + m * k + i * k + j = off + (m + i) * k + j by rw [Nat.add_mul]; omega]
  exact h (m + i) hm j u hu
theorem Row.take (h : Row k cs w b off l) (m : Nat) : Row k cs w b off (l.take m) := fun i hi j u hu => by
  rw [List.getElem_take] at hu
  exact h i (by rw [List.length_take] at hi; omega) j u hu
theorem In.below (h : In k cs w A c l) (hb : Below w.heap.size w w') : In k cs w' A c l :=
  ⟨h.1, h.2.1, h.2.2.1, h.2.2.2.imp id fun ⟨b, off, hA, hlt, hr⟩ => ⟨b, off, hA, Nat.lt_of_lt_of_le hlt hb.size, hr.below hb hlt⟩⟩
theorem In.grow (h : In k cs w A c l) (x : Grow w) : In k cs (grow w x) A c l := h.below (grow_below w x)
theorem In.alloc (h : In k cs w A c l) (o : Obj) : In k cs (w.alloc o) A c l := h.below ((Below.refl _ _).alloc (Nat.le_refl _) _)
theorem In.nil (hc : c ≤ 9223372036854775807) : In k cs w A c ([] : List α) := ⟨by simp, hc, by simp, .inl rfl⟩
theorem In.at (h : In k cs w A c l) {i : Nat} (hi : i < l.length) : ∃ b off, A = some ⟨b, off, none⟩ ∧ b < w.heap.size ∧ Row k cs w b off l :=
  h.2.2.2.resolve_left (fun e => by subst e; simp at hi)
end

structure Val where
  kind : Int
  n : Int
  s : List UInt8
deriving DecidableEq
structure Node where
  op : Int
  n : Int
  v : Val
deriving DecidableEq
def Val.cells (x : Val) : List Value := [.int .i64 x.kind, .int .i64 x.n, .string (str x.s)]
abbrev Val.val (x : Val) : Value := .agg #[.int .i64 x.kind, .int .i64 x.n, .string (str x.s)]
def Node.cells (x : Node) : List Value := [.int .i64 x.op, .int .i64 x.n, .int .i64 x.v.kind, .int .i64 x.v.n, .string (str x.v.s)]
abbrev Node.val (x : Node) : Value := .agg #[.int .i64 x.op, .int .i64 x.n, .int .i64 x.v.kind, .int .i64 x.v.n, .string (str x.v.s)]
/-- A slice of nodes. -/
abbrev InN := In 5 Node.cells
theorem Row.node {w : World} {b off : Nat} {l : List Node} (h : Row 5 Node.cells w b off l) {i : Nat} (hi : i < l.length) {o : Nat} (ho : o = off + i * 5) :
    w.cell? ⟨b, o, none⟩ = some (.int .i64 l[i].op) ∧ w.cell? ⟨b, o + 1, none⟩ = some (.int .i64 l[i].n) ∧ w.cell? ⟨b, o + 2, none⟩ = some (.int .i64 l[i].v.kind) ∧
    w.cell? ⟨b, o + 3, none⟩ = some (.int .i64 l[i].v.n) ∧ w.cell? ⟨b, o + 4, none⟩ = some (.string (str l[i].v.s)) := by
  subst ho
  exact ⟨h i hi 0 _ rfl, h i hi 1 _ rfl, h i hi 2 _ rfl, h i hi 3 _ rfl, h i hi 4 _ rfl⟩

/-! What may be. -/
def Val.ok (x : Val) : Bool :=
  if x.kind = 0 then decide (x.n = 0) && x.s.isEmpty else if x.kind = 1 then decide (0 ≤ x.n) && decide (x.n ≤ 1099511627776) && x.s.isEmpty
  else if x.kind = 2 then decide (x.n = 0) && decide (x.s.length ≤ 24) else false
def Val.none (x : Val) : Bool := decide (x.kind = 0) && decide (x.n = 0) && x.s.isEmpty
def Node.ok (x : Node) : Bool :=
  if x.op = 1 ∨ x.op = 2 ∨ x.op = 10 ∨ x.op = 11 ∨ x.op = 12 then decide (x.n = 0) && x.v.none
  else if x.op = 3 ∨ x.op = 4 then decide (0 ≤ x.n) && decide (x.n < 16) && x.v.none
  else if x.op = 5 then decide (0 ≤ x.n) && decide (x.n < 8) && x.v.none
  else if x.op = 6 ∨ x.op = 7 ∨ x.op = 8 then decide (0 ≤ x.n) && decide (x.n < 8) && x.v.ok && !x.v.none
  else if x.op = 9 then decide (0 ≤ x.n) && decide (x.n < 8) && x.v.ok && decide (x.v.kind = 2)
  else false
def parts (op : Int) : Int := if op = 10 then 1 else if op = 11 ∨ op = 12 then 2 else 0
theorem parts_bd (op : Int) : 0 ≤ parts op ∧ parts op ≤ 2 := by unfold parts; split <;> (try split) <;> omega
theorem Val.none_kind {x : Val} (h : x.ok = true) : x.none = decide (x.kind = 0) := by
  unfold Val.ok Val.none at *
  by_cases hk : x.kind = 0
  · simp [hk] at h ⊢; exact h
  · simp [hk]
def large (l : List Node) : Bool := decide (100 < l.length) || l.any fun x => decide (200 < x.v.s.length)

theorem large_short {l : List Node} (h : large l = false) : l.length ≤ 100 ∧ ∀ x ∈ l, x.v.s.length ≤ 200 := by
  unfold large at h
  simp only [Bool.or_eq_false_iff, decide_eq_false_iff_not, List.any_eq_false, decide_eq_true_eq] at h
  exact ⟨by omega, fun x hx => by have := h.2 x hx; omega⟩
/-! Where trees end. -/
def endFrom : List Node → Int → Nat → Int
  | [], _, _ => -1
  | x :: r, need, i => if need + (parts x.op - 1) = 0 then i + 1 else endFrom r (need + (parts x.op - 1)) (i + 1)
def endAt (l : List Node) (i : Int) : Int := if i < 0 then -1 else endFrom (l.drop i.toNat) 1 i.toNat
theorem endFrom_at (l : List Node) (k : Nat) (h : k < l.length) (need : Int) :
    endFrom (l.drop k) need k = if need + (parts (l[k]).op - 1) = 0 then (k : Int) + 1 else endFrom (l.drop (k+1)) (need + (parts l[k].op - 1)) (k + 1) := by
  rw [List.drop_eq_getElem_cons h]; rfl
theorem endAt_neg {l : List Node} {i : Int} (h : i < 0) : endAt l i = -1 := by unfold endAt; rw [if_pos h]
theorem endAt_past {l : List Node} {i : Int} (h : (l.length : Int) ≤ i) : endAt l i = -1 := by
  unfold endAt
  rw [if_neg (by omega), List.drop_of_length_le (by omega)]; rfl
theorem endAt_nat (l : List Node) (i : Nat) : endAt l i = endFrom (l.drop i) 1 i := by
  unfold endAt; rw [if_neg (by omega), Int.toNat_natCast]
end Go.Proofs.Ytplipddgeanajaa
