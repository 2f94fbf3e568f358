/-
  Lemmas (walks and plain laws), in one text.
-/
import Derived.BigQuiet
import Derived.Deep.QuietTactic
import Derived.Lib.Hide
import Derived.WalkKit
import Derived.WalkLawsBesides
import Derived.WalkSpells
import Derived.Maps.AppendAt
import Derived.WalkSmall
import Derived.Deep.AppendSrc
import Derived.Laws.BytesArg
import Derived.Lib.AppendStr
import Derived.Deep.CutBlock
import Derived.Deep.DeepCutAuto
import Derived.Test.YtbidnflcbgnckaaProg
import Derived.ScopeJumps
import Derived.WalkMore
import Derived.Laws.Externs
import Derived.Lib.Bytealg
import Derived.Laws.IdiomStrings
namespace Go.Proofs.Ytbidnflcbgnckaa
open Go.RowKit

/-- The call hands back v; nothing below the heap's end has turned. -/
def RetV (w : World) (v : Value) (e : Ending) (w' : World) : Prop := e = .returned v ∧ Below w.heap.size w w'
theorem RetV.of {w w' : World} {v v' : Value} (h : v' = v) (hb : Below w.heap.size w w') : RetV w v (.returned v') w' := ⟨by rw [h], hb⟩
theorem RetV.int {w w' : World} {k : IntKind} {a b : Int} (h : a = b) (hb : Below w.heap.size w w') : RetV w (.int k b) (.returned (.int k a)) w' := ⟨by rw [h], hb⟩
theorem RetV.bool {w w' : World} {a b : Bool} (h : a = b) (hb : Below w.heap.size w w') : RetV w (.bool b) (.returned (.bool a)) w' := ⟨by rw [h], hb⟩

/-- Where a walk is to stand still. -/
def Stop (p : Prop) : Prop := p
theorem Stop.out {p : Prop} (h : Stop p) : p := h
theorem Stop.mk {p : Prop} (h : p) : Stop p := h

/-! Worlds that have grown. -/
def Grow (W : World) : Type := {w' : World // Below W.heap.size W w'}
def grow (W : World) (x : Grow W) : World := x.1
instance (W : World) : Nonempty (Grow W) := ⟨⟨W, Below.refl _ _⟩⟩
theorem grow_below (W : World) (x : Grow W) : Below W.heap.size W (grow W x) := x.2
@[go_sem] theorem cell?_grow {W : World} {x : Grow W} {b o : Nat} (h : b < W.heap.size) : (grow W x).cell? ⟨b, o, none⟩ = W.cell? ⟨b, o, none⟩ := (grow_below W x).cell (p := ⟨b, o, none⟩) h
theorem in_grow {W w' : World} (h : Below W.heap.size W w') : ∃ x : Grow W, w' = grow W x := ⟨⟨w', h⟩, rfl⟩
theorem drew_grow (W : World) : ∃ x : Grow W, { W with drawn := W.drawn + 1 } = grow W x := in_grow ((Below.refl _ _).drew)
/-- A region that draws its order: one walk of its text, in worlds that have grown out of this one. -/
theorem wp_region_grow {P : Program} {id : Nat} {Q : Exit → Act → World → Prop} {a : Act} {w : World} {l : List Oper} (hm : P.follows .mixedOrders = true) (hB : Region.lexB .any l.toArray = true)
    (h : wpQuiet P l.toArray (fun w' => ∃ x : Grow w, w' = grow w x) (fun a' => ∀ w', Below w.heap.size w w' → Q .normal a' w') l a) : (Code.region id l.toArray true).wp P Q a w :=
  wp_region_quiet (C := fun w' => ∃ x : Grow w, w' = grow w x) hm hB (drew_grow w) (by
    have e : (fun a' => ∀ w', (∃ x : Grow w, w' = grow w x) → Q .normal a' w') = (fun a' => ∀ w', Below w.heap.size w w' → Q .normal a' w') := by
      funext a'
      refine propext ⟨fun h w' hb => h w' (in_grow hb), fun h w' ⟨x, e⟩ => h w' (e ▸ grow_below w x)⟩
    rw [e]
    simpa using h)

@[go_sem] theorem ite_max (x y : Int) : (if y > x then y else x) = max x y := by split <;> omega
@[go_sem] theorem ite_max' (x y : Int) : (if x < y then y else x) = max x y := by split <;> omega
@[go_sem] theorem ite_min (x y : Int) : (if y < x then y else x) = min x y := by split <;> omega

/-! Texts as lists of bytes. -/
def str (l : List UInt8) : ByteArray := ⟨l.toArray⟩
@[simp, go_sem] theorem str_size (l : List UInt8) : (str l).size = l.length := by simp [str, ByteArray.size]
@[simp, go_sem] theorem str_toList (l : List UInt8) : (str l).toList = l := by simp [str]
@[simp, go_sem] theorem str_data (l : List UInt8) : (str l).data.toList = l := rfl
@[simp, go_sem] theorem str_append (a b : List UInt8) : str a ++ str b = str (a ++ b) := by
  apply ByteArray.ext; simp [str]
@[simp, go_sem] theorem str_extract (l : List UInt8) (a b : Nat) : (str l).extract a b = str ((l.drop a).take (b - a)) := by
  apply ByteArray.ext
  apply Array.ext'
  simp [str, List.extract_eq_take_drop]
@[simp, go_sem] theorem str_getElem (l : List UInt8) (i : Nat) (h : i < (str l).size) : (str l)[i] = l[i]'(by simpa using h) := by
  simp [str, ByteArray.getElem_eq_getElem_data]
@[simp, go_sem] theorem str_getElem? (l : List UInt8) (i : Nat) : (str l)[i]? = l[i]? := by
  by_cases h : i < l.length
  · rw [getElem?_pos (str l) i (by simpa using h), str_getElem, getElem?_pos l i h]
  · rw [getElem?_neg (str l) i (by simpa using h), getElem?_neg l i h]
theorem str_inj {a b : List UInt8} (h : str a = str b) : a = b := by
  have := congrArg (fun s : ByteArray => s.data.toList) h
  simpa using this
theorem str_of (s : ByteArray) : s = str s.data.toList := by apply ByteArray.ext; simp [str]
@[simp, go_sem] theorem str_lit (l : List UInt8) : ({ data := l.toArray } : ByteArray) = str l := rfl
end Go.Proofs.Ytbidnflcbgnckaa
namespace Go.Proofs.Ytbidnflcbgnckaa
open Go.RowKit

/-! A slice that reads as a list: k cells an element. -/
def Row {α : Type} (k : Nat) (cs : α → List Value) (w : World) (b off : Nat) (l : List α) : Prop :=
  ∀ i (h : i < l.length) (j : Nat) u, (cs l[i])[j]? = some u → w.cell? ⟨b, off + i * k + j, none⟩ = some u
def In {α : Type} (k : Nat) (cs : α → List Value) (w : World) (A : Option Addr) (c : Nat) (l : List α) : Prop :=
  l.length ≤ c ∧ c ≤ 9223372036854775807 ∧ l.length ≤ 4294967296 ∧ (l = [] ∨ ∃ b off, A = some ⟨b, off, none⟩ ∧ b < w.heap.size ∧ Row k cs w b off l)
section
variable {α : Type} {k : Nat} {cs : α → List Value} {w w' : World} {A : Option Addr} {c b off : Nat} {l : List α}
theorem Row.keep (h : Row k cs w b off l) (hk : ∀ o, w'.cell? ⟨b, o, none⟩ = w.cell? ⟨b, o, none⟩) : Row k cs w' b off l :=
  fun i hi j u hu => (hk _).trans (h i hi j u hu)
theorem Row.below (h : Row k cs w b off l) (hb : Below w.heap.size w w') (hlt : b < w.heap.size) : Row k cs w' b off l :=
  h.keep fun o => hb.cell (p := ⟨b, o, none⟩) hlt
theorem Row.drop (h : Row k cs w b off l) (m : Nat) : Row k cs w b (off + m * k) (l.drop m) := fun i hi j u hu => by
  rw [List.getElem_drop] at hu
  have hm : m + i < l.length := by rw [List.length_drop] at hi; omega
  rw [show off + m * k + i * k + j = off + (m + i) * k + j by rw [Nat.add_mul]; omega]
  exact h (m + i) hm j u hu
theorem Row.take (h : Row k cs w b off l) (m : Nat) : Row k cs w b off (l.take m) := fun i hi j u hu => by
  rw [List.getElem_take] at hu
  exact h i (by rw [List.length_take] at hi; omega) j u hu
theorem In.below (h : In k cs w A c l) (hb : Below w.heap.size w w') : In k cs w' A c l :=
  ⟨h.1, h.2.1, h.2.2.1, h.2.2.2.imp id fun ⟨b, off, hA, hlt, hr⟩ => ⟨b, off, hA, Nat.lt_of_lt_of_le hlt hb.size, hr.below hb hlt⟩⟩
theorem In.grow (h : In k cs w A c l) (x : Grow w) : In k cs (grow w x) A c l := h.below (grow_below w x)
theorem In.alloc (h : In k cs w A c l) (o : Obj) : In k cs (w.alloc o) A c l := h.below ((Below.refl _ _).alloc (Nat.le_refl _) _)
theorem In.nil (hc : c ≤ 9223372036854775807) : In k cs w A c ([] : List α) := ⟨by simp, hc, by simp, .inl rfl⟩
theorem In.at (h : In k cs w A c l) {i : Nat} (hi : i < l.length) : ∃ b off, A = some ⟨b, off, none⟩ ∧ b < w.heap.size ∧ Row k cs w b off l :=
  h.2.2.2.resolve_left (fun e => by subst e; simp at hi)
end

structure Val where
  kind : Int
  n : Int
  s : List UInt8
deriving DecidableEq
structure Node where
  op : Int
  n : Int
  v : Val
deriving DecidableEq
def Val.cells (x : Val) : List Value := [.int .i64 x.kind, .int .i64 x.n, .string (str x.s)]
abbrev Val.val (x : Val) : Value := .agg #[.int .i64 x.kind, .int .i64 x.n, .string (str x.s)]
def Node.cells (x : Node) : List Value := [.int .i64 x.op, .int .i64 x.n, .int .i64 x.v.kind, .int .i64 x.v.n, .string (str x.v.s)]
abbrev Node.val (x : Node) : Value := .agg #[.int .i64 x.op, .int .i64 x.n, .int .i64 x.v.kind, .int .i64 x.v.n, .string (str x.v.s)]
/-- A slice of nodes. -/
abbrev InN := In 5 Node.cells
theorem Row.node {w : World} {b off : Nat} {l : List Node} (h : Row 5 Node.cells w b off l) {i : Nat} (hi : i < l.length) {o : Nat} (ho : o = off + i * 5) :
    w.cell? ⟨b, o, none⟩ = some (.int .i64 l[i].op) ∧ w.cell? ⟨b, o + 1, none⟩ = some (.int .i64 l[i].n) ∧ w.cell? ⟨b, o + 2, none⟩ = some (.int .i64 l[i].v.kind) ∧
    w.cell? ⟨b, o + 3, none⟩ = some (.int .i64 l[i].v.n) ∧ w.cell? ⟨b, o + 4, none⟩ = some (.string (str l[i].v.s)) := by
  subst ho
  exact ⟨h i hi 0 _ rfl, h i hi 1 _ rfl, h i hi 2 _ rfl, h i hi 3 _ rfl, h i hi 4 _ rfl⟩

/-! What may be. -/
def Val.ok (x : Val) : Bool :=
  if x.kind = 0 then decide (x.n = 0) && x.s.isEmpty else if x.kind = 1 then decide (0 ≤ x.n) && decide (x.n ≤ 1099511627776) && x.s.isEmpty
  else if x.kind = 2 then decide (x.n = 0) && decide (x.s.length ≤ 24) else false
def Val.none (x : Val) : Bool := decide (x.kind = 0) && decide (x.n = 0) && x.s.isEmpty
def Node.ok (x : Node) : Bool :=
  if x.op = 1 ∨ x.op = 2 ∨ x.op = 10 ∨ x.op = 11 ∨ x.op = 12 then decide (x.n = 0) && x.v.none
  else if x.op = 3 ∨ x.op = 4 then decide (0 ≤ x.n) && decide (x.n < 16) && x.v.none
  else if x.op = 5 then decide (0 ≤ x.n) && decide (x.n < 8) && x.v.none
  else if x.op = 6 ∨ x.op = 7 ∨ x.op = 8 then decide (0 ≤ x.n) && decide (x.n < 8) && x.v.ok && !x.v.none
  else if x.op = 9 then decide (0 ≤ x.n) && decide (x.n < 8) && x.v.ok && decide (x.v.kind = 2)
  else false
def parts (op : Int) : Int := if op = 10 then 1 else if op = 11 ∨ op = 12 then 2 else 0
theorem parts_bd (op : Int) : 0 ≤ parts op ∧ parts op ≤ 2 := by unfold parts; split <;> (try split) <;> omega
theorem Val.none_kind {x : Val} (h : x.ok = true) : x.none = decide (x.kind = 0) := by
  unfold Val.ok Val.none at *
  by_cases hk : x.kind = 0
  · simp [hk] at h ⊢; exact h
  · simp [hk]
def large (l : List Node) : Bool := decide (100 < l.length) || l.any fun x => decide (200 < x.v.s.length)

/-! Where trees end. -/
def endFrom : List Node → Int → Nat → Int
  | [], _, _ => -1
  | x :: r, need, i => if need + (parts x.op - 1) = 0 then i + 1 else endFrom r (need + (parts x.op - 1)) (i + 1)
def endAt (l : List Node) (i : Int) : Int := if i < 0 then -1 else endFrom (l.drop i.toNat) 1 i.toNat
theorem endFrom_at (l : List Node) (k : Nat) (h : k < l.length) (need : Int) :
    endFrom (l.drop k) need k = if need + (parts (l[k]).op - 1) = 0 then (k : Int) + 1 else endFrom (l.drop (k+1)) (need + (parts l[k].op - 1)) (k + 1) := by
  rw [List.drop_eq_getElem_cons h]; rfl
theorem endAt_neg {l : List Node} {i : Int} (h : i < 0) : endAt l i = -1 := by unfold endAt; rw [if_pos h]
theorem endAt_past {l : List Node} {i : Int} (h : (l.length : Int) ≤ i) : endAt l i = -1 := by
  unfold endAt
  rw [if_neg (by omega), List.drop_of_length_le (by omega)]; rfl
theorem endAt_nat (l : List Node) (i : Nat) : endAt l i = endFrom (l.drop i) 1 i := by
  unfold endAt; rw [if_neg (by omega), Int.toNat_natCast]
end Go.Proofs.Ytbidnflcbgnckaa
namespace Go.Proofs.Ytbidnflcbgnckaa

/-- l begins with n trees, r stands behind them; d: how deep the deepest is. -/
inductive Trees : Nat → List Node → List Node → Nat → Prop
  | nil (l : List Node) : Trees 0 l l 0
  | cons {x : Node} {l m r : List Node} {n d1 d2 : Nat} : Trees (parts x.op).toNat l m d1 → Trees n m r d2 → Trees (n + 1) (x :: l) r (max (d1 + 1) d2)

theorem parts_toNat (op : Int) : ((parts op).toNat : Int) = parts op := by have := parts_bd op; omega
theorem Trees.length {n : Nat} {l r : List Node} {d : Nat} (h : Trees n l r d) : r.length + n ≤ l.length := by
  induction h with
  | nil l => simp
  | cons _ _ h1 h2 => simp only [List.length_cons]; omega
theorem Trees.zero {l r : List Node} {d : Nat} (h : Trees 0 l r d) : l = r ∧ d = 0 := by cases h; exact ⟨rfl, rfl⟩
theorem Trees.depth_pos {n : Nat} {l r : List Node} {d : Nat} (h : Trees n l r d) : n = 0 ∨ 1 ≤ d := by
  cases h with
  | nil l => exact .inl rfl
  | cons _ _ => right; omega
theorem Trees.append {n k : Nat} {l m r : List Node} {d1 d2 : Nat} (h : Trees n l m d1) : Trees k m r d2 → Trees (n + k) l r (max d1 d2) := by
  induction h generalizing k r d2 with
  | nil l => intro h; simpa using h
  | cons t1 _ _ ih2 =>
    intro h
    have := Trees.cons t1 (ih2 h)
    rw [← Nat.max_assoc] at this
    rw [Nat.add_right_comm]
    exact this
theorem Trees.split {k : Nat} : ∀ {n : Nat} {l r : List Node} {d : Nat}, Trees (n + k) l r d → ∃ m d1 d2, Trees n l m d1 ∧ Trees k m r d2 ∧ d = max d1 d2
  | 0, l, r, d, h => ⟨l, 0, d, .nil l, by simpa using h, by simp⟩
  | n + 1, l, r, d, h => by
    rw [Nat.add_right_comm] at h
    cases h with
    | cons t1 t2 =>
      obtain ⟨m, e1, e2, h1, h2, rfl⟩ := Trees.split t2
      exact ⟨m, _, e2, .cons t1 h1, h2, (Nat.max_assoc ..).symm⟩
/-- What stands behind does not matter. -/
theorem Trees.behind {n : Nat} {l r : List Node} {d : Nat} (h : Trees n l r d) : ∃ p, l = p ++ r ∧ ∀ q, Trees n (p ++ q) q d := by
  induction h with
  | nil l => exact ⟨[], rfl, fun q => .nil q⟩
  | @cons x l m r n d1 d2 _ _ h1 h2 =>
    obtain ⟨p1, rfl, g1⟩ := h1
    obtain ⟨p2, rfl, g2⟩ := h2
    exact ⟨x :: (p1 ++ p2), by simp, fun q => by
      have := Trees.cons (x := x) (g1 (p2 ++ q)) (g2 q)
      simpa using this⟩
theorem endFrom_pass {n : Nat} {l r : List Node} {d : Nat} (h : Trees n l r d) : ∀ (k i : Nat), 1 ≤ k → endFrom l ((n + k : Nat) : Int) i = endFrom r k (i + (l.length - r.length)) := by
  induction h with
  | nil l => intro k i hk; simp
  | @cons x l m r n d1 d2 t1 t2 h1 h2 =>
    intro k i hk
    have hl1 := t1.length
    have hl2 := t2.length
    have hp := parts_toNat x.op
    show (if ((n + 1 + k : Nat) : Int) + (parts x.op - 1) = 0 then _ else _) = _
    rw [if_neg (by omega), show ((n + 1 + k : Nat) : Int) + (parts x.op - 1) = (((parts x.op).toNat + (n + k) : Nat) : Int) by omega, h1 (n + k) (i + 1) (by omega), h2 k _ hk]
    congr 1
    simp only [List.length_cons]; omega
theorem endFrom_trees {n : Nat} {l r : List Node} {d : Nat} (h : Trees n l r d) : ∀ (i : Nat), 1 ≤ n → endFrom l (n : Int) i = ((i + (l.length - r.length) : Nat) : Int) := by
  induction h with
  | nil l => intro i hk; omega
  | @cons x l m r n d1 d2 t1 t2 h1 h2 =>
    intro i _
    have hl1 := t1.length
    have hl2 := t2.length
    have hp := parts_toNat x.op
    show (if ((n + 1 : Nat) : Int) + (parts x.op - 1) = 0 then _ else _) = _
    by_cases hz : ((n + 1 : Nat) : Int) + (parts x.op - 1) = 0
    · rw [if_pos hz]
      have hn : n = 0 := by omega
      have hp0 : (parts x.op).toNat = 0 := by omega
      subst hn
      rw [hp0] at t1
      obtain ⟨rfl, _⟩ := t1.zero
      obtain ⟨rfl, _⟩ := t2.zero
      simp only [List.length_cons]; omega
    · rw [if_neg hz]
      rcases Nat.eq_zero_or_pos n with rfl | hn
      · obtain ⟨rfl, _⟩ := t2.zero
        rw [show ((0 + 1 : Nat) : Int) + (parts x.op - 1) = (((parts x.op).toNat : Nat) : Int) by omega, h1 (i + 1) (by omega)]
        simp only [List.length_cons]; omega
      · rw [show ((n + 1 : Nat) : Int) + (parts x.op - 1) = (((parts x.op).toNat + n : Nat) : Int) by omega, endFrom_pass t1 n (i + 1) hn, h2 _ hn]
        simp only [List.length_cons]; omega
theorem trees_of_end : ∀ (l : List Node) (n i : Nat) (e : Int), 1 ≤ n → endFrom l (n : Int) i = e → e ≠ -1 → ∃ r d, Trees n l r d
  | [], n, i, e, _, h, he => absurd h.symm he
  | x :: l, n, i, e, hn, h, he => by
    have hp := parts_toNat x.op
    have hpb := parts_bd x.op
    have h' : (if (n : Int) + (parts x.op - 1) = 0 then (i : Int) + 1 else endFrom l (n + (parts x.op - 1)) (i + 1)) = e := h
    obtain ⟨n, rfl⟩ : ∃ m, n = m + 1 := ⟨n - 1, by omega⟩
    by_cases hz : ((n + 1 : Nat) : Int) + (parts x.op - 1) = 0
    · have hn : n = 0 := by omega
      have hp0 : (parts x.op).toNat = 0 := by omega
      subst hn
      exact ⟨l, _, .cons (by rw [hp0]; exact .nil l) (.nil l)⟩
    · rw [if_neg hz, show ((n + 1 : Nat) : Int) + (parts x.op - 1) = (((parts x.op).toNat + n : Nat) : Int) by omega] at h'
      obtain ⟨r, d, ht⟩ := trees_of_end l _ (i + 1) e (by omega) h' he
      obtain ⟨m, d1, d2, t1, t2, rfl⟩ := ht.split
      exact ⟨r, _, .cons t1 t2⟩
/-- A list that is one tree. -/
def Tree (l : List Node) (d : Nat) : Prop := Trees 1 l [] d
theorem Tree.ne {l : List Node} {d : Nat} (h : Tree l d) : 1 ≤ l.length := by have := Trees.length h; simpa using this
theorem Tree.pos {l : List Node} {d : Nat} (h : Tree l d) : 1 ≤ d := (Trees.depth_pos h).resolve_left (by omega)
theorem endAt_tree {l : List Node} {d : Nat} (h : Tree l d) : endAt l 0 = l.length := by
  have := endFrom_trees h 0 (Nat.le_refl _)
  rw [show (0 : Int) = ((0 : Nat) : Int) from rfl, endAt_nat]
  simpa using this
theorem tree_of_end {l : List Node} (_hl : l ≠ []) (h : endAt l 0 = l.length) : ∃ d, Tree l d := by
  rw [show (0 : Int) = ((0 : Nat) : Int) from rfl, endAt_nat] at h
  obtain ⟨r, d, ht⟩ := trees_of_end _ 1 0 _ (Nat.le_refl _) h (by omega)
  simp only [List.drop_zero] at ht h
  have := endFrom_trees ht 0 (Nat.le_refl _)
  have h1 : endFrom l (1 : Int) 0 = l.length := h
  have h2 : endFrom l (1 : Int) 0 = ((0 + (l.length - r.length) : Nat) : Int) := this
  have hlen := ht.length
  have hr : r.length = 0 := by omega
  rw [List.eq_nil_of_length_eq_zero hr] at ht
  exact ⟨d, ht⟩
theorem Tree.head {l : List Node} {d : Nat} (h : Tree l d) : ∃ x r d', l = x :: r ∧ Trees (parts x.op).toNat r [] d' ∧ d = d' + 1 := by
  unfold Tree at h
  cases h with
  | cons t1 t2 =>
    obtain ⟨rfl, rfl⟩ := t2.zero
    exact ⟨_, _, _, rfl, t1, by omega⟩
/-! What trees are cut into. -/
def cut : Nat → List Node → List (List Node)
  | 0, _ => []
  | n + 1, l => l.take (endFrom l 1 0).toNat :: cut n (l.drop (endFrom l 1 0).toNat)
theorem cut_trees : ∀ {n : Nat} {l r : List Node} {d : Nat}, Trees n l r d → (cut n l).length = n ∧ l = (cut n l).flatten ++ r ∧ (∀ k ∈ cut n l, ∃ dk, Tree k dk ∧ dk ≤ d)
  | 0, l, r, d, h => by obtain ⟨rfl, _⟩ := h.zero; simp [cut]
  | n + 1, l, r, d, h => by
    rw [Nat.add_comm] at h
    obtain ⟨m, d1, d2, t1, t2, rfl⟩ := h.split
    have he := endFrom_trees t1 0 (Nat.le_refl _)
    obtain ⟨p, rfl, hp⟩ := t1.behind
    have he' : endFrom (p ++ m) 1 0 = (p.length : Int) := by
      have : ((1 : Nat) : Int) = 1 := rfl
      rw [this] at he
      rw [he]; simp
    obtain ⟨g1, g2, g3⟩ := cut_trees t2
    have hc : cut (n + 1) (p ++ m) = p :: cut n m := by simp [cut, he']
    rw [hc]
    refine ⟨by simp [g1], by rw [List.flatten_cons, List.append_assoc, ← g2], fun k hk => ?_⟩
    rcases List.mem_cons.1 hk with rfl | hk
    · exact ⟨d1, by have := hp []; simpa [Tree] using this, by omega⟩
    · obtain ⟨dk, h1, h2⟩ := g3 k hk
      exact ⟨dk, h1, by omega⟩

/-- One tree more is cut off at a place. -/
theorem cut_step {l : List Node} {n i : Nat} {r : List Node} {d : Nat} (h : Trees (n + 1) (l.drop i) r d) :
    ∃ s d1 d2, 1 ≤ s ∧ i + s ≤ l.length ∧ endAt l i = ((i + s : Nat) : Int) ∧ cut (n + 1) (l.drop i) = (l.drop i).take s :: cut n (l.drop (i + s)) ∧ Trees n (l.drop (i + s)) r d1 ∧ Tree ((l.drop i).take s) d2 := by
  rw [Nat.add_comm] at h
  obtain ⟨m, d1, d2, t1, t2, rfl⟩ := h.split
  have he0 := endFrom_trees t1 0 (Nat.le_refl _)
  have hei := endFrom_trees t1 i (Nat.le_refl _)
  obtain ⟨p, hp, hpq⟩ := t1.behind
  have hlen := t1.length
  have hpl : (l.drop i).length = p.length + m.length := by rw [hp]; simp
  have hs : (endFrom (l.drop i) 1 0).toNat = p.length := by
    have : ((1 : Nat) : Int) = 1 := rfl
    rw [this] at he0
    rw [he0]; omega
  have hd : (l.drop i).drop p.length = m := by rw [hp]; simp
  have ht : (l.drop i).take p.length = p := by rw [hp]; simp
  rw [List.length_drop] at hpl hlen
  refine ⟨p.length, d2, d1, by omega, by omega, ?_, ?_, ?_, ?_⟩
  · rw [endAt_nat]
    have : ((1 : Nat) : Int) = 1 := rfl
    rw [this] at hei
    rw [hei, List.length_drop]; omega
  · simp only [cut, hs]
    rw [List.drop_drop]
  · rw [← List.drop_drop, hd]; exact t2
  · rw [ht]; have := hpq []; simpa [Tree] using this
/-! How deep: by the places that are open. -/
def dec : List Int → List Int
  | [] => []
  | x :: s => if x - 1 = 0 then dec s else (x - 1) :: s
def push (p : Int) (s : List Int) : List Int := if p = 0 then dec s else p :: s
def norm : List Int → List Int
  | [] => []
  | x :: s => if x = 0 then dec s else x :: s
theorem norm_zero (s : List Int) : norm (0 :: s) = dec s := by simp [norm]
theorem dec_norm (y : Int) (s : List Int) : dec (y :: s) = norm ((y - 1) :: s) := rfl
theorem norm_keep {x : Int} {s : List Int} (h : x ≠ 0) : norm (x :: s) = x :: s := by simp [norm, h]
def deepFold : List Node → List Int → Int → Int
  | [], _, d => d
  | x :: r, s, d => deepFold r (push (parts x.op) s) (max d (s.length + 1))
theorem deepFold_trees {n : Nat} {l r : List Node} {d : Nat} (h : Trees n l r d) : ∀ (t : Int) (s : List Int) (deep : Int), 0 ≤ deep → (n : Int) ≤ t → 1 ≤ t →
    deepFold l (t :: s) deep = deepFold r (if n = 0 then t :: s else push (t - n) s) (if n = 0 then deep else max deep ((s.length : Int) + 1 + d)) := by
  induction h with
  | nil l => intro t s deep _ _ _; simp
  | @cons x l m r n d1 d2 t1 t2 h1 h2 =>
    intro t s deep hd ht ht1
    have hp := parts_toNat x.op
    have hnext : deepFold (x :: l) (t :: s) deep = deepFold m (push (t - 1) s) (max deep ((s.length : Int) + 1 + (d1 + 1 : Nat))) := by
      show deepFold l (push (parts x.op) (t :: s)) (max deep (((t :: s).length : Int) + 1)) = _
      rw [← hp]
      rcases Nat.eq_zero_or_pos (parts x.op).toNat with h0 | h0
      · rw [h0] at t1
        obtain ⟨rfl, rfl⟩ := t1.zero
        rw [h0]
        simp only [push, dec, List.length_cons]
        congr 1
      · have e1 : push (((parts x.op).toNat : Nat) : Int) (t :: s) = ((parts x.op).toNat : Int) :: t :: s := by unfold push; rw [if_neg (by omega)]
        rw [e1, h1 _ (t :: s) _ (by omega) (Int.le_refl _) (by omega), if_neg (by omega), if_neg (by omega)]
        have e2 : push (((parts x.op).toNat : Int) - ((parts x.op).toNat : Nat)) (t :: s) = push (t - 1) s := by
          rw [Int.sub_self]; simp only [push, dec, if_true]
        rw [e2]
        congr 1
        simp only [List.length_cons]; omega
    rw [hnext]
    rcases Nat.eq_zero_or_pos n with rfl | hn
    · obtain ⟨rfl, rfl⟩ := t2.zero
      rw [if_neg (by omega), if_neg (by omega)]
      first | rfl | (congr 1; done) | (congr 1; omega)
    · have e1 : push (t - 1) s = (t - 1) :: s := by unfold push; rw [if_neg (by omega)]
      rw [e1, h2 (t - 1) s _ (by omega) (by omega) (by omega), if_neg (by omega), if_neg (by omega), if_neg (by omega), if_neg (by omega)]
      have e2 : t - 1 - (n : Int) = t - ((n + 1 : Nat) : Int) := by omega
      rw [e2]
      congr 1
      omega
theorem deepFold_tree {l : List Node} {d : Nat} (h : Tree l d) : deepFold l [] 0 = d := by
  obtain ⟨x, r, d', rfl, t, rfl⟩ := h.head
  have hp := parts_toNat x.op
  show deepFold r (push (parts x.op) []) (max 0 ((([] : List Int).length : Int) + 1)) = _
  rw [← hp]
  rcases Nat.eq_zero_or_pos (parts x.op).toNat with h0 | h0
  · rw [h0] at t
    obtain ⟨rfl, rfl⟩ := t.zero
    simp only [deepFold, List.length_nil]; omega
  · have e1 : push (((parts x.op).toNat : Nat) : Int) [] = [((parts x.op).toNat : Int)] := by unfold push; rw [if_neg (by omega)]
    rw [e1, deepFold_trees t _ [] _ (by omega) (Int.le_refl _) (by omega)]
    simp only [deepFold, if_neg (show ¬ (parts x.op).toNat = 0 by omega), List.length_nil]
    omega
/-- How deep a filter is; 0 where it is none. -/
def depth (l : List Node) : Int := if l = [] ∨ endAt l 0 ≠ l.length then 0 else deepFold l [] 0
theorem depth_tree {l : List Node} {d : Nat} (h : Tree l d) : depth l = d := by
  unfold depth
  rw [if_neg (by
    rintro (rfl | h1)
    · have := h.ne; simp at this
    · exact h1 (endAt_tree h)), deepFold_tree h]
theorem depth_cut {n : Nat} {l r : List Node} {d : Nat} (h : Trees n l r d) : ∀ a : Int, 0 ≤ a → ((cut n l).map depth).foldl max a = max a d := by
  induction n generalizing l d with
  | zero => intro a ha; obtain ⟨rfl, rfl⟩ := h.zero; simp [cut]; omega
  | succ n ih =>
    intro a ha
    rw [Nat.add_comm] at h
    obtain ⟨m, d1, d2, t1, t2, rfl⟩ := h.split
    have he := endFrom_trees t1 0 (Nat.le_refl _)
    obtain ⟨p, rfl, hp⟩ := t1.behind
    have he' : endFrom (p ++ m) 1 0 = (p.length : Int) := by
      have : ((1 : Nat) : Int) = 1 := rfl
      rw [this] at he
      rw [he]; simp
    have hc : cut (n + 1) (p ++ m) = p :: cut n m := by simp [cut, he']
    have hd : depth p = d1 := depth_tree (by have := hp []; simpa [Tree] using this)
    rw [hc, List.map_cons, List.foldl_cons, hd, ih t2 _ (by omega)]
    omega
theorem flatten_len {α : Type} : ∀ (ks : List (List α)) (k : List α), k ∈ ks → k.length ≤ ks.flatten.length
  | [], _, h => by cases h
  | x :: r, k, h => by
    rw [List.flatten_cons, List.length_append]
    rcases List.mem_cons.1 h with rfl | h
    · omega
    · have := flatten_len r k h; omega
/-- What is wrong with a filter: 4 too long, 1 none, 5 too deep. -/
def check (l : List Node) : Int :=
  if 31 < l.length then 4 else if l.length = 0 ∨ endAt l 0 ≠ l.length then 1 else if (l.any fun x => !x.ok) = true then 1 else if 8 < depth l then 5 else 0
theorem depth_bd (l : List Node) : 0 ≤ depth l ∧ depth l ≤ l.length := by
  unfold depth
  by_cases h : l = [] ∨ endAt l 0 ≠ l.length
  · rw [if_pos h]; omega
  · rw [if_neg h]
    have h1 : l ≠ [] := fun e => h (.inl e)
    have h2 : endAt l 0 = l.length := Decidable.byContradiction fun e => h (.inr e)
    obtain ⟨d, ht⟩ := tree_of_end h1 h2
    rw [deepFold_tree ht]
    have key : ∀ {n : Nat} {l r : List Node} {d : Nat}, Trees n l r d → d + r.length ≤ l.length := by
      intro n l r d h
      induction h with
      | nil l => simp
      | @cons x l m r n d1 d2 t1 t2 h1 h2 =>
        have := t1.length
        have := t2.length
        simp only [List.length_cons]; omega
    have := key ht
    simp at this
    omega
def firstBad : List Node → Nat → Int
  | [], _ => -1
  | x :: r, i => if x.ok = true then firstBad r (i + 1) else i
theorem firstBad_any : ∀ (l : List Node) (i : Nat), decide (0 ≤ firstBad l i) = l.any fun x => !x.ok
  | [], i => rfl
  | x :: r, i => by
    unfold firstBad
    cases hx : x.ok
    · simp [hx]
    · simp [hx, firstBad_any r (i + 1)]
theorem firstBad_at (l : List Node) (k : Nat) (h : k < l.length) : firstBad (l.drop k) k = if (l[k]).ok = true then firstBad (l.drop (k+1)) (k+1) else (k : Int) := by
  rw [List.drop_eq_getElem_cons h]; rfl
end Go.Proofs.Ytbidnflcbgnckaa
namespace Go.Proofs.Ytbidnflcbgnckaa
open Go.RowKit

def joined (op : Int) (l : List Node) : List Node := ⟨op, 0, ⟨0, 0, []⟩⟩ :: l
theorem Tree.ahead {a : List Node} {d : Nat} (h : Tree a d) (q : List Node) : Trees 1 (a ++ q) q d := by
  obtain ⟨p, hp, hq⟩ := Trees.behind h
  rw [List.append_nil] at hp
  subst hp
  exact hq q
end Go.Proofs.Ytbidnflcbgnckaa
namespace Go.Proofs.Ytbidnflcbgnckaa

/-! Numbers. -/
def tens (n : Nat) : List UInt8 := if n < 10 then [UInt8.ofNat (48 + n)] else tens (n / 10) ++ [UInt8.ofNat (48 + n % 10)]
def intF : Nat → List UInt8 → Option Nat
  | n, [] => some n
  | n, c :: s => if 48 ≤ c.toNat ∧ c.toNat ≤ 57 then intF (10 * n + (c.toNat - 48)) s else none
def intR (s : List UInt8) (most : Int) : Option Nat :=
  if s = [] ∨ 13 < s.length ∨ (1 < s.length ∧ s.head? = some 48) then none else match intF 0 s with
    | none => none
    | some n => if most < (n : Int) ∨ 1099511627776 < n then none else some n
theorem tens_lt {n : Nat} (h : n < 10) : tens n = [UInt8.ofNat (48 + n)] := by unfold tens; rw [if_pos h]
theorem tens_ge {n : Nat} (h : ¬ n < 10) : tens n = tens (n / 10) ++ [UInt8.ofNat (48 + n % 10)] := by rw [tens, if_neg h]
theorem u8_dig {n : Nat} (h : n < 10) : (UInt8.ofNat (48 + n)).toNat = 48 + n := by simp; omega
theorem intF_append : ∀ (a b : List UInt8) (n : Nat), intF n (a ++ b) = (intF n a).bind fun m => intF m b
  | [], b, n => rfl
  | c :: a, b, n => by
    simp only [List.cons_append, intF]
    split
    · exact intF_append a b _
    · rfl
theorem tens_ne (n : Nat) : tens n ≠ [] := by
  unfold tens; split <;> simp
theorem tens_digits (n : Nat) : ∀ c ∈ tens n, 48 ≤ c.toNat ∧ c.toNat ≤ 57 := by
  induction n using Nat.strongRecOn with
  | _ n ih =>
    by_cases h : n < 10
    · rw [tens_lt h]
      intro c hc
      simp only [List.mem_singleton] at hc
      subst hc
      rw [u8_dig h]; omega
    · rw [tens_ge h]
      intro c hc
      rcases List.mem_append.1 hc with hc | hc
      · exact ih (n / 10) (by omega) c hc
      · simp only [List.mem_singleton] at hc
        subst hc
        have : n % 10 < 10 := Nat.mod_lt _ (by omega)
        rw [u8_dig this]; omega
theorem intF_tens (n : Nat) : intF 0 (tens n) = some n := by
  induction n using Nat.strongRecOn with
  | _ n ih =>
    by_cases h : n < 10
    · rw [tens_lt h]
      simp only [intF, u8_dig h]
      rw [if_pos (by omega)]
      congr 1; omega
    · have hm : n % 10 < 10 := Nat.mod_lt _ (by omega)
      rw [tens_ge h, intF_append, ih (n / 10) (by omega)]
      simp only [Option.bind_some, intF, u8_dig hm]
      rw [if_pos (by omega)]
      congr 1; omega
theorem tens_len (n k : Nat) (h : n < 10 ^ k) (hk : 1 ≤ k) : (tens n).length ≤ k := by
  induction k generalizing n with
  | zero => omega
  | succ k ih =>
    by_cases h10 : n < 10
    · rw [tens_lt h10]; simp
    · rw [tens_ge h10, List.length_append]
      have hk1 : 1 ≤ k := by
        rcases Nat.eq_zero_or_pos k with h0 | h0
        · subst h0; omega
        · exact h0
      have := ih (n / 10) (Nat.div_lt_of_lt_mul (by rw [Nat.pow_succ, Nat.mul_comm] at h; exact h)) hk1
      simp; omega
theorem tens_head (n : Nat) : (tens n).head? = some 48 → n = 0 := by
  induction n using Nat.strongRecOn with
  | _ n ih =>
    by_cases h : n < 10
    · rw [tens_lt h]
      intro he
      simp only [List.head?_cons, Option.some.injEq] at he
      have := congrArg UInt8.toNat he
      rw [u8_dig h] at this
      have h48 : (48 : UInt8).toNat = 48 := rfl
      omega
    · rw [tens_ge h]
      intro he
      have hne := tens_ne (n / 10)
      have h0 := ih (n / 10) (by omega) (by
        cases ht : tens (n / 10) with
        | nil => exact absurd ht hne
        | cons c r => rw [ht] at he; simpa using he)
      omega
/-- A number that may be is read of its text. -/
theorem intR_tens {n : Nat} {most : Int} (h : n ≤ 1099511627776) (hm : (n : Int) ≤ most) : intR (tens n) most = some n := by
  unfold intR
  have h13 := tens_len n 13 (by omega) (by omega)
  rw [if_neg, intF_tens]
  · simp only
    rw [if_neg (by omega)]
  · rintro (h1 | h1 | ⟨h1, h2⟩)
    · exact tens_ne n h1
    · omega
    · have := tens_head n h2
      subst this
      rw [tens_lt (by omega)] at h1
      simp at h1
theorem snoc_or {α : Type} (l : List α) : l = [] ∨ ∃ r t, l = r ++ [t] := by
  rcases List.eq_nil_or_concat l with h | ⟨r, t, h⟩
  · exact .inl h
  · exact .inr ⟨r, t, by rw [h, List.concat_eq_append]⟩
theorem tens_intF (k : Nat) : ∀ (s : List UInt8) (n : Nat), s.length = k → s ≠ [] → (1 < s.length → s.head? ≠ some 48) → intF 0 s = some n → s = tens n ∧ (s.head? ≠ some 48 → 0 < n) := by
  induction k with
  | zero => intro s n hl hne; exact absurd (List.eq_nil_of_length_eq_zero hl) hne
  | succ k ih =>
    intro s n hl hne hh hs
    rcases snoc_or s with rfl | ⟨r, t, rfl⟩
    · exact absurd rfl hne
    · rw [intF_append] at hs
      cases hr : intF 0 r with
      | none => rw [hr] at hs; cases hs
      | some m =>
        rw [hr] at hs
        simp only [Option.bind_some, intF] at hs
        split at hs
        · rename_i ht
          injection hs with hs
          have ht2 : t = UInt8.ofNat (48 + (t.toNat - 48)) := by
            rw [show 48 + (t.toNat - 48) = t.toNat by omega]; simp
          by_cases hr0 : r = []
          · subst hr0
            simp only [intF, Option.some.injEq] at hr
            subst hr
            have hn : n = t.toNat - 48 := by omega
            subst hn
            refine ⟨by rw [tens_lt (by omega), ← ht2]; rfl, fun h => ?_⟩
            rcases Nat.eq_zero_or_pos (t.toNat - 48) with h0 | h0
            · exfalso; apply h
              have : t.toNat = 48 := by omega
              have h48 : t = 48 := by rw [ht2, this]; rfl
              rw [h48]; rfl
            · exact h0
          · have hrl : r.length = k := by simpa using hl
            have hrp : 0 < r.length := by
              rcases Nat.eq_zero_or_pos r.length with h0 | h0
              · exact absurd (List.eq_nil_of_length_eq_zero h0) hr0
              · exact h0
            have hhr : (r ++ [t]).head? = r.head? := by
              cases r with
              | nil => exact absurd rfl hr0
              | cons c r => rfl
            have hh' := hh (by simp; omega)
            rw [hhr] at hh'
            obtain ⟨h1, h2⟩ := ih r m hrl hr0 (fun _ => hh') hr
            have hm := h2 hh'
            refine ⟨?_, fun _ => by omega⟩
            rw [tens_ge (by omega), show n / 10 = m by omega, show n % 10 = t.toNat - 48 by omega, ← h1, ← ht2]
        · cases hs
/-- What is read as a number is its text. -/
theorem tens_intR {s : List UInt8} {most : Int} {n : Nat} (h : intR s most = some n) : s = tens n ∧ n ≤ 1099511627776 ∧ (n : Int) ≤ most := by
  unfold intR at h
  split at h
  · cases h
  · rename_i h1
    cases hi : intF 0 s with
    | none => rw [hi] at h; cases h
    | some m =>
      rw [hi] at h
      simp only at h
      split at h
      · cases h
      · injection h with h
        subst h
        refine ⟨(tens_intF s.length s m rfl (fun e => h1 (.inl e)) (fun hl e => h1 (.inr (.inr ⟨hl, e⟩))) hi).1, by omega, by omega⟩

/-! Texts in quotes. -/
def hexD (n : Nat) : UInt8 := if n < 10 then UInt8.ofNat (48 + n) else UInt8.ofNat (87 + n)
def hexV (c : UInt8) : Nat := if 48 ≤ c.toNat ∧ c.toNat ≤ 57 then c.toNat - 48 else if 97 ≤ c.toNat ∧ c.toNat ≤ 102 then c.toNat - 87 else 16
def quC (c : UInt8) : List UInt8 := if c.toNat < 32 ∨ 126 < c.toNat then [92, 120, hexD (c.toNat / 16), hexD (c.toNat % 16)] else if c = 34 ∨ c = 92 then [92, c] else [c]
def quote (s : List UInt8) : List UInt8 := 34 :: (s.flatMap quC ++ [34])
/-- What stands between quotes. -/
def unq : List UInt8 → Option (List UInt8)
  | [] => some []
  | [c] => if c.toNat < 32 ∨ 126 < c.toNat ∨ c = 34 ∨ c = 92 then none else some [c]
  | c :: d :: s =>
    if c.toNat < 32 ∨ 126 < c.toNat ∨ c = 34 then none
    else if c ≠ 92 then (unq (d :: s)).map (c :: ·)
    else if d = 34 ∨ d = 92 then (unq s).map (d :: ·)
    else match s with
      | a :: b :: r => if d ≠ 120 ∨ 15 < hexV a ∨ 15 < hexV b ∨ (32 ≤ 16 * hexV a + hexV b ∧ 16 * hexV a + hexV b ≤ 126) then none else (unq r).map (UInt8.ofNat (16 * hexV a + hexV b) :: ·)
      | _ => none
def unquote (t : List UInt8) : Option (List UInt8) := if t.length < 2 ∨ t.head? ≠ some 34 ∨ t.getLast? ≠ some 34 then none else unq (t.drop 1).dropLast
theorem hexV_D {n : Nat} (h : n < 16) : hexV (hexD n) = n := by
  unfold hexV hexD
  have h1 : ∀ k, k < 256 → (UInt8.ofNat k).toNat = k := fun k hk => by simp; omega
  by_cases h10 : n < 10
  · simp only [if_pos h10, h1 (48 + n) (by omega)]
    rw [if_pos (by omega)]; omega
  · simp only [if_neg h10, h1 (87 + n) (by omega)]
    rw [if_neg (by omega), if_pos (by omega)]; omega
theorem hexD_V {c : UInt8} (h : ¬ 15 < hexV c) : hexD (hexV c) = c := by
  unfold hexV at *
  by_cases h1 : 48 ≤ c.toNat ∧ c.toNat ≤ 57
  · rw [if_pos h1]
    unfold hexD
    rw [if_pos (by omega), show 48 + (c.toNat - 48) = c.toNat by omega]; simp
  · rw [if_neg h1] at h ⊢
    by_cases h2 : 97 ≤ c.toNat ∧ c.toNat ≤ 102
    · rw [if_pos h2]
      unfold hexD
      rw [if_neg (by omega), show 87 + (c.toNat - 87) = c.toNat by omega]; simp
    · rw [if_neg h2] at h; omega
theorem unq_one (c : UInt8) : unq [c] = if c.toNat < 32 ∨ 126 < c.toNat ∨ c = 34 ∨ c = 92 then none else some [c] := by rw [unq.eq_def]
theorem unq_two (c d : UInt8) (s : List UInt8) : unq (c :: d :: s) = if c.toNat < 32 ∨ 126 < c.toNat ∨ c = 34 then none
    else if c ≠ 92 then (unq (d :: s)).map (c :: ·)
    else if d = 34 ∨ d = 92 then (unq s).map (d :: ·)
    else match s with
      | a :: b :: r => if d ≠ 120 ∨ 15 < hexV a ∨ 15 < hexV b ∨ (32 ≤ 16 * hexV a + hexV b ∧ 16 * hexV a + hexV b ≤ 126) then none else (unq r).map (UInt8.ofNat (16 * hexV a + hexV b) :: ·)
      | _ => none := by rw [unq.eq_def]
theorem unq_cons {c : UInt8} (hc : ¬ (c.toNat < 32 ∨ 126 < c.toNat ∨ c = 34)) (h92 : c ≠ 92) (s : List UInt8) : unq (c :: s) = (unq s).map (c :: ·) := by
  cases s with
  | nil => 
    rw [unq_one, if_neg (by
      rintro (h | h | h | h)
      · exact hc (.inl h)
      · exact hc (.inr (.inl h))
      · exact hc (.inr (.inr h))
      · exact h92 h)]
    rfl
  | cons d s => rw [unq_two, if_neg hc, if_pos h92]
theorem unq_esc {d : UInt8} (hd : d = 34 ∨ d = 92) (s : List UInt8) : unq (92 :: d :: s) = (unq s).map (d :: ·) := by
  rw [unq_two, if_neg (by decide), if_neg (by simp), if_pos hd]
theorem unq_hex {a b : UInt8} (s : List UInt8) (h : ¬ (15 < hexV a ∨ 15 < hexV b ∨ (32 ≤ 16 * hexV a + hexV b ∧ 16 * hexV a + hexV b ≤ 126))) :
    unq (92 :: 120 :: a :: b :: s) = (unq s).map (UInt8.ofNat (16 * hexV a + hexV b) :: ·) := by
  rw [unq_two, if_neg (by decide), if_neg (by simp), if_neg (by decide)]
  exact if_neg (fun h1 => h1.elim (fun h2 => h2 rfl) h)
/-- A text is read of its quotes. -/
theorem unq_quote : ∀ s : List UInt8, unq (s.flatMap quC) = some s
  | [] => rfl
  | c :: s => by
    have ih := unq_quote s
    have hc := c.toNat_lt
    rw [List.flatMap_cons]
    rw [quC]
    by_cases h1 : c.toNat < 32 ∨ 126 < c.toNat
    · rw [if_pos h1]
      have ha := hexV_D (n := c.toNat / 16) (by omega)
      have hb := hexV_D (n := c.toNat % 16) (Nat.mod_lt _ (by omega))
      have he : 16 * (c.toNat / 16) + c.toNat % 16 = c.toNat := Nat.div_add_mod _ _
      simp only [List.cons_append, List.nil_append]
      rw [unq_hex _ (by rw [ha, hb, he]; omega), ha, hb, he, ih]
      simp
    · rw [if_neg h1]
      by_cases h2 : c = 34 ∨ c = 92
      · rw [if_pos h2]
        simp only [List.cons_append, List.nil_append]
        rw [unq_esc h2, ih]; rfl
      · rw [if_neg h2]
        simp only [List.cons_append, List.nil_append]
        rw [unq_cons (by rintro (h | h | h); · exact h1 (.inl h)
                         · exact h1 (.inr h)
                         · exact h2 (.inl h)) (fun h => h2 (.inr h)), ih]; rfl
/-- What is read of quotes has just that text. -/
theorem quote_unq (k : Nat) : ∀ (t : List UInt8) (u : List UInt8), t.length ≤ k → unq t = some u → u.flatMap quC = t := by
  induction k with
  | zero =>
    intro t u hl h
    have : t = [] := List.eq_nil_of_length_eq_zero (by omega)
    subst this
    simp only [unq, Option.some.injEq] at h
    subst h; rfl
  | succ k ih =>
    intro t u hl h
    match t, hl, h with
    | [], _, h =>
      simp only [unq, Option.some.injEq] at h
      subst h; rfl
    | [c], _, h =>
      rw [unq_one] at h
      split at h
      · cases h
      · rename_i hc
        injection h with h
        subst h
        simp only [List.flatMap_cons, List.flatMap_nil, List.append_nil, quC]
        rw [if_neg (by rintro (h | h); · exact hc (.inl h)
                       · exact hc (.inr (.inl h))), if_neg (by rintro (h | h); · exact hc (.inr (.inr (.inl h)))
                                                               · exact hc (.inr (.inr (.inr h))))]
    | c :: d :: s, hl, h =>
      rw [unq_two] at h
      split at h
      · cases h
      · rename_i hc
        split at h
        · rename_i h92
          obtain ⟨u', hu', rfl⟩ := Option.map_eq_some_iff.1 h
          have := ih (d :: s) u' (by simp at hl ⊢; omega) hu'
          rw [List.flatMap_cons, this, quC, if_neg (by rintro (h | h); · exact hc (.inl h)
                                                       · exact hc (.inr (.inl h))), if_neg (by rintro (h | h); · exact hc (.inr (.inr h))
                                                                                               · exact h92 h)]
          rfl
        · rename_i h92
          have h92 : c = 92 := by simpa using h92
          subst h92
          split at h
          · rename_i hd
            obtain ⟨u', hu', rfl⟩ := Option.map_eq_some_iff.1 h
            have := ih s u' (by simp at hl; omega) hu'
            rw [List.flatMap_cons, this, quC, if_neg (by rcases hd with rfl | rfl <;> decide), if_pos hd]
            rfl
          · match s, hl, h with
            | a :: b :: r, hl, h =>
              simp only at h
              split at h
              · cases h
              · rename_i hx
                obtain ⟨u', hu', rfl⟩ := Option.map_eq_some_iff.1 h
                have := ih r u' (by simp at hl; omega) hu'
                have hd : d = 120 := Decidable.byContradiction fun e => hx (.inl e)
                have ha : ¬ 15 < hexV a := fun e => hx (.inr (.inl e))
                have hb : ¬ 15 < hexV b := fun e => hx (.inr (.inr (.inl e)))
                have hab : ¬ (32 ≤ 16 * hexV a + hexV b ∧ 16 * hexV a + hexV b ≤ 126) := fun e => hx (.inr (.inr (.inr e)))
                have hn : (UInt8.ofNat (16 * hexV a + hexV b)).toNat = 16 * hexV a + hexV b := by simp; omega
                rw [List.flatMap_cons, this, quC, hn, if_pos (by omega), show (16 * hexV a + hexV b) / 16 = hexV a by omega, show (16 * hexV a + hexV b) % 16 = hexV b by omega, hexD_V ha, hexD_V hb, hd]
                rfl
            | [_], _, h => cases h
            | [], _, h => cases h
theorem unquote_quote (s : List UInt8) : unquote (quote s) = some s := by
  unfold unquote quote
  rw [if_neg]
  · rw [List.drop_one, List.tail_cons, List.dropLast_concat]
    exact unq_quote s
  · rintro (h | h | h)
    · simp at h; omega
    · simp at h
    · apply h
      rw [show (34 : UInt8) :: (s.flatMap quC ++ [34]) = ((34 : UInt8) :: s.flatMap quC) ++ [34] by simp, List.getLast?_concat]
theorem quote_unquote {t u : List UInt8} (h : unquote t = some u) : quote u = t := by
  unfold unquote at h
  split at h
  · cases h
  · rename_i hc
    have h2 : 2 ≤ t.length := by
      rcases Nat.lt_or_ge t.length 2 with h | h
      · exact absurd (.inl h) hc
      · exact h
    have hh : t.head? = some 34 := Decidable.byContradiction fun e => hc (.inr (.inl e))
    have hl : t.getLast? = some 34 := Decidable.byContradiction fun e => hc (.inr (.inr e))
    have hq := quote_unq _ _ _ (Nat.le_refl _) h
    unfold quote
    rw [hq]
    match t, h2, hh, hl with
    | c :: d :: s, _, hh, hl =>
      simp only [List.head?_cons, Option.some.injEq] at hh
      subst hh
      rw [List.drop_one, List.tail_cons]
      have hl' : (d :: s).getLast? = some 34 := by simpa using hl
      congr 1
      have hne : d :: s ≠ [] := by simp
      have := List.dropLast_concat_getLast hne
      rw [List.getLast?_eq_some_getLast hne] at hl'
      injection hl' with hl'
      rw [hl'] at this
      exact this
end Go.Proofs.Ytbidnflcbgnckaa
namespace Go.Proofs.Ytbidnflcbgnckaa

structure Wd where
  kind : Int
  n : Int
  pos : Int
  s : List UInt8
deriving DecidableEq
def run (lo hi : Nat) : List UInt8 → Nat
  | [] => 0
  | c :: s => if lo ≤ c.toNat ∧ c.toNat ≤ hi then run lo hi s + 1 else 0
/-- How many bytes a text in quotes has; i of them, its first quote among them, lie ahead. -/
def qt : List UInt8 → Nat → Nat
  | [], _ => 0
  | [c], i => if c = 34 then i + 1 else 0
  | c :: d :: s, i => if c = 34 then i + 1 else if c = 92 then qt s (i + 2) else qt (d :: s) (i + 1)
def sign (c : UInt8) : Bool := c = 40 || c = 41 || c = 61 || c = 60 || c = 62 || c = 126
structure Fst where
  kind : Int
  n : Int
  s : List UInt8
  len : Nat
/-- The word that a text begins with. -/
def fst : List UInt8 → Option Fst
  | [] => none
  | c :: r =>
    if 97 ≤ c.toNat ∧ c.toNat ≤ 122 then some ⟨1, 0, (c :: r).take (run 97 122 (c :: r)), run 97 122 (c :: r)⟩
    else if 48 ≤ c.toNat ∧ c.toNat ≤ 57 then (intR ((c :: r).take (run 48 57 (c :: r))) 1099511627776).map fun (v : Nat) => (⟨2, (v : Int), [], run 48 57 (c :: r)⟩ : Fst)
    else if c = 34 then (if qt r 1 = 0 then none else match unquote ((c :: r).take (qt r 1)) with
      | none => none
      | some u => if u.length ≤ 24 then some ⟨3, 0, u, qt r 1⟩ else none)
    else if sign c then some ⟨4, 0, [c], 1⟩ else none
/-- The words of a text whose first byte stands at a place, and the place of what is wrong. -/
def lexF : Nat → List UInt8 → Nat → List Wd × Option Nat
  | 0, _, _ => ([], none)
  | _ + 1, [], _ => ([], none)
  | f + 1, c :: r, p =>
    if c = 32 then lexF f r (p + 1)
    else match fst (c :: r) with
      | none => ([], some p)
      | some x => (⟨x.kind, x.n, p, x.s⟩ :: (lexF f ((c :: r).drop x.len) (p + x.len)).1, (lexF f ((c :: r).drop x.len) (p + x.len)).2)

theorem run_le (lo hi : Nat) : ∀ s, run lo hi s ≤ s.length
  | [] => by simp [run]
  | c :: s => by
    have := run_le lo hi s
    unfold run; split <;> simp; omega
theorem run_take (lo hi : Nat) : ∀ s : List UInt8, ∀ c ∈ s.take (run lo hi s), lo ≤ c.toNat ∧ c.toNat ≤ hi
  | [] => by simp [run]
  | c :: s => by
    intro d hd
    unfold run at hd
    split at hd
    · rename_i h
      rw [List.take_succ_cons] at hd
      rcases List.mem_cons.1 hd with rfl | hd
      · exact h
      · exact run_take lo hi s d hd
    · simp at hd
theorem run_all (lo hi : Nat) : ∀ (s r : List UInt8), (∀ c ∈ s, lo ≤ c.toNat ∧ c.toNat ≤ hi) → (∀ c, r.head? = some c → ¬ (lo ≤ c.toNat ∧ c.toNat ≤ hi)) → run lo hi (s ++ r) = s.length
  | [], [], _, _ => rfl
  | [], c :: r, _, h => by
    rw [List.nil_append, run, if_neg (h c rfl)]; rfl
  | c :: s, r, h, hr => by
    rw [List.cons_append, run, if_pos (h c (List.mem_cons_self ..)), run_all lo hi s r (fun d hd => h d (List.mem_cons_of_mem _ hd)) hr]; rfl
theorem qt_le : ∀ (k : Nat) (s : List UInt8) (i : Nat), s.length ≤ k → qt s i ≤ i + s.length
  | _, [], i, _ => by simp [qt]
  | _, [c], i, _ => by unfold qt; split <;> simp
  | 0, c :: d :: s, i, h => by simp at h
  | k + 1, c :: d :: s, i, h => by
    have h1 := qt_le k s (i + 2) (by simp at h; omega)
    have h2 := qt_le k (d :: s) (i + 1) (by simp at h ⊢; omega)
    unfold qt
    split
    · simp
    · split
      · simp; omega
      · simp at h2 ⊢; omega
theorem qt_plain {c : UInt8} (h1 : c ≠ 34) (h2 : c ≠ 92) (s : List UInt8) (hs : s ≠ []) (i : Nat) : qt (c :: s) i = qt s (i + 1) := by
  cases s with
  | nil => exact absurd rfl hs
  | cons d s => rw [qt, if_neg h1, if_neg h2]
theorem qt_esc (d : UInt8) (s : List UInt8) (i : Nat) : qt (92 :: d :: s) i = qt s (i + 2) := by rw [qt, if_neg (by decide), if_pos rfl]
theorem qt_end (s : List UInt8) (i : Nat) : qt (34 :: s) i = i + 1 := by
  cases s with
  | nil => rw [qt, if_pos rfl]
  | cons d s => rw [qt, if_pos rfl]
theorem hexD_ne {n : Nat} (h : n < 16) : hexD n ≠ 34 ∧ hexD n ≠ 92 := by
  have e := hexV_D h
  constructor
  · intro h0
    rw [h0] at e
    have : hexV 34 = 16 := by decide
    omega
  · intro h0
    rw [h0] at e
    have : hexV 92 = 16 := by decide
    omega
theorem qt_quC (c : UInt8) (s : List UInt8) (hs : s ≠ []) (i : Nat) : qt (quC c ++ s) i = qt s (i + (quC c).length) := by
  have hc := c.toNat_lt
  unfold quC
  split
  · obtain ⟨a1, a2⟩ := hexD_ne (n := c.toNat / 16) (by omega)
    obtain ⟨b1, b2⟩ := hexD_ne (n := c.toNat % 16) (Nat.mod_lt _ (by omega))
    simp only [List.cons_append, List.nil_append, List.length_cons, List.length_nil]
    rw [qt_esc, qt_plain a1 a2 _ (by simp), qt_plain b1 b2 _ hs]
  · split
    · simp only [List.cons_append, List.nil_append, List.length_cons, List.length_nil]
      rw [qt_esc]
    · rename_i h1 h2
      simp only [List.cons_append, List.nil_append, List.length_cons, List.length_nil]
      rw [qt_plain (fun h => h2 (.inl h)) (fun h => h2 (.inr h)) _ hs]
theorem qt_quote : ∀ (s r : List UInt8) (i : Nat), qt (s.flatMap quC ++ 34 :: r) i = i + (s.flatMap quC).length + 1
  | [], r, i => by simp [qt_end]
  | c :: s, r, i => by
    rw [List.flatMap_cons, List.append_assoc, qt_quC c _ (by simp), qt_quote s r, List.length_append]; omega

/-- What a word is. -/
def Wd.may (kind n : Int) (s : List UInt8) : Prop :=
  (kind = 1 ∧ n = 0 ∧ s ≠ [] ∧ ∀ c ∈ s, 97 ≤ c.toNat ∧ c.toNat ≤ 122) ∨ (kind = 2 ∧ s = [] ∧ 0 ≤ n ∧ n ≤ 1099511627776) ∨ (kind = 3 ∧ n = 0 ∧ s.length ≤ 24) ∨ (kind = 4 ∧ n = 0 ∧ ∃ c, s = [c] ∧ sign c = true)
def wText (kind n : Int) (s : List UInt8) : List UInt8 := if kind = 2 then tens n.toNat else if kind = 3 then quote s else s
def Apart (r : List UInt8) : Prop := ∀ c, r.head? = some c → c = 32
theorem sign_not {c : UInt8} (h : sign c = true) : ¬ (97 ≤ c.toNat ∧ c.toNat ≤ 122) ∧ ¬ (48 ≤ c.toNat ∧ c.toNat ≤ 57) ∧ c ≠ 34 ∧ c ≠ 32 := by
  unfold sign at h
  simp only [Bool.or_eq_true, decide_eq_true_eq] at h
  rcases h with ((((rfl | rfl) | rfl) | rfl) | rfl) | rfl <;> decide
/-- A word's text, with nothing or a blank behind it, begins with that word. -/
theorem fst_text {kind n : Int} {s r : List UInt8} (h : Wd.may kind n s) (hr : Apart r) : fst (wText kind n s ++ r) = some ⟨kind, n, s, (wText kind n s).length⟩ ∧ 0 < (wText kind n s).length ∧ (wText kind n s ++ r).head? ≠ some 32 := by
  rcases h with ⟨rfl, rfl, hs, hc⟩ | ⟨rfl, rfl, h0, h1⟩ | ⟨rfl, rfl, hl⟩ | ⟨rfl, rfl, c, rfl, hc⟩
  · unfold wText
    rw [if_neg (by decide), if_neg (by decide)]
    have hrun := run_all 97 122 s r hc (fun c h => by rw [hr c h]; decide)
    cases s with
    | nil => exact absurd rfl hs
    | cons c s =>
      have hcc := hc c (List.mem_cons_self ..)
      rw [List.cons_append] at hrun ⊢
      rw [fst, if_pos hcc, hrun]
      refine ⟨?_, by simp, ?_⟩
      · have : (c :: (s ++ r)).take (c :: s).length = c :: s := by rw [← List.cons_append]; exact List.take_left
        rw [this]
      · intro h
        simp only [List.head?_cons, Option.some.injEq] at h
        subst h
        exact absurd hcc (by decide)
  · unfold wText
    rw [if_pos rfl]
    have hd := tens_digits n.toNat
    have hrun := run_all 48 57 (tens n.toNat) r hd (fun c h => by rw [hr c h]; decide)
    have hne := tens_ne n.toNat
    have hint := intR_tens (n := n.toNat) (most := 1099511627776) (by omega) (by omega)
    cases ht : tens n.toNat with
    | nil => exact absurd ht hne
    | cons c t =>
      rw [ht] at hd hrun hint
      have hcc := hd c (List.mem_cons_self ..)
      rw [List.cons_append] at hrun ⊢
      rw [fst, if_neg (by omega), if_pos hcc, hrun]
      have : (c :: (t ++ r)).take (c :: t).length = c :: t := by rw [← List.cons_append]; exact List.take_left
      rw [this, hint]
      refine ⟨?_, by simp, ?_⟩
      · simp only [Option.map_some]
        rw [Int.toNat_of_nonneg h0]
      · intro h
        simp only [List.head?_cons, Option.some.injEq] at h
        subst h
        exact absurd hcc (by decide)
  · unfold wText
    rw [if_neg (by decide), if_pos rfl]
    have hq := qt_quote s r 1
    have hlen : (quote s).length = 1 + (s.flatMap quC).length + 1 := by unfold quote; simp; omega
    have e : quote s ++ r = 34 :: (s.flatMap quC ++ 34 :: r) := by unfold quote; simp
    rw [e, fst, if_neg (by decide), if_neg (by decide), if_pos rfl, hq, if_neg (by omega), ← e, ← hlen, List.take_left, unquote_quote]
    simp only
    rw [if_pos hl]
    refine ⟨rfl, by omega, by rw [e]; simp⟩
  · unfold wText
    rw [if_neg (by decide), if_neg (by decide)]
    obtain ⟨h1, h2, h3, h4⟩ := sign_not hc
    rw [List.cons_append, fst, if_neg h1, if_neg h2, if_neg h3, if_pos hc]
    exact ⟨rfl, by simp, by simpa using h4⟩
theorem fst_may {s : List UInt8} {x : Fst} (h : fst s = some x) : Wd.may x.kind x.n x.s ∧ 0 < x.len ∧ x.len ≤ s.length := by
  cases s with
  | nil => cases h
  | cons c r =>
    rw [fst] at h
    split at h
    · rename_i hc
      injection h with h
      subst h
      have h1 := run_le 97 122 (c :: r)
      have h2 : 0 < run 97 122 (c :: r) := by rw [run, if_pos hc]; omega
      refine ⟨.inl ⟨rfl, rfl, ?_, run_take 97 122 (c :: r)⟩, h2, h1⟩
      intro h0
      have := congrArg List.length h0
      rw [List.length_take] at this
      simp only [List.length_nil] at this
      omega
    · split at h
      · rename_i hc
        obtain ⟨v, hv, rfl⟩ := Option.map_eq_some_iff.1 h
        obtain ⟨_, h3, _⟩ := tens_intR hv
        have h1 := run_le 48 57 (c :: r)
        have h2 : 0 < run 48 57 (c :: r) := by rw [run, if_pos hc]; omega
        exact ⟨.inr (.inl ⟨rfl, rfl, by simp only; omega, by simp only; omega⟩), h2, h1⟩
      · split at h
        · split at h
          · cases h
          · rename_i h0
            cases hu : unquote ((c :: r).take (qt r 1)) with
            | none => rw [hu] at h; cases h
            | some u =>
              rw [hu] at h
              simp only at h
              split at h
              · rename_i hl
                injection h with h
                subst h
                have := qt_le r.length r 1 (Nat.le_refl _)
                exact ⟨.inr (.inr (.inl ⟨rfl, rfl, hl⟩)), by simp only; omega, by simp only [List.length_cons]; omega⟩
              · cases h
        · split at h
          · rename_i hc
            injection h with h
            subst h
            exact ⟨.inr (.inr (.inr ⟨rfl, rfl, c, rfl, hc⟩)), by simp, by simp⟩
          · cases h
theorem lexF_may : ∀ f s p, ∀ w ∈ (lexF f s p).1, Wd.may w.kind w.n w.s
  | 0, _, _, w, h => by simp [lexF] at h
  | f + 1, [], p, w, h => by simp [lexF] at h
  | f + 1, c :: r, p, w, h => by
    rw [lexF] at h
    split at h
    · exact lexF_may f r (p + 1) w h
    · cases hx : fst (c :: r) with
      | none => rw [hx] at h; simp at h
      | some x =>
        rw [hx] at h
        simp only at h
        rcases List.mem_cons.1 h with rfl | h
        · exact (fst_may hx).1
        · exact lexF_may f _ _ w h
/-! Words put one behind the other. -/
def Wd.text (w : Wd) : List UInt8 := wText w.kind w.n w.s
def gap (p : Nat) : List UInt8 := if p = 0 then [] else [32]
def joinW : Nat → List Wd → List UInt8
  | _, [] => []
  | p, w :: l => gap p ++ (w.text ++ joinW (p + (gap p).length + w.text.length) l)
theorem lexF_more : ∀ f s p, s.length ≤ f → lexF f s p = lexF s.length s p := by
  intro f
  induction f using Nat.strongRecOn with
  | _ f ih =>
    intro s p h
    cases s with
    | nil => cases f <;> rfl
    | cons c r =>
      cases f with
      | zero => simp at h
      | succ f =>
        rw [List.length_cons, lexF, lexF]
        split
        · exact ih f (by omega) r (p + 1) (by simpa using h)
        · cases hx : fst (c :: r) with
          | none => rfl
          | some x =>
            obtain ⟨_, h1, h2⟩ := fst_may hx
            simp only
            have hl : ((c :: r).drop x.len).length ≤ r.length := by rw [List.length_drop, List.length_cons]; omega
            rw [ih f (by omega) _ _ (by simp at h; omega)]
            by_cases hrf : r.length < f + 1
            · rw [ih r.length hrf ((c :: r).drop x.len) (p + x.len) hl]
            · simp at h; omega
theorem lexF_word {f : Nat} {w : Wd} (h : Wd.may w.kind w.n w.s) {r : List UInt8} (hr : Apart r) (p : Nat) (hf : (w.text ++ r).length ≤ f) :
    lexF f (w.text ++ r) p = (⟨w.kind, w.n, p, w.s⟩ :: (lexF r.length r (p + w.text.length)).1, (lexF r.length r (p + w.text.length)).2) := by
  obtain ⟨h1, h2, h3⟩ := fst_text h hr
  have hw : w.text = wText w.kind w.n w.s := rfl
  rw [← hw] at h1 h2 h3
  rw [lexF_more f _ p hf]
  cases ht : w.text ++ r with
  | nil =>
    have := congrArg List.length ht
    rw [List.length_append, List.length_nil] at this
    omega
  | cons c t =>
    rw [ht] at h1 h3
    rw [List.length_cons, lexF, if_neg (fun h => h3 (by rw [h]; rfl)), h1]
    simp only
    rw [← ht, List.drop_left, lexF_more t.length r _ (by
      have := congrArg List.length ht
      rw [List.length_append, List.length_cons] at this
      omega)]
end Go.Proofs.Ytbidnflcbgnckaa
namespace Go.Proofs.Ytbidnflcbgnckaa
open Go.RowKit

/-- What is read of words, and what is left; or what is wrong, and where. -/
inductive PR (α : Type) where
  | ok (a : α) (r : List Wd)
  | bad (pos e : Int)
def nd (op n : Int) (v : Val) : List Node := [⟨op, n, v⟩]
def zv : Val := ⟨0, 0, []⟩
/-- The place of the next word. -/
def posW (N : Int) : List Wd → Int
  | [] => N
  | w :: _ => w.pos
/-- Is the next word that of a kind, with a text? -/
def isW (k : Int) (s : List UInt8) : List Wd → Bool
  | [] => false
  | w :: _ => decide (w.kind = k) && decide (w.s = s)
def pNum (N below : Int) : List Wd → PR Int
  | [] => .bad N 3
  | w :: r => if w.kind = 2 then (if below ≤ w.n then .bad w.pos 1 else .ok w.n r) else .bad w.pos 3
/-- What stands behind a sign. -/
def pVal (N op n : Int) : List Wd → PR (List Node)
  | [] => .bad N 3
  | w :: r => if w.kind = 3 then .ok (nd op n ⟨2, 0, w.s⟩) r else if w.kind = 2 ∧ op ≠ 9 then .ok (nd op n ⟨1, w.n, []⟩) r else .bad w.pos 3
def signOp (s : List UInt8) : Int := if s = [61] then 6 else if s = [60] then 7 else if s = [62] then 8 else if s = [126] then 9 else 0
def pSign (N n : Int) : List Wd → PR (List Node)
  | [] => .bad N 3
  | w :: r => if w.kind = 4 ∧ signOp w.s ≠ 0 then pVal N (signOp w.s) n r else .bad w.pos 3
def pField (N : Int) (ws : List Wd) : PR (List Node) := match pNum N 8 ws with
  | .bad p e => .bad p e
  | .ok n r => pSign N n r
def pLeaf (N op below : Int) (ws : List Wd) : PR (List Node) := match pNum N below ws with
  | .bad p e => .bad p e
  | .ok n r => .ok (nd op n zv) r
def pClose (N : Int) (x : PR (List Node)) : PR (List Node) := match x with
  | .bad p e => .bad p e
  | .ok l r => if isW 4 [41] r then .ok l (r.drop 1) else .bad (posW N r) 3
def pNot (x : PR (List Node)) : PR (List Node) := match x with
  | .bad p e => .bad p e
  | .ok l r => .ok (joined 10 l) r
abbrev sNot : List UInt8 := [110, 111, 116]
abbrev sAll : List UInt8 := [97, 108, 108]
abbrev sNever : List UInt8 := [110, 101, 118, 101, 114]
abbrev sLabel : List UInt8 := [108, 97, 98, 101, 108]
abbrev sMember : List UInt8 := [109, 101, 109, 98, 101, 114]
abbrev sHas : List UInt8 := [104, 97, 115]
abbrev sField : List UInt8 := [102, 105, 101, 108, 100]
abbrev sAnd : List UInt8 := [97, 110, 100]
abbrev sOr : List UInt8 := [111, 114]
/-- A word of letters that takes no part. -/
def pWord (N : Int) (w : Wd) (r : List Wd) : PR (List Node) :=
  if w.s = sAll then .ok (nd 1 0 zv) r else if w.s = sNever then .ok (nd 2 0 zv) r else if w.s = sLabel then pLeaf N 3 16 r
  else if w.s = sMember then pLeaf N 4 16 r else if w.s = sHas then pLeaf N 5 8 r else if w.s = sField then pField N r else .bad w.pos 3
mutual
def pOne (N : Int) : Nat → List Wd → PR (List Node)
  | 0, _ => .bad 0 3
  | f + 1, ws => match ws with
    | [] => .bad N 3
    | w :: r => if w.kind = 4 ∧ w.s = [40] then pClose N (pAny N f r) else if w.kind = 1 then (if w.s = sNot then pNot (pOne N f r) else pWord N w r) else .bad w.pos 3
def pAll (N : Int) : Nat → List Wd → PR (List Node)
  | 0, _ => .bad 0 3
  | f + 1, ws => match pOne N f ws with
    | .bad p e => .bad p e
    | .ok l r => pAllL N f l r
def pAllL (N : Int) : Nat → List Node → List Wd → PR (List Node)
  | 0, _, _ => .bad 0 3
  | f + 1, l, ws => if isW 1 sAnd ws then (match pOne N f (ws.drop 1) with
      | .bad p e => .bad p e
      | .ok m r => pAllL N f (joined 11 (l ++ m)) r) else .ok l ws
def pAny (N : Int) : Nat → List Wd → PR (List Node)
  | 0, _ => .bad 0 3
  | f + 1, ws => match pAll N f ws with
    | .bad p e => .bad p e
    | .ok l r => pAnyL N f l r
def pAnyL (N : Int) : Nat → List Node → List Wd → PR (List Node)
  | 0, _, _ => .bad 0 3
  | f + 1, l, ws => if isW 1 sOr ws then (match pAll N f (ws.drop 1) with
      | .bad p e => .bad p e
      | .ok m r => pAnyL N f (joined 12 (l ++ m)) r) else .ok l ws
end
/-- What is read is shorter than what was there, and no longer than what was taken. -/
def Fits (ws : List Wd) : PR (List Node) → Prop
  | .bad _ _ => True
  | .ok l r => 1 ≤ l.length ∧ l.length + r.length ≤ ws.length ∧ ∃ k, r = ws.drop k
theorem Fits.tail {w : Wd} {r : List Wd} {x : PR (List Node)} (h : Fits r x) : Fits (w :: r) x := by
  cases x with
  | bad p e => trivial
  | ok l q =>
    obtain ⟨h1, h2, k, h3⟩ := h
    exact ⟨h1, by rw [List.length_cons]; omega, k + 1, by rw [h3]; rfl⟩
theorem joined_lenP (op : Int) (l : List Node) : (joined op l).length = l.length + 1 := rfl
theorem isW_len {k : Int} {s : List UInt8} {ws : List Wd} (h : isW k s ws = true) : 1 ≤ ws.length ∧ (ws.drop 1).length + 1 = ws.length := by
  cases ws with
  | nil => cases h
  | cons w r => simp
theorem pVal_fit (N op n : Int) (ws : List Wd) : Fits ws (pVal N op n ws) := by
  cases ws with
  | nil => trivial
  | cons w r =>
    simp only [pVal]
    split
    · exact ⟨by simp [nd], by simp [nd]; omega, 1, rfl⟩
    · split
      · exact ⟨by simp [nd], by simp [nd]; omega, 1, rfl⟩
      · trivial
theorem pSign_fit (N n : Int) (ws : List Wd) : Fits ws (pSign N n ws) := by
  cases ws with
  | nil => trivial
  | cons w r =>
    simp only [pSign]
    split
    · exact (pVal_fit N _ n r).tail
    · trivial
theorem pNum_fit {N below n : Int} {ws r : List Wd} (h : pNum N below ws = .ok n r) : ∃ w, ws = w :: r ∧ w.kind = 2 ∧ n = w.n ∧ w.n < below := by
  cases ws with
  | nil => cases h
  | cons w q =>
    simp only [pNum] at h
    split at h
    · rename_i hk
      split at h
      · cases h
      · injection h with h1 h2
        subst h1 h2
        exact ⟨w, rfl, hk, rfl, by omega⟩
    · cases h
theorem pField_fit (N : Int) (ws : List Wd) : Fits ws (pField N ws) := by
  unfold pField
  cases h : pNum N 8 ws with
  | bad p e => trivial
  | ok n r =>
    obtain ⟨w, rfl, _⟩ := pNum_fit h
    exact (pSign_fit N n r).tail
theorem pLeaf_fit (N op below : Int) (ws : List Wd) : Fits ws (pLeaf N op below ws) := by
  unfold pLeaf
  cases h : pNum N below ws with
  | bad p e => trivial
  | ok n r =>
    obtain ⟨w, rfl, _⟩ := pNum_fit h
    exact ⟨by simp [nd], by simp [nd]; omega, 1, rfl⟩
theorem pWord_fit (N : Int) (w : Wd) (r : List Wd) : Fits (w :: r) (pWord N w r) := by
  unfold pWord
  split
  · exact ⟨by simp [nd], by simp [nd]; omega, 1, rfl⟩
  · split
    · exact ⟨by simp [nd], by simp [nd]; omega, 1, rfl⟩
    · split
      · exact (pLeaf_fit N 3 16 r).tail
      · split
        · exact (pLeaf_fit N 4 16 r).tail
        · split
          · exact (pLeaf_fit N 5 8 r).tail
          · split
            · exact (pField_fit N r).tail
            · trivial
theorem p_fit (N : Int) : ∀ (f : Nat), (∀ ws, Fits ws (pOne N f ws)) ∧ (∀ ws, Fits ws (pAll N f ws)) ∧
    (∀ (l : List Node) ws0 ws, 1 ≤ l.length → l.length + ws.length ≤ ws0.length → (∃ k, ws = ws0.drop k) → Fits ws0 (pAllL N f l ws)) ∧ (∀ ws, Fits ws (pAny N f ws)) ∧
    (∀ (l : List Node) ws0 ws, 1 ≤ l.length → l.length + ws.length ≤ ws0.length → (∃ k, ws = ws0.drop k) → Fits ws0 (pAnyL N f l ws))
  | 0 => ⟨fun _ => trivial, fun _ => trivial, fun _ _ _ _ _ _ => trivial, fun _ => trivial, fun _ _ _ _ _ _ => trivial⟩
  | f + 1 => by
    obtain ⟨i1, i2, i3, i4, i5⟩ := p_fit N f
    refine ⟨fun ws => ?_, fun ws => ?_, fun l ws0 ws h1 h2 h3 => ?_, fun ws => ?_, fun l ws0 ws h1 h2 h3 => ?_⟩
    · unfold pOne
      cases ws with
      | nil => trivial
      | cons w r =>
        simp only
        split
        · have := i4 r
          cases hx : pAny N f r with
          | bad p e => trivial
          | ok l q =>
            rw [hx] at this
            obtain ⟨a1, a2, k, a3⟩ := this
            unfold pClose
            simp only
            split
            · refine ⟨a1, by rw [List.length_drop, List.length_cons]; omega, k + 2, ?_⟩
              rw [a3]; simp
            · trivial
        · split
          · split
            · have := i1 r
              cases hx : pOne N f r with
              | bad p e => trivial
              | ok l q =>
                rw [hx] at this
                obtain ⟨a1, a2, k, a3⟩ := this
                exact ⟨by rw [joined_lenP]; omega, by rw [joined_lenP, List.length_cons]; omega, k + 1, by rw [a3]; rfl⟩
            · exact pWord_fit N w r
          · trivial
    · unfold pAll
      have := i1 ws
      cases hx : pOne N f ws with
      | bad p e => trivial
      | ok l r =>
        rw [hx] at this
        exact i3 l ws r this.1 this.2.1 this.2.2
    · unfold pAllL
      split
      · rename_i hw
        obtain ⟨w1, w2⟩ := isW_len hw
        obtain ⟨k, h3⟩ := h3
        have := i1 (ws.drop 1)
        cases hx : pOne N f (ws.drop 1) with
        | bad p e => trivial
        | ok m r =>
          rw [hx] at this
          obtain ⟨a1, a2, j, a3⟩ := this
          simp only
          exact i3 _ ws0 r (by rw [joined_lenP]; omega) (by rw [joined_lenP, List.length_append]; omega) ⟨k + 1 + j, by rw [a3, h3]; first | (simp [List.drop_drop]; done) | (simp [List.drop_drop]; congr 1; omega)⟩
      · exact ⟨h1, h2, h3⟩
    · unfold pAny
      have := i2 ws
      cases hx : pAll N f ws with
      | bad p e => trivial
      | ok l r =>
        rw [hx] at this
        exact i5 l ws r this.1 this.2.1 this.2.2
    · unfold pAnyL
      split
      · rename_i hw
        obtain ⟨w1, w2⟩ := isW_len hw
        obtain ⟨k, h3⟩ := h3
        have := i2 (ws.drop 1)
        cases hx : pAll N f (ws.drop 1) with
        | bad p e => trivial
        | ok m r =>
          rw [hx] at this
          obtain ⟨a1, a2, j, a3⟩ := this
          simp only
          exact i5 _ ws0 r (by rw [joined_lenP]; omega) (by rw [joined_lenP, List.length_append]; omega) ⟨k + 1 + j, by rw [a3, h3]; first | (simp [List.drop_drop]; done) | (simp [List.drop_drop]; congr 1; omega)⟩
      · exact ⟨h1, h2, h3⟩
theorem pOne_fit (N : Int) (f : Nat) (ws : List Wd) : Fits ws (pOne N f ws) := (p_fit N f).1 ws
theorem pAll_fit (N : Int) (f : Nat) (ws : List Wd) : Fits ws (pAll N f ws) := (p_fit N f).2.1 ws
theorem pAny_fit (N : Int) (f : Nat) (ws : List Wd) : Fits ws (pAny N f ws) := (p_fit N f).2.2.2.1 ws
/-- What a text's words are read as. -/
def pTop (N : Int) (ws : List Wd) : PR (List Node) := match pAny N (4 * ws.length + 8) ws with
  | .bad p e => .bad p e
  | .ok l r => if r = [] then .ok l [] else .bad (posW N r) 3
end Go.Proofs.Ytbidnflcbgnckaa
namespace Go.Proofs.Ytbidnflcbgnckaa
open Go.RowKit

theorem add_lit (g n : Nat) : (⟨g, 0, none⟩ : Addr).add n = ⟨g, n, none⟩ := by
  unfold Addr.add; split
  · subst_vars; rfl
  · simp
theorem add_lit' (g o n : Nat) : (⟨g, o, none⟩ : Addr).add n = ⟨g, o + n, none⟩ := by
  unfold Addr.add; split
  · subst_vars; rfl
  · simp
section
variable {α : Type} {k : Nat} {cs : α → List Value}
theorem flat_length (hk : ∀ x, (cs x).length = k) : ∀ l : List α, (l.flatMap cs).length = l.length * k
  | [] => by simp
  | x :: l => by rw [List.flatMap_cons, List.length_append, flat_length hk l, hk, List.length_cons, Nat.add_mul]; omega
theorem flat_get (hk : ∀ x, (cs x).length = k) : ∀ (l : List α) (i : Nat) (h : i < l.length) (j : Nat), j < k → (l.flatMap cs)[i * k + j]? = (cs l[i])[j]?
  | [], i, h, _, _ => by simp at h
  | x :: l, 0, _, j, hj => by simp only [List.flatMap_cons, Nat.zero_mul, Nat.zero_add, List.getElem_cons_zero]; rw [List.getElem?_append_left (by rw [hk]; exact hj)]
  | x :: l, i + 1, h, j, hj => by
    simp only [List.flatMap_cons, List.getElem_cons_succ]
    rw [List.getElem?_append_right (by rw [hk, Nat.add_mul]; omega), hk, show (i + 1) * k + j - k = i * k + j by rw [Nat.add_mul]; omega]
    exact flat_get hk l i (by simpa using h) j hj
end

/-- What append asks of a slice's type t and its element type e. -/
structure Elem (P : Program) (t e : TypeId) (size bytes : Nat) : Prop where
  under : P.underlying t = some (.slice e)
  info : ∃ i z, P.info? e = some i ∧ i.zero = some z ∧ i.size = size ∧ i.bytes = bytes ∧ z.cells.size = size
  pos : 0 < size
  small : bytes ≤ 16384
theorem Elem.mk' {P : Program} {t e : TypeId} {z : Value} {size bytes : Nat} (hu : P.underlying t = some (.slice e)) (hi : (P.info? e).map (fun i => (i.zero, i.size, i.bytes)) = some (some z, size, bytes)) (hz : z.cells.size = size) (hp : 0 < size) (hb : bytes ≤ 16384) :
    Elem P t e size bytes := by
  obtain ⟨i, h1, h2, h3, h4⟩ := info_parts hi
  exact ⟨hu, ⟨i, z, h1, h2, h3, h4, hz⟩, hp, hb⟩

section
variable {w w' : World} {base : Nat} {e : TypeId} {size n : Nat} {v : Value} {xs : List Value}
theorem own_below (h : w.ownsRow base e size v n xs) (hb : Below w.heap.size w w') : w'.ownsRow base e size v n xs := by
  obtain ⟨h1, h2⟩ := h
  refine ⟨h1, ?_⟩
  rcases h2 with h2 | ⟨g, cap, cur, hv, hg, hh, r⟩
  · exact .inl h2
  · exact .inr ⟨g, cap, cur, hv, hg, by rw [hb.block g (by
      rcases Nat.lt_or_ge g w.heap.size with hlt | hge
      · exact hlt
      · rw [Array.getElem?_eq_none hge] at hh; cases hh)]; exact hh, r⟩
theorem own_base {base' : Nat} (h : w.ownsRow base e size v n xs) (hb : base' ≤ base) : w.ownsRow base' e size v n xs :=
  ⟨h.1, h.2.imp id fun ⟨g, cap, cur, hv, hg, r⟩ => ⟨g, cap, cur, hv, Nat.le_trans hb hg, r⟩⟩
theorem grown_below {B : Nat} {row : Option Nat} (hg : w.grownBy w' row) (hB : B ≤ w.heap.size) (hr : ∀ k, row = some k → B ≤ k) : Below B w w' := (Below.refl _ _).grown hg hB hr
end
section
variable {α : Type} {k : Nat} {cs : α → List Value} {w : World} {base : Nat} {e : TypeId} {v : Value} {l : List α}
/-- An owned slice reads as a list. -/
theorem In.of_own (hk : ∀ x, (cs x).length = k) (h : w.ownsRow base e k v l.length (l.flatMap cs)) (hs : l.length ≤ 4294967296) : ∃ A c, v = .slice A l.length c ∧ In k cs w A c l := by
  have hcell := fun g => h.cells (g := g)
  rcases h.2 with ⟨rfl, h0⟩ | ⟨g, cap, cur, rfl, hg, hh, hn, hm, r⟩
  · have : l = [] := List.eq_nil_of_length_eq_zero h0
    subst this
    exact ⟨none, 0, rfl, In.nil (by omega)⟩
  · refine ⟨_, cap, rfl, hn, by unfold maxLen at hm; omega, hs, .inr ⟨g, 0, rfl, ?_, ?_⟩⟩
    · rcases Nat.lt_or_ge g w.heap.size with hlt | hge
      · exact hlt
      · rw [Array.getElem?_eq_none hge] at hh; cases hh
    · intro i hi j u hu
      have hj : j < k := by rw [← hk l[i]]; exact (List.getElem?_eq_some_iff.1 hu).1
      have := hcell g rfl (i * k + j) u (by rw [flat_get hk l i hi j hj]; exact hu)
      rw [add_lit] at this
      simpa using this
end

/-- The cells that an append takes. -/
def Src (w : World) (A : Option Addr) (m size : Nat) (news : List Value) : Prop :=
  news.length = m * size ∧ (0 < m → ∃ ad, A = some ad ∧ ∀ j u, news[j]? = some u → w.cell? (ad.add j) = some u)
theorem Src.of_in {α : Type} {k : Nat} {cs : α → List Value} {w : World} {A : Option Addr} {c : Nat} {l : List α} (hk : ∀ x, (cs x).length = k) (hk0 : 0 < k) (h : In k cs w A c l) : Src w A l.length k (l.flatMap cs) := by
  refine ⟨flat_length hk l, fun hm => ?_⟩
  obtain ⟨b, off, rfl, hb, hrow⟩ := h.at hm
  refine ⟨_, rfl, fun j u hu => ?_⟩
  have hj : j < l.length * k := by rw [← flat_length hk l]; exact (List.getElem?_eq_some_iff.1 hu).1
  have hi : j / k < l.length := Nat.div_lt_of_lt_mul (by rw [Nat.mul_comm]; exact hj)
  have hmod : j % k < k := Nat.mod_lt _ hk0
  have hjj : j / k * k + j % k = j := by rw [Nat.mul_comm]; exact Nat.div_add_mod j k
  have hu' : (cs l[j / k])[j % k]? = some u := by rw [← flat_get hk l (j / k) hi (j % k) hmod, hjj]; exact hu
  have := hrow (j / k) hi (j % k) u hu'
  rw [Nat.add_assoc, hjj] at this
  rw [add_lit']; exact this

section
variable {P : Program} (w : World)
/-- append onto a slice of the call's own; the source nil, empty or not. -/
theorem wpList_app {ops : Array Oper} {rest : List Oper} {o : Oper} {a : Act} {Q : Exit → Act → World → Prop} (hgd : o.guard = none) (s x : Operand) {t e : TypeId} {size bytes : Nat} (I : Elem P t e size bytes)
    (ho : o.op = .call { callee := .builtin .append, args := #[s, x], argTypes := #[t, t] })
    (base : Nat) (v : Value) (n : Nat) (xs : List Value) (hs : a.eval s = v) (hown : w.ownsRow base e size v n xs)
    (A : Option Addr) (m c : Nat) (news : List Value) (hx : a.eval x = .slice A m c) (hr : Src w A m size news) (h1 : ∀ u ∈ news, u.oneCell' = true)
    (hn : n + m ≤ 8589934592) (hbase : base ≤ w.heap.size)
    (h : ∀ v' w', w'.ownsRow base e size v' (n + m) (xs ++ news) → w.grownBy w' v.ownBlock → Below base w w' → (v'.ownBlock = v.ownBlock ∨ v'.ownBlock = some w.heap.size) → wpList P ops Q rest (a.put o.dst v') w') : wpList P ops Q (o :: rest) a w := by
  refine wpList_plain hgd fun K hK => ?_
  have key : ∃ v' w', (Builtin.append_ #[t, t] o.type #[v, .slice A m c]).run P w = .ok v' w' ∧ w'.ownsRow base e size v' (n + m) (xs ++ news) ∧ w.grownBy w' v.ownBlock ∧ (v'.ownBlock = v.ownBlock ∨ v'.ownBlock = some w.heap.size) := by
    obtain ⟨i, z, h2, h3, h4, h5, h6⟩ := I.info
    have hb1 : (n + m) * bytes ≤ 140737488355328 := Nat.le_trans (Nat.mul_le_mul hn I.small) (by omega)
    rcases A with _ | ad
    · have hm : m = 0 := by
        rcases Nat.eq_zero_or_pos m with h0 | h0
        · exact h0
        · obtain ⟨ad, hh, _⟩ := hr.2 h0
          cases hh
      subst hm
      have hnil : news = [] := List.eq_nil_of_length_eq_zero (by simpa using hr.1)
      subst hnil
      refine ⟨v, w, ?_, by simpa using hown, ⟨rfl, rfl, rfl, Nat.le_refl _, fun _ _ _ => rfl⟩, .inl rfl⟩
      rcases hown.2 with ⟨rfl, rfl⟩ | ⟨g, cap, cur, rfl, _, _, hnc, _⟩
      · simp [Builtin.append_, run_underlying I.under, sizeOf, typeInfo, h2, Builtin.lenOf, Builtin.firstCells]
      · simp [Builtin.append_, run_underlying I.under, sizeOf, typeInfo, h2, Builtin.lenOf, Builtin.firstCells, hnc, storeCells]
    · have hcells : ∀ j u, news[j]? = some u → w.cell? (ad.add j) = some u := by
        intro j u hu
        rcases Nat.eq_zero_or_pos m with h0 | h0
        · subst h0
          have hnil : news = [] := List.eq_nil_of_length_eq_zero (by simpa using hr.1)
          subst hnil
          simp at hu
        · obtain ⟨ad', hh, hc⟩ := hr.2 h0
          injection hh with hh
          subst hh
          exact hc j u hu
      obtain ⟨v', w', hrun, g2, g3, _, g5⟩ := run_append_own_at (P := P) w base t o.type e i z size bytes I.under h2 h3 h4 h5 h6 I.pos v n xs hown ad m c news hr.1 hcells h1 (by unfold maxLen; omega) hb1 hbase
      exact ⟨v', w', hrun, g2, g3, g5⟩
  obtain ⟨v', w', hrun, g2, g3, g4⟩ := key
  unfold Oper.wp execOp
  simp only [ho, resolve, invoke, builtin, Sem.run_bind, Sem.run_pure, Result.andThen_ok, List.map_toArray, List.map_cons, List.map_nil, hs, hx, hrun]
  exact hK _ _ (h v' w' g2 g3 (grown_below g3 hbase fun k hk => (hown.lt k hk).1) g4)
/-- The source is the row that the statement itself has just laid, of one element. -/
theorem Src.new (W : World) (news : List Value) (e : TypeId) (size : Nat) (hl : news.length = size) : Src (W.alloc (.cells news.toArray e)) (some ⟨W.heap.size, 0, none⟩) 1 size news := by
  refine ⟨by simpa using hl, fun _ => ⟨_, rfl, fun j u hu => ?_⟩⟩
  rw [add_lit, World.cell?_alloc_new]
  simpa using hu
end
section
variable {w : World} {base : Nat} {e : TypeId} {size n : Nat} {v : Value} {xs : List Value}
theorem own_form (h : w.ownsRow base e size v n xs) : ∃ A c, v = .slice A n c ∧ n ≤ c ∧ c ≤ 9223372036854775807 := by
  rcases h.2 with ⟨rfl, rfl⟩ | ⟨g, cap, cur, rfl, _, _, hn, hm, _⟩
  · exact ⟨none, 0, rfl, by omega, by omega⟩
  · exact ⟨_, cap, rfl, hn, by unfold maxLen at hm; omega⟩
theorem own_form' (h : w.ownsRow base e size v n xs) (hn : 0 < n) : ∃ g c, v = .slice (some ⟨g, 0, none⟩) n c ∧ n ≤ c ∧ c ≤ 9223372036854775807 ∧ base ≤ g ∧ g < w.heap.size := by
  rcases h.2 with ⟨rfl, rfl⟩ | ⟨g, cap, cur, rfl, hg, hh, hn, hm, _⟩
  · omega
  · refine ⟨g, cap, rfl, hn, by unfold maxLen at hm; omega, hg, ?_⟩
    rcases Nat.lt_or_ge g w.heap.size with hlt | hge
    · exact hlt
    · rw [Array.getElem?_eq_none hge] at hh; cases hh
end
theorem snoc_cases {α : Type} (l : List α) : l = [] ∨ ∃ r t, l = r ++ [t] := by
  rcases List.eq_nil_or_concat l with h | ⟨r, t, h⟩
  · exact .inl h
  · exact .inr ⟨r, t, by rw [h, List.concat_eq_append]⟩
def lenOf : Value → Nat | .slice _ n _ => n | _ => 0
/-- The call hands back a slice of its own that reads as l. -/
def RetS {α : Type} (k : Nat) (cs : α → List Value) (et : TypeId) (w : World) (l : List α) (e : Ending) (w' : World) : Prop :=
  ∃ v, e = .returned v ∧ w'.ownsRow w.heap.size et k v l.length (l.flatMap cs) ∧ Below w.heap.size w w'
/-- Two rows of unlike element types are two rows. -/
theorem own_ne {w : World} {b1 b2 : Nat} {e1 e2 : TypeId} {s1 s2 n1 n2 : Nat} {v1 v2 : Value} {x1 x2 : List Value} (h1 : w.ownsRow b1 e1 s1 v1 n1 x1) (h2 : w.ownsRow b2 e2 s2 v2 n2 x2) (hne : e1 ≠ e2) : v1.ownBlock = none ∨ v1.ownBlock ≠ v2.ownBlock := by
  rcases h1.2 with ⟨rfl, _⟩ | ⟨g1, c1, cur1, rfl, _, hh1, _⟩
  · exact .inl rfl
  · right
    rcases h2.2 with ⟨rfl, _⟩ | ⟨g2, c2, cur2, rfl, _, hh2, _⟩
    · simp [Value.ownBlock]
    · intro he
      have : g1 = g2 := by simpa [Value.ownBlock] using he
      subst this
      rw [hh1] at hh2
      injection hh2 with hh2
      injection hh2 with _ ht
      exact hne ht
theorem own_kept_ne {w w' : World} {b1 b2 : Nat} {e1 e2 : TypeId} {s1 s2 n1 n2 : Nat} {v1 v2 : Value} {x1 x2 : List Value} (h1 : w.ownsRow b1 e1 s1 v1 n1 x1) (h2 : w.ownsRow b2 e2 s2 v2 n2 x2) (hne : e1 ≠ e2) (hg : w.grownBy w' v2.ownBlock) :
    w'.ownsRow b1 e1 s1 v1 n1 x1 := h1.kept hg (own_ne h1 h2 hne)
/-- A row that lay below a fresh one is kept while the fresh one grows. -/
theorem own_kept_lt {w w' : World} {b1 : Nat} {e1 : TypeId} {s1 n1 : Nat} {v1 : Value} {x1 : List Value} {g : Nat} (h1 : w.ownsRow b1 e1 s1 v1 n1 x1) (hg : w.grownBy w' (some g)) (hne : ∀ k, v1.ownBlock = some k → k ≠ g) :
    w'.ownsRow b1 e1 s1 v1 n1 x1 := h1.kept hg (by
  cases h : v1.ownBlock with
  | none => exact .inl rfl
  | some k => exact .inr (fun e => hne k h (by injection e)))
theorem In.sub {α : Type} {k : Nat} {cs : α → List Value} {w : World} {b off c : Nat} {l : List α} (h : In k cs w (some ⟨b, off, none⟩) c l) {i j : Nat} (hij : i ≤ j) (hj : j ≤ l.length) (hrow : b < w.heap.size ∧ Row k cs w b off l) :
    In k cs w (some ⟨b, off + i * k, none⟩) (c - i) ((l.drop i).take (j - i)) := by
  have h1 := h.1
  have h2 := h.2.1
  have h3 := h.2.2.1
  have hl : ((l.drop i).take (j - i)).length = j - i := by rw [List.length_take, List.length_drop]; omega
  exact ⟨by rw [hl]; omega, by omega, by rw [hl]; omega, .inr ⟨b, _, rfl, hrow.1, (hrow.2.drop i).take _⟩⟩
theorem nodes_one (l : List Node) : ∀ u ∈ l.flatMap Node.cells, u.oneCell' = true := by
  intro u hu
  obtain ⟨x, _, hx⟩ := List.mem_flatMap.1 hu
  simp only [Node.cells, List.mem_cons, List.not_mem_nil, or_false] at hx
  rcases hx with rfl | rfl | rfl | rfl | rfl <;> rfl
theorem Node.cells_len (x : Node) : x.cells.length = 5 := rfl
/-- A slice in a slice: where it lies, its capacity, what it reads as. -/
abbrev Kid := Option Addr × Nat × List Node
def Kid.val (x : Kid) : Value := .slice x.1 x.2.2.length x.2.1
def Kid.cells (x : Kid) : List Value := [x.val]
/-- A new slice of slices of nodes, readable. -/
def RetK (t : TypeId) (w : World) (ks : List (List Node)) (e : Ending) (w' : World) : Prop :=
  ∃ os : List Kid, os.map (·.2.2) = ks ∧ RetS 1 Kid.cells t w os e w' ∧ ∀ o ∈ os, InN w' o.1 o.2.1 o.2.2
end Go.Proofs.Ytbidnflcbgnckaa
namespace Go.Proofs.Ytbidnflcbgnckaa
open Go.RowKit

def bc (b : UInt8) : List Value := [.int .u8 b.toNat]
theorem bc_len (b : UInt8) : (bc b).length = 1 := rfl
/-- A slice of bytes. -/
abbrev InB := In 1 bc

theorem RetV.str {w w' : World} {a b : List UInt8} (h : a = b) (hb : Below w.heap.size w w') : RetV w (.string (str b)) (.returned (.string (str a))) w' := ⟨by rw [h], hb⟩

theorem RetS.of {α : Type} {k : Nat} {cs : α → List Value} {et : TypeId} {w w' : World} {l l' : List α} {v : Value} {b : Nat} (h : w'.ownsRow b et k v l'.length (l'.flatMap cs)) (hb : w.heap.size ≤ b) (e : l' = l) (hB : Below w.heap.size w w') :
    RetS k cs et w l (.returned v) w' := ⟨v, rfl, by subst e; exact own_base h hb, hB⟩

/-! Numbers and texts as bytes. -/
def numF : Nat → Nat → List UInt8
  | 0, v => [UInt8.ofNat v]
  | f + 1, v => if v < 128 then [UInt8.ofNat v] else UInt8.ofNat (v % 128 + 128) :: numF f (v / 128)
def clampN (n : Int) : Nat := (min (max n 0) 1099511627776).toNat
@[irreducible] def num (n : Int) : List UInt8 := numF 6 (clampN n)
section
variable {P : Program} (w : World)
theorem Src.go {A : Option Addr} {m size c : Nat} {news : List Value} {tx e' : TypeId} (hk : P.underlying tx = some (.slice e')) (h : Src w A m size news) (h1 : ∀ u ∈ news, u.oneCell' = true) : Go.Src P size tx (.slice A m c) m news w := by
  rcases A with _ | ad
  · have hm : m = 0 := by
      rcases Nat.eq_zero_or_pos m with h0 | h0
      · exact h0
      · obtain ⟨ad, hh, _⟩ := h.2 h0; cases hh
    subst hm
    have hnil : news = [] := List.eq_nil_of_length_eq_zero (by simpa using h.1)
    subst hnil
    exact Go.Src.ofNil w hk c
  · refine Go.Src.ofSlice w hk ad m c news h.1 (fun j u hu => ?_) h1
    rcases Nat.eq_zero_or_pos m with h0 | h0
    · subst h0
      have hnil : news = [] := List.eq_nil_of_length_eq_zero (by simpa using h.1)
      subst hnil; simp at hu
    · obtain ⟨ad', hh, hc⟩ := h.2 h0
      injection hh with hh; subst hh; exact hc j u hu
theorem Src.first {A : Option Addr} {m size c : Nat} {news : List Value} (h : Src w A m size news) : (Builtin.firstCells size m (.slice A m c)).run P w.drew = .ok news.toArray w.drew := by
  rcases A with _ | ad
  · have hm : m = 0 := by
      rcases Nat.eq_zero_or_pos m with h0 | h0
      · exact h0
      · obtain ⟨ad, hh, _⟩ := h.2 h0; cases hh
    subst hm
    have hnil : news = [] := List.eq_nil_of_length_eq_zero (by simpa using h.1)
    subst hnil
    exact run_firstCells_none w.drew size 0 0 c
  · refine run_firstCells_some w.drew size m ad m c news h.1 (fun j u hu => ?_)
    rcases Nat.eq_zero_or_pos m with h0 | h0
    · subst h0
      have hnil : news = [] := List.eq_nil_of_length_eq_zero (by simpa using h.1)
      subst hnil; simp at hu
    · obtain ⟨ad', hh, hc⟩ := h.2 h0
      injection hh with hh; subst hh; exact hc j u hu
/-- A slice that is full, or a call's own. -/
def Held (w : World) (base : Nat) (e : TypeId) (size : Nat) (v : Value) (n : Nat) (xs : List Value) : Prop :=
  w.ownsRow base e size v n xs ∨ ∃ A, v = .slice A n n ∧ Src w A n size xs
end
section
variable {w w' : World} {base : Nat} {e : TypeId} {size n : Nat} {v : Value} {xs : List Value}
theorem Src.below {A : Option Addr} (h : Src w A n size xs) (hb : Below w.heap.size w w') : Src w' A n size xs := by
  refine ⟨h.1, fun hm => ?_⟩
  obtain ⟨ad, rfl, hc⟩ := h.2 hm
  refine ⟨ad, rfl, fun j u hu => ?_⟩
  have h1 := hc j u hu
  rw [hb.cell (World.block_lt_of_cell? _ _ h1)]
  exact h1
theorem Held.below (h : Held w base e size v n xs) (hb : Below w.heap.size w w') : Held w' base e size v n xs := by
  rcases h with h | ⟨A, rfl, h⟩
  · exact .inl (own_below h hb)
  · exact .inr ⟨A, rfl, h.below hb⟩
/-- A slice that came in, its capacity cut to its length. -/
theorem Held.of_in {α : Type} {k : Nat} {cs : α → List Value} {A : Option Addr} {c : Nat} {l : List α} (hk : ∀ x, (cs x).length = k) (hk0 : 0 < k) (h : In k cs w A c l) :
    Held w base e k (.slice A l.length l.length) l.length (l.flatMap cs) := .inr ⟨A, rfl, Src.of_in hk hk0 h⟩
end
/-- A slice that a call has handed back, under a name of its own. -/
theorem own_open {α : Type} {k : Nat} {cs : α → List Value} {w : World} {base : Nat} {e : TypeId} {v : Value} {l : List α} (hk : ∀ x, (cs x).length = k) (h : w.ownsRow base e k v l.length (l.flatMap cs)) (N : Nat) (hN : l.length ≤ N) (hs : N ≤ 4294967296) :
    ∃ l2 A c, Hid (l2 = l) ∧ l2.length ≤ N ∧ v = .slice A l2.length c ∧ In k cs w A c l2 ∧ Hid (w.ownsRow base e k v l2.length (l2.flatMap cs)) := by
  obtain ⟨A, c, hv, hin⟩ := In.of_own hk h (by omega)
  exact ⟨l, A, c, rfl, hN, hv, hin, h⟩
/-! Bytes as texts. -/
section
variable {P : Program} (w : World)
theorem conv_str {src dst e : TypeId} (hs : P.underlying src = some (.slice e)) (he : P.underlying e = some (.int .u8)) (hd : P.underlying dst = some .string) {A : Option Addr} {c : Nat} {l : List UInt8} (h : InB w A c l) :
    (convert src dst (.slice A l.length c)).run P w = .ok (.string (str l)) w := by
  rcases A with _ | ad
  · have : l = [] := by
      rcases h.2.2.2 with h | ⟨b, off, hh, _⟩
      · exact h
      · cases hh
    subst this
    exact run_convert_bytes_nil w src e hs he _ _ dst hd
  · refine run_convert_bytes_back w src dst e ad c l hs he hd (fun j hj => ?_)
    obtain ⟨b, off, hA, _, hrow⟩ := h.at hj
    injection hA with hA
    subst hA
    have := hrow j hj 0 _ rfl
    rw [add_lit']
    simpa using this
theorem conv_one {src dst e : TypeId} (hs : P.underlying src = some (.slice e)) (he : P.underlying e = some (.int .u8)) (hd : P.underlying dst = some .string) (x : Int) :
    (convert src dst (.slice (some ⟨w.heap.size, 0, none⟩) 1 1)).run P (w.alloc (.cells #[.int .u8 x] e)) = .ok (.string (str [UInt8.ofNat x.toNat])) (w.alloc (.cells #[.int .u8 x] e)) := by
  refine run_convert_bytes_arg _ src e hs he w.heap.size 0 1 1 [x] rfl (fun i hi => ?_) dst hd
  have : i = 0 := by omega
  subst this
  simp [World.cell?_alloc_new]
end
end Go.Proofs.Ytbidnflcbgnckaa
namespace Go.Proofs.Ytbidnflcbgnckaa
open Go.RowKit

theorem elemB : Elem Try.prog 29 5 1 1 := Elem.mk' Try.underlying29 (z := .int .u8 0) (by kernel_rfl) rfl (by omega) (by omega)

end Go.Proofs.Ytbidnflcbgnckaa
namespace Go.Proofs.Ytbidnflcbgnckaa
open Go.RowKit

theorem run_at (lo hi : Nat) {s : List UInt8} {k : Nat} (h : k < s.length) : run lo hi (s.drop k) = if lo ≤ s[k].toNat ∧ s[k].toNat ≤ hi then run lo hi (s.drop (k + 1)) + 1 else 0 := by
  rw [List.drop_eq_getElem_cons h, run]
set_option maxHeartbeats 1000000 in
theorem c_lex_run (s : List UInt8) (lo hi : Nat) (w : World) (hs : s.length ≤ 1000000) : Calls Try.prog 45 #[.string (str s), .int .u8 lo, .int .u8 hi] w (RetV w (.int .i64 (run lo hi s : Nat))) := by
  go_enter Try.func45, Try.ntmps45
  go_wp2_with (fail)
  go_loop [7] (fun i => ∃ k : Nat, k ≤ s.length ∧ i = .int .i64 k ∧ Hid (k + run lo hi (s.drop k) = run lo hi s)) (fun i => s.length - (intOf i).toNat)
  case atStart => exact ⟨0, by omega, rfl, by show _ = _; simp⟩
  case round =>
    obtain ⟨k, hk, rfl, H⟩ := hrel
    by_cases hlt : k < s.length
    · have R := run_at lo hi hlt
      have d1 : decide (k < s.length) = true := by simpa using hlt
      by_cases h1 : lo ≤ s[k].toNat
      · have d2 : decide (lo ≤ s[k].toNat) = true := by simpa using h1
        by_cases h2 : s[k].toNat ≤ hi
        · have d3 : decide (s[k].toNat ≤ hi) = true := by simpa using h2
          rw [if_pos ⟨h1, h2⟩] at R
          have H2 := Lib.hid (show k + 1 + run lo hi (s.drop (k + 1)) = run lo hi s by rw [← H.out, R]; omega)
          clear R h1 h2 H
          go_wp2_with (fail)
          go_round
          case rel => exact ⟨k + 1, by omega, by go_num, H2.out⟩
          case measure => simp [intOf]; omega
        · have d3 : decide (s[k].toNat ≤ hi) = false := by simpa using h2
          rw [if_neg (fun h => h2 h.2)] at R
          have H2 := Lib.hid (show run lo hi s = k by rw [← H.out, R]; omega)
          clear R h1 h2 H
          go_wp2_with (fail)
          go_ret
          exact RetV.int (by rw [H2.out]) (Below.refl _ _)
      · have d2 : decide (lo ≤ s[k].toNat) = false := by simpa using h1
        rw [if_neg (fun h => h1 h.1)] at R
        have H2 := Lib.hid (show run lo hi s = k by rw [← H.out, R]; omega)
        clear R h1 H
        go_wp2_with (fail)
        go_ret
        exact RetV.int (by rw [H2.out]) (Below.refl _ _)
    · have d1 : decide (k < s.length) = false := by simpa using hlt
      have H2 := Lib.hid (show run lo hi s = k by rw [← H.out, List.drop_eq_nil_of_le (by omega), run]; omega)
      clear hlt H
      go_wp2_with (fail)
      go_ret
      exact RetV.int (by rw [H2.out]) (Below.refl _ _)
theorem qt_none (k : Nat) : qt [] k = 0 := by rw [qt]
theorem qt_34 {c : UInt8} {r : List UInt8} (h : c.toNat = 34) (k : Nat) : qt (c :: r) k = k + 1 := by
  have : c = 34 := UInt8.toNat_inj.1 h
  rw [this]; exact qt_end r k
theorem qt_92 {c : UInt8} {r : List UInt8} (h : c.toNat = 92) (k : Nat) : qt (c :: r) k = qt (r.drop 1) (k + 2) := by
  have : c = 92 := UInt8.toNat_inj.1 h
  rw [this]
  cases r with
  | nil => rw [qt, if_neg (by decide), List.drop_nil, qt_none]
  | cons d r => rw [qt_esc]; rfl
theorem qt_other {c : UInt8} {r : List UInt8} (h1 : c.toNat ≠ 34) (h2 : c.toNat ≠ 92) (k : Nat) : qt (c :: r) k = qt r (k + 1) := by
  have n1 : c ≠ 34 := fun e => h1 (by rw [e]; rfl)
  have n2 : c ≠ 92 := fun e => h2 (by rw [e]; rfl)
  cases r with
  | nil =>
    rw [qt_none]
    unfold qt
    rw [if_neg n1]
  | cons d r => exact qt_plain n1 n2 _ (by simp) k
theorem qt_at {s : List UInt8} {k : Nat} (h : k < s.length) : qt (s.drop k) k = if s[k].toNat = 34 then k + 1 else if s[k].toNat = 92 then qt (s.drop (k + 2)) (k + 2) else qt (s.drop (k + 1)) (k + 1) := by
  rw [List.drop_eq_getElem_cons h]
  split
  · next h1 => exact qt_34 h1 k
  · next h1 =>
    split
    · next h2 => rw [qt_92 h2, List.drop_drop]
    · next h2 => exact qt_other h1 h2 k
set_option maxHeartbeats 2000000 in
theorem c_lex_quoted (s : List UInt8) (w : World) (hs : s.length ≤ 1000000) : Calls Try.prog 47 #[.string (str s)] w (RetV w (.int .i64 (qt (s.drop 1) 1 : Nat))) := by
  go_enter Try.func47, Try.ntmps47
  go_wp2_with (fail)
  refine wp_scope_jumps 0 (fun a' w' => w' = w ∧ ∃ (k : Nat) (u1 u2 u4 u5 u6 u7 u8 u9 u10 u11 u12 u13 u14 u15 u16 u17 u18 u19 u20 u21 u22 u23 u24 : Value), a' = { tmps := #[.string (str s), u1, u2, .int .i64 k, u4, u5, u6, u7, u8, u9, u10, u11, u12, u13, u14, u15, u16, u17, u18, u19, u20, u21, u22, u23, u24], defers := [] } ∧ Hid (qt (s.drop k) k = qt (s.drop 1) 1) ∧ k ≤ s.length + 1) (fun a' _ => s.length + 1 - (intOf (a'.tmps.getD 3 undef)).toNat) rfl ?_ ?_
  · go_wp2_with (fail)
    go_step3
    by_cases hlt : 1 < s.length
    · have d1 : decide ((s.length : Int) ≤ 1) = false := by rw [decide_eq_false_iff_not]; omega
      have Q := qt_at hlt
      by_cases g1 : s[1].toNat = 34
      · have j1 : ((s[1].toNat : Int) == 34) = true := by rw [beq_iff_eq]; omega
        rw [if_pos g1] at Q
        have H2 := Lib.hid ((show qt (s.drop 1) 1 = qt (s.drop 1) 1 from rfl).symm.trans Q)
        clear Q g1
        go_wp2_with (fail)
        simp only [Exit.jump]
        go_ret
        exact RetV.int (by first | (rw [H2.out]; rfl) | (rw [← List.drop_one, H2.out]; rfl)) (Below.refl _ _)
      · have j1 : ((s[1].toNat : Int) == 34) = false := by rw [beq_eq_false_iff_ne]; omega
        rw [if_neg g1] at Q
        by_cases g2 : s[1].toNat = 92
        · have j2 : ((s[1].toNat : Int) == 92) = true := by rw [beq_iff_eq]; omega
          rw [if_pos g2] at Q
          have H2 := Lib.hid (Q.symm.trans (show qt (s.drop 1) 1 = qt (s.drop 1) 1 from rfl))
          clear Q g1 g2
          go_wp2_with (fail)
          go_step3
          exact ⟨rfl, rfl, 3, _, _, _, _, _, _, _, _, _, _, _, _, _, _, _, _, _, _, _, _, _, _, _, rfl, H2.out, by omega⟩
        · have j2 : ((s[1].toNat : Int) == 92) = false := by rw [beq_eq_false_iff_ne]; omega
          rw [if_neg g2] at Q
          have H2 := Lib.hid (Q.symm.trans (show qt (s.drop 1) 1 = qt (s.drop 1) 1 from rfl))
          clear Q g1 g2
          go_wp2_with (fail)
          go_step3
          exact ⟨rfl, rfl, 2, _, _, _, _, _, _, _, _, _, _, _, _, _, _, _, _, _, _, _, _, _, _, _, rfl, H2.out, by omega⟩
    · have d1 : decide ((s.length : Int) ≤ 1) = true := by rw [decide_eq_true_iff]; omega
      have H2 := Lib.hid (show qt (s.drop 1) 1 = 0 by rw [List.drop_eq_nil_of_le (by omega), qt_none])
      clear hlt
      go_wp2_with (fail)
      simp only [Exit.jump]
      go_ret
      exact RetV.int (by first | (rw [H2.out]; rfl) | (rw [← List.drop_one, H2.out]; rfl)) (Below.refl _ _)
  · rintro a' w' ⟨rfl, k, u1, u2, u4, u5, u6, u7, u8, u9, u10, u11, u12, u13, u14, u15, u16, u17, u18, u19, u20, u21, u22, u23, u24, rfl, H, hk⟩
    by_cases hlt : k < s.length
    · have d1 : decide (s.length ≤ k) = false := by simpa using hlt
      have Q := qt_at hlt
      by_cases g1 : s[k].toNat = 34
      · have j1 : ((s[k].toNat : Int) == 34) = true := by rw [beq_iff_eq]; omega
        rw [if_pos g1] at Q
        have H2 := Lib.hid ((H.out).symm.trans Q)
        clear Q g1
        go_wp2_with (fail)
        simp only [Exit.jump]
        go_ret
        exact RetV.int (by first | (rw [H2.out]; rfl) | (rw [← List.drop_one, H2.out]; rfl)) (Below.refl _ _)
      · have j1 : ((s[k].toNat : Int) == 34) = false := by rw [beq_eq_false_iff_ne]; omega
        rw [if_neg g1] at Q
        by_cases g2 : s[k].toNat = 92
        · have j2 : ((s[k].toNat : Int) == 92) = true := by rw [beq_iff_eq]; omega
          rw [if_pos g2] at Q
          have H2 := Lib.hid (Q.symm.trans (H.out))
          clear Q g1 g2
          go_wp2_with (fail)
          go_step3
          try rw [show (k : Int) + 1 + 1 = ((k + 2 : Nat) : Int) by omega]
          try rw [show (k : Int) + 2 = ((k + 2 : Nat) : Int) by omega]
          exact ⟨rfl, ⟨rfl, k + 2, _, _, _, _, _, _, _, _, _, _, _, _, _, _, _, _, _, _, _, _, _, _, _, rfl, H2.out, by omega⟩, by simp [intOf]; omega⟩
        · have j2 : ((s[k].toNat : Int) == 92) = false := by rw [beq_eq_false_iff_ne]; omega
          rw [if_neg g2] at Q
          have H2 := Lib.hid (Q.symm.trans (H.out))
          clear Q g1 g2
          go_wp2_with (fail)
          go_step3
          try rw [show (k : Int) + 1 = ((k + 1 : Nat) : Int) by omega]
          exact ⟨rfl, ⟨rfl, k + 1, _, _, _, _, _, _, _, _, _, _, _, _, _, _, _, _, _, _, _, _, _, _, _, rfl, H2.out, by omega⟩, by simp [intOf]; omega⟩
    · have d1 : decide (s.length ≤ k) = true := by simpa using hlt
      have H2 := Lib.hid (show qt (s.drop 1) 1 = 0 by rw [← H.out]; rw [List.drop_eq_nil_of_le (by omega), qt_none])
      clear hlt
      go_wp2_with (fail)
      simp only [Exit.jump]
      go_ret
      exact RetV.int (by first | (rw [H2.out]; rfl) | (rw [← List.drop_one, H2.out]; rfl)) (Below.refl _ _)
end Go.Proofs.Ytbidnflcbgnckaa
namespace Go.Proofs.Ytbidnflcbgnckaa
open Go.RowKit

set_option maxHeartbeats 1000000 in
set_option maxRecDepth 100000 in
theorem c_stringslite_IndexByte (s : ByteArray) (c : Int) (w : World) : Calls Try.prog 60 #[.string s, .int .u8 c] w (fun e w' => e = .returned (.int .i64 (Lib.indexByte s.data.toList c.toNat.toUInt8)) ∧ w' = w) := by
  go_enter Try.func60, Try.ntmps60
  go_wp2_with (fail)
  rw [run_callFunc_extern Try.func67 (by kernel_rfl) (by kernel_rfl) (by kernel_rfl) (e := Extern.BytealgIndexByte.indexByte) (by kernel_rfl), Lib.run_indexByteString]
  simp only [Result.andThen]
  rw [Oper.upon_value]
  go_wp2_with (fail)
  go_ret
  exact ⟨rfl, rfl⟩
set_option maxHeartbeats 1000000 in
theorem c_strings_IndexByte (s : ByteArray) (c : Int) (w : World) : Calls Try.prog 49 #[.string s, .int .u8 c] w (fun e w' => e = .returned (.int .i64 (Lib.indexByte s.data.toList c.toNat.toUInt8)) ∧ w' = w) := by
  go_enter Try.func49, Try.ntmps49
  go_wp2_with (fail)
  refine (c_stringslite_IndexByte s c _).mono ?_
  rintro e w1 ⟨rfl, rfl⟩
  go_wp2_with (fail)
  go_ret
  exact ⟨rfl, rfl⟩
theorem sign_index (c : UInt8) : (decide (0 ≤ Lib.indexByte [40, 41, 61, 60, 62, 126] c)) = sign c := by
  have : ∀ n : Fin 256, (decide (0 ≤ Lib.indexByte [40, 41, 61, 60, 62, 126] (UInt8.ofNat n.val))) = sign (UInt8.ofNat n.val) := by decide +kernel
  have h := this ⟨c.toNat, c.toNat_lt⟩
  simpa using h
set_option maxHeartbeats 1000000 in
theorem c_ref09_sign (c : UInt8) (w : World) : Calls Try.prog 40 #[.int .u8 c.toNat] w (RetV w (.bool (sign c))) := by
  have hs : sign c = ((((((c.toNat == 40 || c.toNat == 41) || c.toNat == 61) || c.toNat == 60) || c.toNat == 62) || c.toNat == 126)) := by
    have : ∀ n : Fin 256, sign (UInt8.ofNat n.val) = ((((((n.val == 40 || n.val == 41) || n.val == 61) || n.val == 60) || n.val == 62) || n.val == 126)) := by decide +kernel
    have h := this ⟨c.toNat, c.toNat_lt⟩
    simpa using h
  have HS := Lib.hid hs
  obtain ⟨m, hm⟩ : ∃ m, m = c.toNat := ⟨_, rfl⟩
  have HM := Lib.hid hm
  rw [← hm]
  clear hs hm
  go_enter Try.func40, Try.ntmps40
  go_wp2_with (fail)
  all_goals
    go_ret
    refine RetV.bool ?_ (by repeat (first | exact Below.refl _ _ | refine Below.drew ?_ | refine Below.alloc ?_ (by first | omega | (simp; done) | (simp; omega)) _ | refine Below.setCell ?_ (by first | omega | (simp; done) | (simp; omega)) _ | refine Below.trans ?_ (Below.mono (by assumption) (by first | omega | (simp; done) | (simp; omega)))))
    rw [HS.out, ← HM.out]
    rw [Bool.eq_iff_iff]
    simp_all <;> omega
set_option maxHeartbeats 1000000 in
theorem c_ref09_run (s : List UInt8) (p lo hi : Nat) (w : World) (hs : s.length ≤ 1000000) (hp : p ≤ s.length) : Calls Try.prog 36 #[.string (str s), .int .i64 p, .int .u8 lo, .int .u8 hi] w (RetV w (.int .i64 ((p + run lo hi (s.drop p) : Nat) : Int))) := by
  obtain ⟨R0, hR0⟩ : ∃ r, r = p + run lo hi (s.drop p) := ⟨_, rfl⟩
  rw [← hR0]
  have HR0 := Lib.hid hR0
  clear hR0
  go_enter Try.func36, Try.ntmps36
  go_wp2_with (fail)
  go_loop [1] (fun i => ∃ k : Nat, k ≤ s.length ∧ i = .int .i64 k ∧ Hid (k + run lo hi (s.drop k) = R0)) (fun i => s.length - (intOf i).toNat)
  case atStart => exact ⟨p, hp, rfl, HR0.out.symm⟩
  case round =>
    obtain ⟨k, hk, rfl, H⟩ := hrel
    by_cases hlt : k < s.length
    · have R := run_at lo hi hlt
      have d1 : decide (k < s.length) = true := by simpa using hlt
      by_cases h1 : lo ≤ s[k].toNat
      · have d2 : decide (lo ≤ s[k].toNat) = true := by simpa using h1
        by_cases h2 : s[k].toNat ≤ hi
        · have d3 : decide (s[k].toNat ≤ hi) = true := by simpa using h2
          rw [if_pos ⟨h1, h2⟩] at R
          have H2 := Lib.hid (show k + 1 + run lo hi (s.drop (k + 1)) = R0 by rw [← H.out, R]; omega)
          clear R h1 h2 H
          go_wp2_with (fail)
          go_round
          case rel => exact ⟨k + 1, by omega, by go_num, H2.out⟩
          case measure => simp [intOf]; omega
        · have d3 : decide (s[k].toNat ≤ hi) = false := by simpa using h2
          rw [if_neg (fun h => h2 h.2)] at R
          have H2 := Lib.hid (show R0 = k by rw [← H.out, R]; omega)
          clear R h1 h2 H
          go_wp2_with (fail)
          go_ret
          exact RetV.int (by rw [H2.out]) (Below.refl _ _)
      · have d2 : decide (lo ≤ s[k].toNat) = false := by simpa using h1
        rw [if_neg (fun h => h1 h.1)] at R
        have H2 := Lib.hid (show R0 = k by rw [← H.out, R]; omega)
        clear R h1 H
        go_wp2_with (fail)
        go_ret
        exact RetV.int (by rw [H2.out]) (Below.refl _ _)
    · have d1 : decide (k < s.length) = false := by simpa using hlt
      have H2 := Lib.hid (show R0 = k by rw [← H.out, List.drop_eq_nil_of_le (by omega), run]; omega)
      clear hlt H
      go_wp2_with (fail)
      go_ret
      exact RetV.int (by rw [H2.out]) (Below.refl _ _)
set_option maxHeartbeats 1000000 in
theorem c_ref09_quote (s : List UInt8) (p : Nat) (w : World) (hs : s.length ≤ 1000000) (hp : p ≤ s.length) : Calls Try.prog 38 #[.string (str s), .int .i64 p] w (RetV w (.int .i64 (qt (s.drop (p + 1)) (p + 1) : Nat))) := by
  obtain ⟨R0, hR0⟩ : ∃ r, r = qt (s.drop (p + 1)) (p + 1) := ⟨_, rfl⟩
  rw [← hR0]
  have HR0 := Lib.hid hR0
  clear hR0
  go_enter Try.func38, Try.ntmps38
  go_wp2_with (fail)
  go_loop [5] (fun i => ∃ k : Nat, k ≤ s.length + 2 ∧ i = .int .i64 k ∧ Hid (qt (s.drop k) k = R0)) (fun i => s.length + 2 - (intOf i).toNat)
  case atStart => exact ⟨p + 1, by omega, by go_num, HR0.out.symm⟩
  case round =>
    obtain ⟨k, hk, rfl, H⟩ := hrel
    by_cases hlt : k < s.length
    · have d1 : decide (k < s.length) = true := by simpa using hlt
      have Q := qt_at hlt
      by_cases g1 : s[k].toNat = 34
      · have j1 : ((s[k].toNat : Int) == 34) = true := by rw [beq_iff_eq]; omega
        rw [if_pos g1] at Q
        have H2 := Lib.hid (H.out.symm.trans Q)
        clear Q g1 H
        go_wp2_with (fail)
        go_ret
        exact RetV.int (by rw [H2.out]; rfl) (Below.refl _ _)
      · have j1 : ((s[k].toNat : Int) == 34) = false := by rw [beq_eq_false_iff_ne]; omega
        rw [if_neg g1] at Q
        by_cases g2 : s[k].toNat = 92
        · have j2 : ((s[k].toNat : Int) == 92) = true := by rw [beq_iff_eq]; omega
          rw [if_pos g2] at Q
          have H2 := Lib.hid (Q.symm.trans H.out)
          clear Q g1 g2 H
          go_wp2_with (fail)
          go_round
          case rel => exact ⟨k + 2, by omega, by go_num, H2.out⟩
          case measure => simp [intOf]; omega
        · have j2 : ((s[k].toNat : Int) == 92) = false := by rw [beq_eq_false_iff_ne]; omega
          rw [if_neg g2] at Q
          have H2 := Lib.hid (Q.symm.trans H.out)
          clear Q g1 g2 H
          go_wp2_with (fail)
          go_round
          case rel => exact ⟨k + 1, by omega, by go_num, H2.out⟩
          case measure => simp [intOf]; omega
    · have d1 : decide (k < s.length) = false := by simpa using hlt
      have H2 := Lib.hid (show R0 = 0 by rw [← H.out, List.drop_eq_nil_of_le (by omega), qt_none])
      clear hlt H
      go_wp2_with (fail)
      go_ret
      exact RetV.int (by rw [H2.out]; rfl) (Below.refl _ _)
end Go.Proofs.Ytbidnflcbgnckaa
namespace Go.Proofs.Ytbidnflcbgnckaa
open Go.RowKit

/-- The bytes of a text, in a block of the call's own. -/
structure Laid (w w' : World) (A : Option Addr) (c : Nat) (l : List UInt8) : Prop where
  pos : A = some ⟨w.heap.size, 0, none⟩
  below : Below w.heap.size w w'
  size : w'.heap.size = w.heap.size + 1
  reads : InB w' A c l
theorem run_str_bytes {P : Program} (w : World) {src dst e : TypeId} (hs : P.underlying src = some .string) (hd : P.underlying dst = some (.slice e)) (he : P.underlying e = some (.int .u8)) (l : List UInt8) (hl : l.length ≤ 4294967296) :
    ∃ A c w', (convert src dst (.string (str l))).run P w = .ok (.slice A l.length c) w' ∧ Laid w w' A c l := by
  have h := run_bytes_of_string (P := P) w src dst e (str l) hs hd he
  have hge := grownCap_ge w (str l).size 0 e
  have hcm := grownCap_le_maxLen w (str l).size 0 e (by rw [str_size]; unfold maxLen; omega)
  rw [str_size] at h hge hcm
  refine ⟨_, _, _, h, rfl, ((Below.refl _ _).drew).alloc (Nat.le_refl _) _, World.size_alloc _ _, hge, by unfold maxLen at hcm; omega, hl, .inr ⟨w.heap.size, 0, rfl, by rw [World.size_alloc]; exact Nat.lt_succ_self _, ?_⟩⟩
  intro i hi j u hu
  have hj : j < 1 := (List.getElem?_eq_some_iff.1 hu).1
  have h0 : j = 0 := by omega
  subst h0
  have hb := bytesRow_at (str l) (grownCap w l.length 0 e) i (by show i < l.toArray.size; simpa using hi)
  have hc := cell_of_row (w.drew.alloc (.cells (bytesRow (str l) (grownCap w l.length 0 e)) e ((bytesRow (str l) (grownCap w l.length 0 e)).size, (bytesRow (str l) (grownCap w l.length 0 e)).size + 1))) w.heap.size (0 + i * 1 + 0) _ _ _ (heap_alloc_new w.drew _)
  rw [hc, show 0 + i * 1 + 0 = i by omega, hb]
  simp only [bc, List.getElem?_cons_zero, Option.some.injEq] at hu
  rw [← hu]
  rfl
theorem wpList_strbytes {P : Program} {w : World} {ops : Array Oper} {rest : List Oper} {o : Oper} {a : Act} {Q : Exit → Act → World → Prop} (hgd : o.guard = none) (src dst : TypeId) (x : Operand) (ho : o.op = .convert src dst x)
    {e : TypeId} (hs : P.underlying src = some .string) (hd : P.underlying dst = some (.slice e)) (he : P.underlying e = some (.int .u8)) (l : List UInt8) (hx : a.eval x = .string (str l)) (hl : l.length ≤ 4294967296)
    (h : ∀ A c w', Laid w w' A c l → wpList P ops Q rest (a.put o.dst (.slice A l.length c)) w') : wpList P ops Q (o :: rest) a w := by
  refine wpList_plain hgd fun K hK => ?_
  obtain ⟨A, c, w', hrun, hl'⟩ := run_str_bytes (P := P) w hs hd he l hl
  unfold Oper.wp execOp
  simp only [ho, hx, hrun, Sem.run_bind, Sem.run_pure, Result.andThen_ok]
  exact hK _ _ (h A c w' hl')
theorem stop_conv {P : Program} {w : World} {ops : Array Oper} {rest : List Oper} {o : Oper} {a : Act} {Q : Exit → Act → World → Prop} (src dst : TypeId) (x : Operand) (_ : o.guard = none) (_ : o.op = .convert src dst x) (h : Stop (wpList P ops Q (o :: rest) a w)) : wpList P ops Q (o :: rest) a w := h
end Go.Proofs.Ytbidnflcbgnckaa
namespace Go.Proofs.Ytbidnflcbgnckaa
open Go.RowKit

/-- What is left, and the first error. -/
structure Rd where
  s : List UInt8
  e : Int
deriving DecidableEq

/-! A number off bytes: its error, its value, how many bytes it has. -/
def nxE : Nat → Bool → List UInt8 → Int
  | 0, _, _ => 3
  | _ + 1, _, [] => 2
  | f + 1, first, c :: s => if 128 ≤ c.toNat then nxE f false s else if c.toNat = 0 ∧ first = false then 3 else 0
def nxV : Nat → List UInt8 → Nat
  | 0, _ => 0
  | _ + 1, [] => 0
  | f + 1, c :: s => if 128 ≤ c.toNat then c.toNat % 128 + 128 * nxV f s else c.toNat
def nxK : Nat → List UInt8 → Nat
  | 0, _ => 0
  | _ + 1, [] => 0
  | f + 1, c :: s => if 128 ≤ c.toNat then nxK f s + 1 else 1
@[irreducible] def nErr (s : List UInt8) (most : Int) : Int := if nxE 6 true s = 0 then (if 1099511627776 < nxV 6 s ∨ most < (nxV 6 s : Int) then 4 else 0) else nxE 6 true s
@[irreducible] def nVal (s : List UInt8) (most : Int) : Int := if nErr s most = 0 then (nxV 6 s : Int) else 0
@[irreducible] def nLen (s : List UInt8) (most : Int) : Nat := if nErr s most = 0 then nxK 6 s else 0
/-! What the readers' calls answer, and what is left then. -/
/-! A number's bytes are read as it. -/
/-! What is read as a number has just a number's bytes. -/
/-! How the loops over a number's bytes go. -/
def Peek (s : List UInt8) (k acc : Nat) : Prop :=
  k ≤ 6 ∧ k ≤ s.length ∧ acc < 128 ^ k ∧ nxE 6 true s = nxE (6 - k) (decide (k = 0)) (s.drop k) ∧ nxV 6 s = acc + 128 ^ k * nxV (6 - k) (s.drop k) ∧ nxK 6 s = k + nxK (6 - k) (s.drop k) ∧
    ∀ j c, j < k → s[j]? = some c → 128 ≤ c.toNat
section
variable {s : List UInt8} {k acc : Nat}
theorem Peek.start (s : List UInt8) : Peek s 0 0 := ⟨by omega, by omega, by simp, by simp, by simp, by simp, fun j c h => by omega⟩
theorem Peek.next (h : Peek s k acc) (hk : k < 6) (hl : k < s.length) (hc : 128 ≤ s[k].toNat) : Peek s (k + 1) (acc + s[k].toNat % 128 * 128 ^ k) := by
  obtain ⟨_, _, h3, h4, h5, h6, h7⟩ := h
  rw [List.drop_eq_getElem_cons hl, show 6 - k = (6 - (k + 1)) + 1 by omega] at h4 h5 h6
  rw [nxE, if_pos hc] at h4
  rw [nxV, if_pos hc] at h5
  rw [nxK, if_pos hc] at h6
  have hm : s[k].toNat % 128 < 128 := Nat.mod_lt _ (by omega)
  refine ⟨by omega, by omega, ?_, ?_, ?_, by omega, ?_⟩
  · rw [Nat.pow_succ]
    have : s[k].toNat % 128 * 128 ^ k ≤ 127 * 128 ^ k := Nat.mul_le_mul_right _ (by omega)
    omega
  · rw [h4]; simp
  · rw [h5, Nat.mul_add, Nat.pow_succ, Nat.mul_comm (128 ^ k) (s[k].toNat % 128), Nat.mul_assoc]; omega
  · intro j c hj hjc
    rcases Nat.lt_or_ge j k with hlt | hge
    · exact h7 j c hlt hjc
    · obtain rfl : j = k := by omega
      rw [List.getElem?_eq_getElem hl] at hjc
      injection hjc with hjc
      rw [← hjc]; exact hc
theorem Peek.full (h : Peek s 6 acc) : nxE 6 true s = 3 := by rw [h.2.2.2.1]; rfl
theorem Peek.short (h : Peek s k acc) (hk : k < 6) (hl : k = s.length) : nxE 6 true s = 2 := by
  rw [h.2.2.2.1, hl, List.drop_length, show 6 - s.length = (5 - s.length) + 1 by omega, nxE]
theorem Peek.zero (h : Peek s k acc) (hk : k < 6) (hl : k < s.length) (hc : s[k].toNat = 0) (h0 : 0 < k) : nxE 6 true s = 3 := by
  rw [h.2.2.2.1, List.drop_eq_getElem_cons hl, show 6 - k = (6 - (k + 1)) + 1 by omega, nxE, if_neg (by omega), if_pos ⟨hc, by simp; omega⟩]
theorem Peek.done (h : Peek s k acc) (hk : k < 6) (hl : k < s.length) (hc : s[k].toNat < 128) (h0 : s[k].toNat ≠ 0 ∨ k = 0) : nxE 6 true s = 0 ∧ nxV 6 s = acc + s[k].toNat * 128 ^ k ∧ nxK 6 s = k + 1 := by
  obtain ⟨_, _, h3, h4, h5, h6, h7⟩ := h
  rw [List.drop_eq_getElem_cons hl, show 6 - k = (6 - (k + 1)) + 1 by omega] at h4 h5 h6
  rw [nxE, if_neg (by omega)] at h4
  rw [nxV, if_neg (by omega)] at h5
  rw [nxK, if_neg (by omega)] at h6
  refine ⟨?_, by rw [h5, Nat.mul_comm], h6⟩
  rw [h4, if_neg]
  rintro ⟨h1, h2⟩
  rcases h0 with h0 | h0
  · exact h0 h1
  · simp [h0] at h2
end
end Go.Proofs.Ytbidnflcbgnckaa
namespace Go.Proofs.Ytbidnflcbgnckaa
open Go.RowKit

/-! Worlds in which, below a block number, one block alone may have turned. -/
structure Kept (p : Option Nat) (B : Nat) (w w' : World) : Prop where
  os : w'.os = w.os
  tape : w'.tape = w.tape
  output : w'.output = w.output
  size : w.heap.size ≤ w'.heap.size
  block : ∀ k, k < B → p ≠ some k → w'.heap[k]? = w.heap[k]?
section
variable {p : Option Nat} {B B' : Nat} {a b c w w' : World}
theorem Kept.refl (p : Option Nat) (B : Nat) (w : World) : Kept p B w w := ⟨rfl, rfl, rfl, Nat.le_refl _, fun _ _ _ => rfl⟩
theorem Kept.of_below (h : Below B w w') : Kept p B w w' := ⟨h.os, h.tape, h.output, h.size, fun k hk _ => h.block k hk⟩
theorem Kept.trans (h : Kept p B a b) (k : Kept p B b c) : Kept p B a c := ⟨k.os.trans h.os, k.tape.trans h.tape, k.output.trans h.output, Nat.le_trans h.size k.size, fun i hi hp => (k.block i hi hp).trans (h.block i hi hp)⟩
theorem Kept.mono (h : Kept p B w w') (hB : B' ≤ B) : Kept p B' w w' := ⟨h.os, h.tape, h.output, h.size, fun k hk hp => h.block k (by omega) hp⟩
theorem Kept.below (h : Kept p B w w') (hB : B' ≤ B) (hp : ∀ g, p = some g → B' ≤ g) : Below B' w w' := ⟨h.os, h.tape, h.output, h.size, fun k hk => h.block k (by omega) (fun e => by have := hp k e; omega)⟩
theorem Kept.alloc (h : Kept p B a w) (hB : B ≤ w.heap.size) (o : Obj) : Kept p B a (w.alloc o) := h.trans (.of_below ((Below.refl _ _).alloc hB o))
theorem Kept.drew (h : Kept p B a w) : Kept p B a w.drew := ⟨h.os, h.tape, h.output, h.size, h.block⟩
theorem Kept.setCell (h : Kept p B a w) {q : Addr} (hq : B ≤ q.block ∨ p = some q.block) (u : Value) : Kept p B a (w.setCell q u) :=
  h.trans ⟨rfl, rfl, rfl, by simp [World.setCell], fun k hk hp => Below.heap_setCell _ _ _ _ (fun e => by
    subst e
    rcases hq with h | h
    · omega
    · exact hp h)⟩
theorem Kept.then_below (h : Kept p B a w) (k : Below w.heap.size w w') (hB : B ≤ w.heap.size) : Kept p B a w' := h.trans (.of_below (k.mono hB))
theorem Kept.then_kept (h : Kept p B a w) (k : Kept p w.heap.size w w') (hB : B ≤ w.heap.size) : Kept p B a w' := h.trans (k.mono hB)
theorem Kept.cell (h : Kept p B w w') {q : Addr} (hq : q.block < B) (hp : p ≠ some q.block) : w'.cell? q = w.cell? q := World.cell?_of_block (w := w) (h.block q.block hq hp)
end

/-! A block that is known whole. -/
def Blk (w : World) (g : Nat) (cs : Array Value) : Prop := ∃ t, w.heap[g]? = some (.cells cs t (0, 0))
section
variable {w w' : World} {g : Nat} {cs : Array Value}
theorem Blk.lt (h : Blk w g cs) : g < w.heap.size := by
  obtain ⟨t, h⟩ := h
  rcases Nat.lt_or_ge g w.heap.size with hlt | hge
  · exact hlt
  · rw [Array.getElem?_eq_none hge] at h; cases h
theorem Blk.cell (h : Blk w g cs) {i : Nat} {v : Value} (hv : cs[i]? = some v) : w.cell? ⟨g, i, none⟩ = some v := by
  obtain ⟨t, h⟩ := h
  simp [World.cell?, h, hv]
theorem Blk.frozen (h : Blk w g cs) (i : Nat) : w.frozen? ⟨g, i, none⟩ = false := by
  obtain ⟨t, h⟩ := h
  simp [World.frozen?, h]
theorem Blk.new (w : World) (t : TypeId) (cs : Array Value) : Blk (w.alloc (.cells cs t)) w.heap.size cs := ⟨t, heap_alloc_new w _⟩
theorem Blk.kept {p : Option Nat} {B : Nat} (h : Blk w g cs) (k : Kept p B w w') (hg : g < B) (hp : p ≠ some g) : Blk w' g cs := by
  obtain ⟨t, h⟩ := h
  exact ⟨t, (k.block g hg hp).trans h⟩
theorem Blk.below {B : Nat} (h : Blk w g cs) (k : Below B w w') (hg : g < B) : Blk w' g cs := by
  obtain ⟨t, h⟩ := h
  exact ⟨t, (k.block g hg).trans h⟩
theorem Blk.store (h : Blk w g cs) (i : Nat) (u : Value) : Blk (w.setCell ⟨g, i, none⟩ u) g (cs.setIfInBounds i u) := by
  obtain ⟨t, h⟩ := h
  exact ⟨t, by simp [World.setCell, Array.getElem?_modify, h]⟩
theorem Blk.far (h : Blk w g cs) {q : Addr} (hq : g ≠ q.block) (u : Value) : Blk (w.setCell q u) g cs := by
  obtain ⟨t, h⟩ := h
  exact ⟨t, (Below.heap_setCell w q u g hq).trans h⟩
end

/-! The readers in memory. -/
/-- The program's reader at block g: the bytes B, the place, the error. -/
def RdA (w : World) (g : Nat) (A : Option Addr) (c : Nat) (B : List UInt8) (pos : Nat) (e : Int) : Prop :=
  Blk w g #[.slice A B.length c, .int .i64 pos, .int .i64 e] ∧ pos ≤ B.length ∧ B.length ≤ c ∧ c ≤ 9223372036854775807 ∧ B.length ≤ 4294967296 ∧ (B = [] ∨ ∃ b off, A = some ⟨b, off, none⟩ ∧ b < g ∧ Row 1 bc w b off B)
/-- The program's reader; none: the nil one. -/
def RdP (w : World) (p : Option Nat) (st : Rd) : Prop :=
  (p = none ∧ st = ⟨[], 1⟩) ∨ ∃ g A c B pos, p = some g ∧ RdA w g A c B pos st.e ∧ st.s = B.drop pos
/-- The reference's reader at block h. -/
def RdR (w : World) (h : Nat) (st : Rd) : Prop := Blk w h #[.string (str st.s), .int .i64 st.e] ∧ st.s.length ≤ 4294967296
section
variable {w w' : World} {g h : Nat} {A : Option Addr} {c pos : Nat} {B : List UInt8} {e : Int} {p q : Option Nat} {st st' : Rd}
theorem RdA.kept (r : RdA w g A c B pos e) (k : Kept q w.heap.size w w') (hq : ∀ h, q = some h → g < h) : RdA w' g A c B pos e := by
  obtain ⟨h1, h2, h3, h4, h5, h6⟩ := r
  refine ⟨h1.kept k h1.lt (fun e => by have := hq g e; omega), h2, h3, h4, h5, h6.imp id fun ⟨b, off, hA, hb, hr⟩ => ⟨b, off, hA, hb, ?_⟩⟩
  have := h1.lt
  exact hr.keep fun o => k.cell (by show b < _; omega) (fun e => by have := hq b e; omega)
theorem RdP.kept (r : RdP w p st) (k : Kept q w.heap.size w w') (hq : ∀ g h, p = some g → q = some h → g < h) : RdP w' p st :=
  r.imp id fun ⟨g, A, c, B, pos, hp, ha, hs⟩ => ⟨g, A, c, B, pos, hp, ha.kept k (fun h => hq g h hp), hs⟩
theorem RdP.below (r : RdP w p st) (k : Below w.heap.size w w') : RdP w' p st := r.kept (q := none) (.of_below k) (fun _ _ _ h => by cases h)
theorem RdP.lt (r : RdP w p st) (hg : p = some g) : g < w.heap.size := by
  rcases r with ⟨rfl, _⟩ | ⟨g', A, c, B, pos, hp, ha, _⟩
  · cases hg
  · rw [hp] at hg; injection hg with hg; subst hg; exact ha.1.lt
theorem RdR.kept (r : RdR w h st) (k : Kept q w.heap.size w w') (hq : q ≠ some h) : RdR w' h st := ⟨r.1.kept k r.1.lt hq, r.2⟩
theorem RdR.below (r : RdR w h st) (k : Below w.heap.size w w') : RdR w' h st := r.kept (q := none) (.of_below k) (by simp)
theorem RdR.lt (r : RdR w h st) : h < w.heap.size := r.1.lt
theorem RdP.len (r : RdP w p st) : st.s.length ≤ 4294967296 := by
  rcases r with ⟨rfl, rfl⟩ | ⟨g, A, c, B, pos, hp, ha, hs⟩
  · simp
  · rw [hs]; have := ha.2.2.2.2.1; simp; omega
end

/-! The ends of the readers' calls. -/
end Go.Proofs.Ytbidnflcbgnckaa
namespace Go.Proofs.Ytbidnflcbgnckaa
open Go.RowKit

structure Card where
  id : Int
  ver : Int
  lab : Nat
  f : List Val
deriving DecidableEq
structure Patch where
  mask : Nat
  lab : Nat
  f : List Val
deriving DecidableEq
structure Edit where
  kind : Int
  id : Int
  group : Int
  p : Patch
deriving DecidableEq
@[irreducible] def farr (f : List Val) : Array Value := (f.flatMap Val.cells).toArray
@[irreducible] def Card.arr (c : Card) : Array Value := (([.int .i64 c.id, .int .i64 c.ver, .int .u32 c.lab] : List Value) ++ c.f.flatMap Val.cells).toArray
@[irreducible] def Patch.arr (p : Patch) : Array Value := (([.int .u32 p.mask, .int .u32 p.lab] : List Value) ++ p.f.flatMap Val.cells).toArray
@[irreducible] def Edit.arr (e : Edit) : Array Value := (([.int .i64 e.kind, .int .i64 e.id, .int .i64 e.group, .int .u32 e.p.mask, .int .u32 e.p.lab] : List Value) ++ e.p.f.flatMap Val.cells).toArray
section
variable {f : List Val} {k : Nat}
end
end Go.Proofs.Ytbidnflcbgnckaa
namespace Go.Proofs.Ytbidnflcbgnckaa
open Go.RowKit

/-! Lists of numbers. -/
def ic (n : Int) : List Value := [.int .i64 n]
theorem ic_len (n : Int) : (ic n).length = 1 := rfl
abbrev InI := In 1 ic
end Go.Proofs.Ytbidnflcbgnckaa
