/-
  Lemmas (walks and plain laws), in one text.
-/
import Derived.WalkKit
import Derived.WalkSpells
import Derived.WalkLawsBesides
import Derived.Lib.Hide
import Derived.Deep.QuietTactic
import Derived.BigQuiet
import Derived.Maps.AppendAt
import Derived.WalkSmall
import Derived.StillTail
import Derived.RangeFuncNested
import Derived.RangeFuncCalls
import Derived.OrdersIn
import Derived.ControlIn
import Derived.Test.YtfgjhgecmelccaaProg
import Derived.Deep.CutBlock
import Derived.Deep.DeepCutAuto
import Derived.Deep.AppendSrc
import Derived.Lib.AppendStr
import Derived.Laws.BytesArg
import Derived.WalkMore
import Derived.ScopeJumps
import Derived.Lib.Bytealg
import Derived.Laws.Externs
import Derived.Laws.IdiomStrings
import Derived.Outline
import Derived.IntWalk
import Derived.Laws.Tables
import Derived.Laws.Rows
import Derived.ChangeKeysEq
import Derived.Laws.StructEq
import Derived.RangeFuncBound
import Derived.RangeFuncLeaves
import Derived.OwnWalkIn
import Derived.LoopIn
import Derived.Shelf.Abstract
import Derived.Test.YtfgjhgecmelccaaRows
import Derived.ProofKit
import Derived.OpenShut
import Derived.JoinedCond
import Derived.Deep.Slices
import Derived.Deep.Fields
import Derived.Carry
namespace Go.Proofs.Ytfgjhgecmelccaa
open Go.RowKit

/-- The call hands back v; nothing below the heap's end has turned. -/
def RetV (w : World) (v : Value) (e : Ending) (w' : World) : Prop := e = .returned v ∧ Below w.heap.size w w'
theorem RetV.of {w w' : World} {v v' : Value} (h : v' = v) (hb : Below w.heap.size w w') : RetV w v (.returned v') w' := ⟨by rw [h], hb⟩
theorem RetV.int {w w' : World} {k : IntKind} {a b : Int} (h : a = b) (hb : Below w.heap.size w w') : RetV w (.int k b) (.returned (.int k a)) w' := ⟨by rw [h], hb⟩
theorem RetV.bool {w w' : World} {a b : Bool} (h : a = b) (hb : Below w.heap.size w w') : RetV w (.bool b) (.returned (.bool a)) w' := ⟨by rw [h], hb⟩

/-- Where a walk is to stand still. -/
def Stop (p : Prop) : Prop := p
theorem Stop.out {p : Prop} (h : Stop p) : p := h
theorem Stop.mk {p : Prop} (h : p) : Stop p := h

/-! Worlds that have grown. -/
def Grow (W : World) : Type := {w' : World // Below W.heap.size W w'}
def grow (W : World) (x : Grow W) : World := x.1
instance (W : World) : Nonempty (Grow W) := ⟨⟨W, Below.refl _ _⟩⟩
theorem grow_below (W : World) (x : Grow W) : Below W.heap.size W (grow W x) := x.2
@[go_sem] theorem cell?_grow {W : World} {x : Grow W} {b o : Nat} (h : b < W.heap.size) : (grow W x).cell? ⟨b, o, none⟩ = W.cell? ⟨b, o, none⟩ := (grow_below W x).cell (p := ⟨b, o, none⟩) h
@[go_sem] theorem ite_max (x y : Int) : (if y > x then y else x) = max x y := by split <;> omega
@[go_sem] theorem ite_max' (x y : Int) : (if x < y then y else x) = max x y := by split <;> omega
@[go_sem] theorem ite_min (x y : Int) : (if y < x then y else x) = min x y := by split <;> omega

/-! Texts as lists of bytes. -/
def str (l : List UInt8) : ByteArray := ⟨l.toArray⟩
@[simp, go_sem] theorem str_size (l : List UInt8) : (str l).size = l.length := by simp [str, ByteArray.size]
@[simp, go_sem] theorem str_toList (l : List UInt8) : (str l).toList = l := by simp [str]
@[simp, go_sem] theorem str_data (l : List UInt8) : (str l).data.toList = l := rfl
@[simp, go_sem] theorem str_append (a b : List UInt8) : str a ++ str b = str (a ++ b) := by
  apply ByteArray.ext; simp [str]
@[simp, go_sem] theorem str_extract (l : List UInt8) (a b : Nat) : (str l).extract a b = str ((l.drop a).take (b - a)) := by
  apply ByteArray.ext
  apply Array.ext'
  simp [str, List.extract_eq_take_drop]
@[simp, go_sem] theorem str_getElem (l : List UInt8) (i : Nat) (h : i < (str l).size) : (str l)[i] = l[i]'(by simpa using h) := by
  simp [str, ByteArray.getElem_eq_getElem_data]
@[simp, go_sem] theorem str_getElem? (l : List UInt8) (i : Nat) : (str l)[i]? = l[i]? := by
  by_cases h : i < l.length
  · rw [getElem?_pos (str l) i (by simpa using h), str_getElem, getElem?_pos l i h]
  · rw [getElem?_neg (str l) i (by simpa using h), getElem?_neg l i h]
theorem str_of (s : ByteArray) : s = str s.data.toList := by apply ByteArray.ext; simp [str]
@[simp, go_sem] theorem str_lit (l : List UInt8) : ({ data := l.toArray } : ByteArray) = str l := rfl
end Go.Proofs.Ytfgjhgecmelccaa
namespace Go.Proofs.Ytfgjhgecmelccaa
open Go.RowKit

/-! A slice that reads as a list: k cells an element. -/
def Row {α : Type} (k : Nat) (cs : α → List Value) (w : World) (b off : Nat) (l : List α) : Prop :=
  ∀ i (h : i < l.length) (j : Nat) u, (cs l[i])[j]? = some u → w.cell? ⟨b, off + i * k + j, none⟩ = some u
def In {α : Type} (k : Nat) (cs : α → List Value) (w : World) (A : Option Addr) (c : Nat) (l : List α) : Prop :=
  l.length ≤ c ∧ c ≤ 9223372036854775807 ∧ l.length ≤ 4294967296 ∧ (l = [] ∨ ∃ b off, A = some ⟨b, off, none⟩ ∧ b < w.heap.size ∧ Row k cs w b off l)
section
variable {α : Type} {k : Nat} {cs : α → List Value} {w w' : World} {A : Option Addr} {c b off : Nat} {l : List α}
theorem Row.keep (h : Row k cs w b off l) (hk : ∀ o, w'.cell? ⟨b, o, none⟩ = w.cell? ⟨b, o, none⟩) : Row k cs w' b off l :=
  fun i hi j u hu => (hk _).trans (h i hi j u hu)
theorem Row.below (h : Row k cs w b off l) (hb : Below w.heap.size w w') (hlt : b < w.heap.size) : Row k cs w' b off l :=
  h.keep fun o => hb.cell (p := ⟨b, o, none⟩) hlt
theorem Row.drop (h : Row k cs w b off l) (m : Nat) : Row k cs w b (off + m * k) (l.drop m) := fun i hi j u hu => by
  rw [List.getElem_drop] at hu
  have hm : m + i < l.length := by rw [List.length_drop] at hi; omega
  rw [show off + m * k + i * k + j = off + (m + i) * k + j by rw [Nat.add_mul]; omega]
  exact h (m + i) hm j u hu
theorem Row.take (h : Row k cs w b off l) (m : Nat) : Row k cs w b off (l.take m) := fun i hi j u hu => by
  rw [List.getElem_take] at hu
  exact h i (by rw [List.length_take] at hi; omega) j u hu
theorem In.below (h : In k cs w A c l) (hb : Below w.heap.size w w') : In k cs w' A c l :=
  ⟨h.1, h.2.1, h.2.2.1, h.2.2.2.imp id fun ⟨b, off, hA, hlt, hr⟩ => ⟨b, off, hA, Nat.lt_of_lt_of_le hlt hb.size, hr.below hb hlt⟩⟩
theorem In.grow (h : In k cs w A c l) (x : Grow w) : In k cs (grow w x) A c l := h.below (grow_below w x)
theorem In.alloc (h : In k cs w A c l) (o : Obj) : In k cs (w.alloc o) A c l := h.below ((Below.refl _ _).alloc (Nat.le_refl _) _)
theorem In.nil (hc : c ≤ 9223372036854775807) : In k cs w A c ([] : List α) := ⟨by simp, hc, by simp, .inl rfl⟩
theorem In.at (h : In k cs w A c l) {i : Nat} (hi : i < l.length) : ∃ b off, A = some ⟨b, off, none⟩ ∧ b < w.heap.size ∧ Row k cs w b off l :=
  h.2.2.2.resolve_left (fun e => by subst e; simp at hi)
end

structure Val where
  kind : Int
  n : Int
  s : List UInt8
deriving DecidableEq
structure Node where
  op : Int
  n : Int
  v : Val
deriving DecidableEq
def Val.cells (x : Val) : List Value := [.int .i64 x.kind, .int .i64 x.n, .string (str x.s)]
abbrev Val.val (x : Val) : Value := .agg #[.int .i64 x.kind, .int .i64 x.n, .string (str x.s)]
def Node.cells (x : Node) : List Value := [.int .i64 x.op, .int .i64 x.n, .int .i64 x.v.kind, .int .i64 x.v.n, .string (str x.v.s)]
abbrev Node.val (x : Node) : Value := .agg #[.int .i64 x.op, .int .i64 x.n, .int .i64 x.v.kind, .int .i64 x.v.n, .string (str x.v.s)]
/-! What may be. -/
def Val.ok (x : Val) : Bool :=
  if x.kind = 0 then decide (x.n = 0) && x.s.isEmpty else if x.kind = 1 then decide (0 ≤ x.n) && decide (x.n ≤ 1099511627776) && x.s.isEmpty
  else if x.kind = 2 then decide (x.n = 0) && decide (x.s.length ≤ 24) else false
def Val.none (x : Val) : Bool := decide (x.kind = 0) && decide (x.n = 0) && x.s.isEmpty
def Node.ok (x : Node) : Bool :=
  if x.op = 1 ∨ x.op = 2 ∨ x.op = 10 ∨ x.op = 11 ∨ x.op = 12 then decide (x.n = 0) && x.v.none
  else if x.op = 3 ∨ x.op = 4 then decide (0 ≤ x.n) && decide (x.n < 16) && x.v.none
  else if x.op = 5 then decide (0 ≤ x.n) && decide (x.n < 8) && x.v.none
  else if x.op = 6 ∨ x.op = 7 ∨ x.op = 8 then decide (0 ≤ x.n) && decide (x.n < 8) && x.v.ok && !x.v.none
  else if x.op = 9 then decide (0 ≤ x.n) && decide (x.n < 8) && x.v.ok && decide (x.v.kind = 2)
  else false
def parts (op : Int) : Int := if op = 10 then 1 else if op = 11 ∨ op = 12 then 2 else 0
/-! Where trees end. -/
end Go.Proofs.Ytfgjhgecmelccaa
namespace Go.Proofs.Ytfgjhgecmelccaa
open Go.RowKit

theorem add_lit (g n : Nat) : (⟨g, 0, none⟩ : Addr).add n = ⟨g, n, none⟩ := by
  unfold Addr.add; split
  · subst_vars; rfl
  · simp
theorem add_lit' (g o n : Nat) : (⟨g, o, none⟩ : Addr).add n = ⟨g, o + n, none⟩ := by
  unfold Addr.add; split
  · subst_vars; rfl
  · simp
section
variable {α : Type} {k : Nat} {cs : α → List Value}
theorem flat_get (hk : ∀ x, (cs x).length = k) : ∀ (l : List α) (i : Nat) (h : i < l.length) (j : Nat), j < k → (l.flatMap cs)[i * k + j]? = (cs l[i])[j]?
  | [], i, h, _, _ => by simp at h
  | x :: l, 0, _, j, hj => by simp only [List.flatMap_cons, Nat.zero_mul, Nat.zero_add, List.getElem_cons_zero]; rw [List.getElem?_append_left (by rw [hk]; exact hj)]
  | x :: l, i + 1, h, j, hj => by
    simp only [List.flatMap_cons, List.getElem_cons_succ]
    rw [List.getElem?_append_right (by rw [hk, Nat.add_mul]; omega), hk, show (i + 1) * k + j - k = i * k + j by rw [Nat.add_mul]; omega]
    exact flat_get hk l i (by simpa using h) j hj
end

/-- What append asks of a slice's type t and its element type e. -/
structure Elem (P : Program) (t e : TypeId) (size bytes : Nat) : Prop where
  under : P.underlying t = some (.slice e)
  info : ∃ i z, P.info? e = some i ∧ i.zero = some z ∧ i.size = size ∧ i.bytes = bytes ∧ z.cells.size = size
  pos : 0 < size
  small : bytes ≤ 16384
theorem Elem.mk' {P : Program} {t e : TypeId} {z : Value} {size bytes : Nat} (hu : P.underlying t = some (.slice e)) (hi : (P.info? e).map (fun i => (i.zero, i.size, i.bytes)) = some (some z, size, bytes)) (hz : z.cells.size = size) (hp : 0 < size) (hb : bytes ≤ 16384) :
    Elem P t e size bytes := by
  obtain ⟨i, h1, h2, h3, h4⟩ := info_parts hi
  exact ⟨hu, ⟨i, z, h1, h2, h3, h4, hz⟩, hp, hb⟩

section
variable {w w' : World} {base : Nat} {e : TypeId} {size n : Nat} {v : Value} {xs : List Value}
theorem own_below (h : w.ownsRow base e size v n xs) (hb : Below w.heap.size w w') : w'.ownsRow base e size v n xs := by
  obtain ⟨h1, h2⟩ := h
  refine ⟨h1, ?_⟩
  rcases h2 with h2 | ⟨g, cap, cur, hv, hg, hh, r⟩
  · exact .inl h2
  · exact .inr ⟨g, cap, cur, hv, hg, by rw [hb.block g (by
      rcases Nat.lt_or_ge g w.heap.size with hlt | hge
      · exact hlt
      · rw [Array.getElem?_eq_none hge] at hh; cases hh)]; exact hh, r⟩
theorem own_base {base' : Nat} (h : w.ownsRow base e size v n xs) (hb : base' ≤ base) : w.ownsRow base' e size v n xs :=
  ⟨h.1, h.2.imp id fun ⟨g, cap, cur, hv, hg, r⟩ => ⟨g, cap, cur, hv, Nat.le_trans hb hg, r⟩⟩
theorem grown_below {B : Nat} {row : Option Nat} (hg : w.grownBy w' row) (hB : B ≤ w.heap.size) (hr : ∀ k, row = some k → B ≤ k) : Below B w w' := (Below.refl _ _).grown hg hB hr
end
section
variable {α : Type} {k : Nat} {cs : α → List Value} {w : World} {base : Nat} {e : TypeId} {v : Value} {l : List α}
/-- An owned slice reads as a list. -/
theorem In.of_own (hk : ∀ x, (cs x).length = k) (h : w.ownsRow base e k v l.length (l.flatMap cs)) (hs : l.length ≤ 4294967296) : ∃ A c, v = .slice A l.length c ∧ In k cs w A c l := by
  have hcell := fun g => h.cells (g := g)
  rcases h.2 with ⟨rfl, h0⟩ | ⟨g, cap, cur, rfl, hg, hh, hn, hm, r⟩
  · have : l = [] := List.eq_nil_of_length_eq_zero h0
    subst this
    exact ⟨none, 0, rfl, In.nil (by omega)⟩
  · refine ⟨_, cap, rfl, hn, by unfold maxLen at hm; omega, hs, .inr ⟨g, 0, rfl, ?_, ?_⟩⟩
    · rcases Nat.lt_or_ge g w.heap.size with hlt | hge
      · exact hlt
      · rw [Array.getElem?_eq_none hge] at hh; cases hh
    · intro i hi j u hu
      have hj : j < k := by rw [← hk l[i]]; exact (List.getElem?_eq_some_iff.1 hu).1
      have := hcell g rfl (i * k + j) u (by rw [flat_get hk l i hi j hj]; exact hu)
      rw [add_lit] at this
      simpa using this
end

/-- The cells that an append takes. -/
def Src (w : World) (A : Option Addr) (m size : Nat) (news : List Value) : Prop :=
  news.length = m * size ∧ (0 < m → ∃ ad, A = some ad ∧ ∀ j u, news[j]? = some u → w.cell? (ad.add j) = some u)
section
variable {P : Program} (w : World)
/-- append onto a slice of the call's own; the source nil, empty or not. -/
theorem wpList_app {ops : Array Oper} {rest : List Oper} {o : Oper} {a : Act} {Q : Exit → Act → World → Prop} (hgd : o.guard = none) (s x : Operand) {t e : TypeId} {size bytes : Nat} (I : Elem P t e size bytes)
    (ho : o.op = .call { callee := .builtin .append, args := #[s, x], argTypes := #[t, t] })
    (base : Nat) (v : Value) (n : Nat) (xs : List Value) (hs : a.eval s = v) (hown : w.ownsRow base e size v n xs)
    (A : Option Addr) (m c : Nat) (news : List Value) (hx : a.eval x = .slice A m c) (hr : Src w A m size news) (h1 : ∀ u ∈ news, u.oneCell' = true)
    (hn : n + m ≤ 8589934592) (hbase : base ≤ w.heap.size)
    (h : ∀ v' w', w'.ownsRow base e size v' (n + m) (xs ++ news) → w.grownBy w' v.ownBlock → Below base w w' → (v'.ownBlock = v.ownBlock ∨ v'.ownBlock = some w.heap.size) → wpList P ops Q rest (a.put o.dst v') w') : wpList P ops Q (o :: rest) a w := by
  refine wpList_plain hgd fun K hK => ?_
  have key : ∃ v' w', (Builtin.append_ #[t, t] o.type #[v, .slice A m c]).run P w = .ok v' w' ∧ w'.ownsRow base e size v' (n + m) (xs ++ news) ∧ w.grownBy w' v.ownBlock ∧ (v'.ownBlock = v.ownBlock ∨ v'.ownBlock = some w.heap.size) := by
    obtain ⟨i, z, h2, h3, h4, h5, h6⟩ := I.info
    have hb1 : (n + m) * bytes ≤ 140737488355328 := Nat.le_trans (Nat.mul_le_mul hn I.small) (by omega)
    rcases A with _ | ad
    · have hm : m = 0 := by
        rcases Nat.eq_zero_or_pos m with h0 | h0
        · exact h0
        · obtain ⟨ad, hh, _⟩ := hr.2 h0
          cases hh
      subst hm
      have hnil : news = [] := List.eq_nil_of_length_eq_zero (by simpa using hr.1)
      subst hnil
      refine ⟨v, w, ?_, by simpa using hown, ⟨rfl, rfl, rfl, Nat.le_refl _, fun _ _ _ => rfl⟩, .inl rfl⟩
      rcases hown.2 with ⟨rfl, rfl⟩ | ⟨g, cap, cur, rfl, _, _, hnc, _⟩
      · simp [Builtin.append_, run_underlying I.under, sizeOf, typeInfo, h2, Builtin.lenOf, Builtin.firstCells]
      · simp [Builtin.append_, run_underlying I.under, sizeOf, typeInfo, h2, Builtin.lenOf, Builtin.firstCells, hnc, storeCells]
    · have hcells : ∀ j u, news[j]? = some u → w.cell? (ad.add j) = some u := by
        intro j u hu
        rcases Nat.eq_zero_or_pos m with h0 | h0
        · subst h0
          have hnil : news = [] := List.eq_nil_of_length_eq_zero (by simpa using hr.1)
          subst hnil
          simp at hu
        · obtain ⟨ad', hh, hc⟩ := hr.2 h0
          injection hh with hh
          subst hh
          exact hc j u hu
      obtain ⟨v', w', hrun, g2, g3, _, g5⟩ := run_append_own_at (P := P) w base t o.type e i z size bytes I.under h2 h3 h4 h5 h6 I.pos v n xs hown ad m c news hr.1 hcells h1 (by unfold maxLen; omega) hb1 hbase
      exact ⟨v', w', hrun, g2, g3, g5⟩
  obtain ⟨v', w', hrun, g2, g3, g4⟩ := key
  unfold Oper.wp execOp
  simp only [ho, resolve, invoke, builtin, Sem.run_bind, Sem.run_pure, Result.andThen_ok, List.map_toArray, List.map_cons, List.map_nil, hs, hx, hrun]
  exact hK _ _ (h v' w' g2 g3 (grown_below g3 hbase fun k hk => (hown.lt k hk).1) g4)
/-- The source is the row that the statement itself has just laid, of one element. -/
theorem Src.new (W : World) (news : List Value) (e : TypeId) (size : Nat) (hl : news.length = size) : Src (W.alloc (.cells news.toArray e)) (some ⟨W.heap.size, 0, none⟩) 1 size news := by
  refine ⟨by simpa using hl, fun _ => ⟨_, rfl, fun j u hu => ?_⟩⟩
  rw [add_lit, World.cell?_alloc_new]
  simpa using hu
end
section
variable {w : World} {base : Nat} {e : TypeId} {size n : Nat} {v : Value} {xs : List Value}
theorem own_form (h : w.ownsRow base e size v n xs) : ∃ A c, v = .slice A n c ∧ n ≤ c ∧ c ≤ 9223372036854775807 := by
  rcases h.2 with ⟨rfl, rfl⟩ | ⟨g, cap, cur, rfl, _, _, hn, hm, _⟩
  · exact ⟨none, 0, rfl, by omega, by omega⟩
  · exact ⟨_, cap, rfl, hn, by unfold maxLen at hm; omega⟩
end
def lenOf : Value → Nat | .slice _ n _ => n | _ => 0
/-- The call hands back a slice of its own that reads as l. -/
def RetS {α : Type} (k : Nat) (cs : α → List Value) (et : TypeId) (w : World) (l : List α) (e : Ending) (w' : World) : Prop :=
  ∃ v, e = .returned v ∧ w'.ownsRow w.heap.size et k v l.length (l.flatMap cs) ∧ Below w.heap.size w w'
/-- A row that lay below a fresh one is kept while the fresh one grows. -/
theorem own_kept_lt {w w' : World} {b1 : Nat} {e1 : TypeId} {s1 n1 : Nat} {v1 : Value} {x1 : List Value} {g : Nat} (h1 : w.ownsRow b1 e1 s1 v1 n1 x1) (hg : w.grownBy w' (some g)) (hne : ∀ k, v1.ownBlock = some k → k ≠ g) :
    w'.ownsRow b1 e1 s1 v1 n1 x1 := h1.kept hg (by
  cases h : v1.ownBlock with
  | none => exact .inl rfl
  | some k => exact .inr (fun e => hne k h (by injection e)))
theorem Node.cells_len (x : Node) : x.cells.length = 5 := rfl
/-- A slice in a slice: where it lies, its capacity, what it reads as. -/
abbrev Kid := Option Addr × Nat × List Node
def Kid.val (x : Kid) : Value := .slice x.1 x.2.2.length x.2.1
def Kid.cells (x : Kid) : List Value := [x.val]
end Go.Proofs.Ytfgjhgecmelccaa
