/-
  Lemmas (walks and plain laws), in one text.
-/
import Derived.Test.YtfgjhgecmelccaaDoorRows
import Derived.WalkKit
import Derived.WalkSpells
import Derived.WalkLawsBesides
import Derived.Lib.Hide
import Derived.Deep.QuietTactic
import Derived.BigQuiet
import Derived.Maps.AppendAt
import Derived.WalkSmall
import Derived.ProofKit
import Derived.OpenShut
import Derived.JoinedCond
import Derived.Deep.Slices
import Derived.Deep.Fields
import Derived.Carry
import Derived.HandedShaped
import Derived.Shelf.Strings.Builder1
import Derived.Shelf.Strings.Builder2
import Derived.Shelf.Strings.OnBuilder
import Derived.Shelf.Small.Wraps
import Derived.Shelf.Utf8.RuneCount
import Derived.Shelf.Strconv.Itoa0
import Derived.Shelf.Strconv.Itoa1
import Derived.Shelf.LaysM
import Derived.Shelf.Strconv.Itoa2
import Derived.Shelf.Strconv.Itoa3
import Derived.Shelf.Strings.Search1
import Derived.Shelf.Strings.Search2
import Derived.Shelf.Strings.Search3
import Derived.Shelf.Strings.Count
import Derived.Shelf.Strings.Shaped
import Derived.Shelf.Strings.Split
import Derived.Shelf.Strings.SplitShaped
import Derived.Shelf.Unicode.Decode
import Derived.Shelf.Strings.RuneCount
import Derived.Shelf.Strings.Explode
import Derived.Shelf.Unicode.DecodeSlow
import Derived.Test.YtfgjhgecmelccaaDoorProg
import Derived.Deep.AppendSrc
import Derived.Lib.AppendStr
import Derived.Laws.BytesArg
import Derived.Lib.AppendIntMem
import Derived.Lib.ItoaLen
import Derived.Lib.TrailingZeros
import Derived.Lib.SplitLaws
import Derived.Lib.ItoaNum
import Derived.Shelf.Strings.PiecesUse
import Derived.Shelf.Spec.TrailingZeros
import Derived.RangeFuncNested
import Derived.RangeFuncBound
import Derived.RangeFuncCalls
import Derived.RangeFuncLeaves
import Derived.Shelf.Abstract
import Derived.Shelf.RegionOpen
import Derived.OwnWalkIn
import Derived.TacticsInMore
import Derived.LoopNIn
import Derived.LoopIn
import Derived.Test.YtfgjhgecmelccaaDoorTie
import Derived.Lib.LaidTab
import Derived.LaidMore
import Derived.Lay
import Derived.Stop.LaidErr
import Derived.SevenTiedAt
import Derived.Test.YtfgjhgecmelccaaDoorCards
import Derived.Deep.CutBlock
import Derived.Deep.DeepCutAuto
import Derived.Laws.Tables
import Derived.Laws.Rows
import Derived.Laws.CopyOwn
import Derived.Outline
import Derived.IntWalk
import Derived.Lib.EndianBits
import Derived.StillTail
import Derived.Laws.IdiomStrings
import Derived.ChangeKeysEq
import Derived.Laws.StructEq
namespace Go.Proofs.YtfgjhgecmelccaaDoor
open Go.RowKit

/-- The call hands back v; nothing below the heap's end has turned. -/
def RetV (w : World) (v : Value) (e : Ending) (w' : World) : Prop := e = .returned v ∧ Below w.heap.size w w'
theorem RetV.of {w w' : World} {v v' : Value} (h : v' = v) (hb : Below w.heap.size w w') : RetV w v (.returned v') w' := ⟨by rw [h], hb⟩
theorem RetV.int {w w' : World} {k : IntKind} {a b : Int} (h : a = b) (hb : Below w.heap.size w w') : RetV w (.int k b) (.returned (.int k a)) w' := ⟨by rw [h], hb⟩
theorem RetV.bool {w w' : World} {a b : Bool} (h : a = b) (hb : Below w.heap.size w w') : RetV w (.bool b) (.returned (.bool a)) w' := ⟨by rw [h], hb⟩

/-- Where a walk is to stand still. -/
def Stop (p : Prop) : Prop := p
theorem Stop.out {p : Prop} (h : Stop p) : p := h
theorem Stop.mk {p : Prop} (h : p) : Stop p := h

/-! Worlds that have grown. -/
def Grow (W : World) : Type := {w' : World // Below W.heap.size W w'}
def grow (W : World) (x : Grow W) : World := x.1
instance (W : World) : Nonempty (Grow W) := ⟨⟨W, Below.refl _ _⟩⟩
theorem grow_below (W : World) (x : Grow W) : Below W.heap.size W (grow W x) := x.2
@[go_sem] theorem cell?_grow {W : World} {x : Grow W} {b o : Nat} (h : b < W.heap.size) : (grow W x).cell? ⟨b, o, none⟩ = W.cell? ⟨b, o, none⟩ := (grow_below W x).cell (p := ⟨b, o, none⟩) h
theorem in_grow {W w' : World} (h : Below W.heap.size W w') : ∃ x : Grow W, w' = grow W x := ⟨⟨w', h⟩, rfl⟩
theorem drew_grow (W : World) : ∃ x : Grow W, { W with drawn := W.drawn + 1 } = grow W x := in_grow ((Below.refl _ _).drew)
/-- A contract, met inside a region that draws its order. -/
theorem quiet_grow {P : Program} {f : FuncId} {args : Array Value} {W : World} {x : Grow W} {v : Value} (h : Calls P f args (grow W x) (RetV (grow W x) v)) :
    Calls P f args (grow W x) fun e w'' => e = .returned v ∧ ∃ y : Grow W, w'' = grow W y :=
  h.mono fun _ _ ⟨he, hb⟩ => ⟨he, in_grow ((grow_below W x).trans (hb.mono (grow_below W x).size))⟩
/-- A region that draws its order: one walk of its text, in worlds that have grown out of this one. -/
theorem wp_region_grow {P : Program} {id : Nat} {Q : Exit → Act → World → Prop} {a : Act} {w : World} {l : List Oper} (hm : P.follows .mixedOrders = true) (hB : Region.lexB .any l.toArray = true)
    (h : wpQuiet P l.toArray (fun w' => ∃ x : Grow w, w' = grow w x) (fun a' => ∀ w', Below w.heap.size w w' → Q .normal a' w') l a) : (Code.region id l.toArray true).wp P Q a w :=
  wp_region_quiet (C := fun w' => ∃ x : Grow w, w' = grow w x) hm hB (drew_grow w) (by
    have e : (fun a' => ∀ w', (∃ x : Grow w, w' = grow w x) → Q .normal a' w') = (fun a' => ∀ w', Below w.heap.size w w' → Q .normal a' w') := by
      funext a'
      refine propext ⟨fun h w' hb => h w' (in_grow hb), fun h w' ⟨x, e⟩ => h w' (e ▸ grow_below w x)⟩
    rw [e]
    simpa using h)

@[go_sem] theorem ite_max (x y : Int) : (if y > x then y else x) = max x y := by split <;> omega
@[go_sem] theorem ite_max' (x y : Int) : (if x < y then y else x) = max x y := by split <;> omega
@[go_sem] theorem ite_min (x y : Int) : (if y < x then y else x) = min x y := by split <;> omega

/-! Texts as lists of bytes. -/
def str (l : List UInt8) : ByteArray := ⟨l.toArray⟩
@[simp, go_sem] theorem str_size (l : List UInt8) : (str l).size = l.length := by simp [str, ByteArray.size]
@[simp, go_sem] theorem str_toList (l : List UInt8) : (str l).toList = l := by simp [str]
@[simp, go_sem] theorem str_data (l : List UInt8) : (str l).data.toList = l := rfl
@[simp, go_sem] theorem str_append (a b : List UInt8) : str a ++ str b = str (a ++ b) := by
  apply ByteArray.ext; simp [str]
@[simp, go_sem] theorem str_extract (l : List UInt8) (a b : Nat) : (str l).extract a b = str ((l.drop a).take (b - a)) := by
  apply ByteArray.ext
  apply Array.ext'
  simp [str, List.extract_eq_take_drop]
@[simp, go_sem] theorem str_getElem (l : List UInt8) (i : Nat) (h : i < (str l).size) : (str l)[i] = l[i]'(by simpa using h) := by
  simp [str, ByteArray.getElem_eq_getElem_data]
@[simp, go_sem] theorem str_getElem? (l : List UInt8) (i : Nat) : (str l)[i]? = l[i]? := by
  by_cases h : i < l.length
  · rw [getElem?_pos (str l) i (by simpa using h), str_getElem, getElem?_pos l i h]
  · rw [getElem?_neg (str l) i (by simpa using h), getElem?_neg l i h]
theorem str_of (s : ByteArray) : s = str s.data.toList := by apply ByteArray.ext; simp [str]
@[simp, go_sem] theorem str_lit (l : List UInt8) : ({ data := l.toArray } : ByteArray) = str l := rfl
end Go.Proofs.YtfgjhgecmelccaaDoor
namespace Go.Proofs.YtfgjhgecmelccaaDoor
open Go.RowKit

/-! A slice that reads as a list: k cells an element. -/
def Row {α : Type} (k : Nat) (cs : α → List Value) (w : World) (b off : Nat) (l : List α) : Prop :=
  ∀ i (h : i < l.length) (j : Nat) u, (cs l[i])[j]? = some u → w.cell? ⟨b, off + i * k + j, none⟩ = some u
def In {α : Type} (k : Nat) (cs : α → List Value) (w : World) (A : Option Addr) (c : Nat) (l : List α) : Prop :=
  l.length ≤ c ∧ c ≤ 9223372036854775807 ∧ l.length ≤ 4294967296 ∧ (l = [] ∨ ∃ b off, A = some ⟨b, off, none⟩ ∧ b < w.heap.size ∧ Row k cs w b off l)
section
variable {α : Type} {k : Nat} {cs : α → List Value} {w w' : World} {A : Option Addr} {c b off : Nat} {l : List α}
theorem Row.keep (h : Row k cs w b off l) (hk : ∀ o, w'.cell? ⟨b, o, none⟩ = w.cell? ⟨b, o, none⟩) : Row k cs w' b off l :=
  fun i hi j u hu => (hk _).trans (h i hi j u hu)
theorem Row.below (h : Row k cs w b off l) (hb : Below w.heap.size w w') (hlt : b < w.heap.size) : Row k cs w' b off l :=
  h.keep fun o => hb.cell (p := ⟨b, o, none⟩) hlt
theorem Row.drop (h : Row k cs w b off l) (m : Nat) : Row k cs w b (off + m * k) (l.drop m) := fun i hi j u hu => by
  rw [List.getElem_drop] at hu
  have hm : m + i < l.length := by rw [List.length_drop] at hi; omega
  rw [show off + m * k + i * k + j = off + (m + i) * k + j by rw [Nat.add_mul]; omega]
  exact h (m + i) hm j u hu
theorem Row.take (h : Row k cs w b off l) (m : Nat) : Row k cs w b off (l.take m) := fun i hi j u hu => by
  rw [List.getElem_take] at hu
  exact h i (by rw [List.length_take] at hi; omega) j u hu
theorem In.below (h : In k cs w A c l) (hb : Below w.heap.size w w') : In k cs w' A c l :=
  ⟨h.1, h.2.1, h.2.2.1, h.2.2.2.imp id fun ⟨b, off, hA, hlt, hr⟩ => ⟨b, off, hA, Nat.lt_of_lt_of_le hlt hb.size, hr.below hb hlt⟩⟩
theorem In.grow (h : In k cs w A c l) (x : Grow w) : In k cs (grow w x) A c l := h.below (grow_below w x)
theorem In.alloc (h : In k cs w A c l) (o : Obj) : In k cs (w.alloc o) A c l := h.below ((Below.refl _ _).alloc (Nat.le_refl _) _)
theorem In.nil (hc : c ≤ 9223372036854775807) : In k cs w A c ([] : List α) := ⟨by simp, hc, by simp, .inl rfl⟩
theorem In.at (h : In k cs w A c l) {i : Nat} (hi : i < l.length) : ∃ b off, A = some ⟨b, off, none⟩ ∧ b < w.heap.size ∧ Row k cs w b off l :=
  h.2.2.2.resolve_left (fun e => by subst e; simp at hi)
end

structure Val where
  kind : Int
  n : Int
  s : List UInt8
deriving DecidableEq
structure Node where
  op : Int
  n : Int
  v : Val
deriving DecidableEq
def Val.cells (x : Val) : List Value := [.int .i64 x.kind, .int .i64 x.n, .string (str x.s)]
abbrev Val.val (x : Val) : Value := .agg #[.int .i64 x.kind, .int .i64 x.n, .string (str x.s)]
def Node.cells (x : Node) : List Value := [.int .i64 x.op, .int .i64 x.n, .int .i64 x.v.kind, .int .i64 x.v.n, .string (str x.v.s)]
abbrev Node.val (x : Node) : Value := .agg #[.int .i64 x.op, .int .i64 x.n, .int .i64 x.v.kind, .int .i64 x.v.n, .string (str x.v.s)]
/-! What may be. -/
def Val.ok (x : Val) : Bool :=
  if x.kind = 0 then decide (x.n = 0) && x.s.isEmpty else if x.kind = 1 then decide (0 ≤ x.n) && decide (x.n ≤ 1099511627776) && x.s.isEmpty
  else if x.kind = 2 then decide (x.n = 0) && decide (x.s.length ≤ 24) else false
def Val.none (x : Val) : Bool := decide (x.kind = 0) && decide (x.n = 0) && x.s.isEmpty
def Node.ok (x : Node) : Bool :=
  if x.op = 1 ∨ x.op = 2 ∨ x.op = 10 ∨ x.op = 11 ∨ x.op = 12 then decide (x.n = 0) && x.v.none
  else if x.op = 3 ∨ x.op = 4 then decide (0 ≤ x.n) && decide (x.n < 16) && x.v.none
  else if x.op = 5 then decide (0 ≤ x.n) && decide (x.n < 8) && x.v.none
  else if x.op = 6 ∨ x.op = 7 ∨ x.op = 8 then decide (0 ≤ x.n) && decide (x.n < 8) && x.v.ok && !x.v.none
  else if x.op = 9 then decide (0 ≤ x.n) && decide (x.n < 8) && x.v.ok && decide (x.v.kind = 2)
  else false
def parts (op : Int) : Int := if op = 10 then 1 else if op = 11 ∨ op = 12 then 2 else 0
/-! Where trees end. -/
end Go.Proofs.YtfgjhgecmelccaaDoor
namespace Go.Proofs.YtfgjhgecmelccaaDoor
open Go.RowKit

theorem add_lit (g n : Nat) : (⟨g, 0, none⟩ : Addr).add n = ⟨g, n, none⟩ := by
  unfold Addr.add; split
  · subst_vars; rfl
  · simp
theorem add_lit' (g o n : Nat) : (⟨g, o, none⟩ : Addr).add n = ⟨g, o + n, none⟩ := by
  unfold Addr.add; split
  · subst_vars; rfl
  · simp
section
variable {α : Type} {k : Nat} {cs : α → List Value}
theorem flat_length (hk : ∀ x, (cs x).length = k) : ∀ l : List α, (l.flatMap cs).length = l.length * k
  | [] => by simp
  | x :: l => by rw [List.flatMap_cons, List.length_append, flat_length hk l, hk, List.length_cons, Nat.add_mul]; omega
theorem flat_get (hk : ∀ x, (cs x).length = k) : ∀ (l : List α) (i : Nat) (h : i < l.length) (j : Nat), j < k → (l.flatMap cs)[i * k + j]? = (cs l[i])[j]?
  | [], i, h, _, _ => by simp at h
  | x :: l, 0, _, j, hj => by simp only [List.flatMap_cons, Nat.zero_mul, Nat.zero_add, List.getElem_cons_zero]; rw [List.getElem?_append_left (by rw [hk]; exact hj)]
  | x :: l, i + 1, h, j, hj => by
    simp only [List.flatMap_cons, List.getElem_cons_succ]
    rw [List.getElem?_append_right (by rw [hk, Nat.add_mul]; omega), hk, show (i + 1) * k + j - k = i * k + j by rw [Nat.add_mul]; omega]
    exact flat_get hk l i (by simpa using h) j hj
end

/-- What append asks of a slice's type t and its element type e. -/
structure Elem (P : Program) (t e : TypeId) (size bytes : Nat) : Prop where
  under : P.underlying t = some (.slice e)
  info : ∃ i z, P.info? e = some i ∧ i.zero = some z ∧ i.size = size ∧ i.bytes = bytes ∧ z.cells.size = size
  pos : 0 < size
  small : bytes ≤ 16384
theorem Elem.mk' {P : Program} {t e : TypeId} {z : Value} {size bytes : Nat} (hu : P.underlying t = some (.slice e)) (hi : (P.info? e).map (fun i => (i.zero, i.size, i.bytes)) = some (some z, size, bytes)) (hz : z.cells.size = size) (hp : 0 < size) (hb : bytes ≤ 16384) :
    Elem P t e size bytes := by
  obtain ⟨i, h1, h2, h3, h4⟩ := info_parts hi
  exact ⟨hu, ⟨i, z, h1, h2, h3, h4, hz⟩, hp, hb⟩

section
variable {w w' : World} {base : Nat} {e : TypeId} {size n : Nat} {v : Value} {xs : List Value}
theorem own_below (h : w.ownsRow base e size v n xs) (hb : Below w.heap.size w w') : w'.ownsRow base e size v n xs := by
  obtain ⟨h1, h2⟩ := h
  refine ⟨h1, ?_⟩
  rcases h2 with h2 | ⟨g, cap, cur, hv, hg, hh, r⟩
  · exact .inl h2
  · exact .inr ⟨g, cap, cur, hv, hg, by rw [hb.block g (by
      rcases Nat.lt_or_ge g w.heap.size with hlt | hge
      · exact hlt
      · rw [Array.getElem?_eq_none hge] at hh; cases hh)]; exact hh, r⟩
theorem own_base {base' : Nat} (h : w.ownsRow base e size v n xs) (hb : base' ≤ base) : w.ownsRow base' e size v n xs :=
  ⟨h.1, h.2.imp id fun ⟨g, cap, cur, hv, hg, r⟩ => ⟨g, cap, cur, hv, Nat.le_trans hb hg, r⟩⟩
theorem grown_below {B : Nat} {row : Option Nat} (hg : w.grownBy w' row) (hB : B ≤ w.heap.size) (hr : ∀ k, row = some k → B ≤ k) : Below B w w' := (Below.refl _ _).grown hg hB hr
end
section
variable {α : Type} {k : Nat} {cs : α → List Value} {w : World} {base : Nat} {e : TypeId} {v : Value} {l : List α}
/-- An owned slice reads as a list. -/
theorem In.of_own (hk : ∀ x, (cs x).length = k) (h : w.ownsRow base e k v l.length (l.flatMap cs)) (hs : l.length ≤ 4294967296) : ∃ A c, v = .slice A l.length c ∧ In k cs w A c l := by
  have hcell := fun g => h.cells (g := g)
  rcases h.2 with ⟨rfl, h0⟩ | ⟨g, cap, cur, rfl, hg, hh, hn, hm, r⟩
  · have : l = [] := List.eq_nil_of_length_eq_zero h0
    subst this
    exact ⟨none, 0, rfl, In.nil (by omega)⟩
  · refine ⟨_, cap, rfl, hn, by unfold maxLen at hm; omega, hs, .inr ⟨g, 0, rfl, ?_, ?_⟩⟩
    · rcases Nat.lt_or_ge g w.heap.size with hlt | hge
      · exact hlt
      · rw [Array.getElem?_eq_none hge] at hh; cases hh
    · intro i hi j u hu
      have hj : j < k := by rw [← hk l[i]]; exact (List.getElem?_eq_some_iff.1 hu).1
      have := hcell g rfl (i * k + j) u (by rw [flat_get hk l i hi j hj]; exact hu)
      rw [add_lit] at this
      simpa using this
end

/-- The cells that an append takes. -/
def Src (w : World) (A : Option Addr) (m size : Nat) (news : List Value) : Prop :=
  news.length = m * size ∧ (0 < m → ∃ ad, A = some ad ∧ ∀ j u, news[j]? = some u → w.cell? (ad.add j) = some u)
theorem Src.of_in {α : Type} {k : Nat} {cs : α → List Value} {w : World} {A : Option Addr} {c : Nat} {l : List α} (hk : ∀ x, (cs x).length = k) (hk0 : 0 < k) (h : In k cs w A c l) : Src w A l.length k (l.flatMap cs) := by
  refine ⟨flat_length hk l, fun hm => ?_⟩
  obtain ⟨b, off, rfl, hb, hrow⟩ := h.at hm
  refine ⟨_, rfl, fun j u hu => ?_⟩
  have hj : j < l.length * k := by rw [← flat_length hk l]; exact (List.getElem?_eq_some_iff.1 hu).1
  have hi : j / k < l.length := Nat.div_lt_of_lt_mul (by rw [Nat.mul_comm]; exact hj)
  have hmod : j % k < k := Nat.mod_lt _ hk0
  have hjj : j / k * k + j % k = j := by rw [Nat.mul_comm]; exact Nat.div_add_mod j k
  have hu' : (cs l[j / k])[j % k]? = some u := by rw [← flat_get hk l (j / k) hi (j % k) hmod, hjj]; exact hu
  have := hrow (j / k) hi (j % k) u hu'
  rw [Nat.add_assoc, hjj] at this
  rw [add_lit']; exact this

section
variable {P : Program} (w : World)
/-- append onto a slice of the call's own; the source nil, empty or not. -/
theorem wpList_app {ops : Array Oper} {rest : List Oper} {o : Oper} {a : Act} {Q : Exit → Act → World → Prop} (hgd : o.guard = none) (s x : Operand) {t e : TypeId} {size bytes : Nat} (I : Elem P t e size bytes)
    (ho : o.op = .call { callee := .builtin .append, args := #[s, x], argTypes := #[t, t] })
    (base : Nat) (v : Value) (n : Nat) (xs : List Value) (hs : a.eval s = v) (hown : w.ownsRow base e size v n xs)
    (A : Option Addr) (m c : Nat) (news : List Value) (hx : a.eval x = .slice A m c) (hr : Src w A m size news) (h1 : ∀ u ∈ news, u.oneCell' = true)
    (hn : n + m ≤ 8589934592) (hbase : base ≤ w.heap.size)
    (h : ∀ v' w', w'.ownsRow base e size v' (n + m) (xs ++ news) → w.grownBy w' v.ownBlock → Below base w w' → (v'.ownBlock = v.ownBlock ∨ v'.ownBlock = some w.heap.size) → wpList P ops Q rest (a.put o.dst v') w') : wpList P ops Q (o :: rest) a w := by
  refine wpList_plain hgd fun K hK => ?_
  have key : ∃ v' w', (Builtin.append_ #[t, t] o.type #[v, .slice A m c]).run P w = .ok v' w' ∧ w'.ownsRow base e size v' (n + m) (xs ++ news) ∧ w.grownBy w' v.ownBlock ∧ (v'.ownBlock = v.ownBlock ∨ v'.ownBlock = some w.heap.size) := by
    obtain ⟨i, z, h2, h3, h4, h5, h6⟩ := I.info
    have hb1 : (n + m) * bytes ≤ 140737488355328 := Nat.le_trans (Nat.mul_le_mul hn I.small) (by omega)
    rcases A with _ | ad
    · have hm : m = 0 := by
        rcases Nat.eq_zero_or_pos m with h0 | h0
        · exact h0
        · obtain ⟨ad, hh, _⟩ := hr.2 h0
          cases hh
      subst hm
      have hnil : news = [] := List.eq_nil_of_length_eq_zero (by simpa using hr.1)
      subst hnil
      refine ⟨v, w, ?_, by simpa using hown, ⟨rfl, rfl, rfl, Nat.le_refl _, fun _ _ _ => rfl⟩, .inl rfl⟩
      rcases hown.2 with ⟨rfl, rfl⟩ | ⟨g, cap, cur, rfl, _, _, hnc, _⟩
      · simp [Builtin.append_, run_underlying I.under, sizeOf, typeInfo, h2, Builtin.lenOf, Builtin.firstCells]
      · simp [Builtin.append_, run_underlying I.under, sizeOf, typeInfo, h2, Builtin.lenOf, Builtin.firstCells, hnc, storeCells]
    · have hcells : ∀ j u, news[j]? = some u → w.cell? (ad.add j) = some u := by
        intro j u hu
        rcases Nat.eq_zero_or_pos m with h0 | h0
        · subst h0
          have hnil : news = [] := List.eq_nil_of_length_eq_zero (by simpa using hr.1)
          subst hnil
          simp at hu
        · obtain ⟨ad', hh, hc⟩ := hr.2 h0
          injection hh with hh
          subst hh
          exact hc j u hu
      obtain ⟨v', w', hrun, g2, g3, _, g5⟩ := run_append_own_at (P := P) w base t o.type e i z size bytes I.under h2 h3 h4 h5 h6 I.pos v n xs hown ad m c news hr.1 hcells h1 (by unfold maxLen; omega) hb1 hbase
      exact ⟨v', w', hrun, g2, g3, g5⟩
  obtain ⟨v', w', hrun, g2, g3, g4⟩ := key
  unfold Oper.wp execOp
  simp only [ho, resolve, invoke, builtin, Sem.run_bind, Sem.run_pure, Result.andThen_ok, List.map_toArray, List.map_cons, List.map_nil, hs, hx, hrun]
  exact hK _ _ (h v' w' g2 g3 (grown_below g3 hbase fun k hk => (hown.lt k hk).1) g4)
/-- The source is the row that the statement itself has just laid, of one element. -/
theorem Src.new (W : World) (news : List Value) (e : TypeId) (size : Nat) (hl : news.length = size) : Src (W.alloc (.cells news.toArray e)) (some ⟨W.heap.size, 0, none⟩) 1 size news := by
  refine ⟨by simpa using hl, fun _ => ⟨_, rfl, fun j u hu => ?_⟩⟩
  rw [add_lit, World.cell?_alloc_new]
  simpa using hu
end
section
variable {w : World} {base : Nat} {e : TypeId} {size n : Nat} {v : Value} {xs : List Value}
theorem own_form (h : w.ownsRow base e size v n xs) : ∃ A c, v = .slice A n c ∧ n ≤ c ∧ c ≤ 9223372036854775807 := by
  rcases h.2 with ⟨rfl, rfl⟩ | ⟨g, cap, cur, rfl, _, _, hn, hm, _⟩
  · exact ⟨none, 0, rfl, by omega, by omega⟩
  · exact ⟨_, cap, rfl, hn, by unfold maxLen at hm; omega⟩
theorem own_form' (h : w.ownsRow base e size v n xs) (hn : 0 < n) : ∃ g c, v = .slice (some ⟨g, 0, none⟩) n c ∧ n ≤ c ∧ c ≤ 9223372036854775807 ∧ base ≤ g ∧ g < w.heap.size := by
  rcases h.2 with ⟨rfl, rfl⟩ | ⟨g, cap, cur, rfl, hg, hh, hn, hm, _⟩
  · omega
  · refine ⟨g, cap, rfl, hn, by unfold maxLen at hm; omega, hg, ?_⟩
    rcases Nat.lt_or_ge g w.heap.size with hlt | hge
    · exact hlt
    · rw [Array.getElem?_eq_none hge] at hh; cases hh
end
def lenOf : Value → Nat | .slice _ n _ => n | _ => 0
/-- The call hands back a slice of its own that reads as l. -/
def RetS {α : Type} (k : Nat) (cs : α → List Value) (et : TypeId) (w : World) (l : List α) (e : Ending) (w' : World) : Prop :=
  ∃ v, e = .returned v ∧ w'.ownsRow w.heap.size et k v l.length (l.flatMap cs) ∧ Below w.heap.size w w'
/-- A slice in a slice: where it lies, its capacity, what it reads as. -/
abbrev Kid := Option Addr × Nat × List Node
def Kid.val (x : Kid) : Value := .slice x.1 x.2.2.length x.2.1
def Kid.cells (x : Kid) : List Value := [x.val]
end Go.Proofs.YtfgjhgecmelccaaDoor
namespace Go.Proofs.YtfgjhgecmelccaaDoor
open Go.ChangeShapes Go.WideShapes Go.ChangeAt Go.RowKit
open Go.ChangeMaps (open_string shut_string)

theorem ownKnob_none : ownKnob Tryd.prog.godebug = none := by kernel_rfl
theorem laidOut : laidOutB Tryd.prog = true := by kernel_rfl
section
variable {H : Type} {enc : TypeId × Value → H} {P : Program} {W W' : World}
/-- What was read before reads so behind, if nothing that was there has turned. -/
theorem trodAll_stays (hl : laidOutB P = true) {sp : Nat → Bool} (hb : Below W.heap.size W W') : ∀ (ts : List TypeId) {vs : List Value} {ds : List (DataW H)} {ps : List MemPlace},
    (∀ t ∈ ts, P.readableRec t = true ∧ t < P.types.size) → DataW.TrodAll enc P W 0 (fun _ => true) true ts vs ds ps → (∀ x ∈ ps, x.block < W.heap.size) → (∀ x ∈ ps, sp x.block = true) → DataW.TrodAll enc P W' 0 sp true ts vs ds ps
  | [], vs, ds, ps, _, h, _, _ => by obtain ⟨rfl, rfl, rfl⟩ := trodAll_nil h; exact trodAll_mk0
  | t :: ts, vs, ds, ps, ht, h, hlt, hsp => by
    obtain ⟨v0, vs0, d0, ds0, p0, q0, rfl, rfl, rfl, h0, r0⟩ := trodAll_cons h
    have h1 := ht t (List.mem_cons_self ..)
    refine trodAll_cons_mk (WideElems.Trod_stays hl h1.1 h1.2 h0 (fun x hx => hb.same (hlt x (List.mem_append_left _ hx))) (fun x hx => hsp x (List.mem_append_left _ hx))) ?_
    exact trodAll_stays hl hb ts (fun t' ht' => ht t' (List.mem_cons_of_mem _ ht')) r0 (fun x hx => hlt x (List.mem_append_right _ hx)) (fun x hx => hsp x (List.mem_append_right _ hx))
/-- The post of a law. -/
theorem law_post {f : Func} {s : ChangeSpec} {tb : TypeId} (hl : laidOutB P = true) (htb : P.underlying tb = some .bool) (hf : f.resultTypes = #[tb]) (hvars : s.vars = [])
    (hts : (f.params.toList.all fun t => P.readableRec t && decide (t < P.types.size)) = true) {args : Array Value} {ds gs : List (DataW H)} {before : List MemPlace}
    (hW : DataW.Whole enc P f.params.toList s.vars false W args.toList ds gs before) (hfn : s.fn H (ds ++ gs) = { results := [.lit (.bool true)], args := ds }) (hb : Below W.heap.size W W') :
    s.post enc P f false true false false W args (.bool true) W' := by
  have hlt : ∀ p ∈ before, p.block < W.heap.size := fun p hp => hW.lt p hp
  have hW0 := hW
  obtain ⟨p, q, hA, hV, rfl, hfz, hnd⟩ := hW
  rw [hvars] at hV
  obtain ⟨rfl, rfl⟩ := trodVars_none hV
  simp only [List.append_nil] at hlt hW0
  have hargs : ∀ sp : Nat → Bool, (∀ x ∈ p, sp x.block = true) → DataW.TrodAll enc P W' 0 sp true f.params.toList args.toList ds p :=
    fun sp hsp => trodAll_stays hl hb _ (fun t ht => by have := List.all_eq_true.1 hts t ht; simpa using this) hA hlt hsp
  have hres : ∀ (b : Nat) (sp : Nat → Bool) (hd : Bool), DataW.TrodAll enc P W' b sp hd f.resultTypes.toList ((Value.bool true).resultList f.resultTypes.size) [.lit (.bool true)] [] := by
    intro b sp hd
    rw [hf]
    exact trodAll_cons_mk (shut_bool htb true) trodAll_mk0
  have hold : ∀ x ∈ p, (fun b => decide (b < W.heap.size)) x.block = true := fun x hx => by simpa using hlt x hx
  refine ⟨ds, [], p, [], p, [], hW0, ?_, ?_, ?_, World.keptBut_mono (fun x hx => ⟨hx, ?_⟩) (hb.frame (· ∈ p)), fun h => by cases h⟩
  · rw [show s.fn H (ds ++ []) = _ from hfn]; exact hres _ _ _
  · rw [show s.fn H (ds ++ []) = _ from hfn]; exact hargs _ hold
  · rw [show s.fn H (ds ++ []) = _ from hfn, hvars]; rfl
  · exact Or.inr (by simpa using hx)
end
end Go.Proofs.YtfgjhgecmelccaaDoor
namespace Go.Proofs.YtfgjhgecmelccaaDoor
open Go.ChangeShapes Go.WideShapes Go.ChangeAt Go.RowKit

theorem returns_and_shaped {H : Type} {enc : TypeId × Value → H} {a : Assume} {C : Checked} {os : Os} {f : FuncId} {fn : Func} {s : ChangeSpec} {conds : List PathCond} {apart fresh handsOn again : Bool} {X : World → Array Value → Prop}
    (hX : ∀ (w w' : World) (args : Array Value), w.heap = w'.heap → X w args → X w' args)
    (own : ownKnob C.prog.godebug = none) (started : os.Started) (noInit : C.prog.inits.idxOf? f = none) (hfn : C.prog.funcs[f]? = some fn)
    (witness : ∃ (w : World) (tape : Tape) (i : Input), w.os = os ∧ (w.forCall tape i).Shaped C.prog ∧ i.vars = [] ∧ Input.okWide C.prog (w.forCall tape i) .any w.heap.size f i ∧
      ((s.pre enc C.prog fn conds apart (w.forCall tape i).memory i.args ∧ X (w.forCall tape i).memory i.args) ∧ sizedMet enc C.prog fn (OpenSpec.ofChange s) apart (w.forCall tape i).memory i.args) ∧ a.holds C.prog (lone (Frame.enter C.prog f i.args .normal) [] (w.forCall tape i)))
    (contract : ∀ (W : World) (base : Nat) (args : Array Value) (ds gs : List (DataW H)) (before : List MemPlace),
      (∀ (j : Nat) t v, fn.params[j]? = some t → args[j]? = some v → Value.okWide C.prog W .any base t v) →
      DataW.Whole enc C.prog fn.params.toList s.vars apart W args.toList ds gs before → (DataW.weightsEach C.prog (fn.params.toList ++ s.plain.varTypes C.prog) (ds ++ gs)).all (· ≤ reachBytes) = true → X W args → W.ShapedOpen C.prog →
      Calls C.prog f args W fun e W' => ∃ v, e = .returned v ∧ s.post enc C.prog fn apart fresh handsOn again W args v W') :
    ReturnsInHanded a C os f .any (fun w args => (s.pre enc C.prog fn conds apart w args ∧ X w args) ∧ sizedMet enc C.prog fn (OpenSpec.ofChange s) apart w args) (s.post enc C.prog fn apart fresh handsOn again) := by
  refine returnsInHanded_of_calls own started noInit witness ?_
  intro w tape i _ hsh _ hok hpre _
  obtain ⟨_, _, _, fn', hfn', _, _, _, _, hval⟩ := hok
  have e : fn' = fn := Option.some.inj (hfn'.symm.trans hfn)
  subst e
  obtain ⟨⟨⟨ds, gs, before, hw, _⟩, hx⟩, hz⟩ := hpre
  have hw' := DataW.Whole.of_heap (w' := w.forCall tape i) (by rfl) hw
  refine (contract (w.forCall tape i) w.heap.size i.args ds gs before hval hw' (hz.weights hw) (hX _ _ _ (by rfl) hx) hsh).mono fun e W' ⟨v, he, hp⟩ => ?_
  subst he
  exact ChangeSpec.post_blind hp
end Go.Proofs.YtfgjhgecmelccaaDoor
