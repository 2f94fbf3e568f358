/-
  Lemmas (walks and plain laws), in one text.
-/
import Derived.BigQuiet
import Derived.Deep.QuietTactic
import Derived.Lib.Hide
import Derived.WalkKit
import Derived.WalkLawsBesides
import Derived.WalkSpells
import Derived.Maps.AppendAt
import Derived.WalkSmall
import Derived.Carry
import Derived.Deep.Fields
import Derived.Deep.Slices
import Derived.JoinedCond
import Derived.OpenShut
import Derived.ProofKit
import Derived.Test.YtldoedmclfbgpaaRows
import Derived.Deep.AppendSrc
import Derived.Laws.BytesArg
import Derived.Lib.AppendStr
import Derived.Laws.Rows
import Derived.Laws.Tables
import Derived.ChangeKeysEq
import Derived.Laws.StructEq
import Derived.Test.YtldoedmclfbgpaaProg
import Derived.Shelf.Spec.TrailingZeros
import Derived.Lib.BitFns
import Derived.Lib.TrailingZeros
import Derived.Laws.IdiomStrings
import Derived.Deep.CutBlock
import Derived.Deep.DeepCutAuto
import Derived.IntWalk
import Derived.Outline
namespace Go.Proofs.Ytldoedmclfbgpaa
open Go.RowKit

/-- The call hands back v; nothing below the heap's end has turned. -/
def RetV (w : World) (v : Value) (e : Ending) (w' : World) : Prop := e = .returned v ∧ Below w.heap.size w w'
theorem RetV.of {w w' : World} {v v' : Value} (h : v' = v) (hb : Below w.heap.size w w') : RetV w v (.returned v') w' := ⟨by rw [h], hb⟩
theorem RetV.int {w w' : World} {k : IntKind} {a b : Int} (h : a = b) (hb : Below w.heap.size w w') : RetV w (.int k b) (.returned (.int k a)) w' := ⟨by rw [h], hb⟩
theorem RetV.bool {w w' : World} {a b : Bool} (h : a = b) (hb : Below w.heap.size w w') : RetV w (.bool b) (.returned (.bool a)) w' := ⟨by rw [h], hb⟩

/-- Where a walk is to stand still. -/
def Stop (p : Prop) : Prop := p
theorem Stop.out {p : Prop} (h : Stop p) : p := h
theorem Stop.mk {p : Prop} (h : p) : Stop p := h

/-! Worlds that have grown. -/
def Grow (W : World) : Type := {w' : World // Below W.heap.size W w'}
def grow (W : World) (x : Grow W) : World := x.1
instance (W : World) : Nonempty (Grow W) := ⟨⟨W, Below.refl _ _⟩⟩
theorem grow_below (W : World) (x : Grow W) : Below W.heap.size W (grow W x) := x.2
@[go_sem] theorem cell?_grow {W : World} {x : Grow W} {b o : Nat} (h : b < W.heap.size) : (grow W x).cell? ⟨b, o, none⟩ = W.cell? ⟨b, o, none⟩ := (grow_below W x).cell (p := ⟨b, o, none⟩) h
theorem in_grow {W w' : World} (h : Below W.heap.size W w') : ∃ x : Grow W, w' = grow W x := ⟨⟨w', h⟩, rfl⟩
theorem drew_grow (W : World) : ∃ x : Grow W, { W with drawn := W.drawn + 1 } = grow W x := in_grow ((Below.refl _ _).drew)
/-- A contract, met inside a region that draws its order. -/
theorem quiet_grow {P : Program} {f : FuncId} {args : Array Value} {W : World} {x : Grow W} {v : Value} (h : Calls P f args (grow W x) (RetV (grow W x) v)) :
    Calls P f args (grow W x) fun e w'' => e = .returned v ∧ ∃ y : Grow W, w'' = grow W y :=
  h.mono fun _ _ ⟨he, hb⟩ => ⟨he, in_grow ((grow_below W x).trans (hb.mono (grow_below W x).size))⟩
/-- A region that draws its order: one walk of its text, in worlds that have grown out of this one. -/
theorem wp_region_grow {P : Program} {id : Nat} {Q : Exit → Act → World → Prop} {a : Act} {w : World} {l : List Oper} (hm : P.follows .mixedOrders = true) (hB : Region.lexB .any l.toArray = true)
    (h : wpQuiet P l.toArray (fun w' => ∃ x : Grow w, w' = grow w x) (fun a' => ∀ w', Below w.heap.size w w' → Q .normal a' w') l a) : (Code.region id l.toArray true).wp P Q a w :=
  wp_region_quiet (C := fun w' => ∃ x : Grow w, w' = grow w x) hm hB (drew_grow w) (by
    have e : (fun a' => ∀ w', (∃ x : Grow w, w' = grow w x) → Q .normal a' w') = (fun a' => ∀ w', Below w.heap.size w w' → Q .normal a' w') := by
      funext a'
      refine propext ⟨fun h w' hb => h w' (in_grow hb), fun h w' ⟨x, e⟩ => h w' (e ▸ grow_below w x)⟩
    rw [e]
    simpa using h)

@[go_sem] theorem ite_max (x y : Int) : (if y > x then y else x) = max x y := by split <;> omega
@[go_sem] theorem ite_max' (x y : Int) : (if x < y then y else x) = max x y := by split <;> omega
@[go_sem] theorem ite_min (x y : Int) : (if y < x then y else x) = min x y := by split <;> omega

/-! Texts as lists of bytes. -/
def str (l : List UInt8) : ByteArray := ⟨l.toArray⟩
@[simp, go_sem] theorem str_size (l : List UInt8) : (str l).size = l.length := by simp [str, ByteArray.size]
@[simp, go_sem] theorem str_toList (l : List UInt8) : (str l).toList = l := by simp [str]
@[simp, go_sem] theorem str_data (l : List UInt8) : (str l).data.toList = l := rfl
@[simp, go_sem] theorem str_append (a b : List UInt8) : str a ++ str b = str (a ++ b) := by
  apply ByteArray.ext; simp [str]
@[simp, go_sem] theorem str_extract (l : List UInt8) (a b : Nat) : (str l).extract a b = str ((l.drop a).take (b - a)) := by
  apply ByteArray.ext
  apply Array.ext'
  simp [str, List.extract_eq_take_drop]
@[simp, go_sem] theorem str_getElem (l : List UInt8) (i : Nat) (h : i < (str l).size) : (str l)[i] = l[i]'(by simpa using h) := by
  simp [str, ByteArray.getElem_eq_getElem_data]
@[simp, go_sem] theorem str_getElem? (l : List UInt8) (i : Nat) : (str l)[i]? = l[i]? := by
  by_cases h : i < l.length
  · rw [getElem?_pos (str l) i (by simpa using h), str_getElem, getElem?_pos l i h]
  · rw [getElem?_neg (str l) i (by simpa using h), getElem?_neg l i h]
theorem str_of (s : ByteArray) : s = str s.data.toList := by apply ByteArray.ext; simp [str]
@[simp, go_sem] theorem str_lit (l : List UInt8) : ({ data := l.toArray } : ByteArray) = str l := rfl
end Go.Proofs.Ytldoedmclfbgpaa
namespace Go.Proofs.Ytldoedmclfbgpaa
open Go.RowKit

/-! A slice that reads as a list: k cells an element. -/
def Row {α : Type} (k : Nat) (cs : α → List Value) (w : World) (b off : Nat) (l : List α) : Prop :=
  ∀ i (h : i < l.length) (j : Nat) u, (cs l[i])[j]? = some u → w.cell? ⟨b, off + i * k + j, none⟩ = some u
def In {α : Type} (k : Nat) (cs : α → List Value) (w : World) (A : Option Addr) (c : Nat) (l : List α) : Prop :=
  l.length ≤ c ∧ c ≤ 9223372036854775807 ∧ l.length ≤ 4294967296 ∧ (l = [] ∨ ∃ b off, A = some ⟨b, off, none⟩ ∧ b < w.heap.size ∧ Row k cs w b off l)
section
variable {α : Type} {k : Nat} {cs : α → List Value} {w w' : World} {A : Option Addr} {c b off : Nat} {l : List α}
theorem Row.keep (h : Row k cs w b off l) (hk : ∀ o, w'.cell? ⟨b, o, none⟩ = w.cell? ⟨b, o, none⟩) : Row k cs w' b off l :=
  fun i hi j u hu => (hk _).trans (h i hi j u hu)
theorem Row.below (h : Row k cs w b off l) (hb : Below w.heap.size w w') (hlt : b < w.heap.size) : Row k cs w' b off l :=
  h.keep fun o => hb.cell (p := ⟨b, o, none⟩) hlt
theorem Row.drop (h : Row k cs w b off l) (m : Nat) : Row k cs w b (off + m * k) (l.drop m) := fun i hi j u hu => by
  rw [List.getElem_drop] at hu
  have hm : m + i < l.length := by rw [List.length_drop] at hi; omega
  rw [show off + m * k + i * k + j = off + (m + i) * k + j by rw [Nat.add_mul]; omega]
  exact h (m + i) hm j u hu
theorem Row.take (h : Row k cs w b off l) (m : Nat) : Row k cs w b off (l.take m) := fun i hi j u hu => by
  rw [List.getElem_take] at hu
  exact h i (by rw [List.length_take] at hi; omega) j u hu
theorem In.below (h : In k cs w A c l) (hb : Below w.heap.size w w') : In k cs w' A c l :=
  ⟨h.1, h.2.1, h.2.2.1, h.2.2.2.imp id fun ⟨b, off, hA, hlt, hr⟩ => ⟨b, off, hA, Nat.lt_of_lt_of_le hlt hb.size, hr.below hb hlt⟩⟩
theorem In.grow (h : In k cs w A c l) (x : Grow w) : In k cs (grow w x) A c l := h.below (grow_below w x)
theorem In.alloc (h : In k cs w A c l) (o : Obj) : In k cs (w.alloc o) A c l := h.below ((Below.refl _ _).alloc (Nat.le_refl _) _)
theorem In.nil (hc : c ≤ 9223372036854775807) : In k cs w A c ([] : List α) := ⟨by simp, hc, by simp, .inl rfl⟩
theorem In.at (h : In k cs w A c l) {i : Nat} (hi : i < l.length) : ∃ b off, A = some ⟨b, off, none⟩ ∧ b < w.heap.size ∧ Row k cs w b off l :=
  h.2.2.2.resolve_left (fun e => by subst e; simp at hi)
end

structure Val where
  kind : Int
  n : Int
  s : List UInt8
deriving DecidableEq
structure Node where
  op : Int
  n : Int
  v : Val
deriving DecidableEq
def Val.cells (x : Val) : List Value := [.int .i64 x.kind, .int .i64 x.n, .string (str x.s)]
abbrev Val.val (x : Val) : Value := .agg #[.int .i64 x.kind, .int .i64 x.n, .string (str x.s)]
def Node.cells (x : Node) : List Value := [.int .i64 x.op, .int .i64 x.n, .int .i64 x.v.kind, .int .i64 x.v.n, .string (str x.v.s)]
abbrev Node.val (x : Node) : Value := .agg #[.int .i64 x.op, .int .i64 x.n, .int .i64 x.v.kind, .int .i64 x.v.n, .string (str x.v.s)]
/-- A slice of nodes. -/
abbrev InN := In 5 Node.cells
theorem Row.node {w : World} {b off : Nat} {l : List Node} (h : Row 5 Node.cells w b off l) {i : Nat} (hi : i < l.length) {o : Nat} (ho : o = off + i * 5) :
    w.cell? ⟨b, o, none⟩ = some (.int .i64 l[i].op) ∧ w.cell? ⟨b, o + 1, none⟩ = some (.int .i64 l[i].n) ∧ w.cell? ⟨b, o + 2, none⟩ = some (.int .i64 l[i].v.kind) ∧
    w.cell? ⟨b, o + 3, none⟩ = some (.int .i64 l[i].v.n) ∧ w.cell? ⟨b, o + 4, none⟩ = some (.string (str l[i].v.s)) := by
  subst ho
  exact ⟨h i hi 0 _ rfl, h i hi 1 _ rfl, h i hi 2 _ rfl, h i hi 3 _ rfl, h i hi 4 _ rfl⟩

/-! What may be. -/
def Val.ok (x : Val) : Bool :=
  if x.kind = 0 then decide (x.n = 0) && x.s.isEmpty else if x.kind = 1 then decide (0 ≤ x.n) && decide (x.n ≤ 1099511627776) && x.s.isEmpty
  else if x.kind = 2 then decide (x.n = 0) && decide (x.s.length ≤ 24) else false
def Val.none (x : Val) : Bool := decide (x.kind = 0) && decide (x.n = 0) && x.s.isEmpty
def Node.ok (x : Node) : Bool :=
  if x.op = 1 ∨ x.op = 2 ∨ x.op = 10 ∨ x.op = 11 ∨ x.op = 12 then decide (x.n = 0) && x.v.none
  else if x.op = 3 ∨ x.op = 4 then decide (0 ≤ x.n) && decide (x.n < 16) && x.v.none
  else if x.op = 5 then decide (0 ≤ x.n) && decide (x.n < 8) && x.v.none
  else if x.op = 6 ∨ x.op = 7 ∨ x.op = 8 then decide (0 ≤ x.n) && decide (x.n < 8) && x.v.ok && !x.v.none
  else if x.op = 9 then decide (0 ≤ x.n) && decide (x.n < 8) && x.v.ok && decide (x.v.kind = 2)
  else false
def parts (op : Int) : Int := if op = 10 then 1 else if op = 11 ∨ op = 12 then 2 else 0
theorem parts_bd (op : Int) : 0 ≤ parts op ∧ parts op ≤ 2 := by unfold parts; split <;> (try split) <;> omega
theorem Val.none_kind {x : Val} (h : x.ok = true) : x.none = decide (x.kind = 0) := by
  unfold Val.ok Val.none at *
  by_cases hk : x.kind = 0
  · simp [hk] at h ⊢; exact h
  · simp [hk]
def large (l : List Node) : Bool := decide (100 < l.length) || l.any fun x => decide (200 < x.v.s.length)

/-! Where trees end. -/
def endFrom : List Node → Int → Nat → Int
  | [], _, _ => -1
  | x :: r, need, i => if need + (parts x.op - 1) = 0 then i + 1 else endFrom r (need + (parts x.op - 1)) (i + 1)
def endAt (l : List Node) (i : Int) : Int := if i < 0 then -1 else endFrom (l.drop i.toNat) 1 i.toNat
theorem endFrom_at (l : List Node) (k : Nat) (h : k < l.length) (need : Int) :
    endFrom (l.drop k) need k = if need + (parts (l[k]).op - 1) = 0 then (k : Int) + 1 else endFrom (l.drop (k+1)) (need + (parts l[k].op - 1)) (k + 1) := by
  rw [List.drop_eq_getElem_cons h]; rfl
theorem endAt_neg {l : List Node} {i : Int} (h : i < 0) : endAt l i = -1 := by unfold endAt; rw [if_pos h]
theorem endAt_past {l : List Node} {i : Int} (h : (l.length : Int) ≤ i) : endAt l i = -1 := by
  unfold endAt
  rw [if_neg (by omega), List.drop_of_length_le (by omega)]; rfl
theorem endAt_nat (l : List Node) (i : Nat) : endAt l i = endFrom (l.drop i) 1 i := by
  unfold endAt; rw [if_neg (by omega), Int.toNat_natCast]
end Go.Proofs.Ytldoedmclfbgpaa
namespace Go.Proofs.Ytldoedmclfbgpaa
open Go.RowKit

theorem add_lit (g n : Nat) : (⟨g, 0, none⟩ : Addr).add n = ⟨g, n, none⟩ := by
  unfold Addr.add; split
  · subst_vars; rfl
  · simp
theorem add_lit' (g o n : Nat) : (⟨g, o, none⟩ : Addr).add n = ⟨g, o + n, none⟩ := by
  unfold Addr.add; split
  · subst_vars; rfl
  · simp
section
variable {α : Type} {k : Nat} {cs : α → List Value}
theorem flat_length (hk : ∀ x, (cs x).length = k) : ∀ l : List α, (l.flatMap cs).length = l.length * k
  | [] => by simp
  | x :: l => by rw [List.flatMap_cons, List.length_append, flat_length hk l, hk, List.length_cons, Nat.add_mul]; omega
theorem flat_get (hk : ∀ x, (cs x).length = k) : ∀ (l : List α) (i : Nat) (h : i < l.length) (j : Nat), j < k → (l.flatMap cs)[i * k + j]? = (cs l[i])[j]?
  | [], i, h, _, _ => by simp at h
  | x :: l, 0, _, j, hj => by simp only [List.flatMap_cons, Nat.zero_mul, Nat.zero_add, List.getElem_cons_zero]; rw [List.getElem?_append_left (by rw [hk]; exact hj)]
  | x :: l, i + 1, h, j, hj => by
    simp only [List.flatMap_cons, List.getElem_cons_succ]
    rw [List.getElem?_append_right (by rw [hk, Nat.add_mul]; omega), hk, show (i + 1) * k + j - k = i * k + j by rw [Nat.add_mul]; omega]
    exact flat_get hk l i (by simpa using h) j hj
end

/-- What append asks of a slice's type t and its element type e. -/
structure Elem (P : Program) (t e : TypeId) (size bytes : Nat) : Prop where
  under : P.underlying t = some (.slice e)
  info : ∃ i z, P.info? e = some i ∧ i.zero = some z ∧ i.size = size ∧ i.bytes = bytes ∧ z.cells.size = size
  pos : 0 < size
  small : bytes ≤ 16384
theorem Elem.mk' {P : Program} {t e : TypeId} {z : Value} {size bytes : Nat} (hu : P.underlying t = some (.slice e)) (hi : (P.info? e).map (fun i => (i.zero, i.size, i.bytes)) = some (some z, size, bytes)) (hz : z.cells.size = size) (hp : 0 < size) (hb : bytes ≤ 16384) :
    Elem P t e size bytes := by
  obtain ⟨i, h1, h2, h3, h4⟩ := info_parts hi
  exact ⟨hu, ⟨i, z, h1, h2, h3, h4, hz⟩, hp, hb⟩

section
variable {w w' : World} {base : Nat} {e : TypeId} {size n : Nat} {v : Value} {xs : List Value}
theorem own_below (h : w.ownsRow base e size v n xs) (hb : Below w.heap.size w w') : w'.ownsRow base e size v n xs := by
  obtain ⟨h1, h2⟩ := h
  refine ⟨h1, ?_⟩
  rcases h2 with h2 | ⟨g, cap, cur, hv, hg, hh, r⟩
  · exact .inl h2
  · exact .inr ⟨g, cap, cur, hv, hg, by rw [hb.block g (by
      rcases Nat.lt_or_ge g w.heap.size with hlt | hge
      · exact hlt
      · rw [Array.getElem?_eq_none hge] at hh; cases hh)]; exact hh, r⟩
theorem own_base {base' : Nat} (h : w.ownsRow base e size v n xs) (hb : base' ≤ base) : w.ownsRow base' e size v n xs :=
  ⟨h.1, h.2.imp id fun ⟨g, cap, cur, hv, hg, r⟩ => ⟨g, cap, cur, hv, Nat.le_trans hb hg, r⟩⟩
theorem grown_below {B : Nat} {row : Option Nat} (hg : w.grownBy w' row) (hB : B ≤ w.heap.size) (hr : ∀ k, row = some k → B ≤ k) : Below B w w' := (Below.refl _ _).grown hg hB hr
end
section
variable {α : Type} {k : Nat} {cs : α → List Value} {w : World} {base : Nat} {e : TypeId} {v : Value} {l : List α}
/-- An owned slice reads as a list. -/
theorem In.of_own (hk : ∀ x, (cs x).length = k) (h : w.ownsRow base e k v l.length (l.flatMap cs)) (hs : l.length ≤ 4294967296) : ∃ A c, v = .slice A l.length c ∧ In k cs w A c l := by
  have hcell := fun g => h.cells (g := g)
  rcases h.2 with ⟨rfl, h0⟩ | ⟨g, cap, cur, rfl, hg, hh, hn, hm, r⟩
  · have : l = [] := List.eq_nil_of_length_eq_zero h0
    subst this
    exact ⟨none, 0, rfl, In.nil (by omega)⟩
  · refine ⟨_, cap, rfl, hn, by unfold maxLen at hm; omega, hs, .inr ⟨g, 0, rfl, ?_, ?_⟩⟩
    · rcases Nat.lt_or_ge g w.heap.size with hlt | hge
      · exact hlt
      · rw [Array.getElem?_eq_none hge] at hh; cases hh
    · intro i hi j u hu
      have hj : j < k := by rw [← hk l[i]]; exact (List.getElem?_eq_some_iff.1 hu).1
      have := hcell g rfl (i * k + j) u (by rw [flat_get hk l i hi j hj]; exact hu)
      rw [add_lit] at this
      simpa using this
end

/-- The cells that an append takes. -/
def Src (w : World) (A : Option Addr) (m size : Nat) (news : List Value) : Prop :=
  news.length = m * size ∧ (0 < m → ∃ ad, A = some ad ∧ ∀ j u, news[j]? = some u → w.cell? (ad.add j) = some u)
theorem Src.of_in {α : Type} {k : Nat} {cs : α → List Value} {w : World} {A : Option Addr} {c : Nat} {l : List α} (hk : ∀ x, (cs x).length = k) (hk0 : 0 < k) (h : In k cs w A c l) : Src w A l.length k (l.flatMap cs) := by
  refine ⟨flat_length hk l, fun hm => ?_⟩
  obtain ⟨b, off, rfl, hb, hrow⟩ := h.at hm
  refine ⟨_, rfl, fun j u hu => ?_⟩
  have hj : j < l.length * k := by rw [← flat_length hk l]; exact (List.getElem?_eq_some_iff.1 hu).1
  have hi : j / k < l.length := Nat.div_lt_of_lt_mul (by rw [Nat.mul_comm]; exact hj)
  have hmod : j % k < k := Nat.mod_lt _ hk0
  have hjj : j / k * k + j % k = j := by rw [Nat.mul_comm]; exact Nat.div_add_mod j k
  have hu' : (cs l[j / k])[j % k]? = some u := by rw [← flat_get hk l (j / k) hi (j % k) hmod, hjj]; exact hu
  have := hrow (j / k) hi (j % k) u hu'
  rw [Nat.add_assoc, hjj] at this
  rw [add_lit']; exact this

section
variable {P : Program} (w : World)
/-- append onto a slice of the call's own; the source nil, empty or not. -/
theorem wpList_app {ops : Array Oper} {rest : List Oper} {o : Oper} {a : Act} {Q : Exit → Act → World → Prop} (hgd : o.guard = none) (s x : Operand) {t e : TypeId} {size bytes : Nat} (I : Elem P t e size bytes)
    (ho : o.op = .call { callee := .builtin .append, args := #[s, x], argTypes := #[t, t] })
    (base : Nat) (v : Value) (n : Nat) (xs : List Value) (hs : a.eval s = v) (hown : w.ownsRow base e size v n xs)
    (A : Option Addr) (m c : Nat) (news : List Value) (hx : a.eval x = .slice A m c) (hr : Src w A m size news) (h1 : ∀ u ∈ news, u.oneCell' = true)
    (hn : n + m ≤ 8589934592) (hbase : base ≤ w.heap.size)
    (h : ∀ v' w', w'.ownsRow base e size v' (n + m) (xs ++ news) → w.grownBy w' v.ownBlock → Below base w w' → (v'.ownBlock = v.ownBlock ∨ v'.ownBlock = some w.heap.size) → wpList P ops Q rest (a.put o.dst v') w') : wpList P ops Q (o :: rest) a w := by
  refine wpList_plain hgd fun K hK => ?_
  have key : ∃ v' w', (Builtin.append_ #[t, t] o.type #[v, .slice A m c]).run P w = .ok v' w' ∧ w'.ownsRow base e size v' (n + m) (xs ++ news) ∧ w.grownBy w' v.ownBlock ∧ (v'.ownBlock = v.ownBlock ∨ v'.ownBlock = some w.heap.size) := by
    obtain ⟨i, z, h2, h3, h4, h5, h6⟩ := I.info
    have hb1 : (n + m) * bytes ≤ 140737488355328 := Nat.le_trans (Nat.mul_le_mul hn I.small) (by omega)
    rcases A with _ | ad
    · have hm : m = 0 := by
        rcases Nat.eq_zero_or_pos m with h0 | h0
        · exact h0
        · obtain ⟨ad, hh, _⟩ := hr.2 h0
          cases hh
      subst hm
      have hnil : news = [] := List.eq_nil_of_length_eq_zero (by simpa using hr.1)
      subst hnil
      refine ⟨v, w, ?_, by simpa using hown, ⟨rfl, rfl, rfl, Nat.le_refl _, fun _ _ _ => rfl⟩, .inl rfl⟩
      rcases hown.2 with ⟨rfl, rfl⟩ | ⟨g, cap, cur, rfl, _, _, hnc, _⟩
      · simp [Builtin.append_, run_underlying I.under, sizeOf, typeInfo, h2, Builtin.lenOf, Builtin.firstCells]
      · simp [Builtin.append_, run_underlying I.under, sizeOf, typeInfo, h2, Builtin.lenOf, Builtin.firstCells, hnc, storeCells]
    · have hcells : ∀ j u, news[j]? = some u → w.cell? (ad.add j) = some u := by
        intro j u hu
        rcases Nat.eq_zero_or_pos m with h0 | h0
        · subst h0
          have hnil : news = [] := List.eq_nil_of_length_eq_zero (by simpa using hr.1)
          subst hnil
          simp at hu
        · obtain ⟨ad', hh, hc⟩ := hr.2 h0
          injection hh with hh
          subst hh
          exact hc j u hu
      obtain ⟨v', w', hrun, g2, g3, _, g5⟩ := run_append_own_at (P := P) w base t o.type e i z size bytes I.under h2 h3 h4 h5 h6 I.pos v n xs hown ad m c news hr.1 hcells h1 (by unfold maxLen; omega) hb1 hbase
      exact ⟨v', w', hrun, g2, g3, g5⟩
  obtain ⟨v', w', hrun, g2, g3, g4⟩ := key
  unfold Oper.wp execOp
  simp only [ho, resolve, invoke, builtin, Sem.run_bind, Sem.run_pure, Result.andThen_ok, List.map_toArray, List.map_cons, List.map_nil, hs, hx, hrun]
  exact hK _ _ (h v' w' g2 g3 (grown_below g3 hbase fun k hk => (hown.lt k hk).1) g4)
/-- The source is the row that the statement itself has just laid, of one element. -/
theorem Src.new (W : World) (news : List Value) (e : TypeId) (size : Nat) (hl : news.length = size) : Src (W.alloc (.cells news.toArray e)) (some ⟨W.heap.size, 0, none⟩) 1 size news := by
  refine ⟨by simpa using hl, fun _ => ⟨_, rfl, fun j u hu => ?_⟩⟩
  rw [add_lit, World.cell?_alloc_new]
  simpa using hu
end
section
variable {w : World} {base : Nat} {e : TypeId} {size n : Nat} {v : Value} {xs : List Value}
theorem own_form (h : w.ownsRow base e size v n xs) : ∃ A c, v = .slice A n c ∧ n ≤ c ∧ c ≤ 9223372036854775807 := by
  rcases h.2 with ⟨rfl, rfl⟩ | ⟨g, cap, cur, rfl, _, _, hn, hm, _⟩
  · exact ⟨none, 0, rfl, by omega, by omega⟩
  · exact ⟨_, cap, rfl, hn, by unfold maxLen at hm; omega⟩
theorem own_form' (h : w.ownsRow base e size v n xs) (hn : 0 < n) : ∃ g c, v = .slice (some ⟨g, 0, none⟩) n c ∧ n ≤ c ∧ c ≤ 9223372036854775807 ∧ base ≤ g ∧ g < w.heap.size := by
  rcases h.2 with ⟨rfl, rfl⟩ | ⟨g, cap, cur, rfl, hg, hh, hn, hm, _⟩
  · omega
  · refine ⟨g, cap, rfl, hn, by unfold maxLen at hm; omega, hg, ?_⟩
    rcases Nat.lt_or_ge g w.heap.size with hlt | hge
    · exact hlt
    · rw [Array.getElem?_eq_none hge] at hh; cases hh
end
theorem snoc_cases {α : Type} (l : List α) : l = [] ∨ ∃ r t, l = r ++ [t] := by
  rcases List.eq_nil_or_concat l with h | ⟨r, t, h⟩
  · exact .inl h
  · exact .inr ⟨r, t, by rw [h, List.concat_eq_append]⟩
def lenOf : Value → Nat | .slice _ n _ => n | _ => 0
/-- The call hands back a slice of its own that reads as l. -/
def RetS {α : Type} (k : Nat) (cs : α → List Value) (et : TypeId) (w : World) (l : List α) (e : Ending) (w' : World) : Prop :=
  ∃ v, e = .returned v ∧ w'.ownsRow w.heap.size et k v l.length (l.flatMap cs) ∧ Below w.heap.size w w'
/-- Two rows of unlike element types are two rows. -/
theorem own_ne {w : World} {b1 b2 : Nat} {e1 e2 : TypeId} {s1 s2 n1 n2 : Nat} {v1 v2 : Value} {x1 x2 : List Value} (h1 : w.ownsRow b1 e1 s1 v1 n1 x1) (h2 : w.ownsRow b2 e2 s2 v2 n2 x2) (hne : e1 ≠ e2) : v1.ownBlock = none ∨ v1.ownBlock ≠ v2.ownBlock := by
  rcases h1.2 with ⟨rfl, _⟩ | ⟨g1, c1, cur1, rfl, _, hh1, _⟩
  · exact .inl rfl
  · right
    rcases h2.2 with ⟨rfl, _⟩ | ⟨g2, c2, cur2, rfl, _, hh2, _⟩
    · simp [Value.ownBlock]
    · intro he
      have : g1 = g2 := by simpa [Value.ownBlock] using he
      subst this
      rw [hh1] at hh2
      injection hh2 with hh2
      injection hh2 with _ ht
      exact hne ht
theorem own_kept_ne {w w' : World} {b1 b2 : Nat} {e1 e2 : TypeId} {s1 s2 n1 n2 : Nat} {v1 v2 : Value} {x1 x2 : List Value} (h1 : w.ownsRow b1 e1 s1 v1 n1 x1) (h2 : w.ownsRow b2 e2 s2 v2 n2 x2) (hne : e1 ≠ e2) (hg : w.grownBy w' v2.ownBlock) :
    w'.ownsRow b1 e1 s1 v1 n1 x1 := h1.kept hg (own_ne h1 h2 hne)
/-- A row that lay below a fresh one is kept while the fresh one grows. -/
theorem own_kept_lt {w w' : World} {b1 : Nat} {e1 : TypeId} {s1 n1 : Nat} {v1 : Value} {x1 : List Value} {g : Nat} (h1 : w.ownsRow b1 e1 s1 v1 n1 x1) (hg : w.grownBy w' (some g)) (hne : ∀ k, v1.ownBlock = some k → k ≠ g) :
    w'.ownsRow b1 e1 s1 v1 n1 x1 := h1.kept hg (by
  cases h : v1.ownBlock with
  | none => exact .inl rfl
  | some k => exact .inr (fun e => hne k h (by injection e)))
theorem In.sub {α : Type} {k : Nat} {cs : α → List Value} {w : World} {b off c : Nat} {l : List α} (h : In k cs w (some ⟨b, off, none⟩) c l) {i j : Nat} (hij : i ≤ j) (hj : j ≤ l.length) (hrow : b < w.heap.size ∧ Row k cs w b off l) :
    In k cs w (some ⟨b, off + i * k, none⟩) (c - i) ((l.drop i).take (j - i)) := by
  have h1 := h.1
  have h2 := h.2.1
  have h3 := h.2.2.1
  have hl : ((l.drop i).take (j - i)).length = j - i := by rw [List.length_take, List.length_drop]; omega
  exact ⟨by rw [hl]; omega, by omega, by rw [hl]; omega, .inr ⟨b, _, rfl, hrow.1, (hrow.2.drop i).take _⟩⟩
theorem nodes_one (l : List Node) : ∀ u ∈ l.flatMap Node.cells, u.oneCell' = true := by
  intro u hu
  obtain ⟨x, _, hx⟩ := List.mem_flatMap.1 hu
  simp only [Node.cells, List.mem_cons, List.not_mem_nil, or_false] at hx
  rcases hx with rfl | rfl | rfl | rfl | rfl <;> rfl
theorem Node.cells_len (x : Node) : x.cells.length = 5 := rfl
/-- A slice in a slice: where it lies, its capacity, what it reads as. -/
abbrev Kid := Option Addr × Nat × List Node
def Kid.val (x : Kid) : Value := .slice x.1 x.2.2.length x.2.1
def Kid.cells (x : Kid) : List Value := [x.val]
/-- A new slice of slices of nodes, readable. -/
def RetK (t : TypeId) (w : World) (ks : List (List Node)) (e : Ending) (w' : World) : Prop :=
  ∃ os : List Kid, os.map (·.2.2) = ks ∧ RetS 1 Kid.cells t w os e w' ∧ ∀ o ∈ os, InN w' o.1 o.2.1 o.2.2
end Go.Proofs.Ytldoedmclfbgpaa
namespace Go.Proofs.Ytldoedmclfbgpaa
open Go.ChangeShapes Go.WideShapes Go.ChangeAt Go.RowKit
open Go.ChangeMaps (open_string shut_string)

theorem ownKnob_none : ownKnob Try.prog.godebug = none := by kernel_rfl
theorem laidOut : laidOutB Try.prog = true := by kernel_rfl
section
variable {H : Type} {enc : TypeId × Value → H} {P : Program} {W W' : World}
/-- What was read before reads so behind, if nothing that was there has turned. -/
theorem trodAll_stays (hl : laidOutB P = true) {sp : Nat → Bool} (hb : Below W.heap.size W W') : ∀ (ts : List TypeId) {vs : List Value} {ds : List (DataW H)} {ps : List MemPlace},
    (∀ t ∈ ts, P.readableRec t = true ∧ t < P.types.size) → DataW.TrodAll enc P W 0 (fun _ => true) true ts vs ds ps → (∀ x ∈ ps, x.block < W.heap.size) → (∀ x ∈ ps, sp x.block = true) → DataW.TrodAll enc P W' 0 sp true ts vs ds ps
  | [], vs, ds, ps, _, h, _, _ => by obtain ⟨rfl, rfl, rfl⟩ := trodAll_nil h; exact trodAll_mk0
  | t :: ts, vs, ds, ps, ht, h, hlt, hsp => by
    obtain ⟨v0, vs0, d0, ds0, p0, q0, rfl, rfl, rfl, h0, r0⟩ := trodAll_cons h
    have h1 := ht t (List.mem_cons_self ..)
    refine trodAll_cons_mk (WideElems.Trod_stays hl h1.1 h1.2 h0 (fun x hx => hb.same (hlt x (List.mem_append_left _ hx))) (fun x hx => hsp x (List.mem_append_left _ hx))) ?_
    exact trodAll_stays hl hb ts (fun t' ht' => ht t' (List.mem_cons_of_mem _ ht')) r0 (fun x hx => hlt x (List.mem_append_right _ hx)) (fun x hx => hsp x (List.mem_append_right _ hx))
/-- The post of a law. -/
theorem law_post {f : Func} {s : ChangeSpec} {tb : TypeId} (hl : laidOutB P = true) (htb : P.underlying tb = some .bool) (hf : f.resultTypes = #[tb]) (hvars : s.vars = [])
    (hts : (f.params.toList.all fun t => P.readableRec t && decide (t < P.types.size)) = true) {args : Array Value} {ds gs : List (DataW H)} {before : List MemPlace}
    (hW : DataW.Whole enc P f.params.toList s.vars false W args.toList ds gs before) (hfn : s.fn H (ds ++ gs) = { results := [.lit (.bool true)], args := ds }) (hb : Below W.heap.size W W') :
    s.post enc P f false true false false W args (.bool true) W' := by
  have hlt : ∀ p ∈ before, p.block < W.heap.size := fun p hp => hW.lt p hp
  have hW0 := hW
  obtain ⟨p, q, hA, hV, rfl, hfz, hnd⟩ := hW
  rw [hvars] at hV
  obtain ⟨rfl, rfl⟩ := trodVars_none hV
  simp only [List.append_nil] at hlt hW0
  have hargs : ∀ sp : Nat → Bool, (∀ x ∈ p, sp x.block = true) → DataW.TrodAll enc P W' 0 sp true f.params.toList args.toList ds p :=
    fun sp hsp => trodAll_stays hl hb _ (fun t ht => by have := List.all_eq_true.1 hts t ht; simpa using this) hA hlt hsp
  have hres : ∀ (b : Nat) (sp : Nat → Bool) (hd : Bool), DataW.TrodAll enc P W' b sp hd f.resultTypes.toList ((Value.bool true).resultList f.resultTypes.size) [.lit (.bool true)] [] := by
    intro b sp hd
    rw [hf]
    exact trodAll_cons_mk (shut_bool htb true) trodAll_mk0
  have hold : ∀ x ∈ p, (fun b => decide (b < W.heap.size)) x.block = true := fun x hx => by simpa using hlt x hx
  refine ⟨ds, [], p, [], p, [], hW0, ?_, ?_, ?_, World.keptBut_mono (fun x hx => ⟨hx, ?_⟩) (hb.frame (· ∈ p)), fun h => by cases h⟩
  · rw [show s.fn H (ds ++ []) = _ from hfn]; exact hres _ _ _
  · rw [show s.fn H (ds ++ []) = _ from hfn]; exact hargs _ hold
  · rw [show s.fn H (ds ++ []) = _ from hfn, hvars]; rfl
  · exact Or.inr (by simpa using hx)
end
end Go.Proofs.Ytldoedmclfbgpaa
namespace Go.Proofs.Ytldoedmclfbgpaa
open Go.ChangeShapes Go.WideShapes Go.ChangeAt Go.RowKit Go.Deep
open Go.ChangeMaps (open_string shut_string)

theorem list_of {α : Type} {Q : Nat → α → Prop} : ∀ n, (∀ i, i < n → ∃ x, Q i x) → ∃ l : List α, l.length = n ∧ ∀ i (h : i < l.length), Q i l[i]
  | 0, _ => ⟨[], rfl, fun i h => by simp at h⟩
  | n + 1, h => by
    obtain ⟨l, hl, hq⟩ := list_of n (fun i hi => h i (by omega))
    obtain ⟨x, hx⟩ := h n (by omega)
    refine ⟨l ++ [x], by simp [hl], fun i hi => ?_⟩
    by_cases hin : i < l.length
    · rw [List.getElem_append_left hin]; exact hq i hin
    · have : i = n := by simp at hi; omega
      subst this
      rw [List.getElem_append_right (by omega)]
      simpa using hx
theorem list3 {α : Type} {l : List α} (h : l.length = 3) : ∃ a b c, l = [a, b, c] := by
  match l, h with
  | [a, b, c], _ => exact ⟨a, b, c, rfl⟩
theorem list5 {α : Type} {l : List α} (h : l.length = 5) : ∃ a b c d e, l = [a, b, c, d, e] := by
  match l, h with
  | [a, b, c, d, e], _ => exact ⟨a, b, c, d, e, rfl⟩
theorem cell_spot {w : World} {a : Addr} {v : Value} (h : w.cell? a = some v) : a.spot = none := by
  unfold World.cell? at h
  split at h
  · split at h
    · cases h
    · rename_i hs; simpa using hs
  · cases h
theorem i64_range {n : Int} (h : (Lit.int .i64 n).wf = true) : -9223372036854775808 ≤ n ∧ n ≤ 9223372036854775807 := by
  simpa [Lit.wf, IntKind.min, IntKind.max, IntKind.signed, IntKind.bits] using h
def I64 (n : Int) : Prop := -9223372036854775808 ≤ n ∧ n ≤ 9223372036854775807
theorem c_int : Try.prog.cellsOf 3 = 1 := by kernel_rfl
theorem c_string : Try.prog.cellsOf 9 = 1 := by kernel_rfl
end Go.Proofs.Ytldoedmclfbgpaa
namespace Go.Proofs.Ytldoedmclfbgpaa
open Go.ChangeShapes Go.WideShapes Go.ChangeAt Go.RowKit Go.Deep
open Go.ChangeMaps (open_string shut_string)

def Val.wf (x : Val) : Prop := I64 x.kind ∧ I64 x.n ∧ x.s.length ≤ 9223372036854775807
section
variable {H : Type} {enc : TypeId × Value → H} {w : World} {base : Nat} {spare : Nat → Bool} {held : Bool}
theorem c_value : Try.prog.cellsOf 36 = 3 := by kernel_rfl
theorem open_val {fuel : Nat} {cs : List Value} {x : DataW H × List MemPlace} (h : DataW.trod enc Try.prog w base spare held fuel 36 cs = some x) :
    ∃ v : Val, cs = v.cells ∧ x = (.agg [.lit (.int .i64 v.kind), .lit (.int .i64 v.n), .lit (.string v.s)], []) ∧ v.wf := by
  obtain ⟨xs, n, _, hx, hl, hxl, hf⟩ := DataW.trod_struct Try.underlying36 h
  rw [c_value] at hl
  · obtain ⟨c0, c1, c2, rfl⟩ := list3 hl
    · obtain ⟨x0, x1, x2, rfl⟩ := list3 (show xs.length = 3 from hxl)
      have h0 := hf 0
      have h1 := hf 1
      have h2 := hf 2
      simp [c_int, c_string] at h0 h1 h2
      obtain ⟨a, ha, hxa, wa⟩ := DataW.trod_int Try.underlying3 h0
      obtain ⟨b, hb, hxb, wb⟩ := DataW.trod_int Try.underlying3 h1
      obtain ⟨s, hs, hxs, ws⟩ := DataW.trod_string Try.underlying9 h2
      simp at ha hb hs
      subst ha hb hs hxa hxb hxs
      refine ⟨⟨a, b, s.data.toList⟩, ?_, by rw [hx]; rfl, i64_range wa, i64_range wb, ?_⟩
      · unfold Val.cells; rw [← str_of]
      · unfold maxLen at ws
        have : s.data.toList.length = s.size := by rw [Array.length_toList]; rfl
        show _ ≤ _
        rw [this]; omega
end
end Go.Proofs.Ytldoedmclfbgpaa
namespace Go.Proofs.Ytldoedmclfbgpaa
open Go.ChangeShapes Go.WideShapes Go.ChangeAt Go.RowKit Go.Deep
open Go.ChangeMaps (open_string shut_string)

def Node.wf (x : Node) : Prop := I64 x.op ∧ I64 x.n ∧ x.v.wf
section
variable {H : Type} {enc : TypeId × Value → H} {w : World} {base : Nat} {spare : Nat → Bool} {held : Bool}
theorem c_node : Try.prog.cellsOf 94 = 5 := by kernel_rfl
theorem open_node {fuel : Nat} {cs : List Value} {x : DataW H × List MemPlace} (h : DataW.trod enc Try.prog w base spare held fuel 94 cs = some x) :
    ∃ v : Node, cs = v.cells ∧ x = (.agg [.lit (.int .i64 v.op), .lit (.int .i64 v.n), .agg [.lit (.int .i64 v.v.kind), .lit (.int .i64 v.v.n), .lit (.string v.v.s)]], []) ∧ v.wf := by
  obtain ⟨xs, n, _, hx, hl, hxl, hf⟩ := DataW.trod_struct Try.underlying94 h
  rw [c_node] at hl
  · obtain ⟨c0, c1, c2, c3, c4, rfl⟩ := list5 hl
    · obtain ⟨x0, x1, x2, rfl⟩ := list3 (show xs.length = 3 from hxl)
      have h0 := hf 0
      have h1 := hf 1
      have h2 := hf 2
      simp [c_int, c_value] at h0 h1 h2
      obtain ⟨a, ha, hxa, wa⟩ := DataW.trod_int Try.underlying3 h0
      obtain ⟨b, hb, hxb, wb⟩ := DataW.trod_int Try.underlying3 h1
      obtain ⟨v, hv, hxv, wv⟩ := open_val h2
      simp [Val.cells] at ha hb hv
      obtain ⟨e2, e3, e4⟩ := hv
      subst ha hb hxa hxb hxv e2 e3 e4
      exact ⟨⟨a, b, v⟩, rfl, by rw [hx]; rfl, i64_range wa, i64_range wb, wv⟩
/-- A slice of nodes that came in. -/
theorem open_nodes {fuel : Nat} {cs : List Value} {x : DataW H × List MemPlace} (h : DataW.trod enc Try.prog w 0 spare held fuel 33 cs = some x) :
    ∃ (A : Option Addr) (c : Nat) (l : List Node), cs = [.slice A l.length c] ∧ l.length ≤ c ∧ c ≤ 9223372036854775807 ∧ (l = [] ∨ ∃ b off, A = some ⟨b, off, none⟩ ∧ b < w.heap.size ∧ Row 5 Node.cells w b off l) ∧
      (∀ v ∈ l, v.wf) ∧ (x.1 = .nil ∧ l = [] ∨ ∃ spares, x.1 = .slice (l.map fun v => .agg [.lit (.int .i64 v.op), .lit (.int .i64 v.n), .agg [.lit (.int .i64 v.v.kind), .lit (.int .i64 v.v.n), .lit (.string v.v.s)]]) spares) := by
  rcases open_slice Try.underlying33 h with ⟨rfl, rfl⟩ | ⟨a, len, cap, m, n, D, Pl, rfl, hb, hl, hm, hmm, hx, hi⟩
  · exact ⟨none, 0, [], rfl, by simp, by omega, .inl rfl, by simp, .inl ⟨rfl, rfl⟩⟩
  · have hlm : len ≤ m := by rw [hmm]; split <;> omega
    have hq : ∀ i, i < len → ∃ v : Node, (∀ j u, v.cells[j]? = some u → w.cell? (a.add (i * 5 + j)) = some u) ∧ D i = .agg [.lit (.int .i64 v.op), .lit (.int .i64 v.n), .agg [.lit (.int .i64 v.v.kind), .lit (.int .i64 v.v.n), .lit (.string v.v.s)]] ∧ v.wf := by
      intro i hil
      obtain ⟨cs', hc, ht⟩ := hi i (by omega)
      rw [c_node] at hc
      obtain ⟨v, rfl, hv, wv⟩ := open_node ht
      obtain ⟨_, hcl, hat⟩ := World.cells?_some hc
      simp only [Prod.mk.injEq] at hv
      refine ⟨v, fun j u hu => ?_, hv.1, wv⟩
      have hj : j < 5 := by rw [← Node.cells_len v]; exact (List.getElem?_eq_some_iff.1 hu).1
      have h1 := hat j hj
      rw [Go.Deep.add_add] at h1
      rw [h1]; exact hu
    obtain ⟨l, hll, hq⟩ := list_of len hq
    refine ⟨some a, cap, l, by rw [hll], by omega, by unfold maxLen at hm; omega, ?_, ?_, .inr ⟨(List.range (m - len)).map fun j => D (len + j), ?_⟩⟩
    · rcases Nat.eq_zero_or_pos len with h0 | h0
      · exact .inl (List.eq_nil_of_length_eq_zero (by omega))
      · right
        have h1 := (hq 0 (by omega)).1 0 _ rfl
        have hsp := cell_spot h1
        have hlt := World.block_lt_of_cell? w _ h1
        obtain ⟨ab, ao, asp⟩ := a
        simp [Addr.add] at hsp hlt
        subst hsp
        refine ⟨ab, ao, rfl, hlt, fun i hi j u hu => ?_⟩
        have := (hq i hi).1 j u hu
        rw [add_lit'] at this
        rw [Nat.add_assoc]; exact this
    · intro v hv
      obtain ⟨i, hi, rfl⟩ := List.getElem_of_mem hv
      exact (hq i hi).2.2
    · rw [hx]
      have e : (List.range len).map D = l.map fun v => .agg [.lit (.int .i64 v.op), .lit (.int .i64 v.n), .agg [.lit (.int .i64 v.v.kind), .lit (.int .i64 v.v.n), .lit (.string v.v.s)]] := by
        apply List.ext_getElem
        · simp [hll]
        · intro i h1 h2
          simp only [List.getElem_map, List.getElem_range]
          exact (hq i (by simpa using h2)).2.1
      show DataW.slice _ _ = _
      rw [e]
end
end Go.Proofs.Ytldoedmclfbgpaa
namespace Go.Proofs.Ytldoedmclfbgpaa
open Go.RowKit

structure Card where
  id : Int
  ver : Int
  lab : Nat
  f : List Val
deriving DecidableEq
structure Patch where
  mask : Nat
  lab : Nat
  f : List Val
deriving DecidableEq
structure Edit where
  kind : Int
  id : Int
  group : Int
  p : Patch
deriving DecidableEq
theorem val_len (x : Val) : x.cells.length = 3 := rfl
@[irreducible] def farr (f : List Val) : Array Value := (f.flatMap Val.cells).toArray
@[irreducible] def Card.arr (c : Card) : Array Value := (([.int .i64 c.id, .int .i64 c.ver, .int .u32 c.lab] : List Value) ++ c.f.flatMap Val.cells).toArray
@[irreducible] def Patch.arr (p : Patch) : Array Value := (([.int .u32 p.mask, .int .u32 p.lab] : List Value) ++ p.f.flatMap Val.cells).toArray
@[irreducible] def Edit.arr (e : Edit) : Array Value := (([.int .i64 e.kind, .int .i64 e.id, .int .i64 e.group, .int .u32 e.p.mask, .int .u32 e.p.lab] : List Value) ++ e.p.f.flatMap Val.cells).toArray
section
variable {f : List Val} {k : Nat}
theorem vals_get (h : k < f.length) : (f.flatMap Val.cells)[k * 3]? = some (.int .i64 f[k].kind) ∧ (f.flatMap Val.cells)[k * 3 + 1]? = some (.int .i64 f[k].n) ∧ (f.flatMap Val.cells)[k * 3 + 2]? = some (.string (str f[k].s)) := by
  have h0 := flat_get val_len f k h 0 (by omega)
  have h1 := flat_get val_len f k h 1 (by omega)
  have h2 := flat_get val_len f k h 2 (by omega)
  exact ⟨h0, h1, h2⟩
theorem farr_size (f : List Val) : (farr f).size = f.length * 3 := by unfold farr; rw [List.size_toArray, flat_length val_len]
theorem farr_get (h : k < f.length) : (farr f)[k * 3]? = some (.int .i64 f[k].kind) ∧ (farr f)[k * 3 + 1]? = some (.int .i64 f[k].n) ∧ (farr f)[k * 3 + 2]? = some (.string (str f[k].s)) := by
  unfold farr
  simpa using vals_get h
theorem Card.arr_size (c : Card) : c.arr.size = 3 + c.f.length * 3 := by unfold Card.arr; rw [List.size_toArray, List.length_append, flat_length val_len]; rfl
theorem Card.arr_head (c : Card) : c.arr[0]? = some (.int .i64 c.id) ∧ c.arr[1]? = some (.int .i64 c.ver) ∧ c.arr[2]? = some (.int .u32 c.lab) := by
  unfold Card.arr; exact ⟨rfl, rfl, rfl⟩
theorem Card.arr_tail (c : Card) (j : Nat) : c.arr[3 + j]? = (farr c.f)[j]? := by
  unfold Card.arr farr
  rw [List.getElem?_toArray, List.getElem?_toArray, List.getElem?_append_right (by simp)]
  congr 1
  simp
theorem Card.arr_val {c : Card} (h : k < c.f.length) : c.arr[3 + k * 3]? = some (.int .i64 c.f[k].kind) ∧ c.arr[3 + k * 3 + 1]? = some (.int .i64 c.f[k].n) ∧ c.arr[3 + k * 3 + 2]? = some (.string (str c.f[k].s)) := by
  have := farr_get h
  rw [← Card.arr_tail, ← Card.arr_tail, ← Card.arr_tail] at this
  exact this
theorem Patch.arr_size (c : Patch) : c.arr.size = 2 + c.f.length * 3 := by unfold Patch.arr; rw [List.size_toArray, List.length_append, flat_length val_len]; rfl
theorem Patch.arr_head (c : Patch) : c.arr[0]? = some (.int .u32 c.mask) ∧ c.arr[1]? = some (.int .u32 c.lab) := by
  unfold Patch.arr; exact ⟨rfl, rfl⟩
theorem Patch.arr_tail (c : Patch) (j : Nat) : c.arr[2 + j]? = (farr c.f)[j]? := by
  unfold Patch.arr farr
  rw [List.getElem?_toArray, List.getElem?_toArray, List.getElem?_append_right (by simp)]
  congr 1
  simp
theorem Patch.arr_val {c : Patch} (h : k < c.f.length) : c.arr[2 + k * 3]? = some (.int .i64 c.f[k].kind) ∧ c.arr[2 + k * 3 + 1]? = some (.int .i64 c.f[k].n) ∧ c.arr[2 + k * 3 + 2]? = some (.string (str c.f[k].s)) := by
  have := farr_get h
  rw [← Patch.arr_tail, ← Patch.arr_tail, ← Patch.arr_tail] at this
  exact this
theorem Edit.arr_size (c : Edit) : c.arr.size = 5 + c.p.f.length * 3 := by unfold Edit.arr; rw [List.size_toArray, List.length_append, flat_length val_len]; rfl
theorem Edit.arr_head (c : Edit) : c.arr[0]? = some (.int .i64 c.kind) ∧ c.arr[1]? = some (.int .i64 c.id) ∧ c.arr[2]? = some (.int .i64 c.group) := by
  unfold Edit.arr; exact ⟨rfl, rfl, rfl⟩
theorem Edit.arr_tail (c : Edit) (j : Nat) : c.arr[3 + j]? = c.p.arr[j]? := by
  unfold Edit.arr Patch.arr
  rw [List.getElem?_toArray, List.getElem?_toArray]
  show (([_, _, _] : List Value) ++ (([_, _] : List Value) ++ _))[3 + j]? = _
  rw [List.getElem?_append_right (by simp)]
  congr 1
  simp
end
end Go.Proofs.Ytldoedmclfbgpaa
namespace Go.Proofs.Ytldoedmclfbgpaa
open Go.RowKit

def bc (b : UInt8) : List Value := [.int .u8 b.toNat]
/-- A slice of bytes. -/
abbrev InB := In 1 bc

theorem RetV.str {w w' : World} {a b : List UInt8} (h : a = b) (hb : Below w.heap.size w w') : RetV w (.string (str b)) (.returned (.string (str a))) w' := ⟨by rw [h], hb⟩

theorem RetS.of {α : Type} {k : Nat} {cs : α → List Value} {et : TypeId} {w w' : World} {l l' : List α} {v : Value} {b : Nat} (h : w'.ownsRow b et k v l'.length (l'.flatMap cs)) (hb : w.heap.size ≤ b) (e : l' = l) (hB : Below w.heap.size w w') :
    RetS k cs et w l (.returned v) w' := ⟨v, rfl, by subst e; exact own_base h hb, hB⟩

/-! Numbers and texts as bytes. -/
def numF : Nat → Nat → List UInt8
  | 0, v => [UInt8.ofNat v]
  | f + 1, v => if v < 128 then [UInt8.ofNat v] else UInt8.ofNat (v % 128 + 128) :: numF f (v / 128)
def clampN (n : Int) : Nat := (min (max n 0) 1099511627776).toNat
@[irreducible] def num (n : Int) : List UInt8 := numF 6 (clampN n)
section
variable {P : Program} (w : World)
theorem Src.go {A : Option Addr} {m size c : Nat} {news : List Value} {tx e' : TypeId} (hk : P.underlying tx = some (.slice e')) (h : Src w A m size news) (h1 : ∀ u ∈ news, u.oneCell' = true) : Go.Src P size tx (.slice A m c) m news w := by
  rcases A with _ | ad
  · have hm : m = 0 := by
      rcases Nat.eq_zero_or_pos m with h0 | h0
      · exact h0
      · obtain ⟨ad, hh, _⟩ := h.2 h0; cases hh
    subst hm
    have hnil : news = [] := List.eq_nil_of_length_eq_zero (by simpa using h.1)
    subst hnil
    exact Go.Src.ofNil w hk c
  · refine Go.Src.ofSlice w hk ad m c news h.1 (fun j u hu => ?_) h1
    rcases Nat.eq_zero_or_pos m with h0 | h0
    · subst h0
      have hnil : news = [] := List.eq_nil_of_length_eq_zero (by simpa using h.1)
      subst hnil; simp at hu
    · obtain ⟨ad', hh, hc⟩ := h.2 h0
      injection hh with hh; subst hh; exact hc j u hu
theorem Src.first {A : Option Addr} {m size c : Nat} {news : List Value} (h : Src w A m size news) : (Builtin.firstCells size m (.slice A m c)).run P w.drew = .ok news.toArray w.drew := by
  rcases A with _ | ad
  · have hm : m = 0 := by
      rcases Nat.eq_zero_or_pos m with h0 | h0
      · exact h0
      · obtain ⟨ad, hh, _⟩ := h.2 h0; cases hh
    subst hm
    have hnil : news = [] := List.eq_nil_of_length_eq_zero (by simpa using h.1)
    subst hnil
    exact run_firstCells_none w.drew size 0 0 c
  · refine run_firstCells_some w.drew size m ad m c news h.1 (fun j u hu => ?_)
    rcases Nat.eq_zero_or_pos m with h0 | h0
    · subst h0
      have hnil : news = [] := List.eq_nil_of_length_eq_zero (by simpa using h.1)
      subst hnil; simp at hu
    · obtain ⟨ad', hh, hc⟩ := h.2 h0
      injection hh with hh; subst hh; exact hc j u hu
/-- A slice that is full, or a call's own. -/
def Held (w : World) (base : Nat) (e : TypeId) (size : Nat) (v : Value) (n : Nat) (xs : List Value) : Prop :=
  w.ownsRow base e size v n xs ∨ ∃ A, v = .slice A n n ∧ Src w A n size xs
end
section
variable {w w' : World} {base : Nat} {e : TypeId} {size n : Nat} {v : Value} {xs : List Value}
theorem Src.below {A : Option Addr} (h : Src w A n size xs) (hb : Below w.heap.size w w') : Src w' A n size xs := by
  refine ⟨h.1, fun hm => ?_⟩
  obtain ⟨ad, rfl, hc⟩ := h.2 hm
  refine ⟨ad, rfl, fun j u hu => ?_⟩
  have h1 := hc j u hu
  rw [hb.cell (World.block_lt_of_cell? _ _ h1)]
  exact h1
theorem Held.below (h : Held w base e size v n xs) (hb : Below w.heap.size w w') : Held w' base e size v n xs := by
  rcases h with h | ⟨A, rfl, h⟩
  · exact .inl (own_below h hb)
  · exact .inr ⟨A, rfl, h.below hb⟩
theorem Held.shape (h : Held w base e size v n xs) : ∃ A c, v = .slice A n c := by
  rcases h with h | ⟨A, rfl, _⟩
  · obtain ⟨A, c, rfl, _⟩ := own_form h; exact ⟨_, _, rfl⟩
  · exact ⟨_, _, rfl⟩
/-- A slice that came in, its capacity cut to its length. -/
theorem Held.of_in {α : Type} {k : Nat} {cs : α → List Value} {A : Option Addr} {c : Nat} {l : List α} (hk : ∀ x, (cs x).length = k) (hk0 : 0 < k) (h : In k cs w A c l) :
    Held w base e k (.slice A l.length l.length) l.length (l.flatMap cs) := .inr ⟨A, rfl, Src.of_in hk hk0 h⟩
end
/-! Bytes as texts. -/
section
variable {P : Program} (w : World)
theorem conv_str {src dst e : TypeId} (hs : P.underlying src = some (.slice e)) (he : P.underlying e = some (.int .u8)) (hd : P.underlying dst = some .string) {A : Option Addr} {c : Nat} {l : List UInt8} (h : InB w A c l) :
    (convert src dst (.slice A l.length c)).run P w = .ok (.string (str l)) w := by
  rcases A with _ | ad
  · have : l = [] := by
      rcases h.2.2.2 with h | ⟨b, off, hh, _⟩
      · exact h
      · cases hh
    subst this
    exact run_convert_bytes_nil w src e hs he _ _ dst hd
  · refine run_convert_bytes_back w src dst e ad c l hs he hd (fun j hj => ?_)
    obtain ⟨b, off, hA, _, hrow⟩ := h.at hj
    injection hA with hA
    subst hA
    have := hrow j hj 0 _ rfl
    rw [add_lit']
    simpa using this
end
end Go.Proofs.Ytldoedmclfbgpaa
namespace Go.Proofs.Ytldoedmclfbgpaa
open Go.RowKit

/-- What is left, and the first error. -/
structure Rd where
  s : List UInt8
  e : Int
deriving DecidableEq

/-! A number off bytes: its error, its value, how many bytes it has. -/
def nxE : Nat → Bool → List UInt8 → Int
  | 0, _, _ => 3
  | _ + 1, _, [] => 2
  | f + 1, first, c :: s => if 128 ≤ c.toNat then nxE f false s else if c.toNat = 0 ∧ first = false then 3 else 0
def nxV : Nat → List UInt8 → Nat
  | 0, _ => 0
  | _ + 1, [] => 0
  | f + 1, c :: s => if 128 ≤ c.toNat then c.toNat % 128 + 128 * nxV f s else c.toNat
def nxK : Nat → List UInt8 → Nat
  | 0, _ => 0
  | _ + 1, [] => 0
  | f + 1, c :: s => if 128 ≤ c.toNat then nxK f s + 1 else 1
@[irreducible] def nErr (s : List UInt8) (most : Int) : Int := if nxE 6 true s = 0 then (if 1099511627776 < nxV 6 s ∨ most < (nxV 6 s : Int) then 4 else 0) else nxE 6 true s
@[irreducible] def nVal (s : List UInt8) (most : Int) : Int := if nErr s most = 0 then (nxV 6 s : Int) else 0
@[irreducible] def nLen (s : List UInt8) (most : Int) : Nat := if nErr s most = 0 then nxK 6 s else 0
/-! What the readers' calls answer, and what is left then. -/
/-! A number's bytes are read as it. -/
/-! What is read as a number has just a number's bytes. -/
/-! How the loops over a number's bytes go. -/
def Peek (s : List UInt8) (k acc : Nat) : Prop :=
  k ≤ 6 ∧ k ≤ s.length ∧ acc < 128 ^ k ∧ nxE 6 true s = nxE (6 - k) (decide (k = 0)) (s.drop k) ∧ nxV 6 s = acc + 128 ^ k * nxV (6 - k) (s.drop k) ∧ nxK 6 s = k + nxK (6 - k) (s.drop k) ∧
    ∀ j c, j < k → s[j]? = some c → 128 ≤ c.toNat
section
variable {s : List UInt8} {k acc : Nat}
theorem Peek.start (s : List UInt8) : Peek s 0 0 := ⟨by omega, by omega, by simp, by simp, by simp, by simp, fun j c h => by omega⟩
theorem Peek.full (h : Peek s 6 acc) : nxE 6 true s = 3 := by rw [h.2.2.2.1]; rfl
theorem Peek.zero (h : Peek s k acc) (hk : k < 6) (hl : k < s.length) (hc : s[k].toNat = 0) (h0 : 0 < k) : nxE 6 true s = 3 := by
  rw [h.2.2.2.1, List.drop_eq_getElem_cons hl, show 6 - k = (6 - (k + 1)) + 1 by omega, nxE, if_neg (by omega), if_pos ⟨hc, by simp; omega⟩]
theorem Peek.done (h : Peek s k acc) (hk : k < 6) (hl : k < s.length) (hc : s[k].toNat < 128) (h0 : s[k].toNat ≠ 0 ∨ k = 0) : nxE 6 true s = 0 ∧ nxV 6 s = acc + s[k].toNat * 128 ^ k ∧ nxK 6 s = k + 1 := by
  obtain ⟨_, _, h3, h4, h5, h6, h7⟩ := h
  rw [List.drop_eq_getElem_cons hl, show 6 - k = (6 - (k + 1)) + 1 by omega] at h4 h5 h6
  rw [nxE, if_neg (by omega)] at h4
  rw [nxV, if_neg (by omega)] at h5
  rw [nxK, if_neg (by omega)] at h6
  refine ⟨?_, by rw [h5, Nat.mul_comm], h6⟩
  rw [h4, if_neg]
  rintro ⟨h1, h2⟩
  rcases h0 with h0 | h0
  · exact h0 h1
  · simp [h0] at h2
end
end Go.Proofs.Ytldoedmclfbgpaa
namespace Go.Proofs.Ytldoedmclfbgpaa
open Go.RowKit

/-! Worlds in which, below a block number, one block alone may have turned. -/
structure Kept (p : Option Nat) (B : Nat) (w w' : World) : Prop where
  os : w'.os = w.os
  tape : w'.tape = w.tape
  output : w'.output = w.output
  size : w.heap.size ≤ w'.heap.size
  block : ∀ k, k < B → p ≠ some k → w'.heap[k]? = w.heap[k]?
section
variable {p : Option Nat} {B B' : Nat} {a b c w w' : World}
theorem Kept.refl (p : Option Nat) (B : Nat) (w : World) : Kept p B w w := ⟨rfl, rfl, rfl, Nat.le_refl _, fun _ _ _ => rfl⟩
theorem Kept.of_below (h : Below B w w') : Kept p B w w' := ⟨h.os, h.tape, h.output, h.size, fun k hk _ => h.block k hk⟩
theorem Kept.trans (h : Kept p B a b) (k : Kept p B b c) : Kept p B a c := ⟨k.os.trans h.os, k.tape.trans h.tape, k.output.trans h.output, Nat.le_trans h.size k.size, fun i hi hp => (k.block i hi hp).trans (h.block i hi hp)⟩
theorem Kept.mono (h : Kept p B w w') (hB : B' ≤ B) : Kept p B' w w' := ⟨h.os, h.tape, h.output, h.size, fun k hk hp => h.block k (by omega) hp⟩
theorem Kept.below (h : Kept p B w w') (hB : B' ≤ B) (hp : ∀ g, p = some g → B' ≤ g) : Below B' w w' := ⟨h.os, h.tape, h.output, h.size, fun k hk => h.block k (by omega) (fun e => by have := hp k e; omega)⟩
theorem Kept.alloc (h : Kept p B a w) (hB : B ≤ w.heap.size) (o : Obj) : Kept p B a (w.alloc o) := h.trans (.of_below ((Below.refl _ _).alloc hB o))
theorem Kept.drew (h : Kept p B a w) : Kept p B a w.drew := ⟨h.os, h.tape, h.output, h.size, h.block⟩
theorem Kept.setCell (h : Kept p B a w) {q : Addr} (hq : B ≤ q.block ∨ p = some q.block) (u : Value) : Kept p B a (w.setCell q u) :=
  h.trans ⟨rfl, rfl, rfl, by simp [World.setCell], fun k hk hp => Below.heap_setCell _ _ _ _ (fun e => by
    subst e
    rcases hq with h | h
    · omega
    · exact hp h)⟩
theorem Kept.then_below (h : Kept p B a w) (k : Below w.heap.size w w') (hB : B ≤ w.heap.size) : Kept p B a w' := h.trans (.of_below (k.mono hB))
theorem Kept.then_kept (h : Kept p B a w) (k : Kept p w.heap.size w w') (hB : B ≤ w.heap.size) : Kept p B a w' := h.trans (k.mono hB)
theorem Kept.cell (h : Kept p B w w') {q : Addr} (hq : q.block < B) (hp : p ≠ some q.block) : w'.cell? q = w.cell? q := World.cell?_of_block (w := w) (h.block q.block hq hp)
end

/-! A block that is known whole. -/
def Blk (w : World) (g : Nat) (cs : Array Value) : Prop := ∃ t, w.heap[g]? = some (.cells cs t (0, 0))
section
variable {w w' : World} {g : Nat} {cs : Array Value}
theorem Blk.lt (h : Blk w g cs) : g < w.heap.size := by
  obtain ⟨t, h⟩ := h
  rcases Nat.lt_or_ge g w.heap.size with hlt | hge
  · exact hlt
  · rw [Array.getElem?_eq_none hge] at h; cases h
theorem Blk.cell (h : Blk w g cs) {i : Nat} {v : Value} (hv : cs[i]? = some v) : w.cell? ⟨g, i, none⟩ = some v := by
  obtain ⟨t, h⟩ := h
  simp [World.cell?, h, hv]
theorem Blk.frozen (h : Blk w g cs) (i : Nat) : w.frozen? ⟨g, i, none⟩ = false := by
  obtain ⟨t, h⟩ := h
  simp [World.frozen?, h]
theorem Blk.new (w : World) (t : TypeId) (cs : Array Value) : Blk (w.alloc (.cells cs t)) w.heap.size cs := ⟨t, heap_alloc_new w _⟩
theorem Blk.kept {p : Option Nat} {B : Nat} (h : Blk w g cs) (k : Kept p B w w') (hg : g < B) (hp : p ≠ some g) : Blk w' g cs := by
  obtain ⟨t, h⟩ := h
  exact ⟨t, (k.block g hg hp).trans h⟩
theorem Blk.below {B : Nat} (h : Blk w g cs) (k : Below B w w') (hg : g < B) : Blk w' g cs := by
  obtain ⟨t, h⟩ := h
  exact ⟨t, (k.block g hg).trans h⟩
theorem Blk.store (h : Blk w g cs) (i : Nat) (u : Value) : Blk (w.setCell ⟨g, i, none⟩ u) g (cs.setIfInBounds i u) := by
  obtain ⟨t, h⟩ := h
  exact ⟨t, by simp [World.setCell, Array.getElem?_modify, h]⟩
theorem Blk.far (h : Blk w g cs) {q : Addr} (hq : g ≠ q.block) (u : Value) : Blk (w.setCell q u) g cs := by
  obtain ⟨t, h⟩ := h
  exact ⟨t, (Below.heap_setCell w q u g hq).trans h⟩
end

/-! The readers in memory. -/
/-- The program's reader at block g: the bytes B, the place, the error. -/
def RdA (w : World) (g : Nat) (A : Option Addr) (c : Nat) (B : List UInt8) (pos : Nat) (e : Int) : Prop :=
  Blk w g #[.slice A B.length c, .int .i64 pos, .int .i64 e] ∧ pos ≤ B.length ∧ B.length ≤ c ∧ c ≤ 9223372036854775807 ∧ B.length ≤ 4294967296 ∧ (B = [] ∨ ∃ b off, A = some ⟨b, off, none⟩ ∧ b < g ∧ Row 1 bc w b off B)
/-- The program's reader; none: the nil one. -/
def RdP (w : World) (p : Option Nat) (st : Rd) : Prop :=
  (p = none ∧ st = ⟨[], 1⟩) ∨ ∃ g A c B pos, p = some g ∧ RdA w g A c B pos st.e ∧ st.s = B.drop pos
/-- The reference's reader at block h. -/
def RdR (w : World) (h : Nat) (st : Rd) : Prop := Blk w h #[.string (str st.s), .int .i64 st.e] ∧ st.s.length ≤ 4294967296
section
variable {w w' : World} {g h : Nat} {A : Option Addr} {c pos : Nat} {B : List UInt8} {e : Int} {p q : Option Nat} {st st' : Rd}
theorem RdA.kept (r : RdA w g A c B pos e) (k : Kept q w.heap.size w w') (hq : ∀ h, q = some h → g < h) : RdA w' g A c B pos e := by
  obtain ⟨h1, h2, h3, h4, h5, h6⟩ := r
  refine ⟨h1.kept k h1.lt (fun e => by have := hq g e; omega), h2, h3, h4, h5, h6.imp id fun ⟨b, off, hA, hb, hr⟩ => ⟨b, off, hA, hb, ?_⟩⟩
  have := h1.lt
  exact hr.keep fun o => k.cell (by show b < _; omega) (fun e => by have := hq b e; omega)
theorem RdP.kept (r : RdP w p st) (k : Kept q w.heap.size w w') (hq : ∀ g h, p = some g → q = some h → g < h) : RdP w' p st :=
  r.imp id fun ⟨g, A, c, B, pos, hp, ha, hs⟩ => ⟨g, A, c, B, pos, hp, ha.kept k (fun h => hq g h hp), hs⟩
theorem RdP.below (r : RdP w p st) (k : Below w.heap.size w w') : RdP w' p st := r.kept (q := none) (.of_below k) (fun _ _ _ h => by cases h)
theorem RdP.lt (r : RdP w p st) (hg : p = some g) : g < w.heap.size := by
  rcases r with ⟨rfl, _⟩ | ⟨g', A, c, B, pos, hp, ha, _⟩
  · cases hg
  · rw [hp] at hg; injection hg with hg; subst hg; exact ha.1.lt
theorem RdR.kept (r : RdR w h st) (k : Kept q w.heap.size w w') (hq : q ≠ some h) : RdR w' h st := ⟨r.1.kept k r.1.lt hq, r.2⟩
theorem RdR.below (r : RdR w h st) (k : Below w.heap.size w w') : RdR w' h st := r.kept (q := none) (.of_below k) (by simp)
theorem RdR.lt (r : RdR w h st) : h < w.heap.size := r.1.lt
theorem RdP.len (r : RdP w p st) : st.s.length ≤ 4294967296 := by
  rcases r with ⟨rfl, rfl⟩ | ⟨g, A, c, B, pos, hp, ha, hs⟩
  · simp
  · rw [hs]; have := ha.2.2.2.2.1; simp; omega
end

/-! The ends of the readers' calls. -/
end Go.Proofs.Ytldoedmclfbgpaa
namespace Go.Proofs.Ytldoedmclfbgpaa
open Go.RowKit

/-- The type ty is a struct or an array of n cells. -/
structure Str (P : Program) (ty : TypeId) (n : Nat) : Prop where
  desc : ∃ d, P.underlying ty = some d ∧ (match d with | .struct _ | .array _ _ => true | _ => false) = true
  size : (P.info? ty).map (·.size) = some n
section
variable {P : Program} {w : World}
theorem Kept.one {g : Nat} {w' : World} (h : Kept (some g) w.heap.size w w') {p : Option Nat} {B : Nat} (hB : B ≤ w.heap.size) (hg : B ≤ g ∨ p = some g) : Kept p B w w' :=
  ⟨h.os, h.tape, h.output, h.size, fun k hk hp => h.block k (by omega) (fun e => by
    injection e with e; subst e
    rcases hg with hg | hg
    · omega
    · exact hp hg)⟩
theorem Kept.oneB {g B : Nat} {w' : World} (h : Kept (some g) w.heap.size w w') (hB : B ≤ w.heap.size) (hg : B ≤ g) : Below B w w' := h.below hB (fun k hk => by injection hk with hk; omega)
theorem wpList_loadB {ops : Array Oper} {rest : List Oper} {o : Oper} {a : Act} {Q : Exit → Act → World → Prop} (hgd : o.guard = none) (ty : TypeId) (x : Operand) (ho : o.op = .load ty x)
    (g : Nat) (hx : a.eval x = .pointer (some ⟨g, 0, none⟩)) (cs : Array Value) (hb : Blk w g cs) {n : Nat} (S : Str P ty n) (hn : cs.size = n)
    (h : wpList P ops Q rest (a.put o.dst (.agg cs)) w) : wpList P ops Q (o :: rest) a w := by
  obtain ⟨d, h1, h2⟩ := S.desc
  obtain ⟨t, hb⟩ := hb
  exact wpList_load_row hgd ty x ho g hx t cs (0, 0) d hb h1 (by cases d <;> first | rfl | (simp at h2)) (by rw [S.size, hn]) h
theorem Blk.row {g : Nat} {cs : Array Value} (hb : Blk w g cs) (cells : Array Value) : Blk (w.setRow g cells) g cells ∧ Kept (some g) w.heap.size w (w.setRow g cells) := by
  have hlt := hb.lt
  obtain ⟨t, hb⟩ := hb
  exact ⟨⟨t, setRow_heap w g _ _ t _ hb⟩, ⟨rfl, rfl, rfl, by simp [World.setRow], fun k hk hp => setRow_other w g k _ (fun e => hp (by rw [e]))⟩⟩
theorem wsB {ops : Array Oper} {rest : List Oper} {o : Oper} {a : Act} {Q : Exit → Act → World → Prop} (hgd : o.guard = none) (ty : TypeId) (x y : Operand) (ho : o.op = .store ty x y)
    (g : Nat) (cells : Array Value) (hx : a.eval x = .pointer (some ⟨g, 0, none⟩)) (hy : a.eval y = .agg cells) (old : Array Value) (hb : Blk w g old) {n : Nat} (S : Str P ty n) (hn : cells.size = n)
    (hold : old.size = cells.size) (h1 : cells.all (·.oneCell') = true)
    (h : ∀ w', Blk w' g cells → Kept (some g) w.heap.size w w' → wpList P ops Q rest (a.put o.dst undef) w') : wpList P ops Q (o :: rest) a w := by
  obtain ⟨k1, k2⟩ := hb.row cells
  obtain ⟨t, hb⟩ := hb
  exact wpList_store_row hgd ty x y ho g cells hx hy t old hb (by rw [S.size, hn]) hold h1 (h _ k1 k2)
/-- The walk stands still at a read, at a store of a value of type ty. -/
theorem stop_load {ops : Array Oper} {rest : List Oper} {o : Oper} {a : Act} {Q : Exit → Act → World → Prop} (ty : TypeId) (x : Operand) (_ : o.guard = none) (_ : o.op = .load ty x) (h : Stop (wpList P ops Q (o :: rest) a w)) : wpList P ops Q (o :: rest) a w := h
theorem stS {ops : Array Oper} {rest : List Oper} {o : Oper} {a : Act} {Q : Exit → Act → World → Prop} (ty : TypeId) (x y : Operand) (_ : o.guard = none) (_ : o.op = .store ty x y) (h : Stop (wpList P ops Q (o :: rest) a w)) : wpList P ops Q (o :: rest) a w := h
theorem results_B {fn : Func} {p : Tmp} {ty : TypeId} (h : fn.results = #[.cell p ty]) {tmps : Array Value} {g : Nat} {cs : Array Value} (hp : tmps.getD p undef = .pointer (some ⟨g, 0, none⟩)) (hb : Blk w g cs) {n : Nat} (S : Str P ty n) (hn : cs.size = n) :
    (results fn tmps).run P w = .ok (.agg cs) w := by
  obtain ⟨d, h1, h2⟩ := S.desc
  obtain ⟨t, hb⟩ := hb
  exact results_cell_row h tmps w g t cs (0, 0) d hp hb h1 (by cases d <;> first | rfl | (simp at h2)) (by rw [S.size, hn])
end
end Go.Proofs.Ytldoedmclfbgpaa
namespace Go.Proofs.Ytldoedmclfbgpaa
open Go.RowKit

section
variable {P : Program} {w : World}
theorem Str.agg {ty : TypeId} {n : Nat} (S : Str P ty n) (w : World) : (isAgg ty).run P w = .ok true w := by
  obtain ⟨d, h1, h2⟩ := S.desc
  unfold isAgg
  rw [Sem.run_bind, run_underlying h1 w]
  cases d <;> simp_all
theorem Str.sizeOf {ty : TypeId} {n : Nat} (S : Str P ty n) (w : World) : (Go.sizeOf ty).run P w = .ok n w := by
  have h := S.size
  cases hq : P.info? ty with
  | none => rw [hq] at h; cases h
  | some i =>
    rw [hq] at h
    simp at h
    simp [Go.sizeOf, typeInfo, hq, h]
theorem run_loadVar_at (g off : Nat) (cs : Array Value) (ty : TypeId) (hcell : ∀ (j : Nat) u, cs[j]? = some u → w.cell? ⟨g, off + j, none⟩ = some u) {n : Nat} (S : Str P ty n) (hn : cs.size = n) :
    (loadVar ty ⟨g, off, none⟩).run P w = .ok (.agg cs) w := by
  have hl : (loadCells ⟨g, off, none⟩ cs.toList.length).run P w = .ok cs.toList.toArray w :=
    run_loadCells_list (P := P) w ⟨g, off, none⟩ cs.toList (fun j v hv => by
      rw [add_lit']
      exact hcell j v (by simpa using hv))
  simp only [Array.length_toList, Array.toArray_toList, hn] at hl
  simp only [loadVar, Sem.run_bind, S.agg, S.sizeOf, Result.andThen_ok, if_true, hl, Sem.run_pure]
theorem wpList_loadAt {ops : Array Oper} {rest : List Oper} {o : Oper} {a : Act} {Q : Exit → Act → World → Prop} (hgd : o.guard = none) (ty : TypeId) (x : Operand) (ho : o.op = .load ty x)
    (g off : Nat) (hx : a.eval x = .pointer (some ⟨g, off, none⟩)) (cs : Array Value) (hcell : ∀ (j : Nat) u, cs[j]? = some u → w.cell? ⟨g, off + j, none⟩ = some u) {n : Nat} (S : Str P ty n) (hn : cs.size = n)
    (h : wpList P ops Q rest (a.put o.dst (.agg cs)) w) : wpList P ops Q (o :: rest) a w := by
  refine wpList_plain hgd fun K hK => ?_
  unfold Oper.wp execOp
  simp only [ho, hx, Instr.loadAt, Instr.sureAddr, Sem.run_bind, Sem.run_pure, Result.andThen_ok, run_loadVar_at g off cs ty hcell S hn]
  exact hK _ _ h

/-- A guarded operation that is wanted. -/
theorem wpList_g {ops : Array Oper} {rest : List Oper} {o : Oper} {a : Act} {Q : Exit → Act → World → Prop} (hw : Region.wanted o (yielded ops a.tmps) = true)
    (h : ∀ K : Act → World → Prop, (∀ a w, wpList P ops Q rest a w → K a w) → o.wp P a w K Q) : wpList P ops Q (o :: rest) a w := by
  rw [wpList, if_pos hw]
  exact .inl (h _ fun _ _ h => h)
theorem wlG {ops : Array Oper} {rest : List Oper} {o : Oper} {a : Act} {Q : Exit → Act → World → Prop} (hw : Region.wanted o (yielded ops a.tmps) = true) (ty : TypeId) (x : Operand) (ho : o.op = .load ty x)
    (g off : Nat) (hx : a.eval x = .pointer (some ⟨g, off, none⟩)) (cs : Array Value) (hcell : ∀ (j : Nat) u, cs[j]? = some u → w.cell? ⟨g, off + j, none⟩ = some u) {n : Nat} (S : Str P ty n) (hn : cs.size = n)
    (h : wpList P ops Q rest (a.put o.dst (.agg cs)) w) : wpList P ops Q (o :: rest) a w := by
  refine wpList_g hw fun K hK => ?_
  unfold Oper.wp execOp
  simp only [ho, hx, Instr.loadAt, Instr.sureAddr, Sem.run_bind, Sem.run_pure, Result.andThen_ok, run_loadVar_at g off cs ty hcell S hn]
  exact hK _ _ h
theorem slG {ops : Array Oper} {rest : List Oper} {o : Oper} {a : Act} {Q : Exit → Act → World → Prop} (ty : TypeId) (x : Operand) (_ : o.op = .load ty x) (h : Stop (wpList P ops Q (o :: rest) a w)) : wpList P ops Q (o :: rest) a w := h
theorem Blk.all {g : Nat} {cs : Array Value} (h : Blk w g cs) (j : Nat) (u : Value) (hu : cs[j]? = some u) : w.cell? ⟨g, 0 + j, none⟩ = some u := by rw [Nat.zero_add]; exact h.cell hu
def putAt (cs : Array Value) (j : Nat) : List Value → Array Value
  | [] => cs
  | v :: r => putAt (cs.setIfInBounds j v) (j + 1) r
theorem putAt_size : ∀ (vs : List Value) (cs : Array Value) (j : Nat), (putAt cs j vs).size = cs.size
  | [], _, _ => rfl
  | v :: r, cs, j => by rw [putAt, putAt_size r]; simp
theorem putAt_far : ∀ (vs : List Value) (cs : Array Value) (j k : Nat), k < j ∨ j + vs.length ≤ k → (putAt cs j vs)[k]? = cs[k]?
  | [], _, _, _, _ => rfl
  | v :: r, cs, j, k, h => by
    simp only [List.length_cons] at h
    rw [putAt, putAt_far r _ _ _ (by omega), Array.getElem?_setIfInBounds_ne (by omega)]
theorem putAt_in : ∀ (vs : List Value) (cs : Array Value) (j i : Nat), j + vs.length ≤ cs.size → i < vs.length → (putAt cs j vs)[j + i]? = vs[i]?
  | [], _, _, _, _, h => by simp at h
  | v :: r, cs, j, 0, hs, _ => by
    simp only [List.length_cons] at hs
    rw [putAt, putAt_far r _ _ _ (by omega), Nat.add_zero, Array.getElem?_setIfInBounds_self_of_lt (by omega)]; rfl
  | v :: r, cs, j, i + 1, hs, h => by
    simp only [List.length_cons] at hs h
    have := putAt_in r (cs.setIfInBounds j v) (j + 1) i (by simp; omega) (by omega)
    rw [putAt, show j + (i + 1) = j + 1 + i by omega, this]; rfl
theorem run_storeCells_at (g off : Nat) : ∀ (vs : List Value) (i : Nat) (cs : Array Value) (w : World), Blk w g cs → off + i + vs.length ≤ cs.size → (∀ v ∈ vs, v.oneCell' = true) →
    ∃ w', (storeCells ⟨g, off, none⟩ vs i).run P w = .ok () w' ∧ Blk w' g (putAt cs (off + i) vs) ∧ Kept (some g) w.heap.size w w'
  | [], i, cs, w, hb, _, _ => ⟨w, rfl, hb, Kept.refl _ _ _⟩
  | v :: r, i, cs, w, hb, hl, h1 => by
    simp only [List.length_cons] at hl
    have hi : off + i < cs.size := by omega
    have hcell : w.cell? ⟨g, off + i, none⟩ = some cs[off + i] := hb.cell (by simp [hi])
    have hfro := hb.frozen (off + i)
    have hst : (store ((⟨g, off, none⟩ : Addr).add i) v).run P w = .ok () (w.setCell ⟨g, off + i, none⟩ v) := by
      rw [add_lit', run_store P w _ v _ (h1 v (by simp)), hcell]
      simp [hfro]
    obtain ⟨w', hr, hb', hk⟩ := run_storeCells_at g off r (i + 1) _ _ (hb.store (off + i) v) (by simp; omega) (fun x hx => h1 x (by simp [hx]))
    have k1 : Kept (some g) w.heap.size w (w.setCell ⟨g, off + i, none⟩ v) := Kept.setCell (q := ⟨g, off + i, none⟩) (Kept.refl (some g) _ w) (.inr rfl) v
    refine ⟨w', ?_, hb', k1.trans ?_⟩
    · simp only [storeCells, Sem.run_bind, hst, Result.andThen_ok, hr]
    · simpa [World.setCell] using hk
theorem wpList_storeAt {ops : Array Oper} {rest : List Oper} {o : Oper} {a : Act} {Q : Exit → Act → World → Prop} (hgd : o.guard = none) (ty : TypeId) (x y : Operand) (ho : o.op = .store ty x y)
    (g off : Nat) (cells : Array Value) (hx : a.eval x = .pointer (some ⟨g, off, none⟩)) (hy : a.eval y = .agg cells) (old : Array Value) (hb : Blk w g old) {n : Nat} (S : Str P ty n) (hn : cells.size = n)
    (hold : off + cells.size ≤ old.size) (h1 : ∀ v ∈ cells.toList, v.oneCell' = true)
    (h : ∀ w', Blk w' g (putAt old off cells.toList) → Kept (some g) w.heap.size w w' → wpList P ops Q rest (a.put o.dst undef) w') : wpList P ops Q (o :: rest) a w := by
  refine wpList_plain hgd fun K hK => ?_
  obtain ⟨w', hr, hb', hk⟩ := run_storeCells_at (P := P) g off cells.toList 0 old w hb (by simpa using hold) h1
  have hs : (storeVar ty ⟨g, off, none⟩ (.agg cells)).run P w = .ok () w' := by
    simp only [storeVar, Sem.run_bind, S.sizeOf, Result.andThen_ok, Value.cells, hn, ne_eq, not_true_eq_false, if_false, hr]
  unfold Oper.wp execOp
  simp only [ho, hx, hy, Instr.storeAt, Instr.sureAddr, Sem.run_bind, Sem.run_pure, Result.andThen_ok, hs]
  exact hK _ _ (h w' hb' hk)
end
theorem strV : Str Try.prog 36 3 := ⟨⟨_, Try.underlying36, rfl⟩, by kernel_rfl⟩
theorem strF : Str Try.prog 37 24 := ⟨⟨_, Try.underlying37, rfl⟩, by kernel_rfl⟩
theorem strC : Str Try.prog 39 27 := ⟨⟨_, Try.underlying39, rfl⟩, by kernel_rfl⟩
theorem strP : Str Try.prog 71 26 := ⟨⟨_, Try.underlying71, rfl⟩, by kernel_rfl⟩
/-! Equality. -/
def eqF (d : Nat) (xs ys : Array Value) : List (Bool × TypeId × Nat) → Sem Bool
  | [] => pure true
  | (b, t, off) :: r => if b = false then do
      let a ← part t xs off
      let c ← part t ys off
      let q ← Op.equalIn d t a c
      if (!q) = true then pure false else eqF d xs ys r
    else eqF d xs ys r
theorem eqFields_eqF (d : Nat) (xs ys : Array Value) : ∀ fs : List Field, Op.eqFields d xs ys fs = eqF d xs ys (fs.map fun f => (f.name == "_", f.type, f.offset))
  | [] => rfl
  | f :: fs => by
    rw [List.map_cons, eqF, Op.eqFields, eqFields_eqF d xs ys fs]
    by_cases h : f.name = "_"
    · simp [h]
    · have h' : (f.name == "_") = false := by simpa using h
      simp [h, h']
section
variable {P : Program} {w : World}
theorem eqF_nil (d : Nat) (xs ys : Array Value) : (eqF d xs ys []).run P w = .ok true w := by simp [eqF]
theorem eqF_cons (d : Nat) (xs ys : Array Value) (t : TypeId) (off : Nat) (r : List (Bool × TypeId × Nat)) {a b : Value} {p q : Bool} (ha : (part t xs off).run P w = .ok a w) (hb : (part t ys off).run P w = .ok b w)
    (he : (Op.equalIn d t a b).run P w = .ok p w) (hr : (eqF d xs ys r).run P w = .ok q w) : (eqF d xs ys ((false, t, off) :: r)).run P w = .ok (p && q) w := by
  simp only [eqF, if_true, Sem.run_bind, ha, hb, he, Result.andThen_ok, Sem.run_ite, hr, Sem.run_pure]
  cases p <;> simp
theorem eqS (d : Nat) {t : TypeId} (xs ys : Array Value) (l : List (Bool × TypeId × Nat)) (ht : P.underlying t = some (.struct (P.fieldsOf t))) (hp : P.stoodInHeld t = false) (hl : (P.fieldsOf t).toList.map (fun f => (f.name == "_", f.type, f.offset)) = l)
    {q : Bool} (h : (eqF d xs ys l).run P w = .ok q w) : (Op.equalIn (d + 1) t (.agg xs) (.agg ys)).run P w = .ok q w := by
  rw [run_equalIn_struct w d t xs ys ht hp, eqFields_eqF, hl, h]
end
theorem plain3 : Try.prog.plainKey 3 = true := by kernel_rfl
theorem plainS : Try.prog.plainKey 9 = true := by kernel_rfl
abbrev Val.c3 (x : Val) : Array Value := #[.int .i64 x.kind, .int .i64 x.n, .string (str x.s)]
theorem f_val : (Try.prog.fieldsOf 36).toList.map (fun f => (f.name == "_", f.type, f.offset)) = [(false, 3, 0), (false, 3, 1), (false, 9, 2)] := by kernel_rfl
theorem u_val : Try.prog.underlying 36 = some (.struct (Try.prog.fieldsOf 36)) := by kernel_rfl
theorem h_val : Try.prog.stoodInHeld 36 = false := by kernel_rfl
set_option maxRecDepth 100000 in
theorem eq_val (d : Nat) (x y : Val) (w : World) : (Op.equalIn (d + 2) 36 (.agg x.c3) (.agg y.c3)).run Try.prog w = .ok (decide (x = y)) w := by
  have h : (eqF (d + 1) x.c3 y.c3 [(false, 3, 0), (false, 3, 1), (false, 9, 2)]).run Try.prog w = .ok (x.kind == y.kind && (x.n == y.n && ((str x.s).toList == (str y.s).toList && true))) w :=
    eqF_cons _ _ _ _ _ _ (run_part_plain w plain3 rfl) (run_part_plain w plain3 rfl) (run_equalIn_int w d _ _ _ _ _ Try.underlying3)
    (eqF_cons _ _ _ _ _ _ (run_part_plain w plain3 rfl) (run_part_plain w plain3 rfl) (run_equalIn_int w d _ _ _ _ _ Try.underlying3)
      (eqF_cons _ _ _ _ _ _ (run_part_plain w plainS rfl) (run_part_plain w plainS rfl) (run_equalIn_string w d _ _ _ Try.underlying9) (eqF_nil _ _ _)))
  rw [eqS (d + 1) _ _ _ u_val h_val f_val h]
  congr 1
  rw [Bool.eq_iff_iff]
  obtain ⟨a, b, c⟩ := x
  obtain ⟨a', b', c'⟩ := y
  simp
end Go.Proofs.Ytldoedmclfbgpaa
namespace Go.Proofs.Ytldoedmclfbgpaa
open Go.ChangeShapes Go.WideShapes Go.ChangeAt Go.RowKit Go.Deep
open Go.ChangeMaps (open_string shut_string)

theorem u32_range {n : Int} (h : (Lit.int .u32 n).wf = true) : 0 ≤ n ∧ n < 4294967296 := by
  have := (show 0 ≤ n ∧ n ≤ 4294967295 by simpa [Lit.wf, IntKind.min, IntKind.max, IntKind.signed, IntKind.bits] using h)
  omega
theorem c_u32 : Try.prog.cellsOf 34 = 1 := by kernel_rfl
theorem c_f8 : Try.prog.cellsOf 37 = 24 := by kernel_rfl
theorem c_card : Try.prog.cellsOf 39 = 27 := by kernel_rfl
theorem cons3 {α : Type} {l : List α} (h : 3 ≤ l.length) : ∃ a b c r, l = a :: b :: c :: r := by
  match l, h with
  | a :: b :: c :: r, _ => exact ⟨a, b, c, r, rfl⟩
theorem list4 {α : Type} {l : List α} (h : l.length = 4) : ∃ a b c d, l = [a, b, c, d] := by
  match l, h with
  | [a, b, c, d], _ => exact ⟨a, b, c, d, rfl⟩
section
variable {H : Type} {enc : TypeId × Value → H} {w : World} {base : Nat} {spare : Nat → Bool} {held : Bool}
/-- Cells that lie three by three. -/
theorem flat_three : ∀ {l : List Val} {cs : List Value}, cs.length = l.length * 3 → (∀ i (h : i < l.length), (cs.drop (i * 3)).take 3 = l[i].cells) → cs = l.flatMap Val.cells
  | [], cs, h, _ => by simp at h; subst h; rfl
  | v :: l, cs, h, hi => by
    have h0 := hi 0 (by simp)
    simp only [Nat.zero_mul, List.drop_zero, List.getElem_cons_zero] at h0
    rw [List.length_cons] at h
    rw [List.flatMap_cons, ← h0]
    have ih := flat_three (l := l) (cs := cs.drop 3) (by rw [List.length_drop]; omega) (fun i hi' => by
      have := hi (i + 1) (by rw [List.length_cons]; omega)
      rw [List.drop_drop, show 3 + i * 3 = (i + 1) * 3 by omega, this, List.getElem_cons_succ])
    rw [← ih, List.take_append_drop]
theorem open_f8 {fuel : Nat} {cs : List Value} {x : DataW H × List MemPlace} (h : DataW.trod enc Try.prog w base spare held fuel 37 cs = some x) :
    ∃ f : List Val, f.length = 8 ∧ cs = f.flatMap Val.cells ∧ ∀ v ∈ f, v.wf := by
  obtain ⟨xs, m, _, _, hl, hxl, hf⟩ := DataW.trod_array Try.underlying37 h
  rw [c_f8] at hl
  have hq : ∀ i, i < 8 → ∃ v : Val, (cs.drop (i * 3)).take 3 = v.cells ∧ v.wf := by
    intro i hi
    have h1 := hf i hi
    rw [c_value, List.getElem?_eq_getElem (by omega)] at h1
    obtain ⟨v, hv, _, wv⟩ := open_val h1
    exact ⟨v, hv, wv⟩
  obtain ⟨l, hll, hq⟩ := list_of 8 hq
  refine ⟨l, hll, flat_three (by omega) (fun i hi => (hq i hi).1), fun v hv => ?_⟩
  obtain ⟨i, hi, rfl⟩ := List.getElem_of_mem hv
  exact (hq i hi).2
theorem open_u32 {fuel : Nat} {cs : List Value} {x : DataW H × List MemPlace} (h : DataW.trod enc Try.prog w base spare held fuel 34 cs = some x) : ∃ n : Nat, cs = [.int .u32 n] ∧ n < 4294967296 := by
  obtain ⟨a, ha, _, wa⟩ := DataW.trod_int Try.underlying34 h
  have := u32_range wa
  exact ⟨a.toNat, by rw [ha, Int.toNat_of_nonneg this.1], by omega⟩
theorem open_i64 {fuel : Nat} {cs : List Value} {x : DataW H × List MemPlace} (h : DataW.trod enc Try.prog w base spare held fuel 3 cs = some x) : ∃ n : Int, cs = [.int .i64 n] ∧ I64 n := by
  obtain ⟨a, ha, _, wa⟩ := DataW.trod_int Try.underlying3 h
  exact ⟨a, ha, i64_range wa⟩
theorem open_card {fuel : Nat} {cs : List Value} {x : DataW H × List MemPlace} (h : DataW.trod enc Try.prog w base spare held fuel 39 cs = some x) :
    ∃ c : Card, cs = c.arr.toList ∧ c.f.length = 8 ∧ c.lab < 4294967296 ∧ I64 c.id ∧ I64 c.ver ∧ ∀ v ∈ c.f, v.wf := by
  obtain ⟨xs, n, _, _, hl, hxl, hf⟩ := DataW.trod_struct Try.underlying39 h
  rw [c_card] at hl
  obtain ⟨q0, q1, q2, r, rfl⟩ := cons3 (l := cs) (by omega)
  have hr : r.length = 24 := by simpa using hl
  obtain ⟨x0, x1, x2, x3, rfl⟩ := list4 (show xs.length = 4 from hxl)
  have h0 := hf 0
  have h1 := hf 1
  have h2 := hf 2
  have h3 := hf 3
  simp [c_int, c_u32, c_f8] at h0 h1 h2 h3
  rw [List.take_of_length_le (by omega)] at h3
  obtain ⟨a, ha, wa⟩ := open_i64 h0
  obtain ⟨b, hb, wb⟩ := open_i64 h1
  obtain ⟨m, hm, wm⟩ := open_u32 h2
  obtain ⟨f, hf8, hff, wf⟩ := open_f8 h3
  simp at ha hb hm
  subst ha hb hm hff
  exact ⟨⟨a, b, m, f⟩, by unfold Card.arr; simp, hf8, wm, wa, wb, wf⟩
end
end Go.Proofs.Ytldoedmclfbgpaa
namespace Go.Proofs.Ytldoedmclfbgpaa

/-- l begins with n trees, r stands behind them; d: how deep the deepest is. -/
inductive Trees : Nat → List Node → List Node → Nat → Prop
  | nil (l : List Node) : Trees 0 l l 0
  | cons {x : Node} {l m r : List Node} {n d1 d2 : Nat} : Trees (parts x.op).toNat l m d1 → Trees n m r d2 → Trees (n + 1) (x :: l) r (max (d1 + 1) d2)

theorem parts_toNat (op : Int) : ((parts op).toNat : Int) = parts op := by have := parts_bd op; omega
theorem Trees.length {n : Nat} {l r : List Node} {d : Nat} (h : Trees n l r d) : r.length + n ≤ l.length := by
  induction h with
  | nil l => simp
  | cons _ _ h1 h2 => simp only [List.length_cons]; omega
theorem Trees.zero {l r : List Node} {d : Nat} (h : Trees 0 l r d) : l = r ∧ d = 0 := by cases h; exact ⟨rfl, rfl⟩
theorem Trees.depth_pos {n : Nat} {l r : List Node} {d : Nat} (h : Trees n l r d) : n = 0 ∨ 1 ≤ d := by
  cases h with
  | nil l => exact .inl rfl
  | cons _ _ => right; omega
theorem Trees.append {n k : Nat} {l m r : List Node} {d1 d2 : Nat} (h : Trees n l m d1) : Trees k m r d2 → Trees (n + k) l r (max d1 d2) := by
  induction h generalizing k r d2 with
  | nil l => intro h; simpa using h
  | cons t1 _ _ ih2 =>
    intro h
    have := Trees.cons t1 (ih2 h)
    rw [← Nat.max_assoc] at this
    rw [Nat.add_right_comm]
    exact this
theorem Trees.split {k : Nat} : ∀ {n : Nat} {l r : List Node} {d : Nat}, Trees (n + k) l r d → ∃ m d1 d2, Trees n l m d1 ∧ Trees k m r d2 ∧ d = max d1 d2
  | 0, l, r, d, h => ⟨l, 0, d, .nil l, by simpa using h, by simp⟩
  | n + 1, l, r, d, h => by
    rw [Nat.add_right_comm] at h
    cases h with
    | cons t1 t2 =>
      obtain ⟨m, e1, e2, h1, h2, rfl⟩ := Trees.split t2
      exact ⟨m, _, e2, .cons t1 h1, h2, (Nat.max_assoc ..).symm⟩
/-- What stands behind does not matter. -/
theorem Trees.behind {n : Nat} {l r : List Node} {d : Nat} (h : Trees n l r d) : ∃ p, l = p ++ r ∧ ∀ q, Trees n (p ++ q) q d := by
  induction h with
  | nil l => exact ⟨[], rfl, fun q => .nil q⟩
  | @cons x l m r n d1 d2 _ _ h1 h2 =>
    obtain ⟨p1, rfl, g1⟩ := h1
    obtain ⟨p2, rfl, g2⟩ := h2
    exact ⟨x :: (p1 ++ p2), by simp, fun q => by
      have := Trees.cons (x := x) (g1 (p2 ++ q)) (g2 q)
      simpa using this⟩
theorem endFrom_pass {n : Nat} {l r : List Node} {d : Nat} (h : Trees n l r d) : ∀ (k i : Nat), 1 ≤ k → endFrom l ((n + k : Nat) : Int) i = endFrom r k (i + (l.length - r.length)) := by
  induction h with
  | nil l => intro k i hk; simp
  | @cons x l m r n d1 d2 t1 t2 h1 h2 =>
    intro k i hk
    have hl1 := t1.length
    have hl2 := t2.length
    have hp := parts_toNat x.op
    show (if ((n + 1 + k : Nat) : Int) + (parts x.op - 1) = 0 then _ else _) = _
    rw [if_neg (by omega), show ((n + 1 + k : Nat) : Int) + (parts x.op - 1) = (((parts x.op).toNat + (n + k) : Nat) : Int) by omega, h1 (n + k) (i + 1) (by omega), h2 k _ hk]
    congr 1
    simp only [List.length_cons]; omega
theorem endFrom_trees {n : Nat} {l r : List Node} {d : Nat} (h : Trees n l r d) : ∀ (i : Nat), 1 ≤ n → endFrom l (n : Int) i = ((i + (l.length - r.length) : Nat) : Int) := by
  induction h with
  | nil l => intro i hk; omega
  | @cons x l m r n d1 d2 t1 t2 h1 h2 =>
    intro i _
    have hl1 := t1.length
    have hl2 := t2.length
    have hp := parts_toNat x.op
    show (if ((n + 1 : Nat) : Int) + (parts x.op - 1) = 0 then _ else _) = _
    by_cases hz : ((n + 1 : Nat) : Int) + (parts x.op - 1) = 0
    · rw [if_pos hz]
      have hn : n = 0 := by omega
      have hp0 : (parts x.op).toNat = 0 := by omega
      subst hn
      rw [hp0] at t1
      obtain ⟨rfl, _⟩ := t1.zero
      obtain ⟨rfl, _⟩ := t2.zero
      simp only [List.length_cons]; omega
    · rw [if_neg hz]
      rcases Nat.eq_zero_or_pos n with rfl | hn
      · obtain ⟨rfl, _⟩ := t2.zero
        rw [show ((0 + 1 : Nat) : Int) + (parts x.op - 1) = (((parts x.op).toNat : Nat) : Int) by omega, h1 (i + 1) (by omega)]
        simp only [List.length_cons]; omega
      · rw [show ((n + 1 : Nat) : Int) + (parts x.op - 1) = (((parts x.op).toNat + n : Nat) : Int) by omega, endFrom_pass t1 n (i + 1) hn, h2 _ hn]
        simp only [List.length_cons]; omega
theorem trees_of_end : ∀ (l : List Node) (n i : Nat) (e : Int), 1 ≤ n → endFrom l (n : Int) i = e → e ≠ -1 → ∃ r d, Trees n l r d
  | [], n, i, e, _, h, he => absurd h.symm he
  | x :: l, n, i, e, hn, h, he => by
    have hp := parts_toNat x.op
    have hpb := parts_bd x.op
    have h' : (if (n : Int) + (parts x.op - 1) = 0 then (i : Int) + 1 else endFrom l (n + (parts x.op - 1)) (i + 1)) = e := h
    obtain ⟨n, rfl⟩ : ∃ m, n = m + 1 := ⟨n - 1, by omega⟩
    by_cases hz : ((n + 1 : Nat) : Int) + (parts x.op - 1) = 0
    · have hn : n = 0 := by omega
      have hp0 : (parts x.op).toNat = 0 := by omega
      subst hn
      exact ⟨l, _, .cons (by rw [hp0]; exact .nil l) (.nil l)⟩
    · rw [if_neg hz, show ((n + 1 : Nat) : Int) + (parts x.op - 1) = (((parts x.op).toNat + n : Nat) : Int) by omega] at h'
      obtain ⟨r, d, ht⟩ := trees_of_end l _ (i + 1) e (by omega) h' he
      obtain ⟨m, d1, d2, t1, t2, rfl⟩ := ht.split
      exact ⟨r, _, .cons t1 t2⟩
/-- A list that is one tree. -/
def Tree (l : List Node) (d : Nat) : Prop := Trees 1 l [] d
theorem Tree.ne {l : List Node} {d : Nat} (h : Tree l d) : 1 ≤ l.length := by have := Trees.length h; simpa using this
theorem Tree.pos {l : List Node} {d : Nat} (h : Tree l d) : 1 ≤ d := (Trees.depth_pos h).resolve_left (by omega)
theorem endAt_tree {l : List Node} {d : Nat} (h : Tree l d) : endAt l 0 = l.length := by
  have := endFrom_trees h 0 (Nat.le_refl _)
  rw [show (0 : Int) = ((0 : Nat) : Int) from rfl, endAt_nat]
  simpa using this
theorem tree_of_end {l : List Node} (_hl : l ≠ []) (h : endAt l 0 = l.length) : ∃ d, Tree l d := by
  rw [show (0 : Int) = ((0 : Nat) : Int) from rfl, endAt_nat] at h
  obtain ⟨r, d, ht⟩ := trees_of_end _ 1 0 _ (Nat.le_refl _) h (by omega)
  simp only [List.drop_zero] at ht h
  have := endFrom_trees ht 0 (Nat.le_refl _)
  have h1 : endFrom l (1 : Int) 0 = l.length := h
  have h2 : endFrom l (1 : Int) 0 = ((0 + (l.length - r.length) : Nat) : Int) := this
  have hlen := ht.length
  have hr : r.length = 0 := by omega
  rw [List.eq_nil_of_length_eq_zero hr] at ht
  exact ⟨d, ht⟩
theorem Tree.head {l : List Node} {d : Nat} (h : Tree l d) : ∃ x r d', l = x :: r ∧ Trees (parts x.op).toNat r [] d' ∧ d = d' + 1 := by
  unfold Tree at h
  cases h with
  | cons t1 t2 =>
    obtain ⟨rfl, rfl⟩ := t2.zero
    exact ⟨_, _, _, rfl, t1, by omega⟩
/-! What trees are cut into. -/
def cut : Nat → List Node → List (List Node)
  | 0, _ => []
  | n + 1, l => l.take (endFrom l 1 0).toNat :: cut n (l.drop (endFrom l 1 0).toNat)
theorem cut_trees : ∀ {n : Nat} {l r : List Node} {d : Nat}, Trees n l r d → (cut n l).length = n ∧ l = (cut n l).flatten ++ r ∧ (∀ k ∈ cut n l, ∃ dk, Tree k dk ∧ dk ≤ d)
  | 0, l, r, d, h => by obtain ⟨rfl, _⟩ := h.zero; simp [cut]
  | n + 1, l, r, d, h => by
    rw [Nat.add_comm] at h
    obtain ⟨m, d1, d2, t1, t2, rfl⟩ := h.split
    have he := endFrom_trees t1 0 (Nat.le_refl _)
    obtain ⟨p, rfl, hp⟩ := t1.behind
    have he' : endFrom (p ++ m) 1 0 = (p.length : Int) := by
      have : ((1 : Nat) : Int) = 1 := rfl
      rw [this] at he
      rw [he]; simp
    obtain ⟨g1, g2, g3⟩ := cut_trees t2
    have hc : cut (n + 1) (p ++ m) = p :: cut n m := by simp [cut, he']
    rw [hc]
    refine ⟨by simp [g1], by rw [List.flatten_cons, List.append_assoc, ← g2], fun k hk => ?_⟩
    rcases List.mem_cons.1 hk with rfl | hk
    · exact ⟨d1, by have := hp []; simpa [Tree] using this, by omega⟩
    · obtain ⟨dk, h1, h2⟩ := g3 k hk
      exact ⟨dk, h1, by omega⟩

/-- One tree more is cut off at a place. -/
theorem cut_step {l : List Node} {n i : Nat} {r : List Node} {d : Nat} (h : Trees (n + 1) (l.drop i) r d) :
    ∃ s d1 d2, 1 ≤ s ∧ i + s ≤ l.length ∧ endAt l i = ((i + s : Nat) : Int) ∧ cut (n + 1) (l.drop i) = (l.drop i).take s :: cut n (l.drop (i + s)) ∧ Trees n (l.drop (i + s)) r d1 ∧ Tree ((l.drop i).take s) d2 := by
  rw [Nat.add_comm] at h
  obtain ⟨m, d1, d2, t1, t2, rfl⟩ := h.split
  have he0 := endFrom_trees t1 0 (Nat.le_refl _)
  have hei := endFrom_trees t1 i (Nat.le_refl _)
  obtain ⟨p, hp, hpq⟩ := t1.behind
  have hlen := t1.length
  have hpl : (l.drop i).length = p.length + m.length := by rw [hp]; simp
  have hs : (endFrom (l.drop i) 1 0).toNat = p.length := by
    have : ((1 : Nat) : Int) = 1 := rfl
    rw [this] at he0
    rw [he0]; omega
  have hd : (l.drop i).drop p.length = m := by rw [hp]; simp
  have ht : (l.drop i).take p.length = p := by rw [hp]; simp
  rw [List.length_drop] at hpl hlen
  refine ⟨p.length, d2, d1, by omega, by omega, ?_, ?_, ?_, ?_⟩
  · rw [endAt_nat]
    have : ((1 : Nat) : Int) = 1 := rfl
    rw [this] at hei
    rw [hei, List.length_drop]; omega
  · simp only [cut, hs]
    rw [List.drop_drop]
  · rw [← List.drop_drop, hd]; exact t2
  · rw [ht]; have := hpq []; simpa [Tree] using this
/-! How deep: by the places that are open. -/
def dec : List Int → List Int
  | [] => []
  | x :: s => if x - 1 = 0 then dec s else (x - 1) :: s
def push (p : Int) (s : List Int) : List Int := if p = 0 then dec s else p :: s
def norm : List Int → List Int
  | [] => []
  | x :: s => if x = 0 then dec s else x :: s
theorem norm_zero (s : List Int) : norm (0 :: s) = dec s := by simp [norm]
theorem dec_norm (y : Int) (s : List Int) : dec (y :: s) = norm ((y - 1) :: s) := rfl
theorem norm_keep {x : Int} {s : List Int} (h : x ≠ 0) : norm (x :: s) = x :: s := by simp [norm, h]
def deepFold : List Node → List Int → Int → Int
  | [], _, d => d
  | x :: r, s, d => deepFold r (push (parts x.op) s) (max d (s.length + 1))
theorem deepFold_trees {n : Nat} {l r : List Node} {d : Nat} (h : Trees n l r d) : ∀ (t : Int) (s : List Int) (deep : Int), 0 ≤ deep → (n : Int) ≤ t → 1 ≤ t →
    deepFold l (t :: s) deep = deepFold r (if n = 0 then t :: s else push (t - n) s) (if n = 0 then deep else max deep ((s.length : Int) + 1 + d)) := by
  induction h with
  | nil l => intro t s deep _ _ _; simp
  | @cons x l m r n d1 d2 t1 t2 h1 h2 =>
    intro t s deep hd ht ht1
    have hp := parts_toNat x.op
    have hnext : deepFold (x :: l) (t :: s) deep = deepFold m (push (t - 1) s) (max deep ((s.length : Int) + 1 + (d1 + 1 : Nat))) := by
      show deepFold l (push (parts x.op) (t :: s)) (max deep (((t :: s).length : Int) + 1)) = _
      rw [← hp]
      rcases Nat.eq_zero_or_pos (parts x.op).toNat with h0 | h0
      · rw [h0] at t1
        obtain ⟨rfl, rfl⟩ := t1.zero
        rw [h0]
        simp only [push, dec, List.length_cons]
        congr 1
      · have e1 : push (((parts x.op).toNat : Nat) : Int) (t :: s) = ((parts x.op).toNat : Int) :: t :: s := by unfold push; rw [if_neg (by omega)]
        rw [e1, h1 _ (t :: s) _ (by omega) (Int.le_refl _) (by omega), if_neg (by omega), if_neg (by omega)]
        have e2 : push (((parts x.op).toNat : Int) - ((parts x.op).toNat : Nat)) (t :: s) = push (t - 1) s := by
          rw [Int.sub_self]; simp only [push, dec, if_true]
        rw [e2]
        congr 1
        simp only [List.length_cons]; omega
    rw [hnext]
    rcases Nat.eq_zero_or_pos n with rfl | hn
    · obtain ⟨rfl, rfl⟩ := t2.zero
      rw [if_neg (by omega), if_neg (by omega)]
      first | rfl | (congr 1; done) | (congr 1; omega)
    · have e1 : push (t - 1) s = (t - 1) :: s := by unfold push; rw [if_neg (by omega)]
      rw [e1, h2 (t - 1) s _ (by omega) (by omega) (by omega), if_neg (by omega), if_neg (by omega), if_neg (by omega), if_neg (by omega)]
      have e2 : t - 1 - (n : Int) = t - ((n + 1 : Nat) : Int) := by omega
      rw [e2]
      congr 1
      omega
theorem deepFold_tree {l : List Node} {d : Nat} (h : Tree l d) : deepFold l [] 0 = d := by
  obtain ⟨x, r, d', rfl, t, rfl⟩ := h.head
  have hp := parts_toNat x.op
  show deepFold r (push (parts x.op) []) (max 0 ((([] : List Int).length : Int) + 1)) = _
  rw [← hp]
  rcases Nat.eq_zero_or_pos (parts x.op).toNat with h0 | h0
  · rw [h0] at t
    obtain ⟨rfl, rfl⟩ := t.zero
    simp only [deepFold, List.length_nil]; omega
  · have e1 : push (((parts x.op).toNat : Nat) : Int) [] = [((parts x.op).toNat : Int)] := by unfold push; rw [if_neg (by omega)]
    rw [e1, deepFold_trees t _ [] _ (by omega) (Int.le_refl _) (by omega)]
    simp only [deepFold, if_neg (show ¬ (parts x.op).toNat = 0 by omega), List.length_nil]
    omega
/-- How deep a filter is; 0 where it is none. -/
def depth (l : List Node) : Int := if l = [] ∨ endAt l 0 ≠ l.length then 0 else deepFold l [] 0
theorem depth_tree {l : List Node} {d : Nat} (h : Tree l d) : depth l = d := by
  unfold depth
  rw [if_neg (by
    rintro (rfl | h1)
    · have := h.ne; simp at this
    · exact h1 (endAt_tree h)), deepFold_tree h]
theorem depth_cut {n : Nat} {l r : List Node} {d : Nat} (h : Trees n l r d) : ∀ a : Int, 0 ≤ a → ((cut n l).map depth).foldl max a = max a d := by
  induction n generalizing l d with
  | zero => intro a ha; obtain ⟨rfl, rfl⟩ := h.zero; simp [cut]; omega
  | succ n ih =>
    intro a ha
    rw [Nat.add_comm] at h
    obtain ⟨m, d1, d2, t1, t2, rfl⟩ := h.split
    have he := endFrom_trees t1 0 (Nat.le_refl _)
    obtain ⟨p, rfl, hp⟩ := t1.behind
    have he' : endFrom (p ++ m) 1 0 = (p.length : Int) := by
      have : ((1 : Nat) : Int) = 1 := rfl
      rw [this] at he
      rw [he]; simp
    have hc : cut (n + 1) (p ++ m) = p :: cut n m := by simp [cut, he']
    have hd : depth p = d1 := depth_tree (by have := hp []; simpa [Tree] using this)
    rw [hc, List.map_cons, List.foldl_cons, hd, ih t2 _ (by omega)]
    omega
theorem flatten_len {α : Type} : ∀ (ks : List (List α)) (k : List α), k ∈ ks → k.length ≤ ks.flatten.length
  | [], _, h => by cases h
  | x :: r, k, h => by
    rw [List.flatten_cons, List.length_append]
    rcases List.mem_cons.1 h with rfl | h
    · omega
    · have := flatten_len r k h; omega
/-- What is wrong with a filter: 4 too long, 1 none, 5 too deep. -/
def check (l : List Node) : Int :=
  if 31 < l.length then 4 else if l.length = 0 ∨ endAt l 0 ≠ l.length then 1 else if (l.any fun x => !x.ok) = true then 1 else if 8 < depth l then 5 else 0
theorem depth_bd (l : List Node) : 0 ≤ depth l ∧ depth l ≤ l.length := by
  unfold depth
  by_cases h : l = [] ∨ endAt l 0 ≠ l.length
  · rw [if_pos h]; omega
  · rw [if_neg h]
    have h1 : l ≠ [] := fun e => h (.inl e)
    have h2 : endAt l 0 = l.length := Decidable.byContradiction fun e => h (.inr e)
    obtain ⟨d, ht⟩ := tree_of_end h1 h2
    rw [deepFold_tree ht]
    have key : ∀ {n : Nat} {l r : List Node} {d : Nat}, Trees n l r d → d + r.length ≤ l.length := by
      intro n l r d h
      induction h with
      | nil l => simp
      | @cons x l m r n d1 d2 t1 t2 h1 h2 =>
        have := t1.length
        have := t2.length
        simp only [List.length_cons]; omega
    have := key ht
    simp at this
    omega
def firstBad : List Node → Nat → Int
  | [], _ => -1
  | x :: r, i => if x.ok = true then firstBad r (i + 1) else i
theorem firstBad_any : ∀ (l : List Node) (i : Nat), decide (0 ≤ firstBad l i) = l.any fun x => !x.ok
  | [], i => rfl
  | x :: r, i => by
    unfold firstBad
    cases hx : x.ok
    · simp [hx]
    · simp [hx, firstBad_any r (i + 1)]
theorem firstBad_at (l : List Node) (k : Nat) (h : k < l.length) : firstBad (l.drop k) k = if (l[k]).ok = true then firstBad (l.drop (k+1)) (k+1) else (k : Int) := by
  rw [List.drop_eq_getElem_cons h]; rfl
end Go.Proofs.Ytldoedmclfbgpaa
namespace Go.Proofs.Ytldoedmclfbgpaa
open Go.RowKit

def joined (op : Int) (l : List Node) : List Node := ⟨op, 0, ⟨0, 0, []⟩⟩ :: l
theorem Tree.ahead {a : List Node} {d : Nat} (h : Tree a d) (q : List Node) : Trees 1 (a ++ q) q d := by
  obtain ⟨p, hp, hq⟩ := Trees.behind h
  rw [List.append_nil] at hp
  subst hp
  exact hq q
theorem tree_of_check {l : List Node} (h : check l = 0) : ∃ d, Tree l d ∧ depth l = d ∧ (l.any fun x => !x.ok) = false ∧ l.length ≤ 31 := by
  unfold check at h
  split at h
  · cases h
  · rename_i h1
    split at h
    · cases h
    · rename_i h2
      split at h
      · cases h
      · rename_i h3
        have hne : l ≠ [] := fun e => h2 (.inl (by rw [e]; rfl))
        have hend : endAt l 0 = l.length := by
          rcases Decidable.em (endAt l 0 = l.length) with h | h
          · exact h
          · exact absurd (.inr h) h2
        obtain ⟨d, ht⟩ := tree_of_end hne hend
        exact ⟨d, ht, depth_tree ht, by simpa using h3, by omega⟩
end Go.Proofs.Ytldoedmclfbgpaa
namespace Go.Proofs.Ytldoedmclfbgpaa

inductive Tr where
  | leaf (x : Node)
  | one (x : Node) (a : Tr)
  | two (x : Node) (a b : Tr)
def Tr.flat : Tr → List Node
  | .leaf x => [x]
  | .one x a => x :: a.flat
  | .two x a b => x :: (a.flat ++ b.flat)
def Tr.wf : Tr → Prop
  | .leaf x => parts x.op = 0
  | .one x a => x.op = 10 ∧ a.wf
  | .two x a b => (x.op = 11 ∨ x.op = 12) ∧ a.wf ∧ b.wf
def Tr.dep : Tr → Nat
  | .leaf _ => 1
  | .one _ a => a.dep + 1
  | .two _ a b => max a.dep b.dep + 1
def Tr.head : Tr → Node
  | .leaf x => x
  | .one x _ => x
  | .two x _ _ => x
theorem parts_one {op : Int} : parts op = 1 ↔ op = 10 := by
  unfold parts
  split
  · simp; assumption
  · split <;> simp <;> assumption
theorem parts_two {op : Int} : parts op = 2 ↔ (op = 11 ∨ op = 12) := by
  unfold parts
  split
  · simp; omega
  · split
    · simp; assumption
    · simp; omega
theorem Tr.tree : ∀ (t : Tr), t.wf → Tree t.flat t.dep
  | .leaf x, h => by
    have h0 : (parts x.op).toNat = 0 := by have : parts x.op = 0 := h; omega
    have := Trees.cons (x := x) (l := []) (m := []) (r := []) (n := 0) (d1 := 0) (d2 := 0) (by rw [h0]; exact .nil []) (.nil [])
    rw [Nat.max_eq_left (Nat.zero_le _)] at this
    exact this
  | .one x a, h => by
    have ha := Tr.tree a h.2
    have h0 : (parts x.op).toNat = 1 := by have := parts_one.2 h.1; omega
    have := Trees.cons (x := x) (l := a.flat) (m := []) (r := []) (n := 0) (d1 := a.dep) (d2 := 0) (by rw [h0]; exact ha) (.nil [])
    rw [Nat.max_eq_left (Nat.zero_le _)] at this
    exact this
  | .two x a b, h => by
    have ha := Tr.tree a h.2.1
    have hb := Tr.tree b h.2.2
    have h0 : (parts x.op).toNat = 2 := by have := parts_two.2 h.1; omega
    have h2 : Trees (1 + 1) (a.flat ++ b.flat) [] (max a.dep b.dep) := Trees.append (ha.ahead b.flat) hb
    have := Trees.cons (x := x) (l := a.flat ++ b.flat) (m := []) (r := []) (n := 0) (d1 := max a.dep b.dep) (d2 := 0) (by rw [h0]; exact h2) (.nil [])
    rw [Nat.max_eq_left (Nat.zero_le _)] at this
    exact this
theorem Tr.of_trees {n : Nat} {l r : List Node} {d : Nat} (h : Trees n l r d) : ∃ ts : List Tr, ts.length = n ∧ (∀ t ∈ ts, t.wf) ∧ l = ts.flatMap Tr.flat ++ r := by
  induction h with
  | nil l => exact ⟨[], rfl, by simp, by simp⟩
  | @cons x l m r n d1 d2 _ _ h1 h2 =>
    obtain ⟨us, u1, u2, u3⟩ := h1
    obtain ⟨ts, t1, t2, t3⟩ := h2
    have hp := parts_bd x.op
    have key : ∃ t : Tr, t.wf ∧ t.flat = x :: us.flatMap Tr.flat := by
      match us, u1, u2 with
      | [], u1, u2 => exact ⟨.leaf x, by show parts x.op = 0; simp at u1; omega, rfl⟩
      | [a], u1, u2 => exact ⟨.one x a, ⟨parts_one.1 (by simp at u1; omega), u2 a (by simp)⟩, by simp [Tr.flat]⟩
      | [a, b], u1, u2 => exact ⟨.two x a b, ⟨parts_two.1 (by simp at u1; omega), u2 a (by simp), u2 b (by simp)⟩, by simp [Tr.flat]⟩
      | _ :: _ :: _ :: _, u1, u2 => simp at u1; omega
    obtain ⟨t, k1, k2⟩ := key
    refine ⟨t :: ts, by simp [t1], fun u hu => ?_, ?_⟩
    · rcases List.mem_cons.1 hu with rfl | hu
      · exact k1
      · exact t2 u hu
    · rw [List.flatMap_cons, k2, u3, t3]; simp
theorem Tr.of_tree {l : List Node} {d : Nat} (h : Tree l d) : ∃ t : Tr, t.wf ∧ t.flat = l := by
  obtain ⟨ts, t1, t2, t3⟩ := Tr.of_trees h
  match ts, t1, t2 with
  | [t], _, t2 => exact ⟨t, t2 t (by simp), by rw [t3]; simp⟩
theorem Tr.of_check {l : List Node} (h : check l = 0) : ∃ t : Tr, t.wf ∧ t.flat = l ∧ l.length ≤ 31 ∧ ∀ x ∈ l, x.ok = true := by
  obtain ⟨d, h1, _, h3, h4⟩ := tree_of_check h
  obtain ⟨t, t1, t2⟩ := Tr.of_tree h1
  refine ⟨t, t1, t2, h4, fun x hx => ?_⟩
  have := List.any_eq_false.1 h3 x hx
  simpa using this
theorem Tr.flat_len (t : Tr) : 1 ≤ t.flat.length := by cases t <;> simp [Tr.flat]
/-- What is asked of the contract of a tree's parts. -/
theorem Tr.rest : ∀ {t : Tr}, t.wf → ∃ d, Trees (parts t.head.op).toNat (t.flat.drop 1) [] d
  | .leaf x, h => ⟨0, by have h0 : (parts x.op).toNat = 0 := by { have : parts x.op = 0 := h; omega }; show Trees (parts x.op).toNat [] [] 0; rw [h0]; exact .nil []⟩
  | .one x a, h => ⟨a.dep, by have h0 : (parts x.op).toNat = 1 := by { have := parts_one.2 h.1; omega }; show Trees (parts x.op).toNat a.flat [] a.dep; rw [h0]; exact a.tree h.2⟩
  | .two x a b, h => ⟨max a.dep b.dep, by
      have h0 : (parts x.op).toNat = 2 := by have := parts_two.2 h.1; omega
      show Trees (parts x.op).toNat (a.flat ++ b.flat) [] (max a.dep b.dep)
      rw [h0]
      exact Trees.append ((a.tree h.2.1).ahead b.flat) (b.tree h.2.2)⟩
end Go.Proofs.Ytldoedmclfbgpaa
namespace Go.Proofs.Ytldoedmclfbgpaa
open Go.RowKit

/-! Lists of numbers. -/
/-! Bits. -/
theorem and_u32 (a b : Nat) (ha : a < 4294967296) (hb : b < 4294967296) : bits .and .u32 (a : Int) (b : Int) = ((a &&& b : Nat) : Int) := bits_and_u32_nat a b ha hb
theorem or_u32 (a b : Nat) (ha : a < 4294967296) (hb : b < 4294967296) : bits .or .u32 (a : Int) (b : Int) = ((a ||| b : Nat) : Int) := by
  have hx : a ||| b < 2 ^ 32 := Nat.or_lt_two_pow (by omega) (by omega)
  have h1 : (BitVec.ofInt 32 (a : Int)).toNat = a := by
    rw [BitVec.ofInt_natCast, BitVec.toNat_ofNat]; exact Nat.mod_eq_of_lt (by omega)
  have h2 : (BitVec.ofInt 32 (b : Int)).toNat = b := by
    rw [BitVec.ofInt_natCast, BitVec.toNat_ofNat]; exact Nat.mod_eq_of_lt (by omega)
  show IntKind.u32.wrap ((BitVec.ofInt 32 (a : Int) ||| BitVec.ofInt 32 (b : Int)).toNat : Int) = _
  rw [BitVec.toNat_or, h1, h2, wrap_u32']
  omega
/-- A number's bit. -/
def bitN (n : Int) : Nat := if 0 ≤ n ∧ n ≤ 31 then 2 ^ n.toNat else 0
theorem bitN_nat {n : Nat} (h : n ≤ 31) : bitN n = 2 ^ n := by unfold bitN; rw [if_pos (by omega)]; rfl
theorem bitN_lt (n : Int) : bitN n < 4294967296 := by
  unfold bitN; split
  · have : (2 : Nat) ^ n.toNat < 2 ^ 32 := Nat.pow_lt_pow_right (by omega) (by omega)
    omega
  · omega
theorem has_div (m n : Nat) : m.testBit n = decide (m / 2 ^ n % 2 = 1) := Nat.testBit_eq_decide_div_mod_eq

/-! The program's. -/
set_option maxHeartbeats 400000 in
theorem c_bits_bit (n : Nat) (w : World) (hn : n ≤ 31) : Calls Try.prog 117 #[.int .i64 n] w (RetV w (.int .u32 (bitN n))) := by
  have H : Hid (bitN n = 2 ^ n) := bitN_nat hn
  have h0 : (decide ((n : Int) < 0)) = false := by simp
  have h31 : (decide ((31 : Int) < n)) = false := by simp; omega
  go_enter Try.func117, Try.ntmps117
  go_wp2
  go_ret
  refine RetV.int ?_ (by repeat (first | exact Below.refl _ _ | refine Below.drew ?_ | refine Below.alloc ?_ (by first | omega | (simp; done) | (simp; omega)) _ | refine Below.setCell ?_ (by first | omega | (simp; done) | (simp; omega)) _ | refine Below.trans ?_ (Below.mono (by assumption) (by first | omega | (simp; done) | (simp; omega)))))
  rw [H.out]
  have hp : (2 : Nat) ^ n < 2 ^ 32 := Nat.pow_lt_pow_right (by omega) (by omega)
  have e : (2 : Int) ^ n = ((2 ^ n : Nat) : Int) := by simp
  rw [e]
  generalize (2 : Nat) ^ n = q at hp ⊢
  exact Int.emod_eq_of_lt (Int.natCast_nonneg _) (by omega)
/-! The reference's. -/
set_option maxHeartbeats 400000 in
theorem c_ref03_Has (m n : Nat) (hm : m < 4294967296) (hn : n ≤ 31) (w : World) : Calls Try.prog 37 #[.int .u32 m, .int .i64 n] w (RetV w (.bool (m.testBit n))) := by
  have h0 : (decide ((n : Int) < 0)) = false := by simp
  have h31 : (decide ((31 : Int) < n)) = false := by simp; omega
  have hd0 : m / 2 ^ 0 = m := by simp
  go_enter Try.func37, Try.ntmps37
  go_wp2
  go_loop [0, 5] (fun s i => ∃ k : Nat, k ≤ n ∧ i = .int .i64 k ∧ s = .int .u32 (m / 2 ^ k : Nat)) (fun _ i => n - (intOf i).toNat)
  case atStart => exact ⟨0, Nat.zero_le _, rfl, by rw [hd0]⟩
  case round =>
    obtain ⟨k, hk, rfl, rfl⟩ := hrel
    clear hd0
    have hle : m / 2 ^ k ≤ m := Nat.div_le_self _ _
    have hle' : ((m / 2 ^ k : Nat) : Int) ≤ 4294967295 := by omega
    by_cases hlt : k < n
    · have H := Lib.hid (show m / 2 ^ (k + 1) = m / 2 ^ k / 2 by rw [Nat.pow_succ, Nat.div_div_eq_div_mul])
      obtain ⟨q, hq⟩ : ∃ q, q = m / 2 ^ k := ⟨_, rfl⟩
      rw [← hq] at hle hle'
      have Q := Lib.hid hq
      rw [← hq]
      clear hq
      go_wp2
      go_round
      case rel => exact ⟨k + 1, by omega, by go_num, by rw [H.out, ← Q.out]; first | rfl | (congr 1; omega)⟩
      case measure => simp [intOf]; omega
    · have : k = n := by omega
      subst this
      have H := Lib.hid (has_div m k)
      obtain ⟨q, hq⟩ : ∃ q, q = m / 2 ^ k := ⟨_, rfl⟩
      rw [← hq] at hle hle'
      have Q := Lib.hid hq
      rw [← hq]
      clear hq
      go_wp2
      go_ret
      refine RetV.bool ?_ (by repeat (first | exact Below.refl _ _ | refine Below.drew ?_ | refine Below.alloc ?_ (by first | omega | (simp; done) | (simp; omega)) _ | refine Below.setCell ?_ (by first | omega | (simp; done) | (simp; omega)) _ | refine Below.trans ?_ (Below.mono (by assumption) (by first | omega | (simp; done) | (simp; omega)))))
      rw [H.out, ← Q.out]
      rw [Bool.eq_iff_iff]; simp; try omega
set_option maxHeartbeats 400000 in
theorem c_ref03_One (n : Nat) (hn : n ≤ 31) (w : World) : Calls Try.prog 72 #[.int .i64 n] w (RetV w (.int .u32 ((2 ^ n : Nat) : Int))) := by
  have h0 : (decide ((n : Int) < 0)) = false := by simp
  have h31 : (decide ((31 : Int) < n)) = false := by simp; omega
  go_enter Try.func72, Try.ntmps72
  go_wp2
  go_loop [3, 4] (fun s i => ∃ k : Nat, k ≤ n ∧ i = .int .i64 k ∧ s = .int .u32 (2 ^ k : Nat)) (fun _ i => n - (intOf i).toNat)
  case atStart => exact ⟨0, Nat.zero_le _, rfl, rfl⟩
  case round =>
    obtain ⟨k, hk, rfl, rfl⟩ := hrel
    by_cases hlt : k < n
    · have H := Lib.hid (show 2 ^ (k + 1) = 2 ^ k * 2 from Nat.pow_succ ..)
      have hp : (2 : Nat) ^ (k + 1) ≤ 2 ^ 31 := Nat.pow_le_pow_right (by omega) (by omega)
      obtain ⟨q, hq⟩ : ∃ q : Nat, q = 2 ^ k := ⟨_, rfl⟩
      have hq2 : (q : Int) * 2 ≤ 2147483648 := by rw [H.out, ← hq] at hp; omega
      have Q := Lib.hid hq
      rw [← hq]
      clear hq hp
      go_wp2
      go_round
      case rel => exact ⟨k + 1, by omega, by go_num, by rw [H.out, ← Q.out]; first | rfl | (congr 1; omega)⟩
      case measure => simp [intOf]; omega
    · have : k = n := by omega
      subst this
      obtain ⟨q, hq⟩ : ∃ q : Nat, q = 2 ^ k := ⟨_, rfl⟩
      have Q := Lib.hid hq
      rw [← hq]
      clear hq
      go_wp2
      go_ret
      exact RetV.int (show (q : Int) = ((2 ^ k : Nat) : Int) by rw [Q.out]) (by repeat (first | exact Below.refl _ _ | refine Below.drew ?_ | refine Below.alloc ?_ (by first | omega | (simp; done) | (simp; omega)) _ | refine Below.setCell ?_ (by first | omega | (simp; done) | (simp; omega)) _ | refine Below.trans ?_ (Below.mono (by assumption) (by first | omega | (simp; done) | (simp; omega)))))
theorem c_ref05_Labels (m : Nat) (hm : m < 4294967296) (w : World) : Calls Try.prog 70 #[.int .u32 m] w (RetV w (.bool (m.testBit 8))) := by
  go_enter Try.func70, Try.ntmps70
  go_wp2_with (go_at_call 37; refine (c_ref03_Has m 8 hm (by omega) _).mono ?_; rintro e w1 ⟨rfl, hb1⟩)
  go_ret
  exact RetV.of rfl hb1
end Go.Proofs.Ytldoedmclfbgpaa
namespace Go.Proofs.Ytldoedmclfbgpaa

/-! Numbers. -/
def intF : Nat → List UInt8 → Option Nat
  | n, [] => some n
  | n, c :: s => if 48 ≤ c.toNat ∧ c.toNat ≤ 57 then intF (10 * n + (c.toNat - 48)) s else none
/-! Texts in quotes. -/
end Go.Proofs.Ytldoedmclfbgpaa
namespace Go.Proofs.Ytldoedmclfbgpaa

theorem or_pow : ∀ (n s : Nat), s.testBit n = false → s ||| 2 ^ n = s + 2 ^ n
  | 0, s, h => by
    have hm : s % 2 = 0 := by
      rw [Nat.testBit_zero] at h
      have : ¬ s % 2 = 1 := by simpa using h
      omega
    have d : (s ||| 2 ^ 0) / 2 = s / 2 := by rw [Nat.or_div_two]; simp
    have m : (s ||| 2 ^ 0) % 2 = 1 := Nat.or_mod_two_eq_one.2 (.inr rfl)
    have e : 2 ^ 0 = 1 := rfl
    omega
  | n + 1, s, h => by
    have ih := or_pow n (s / 2) (by rw [Nat.testBit_succ] at h; exact h)
    have e : 2 ^ (n + 1) = 2 ^ n * 2 := Nat.pow_succ ..
    have d : (s ||| 2 ^ (n + 1)) / 2 = s / 2 ||| 2 ^ n := by rw [Nat.or_div_two, e, Nat.mul_div_cancel _ (by omega)]
    have m : (s ||| 2 ^ (n + 1)) % 2 = s % 2 := by
      have hi : (s ||| 2 ^ (n + 1)) % 2 = 1 ↔ s % 2 = 1 ∨ 2 ^ (n + 1) % 2 = 1 := Nat.or_mod_two_eq_one
      have h2 : 2 ^ (n + 1) % 2 = 0 := by omega
      rcases Nat.mod_two_eq_zero_or_one s with h3 | h3 <;> rcases Nat.mod_two_eq_zero_or_one (s ||| 2 ^ (n + 1)) with h4 | h4 <;> omega
    omega
theorem and_pow (s n : Nat) : s &&& 2 ^ n = if s.testBit n then 2 ^ n else 0 := by
  refine Nat.eq_of_testBit_eq fun i => ?_
  rw [Nat.testBit_and, Nat.testBit_two_pow]
  by_cases h : n = i
  · subst h; cases hb : s.testBit n <;> simp
  · cases hb : s.testBit n <;> simp [h]
theorem clr_bit (s n i : Nat) (hs : s < 4294967296) (hn : n < 32) : (s &&& (4294967295 - 2 ^ n)).testBit i = (s.testBit i && !decide (n = i)) := by
  have hp : (2 : Nat) ^ n < 2 ^ 32 := Nat.pow_lt_pow_right (by omega) (by omega)
  have e : 4294967295 - 2 ^ n = 2 ^ 32 - (2 ^ n + 1) := by omega
  rw [Nat.testBit_and, e, Nat.testBit_two_pow_sub_succ hp, Nat.testBit_two_pow]
  by_cases hi : i < 32
  · simp [hi]
  · have : s.testBit i = false := Nat.testBit_lt_two_pow (Nat.lt_of_lt_of_le hs (Nat.pow_le_pow_right (n := 2) (by omega) (Nat.le_of_not_lt hi)))
    simp [this]
theorem clr_pow (s n : Nat) (hs : s < 4294967296) (hn : n < 32) : s &&& (4294967295 - 2 ^ n) = if s.testBit n then s - 2 ^ n else s := by
  have hb := fun i => clr_bit s n i hs hn
  cases h : s.testBit n
  · simp only [Bool.false_eq_true, if_false]
    refine Nat.eq_of_testBit_eq fun i => ?_
    rw [hb]
    by_cases hi : n = i
    · subst hi; rw [h]; rfl
    · simp [hi]
  · simp only [if_true]
    have h1 : (s &&& (4294967295 - 2 ^ n)) ||| 2 ^ n = s := by
      refine Nat.eq_of_testBit_eq fun i => ?_
      rw [Nat.testBit_or, hb, Nat.testBit_two_pow]
      by_cases hi : n = i
      · subst hi; simp [h]
      · simp [hi]
    have h2 := or_pow n (s &&& (4294967295 - 2 ^ n)) (by rw [hb]; simp)
    omega
/-- Are all of one in another one? -/
def within (a b : Nat) : Bool := (List.range 32).all fun i => !a.testBit i || b.testBit i
end Go.Proofs.Ytldoedmclfbgpaa
namespace Go.Proofs.Ytldoedmclfbgpaa
open Go.RowKit

theorem bitN_out {n : Int} (h : ¬ (0 ≤ n ∧ n ≤ 31)) : bitN n = 0 := by unfold bitN; rw [if_neg h]
/-- Is a number in a set? -/
def hasB (s : Nat) (n : Int) : Bool := decide (0 ≤ n ∧ n ≤ 31) && s.testBit n.toNat
theorem hasB_out {s : Nat} {n : Int} (h : ¬ (0 ≤ n ∧ n ≤ 31)) : hasB s n = false := by unfold hasB; rw [decide_eq_false h]; rfl
theorem hasB_nat (s : Nat) {n : Nat} (h : n ≤ 31) : hasB s n = s.testBit n := by unfold hasB; rw [decide_eq_true (by omega)]; simp
theorem and_bitN (s : Nat) (n : Int) : s &&& bitN n = if hasB s n then bitN n else 0 := by
  by_cases h : 0 ≤ n ∧ n ≤ 31
  · obtain ⟨k, rfl⟩ : ∃ k : Nat, n = k := ⟨n.toNat, by omega⟩
    rw [hasB_nat s (by omega), bitN_nat (by omega), and_pow]
  · rw [bitN_out h, hasB_out h]; simp
theorem and_bitN_zero (s : Nat) (n : Int) : (((s &&& bitN n : Nat) : Int) == 0) = !hasB s n := by
  rw [and_bitN]
  cases h : hasB s n
  · simp
  · have : bitN n ≠ 0 := by
      intro e
      unfold hasB at h
      simp only [Bool.and_eq_true, decide_eq_true_eq] at h
      unfold bitN at e
      rw [if_pos h.1] at e
      exact absurd e (Nat.ne_of_gt (Nat.two_pow_pos _))
    simp [this]
theorem or_bitN (s : Nat) (n : Int) : (if hasB s n then s else s + bitN n) = s ||| bitN n := by
  by_cases h : 0 ≤ n ∧ n ≤ 31
  · obtain ⟨k, rfl⟩ : ∃ k : Nat, n = k := ⟨n.toNat, by omega⟩
    rw [hasB_nat s (by omega), bitN_nat (by omega)]
    cases hb : s.testBit k
    · simp only [Bool.false_eq_true, if_false]
      exact (or_pow k s hb).symm
    · simp only [if_true]
      refine (Nat.eq_of_testBit_eq fun i => ?_).symm
      rw [Nat.testBit_or, Nat.testBit_two_pow]
      by_cases hi : k = i
      · subst hi; simp [hb]
      · simp [hi]
  · rw [bitN_out h, hasB_out h]; simp
theorem clr_bitN (s : Nat) (n : Int) (hs : s < 4294967296) : (if hasB s n then s - bitN n else s) = s &&& (4294967295 - bitN n) := by
  by_cases h : 0 ≤ n ∧ n ≤ 31
  · obtain ⟨k, rfl⟩ : ∃ k : Nat, n = k := ⟨n.toNat, by omega⟩
    rw [hasB_nat s (by omega), bitN_nat (by omega), clr_pow s k hs (by omega)]
  · rw [bitN_out h, hasB_out h]
    have : s &&& 4294967295 = s := by
      have := Nat.and_two_pow_sub_one_eq_mod s 32
      rw [show (2 : Nat) ^ 32 - 1 = 4294967295 from rfl] at this
      rw [this]
      exact Nat.mod_eq_of_lt hs
    simp [this]
theorem bitN_has {s : Nat} {n : Int} (h : hasB s n = true) : bitN n ≤ s := by
  have := and_bitN s n
  rw [h, if_pos rfl] at this
  rw [← this]
  exact Nat.and_le_left
/-! The program's. -/
set_option maxHeartbeats 400000 in
theorem c_bits_bitA (n : Int) (w : World) : Calls Try.prog 117 #[.int .i64 n] w (RetV w (.int .u32 (bitN n))) := by
  by_cases h : 0 ≤ n ∧ n ≤ 31
  · obtain ⟨k, rfl⟩ : ∃ k : Nat, n = k := ⟨n.toNat, by omega⟩
    exact c_bits_bit k w (by omega)
  · rw [bitN_out h]
    by_cases h0 : n < 0
    · have d0 : decide (n < 0) = true := by simpa using h0
      clear h h0
      go_enter Try.func117, Try.ntmps117
      go_wp2_with (fail)
      go_ret
      exact RetV.int rfl (by repeat (first | exact Below.refl _ _ | refine Below.drew ?_ | refine Below.alloc ?_ (by first | omega | (simp; done) | (simp; omega)) _ | refine Below.setCell ?_ (by first | omega | (simp; done) | (simp; omega)) _ | refine Below.trans ?_ (Below.mono (by assumption) (by first | omega | (simp; done) | (simp; omega)))))
    · have d0 : decide (n < 0) = false := by simpa using h0
      have d1 : decide (31 < n) = true := by simp; omega
      clear h h0
      go_enter Try.func117, Try.ntmps117
      go_wp2_with (fail)
      go_ret
      exact RetV.int rfl (by repeat (first | exact Below.refl _ _ | refine Below.drew ?_ | refine Below.alloc ?_ (by first | omega | (simp; done) | (simp; omega)) _ | refine Below.setCell ?_ (by first | omega | (simp; done) | (simp; omega)) _ | refine Below.trans ?_ (Below.mono (by assumption) (by first | omega | (simp; done) | (simp; omega)))))
set_option maxHeartbeats 400000 in
theorem c_bits_Has (s : Nat) (n : Int) (hs : s < 4294967296) (w : World) : Calls Try.prog 144 #[.int .u32 s, .int .i64 n] w (RetV w (.bool (hasB s n))) := by
  have ho : bits .and .u32 (s : Int) (bitN n : Int) = ((s &&& bitN n : Nat) : Int) := and_u32 s _ hs (bitN_lt n)
  have H := Lib.hid (and_bitN_zero s n)
  go_enter Try.func144, Try.ntmps144
  go_wp2_with (go_at_call 117; refine (c_bits_bitA n _).mono ?_; rintro e w1 ⟨rfl, hb1⟩)
  go_ret
  refine RetV.bool ?_ hb1
  have := H.out
  cases h : hasB s n <;> simp_all
set_option maxHeartbeats 400000 in
theorem c_bits_With (s : Nat) (n : Int) (hs : s < 4294967296) (w : World) : Calls Try.prog 67 #[.int .u32 s, .int .i64 n] w (RetV w (.int .u32 (s ||| bitN n : Nat))) := by
  have ho : bits .or .u32 (s : Int) (bitN n : Int) = ((s ||| bitN n : Nat) : Int) := or_u32 s _ hs (bitN_lt n)
  go_enter Try.func67, Try.ntmps67
  go_wp2_with (go_at_call 117; refine (c_bits_bitA n _).mono ?_; rintro e w1 ⟨rfl, hb1⟩)
  go_ret
  exact RetV.int rfl hb1
/-! The reference's. -/
set_option maxHeartbeats 400000 in
theorem c_ref03_HasA (s : Nat) (n : Int) (hs : s < 4294967296) (w : World) : Calls Try.prog 37 #[.int .u32 s, .int .i64 n] w (RetV w (.bool (hasB s n))) := by
  by_cases h : 0 ≤ n ∧ n ≤ 31
  · obtain ⟨k, rfl⟩ : ∃ k : Nat, n = k := ⟨n.toNat, by omega⟩
    rw [hasB_nat s (by omega)]
    exact c_ref03_Has s k hs (by omega) w
  · rw [hasB_out h]
    by_cases h0 : n < 0
    · have d0 : decide (n < 0) = true := by simpa using h0
      clear h h0
      go_enter Try.func37, Try.ntmps37
      go_wp2_with (fail)
      go_ret
      exact RetV.bool rfl (by repeat (first | exact Below.refl _ _ | refine Below.drew ?_ | refine Below.alloc ?_ (by first | omega | (simp; done) | (simp; omega)) _ | refine Below.setCell ?_ (by first | omega | (simp; done) | (simp; omega)) _ | refine Below.trans ?_ (Below.mono (by assumption) (by first | omega | (simp; done) | (simp; omega)))))
    · have d0 : decide (n < 0) = false := by simpa using h0
      have d1 : decide (31 < n) = true := by simp; omega
      clear h h0
      go_enter Try.func37, Try.ntmps37
      go_wp2_with (fail)
      go_ret
      exact RetV.bool rfl (by repeat (first | exact Below.refl _ _ | refine Below.drew ?_ | refine Below.alloc ?_ (by first | omega | (simp; done) | (simp; omega)) _ | refine Below.setCell ?_ (by first | omega | (simp; done) | (simp; omega)) _ | refine Below.trans ?_ (Below.mono (by assumption) (by first | omega | (simp; done) | (simp; omega)))))
set_option maxHeartbeats 400000 in
theorem c_ref03_OneA (n : Int) (w : World) : Calls Try.prog 72 #[.int .i64 n] w (RetV w (.int .u32 (bitN n))) := by
  by_cases h : 0 ≤ n ∧ n ≤ 31
  · obtain ⟨k, rfl⟩ : ∃ k : Nat, n = k := ⟨n.toNat, by omega⟩
    rw [bitN_nat (by omega)]
    exact c_ref03_One k (by omega) w
  · rw [bitN_out h]
    by_cases h0 : n < 0
    · have d0 : decide (n < 0) = true := by simpa using h0
      clear h h0
      go_enter Try.func72, Try.ntmps72
      go_wp2_with (fail)
      go_ret
      exact RetV.int rfl (by repeat (first | exact Below.refl _ _ | refine Below.drew ?_ | refine Below.alloc ?_ (by first | omega | (simp; done) | (simp; omega)) _ | refine Below.setCell ?_ (by first | omega | (simp; done) | (simp; omega)) _ | refine Below.trans ?_ (Below.mono (by assumption) (by first | omega | (simp; done) | (simp; omega)))))
    · have d0 : decide (n < 0) = false := by simpa using h0
      have d1 : decide (31 < n) = true := by simp; omega
      clear h h0
      go_enter Try.func72, Try.ntmps72
      go_wp2_with (fail)
      go_ret
      exact RetV.int rfl (by repeat (first | exact Below.refl _ _ | refine Below.drew ?_ | refine Below.alloc ?_ (by first | omega | (simp; done) | (simp; omega)) _ | refine Below.setCell ?_ (by first | omega | (simp; done) | (simp; omega)) _ | refine Below.trans ?_ (Below.mono (by assumption) (by first | omega | (simp; done) | (simp; omega)))))
set_option maxHeartbeats 400000 in
theorem c_ref03_WithA (s : Nat) (n : Int) (hs : s < 4294967296) (w : World) : Calls Try.prog 38 #[.int .u32 s, .int .i64 n] w (RetV w (.int .u32 (s ||| bitN n : Nat))) := by
  have hlt : s ||| bitN n < 4294967296 := Nat.or_lt_two_pow (n := 32) hs (bitN_lt n)
  have HO := or_bitN s n
  cases h : hasB s n
  · rw [h] at HO
    simp only [Bool.false_eq_true, if_false] at HO
    rw [← HO] at hlt ⊢
    have HH := Lib.hid (show ∀ w', Calls Try.prog 37 #[.int .u32 s, .int .i64 n] w' (RetV w' (.bool false)) from fun w' => by have := c_ref03_HasA s n hs w'; rw [h] at this; exact this)
    clear HO h
    have hbi : (s : Int) + (bitN n : Int) < 4294967296 := by omega
    go_enter Try.func38, Try.ntmps38
    go_wp2_with (fail)
    refine (HH.out _).mono ?_
    rintro e w1 ⟨rfl, hb1⟩
    have hz1 := hb1.size
    go_wp2_with (fail)
    refine (c_ref03_OneA n _).mono ?_
    rintro e w2 ⟨rfl, hb2⟩
    go_wp2_with (fail)
    go_ret
    exact RetV.int (by omega) (hb1.trans (hb2.mono hz1))
  · rw [h] at HO
    simp only [if_true] at HO
    rw [← HO]
    have HH := Lib.hid (show ∀ w', Calls Try.prog 37 #[.int .u32 s, .int .i64 n] w' (RetV w' (.bool true)) from fun w' => by have := c_ref03_HasA s n hs w'; rw [h] at this; exact this)
    clear HO h
    go_enter Try.func38, Try.ntmps38
    go_wp2_with (fail)
    refine (HH.out _).mono ?_
    rintro e w1 ⟨rfl, hb1⟩
    go_wp2_with (fail)
    go_ret
    exact RetV.int rfl hb1
set_option maxHeartbeats 400000 in
theorem c_ref03_Without (s : Nat) (n : Int) (hs : s < 4294967296) (w : World) : Calls Try.prog 36 #[.int .u32 s, .int .i64 n] w (RetV w (.int .u32 (s &&& (4294967295 - bitN n) : Nat))) := by
  have HO := clr_bitN s n hs
  rw [← HO]
  cases h : hasB s n
  · simp only [Bool.false_eq_true, if_false]
    have HH := Lib.hid (show ∀ w', Calls Try.prog 37 #[.int .u32 s, .int .i64 n] w' (RetV w' (.bool false)) from fun w' => by have := c_ref03_HasA s n hs w'; rw [h] at this; exact this)
    clear HO h
    go_enter Try.func36, Try.ntmps36
    go_wp2_with (fail)
    refine (HH.out _).mono ?_
    rintro e w1 ⟨rfl, hb1⟩
    go_wp2_with (fail)
    go_ret
    exact RetV.int rfl hb1
  · have hle := bitN_has h
    simp only [if_true]
    have HH := Lib.hid (show ∀ w', Calls Try.prog 37 #[.int .u32 s, .int .i64 n] w' (RetV w' (.bool true)) from fun w' => by have := c_ref03_HasA s n hs w'; rw [h] at this; exact this)
    clear HO h
    have hbi : (0 : Int) ≤ (s : Int) - (bitN n : Int) := by omega
    have hbj : (s : Int) - (bitN n : Int) < 4294967296 := by omega
    go_enter Try.func36, Try.ntmps36
    go_wp2_with (fail)
    refine (HH.out _).mono ?_
    rintro e w1 ⟨rfl, hb1⟩
    have hz1 := hb1.size
    go_wp2_with (fail)
    refine (c_ref03_OneA n _).mono ?_
    rintro e w2 ⟨rfl, hb2⟩
    go_wp2_with (fail)
    go_ret
    exact RetV.int (by omega) (hb1.trans (hb2.mono hz1))
end Go.Proofs.Ytldoedmclfbgpaa
namespace Go.Proofs.Ytldoedmclfbgpaa
open Go.RowKit

theorem stop_conv {P : Program} {w : World} {ops : Array Oper} {rest : List Oper} {o : Oper} {a : Act} {Q : Exit → Act → World → Prop} (src dst : TypeId) (x : Operand) (_ : o.guard = none) (_ : o.op = .convert src dst x) (h : Stop (wpList P ops Q (o :: rest) a w)) : wpList P ops Q (o :: rest) a w := h
end Go.Proofs.Ytldoedmclfbgpaa
namespace Go.Proofs.Ytldoedmclfbgpaa
open Go.RowKit

/-- How far a number's text has been read. -/
def IntAt (s : List UInt8) (k n : Nat) : Prop := intF 0 s = intF n (s.drop k) ∧ n < 10 ^ k
theorem IntAt.start (s : List UInt8) : IntAt s 0 0 := ⟨rfl, by simp⟩
theorem IntAt.done {s : List UInt8} {n : Nat} (h : IntAt s s.length n) : intF 0 s = some n := by
  rw [h.1, List.drop_length, intF]
end Go.Proofs.Ytldoedmclfbgpaa
namespace Go.Proofs.Ytldoedmclfbgpaa
open Go.RowKit

section
variable {P : Program} {w : World}
end
theorem gV : Try.prog.eqGuardType Try.prog.depth 36 = false := by kernel_rfl
end Go.Proofs.Ytldoedmclfbgpaa
