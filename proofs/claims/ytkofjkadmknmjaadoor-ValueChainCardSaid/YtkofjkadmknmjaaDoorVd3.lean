/-
  Lemmas (walks and plain laws), in one text.
-/
import Derived.Test.YtkofjkadmknmjaaDoorVd2
import Derived.Test.YtkofjkadmknmjaaDoorRows
import Derived.WalkKit
import Derived.WalkSpells
import Derived.WalkLawsBesides
import Derived.Lib.Hide
import Derived.Deep.QuietTactic
import Derived.BigQuiet
import Derived.Maps.AppendAt
import Derived.WalkSmall
import Derived.ProofKit
import Derived.OpenShut
import Derived.JoinedCond
import Derived.Deep.Slices
import Derived.Deep.Fields
import Derived.Carry
import Derived.Shelf.Small.Wraps
import Derived.Shelf.Utf8.RuneCount
import Derived.Shelf.Strconv.Itoa0
import Derived.Shelf.Strconv.Itoa1
import Derived.Shelf.LaysM
import Derived.Shelf.Strconv.Itoa2
import Derived.Shelf.Strconv.Itoa3
import Derived.Shelf.Strings.Search1
import Derived.Shelf.Strings.Search2
import Derived.Shelf.Strings.Search3
import Derived.Shelf.Strings.Count
import Derived.Shelf.Strings.Shaped
import Derived.Shelf.Strings.Prefix
import Derived.Shelf.Strings.Split
import Derived.Shelf.Strings.SplitShaped
import Derived.Shelf.Unicode.DecodeSlow
import Derived.Test.YtkofjkadmknmjaaDoorProg
import Derived.Deep.AppendSrc
import Derived.Lib.AppendStr
import Derived.Laws.BytesArg
import Derived.Lib.AppendIntMem
import Derived.Lib.ItoaLen
import Derived.Test.YtkofjkadmknmjaaDoorTie
import Derived.Lib.LaidTab
import Derived.LaidMore
import Derived.Stop.LaidErr
import Derived.SevenTiedAt
import Derived.HandedShaped
import Derived.Test.YtkofjkadmknmjaaDoorCards
import Derived.Deep.CutBlock
import Derived.Deep.DeepCutAuto
import Derived.Laws.IdiomStrings
import Derived.Outline
import Derived.IntWalk
import Derived.StillTail
import Derived.Laws.Tables
import Derived.Laws.Rows
import Derived.ChangeKeysEq
import Derived.Laws.StructEq
import Derived.Lib.AppendZeros
import Derived.Deep.Quiet
import Derived.OwnWalk
import Derived.Lib.TrailingZeros
import Derived.Lib.SplitLaws
import Derived.Lib.ItoaNum
import Derived.Shelf.Strings.PiecesUse
namespace Go.Proofs.YtkofjkadmknmjaaDoor
open Go.RowKit

/-- What is told of an operation's value. -/
structure Sp where
  holds : Value → World → Prop
  stays : ∀ v w w', holds v w → Below w.heap.size w w' → holds v w'
def Sp.any : Sp := ⟨fun _ _ => True, fun _ _ _ _ _ => trivial⟩
def Sp.eq (x : Value) : Sp := ⟨fun v _ => v = x, fun _ _ _ h _ => h⟩
def Sp.slice {α : Type} (k : Nat) (cs : α → List Value) (l : List α) : Sp := ⟨fun v w => ∃ A c, v = .slice A l.length c ∧ In k cs w A c l, fun _ _ _ ⟨A, c, hv, h⟩ hb => ⟨A, c, hv, h.below hb⟩⟩
theorem Sp.eq_holds (x v : Value) (w : World) : (Sp.eq x).holds v w = (v = x) := rfl
def dstOf (ops : Array Oper) (j : Nat) : Option Tmp := (ops[j]?).bind (·.dst)
/-- The frame with all values put. -/
def putAll (u : Nat → Value) : List Oper → Nat → Act → Act
  | [], _, a => a
  | o :: r, i, a => putAll u r (i + 1) (a.put o.dst (u i))
/-- The frame with the values of what is waited for. -/
def putDeps (ops : Array Oper) (u : Nat → Value) : List Edge → Act → Act
  | [], a => a
  | e :: r, a => putDeps ops u r (if Region.binds .any e = true then a.put (dstOf ops e.on) (u e.on) else a)
def Deps (S : List Sp) (u : Nat → Value) (w : World) : List Edge → Prop
  | [] => True
  | e :: r => (Region.binds .any e = true → (S.getD e.on Sp.any).holds (u e.on) w) ∧ Deps S u w r
def RelEnd (ds : List Deferred) (d : Option Tmp) (s : Sp) (w1 : World) (e : Exit) (a' : Act) (w' : World) : Prop :=
  e = .normal ∧ a'.defers = ds ∧ Below w1.heap.size w1 w' ∧ ∀ t, d = some t → s.holds (a'.tmps.getD t undef) w'
theorem RelEnd.mk {ds : List Deferred} {d : Tmp} {s : Sp} {w1 : World} {a' : Act} {w' : World} (h1 : a'.defers = ds) (h2 : Below w1.heap.size w1 w') (h3 : s.holds (a'.tmps.getD d undef) w') : RelEnd ds (some d) s w1 .normal a' w' :=
  ⟨rfl, h1, h2, fun t e => by injection e with e; subst e; exact h3⟩
def RelGoals (P : Program) (ops : Array Oper) (S : List Sp) (a : Act) (w : World) : List Oper → Nat → Prop
  | [], _ => True
  | o :: r, i => (∀ (u : Nat → Value) (w1 : World), Below w.heap.size w w1 → Deps S u w1 o.after.toList → wpList P ops (RelEnd a.defers o.dst (S.getD i Sp.any) w1) [o] (putDeps ops u o.after.toList a) w1) ∧ RelGoals P ops S a w r (i + 1)
def RelHold (u : Nat → Value) (w : World) : List Sp → Nat → Prop
  | [], _ => True
  | s :: r, i => s.holds (u i) w ∧ RelHold u w r (i + 1)
section
variable {ops : Array Oper} {N : Nat}
theorem put_size (a : Act) (d : Option Tmp) (v : Value) : (a.put d v).tmps.size = a.tmps.size := by cases d <;> simp [Act.put]
theorem put_defers (a : Act) (d : Option Tmp) (v : Value) : (a.put d v).defers = a.defers := by cases d <;> rfl
theorem put_get_ne (a : Act) {d : Option Tmp} (v : Value) {t : Tmp} (h : d ≠ some t) : (a.put d v).tmps[t]? = a.tmps[t]? := by
  cases d with
  | none => rfl
  | some d => simp only [Act.put]; rw [Array.getElem?_setIfInBounds_ne (fun e => h (by rw [e]))]
theorem put_get_eq (a : Act) (v : Value) {t : Tmp} (h : t < a.tmps.size) : (a.put (some t) v).tmps[t]? = some v := by
  simp only [Act.put]
  rw [Array.getElem?_setIfInBounds]
  simp [h]
theorem putDeps_size (u : Nat → Value) : ∀ (es : List Edge) (a : Act), (putDeps ops u es a).tmps.size = a.tmps.size ∧ (putDeps ops u es a).defers = a.defers
  | [], a => ⟨rfl, rfl⟩
  | e :: r, a => by
    unfold putDeps
    have := putDeps_size u r (if Region.binds .any e = true then a.put (dstOf ops e.on) (u e.on) else a)
    split at this
    · rename_i hb
      rw [if_pos hb]
      exact ⟨this.1.trans (put_size _ _ _), this.2.trans (put_defers _ _ _)⟩
    · rename_i hb
      rw [if_neg hb]
      exact this
theorem putDeps_miss (u : Nat → Value) {t : Tmp} : ∀ (es : List Edge) (a : Act), (∀ e ∈ es, Region.binds .any e = true → dstOf ops e.on ≠ some t) → (putDeps ops u es a).tmps[t]? = a.tmps[t]?
  | [], a, _ => rfl
  | e :: r, a, h => by
    unfold putDeps
    rw [putDeps_miss u r _ (fun e' he' => h e' (List.mem_cons_of_mem _ he'))]
    split
    · rename_i hb
      exact put_get_ne _ _ (h e (List.mem_cons_self ..) hb)
    · rfl
theorem putDeps_hit (u : Nat → Value) {t : Tmp} {j : Nat} (hj : ∀ i, dstOf ops i = some t → i = j) : ∀ (es : List Edge) (a : Act), t < a.tmps.size → (∃ e ∈ es, Region.binds .any e = true ∧ dstOf ops e.on = some t) → (putDeps ops u es a).tmps[t]? = some (u j)
  | [], a, _, ⟨_, he, _⟩ => by cases he
  | e :: r, a, ht, ⟨e', he', hb', hd'⟩ => by
    unfold putDeps
    by_cases hex : ∃ e ∈ r, Region.binds .any e = true ∧ dstOf ops e.on = some t
    · refine putDeps_hit u hj r _ ?_ hex
      split
      · rw [put_size]; exact ht
      · exact ht
    · rw [putDeps_miss u r _ (fun x hx hb hd => hex ⟨x, hx, hb, hd⟩)]
      rcases List.mem_cons.1 he' with rfl | he'
      · rw [if_pos hb', hd', hj _ hd']
        exact put_get_eq _ _ ht
      · exact absurd ⟨e', he', hb', hd'⟩ hex
theorem putAll_size (u : Nat → Value) : ∀ (l : List Oper) (i : Nat) (a : Act), (putAll u l i a).tmps.size = a.tmps.size ∧ (putAll u l i a).defers = a.defers
  | [], _, a => ⟨rfl, rfl⟩
  | o :: r, i, a => by
    unfold putAll
    have := putAll_size u r (i + 1) (a.put o.dst (u i))
    exact ⟨this.1.trans (put_size _ _ _), this.2.trans (put_defers _ _ _)⟩
theorem putAll_miss (u : Nat → Value) {t : Tmp} : ∀ (l : List Oper) (i : Nat) (a : Act), (∀ o ∈ l, o.dst ≠ some t) → (putAll u l i a).tmps[t]? = a.tmps[t]?
  | [], _, a, _ => rfl
  | o :: r, i, a, h => by
    unfold putAll
    rw [putAll_miss u r (i + 1) _ (fun x hx => h x (List.mem_cons_of_mem _ hx))]
    exact put_get_ne _ _ (h o (List.mem_cons_self ..))
theorem putAll_hit (u : Nat → Value) {t : Tmp} : ∀ (l : List Oper) (i : Nat) (a : Act) (j : Nat) (o : Oper), t < a.tmps.size → l[j]? = some o → o.dst = some t → (∀ k x, l[k]? = some x → x.dst = some t → k = j) → (putAll u l i a).tmps[t]? = some (u (i + j))
  | [], _, _, _, _, _, h, _, _ => by simp at h
  | x :: r, i, a, 0, o, ht, h, hd, hu => by
    unfold putAll
    simp only [List.getElem?_cons_zero, Option.some.injEq] at h
    subst h
    rw [putAll_miss u r (i + 1) _ (fun y hy hyd => by
      obtain ⟨k, hk, rfl⟩ := List.getElem_of_mem hy
      have := hu (k + 1) r[k] (by simp [hk]) hyd
      omega), hd]
    exact put_get_eq _ _ ht
  | x :: r, i, a, j + 1, o, ht, h, hd, hu => by
    unfold putAll
    rw [putAll_hit u r (i + 1) _ j o (by rw [put_size]; exact ht) (by simpa using h) hd (fun k y hk hy => by have := hu (k + 1) y (by simpa using hk) hy; omega)]
    congr 2
    omega
end
section
variable {P : Program} {S : List Sp} {a : Act} {w : World} {l : List Oper}
theorem RelGoals.at {ops : Array Oper} : ∀ (l : List Oper) (i : Nat), RelGoals P ops S a w l i → ∀ (j : Nat) (o : Oper), l[j]? = some o → ∀ (u : Nat → Value) (w1 : World), Below w.heap.size w w1 → Deps S u w1 o.after.toList →
    wpList P ops (RelEnd a.defers o.dst (S.getD (i + j) Sp.any) w1) [o] (putDeps ops u o.after.toList a) w1
  | [], _, _, _, _, h => by simp at h
  | x :: r, i, hg, 0, o, h => by
    simp only [List.getElem?_cons_zero, Option.some.injEq] at h
    subst h
    exact hg.1
  | x :: r, i, hg, j + 1, o, h => by
    have := RelGoals.at r (i + 1) hg.2 j o (by simpa using h)
    rw [show i + 1 + j = i + (j + 1) by omega] at this
    exact this
theorem Deps.of {u : Nat → Value} {w1 : World} : ∀ es : List Edge, (∀ e ∈ es, Region.binds .any e = true → (S.getD e.on Sp.any).holds (u e.on) w1) → Deps S u w1 es
  | [], _ => trivial
  | e :: r, h => ⟨h e (List.mem_cons_self ..), Deps.of r (fun x hx => h x (List.mem_cons_of_mem _ hx))⟩
theorem RelHold.of {u : Nat → Value} {w1 : World} : ∀ (S : List Sp) (i : Nat), (∀ (j : Nat) (s : Sp), S[j]? = some s → s.holds (u (i + j)) w1) → RelHold u w1 S i
  | [], _, _ => trivial
  | s :: r, i, h => ⟨by simpa using h 0 s (by simp), RelHold.of r (i + 1) (fun j x hx => by have := h (j + 1) x (by simpa using hx); rwa [show i + (j + 1) = i + 1 + j by omega] at this)⟩
def RelInv (l : List Oper) (S : List Sp) (a : Act) (w : World) (listed : Array Bool) (a' : Act) (w' : World) : Prop :=
  Below w.heap.size w w' ∧ a'.defers = a.defers ∧ a'.tmps.size = a.tmps.size ∧
  (∀ j o, l[j]? = some o → listed.getD j false = true → ∀ e ∈ o.after, Region.binds .any e = true → listed.getD e.on false = true) ∧
  (∀ t, (∀ j o, l[j]? = some o → o.dst = some t → listed.getD j false = false) → a'.tmps[t]? = a.tmps[t]?) ∧
  ∃ u : Nat → Value, ∀ j o t, l[j]? = some o → o.dst = some t → listed.getD j false = true → a'.tmps[t]? = some (u j) ∧ (S.getD j Sp.any).holds (u j) w'
/-- The goals from operation s on. -/
def Hop (P : Program) (l : List Oper) (S : List Sp) (a : Act) (w : World) (s : Nat) : Prop :=
  ∀ (i : Nat) (o : Oper), l[i]? = some o → s ≤ i → ∀ (u : Nat → Value) (w1 : World), Below w.heap.size w w1 → Deps S u w1 o.after.toList →
    wpList P l.toArray (RelEnd a.defers o.dst (S.getD i Sp.any) w1) [o] (putDeps l.toArray u o.after.toList a) w1
theorem Hop.of {s : Nat} (h : RelGoals P l.toArray S a w (l.drop s) s) : Hop P l S a w s := fun i o ho hi u w1 hb hd => by
  have := RelGoals.at (l.drop s) s h (i - s) o (by rw [List.getElem?_drop, show s + (i - s) = i by omega]; exact ho) u w1 hb hd
  rw [show s + (i - s) = i by omega] at this
  exact this
theorem getD_set_false {listed : Array Bool} {i j : Nat} (h : i ≠ j) : (listed.setIfInBounds i true).getD j false = listed.getD j false := getD_set_ne false h
theorem eval_agree {b b' : Act} {ops : Array Oper} {o : Oper} (h : ∀ t ∈ o.looksAt ops, b.tmps[t]? = b'.tmps[t]?) : ∀ x ∈ o.op.operands, b.eval x = b'.eval x := by
  intro x hx
  cases x with
  | tmp t =>
    have ht : t ∈ o.looksAt ops := List.mem_append_left _ (List.mem_filterMap.2 ⟨.tmp t, by simpa using hx, rfl⟩)
    show b.tmps.getD t undef = b'.tmps.getD t undef
    rw [Array.getD_eq_getD_getElem?, Array.getD_eq_getD_getElem?, h t ht]
  | _ => rfl
theorem wanted_agree {b b' : Act} {ops : Array Oper} {o : Oper} (h : ∀ t ∈ o.looksAt ops, b.tmps[t]? = b'.tmps[t]?) : Region.wanted o (yielded ops b.tmps) = Region.wanted o (yielded ops b'.tmps) := by
  unfold Region.wanted
  cases hg : o.guard with
  | none => rfl
  | some gw =>
    obtain ⟨g, want⟩ := gw
    have hy : yielded ops b.tmps g = yielded ops b'.tmps g := by
      unfold yielded
      cases ht : (ops[g]?).bind (·.dst) with
      | none => rfl
      | some t =>
        have := h t (by simp [Oper.looksAt, hg, ht])
        simp only [Option.bind_some, this]
    simp only [hy]
end
end Go.Proofs.YtkofjkadmknmjaaDoor
namespace Go.Proofs.YtkofjkadmknmjaaDoor
open Go.RowKit

/-- A slice of a call's own, as a property. -/
def Sp.own {α : Type} (B : Nat) (e : TypeId) (k : Nat) (cs : α → List Value) (l : List α) : Sp := ⟨fun v w => w.ownsRow B e k v l.length (l.flatMap cs), fun _ _ _ h hb => own_below h hb⟩
end Go.Proofs.YtkofjkadmknmjaaDoor
namespace Go.Proofs.YtkofjkadmknmjaaDoor
open Go.RowKit

/-- How far a text in quotes has been read. -/
def UnqAt (s acc r : List UInt8) : Prop := unq s = (unq r).map (acc ++ ·) ∧ acc.length + r.length ≤ s.length
theorem UnqAt.done {s acc : List UInt8} (h : UnqAt s acc []) : unq s = some acc := by rw [h.1, unq]; simp
theorem UnqAt.step {s acc r r2 : List UInt8} {c : UInt8} (h : UnqAt s acc r) (e : unq r = (unq r2).map (c :: ·)) (hl : r2.length < r.length) : UnqAt s (acc ++ [c]) r2 := by
  refine ⟨?_, by have := h.2; simp; omega⟩
  rw [h.1, e, Option.map_map]
  congr 1
  funext x
  simp
theorem In.of_ownB {w : World} {base : Nat} {e : TypeId} {A : Option Addr} {c : Nat} {l : List UInt8} (h : w.ownsRow base e 1 (.slice A l.length c) l.length (l.flatMap bc)) (hs : l.length ≤ 4294967296) : InB w A c l := by
  obtain ⟨A', c', hv, hin⟩ := In.of_own bc_len h hs
  injection hv with e1 _ e2
  subst e1 e2
  exact hin
end Go.Proofs.YtkofjkadmknmjaaDoor
namespace Go.Proofs.YtkofjkadmknmjaaDoor
open Go.RowKit

/-- What is left, and the first error. -/
structure Rd where
  s : List UInt8
  e : Int
deriving DecidableEq

/-! A number off bytes: its error, its value, how many bytes it has. -/
def nxE : Nat → Bool → List UInt8 → Int
  | 0, _, _ => 3
  | _ + 1, _, [] => 2
  | f + 1, first, c :: s => if 128 ≤ c.toNat then nxE f false s else if c.toNat = 0 ∧ first = false then 3 else 0
def nxV : Nat → List UInt8 → Nat
  | 0, _ => 0
  | _ + 1, [] => 0
  | f + 1, c :: s => if 128 ≤ c.toNat then c.toNat % 128 + 128 * nxV f s else c.toNat
def nxK : Nat → List UInt8 → Nat
  | 0, _ => 0
  | _ + 1, [] => 0
  | f + 1, c :: s => if 128 ≤ c.toNat then nxK f s + 1 else 1
@[irreducible] def nErr (s : List UInt8) (most : Int) : Int := if nxE 6 true s = 0 then (if 1099511627776 < nxV 6 s ∨ most < (nxV 6 s : Int) then 4 else 0) else nxE 6 true s
@[irreducible] def nVal (s : List UInt8) (most : Int) : Int := if nErr s most = 0 then (nxV 6 s : Int) else 0
@[irreducible] def nLen (s : List UInt8) (most : Int) : Nat := if nErr s most = 0 then nxK 6 s else 0
/-! What the readers' calls answer, and what is left then. -/
/-! A number's bytes are read as it. -/
/-! What is read as a number has just a number's bytes. -/
/-! How the loops over a number's bytes go. -/
def Peek (s : List UInt8) (k acc : Nat) : Prop :=
  k ≤ 6 ∧ k ≤ s.length ∧ acc < 128 ^ k ∧ nxE 6 true s = nxE (6 - k) (decide (k = 0)) (s.drop k) ∧ nxV 6 s = acc + 128 ^ k * nxV (6 - k) (s.drop k) ∧ nxK 6 s = k + nxK (6 - k) (s.drop k) ∧
    ∀ j c, j < k → s[j]? = some c → 128 ≤ c.toNat
section
variable {s : List UInt8} {k acc : Nat}
theorem Peek.full (h : Peek s 6 acc) : nxE 6 true s = 3 := by rw [h.2.2.2.1]; rfl
theorem Peek.zero (h : Peek s k acc) (hk : k < 6) (hl : k < s.length) (hc : s[k].toNat = 0) (h0 : 0 < k) : nxE 6 true s = 3 := by
  rw [h.2.2.2.1, List.drop_eq_getElem_cons hl, show 6 - k = (6 - (k + 1)) + 1 by omega, nxE, if_neg (by omega), if_pos ⟨hc, by simp; omega⟩]
theorem Peek.done (h : Peek s k acc) (hk : k < 6) (hl : k < s.length) (hc : s[k].toNat < 128) (h0 : s[k].toNat ≠ 0 ∨ k = 0) : nxE 6 true s = 0 ∧ nxV 6 s = acc + s[k].toNat * 128 ^ k ∧ nxK 6 s = k + 1 := by
  obtain ⟨_, _, h3, h4, h5, h6, h7⟩ := h
  rw [List.drop_eq_getElem_cons hl, show 6 - k = (6 - (k + 1)) + 1 by omega] at h4 h5 h6
  rw [nxE, if_neg (by omega)] at h4
  rw [nxV, if_neg (by omega)] at h5
  rw [nxK, if_neg (by omega)] at h6
  refine ⟨?_, by rw [h5, Nat.mul_comm], h6⟩
  rw [h4, if_neg]
  rintro ⟨h1, h2⟩
  rcases h0 with h0 | h0
  · exact h0 h1
  · simp [h0] at h2
end
end Go.Proofs.YtkofjkadmknmjaaDoor
namespace Go.Proofs.YtkofjkadmknmjaaDoor
open Go.RowKit

/-! Worlds in which, below a block number, one block alone may have turned. -/
structure Kept (p : Option Nat) (B : Nat) (w w' : World) : Prop where
  os : w'.os = w.os
  tape : w'.tape = w.tape
  output : w'.output = w.output
  size : w.heap.size ≤ w'.heap.size
  block : ∀ k, k < B → p ≠ some k → w'.heap[k]? = w.heap[k]?
section
variable {p : Option Nat} {B B' : Nat} {a b c w w' : World}
theorem Kept.refl (p : Option Nat) (B : Nat) (w : World) : Kept p B w w := ⟨rfl, rfl, rfl, Nat.le_refl _, fun _ _ _ => rfl⟩
theorem Kept.of_below (h : Below B w w') : Kept p B w w' := ⟨h.os, h.tape, h.output, h.size, fun k hk _ => h.block k hk⟩
theorem Kept.trans (h : Kept p B a b) (k : Kept p B b c) : Kept p B a c := ⟨k.os.trans h.os, k.tape.trans h.tape, k.output.trans h.output, Nat.le_trans h.size k.size, fun i hi hp => (k.block i hi hp).trans (h.block i hi hp)⟩
theorem Kept.mono (h : Kept p B w w') (hB : B' ≤ B) : Kept p B' w w' := ⟨h.os, h.tape, h.output, h.size, fun k hk hp => h.block k (by omega) hp⟩
theorem Kept.below (h : Kept p B w w') (hB : B' ≤ B) (hp : ∀ g, p = some g → B' ≤ g) : Below B' w w' := ⟨h.os, h.tape, h.output, h.size, fun k hk => h.block k (by omega) (fun e => by have := hp k e; omega)⟩
theorem Kept.alloc (h : Kept p B a w) (hB : B ≤ w.heap.size) (o : Obj) : Kept p B a (w.alloc o) := h.trans (.of_below ((Below.refl _ _).alloc hB o))
theorem Kept.drew (h : Kept p B a w) : Kept p B a w.drew := ⟨h.os, h.tape, h.output, h.size, h.block⟩
theorem Kept.setCell (h : Kept p B a w) {q : Addr} (hq : B ≤ q.block ∨ p = some q.block) (u : Value) : Kept p B a (w.setCell q u) :=
  h.trans ⟨rfl, rfl, rfl, by simp [World.setCell], fun k hk hp => Below.heap_setCell _ _ _ _ (fun e => by
    subst e
    rcases hq with h | h
    · omega
    · exact hp h)⟩
theorem Kept.cell (h : Kept p B w w') {q : Addr} (hq : q.block < B) (hp : p ≠ some q.block) : w'.cell? q = w.cell? q := World.cell?_of_block (w := w) (h.block q.block hq hp)
end

/-! A block that is known whole. -/
def Blk (w : World) (g : Nat) (cs : Array Value) : Prop := ∃ t, w.heap[g]? = some (.cells cs t (0, 0))
section
variable {w w' : World} {g : Nat} {cs : Array Value}
theorem Blk.lt (h : Blk w g cs) : g < w.heap.size := by
  obtain ⟨t, h⟩ := h
  rcases Nat.lt_or_ge g w.heap.size with hlt | hge
  · exact hlt
  · rw [Array.getElem?_eq_none hge] at h; cases h
theorem Blk.cell (h : Blk w g cs) {i : Nat} {v : Value} (hv : cs[i]? = some v) : w.cell? ⟨g, i, none⟩ = some v := by
  obtain ⟨t, h⟩ := h
  simp [World.cell?, h, hv]
theorem Blk.frozen (h : Blk w g cs) (i : Nat) : w.frozen? ⟨g, i, none⟩ = false := by
  obtain ⟨t, h⟩ := h
  simp [World.frozen?, h]
theorem Blk.new (w : World) (t : TypeId) (cs : Array Value) : Blk (w.alloc (.cells cs t)) w.heap.size cs := ⟨t, heap_alloc_new w _⟩
theorem Blk.kept {p : Option Nat} {B : Nat} (h : Blk w g cs) (k : Kept p B w w') (hg : g < B) (hp : p ≠ some g) : Blk w' g cs := by
  obtain ⟨t, h⟩ := h
  exact ⟨t, (k.block g hg hp).trans h⟩
theorem Blk.below {B : Nat} (h : Blk w g cs) (k : Below B w w') (hg : g < B) : Blk w' g cs := by
  obtain ⟨t, h⟩ := h
  exact ⟨t, (k.block g hg).trans h⟩
theorem Blk.far (h : Blk w g cs) {q : Addr} (hq : g ≠ q.block) (u : Value) : Blk (w.setCell q u) g cs := by
  obtain ⟨t, h⟩ := h
  exact ⟨t, (Below.heap_setCell w q u g hq).trans h⟩
end

/-! The readers in memory. -/
/-- The program's reader at block g: the bytes B, the place, the error. -/
def RdA (w : World) (g : Nat) (A : Option Addr) (c : Nat) (B : List UInt8) (pos : Nat) (e : Int) : Prop :=
  Blk w g #[.slice A B.length c, .int .i64 pos, .int .i64 e] ∧ pos ≤ B.length ∧ B.length ≤ c ∧ c ≤ 9223372036854775807 ∧ B.length ≤ 4294967296 ∧ (B = [] ∨ ∃ b off, A = some ⟨b, off, none⟩ ∧ b < g ∧ Row 1 bc w b off B)
/-- The program's reader; none: the nil one. -/
def RdP (w : World) (p : Option Nat) (st : Rd) : Prop :=
  (p = none ∧ st = ⟨[], 1⟩) ∨ ∃ g A c B pos, p = some g ∧ RdA w g A c B pos st.e ∧ st.s = B.drop pos
/-- The reference's reader at block h. -/
def RdR (w : World) (h : Nat) (st : Rd) : Prop := Blk w h #[.string (str st.s), .int .i64 st.e] ∧ st.s.length ≤ 4294967296
section
variable {w w' : World} {g h : Nat} {A : Option Addr} {c pos : Nat} {B : List UInt8} {e : Int} {p q : Option Nat} {st st' : Rd}
theorem RdA.kept (r : RdA w g A c B pos e) (k : Kept q w.heap.size w w') (hq : ∀ h, q = some h → g < h) : RdA w' g A c B pos e := by
  obtain ⟨h1, h2, h3, h4, h5, h6⟩ := r
  refine ⟨h1.kept k h1.lt (fun e => by have := hq g e; omega), h2, h3, h4, h5, h6.imp id fun ⟨b, off, hA, hb, hr⟩ => ⟨b, off, hA, hb, ?_⟩⟩
  have := h1.lt
  exact hr.keep fun o => k.cell (by show b < _; omega) (fun e => by have := hq b e; omega)
theorem RdP.kept (r : RdP w p st) (k : Kept q w.heap.size w w') (hq : ∀ g h, p = some g → q = some h → g < h) : RdP w' p st :=
  r.imp id fun ⟨g, A, c, B, pos, hp, ha, hs⟩ => ⟨g, A, c, B, pos, hp, ha.kept k (fun h => hq g h hp), hs⟩
theorem RdP.below (r : RdP w p st) (k : Below w.heap.size w w') : RdP w' p st := r.kept (q := none) (.of_below k) (fun _ _ _ h => by cases h)
theorem RdP.lt (r : RdP w p st) (hg : p = some g) : g < w.heap.size := by
  rcases r with ⟨rfl, _⟩ | ⟨g', A, c, B, pos, hp, ha, _⟩
  · cases hg
  · rw [hp] at hg; injection hg with hg; subst hg; exact ha.1.lt
theorem RdR.kept (r : RdR w h st) (k : Kept q w.heap.size w w') (hq : q ≠ some h) : RdR w' h st := ⟨r.1.kept k r.1.lt hq, r.2⟩
theorem RdR.below (r : RdR w h st) (k : Below w.heap.size w w') : RdR w' h st := r.kept (q := none) (.of_below k) (by simp)
theorem RdR.lt (r : RdR w h st) : h < w.heap.size := r.1.lt
end

/-! The ends of the readers' calls. -/
end Go.Proofs.YtkofjkadmknmjaaDoor
namespace Go.Proofs.YtkofjkadmknmjaaDoor
open Go.RowKit

/-- The type ty is a struct or an array of n cells. -/
structure Str (P : Program) (ty : TypeId) (n : Nat) : Prop where
  desc : ∃ d, P.underlying ty = some d ∧ (match d with | .struct _ | .array _ _ => true | _ => false) = true
  size : (P.info? ty).map (·.size) = some n
section
variable {P : Program} {w : World}
theorem Kept.one {g : Nat} {w' : World} (h : Kept (some g) w.heap.size w w') {p : Option Nat} {B : Nat} (hB : B ≤ w.heap.size) (hg : B ≤ g ∨ p = some g) : Kept p B w w' :=
  ⟨h.os, h.tape, h.output, h.size, fun k hk hp => h.block k (by omega) (fun e => by
    injection e with e; subst e
    rcases hg with hg | hg
    · omega
    · exact hp hg)⟩
theorem Kept.oneB {g B : Nat} {w' : World} (h : Kept (some g) w.heap.size w w') (hB : B ≤ w.heap.size) (hg : B ≤ g) : Below B w w' := h.below hB (fun k hk => by injection hk with hk; omega)
theorem Blk.row {g : Nat} {cs : Array Value} (hb : Blk w g cs) (cells : Array Value) : Blk (w.setRow g cells) g cells ∧ Kept (some g) w.heap.size w (w.setRow g cells) := by
  have hlt := hb.lt
  obtain ⟨t, hb⟩ := hb
  exact ⟨⟨t, setRow_heap w g _ _ t _ hb⟩, ⟨rfl, rfl, rfl, by simp [World.setRow], fun k hk hp => setRow_other w g k _ (fun e => hp (by rw [e]))⟩⟩
end
end Go.Proofs.YtkofjkadmknmjaaDoor
namespace Go.Proofs.YtkofjkadmknmjaaDoor
open Go.RowKit

/-- A world behind the making of one block, in which that block is as it was made. -/
def At (w w' : World) (cs : Array Value) : Prop := Below w.heap.size w w' ∧ Blk w' w.heap.size cs
theorem At.new (w : World) (t : TypeId) (cs : Array Value) : At w (w.alloc (.cells cs t)) cs := ⟨(Below.refl _ _).alloc (Nat.le_refl _) _, Blk.new _ _ _⟩
theorem At.step {w w1 w2 : World} {cs : Array Value} (h : At w w1 cs) (hb : Below w1.heap.size w1 w2) : At w w2 cs := ⟨h.1.trans (hb.mono h.1.size), h.2.below hb h.2.lt⟩
theorem At.alloc {w w1 : World} {cs : Array Value} (h : At w w1 cs) (o : Obj) : At w (w1.alloc o) cs := h.step ((Below.refl _ _).alloc (Nat.le_refl _) o)
end Go.Proofs.YtkofjkadmknmjaaDoor
namespace Go.Proofs.YtkofjkadmknmjaaDoor
open Go.RowKit

/-- The first block of a call's own is made. -/
theorem At.go {P : Program} {ops : Array Oper} {l : List Oper} {a : Act} {Q : Exit → Act → World → Prop} {t : TypeId} {w : World} {cs : Array Value} (h : ∀ w', At w w' cs → w'.heap.size = w.heap.size + 1 → wpList P ops Q l a w') :
    wpList P ops Q l a (w.alloc (.cells cs t)) := h _ (At.new w t cs) (by simp)
theorem At.as {w w' : World} {cs ds : Array Value} (h : At w w' cs) (e : cs = ds) : At w w' ds := e ▸ h
theorem At.kept {w w1 w2 : World} {cs : Array Value} (h : At w w1 cs) {q : Nat} (hq : w.heap.size < q) (k : Kept (some q) w1.heap.size w1 w2) : At w w2 cs :=
  ⟨h.1.trans (k.oneB h.1.size (by omega)), h.2.kept k h.2.lt (fun e => by injection e with e; omega)⟩
theorem At.lt {w w' : World} {cs : Array Value} (h : At w w' cs) : w.heap.size < w'.heap.size := h.2.lt
end Go.Proofs.YtkofjkadmknmjaaDoor
namespace Go.Proofs.YtkofjkadmknmjaaDoor
open Go.RowKit

structure Card where
  id : Int
  ver : Int
  lab : Nat
  f : List Val
deriving DecidableEq
structure Patch where
  mask : Nat
  lab : Nat
  f : List Val
deriving DecidableEq
structure Edit where
  kind : Int
  id : Int
  group : Int
  p : Patch
deriving DecidableEq
@[irreducible] def farr (f : List Val) : Array Value := (f.flatMap Val.cells).toArray
@[irreducible] def Card.arr (c : Card) : Array Value := (([.int .i64 c.id, .int .i64 c.ver, .int .u32 c.lab] : List Value) ++ c.f.flatMap Val.cells).toArray
@[irreducible] def Patch.arr (p : Patch) : Array Value := (([.int .u32 p.mask, .int .u32 p.lab] : List Value) ++ p.f.flatMap Val.cells).toArray
@[irreducible] def Edit.arr (e : Edit) : Array Value := (([.int .i64 e.kind, .int .i64 e.id, .int .i64 e.group, .int .u32 e.p.mask, .int .u32 e.p.lab] : List Value) ++ e.p.f.flatMap Val.cells).toArray
section
variable {f : List Val} {k : Nat}
end
end Go.Proofs.YtkofjkadmknmjaaDoor
