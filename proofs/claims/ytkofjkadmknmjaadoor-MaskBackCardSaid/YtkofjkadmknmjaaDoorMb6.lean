/-
  Lemmas (walks and plain laws), in one text.
-/
import Derived.Test.YtkofjkadmknmjaaDoorMb5
import Derived.Test.YtkofjkadmknmjaaDoorRows
import Derived.WalkKit
import Derived.WalkSpells
import Derived.WalkLawsBesides
import Derived.Lib.Hide
import Derived.Deep.QuietTactic
import Derived.BigQuiet
import Derived.Maps.AppendAt
import Derived.WalkSmall
import Derived.ProofKit
import Derived.OpenShut
import Derived.JoinedCond
import Derived.Deep.Slices
import Derived.Deep.Fields
import Derived.Carry
import Derived.HandedShaped
import Derived.Shelf.Small.Wraps
import Derived.Shelf.Utf8.RuneCount
import Derived.Shelf.Strconv.Itoa0
import Derived.Shelf.Strconv.Itoa1
import Derived.Shelf.LaysM
import Derived.Shelf.Strconv.Itoa2
import Derived.Shelf.Strconv.Itoa3
import Derived.Shelf.Strings.Search1
import Derived.Shelf.Strings.Search2
import Derived.Shelf.Strings.Search3
import Derived.Shelf.Strings.Count
import Derived.Shelf.Strings.Shaped
import Derived.Shelf.Strings.Prefix
import Derived.Shelf.Strings.Split
import Derived.Shelf.Strings.SplitShaped
import Derived.Shelf.Unicode.DecodeSlow
import Derived.Test.YtkofjkadmknmjaaDoorProg
import Derived.Deep.AppendSrc
import Derived.Lib.AppendStr
import Derived.Laws.BytesArg
import Derived.Lib.AppendIntMem
import Derived.Lib.ItoaLen
import Derived.Lib.TrailingZeros
import Derived.Lib.SplitLaws
import Derived.Lib.ItoaNum
import Derived.Shelf.Strings.PiecesUse
import Derived.Shelf.Spec.TrailingZeros
import Derived.RangeFuncNested
import Derived.RangeFuncBound
import Derived.RangeFuncCalls
import Derived.RangeFuncLeaves
import Derived.Shelf.Abstract
import Derived.Shelf.RegionOpen
import Derived.OwnWalkIn
import Derived.TacticsInMore
import Derived.LoopNIn
import Derived.LoopIn
import Derived.Test.YtkofjkadmknmjaaDoorTie
import Derived.Lib.LaidTab
import Derived.LaidMore
import Derived.Lay
import Derived.Stop.LaidErr
import Derived.SevenTiedAt
import Derived.Test.YtkofjkadmknmjaaDoorCards
import Derived.StillTail
import Derived.OrdersIn
import Derived.ControlIn
import Derived.Lib.BitFns
import Derived.Deep.CutBlock
import Derived.Deep.DeepCutAuto
import Derived.Laws.IdiomStrings
import Derived.Outline
import Derived.IntWalk
import Derived.Lib.Tables
import Derived.Lib.Strings
namespace Go.Proofs.YtkofjkadmknmjaaDoor
open Go.RowKit

/-- What is told of an operation's value. -/
structure Sp where
  holds : Value → World → Prop
  stays : ∀ v w w', holds v w → Below w.heap.size w w' → holds v w'
def Sp.any : Sp := ⟨fun _ _ => True, fun _ _ _ _ _ => trivial⟩
def Sp.eq (x : Value) : Sp := ⟨fun v _ => v = x, fun _ _ _ h _ => h⟩
def Sp.slice {α : Type} (k : Nat) (cs : α → List Value) (l : List α) : Sp := ⟨fun v w => ∃ A c, v = .slice A l.length c ∧ In k cs w A c l, fun _ _ _ ⟨A, c, hv, h⟩ hb => ⟨A, c, hv, h.below hb⟩⟩
theorem Sp.eq_holds (x v : Value) (w : World) : (Sp.eq x).holds v w = (v = x) := rfl
def dstOf (ops : Array Oper) (j : Nat) : Option Tmp := (ops[j]?).bind (·.dst)
/-- The frame with all values put. -/
def putAll (u : Nat → Value) : List Oper → Nat → Act → Act
  | [], _, a => a
  | o :: r, i, a => putAll u r (i + 1) (a.put o.dst (u i))
/-- The frame with the values of what is waited for. -/
def putDeps (ops : Array Oper) (u : Nat → Value) : List Edge → Act → Act
  | [], a => a
  | e :: r, a => putDeps ops u r (if Region.binds .any e = true then a.put (dstOf ops e.on) (u e.on) else a)
def Deps (S : List Sp) (u : Nat → Value) (w : World) : List Edge → Prop
  | [] => True
  | e :: r => (Region.binds .any e = true → (S.getD e.on Sp.any).holds (u e.on) w) ∧ Deps S u w r
def RelEnd (ds : List Deferred) (d : Option Tmp) (s : Sp) (w1 : World) (e : Exit) (a' : Act) (w' : World) : Prop :=
  e = .normal ∧ a'.defers = ds ∧ Below w1.heap.size w1 w' ∧ ∀ t, d = some t → s.holds (a'.tmps.getD t undef) w'
theorem RelEnd.mk {ds : List Deferred} {d : Tmp} {s : Sp} {w1 : World} {a' : Act} {w' : World} (h1 : a'.defers = ds) (h2 : Below w1.heap.size w1 w') (h3 : s.holds (a'.tmps.getD d undef) w') : RelEnd ds (some d) s w1 .normal a' w' :=
  ⟨rfl, h1, h2, fun t e => by injection e with e; subst e; exact h3⟩
def RelGoals (P : Program) (ops : Array Oper) (S : List Sp) (a : Act) (w : World) : List Oper → Nat → Prop
  | [], _ => True
  | o :: r, i => (∀ (u : Nat → Value) (w1 : World), Below w.heap.size w w1 → Deps S u w1 o.after.toList → wpList P ops (RelEnd a.defers o.dst (S.getD i Sp.any) w1) [o] (putDeps ops u o.after.toList a) w1) ∧ RelGoals P ops S a w r (i + 1)
def RelHold (u : Nat → Value) (w : World) : List Sp → Nat → Prop
  | [], _ => True
  | s :: r, i => s.holds (u i) w ∧ RelHold u w r (i + 1)
section
variable {ops : Array Oper} {N : Nat}
theorem put_size (a : Act) (d : Option Tmp) (v : Value) : (a.put d v).tmps.size = a.tmps.size := by cases d <;> simp [Act.put]
theorem put_defers (a : Act) (d : Option Tmp) (v : Value) : (a.put d v).defers = a.defers := by cases d <;> rfl
theorem put_get_ne (a : Act) {d : Option Tmp} (v : Value) {t : Tmp} (h : d ≠ some t) : (a.put d v).tmps[t]? = a.tmps[t]? := by
  cases d with
  | none => rfl
  | some d => simp only [Act.put]; rw [Array.getElem?_setIfInBounds_ne (fun e => h (by rw [e]))]
theorem put_get_eq (a : Act) (v : Value) {t : Tmp} (h : t < a.tmps.size) : (a.put (some t) v).tmps[t]? = some v := by
  simp only [Act.put]
  rw [Array.getElem?_setIfInBounds]
  simp [h]
theorem putDeps_size (u : Nat → Value) : ∀ (es : List Edge) (a : Act), (putDeps ops u es a).tmps.size = a.tmps.size ∧ (putDeps ops u es a).defers = a.defers
  | [], a => ⟨rfl, rfl⟩
  | e :: r, a => by
    unfold putDeps
    have := putDeps_size u r (if Region.binds .any e = true then a.put (dstOf ops e.on) (u e.on) else a)
    split at this
    · rename_i hb
      rw [if_pos hb]
      exact ⟨this.1.trans (put_size _ _ _), this.2.trans (put_defers _ _ _)⟩
    · rename_i hb
      rw [if_neg hb]
      exact this
theorem putDeps_miss (u : Nat → Value) {t : Tmp} : ∀ (es : List Edge) (a : Act), (∀ e ∈ es, Region.binds .any e = true → dstOf ops e.on ≠ some t) → (putDeps ops u es a).tmps[t]? = a.tmps[t]?
  | [], a, _ => rfl
  | e :: r, a, h => by
    unfold putDeps
    rw [putDeps_miss u r _ (fun e' he' => h e' (List.mem_cons_of_mem _ he'))]
    split
    · rename_i hb
      exact put_get_ne _ _ (h e (List.mem_cons_self ..) hb)
    · rfl
theorem putDeps_hit (u : Nat → Value) {t : Tmp} {j : Nat} (hj : ∀ i, dstOf ops i = some t → i = j) : ∀ (es : List Edge) (a : Act), t < a.tmps.size → (∃ e ∈ es, Region.binds .any e = true ∧ dstOf ops e.on = some t) → (putDeps ops u es a).tmps[t]? = some (u j)
  | [], a, _, ⟨_, he, _⟩ => by cases he
  | e :: r, a, ht, ⟨e', he', hb', hd'⟩ => by
    unfold putDeps
    by_cases hex : ∃ e ∈ r, Region.binds .any e = true ∧ dstOf ops e.on = some t
    · refine putDeps_hit u hj r _ ?_ hex
      split
      · rw [put_size]; exact ht
      · exact ht
    · rw [putDeps_miss u r _ (fun x hx hb hd => hex ⟨x, hx, hb, hd⟩)]
      rcases List.mem_cons.1 he' with rfl | he'
      · rw [if_pos hb', hd', hj _ hd']
        exact put_get_eq _ _ ht
      · exact absurd ⟨e', he', hb', hd'⟩ hex
theorem putAll_size (u : Nat → Value) : ∀ (l : List Oper) (i : Nat) (a : Act), (putAll u l i a).tmps.size = a.tmps.size ∧ (putAll u l i a).defers = a.defers
  | [], _, a => ⟨rfl, rfl⟩
  | o :: r, i, a => by
    unfold putAll
    have := putAll_size u r (i + 1) (a.put o.dst (u i))
    exact ⟨this.1.trans (put_size _ _ _), this.2.trans (put_defers _ _ _)⟩
theorem putAll_miss (u : Nat → Value) {t : Tmp} : ∀ (l : List Oper) (i : Nat) (a : Act), (∀ o ∈ l, o.dst ≠ some t) → (putAll u l i a).tmps[t]? = a.tmps[t]?
  | [], _, a, _ => rfl
  | o :: r, i, a, h => by
    unfold putAll
    rw [putAll_miss u r (i + 1) _ (fun x hx => h x (List.mem_cons_of_mem _ hx))]
    exact put_get_ne _ _ (h o (List.mem_cons_self ..))
theorem putAll_hit (u : Nat → Value) {t : Tmp} : ∀ (l : List Oper) (i : Nat) (a : Act) (j : Nat) (o : Oper), t < a.tmps.size → l[j]? = some o → o.dst = some t → (∀ k x, l[k]? = some x → x.dst = some t → k = j) → (putAll u l i a).tmps[t]? = some (u (i + j))
  | [], _, _, _, _, _, h, _, _ => by simp at h
  | x :: r, i, a, 0, o, ht, h, hd, hu => by
    unfold putAll
    simp only [List.getElem?_cons_zero, Option.some.injEq] at h
    subst h
    rw [putAll_miss u r (i + 1) _ (fun y hy hyd => by
      obtain ⟨k, hk, rfl⟩ := List.getElem_of_mem hy
      have := hu (k + 1) r[k] (by simp [hk]) hyd
      omega), hd]
    exact put_get_eq _ _ ht
  | x :: r, i, a, j + 1, o, ht, h, hd, hu => by
    unfold putAll
    rw [putAll_hit u r (i + 1) _ j o (by rw [put_size]; exact ht) (by simpa using h) hd (fun k y hk hy => by have := hu (k + 1) y (by simpa using hk) hy; omega)]
    congr 2
    omega
end
section
variable {P : Program} {S : List Sp} {a : Act} {w : World} {l : List Oper}
theorem RelGoals.at {ops : Array Oper} : ∀ (l : List Oper) (i : Nat), RelGoals P ops S a w l i → ∀ (j : Nat) (o : Oper), l[j]? = some o → ∀ (u : Nat → Value) (w1 : World), Below w.heap.size w w1 → Deps S u w1 o.after.toList →
    wpList P ops (RelEnd a.defers o.dst (S.getD (i + j) Sp.any) w1) [o] (putDeps ops u o.after.toList a) w1
  | [], _, _, _, _, h => by simp at h
  | x :: r, i, hg, 0, o, h => by
    simp only [List.getElem?_cons_zero, Option.some.injEq] at h
    subst h
    exact hg.1
  | x :: r, i, hg, j + 1, o, h => by
    have := RelGoals.at r (i + 1) hg.2 j o (by simpa using h)
    rw [show i + 1 + j = i + (j + 1) by omega] at this
    exact this
theorem Deps.of {u : Nat → Value} {w1 : World} : ∀ es : List Edge, (∀ e ∈ es, Region.binds .any e = true → (S.getD e.on Sp.any).holds (u e.on) w1) → Deps S u w1 es
  | [], _ => trivial
  | e :: r, h => ⟨h e (List.mem_cons_self ..), Deps.of r (fun x hx => h x (List.mem_cons_of_mem _ hx))⟩
theorem RelHold.of {u : Nat → Value} {w1 : World} : ∀ (S : List Sp) (i : Nat), (∀ (j : Nat) (s : Sp), S[j]? = some s → s.holds (u (i + j)) w1) → RelHold u w1 S i
  | [], _, _ => trivial
  | s :: r, i, h => ⟨by simpa using h 0 s (by simp), RelHold.of r (i + 1) (fun j x hx => by have := h (j + 1) x (by simpa using hx); rwa [show i + (j + 1) = i + 1 + j by omega] at this)⟩
def RelInv (l : List Oper) (S : List Sp) (a : Act) (w : World) (listed : Array Bool) (a' : Act) (w' : World) : Prop :=
  Below w.heap.size w w' ∧ a'.defers = a.defers ∧ a'.tmps.size = a.tmps.size ∧
  (∀ j o, l[j]? = some o → listed.getD j false = true → ∀ e ∈ o.after, Region.binds .any e = true → listed.getD e.on false = true) ∧
  (∀ t, (∀ j o, l[j]? = some o → o.dst = some t → listed.getD j false = false) → a'.tmps[t]? = a.tmps[t]?) ∧
  ∃ u : Nat → Value, ∀ j o t, l[j]? = some o → o.dst = some t → listed.getD j false = true → a'.tmps[t]? = some (u j) ∧ (S.getD j Sp.any).holds (u j) w'
/-- The goals from operation s on. -/
def Hop (P : Program) (l : List Oper) (S : List Sp) (a : Act) (w : World) (s : Nat) : Prop :=
  ∀ (i : Nat) (o : Oper), l[i]? = some o → s ≤ i → ∀ (u : Nat → Value) (w1 : World), Below w.heap.size w w1 → Deps S u w1 o.after.toList →
    wpList P l.toArray (RelEnd a.defers o.dst (S.getD i Sp.any) w1) [o] (putDeps l.toArray u o.after.toList a) w1
theorem Hop.of {s : Nat} (h : RelGoals P l.toArray S a w (l.drop s) s) : Hop P l S a w s := fun i o ho hi u w1 hb hd => by
  have := RelGoals.at (l.drop s) s h (i - s) o (by rw [List.getElem?_drop, show s + (i - s) = i by omega]; exact ho) u w1 hb hd
  rw [show s + (i - s) = i by omega] at this
  exact this
theorem getD_set_false {listed : Array Bool} {i j : Nat} (h : i ≠ j) : (listed.setIfInBounds i true).getD j false = listed.getD j false := getD_set_ne false h
theorem eval_agree {b b' : Act} {ops : Array Oper} {o : Oper} (h : ∀ t ∈ o.looksAt ops, b.tmps[t]? = b'.tmps[t]?) : ∀ x ∈ o.op.operands, b.eval x = b'.eval x := by
  intro x hx
  cases x with
  | tmp t =>
    have ht : t ∈ o.looksAt ops := List.mem_append_left _ (List.mem_filterMap.2 ⟨.tmp t, by simpa using hx, rfl⟩)
    show b.tmps.getD t undef = b'.tmps.getD t undef
    rw [Array.getD_eq_getD_getElem?, Array.getD_eq_getD_getElem?, h t ht]
  | _ => rfl
theorem wanted_agree {b b' : Act} {ops : Array Oper} {o : Oper} (h : ∀ t ∈ o.looksAt ops, b.tmps[t]? = b'.tmps[t]?) : Region.wanted o (yielded ops b.tmps) = Region.wanted o (yielded ops b'.tmps) := by
  unfold Region.wanted
  cases hg : o.guard with
  | none => rfl
  | some gw =>
    obtain ⟨g, want⟩ := gw
    have hy : yielded ops b.tmps g = yielded ops b'.tmps g := by
      unfold yielded
      cases ht : (ops[g]?).bind (·.dst) with
      | none => rfl
      | some t =>
        have := h t (by simp [Oper.looksAt, hg, ht])
        simp only [Option.bind_some, this]
    simp only [hy]
end
end Go.Proofs.YtkofjkadmknmjaaDoor
namespace Go.Proofs.YtkofjkadmknmjaaDoor
open Go.RowKit

section
variable {P : Program} {Q : Exit → Act → World → Prop} {ops : Array Oper} {n : Nat} {lr : Nat}
theorem upon_in {o : Oper} {a : Act} {next : Act → World → Prop} {r : Result Next} (h : o.upon P a next Q r) : o.uponIn (Fence.wide.inRound lr) n P a next Q r := by
  cases r with
  | ok x w' =>
    cases x with
    | value v => exact h
    | skip => exact h
    | defer d => exact h
    | enter f args => exact ⟨(fun e => by cases e), CallsIn.inRound lr (callsIn_wide.2 h)⟩
    | row row args => exact ⟨(fun e => by cases e), fun c cs _ => let ⟨v, w', r, s⟩ := h c cs; ⟨v, w', r, stepsIn_wide.2 s⟩⟩
    | _ => exact absurd h (by simp [Oper.upon])
  | halt x w' => cases x <;> first | exact h | exact absurd h (by simp [Oper.upon])
theorem oper_in {o : Oper} {a : Act} {w : World} {next : Act → World → Prop} (hd : ∀ c, o.op ≠ .defer c) (h : o.wp P a w next Q) : o.wpIn (Fence.wide.inRound lr) n P a w next Q := by
  refine ⟨fun _ _ => trivial, ?_⟩
  rw [Oper.semAt_eq _ _ _ hd]
  exact upon_in h
theorem wpOp_in {i : Nat} {K : Act → World → Prop} {a : Act} {w : World} (hd : ∀ o ∈ ops.toList, ∀ c, o.op ≠ .defer c) (hQ : ¬ LetsOut Q) (h : wpOp P ops Q i K a w) : wpOpIn (Fence.wide.inRound lr) n P ops Q i K a w := by
  unfold wpOp at h
  unfold wpOpIn
  cases ho : ops[i]? with
  | none => rw [ho] at h; exact h
  | some o =>
    rw [ho] at h
    have hm : o ∈ ops.toList := by
      obtain ⟨hlt, he⟩ := Array.getElem?_eq_some_iff.1 ho
      rw [← he]; exact Array.getElem_mem_toList hlt
    simp only at h ⊢
    split
    · rename_i hw
      rw [if_pos hw] at h
      rcases h with h | ⟨_, h⟩
      · exact oper_in (hd o hm) h
      · exact absurd h hQ
    · rename_i hw
      rw [if_neg hw] at h
      exact ⟨fun _ _ => trivial, h⟩
theorem wpAny_in (hd : ∀ o ∈ ops.toList, ∀ c, o.op ≠ .defer c) (hQ : ¬ LetsOut Q) {md : Region.Mode} : ∀ (fuel : Nat) (listed : Array Bool) (a : Act) (w : World), wpAny P md ops Q fuel listed a w → wpAnyIn (Fence.wide.inRound lr) n P md ops Q fuel listed a w
  | 0, _, _, _, h => h
  | fuel + 1, listed, a, w, h => ⟨h.1, fun i hi => by
    have h2 := h.2 i hi
    exact wpOp_in hd hQ (wpOp_mono (fun a w h => wpAny_in hd hQ fuel _ a w h) h2)⟩
end
def noDefer (l : List Oper) : Bool := l.all fun o => match o.op with | .defer _ => false | _ => true
theorem noDefer_spec {l : List Oper} (h : noDefer l = true) : ∀ o ∈ l.toArray.toList, ∀ c, o.op ≠ .defer c := by
  intro o ho c e
  have := List.all_eq_true.1 h o (by simpa using ho)
  rw [e] at this
  cases this
end Go.Proofs.YtkofjkadmknmjaaDoor
namespace Go.Proofs.YtkofjkadmknmjaaDoor
open Go.RowKit

/-- An iterator that hands over N things in a known order; q: the block that it writes. -/
def IdxSeq (F : Fence) (n : Nat) (P : Program) (g : Nat) (lb : Array Value) (encs : Nat → Array Value) (Kp : World → World → Prop) (q : Option Nat) (N : Nat) (T : World → Prop) : Prop :=
  ∀ (l : Nat) (J : Nat → World → Prop) (W : World), (∀ k A B, J k A → A.grownBy B q → J k B) →
    (∀ k W1, k < N → J k W1 → YieldAt F (n - 1) P l (encs k) W1 fun e W' => e = .returned (.bool true) ∧ J (k + 1) W' ∧ Kp W1 W') →
    T W → J 0 W → CallsIn F n P g (#[.func (.yield l) #[] #[]] ++ lb) W fun e W' => (∃ v, e = .returned v) ∧ J N W'
/-- What a round's body owes. -/
def roundOwes (B : Nat) (Kp : World → World → Prop) (I : Nat → World → Prop) (k : Nat) (W : World) : Exit → Act → World → Prop
  | .normal, _, W' => KeepsFrom B W W' ∧ Kp W W' ∧ I (k + 1) W'
  | _, _, _ => False
theorem grownBy_same {A B : World} {q : Option Nat} (h : A.grownBy B q) {k : Nat} {o : Obj} (hk : A.heap[k]? = some o) (hq : q ≠ some k) : B.heap[k]? = some o :=
  (h.block k (Array.getElem?_eq_some_iff.1 hk).1 (fun e => hq e.symm)).trans hk
theorem wpIn_rangeFunc_idx {F : Fence} {n : Nat} {P : Program} {g : Operand} {ps : Array Tmp} {assign body : Code} {Q : Exit → Act → World → Prop} {a : Act} {w : World}
    (hro : F.round = none) (h1 : 1 ≤ n) {gf : Nat} {lb : Array Value} (hg : a.eval g = .func (.func gf) #[] lb) (hFg : F.fn gf) (eg : ∀ args w, (callFunc gf args).run P w = .ok (.enter gf args) w)
    {encs : Nat → Array Value} {Kp : World → World → Prop} {q : Option Nat} {N : Nat} {T : World → Prop} (hseq : IdxSeq F (n - 1) P gf lb encs Kp q N T) (hq : ∀ k, q = some k → k < w.heap.size)
    (hT : ∀ W', Below w.heap.size w W' → T W')
    (hKt : ∀ {A B C : World}, Kp A B → Kp B C → Kp A C) (hKb : ∀ (W : World) (l : Nat) (o o' : Obj), w.heap.size ≤ l → W.heap[l]? = some o → o.isCells = false → o.isWalk = false → Kp W (W.putObj l o')) (hps : ∀ x, (encs x).size = ps.size)
    (I : Nat → World → Prop) (hIq : ∀ k A B, I k A → A.grownBy B q → I k B) (hI : OwnFrom w.heap.size I) (h0 : I 0 w) (Ax : Nat → Act → World → Prop) (hAx : ∀ x a', OwnFrom w.heap.size (fun (_ : Unit) W => Ax x a' W))
    (hassign : ∀ (l k : Nat) (W : World) (K : Act → World → Prop), k < N → I k W → (∀ a' W', KeepsFrom w.heap.size W W' → Kp W W' → I k W' → Ax k a' W' → K a' W') →
      assign.wpIn (F.inRound l) (n - 1 - 1) P (Exit.then K (fun _ _ _ => False)) { tmps := (ps.zip (encs k)).foldl (fun t (p, v) => t.setIfInBounds p v) a.tmps, defers := [] } W)
    (hbody : ∀ (l k : Nat) (a' : Act) (W : World), k < N → w.heap.size ≤ l → I k W → Ax k a' W → body.wpIn (F.inRound l) (n - 1 - 1) P (roundOwes w.heap.size Kp I k W) a' W)
    (hdone : ∀ (D : Nat) (W : World), w.heap.size ≤ D → I N W → W.heap[D]? = some (.deferred (some [])) → Q .normal { a with defers := { target := .collected D, args := #[] } :: a.defers } W) :
    (Code.rangeFunc g ps assign body).wpIn F n P Q a w := by
  refine wpIn_rangeFunc ?_
  intro fn hfn
  rw [hro]
  obtain ⟨rec, hrec⟩ : ∃ rec : LoopState → Option Code → Loop, rec = fun st pe => { state := st, pending := pe, fn, tmps := a.tmps, params := ps, assign, body, defers := w.heap.size } := ⟨_, rfl⟩
  obtain ⟨W1, hW1⟩ : ∃ W1, (w.alloc (.deferred (some []))).alloc (.loop (rec .ready none)) = W1 := ⟨_, rfl⟩
  have hL1 : W1.heap[w.heap.size + 1]? = some (.loop (rec .ready none)) := by
    rw [← hW1]; have := World.alloc_heap_new (w.alloc (.deferred (some []))) (.loop (rec .ready none)); rwa [World.size_alloc] at this
  have hK1 : W1.heap[w.heap.size]? = some (.deferred (some [])) := by
    rw [← hW1]; exact (Below.heap_alloc _ _ _ (by simp)).trans (World.alloc_heap_new w _)
  have hI1 : I 0 W1 := by rw [← hW1]; exact hI.alloc _ (hI.alloc _ h0)
  have hb1 : Below w.heap.size w W1 := by
    rw [← hW1]; exact ((Below.refl _ w).alloc (Nat.le_refl _) _).alloc (by simp) _
  have hql : q ≠ some (w.heap.size + 1) := fun e => by have := hq _ e; omega
  have hqD : q ≠ some w.heap.size := fun e => by have := hq _ e; omega
  refine ⟨w.heap.size + 1, [{ target := .collected w.heap.size, args := #[] }], W1, { target := .fn (.func gf) lb, args := #[.func (.yield (w.heap.size + 1)) #[] #[]] }, W1, gf,
    #[.func (.yield (w.heap.size + 1)) #[] #[]] ++ lb, W1, ?_, ?_, ?_, ?_, fun _ => h1, ?_⟩
  · rw [← hW1, hrec]; exact run_enterLoop_outer _ _ _ _ _
  · simp only [resolve, hg]
    simp [go_sem]
  · intro f' hf'; simp [Target.leads] at hf'; subst hf'; exact hFg
  · simp [invoke, go_sem, eg]
  · refine (hseq (w.heap.size + 1)
      (fun k W => I k W ∧ W.heap[w.heap.size + 1]? = some (.loop (rec .ready none)) ∧ W.heap[w.heap.size]? = some (.deferred (some [])))
      W1 (fun k A B hs hg' => ⟨hIq k A B hs.1 hg', grownBy_same hg' hs.2.1 hql, grownBy_same hg' hs.2.2 hqD⟩) ?_ (hT _ hb1) ⟨hI1, hL1, hK1⟩).mono ?_
    · rintro k W hkN ⟨hi, hl, hk⟩
      have hlt : w.heap.size + 1 < W.heap.size := (Array.getElem?_eq_some_iff.1 hl).1
      have hy := run_yield (P := P) (args := encs k) hl (by rw [hrec]; exact hps k)
      rw [hrec] at hy
      refine ⟨fn, _, assign, body, hy, roundIn_of_wpIn hfn (hassign _ k W _ hkN hi ?_)⟩
      clear hy
      intro a' Wa hkfa hkpa hia hax
      replace hl := hkfa.same _ _ (by omega) hl rfl
      replace hk := hkfa.same _ _ (Nat.le_refl _) hk rfl
      replace hlt : w.heap.size + 1 < Wa.heap.size := (Array.getElem?_eq_some_iff.1 hl).1
      refine ⟨_, run_beginRound hl (by rw [hrec]), ?_⟩
      have hl2 : (Wa.putObj (w.heap.size + 1) (.loop { rec .ready none with state := .busy })).heap[w.heap.size + 1]? = some (.loop { rec .ready none with state := .busy }) := World.putObj_heap_same hlt
      have hk2 : (Wa.putObj (w.heap.size + 1) (.loop { rec .ready none with state := .busy })).heap[w.heap.size]? = some (.deferred (some [])) := (World.putObj_heap_other (by omega)).trans hk
      have hw2 : Kp Wa (Wa.putObj (w.heap.size + 1) (.loop { rec .ready none with state := .busy })) := hKb _ _ _ _ (by omega) hl rfl rfl
      refine wpIn_mono (hbody _ k a' _ hkN (by omega) (hI.putObj _ hia (by omega) hl rfl) ((hAx k a').putObj (s := ()) _ hax (by omega) hl rfl)) ?_
      rintro e a3 W3 hp
      cases e with
      | normal =>
        obtain ⟨hk3, hkp3, hi3⟩ := hp
        have hl3 := hk3.same _ _ (by omega) hl2 rfl
        have hr := run_endRound (P := P) none hl3
        rw [hrec] at hr
        refine ⟨_, _, hr, rfl, ⟨hI.putObj _ hi3 (by omega) hl3 rfl, ?_, (World.putObj_heap_other (by omega)).trans (hk3.same _ _ (Nat.le_refl _) hk2 rfl)⟩, hKt hkpa (hKt (hKt hw2 hkp3) (hKb _ _ _ _ (by omega) hl3 rfl rfl))⟩
        rw [hrec]; exact World.putObj_heap_same (Array.getElem?_eq_some_iff.1 hl3).1
      | ret => exact hp.elim
      | exit id => exact hp.elim
      | goto t => exact hp.elim
      | panic ch => exact hp.elim
      | outgrown => exact hp.elim
    · rintro e W2 ⟨⟨v, rfl⟩, hi, hl, hk⟩
      exact ⟨none, _, by have := run_endLoop (P := P) hl (by rw [hrec]; simp); rw [hrec] at this; exact this, hdone _ _ (Nat.le_refl _) (hI.putObj _ hi (by omega) hl rfl) ((World.putObj_heap_other (by omega)).trans hk)⟩
end Go.Proofs.YtkofjkadmknmjaaDoor
namespace Go.Proofs.YtkofjkadmknmjaaDoor
open Go.RowKit Go.Shelf Go.Maps

/-- What a round leaves: the iterator's own box, and the table of math/bits. -/
def KpE (q : Nat) (A B : World) : Prop := B.heap[q]? = A.heap[q]? ∧ B.heap[0]? = A.heap[0]?
theorem KpE.trans {q : Nat} {A B C : World} (h : KpE q A B) (k : KpE q B C) : KpE q A C := ⟨k.1.trans h.1, k.2.trans h.2⟩
/-- The box holds what is to come. -/
def EachT (q s : Nat) (W : World) : Prop := W.heap[q]? = some (.cells #[.int .u32 s] 35 (0, 0)) ∧ Tab W
theorem Tab.heap {A B : World} (h : Tab A) (e : B.heap[0]? = A.heap[0]?) : Tab B := fun j hj => (World.cell?_of_block (w := A) (a := ⟨_, j, none⟩) e).trans (h j hj)
theorem EachT.keep {q s : Nat} {A B : World} (h : EachT q s A) (k : KpE q A B) : EachT q s B := ⟨k.1.trans h.1, h.2.heap k.2⟩
theorem EachT.store {q s : Nat} {A : World} (h : EachT q s A) (s' : Nat) (hqt : q ≠ 0) : EachT q s' (A.setCell ⟨q, 0, none⟩ (.int .u32 s')) :=
  ⟨box_set _ h.1, h.2.heap (Below.heap_setCell _ _ _ _ (fun e => hqt e.symm))⟩
def eachEnc (s : Nat) (k : Nat) : Array Value := #[.int .i64 (((idx s).getD k 0 : Nat) : Int)]
set_option maxRecDepth 100000 in
set_option maxHeartbeats 1000000 in
theorem each_seq (n : Nat) (hn : 1 ≤ n) (q s : Nat) (hs : s < 4294967296) (hqt : q ≠ 0) :
    IdxSeq Fence.wide n Tryd.prog 82 #[.pointer (some ⟨q, 0, none⟩)] (eachEnc s) (KpE q) (some q) (idx s).length (EachT q s) := by
  intro l J W hJq hY hT0 h0
  show CallsIn Fence.wide n Tryd.prog 82 #[.func (.yield l) #[] #[], .pointer (some ⟨q, 0, none⟩)] W _
  refine callsIn_of_wp Tryd.func82 rfl trivial ?_ rfl
  simp only [Tryd.ntmps82, List.size_toArray, List.length_cons, List.length_nil, Nat.reduceAdd, Nat.reduceSub, Array.replicate_succ, Array.replicate_zero, List.push_toArray, List.append_toArray, List.nil_append, List.cons_append]
  gi_wp2
  gi_loopw [3] (fun _ wr => ∃ (k s' : Nat), s' < 4294967296 ∧ k ≤ (idx s).length ∧ Hid (idx s' = (idx s).drop k) ∧ EachT q s' wr ∧ J k wr) (fun _ wr => match wr.cell? ⟨q, 0, none⟩ with | some (.int _ z) => z.toNat | _ => 0)
  case atStart => exact ⟨0, s, hs, by omega, rfl, hT0, h0⟩
  case round =>
    obtain ⟨k, s', hs2, hk, hp, hE, hJ⟩ := hrel
    obtain ⟨hc, hf⟩ := box_cell hE.1
    have hT := hE.2
    by_cases hz : s' = 0
    · subst hz
      have hend : k = (idx s).length := by
        have := congrArg List.length hp.out
        rw [idx_zero, List.length_drop] at this
        simp only [List.length_nil] at this
        omega
      gi_wp2
      go_end0
      exact ⟨⟨_, rfl⟩, by rw [← hend]; exact hJ⟩
    · obtain ⟨hi1, hi2⟩ := idx_low hz hs2
      have hlen : k < (idx s).length := by
        have := congrArg List.length hp.out
        rw [hi1, List.length_drop, List.length_cons] at this
        omega
      have hx : (idx s).getD k 0 = Lib.ctz 32 s' := by
        have h1 := hp.out
        rw [hi1, List.drop_eq_getElem_cons hlen] at h1
        injection h1 with h1 _
        rw [List.getD_eq_getElem?_getD, List.getElem?_eq_getElem hlen, h1]; rfl
      have hp2 := Lib.hid (show idx (s' &&& (s' - 1)) = (idx s).drop (k + 1) by
        have h1 := hp.out
        rw [hi1, List.drop_eq_getElem_cons hlen] at h1
        injection h1 with _ h1)
      obtain ⟨fn, tmps, assign, body, hy, hR⟩ := hY k wr hlen hJ
      unfold eachEnc at hy
      rw [hx] at hy
      have hne : (!((s' : Int) == 0)) = true := by simp; omega
      gi_wp2_with (first
        | (refine ⟨trivial, ?_⟩; gi_at_call 83; refine (callsIn_wide.2 (c_tz s' (by omega) hz _ hT)).mono ?_; rintro e w1 ⟨rfl, rfl⟩)
        | (gi_at_call 83; refine (callsIn_wide.2 (c_tz s' (by omega) hz _ hT)).mono ?_; rintro e w1 ⟨rfl, rfl⟩))
      refine hR.mono ?_
      rintro e W3 ⟨rfl, hJ3, hK3⟩
      have hE3 := hE.keep hK3
      obtain ⟨hc3, hf3⟩ := box_cell hE3.1
      have hE4 := hE3.store (s' &&& (s' - 1)) hqt
      have hJ4 := hJq _ _ _ hJ3 (setCell_grown W3 q (.int .u32 ((s' &&& (s' - 1) : Nat) : Int)))
      obtain ⟨hc4, _⟩ := box_cell hE4.1
      have hb1 : (1 : Int) ≤ s' := by omega
      have hb2 : (s' : Int) ≤ 4294967295 := by omega
      have ha : bits .and .u32 (s' : Int) ((s' : Int) - 1) = ((s' &&& (s' - 1) : Nat) : Int) := by
        have := and_u32 s' (s' - 1) (by omega) (by omega)
        rw [← this]
        congr 1
        omega
      have C4 := Lib.hid hc4
      clear hc4 hy
      gi_wp2
      go_roundw
      case rel => exact ⟨k + 1, s' &&& (s' - 1), by omega, by omega, hp2.out, hE4, hJ4⟩
      case measure => rw [C4.out, hc]; simpa using hi2
end Go.Proofs.YtkofjkadmknmjaaDoor
namespace Go.Proofs.YtkofjkadmknmjaaDoor

theorem or_pow : ∀ (n s : Nat), s.testBit n = false → s ||| 2 ^ n = s + 2 ^ n
  | 0, s, h => by
    have hm : s % 2 = 0 := by
      rw [Nat.testBit_zero] at h
      have : ¬ s % 2 = 1 := by simpa using h
      omega
    have d : (s ||| 2 ^ 0) / 2 = s / 2 := by rw [Nat.or_div_two]; simp
    have m : (s ||| 2 ^ 0) % 2 = 1 := Nat.or_mod_two_eq_one.2 (.inr rfl)
    have e : 2 ^ 0 = 1 := rfl
    omega
  | n + 1, s, h => by
    have ih := or_pow n (s / 2) (by rw [Nat.testBit_succ] at h; exact h)
    have e : 2 ^ (n + 1) = 2 ^ n * 2 := Nat.pow_succ ..
    have d : (s ||| 2 ^ (n + 1)) / 2 = s / 2 ||| 2 ^ n := by rw [Nat.or_div_two, e, Nat.mul_div_cancel _ (by omega)]
    have m : (s ||| 2 ^ (n + 1)) % 2 = s % 2 := by
      have hi : (s ||| 2 ^ (n + 1)) % 2 = 1 ↔ s % 2 = 1 ∨ 2 ^ (n + 1) % 2 = 1 := Nat.or_mod_two_eq_one
      have h2 : 2 ^ (n + 1) % 2 = 0 := by omega
      rcases Nat.mod_two_eq_zero_or_one s with h3 | h3 <;> rcases Nat.mod_two_eq_zero_or_one (s ||| 2 ^ (n + 1)) with h4 | h4 <;> omega
    omega
theorem clr_bit (s n i : Nat) (hs : s < 4294967296) (hn : n < 32) : (s &&& (4294967295 - 2 ^ n)).testBit i = (s.testBit i && !decide (n = i)) := by
  have hp : (2 : Nat) ^ n < 2 ^ 32 := Nat.pow_lt_pow_right (by omega) (by omega)
  have e : 4294967295 - 2 ^ n = 2 ^ 32 - (2 ^ n + 1) := by omega
  rw [Nat.testBit_and, e, Nat.testBit_two_pow_sub_succ hp, Nat.testBit_two_pow]
  by_cases hi : i < 32
  · simp [hi]
  · have : s.testBit i = false := Nat.testBit_lt_two_pow (Nat.lt_of_lt_of_le hs (Nat.pow_le_pow_right (n := 2) (by omega) (Nat.le_of_not_lt hi)))
    simp [this]
theorem clr_pow (s n : Nat) (hs : s < 4294967296) (hn : n < 32) : s &&& (4294967295 - 2 ^ n) = if s.testBit n then s - 2 ^ n else s := by
  have hb := fun i => clr_bit s n i hs hn
  cases h : s.testBit n
  · simp only [Bool.false_eq_true, if_false]
    refine Nat.eq_of_testBit_eq fun i => ?_
    rw [hb]
    by_cases hi : n = i
    · subst hi; rw [h]; rfl
    · simp [hi]
  · simp only [if_true]
    have h1 : (s &&& (4294967295 - 2 ^ n)) ||| 2 ^ n = s := by
      refine Nat.eq_of_testBit_eq fun i => ?_
      rw [Nat.testBit_or, hb, Nat.testBit_two_pow]
      by_cases hi : n = i
      · subst hi; simp [h]
      · simp [hi]
    have h2 := or_pow n (s &&& (4294967295 - 2 ^ n)) (by rw [hb]; simp)
    omega
end Go.Proofs.YtkofjkadmknmjaaDoor
