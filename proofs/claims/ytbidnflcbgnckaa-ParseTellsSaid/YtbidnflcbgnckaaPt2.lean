/-
  Lemmas (walks and plain laws), in one text.
-/
import Derived.Test.YtbidnflcbgnckaaPt1
import Derived.StillTail
import Derived.Laws.Rows
import Derived.Laws.Tables
import Derived.ChangeKeysEq
import Derived.Laws.StructEq
import Derived.Test.YtbidnflcbgnckaaProg
namespace Go.Proofs.Ytbidnflcbgnckaa
open Go.RowKit

/-- What is told of an operation's value. -/
structure Sp where
  holds : Value → World → Prop
  stays : ∀ v w w', holds v w → Below w.heap.size w w' → holds v w'
def Sp.any : Sp := ⟨fun _ _ => True, fun _ _ _ _ _ => trivial⟩
def Sp.eq (x : Value) : Sp := ⟨fun v _ => v = x, fun _ _ _ h _ => h⟩
def Sp.slice {α : Type} (k : Nat) (cs : α → List Value) (l : List α) : Sp := ⟨fun v w => ∃ A c, v = .slice A l.length c ∧ In k cs w A c l, fun _ _ _ ⟨A, c, hv, h⟩ hb => ⟨A, c, hv, h.below hb⟩⟩
theorem Sp.eq_holds (x v : Value) (w : World) : (Sp.eq x).holds v w = (v = x) := rfl
theorem Sp.slice_holds {α : Type} (k : Nat) (cs : α → List Value) (l : List α) (v : Value) (w : World) : (Sp.slice k cs l).holds v w = ∃ A c, v = .slice A l.length c ∧ In k cs w A c l := rfl

def dstOf (ops : Array Oper) (j : Nat) : Option Tmp := (ops[j]?).bind (·.dst)
/-- The frame with all values put. -/
def putAll (u : Nat → Value) : List Oper → Nat → Act → Act
  | [], _, a => a
  | o :: r, i, a => putAll u r (i + 1) (a.put o.dst (u i))
/-- The frame with the values of what is waited for. -/
def putDeps (ops : Array Oper) (u : Nat → Value) : List Edge → Act → Act
  | [], a => a
  | e :: r, a => putDeps ops u r (if Region.binds .any e = true then a.put (dstOf ops e.on) (u e.on) else a)
def Deps (S : List Sp) (u : Nat → Value) (w : World) : List Edge → Prop
  | [] => True
  | e :: r => (Region.binds .any e = true → (S.getD e.on Sp.any).holds (u e.on) w) ∧ Deps S u w r
def RelEnd (ds : List Deferred) (d : Option Tmp) (s : Sp) (w1 : World) (e : Exit) (a' : Act) (w' : World) : Prop :=
  e = .normal ∧ a'.defers = ds ∧ Below w1.heap.size w1 w' ∧ ∀ t, d = some t → s.holds (a'.tmps.getD t undef) w'
theorem RelEnd.mk {ds : List Deferred} {d : Tmp} {s : Sp} {w1 : World} {a' : Act} {w' : World} (h1 : a'.defers = ds) (h2 : Below w1.heap.size w1 w') (h3 : s.holds (a'.tmps.getD d undef) w') : RelEnd ds (some d) s w1 .normal a' w' :=
  ⟨rfl, h1, h2, fun t e => by injection e with e; subst e; exact h3⟩
def RelGoals (P : Program) (ops : Array Oper) (S : List Sp) (a : Act) (w : World) : List Oper → Nat → Prop
  | [], _ => True
  | o :: r, i => (∀ (u : Nat → Value) (w1 : World), Below w.heap.size w w1 → Deps S u w1 o.after.toList → wpList P ops (RelEnd a.defers o.dst (S.getD i Sp.any) w1) [o] (putDeps ops u o.after.toList a) w1) ∧ RelGoals P ops S a w r (i + 1)
def RelHold (u : Nat → Value) (w : World) : List Sp → Nat → Prop
  | [], _ => True
  | s :: r, i => s.holds (u i) w ∧ RelHold u w r (i + 1)
def relB (ops : Array Oper) (N : Nat) : Bool :=
  (List.range ops.size).all fun i => match ops[i]? with
    | none => false
    | some o =>
      (match o.dst with
        | none => false
        | some d => decide (d < N) && (List.range ops.size).all (fun j => j == i || dstOf ops j != some d)) &&
      (match o.op with
        | .select .. => false
        | _ => true) &&
      o.after.all (fun e => !Region.binds .any e || decide (e.on < i)) &&
      (o.looksAt ops).all (fun t => (List.range ops.size).all fun j => dstOf ops j != some t || o.after.any (fun e => Region.binds .any e && e.on == j) ||
        (match ops[j]? with
          | none => false
          | some oj => oj.after.any (fun e => Region.binds .any e && e.on == i)))
section
variable {ops : Array Oper} {N : Nat}
theorem relB_spec (h : relB ops N = true) {i : Nat} {o : Oper} (ho : ops[i]? = some o) :
    (∃ d, o.dst = some d ∧ d < N ∧ ∀ j, dstOf ops j = some d → j = i) ∧ (∀ cs b, o.op ≠ .select cs b) ∧ (∀ e ∈ o.after, Region.binds .any e = true → e.on < i) ∧
    (∀ t ∈ o.looksAt ops, ∀ j, dstOf ops j = some t → (∃ e ∈ o.after, Region.binds .any e = true ∧ e.on = j) ∨ (∃ oj, ops[j]? = some oj ∧ ∃ e ∈ oj.after, Region.binds .any e = true ∧ e.on = i)) := by
  have hi : i < ops.size := (Array.getElem?_eq_some_iff.1 ho).1
  have hlt : ∀ j t, dstOf ops j = some t → j < ops.size := fun j t hj => by
    rcases Nat.lt_or_ge j ops.size with h | h
    · exact h
    · simp [dstOf, Array.getElem?_eq_none h] at hj
  unfold relB at h
  rw [List.all_eq_true] at h
  have h1 := h i (List.mem_range.2 hi)
  rw [ho] at h1
  simp only [Bool.and_eq_true] at h1
  obtain ⟨⟨⟨h2, h3⟩, h4⟩, h5⟩ := h1
  refine ⟨?_, ?_, ?_, ?_⟩
  · cases hd : o.dst with
    | none => rw [hd] at h2; cases h2
    | some d =>
      rw [hd] at h2
      simp only [Bool.and_eq_true, decide_eq_true_eq] at h2
      refine ⟨d, rfl, h2.1, fun j hj => ?_⟩
      have := List.all_eq_true.1 h2.2 j (List.mem_range.2 (hlt j d hj))
      simp only [Bool.or_eq_true, beq_iff_eq, bne_iff_ne] at this
      exact this.resolve_right (fun hn => hn hj)
  · intro cs b hs
    rw [hs] at h3
    cases h3
  · intro e he hb
    have := Array.all_eq_true_iff_forall_mem.1 h4 e he
    simpa [hb] using this
  · intro t ht j hj
    have := List.all_eq_true.1 (List.all_eq_true.1 h5 t ht) j (List.mem_range.2 (hlt j t hj))
    simp only [Bool.or_eq_true, bne_iff_ne] at this
    rcases this with (h6 | h6) | h6
    · exact absurd hj h6
    · left
      rw [Array.any_eq_true'] at h6
      obtain ⟨e, he, h7⟩ := h6
      simp only [Bool.and_eq_true, beq_iff_eq] at h7
      exact ⟨e, he, h7.1, h7.2⟩
    · right
      cases hoj : ops[j]? with
      | none => rw [hoj] at h6; cases h6
      | some oj =>
        rw [hoj] at h6
        simp only at h6
        rw [Array.any_eq_true'] at h6
        obtain ⟨e, he, h7⟩ := h6
        simp only [Bool.and_eq_true, beq_iff_eq] at h7
        exact ⟨oj, rfl, e, he, h7.1, h7.2⟩
theorem put_size (a : Act) (d : Option Tmp) (v : Value) : (a.put d v).tmps.size = a.tmps.size := by cases d <;> simp [Act.put]
theorem put_defers (a : Act) (d : Option Tmp) (v : Value) : (a.put d v).defers = a.defers := by cases d <;> rfl
theorem put_get_ne (a : Act) {d : Option Tmp} (v : Value) {t : Tmp} (h : d ≠ some t) : (a.put d v).tmps[t]? = a.tmps[t]? := by
  cases d with
  | none => rfl
  | some d => simp only [Act.put]; rw [Array.getElem?_setIfInBounds_ne (fun e => h (by rw [e]))]
theorem put_get_eq (a : Act) (v : Value) {t : Tmp} (h : t < a.tmps.size) : (a.put (some t) v).tmps[t]? = some v := by
  simp only [Act.put]
  rw [Array.getElem?_setIfInBounds]
  simp [h]
theorem putDeps_size (u : Nat → Value) : ∀ (es : List Edge) (a : Act), (putDeps ops u es a).tmps.size = a.tmps.size ∧ (putDeps ops u es a).defers = a.defers
  | [], a => ⟨rfl, rfl⟩
  | e :: r, a => by
    unfold putDeps
    have := putDeps_size u r (if Region.binds .any e = true then a.put (dstOf ops e.on) (u e.on) else a)
    split at this
    · rename_i hb
      rw [if_pos hb]
      exact ⟨this.1.trans (put_size _ _ _), this.2.trans (put_defers _ _ _)⟩
    · rename_i hb
      rw [if_neg hb]
      exact this
theorem putDeps_miss (u : Nat → Value) {t : Tmp} : ∀ (es : List Edge) (a : Act), (∀ e ∈ es, Region.binds .any e = true → dstOf ops e.on ≠ some t) → (putDeps ops u es a).tmps[t]? = a.tmps[t]?
  | [], a, _ => rfl
  | e :: r, a, h => by
    unfold putDeps
    rw [putDeps_miss u r _ (fun e' he' => h e' (List.mem_cons_of_mem _ he'))]
    split
    · rename_i hb
      exact put_get_ne _ _ (h e (List.mem_cons_self ..) hb)
    · rfl
theorem putDeps_hit (u : Nat → Value) {t : Tmp} {j : Nat} (hj : ∀ i, dstOf ops i = some t → i = j) : ∀ (es : List Edge) (a : Act), t < a.tmps.size → (∃ e ∈ es, Region.binds .any e = true ∧ dstOf ops e.on = some t) → (putDeps ops u es a).tmps[t]? = some (u j)
  | [], a, _, ⟨_, he, _⟩ => by cases he
  | e :: r, a, ht, ⟨e', he', hb', hd'⟩ => by
    unfold putDeps
    by_cases hex : ∃ e ∈ r, Region.binds .any e = true ∧ dstOf ops e.on = some t
    · refine putDeps_hit u hj r _ ?_ hex
      split
      · rw [put_size]; exact ht
      · exact ht
    · rw [putDeps_miss u r _ (fun x hx hb hd => hex ⟨x, hx, hb, hd⟩)]
      rcases List.mem_cons.1 he' with rfl | he'
      · rw [if_pos hb', hd', hj _ hd']
        exact put_get_eq _ _ ht
      · exact absurd ⟨e', he', hb', hd'⟩ hex
theorem putAll_size (u : Nat → Value) : ∀ (l : List Oper) (i : Nat) (a : Act), (putAll u l i a).tmps.size = a.tmps.size ∧ (putAll u l i a).defers = a.defers
  | [], _, a => ⟨rfl, rfl⟩
  | o :: r, i, a => by
    unfold putAll
    have := putAll_size u r (i + 1) (a.put o.dst (u i))
    exact ⟨this.1.trans (put_size _ _ _), this.2.trans (put_defers _ _ _)⟩
theorem putAll_miss (u : Nat → Value) {t : Tmp} : ∀ (l : List Oper) (i : Nat) (a : Act), (∀ o ∈ l, o.dst ≠ some t) → (putAll u l i a).tmps[t]? = a.tmps[t]?
  | [], _, a, _ => rfl
  | o :: r, i, a, h => by
    unfold putAll
    rw [putAll_miss u r (i + 1) _ (fun x hx => h x (List.mem_cons_of_mem _ hx))]
    exact put_get_ne _ _ (h o (List.mem_cons_self ..))
theorem putAll_hit (u : Nat → Value) {t : Tmp} : ∀ (l : List Oper) (i : Nat) (a : Act) (j : Nat) (o : Oper), t < a.tmps.size → l[j]? = some o → o.dst = some t → (∀ k x, l[k]? = some x → x.dst = some t → k = j) → (putAll u l i a).tmps[t]? = some (u (i + j))
  | [], _, _, _, _, _, h, _, _ => by simp at h
  | x :: r, i, a, 0, o, ht, h, hd, hu => by
    unfold putAll
    simp only [List.getElem?_cons_zero, Option.some.injEq] at h
    subst h
    rw [putAll_miss u r (i + 1) _ (fun y hy hyd => by
      obtain ⟨k, hk, rfl⟩ := List.getElem_of_mem hy
      have := hu (k + 1) r[k] (by simp [hk]) hyd
      omega), hd]
    exact put_get_eq _ _ ht
  | x :: r, i, a, j + 1, o, ht, h, hd, hu => by
    unfold putAll
    rw [putAll_hit u r (i + 1) _ j o (by rw [put_size]; exact ht) (by simpa using h) hd (fun k y hk hy => by have := hu (k + 1) y (by simpa using hk) hy; omega)]
    congr 2
    omega
end
section
variable {P : Program} {S : List Sp} {a : Act} {w : World} {l : List Oper}
theorem RelGoals.at {ops : Array Oper} : ∀ (l : List Oper) (i : Nat), RelGoals P ops S a w l i → ∀ (j : Nat) (o : Oper), l[j]? = some o → ∀ (u : Nat → Value) (w1 : World), Below w.heap.size w w1 → Deps S u w1 o.after.toList →
    wpList P ops (RelEnd a.defers o.dst (S.getD (i + j) Sp.any) w1) [o] (putDeps ops u o.after.toList a) w1
  | [], _, _, _, _, h => by simp at h
  | x :: r, i, hg, 0, o, h => by
    simp only [List.getElem?_cons_zero, Option.some.injEq] at h
    subst h
    exact hg.1
  | x :: r, i, hg, j + 1, o, h => by
    have := RelGoals.at r (i + 1) hg.2 j o (by simpa using h)
    rw [show i + 1 + j = i + (j + 1) by omega] at this
    exact this
theorem Deps.of {u : Nat → Value} {w1 : World} : ∀ es : List Edge, (∀ e ∈ es, Region.binds .any e = true → (S.getD e.on Sp.any).holds (u e.on) w1) → Deps S u w1 es
  | [], _ => trivial
  | e :: r, h => ⟨h e (List.mem_cons_self ..), Deps.of r (fun x hx => h x (List.mem_cons_of_mem _ hx))⟩
theorem RelHold.of {u : Nat → Value} {w1 : World} : ∀ (S : List Sp) (i : Nat), (∀ (j : Nat) (s : Sp), S[j]? = some s → s.holds (u (i + j)) w1) → RelHold u w1 S i
  | [], _, _ => trivial
  | s :: r, i, h => ⟨by simpa using h 0 s (by simp), RelHold.of r (i + 1) (fun j x hx => by have := h (j + 1) x (by simpa using hx); rwa [show i + (j + 1) = i + 1 + j by omega] at this)⟩
def RelInv (l : List Oper) (S : List Sp) (a : Act) (w : World) (listed : Array Bool) (a' : Act) (w' : World) : Prop :=
  Below w.heap.size w w' ∧ a'.defers = a.defers ∧ a'.tmps.size = a.tmps.size ∧
  (∀ j o, l[j]? = some o → listed.getD j false = true → ∀ e ∈ o.after, Region.binds .any e = true → listed.getD e.on false = true) ∧
  (∀ t, (∀ j o, l[j]? = some o → o.dst = some t → listed.getD j false = false) → a'.tmps[t]? = a.tmps[t]?) ∧
  ∃ u : Nat → Value, ∀ j o t, l[j]? = some o → o.dst = some t → listed.getD j false = true → a'.tmps[t]? = some (u j) ∧ (S.getD j Sp.any).holds (u j) w'
/-- The goals from operation s on. -/
def Hop (P : Program) (l : List Oper) (S : List Sp) (a : Act) (w : World) (s : Nat) : Prop :=
  ∀ (i : Nat) (o : Oper), l[i]? = some o → s ≤ i → ∀ (u : Nat → Value) (w1 : World), Below w.heap.size w w1 → Deps S u w1 o.after.toList →
    wpList P l.toArray (RelEnd a.defers o.dst (S.getD i Sp.any) w1) [o] (putDeps l.toArray u o.after.toList a) w1
theorem Hop.of {s : Nat} (h : RelGoals P l.toArray S a w (l.drop s) s) : Hop P l S a w s := fun i o ho hi u w1 hb hd => by
  have := RelGoals.at (l.drop s) s h (i - s) o (by rw [List.getElem?_drop, show s + (i - s) = i by omega]; exact ho) u w1 hb hd
  rw [show s + (i - s) = i by omega] at this
  exact this
theorem getD_set_false {listed : Array Bool} {i j : Nat} (h : i ≠ j) : (listed.setIfInBounds i true).getD j false = listed.getD j false := getD_set_ne false h
theorem eval_agree {b b' : Act} {ops : Array Oper} {o : Oper} (h : ∀ t ∈ o.looksAt ops, b.tmps[t]? = b'.tmps[t]?) : ∀ x ∈ o.op.operands, b.eval x = b'.eval x := by
  intro x hx
  cases x with
  | tmp t =>
    have ht : t ∈ o.looksAt ops := List.mem_append_left _ (List.mem_filterMap.2 ⟨.tmp t, by simpa using hx, rfl⟩)
    show b.tmps.getD t undef = b'.tmps.getD t undef
    rw [Array.getD_eq_getD_getElem?, Array.getD_eq_getD_getElem?, h t ht]
  | _ => rfl
theorem wanted_agree {b b' : Act} {ops : Array Oper} {o : Oper} (h : ∀ t ∈ o.looksAt ops, b.tmps[t]? = b'.tmps[t]?) : Region.wanted o (yielded ops b.tmps) = Region.wanted o (yielded ops b'.tmps) := by
  unfold Region.wanted
  cases hg : o.guard with
  | none => rfl
  | some gw =>
    obtain ⟨g, want⟩ := gw
    have hy : yielded ops b.tmps g = yielded ops b'.tmps g := by
      unfold yielded
      cases ht : (ops[g]?).bind (·.dst) with
      | none => rfl
      | some t =>
        have := h t (by simp [Oper.looksAt, hg, ht])
        simp only [Option.bind_some, this]
    simp only [hy]
theorem rel_step {Q : Exit → Act → World → Prop} {N : Nat} (hB : relB l.toArray N = true) (ha : a.tmps.size = N) {s : Nat} (hop : Hop P l S a w s) {listed : Array Bool} (hs : ∀ j, j < s → listed.getD j false = true) (hsz : listed.size = l.length) {a' : Act} {w' : World} (inv : RelInv l S a w listed a' w') {i : Nat} (hr : i ∈ Region.ready .any l.toArray listed) :
    wpOp P l.toArray Q i (RelInv l S a w (listed.setIfInBounds i true)) a' w' := by
  obtain ⟨hun, o, ho, hall⟩ := mem_ready.1 hr
  have hol : l[i]? = some o := by simpa using ho
  obtain ⟨⟨d, hd, hdN, huniq⟩, hsel, _, hlook⟩ := relB_spec hB ho
  obtain ⟨hbel, hdef, hsize, hclosed, hold, u, hu⟩ := inv
  have hil : i < l.length := by
    rcases Nat.lt_or_ge i l.length with h | h
    · exact h
    · simp [List.getElem?_eq_none h] at hol
  have hunf : listed.getD i false = false := by
    have : i < listed.size := by omega
    simpa [this] using hun
  have dst_at : ∀ j t, dstOf l.toArray j = some t → ∃ oj, l[j]? = some oj ∧ oj.dst = some t := fun j t h => by
    unfold dstOf at h
    rw [List.getElem?_toArray] at h
    cases hj : l[j]? with
    | none => rw [hj] at h; cases h
    | some oj => rw [hj] at h; exact ⟨oj, rfl, h⟩
  have dst_of : ∀ j oj t, l[j]? = some oj → oj.dst = some t → dstOf l.toArray j = some t := fun j oj t h h' => by
    unfold dstOf
    rw [List.getElem?_toArray, h]; exact h'
  have hdeps : Deps S u w' o.after.toList := Deps.of _ (fun e he hb => by
    have he' : e ∈ o.after := by simpa using he
    have hl := hall e he' hb
    have hlt : e.on < l.length := by
      have := (relB_spec hB ho).2.2.1 e he' hb
      omega
    obtain ⟨⟨t, ht, _⟩, _⟩ := relB_spec hB (i := e.on) (o := l[e.on]) (by simp [hlt])
    exact (hu e.on l[e.on] t (by simp [hlt]) ht hl).2)
  have hsi : s ≤ i := by
    rcases Nat.lt_or_ge i s with h | h
    · rw [hs i h] at hunf; cases hunf
    · exact h
  have hgoal := hop i o hol hsi u w' hbel hdeps
  have hF := putDeps_size (ops := l.toArray) u o.after.toList a
  generalize hFe : putDeps l.toArray u o.after.toList a = F at hgoal hF
  have agree : ∀ t ∈ o.looksAt l.toArray, F.tmps[t]? = a'.tmps[t]? := by
    intro t ht
    by_cases hex : ∃ e ∈ o.after.toList, Region.binds .any e = true ∧ dstOf l.toArray e.on = some t
    · obtain ⟨e, he, hb, hde⟩ := hex
      obtain ⟨oj, hj, hdj⟩ := dst_at _ _ hde
      have hw := (hu e.on oj t hj hdj (hall e (by simpa using he) hb)).1
      obtain ⟨⟨d', hd', hdN', huniq'⟩, _⟩ := relB_spec hB (i := e.on) (o := oj) (by simpa using hj)
      have : d' = t := by rw [hd'] at hdj; injection hdj
      subst this
      rw [hw, ← hFe]
      exact putDeps_hit u huniq' _ _ (by rw [ha]; exact hdN') ⟨e, he, hb, hde⟩
    · rw [← hFe, putDeps_miss u _ _ (fun e he hb hde => hex ⟨e, he, hb, hde⟩)]
      symm
      refine hold t (fun j oj hj hdj => ?_)
      cases hlj : listed.getD j false
      · rfl
      · rcases hlook t ht j (dst_of j oj t hj hdj) with ⟨e, he, hb, hej⟩ | ⟨oj', hoj', e, he, hb, hei⟩
        · exact absurd ⟨e, by simpa using he, hb, by rw [hej]; exact dst_of j oj t hj hdj⟩ hex
        · have : oj' = oj := by
            rw [List.getElem?_toArray, hj] at hoj'
            injection hoj' with hoj'
            exact hoj'.symm
          subst this
          have := hclosed j oj' hj hlj e he hb
          rw [hei, hunf] at this
          cases this
  have heval : execOp F.eval o = execOp a'.eval o := execOp_congr o hsel (eval_agree agree)
  have hwant := wanted_agree agree
  have fin : ∀ v w'', RelEnd a.defers o.dst (S.getD i Sp.any) w' .normal (F.put o.dst v) w'' → RelInv l S a w (listed.setIfInBounds i true) (a'.put o.dst v) w'' := by
    rintro v w'' ⟨_, _, hb2, hs⟩
    have hs' := hs d hd
    rw [hd] at hs'
    have hg : (F.put (some d) v).tmps.getD d undef = v := by
      have := put_get_eq F v (t := d) (by rw [hF.1, ha]; exact hdN)
      rw [Array.getD_eq_getD_getElem?, this]; rfl
    rw [hg] at hs'
    refine ⟨hbel.trans (hb2.mono hbel.size), by rw [put_defers, hdef], by rw [put_size, hsize], ?_, ?_, fun j => if j = i then v else u j, ?_⟩
    · intro j oj hj hlj e he hb
      by_cases hji : i = j
      · subst hji
        rw [hol] at hj
        injection hj with hj
        subst hj
        exact getD_set_true (hall e he hb)
      · rw [getD_set_false hji] at hlj
        exact getD_set_true (hclosed j oj hj hlj e he hb)
    · intro t ht
      have hne : o.dst ≠ some t := fun he => by
        have := ht i o hol he
        rw [show (listed.setIfInBounds i true).getD i false = true by simp [hsz, hil]] at this
        cases this
      rw [put_get_ne _ _ hne]
      refine hold t (fun j oj hj hdj => ?_)
      have hji : i ≠ j := fun e => by
        subst e
        rw [hol] at hj
        injection hj with hj
        subst hj
        exact hne hdj
      have := ht j oj hj hdj
      rwa [getD_set_false hji] at this
    · intro j oj t hj hdj hlj
      by_cases hji : j = i
      · subst hji
        rw [hol] at hj
        injection hj with hj
        subst hj
        rw [hd] at hdj
        injection hdj with hdj
        subst hdj
        simp only [if_true]
        rw [hd]
        exact ⟨put_get_eq _ _ (by rw [hsize, ha]; exact hdN), hs'⟩
      · rw [getD_set_false (Ne.symm hji)] at hlj
        simp only [if_neg hji]
        have hne : o.dst ≠ some t := fun he => by
          rw [hd] at he
          injection he with he
          subst he
          exact hji (huniq j (dst_of j oj d hj hdj))
        obtain ⟨h1, h2⟩ := hu j oj t hj hdj hlj
        exact ⟨(put_get_ne _ _ hne).trans h1, (S.getD j Sp.any).stays _ _ _ h2 hb2⟩
  have nolets : ¬ LetsOut (RelEnd a.defers o.dst (S.getD i Sp.any) w') := by
    rintro ⟨_, _, h, _⟩
    cases h
  unfold wpOp
  simp only [ho]
  simp only [wpList, hwant] at hgoal
  by_cases hw : Region.wanted o (yielded l.toArray a'.tmps) = true
  · rw [if_pos hw] at hgoal ⊢
    rcases hgoal with h | ⟨_, h⟩
    · left
      unfold Oper.wp at h ⊢
      rw [heval] at h
      generalize (execOp a'.eval o).run P w' = r at h ⊢
      cases r with
      | ok n w'' =>
        cases n <;> simp only [Oper.upon] at h ⊢
        case value u => exact fin _ _ h
        case skip => exact fin _ _ h
        case defer x =>
          exfalso
          obtain ⟨_, h2, _⟩ := h
          rw [put_defers] at h2
          have := congrArg List.length h2
          simp only [List.length_cons, hF.2] at this
          omega
        case enter f args =>
          refine Calls.mono h fun e w'' he => ?_
          cases e with
          | returned u => exact fin _ _ he
          | panicked c => cases he.1
          | outgrown => exact absurd he nolets
        case row row args => exact Rows.mono h fun u w'' he => fin _ _ he
      | halt x w'' =>
        cases x <;> simp only [Oper.upon] at h ⊢
        case panic u => cases h.1
    · exact absurd h nolets
  · rw [if_neg hw] at hgoal ⊢
    exact fin _ _ hgoal
theorem rel_any {Q : Exit → Act → World → Prop} {N : Nat} (hB : relB l.toArray N = true) (ha : a.tmps.size = N) (hS : S.length = l.length) {s : Nat} (hop : Hop P l S a w s)
    (hend : ∀ u w1, Below w.heap.size w w1 → RelHold u w1 S 0 → Q .normal (putAll u l 0 a) w1) :
    ∀ (f : Nat) (listed : Array Bool) (a' : Act) (w' : World), (∀ j, j < s → listed.getD j false = true) → listed.size = l.length → listed.toList.count false = f → RelInv l S a w listed a' w' → wpAny P .any l.toArray Q f listed a' w'
  | 0, listed, a', w', hs, hsz, hc, inv => by
    have hall : ∀ j, j < l.length → listed.getD j false = true := fun j hj => by
      have h1 : false ∉ listed.toList := List.count_eq_zero.1 hc
      have hlt : j < listed.size := by omega
      cases hb : listed[j]
      · exact absurd (by rw [← hb]; simp) h1
      · simp [hlt, hb]
    have hready : Region.ready .any l.toArray listed = [] := by
      rw [List.eq_nil_iff_forall_not_mem]
      intro j hj
      obtain ⟨h0, o, ho, _⟩ := mem_ready.1 hj
      have hj' : j < l.length := by
        rcases Nat.lt_or_ge j l.length with h | h
        · exact h
        · simp [List.getElem?_eq_none h] at ho
      have := hall j hj'
      have hlt : j < listed.size := by omega
      simp [hlt] at this h0
      rw [this] at h0
      cases h0
    refine ⟨hready, ?_⟩
    obtain ⟨hbel, hdef, hsize, _, hold, u, hu⟩ := inv
    have e : a' = putAll u l 0 a := by
      have h1 := putAll_size u l 0 a
      obtain ⟨tm, df⟩ := a'
      generalize hFe : putAll u l 0 a = F at h1
      obtain ⟨tm2, df2⟩ := F
      simp only at hdef hsize h1
      have : tm = tm2 := by
        apply Array.ext_getElem?
        intro t
        have hF2 : tm2[t]? = (putAll u l 0 a).tmps[t]? := by rw [hFe]
        rw [hF2]
        by_cases hex : ∃ (j : Nat) (o : Oper), l[j]? = some o ∧ o.dst = some t
        · obtain ⟨j, o, hj, hd⟩ := hex
          obtain ⟨⟨d, hd', hdN, huniq⟩, _⟩ := relB_spec hB (i := j) (o := o) (by simpa using hj)
          have hdt : d = t := by rw [hd'] at hd; injection hd
          subst hdt
          have hj' : j < l.length := by
            rcases Nat.lt_or_ge j l.length with h | h
            · exact h
            · simp [List.getElem?_eq_none h] at hj
          have h2 := putAll_hit u l 0 a j o (t := d) (by rw [ha]; exact hdN) hj hd (fun k x hk hx => huniq k (by unfold dstOf; rw [List.getElem?_toArray, hk]; exact hx))
          rw [Nat.zero_add] at h2
          rw [h2]
          exact (hu j o d hj hd (hall j hj')).1
        · rw [putAll_miss u l 0 a (fun (o : Oper) ho hd => by
            obtain ⟨j, hj, rfl⟩ := List.getElem_of_mem ho
            exact hex ⟨j, l[j], by simp [hj], hd⟩)]
          exact hold t (fun j o hj hd => absurd ⟨j, o, hj, hd⟩ hex)
      rw [this, hdef, h1.2]
    rw [e]
    refine hend u w' hbel (RelHold.of S 0 (fun j s hj => ?_))
    have hj' : j < S.length := by
      rcases Nat.lt_or_ge j S.length with h | h
      · exact h
      · simp [List.getElem?_eq_none h] at hj
    have hjl : j < l.length := by omega
    obtain ⟨⟨d, hd', _⟩, _⟩ := relB_spec hB (i := j) (o := l[j]) (by simp [hjl])
    have := (hu j l[j] d (by simp [hjl]) hd' (hall j hjl)).2
    rw [Nat.zero_add]
    rw [List.getD_eq_getElem?_getD, hj] at this
    exact this
  | f + 1, listed, a', w', hs, hsz, hc, inv => by
    refine ⟨fun h0 => ?_, fun i hi => ?_⟩
    · exfalso
      have hall : ∀ j, j < l.length → listed.getD j false = true := by
        intro j
        induction j using Nat.strongRecOn with
        | ind j ih =>
          intro hj
          cases hlj : listed.getD j false
          · exfalso
            have hlt : j < listed.size := by omega
            have : j ∈ Region.ready .any l.toArray listed := mem_ready.2 ⟨by simpa [hlt] using hlj, l[j], by simp [hj], fun e he hb => by
              have := (relB_spec hB (i := j) (o := l[j]) (by simp [hj])).2.2.1 e he hb
              exact ih e.on this (by omega)⟩
            rw [h0] at this
            cases this
          · rfl
      have : listed.toList.count false = 0 := List.count_eq_zero.2 (fun hm => by
        obtain ⟨j, hj, he⟩ := List.getElem_of_mem hm
        have hj' : j < listed.size := by simpa using hj
        have := hall j (by omega)
        simp [hj'] at this
        simp [this] at he)
      omega
    · refine wpOp_mono (fun a'' w'' h => ?_) (rel_step hB ha hop hs hsz inv hi)
      refine rel_any hB ha hS hop hend f _ a'' w'' (fun j hj => getD_set_true (hs j hj)) (by simpa using hsz) ?_ h
      obtain ⟨hun, o, ho, _⟩ := mem_ready.1 hi
      have hil : i < listed.size := by
        have : i < l.length := by
          rcases Nat.lt_or_ge i l.length with h | h
          · exact h
          · simp [List.getElem?_eq_none h] at ho
        omega
      have hun' : listed[i] = false := by simpa [hil] using hun
      rw [Array.toList_setIfInBounds, List.count_set (by simpa using hil)]
      simp [hun', hc]
end
/-- Each operation by itself; no order is looked at. -/
theorem wp_region_rel {P : Program} {id : Nat} {Q : Exit → Act → World → Prop} {a : Act} {w : World} {l : List Oper} (S : List Sp) (N : Nat) (hm : P.follows .mixedOrders = true) (hB : relB l.toArray N = true) (ha : a.tmps.size = N) (hS : S.length = l.length)
    (hop : RelGoals P l.toArray S a w l 0) (hend : ∀ u w1, Below w.heap.size w w1 → RelHold u w1 S 0 → Q .normal (putAll u l 0 a) w1) : (Code.region id l.toArray true).wp P Q a w := by
  refine wp_region_any hm ?_
  have := rel_any (Q := Q) hB ha hS (Hop.of (s := 0) hop) hend l.length (Array.replicate l.length false) a { w with drawn := w.drawn + 1 } (fun j hj => by omega) (by simp) (by simp)
    ⟨(Below.refl _ _).drew, rfl, rfl, fun j o _ hl => (by rw [getD_replicate_false] at hl; cases hl), fun _ _ => rfl, fun _ => undef, fun j o t _ _ hl => (by rw [getD_replicate_false] at hl; cases hl)⟩
  simpa using this
end Go.Proofs.Ytbidnflcbgnckaa
namespace Go.Proofs.Ytbidnflcbgnckaa
open Go.RowKit

/-- A slice of a call's own, as a property. -/
def Sp.own {α : Type} (B : Nat) (e : TypeId) (k : Nat) (cs : α → List Value) (l : List α) : Sp := ⟨fun v w => w.ownsRow B e k v l.length (l.flatMap cs), fun _ _ _ h hb => own_below h hb⟩
theorem Sp.own_holds {α : Type} (B : Nat) (e : TypeId) (k : Nat) (cs : α → List Value) (l : List α) (v : Value) (w : World) : (Sp.own B e k cs l).holds v w = w.ownsRow B e k v l.length (l.flatMap cs) := rfl
end Go.Proofs.Ytbidnflcbgnckaa
namespace Go.Proofs.Ytbidnflcbgnckaa
open Go.RowKit

/-- How far a text in quotes has been read. -/
def UnqAt (s acc r : List UInt8) : Prop := unq s = (unq r).map (acc ++ ·) ∧ acc.length + r.length ≤ s.length
theorem UnqAt.start (s : List UInt8) : UnqAt s [] s := ⟨by simp, by simp⟩
theorem UnqAt.done {s acc : List UInt8} (h : UnqAt s acc []) : unq s = some acc := by rw [h.1, unq]; simp
theorem u8_eq {c d : UInt8} (h : c.toNat = d.toNat) : c = d := UInt8.toNat_inj.1 h
theorem uq_bad {c : UInt8} {r : List UInt8} (h : c.toNat < 32 ∨ 126 < c.toNat ∨ c.toNat = 34) : unq (c :: r) = none := by
  have h' : c.toNat < 32 ∨ 126 < c.toNat ∨ c = 34 := h.imp id (fun h => h.imp id (fun h => u8_eq h))
  cases r with
  | nil => rw [unq_one, if_pos (h'.elim .inl (fun h => .inr (h.elim .inl (fun h => .inr (.inl h)))))]
  | cons d s => rw [unq_two, if_pos h']
theorem uq_plain {c : UInt8} {r : List UInt8} (h1 : ¬ c.toNat < 32) (h2 : ¬ 126 < c.toNat) (h3 : c.toNat ≠ 34) (h4 : c.toNat ≠ 92) : unq (c :: r) = (unq r).map (c :: ·) :=
  unq_cons (fun h => h.elim h1 (fun h => h.elim h2 (fun e => h3 (by rw [e]; rfl)))) (fun e => h4 (by rw [e]; rfl)) r
theorem uq_esc {c d : UInt8} {s : List UInt8} (hc : c.toNat = 92) (h : d.toNat = 34 ∨ d.toNat = 92) : unq (c :: d :: s) = (unq s).map (d :: ·) := by
  rw [show c = 92 from u8_eq hc]
  exact unq_esc (h.imp (fun h => u8_eq h) (fun h => u8_eq h)) s
theorem uq_one {c : UInt8} (hc : c.toNat = 92) : unq [c] = none := by rw [show c = 92 from u8_eq hc]; decide
theorem uq_two {c d : UInt8} {s : List UInt8} (hc : c.toNat = 92) (h1 : d.toNat ≠ 34) (h2 : d.toNat ≠ 92) : unq (c :: d :: s) = match s with
    | a :: b :: r => if d ≠ 120 ∨ 15 < hexV a ∨ 15 < hexV b ∨ (32 ≤ 16 * hexV a + hexV b ∧ 16 * hexV a + hexV b ≤ 126) then none else (unq r).map (UInt8.ofNat (16 * hexV a + hexV b) :: ·)
    | _ => none := by
  have n34 : d ≠ 34 := fun e => h1 (by rw [e]; rfl)
  have n92 : d ≠ 92 := fun e => h2 (by rw [e]; rfl)
  rw [show c = 92 from u8_eq hc, unq_two, if_neg (by decide), if_neg (by simp), if_neg (fun h => h.elim n34 n92)]
  cases s with
  | nil => rfl
  | cons a s => cases s <;> rfl
theorem uq_hexbad {c d a b : UInt8} {s : List UInt8} (hc : c.toNat = 92) (h1 : d.toNat ≠ 34) (h2 : d.toNat ≠ 92) (h : d.toNat ≠ 120 ∨ 15 < hexV a ∨ 15 < hexV b ∨ (32 ≤ 16 * hexV a + hexV b ∧ 16 * hexV a + hexV b ≤ 126)) : unq (c :: d :: a :: b :: s) = none := by
  rw [uq_two hc h1 h2]
  simp only
  rw [if_pos (h.imp (fun h e => h (by rw [e]; rfl)) id)]
theorem uq_hexok {c d a b : UInt8} {s : List UInt8} (hc : c.toNat = 92) (h1 : d.toNat = 120) (h : ¬ (15 < hexV a ∨ 15 < hexV b ∨ (32 ≤ 16 * hexV a + hexV b ∧ 16 * hexV a + hexV b ≤ 126))) : unq (c :: d :: a :: b :: s) = (unq s).map (UInt8.ofNat (16 * hexV a + hexV b) :: ·) := by
  rw [uq_two hc (by omega) (by omega)]
  simp only
  rw [if_neg (fun h' => h'.elim (fun h' => h' (u8_eq h1)) h)]
theorem uq_short {c d : UInt8} {s : List UInt8} (hc : c.toNat = 92) (h1 : d.toNat ≠ 34) (h2 : d.toNat ≠ 92) (hs : s.length < 2) : unq (c :: d :: s) = none := by
  rw [uq_two hc h1 h2]
  match s, hs with
  | [], _ => rfl
  | [a], _ => rfl
theorem UnqAt.step {s acc r r2 : List UInt8} {c : UInt8} (h : UnqAt s acc r) (e : unq r = (unq r2).map (c :: ·)) (hl : r2.length < r.length) : UnqAt s (acc ++ [c]) r2 := by
  refine ⟨?_, by have := h.2; simp; omega⟩
  rw [h.1, e, Option.map_map]
  congr 1
  funext x
  simp
theorem UnqAt.bad {s acc r : List UInt8} (h : UnqAt s acc r) (e : unq r = none) : unq s = none := by rw [h.1, e]; rfl
theorem or_hex {x y : Nat} (hx : x ≤ 15) (hy : y ≤ 15) : bits BinOp.or IntKind.u8 (16 * (x : Int)) (y : Int) = ((16 * x + y : Nat) : Int) := by
  have : ∀ a : Fin 16, ∀ b : Fin 16, bits BinOp.or IntKind.u8 (16 * (a.val : Int)) (b.val : Int) = ((16 * a.val + b.val : Nat) : Int) := by decide +kernel
  exact this ⟨x, by omega⟩ ⟨y, by omega⟩
theorem hexV_le (c : UInt8) : hexV c ≤ 16 := by unfold hexV; split; omega; split <;> omega
def unqT (t : List UInt8) : Value := .tuple #[.string (str ((unquote t).getD [])), .bool (unquote t).isSome]
theorem unqT_none {t : List UInt8} (h : unquote t = none) : unqT t = .tuple #[.string (str []), .bool false] := by unfold unqT; rw [h]; rfl
theorem unqT_some {t u : List UInt8} (h : unquote t = some u) : unqT t = .tuple #[.string (str u), .bool true] := by unfold unqT; rw [h]; rfl
theorem unquote_in {t : List UInt8} {n : Nat} (hn : t.length = n + 1) (h1 : 1 ≤ n) (h0 : (t[0]'(by omega)).toNat = 34) (hl : (t[n]'(by omega)).toNat = 34) : unquote t = unq ((t.drop 1).take (n - 1)) := by
  unfold unquote
  have e0 : t.head? = some 34 := by
    rw [List.head?_eq_getElem?, List.getElem?_eq_getElem (by omega)]
    congr 1; exact u8_eq h0
  have el : t.getLast? = some 34 := by
    rw [List.getLast?_eq_getElem?, List.getElem?_eq_getElem (by omega)]
    congr 1; apply u8_eq
    have : t.length - 1 = n := by omega
    simp only [this]; exact hl
  rw [if_neg (by rintro (h | h | h); exact absurd h (by omega); exact h e0; exact h el), List.dropLast_eq_take, List.length_drop, hn]
  rfl
theorem unquote_out {t : List UInt8} (h : t.length < 2 ∨ (∃ h : 0 < t.length, (t[0]'h).toNat ≠ 34) ∨ (∃ h : t.length - 1 < t.length, (t[t.length - 1]'h).toNat ≠ 34)) : unquote t = none := by
  unfold unquote
  rw [if_pos]
  rcases h with h | ⟨h0, h⟩ | ⟨h0, h⟩
  · exact .inl h
  · right; left
    rw [List.head?_eq_getElem?, List.getElem?_eq_getElem h0]
    intro e; injection e with e; exact h (by rw [e]; rfl)
  · right; right
    rw [List.getLast?_eq_getElem?, List.getElem?_eq_getElem h0]
    intro e; injection e with e; exact h (by rw [e]; rfl)
set_option maxHeartbeats 1000000 in
theorem value_unquote_short (t : List UInt8) (w : World) (h : t.length < 2) : Calls Try.prog 59 #[.string (str t)] w (RetV w (unqT t)) := by
  rw [unqT_none (unquote_out (.inl h))]
  have d : decide ((t.length : Int) - 1 < 1) = true := by simp; omega
  go_enter Try.func59, Try.ntmps59
  go_wp2_with (fail)
  go_ret2
  exact ⟨rfl, (by repeat (first | exact Below.refl _ _ | refine Below.drew ?_ | refine Below.alloc ?_ (by first | omega | (simp; done) | (simp; omega)) _ | refine Below.setCell ?_ (by first | omega | (simp; done) | (simp; omega)) _ | refine Below.trans ?_ (Below.mono (by assumption) (by first | omega | (simp; done) | (simp; omega)))))⟩
set_option maxHeartbeats 1000000 in
theorem value_unquote_ends (t : List UInt8) (n : Nat) (w : World) (hn : t.length = n + 1) (h1 : 1 ≤ n) (hb : n ≤ 1000000) (h : (t[0]'(by omega)).toNat ≠ 34 ∨ ((t[0]'(by omega)).toNat = 34 ∧ (t[n]'(by omega)).toNat ≠ 34)) : Calls Try.prog 59 #[.string (str t)] w (RetV w (unqT t)) := by
  rw [unqT_none (unquote_out (h.elim (fun h => .inr (.inl ⟨by omega, h⟩)) (fun h => .inr (.inr ⟨by omega, by have e : t.length - 1 = n := (by omega); simp only [e]; exact h.2⟩))))]
  have h0 : 0 < t.length := by omega
  have hnl : n < t.length := by omega
  rcases h with h | ⟨h, h2⟩
  · have q : (((t[0]'h0).toNat : Int) != 34) = true := by rw [bne_iff_ne]; omega
    clear h
    go_enter Try.func59, Try.ntmps59
    go_wp2_with (fail)
    go_ret2
    exact ⟨rfl, (by repeat (first | exact Below.refl _ _ | refine Below.drew ?_ | refine Below.alloc ?_ (by first | omega | (simp; done) | (simp; omega)) _ | refine Below.setCell ?_ (by first | omega | (simp; done) | (simp; omega)) _ | refine Below.trans ?_ (Below.mono (by assumption) (by first | omega | (simp; done) | (simp; omega)))))⟩
  · have q : (((t[0]'h0).toNat : Int) != 34) = false := by rw [bne_eq_false_iff_eq]; omega
    have q2 : (((t[n]'hnl).toNat : Int) != 34) = true := by rw [bne_iff_ne]; omega
    clear h h2
    go_enter Try.func59, Try.ntmps59
    go_wp2_with (fail)
    go_ret2
    exact ⟨rfl, (by repeat (first | exact Below.refl _ _ | refine Below.drew ?_ | refine Below.alloc ?_ (by first | omega | (simp; done) | (simp; omega)) _ | refine Below.setCell ?_ (by first | omega | (simp; done) | (simp; omega)) _ | refine Below.trans ?_ (Below.mono (by assumption) (by first | omega | (simp; done) | (simp; omega)))))⟩
theorem In.of_ownB {w : World} {base : Nat} {e : TypeId} {A : Option Addr} {c : Nat} {l : List UInt8} (h : w.ownsRow base e 1 (.slice A l.length c) l.length (l.flatMap bc)) (hs : l.length ≤ 4294967296) : InB w A c l := by
  obtain ⟨A', c', hv, hin⟩ := In.of_own bc_len h hs
  injection hv with e1 _ e2
  subst e1 e2
  exact hin
def strLen : Value → Nat | .string s => s.size | _ => 0
set_option maxHeartbeats 4000000 in
set_option maxRecDepth 4000 in
theorem value_unquote_in (t : List UInt8) (n : Nat) (w : World) (hn : t.length = n + 1) (h1 : 1 ≤ n) (hb : n ≤ 1000000) (h : (t[0]'(by omega)).toNat = 34) (h2 : (t[n]'(by omega)).toNat = 34) : Calls Try.prog 59 #[.string (str t)] w (RetV w (unqT t)) := by
  have EQ0 := unquote_in hn h1 h h2
  have h0 : 0 < t.length := by omega
  have hnl : n < t.length := by omega
  have q : (((t[0]'h0).toNat : Int) != 34) = false := by rw [bne_eq_false_iff_eq]; omega
  have q2 : (((t[n]'hnl).toNat : Int) != 34) = false := by rw [bne_eq_false_iff_eq]; omega
  obtain ⟨s, hs⟩ : ∃ s, t.tail.take (n - 1) = s := ⟨_, rfl⟩
  have hsl : s.length ≤ 1000000 := by rw [← hs, List.length_take]; omega
  rw [List.drop_one, hs] at EQ0
  have EQ := Lib.hid EQ0
  clear h h2 EQ0
  go_enter Try.func59, Try.ntmps59
  go_wp2_with (fail)
  go_loopw [0, 5] (fun x v wr => ∃ (acc r : List UInt8) (v0 : Value), v = v0 ∧ x = .string (str r) ∧ Hid (UnqAt s acc r) ∧ Hid (wr.ownsRow w.heap.size 5 1 v acc.length (acc.flatMap bc)) ∧ Hid (Below w.heap.size w wr))
    (fun x _ _ => strLen x)
  case atStart => exact ⟨[], s, _, rfl, rfl, UnqAt.start s, World.ownsRow_nil _ _ _ _, Below.refl _ _⟩
  case round =>
    obtain ⟨acc, r, v0, rfl, rfl, U, O, B1⟩ := hrel
    obtain ⟨A9, c9, rfl, -, -⟩ := own_form O.out
    have hz := B1.out.size
    have hac := U.out.2
    have HS := Lib.hid hs
    clear hs
    cases r with
    | nil =>
      have DN := Lib.hid (EQ.out.trans U.out.done)
      have kb := conv_str (P := Try.prog) (w := wr) Try.underlying29 Try.underlying5 Try.underlying9 (In.of_ownB O.out (by omega))
      go_wp2_with (fail)
      go_ret2
      exact ⟨by rw [unqT_some DN.out]; rfl, B1.out⟩
    | cons c r1 =>
      have hc := c.toNat_lt
      have hac1 : acc.length + (r1.length + 1) ≤ s.length := hac
      by_cases g1 : c.toNat < 32 ∨ (¬ c.toNat < 32 ∧ 126 < c.toNat) ∨ (¬ c.toNat < 32 ∧ ¬ 126 < c.toNat ∧ c.toNat = 34)
      · have BAD := Lib.hid (uq_bad (c := c) (r := r1) (by omega))
        rcases g1 with g1 | ⟨g1, g2⟩ | ⟨g1, g2, g3⟩
        · have j1 : decide ((c.toNat : Int) < 32) = true := by rw [decide_eq_true_iff]; omega
          clear g1
          go_wp2_with (fail)
          go_ret2
          refine ⟨?_, B1.out⟩
          rw [unqT_none (EQ.out.trans (U.out.bad BAD.out))]
          rfl
        · have j1 : decide ((c.toNat : Int) < 32) = false := by rw [decide_eq_false_iff_not]; omega
          have j2 : decide ((126 : Int) < (c.toNat : Int)) = true := by rw [decide_eq_true_iff]; omega
          clear g1 g2
          go_wp2_with (fail)
          go_ret2
          refine ⟨?_, B1.out⟩
          rw [unqT_none (EQ.out.trans (U.out.bad BAD.out))]
          rfl
        · have j1 : decide ((c.toNat : Int) < 32) = false := by rw [decide_eq_false_iff_not]; omega
          have j2 : decide ((126 : Int) < (c.toNat : Int)) = false := by rw [decide_eq_false_iff_not]; omega
          have j3 : ((c.toNat : Int) == 34) = true := by rw [beq_iff_eq]; omega
          clear g1 g2 g3
          go_wp2_with (fail)
          go_ret2
          refine ⟨?_, B1.out⟩
          rw [unqT_none (EQ.out.trans (U.out.bad BAD.out))]
          rfl
      · have j1 : decide ((c.toNat : Int) < 32) = false := by rw [decide_eq_false_iff_not]; omega
        have j2 : decide ((126 : Int) < (c.toNat : Int)) = false := by rw [decide_eq_false_iff_not]; omega
        have j3 : ((c.toNat : Int) == 34) = false := by rw [beq_eq_false_iff_ne]; omega
        have G1 := Lib.hid (show ¬ c.toNat < 32 ∧ ¬ 126 < c.toNat ∧ c.toNat ≠ 34 by omega)
        clear g1
        by_cases g2 : c.toNat = 92
        · have j4 : ((c.toNat : Int) != 92) = false := by rw [bne_eq_false_iff_eq]; omega
          have G2 := Lib.hid g2
          clear g2
          cases r1 with
          | nil =>
            have BAD := Lib.hid (uq_one G2.out)
            go_wp2_with (fail)
            go_ret2
            refine ⟨?_, B1.out⟩
            rw [unqT_none (EQ.out.trans (U.out.bad BAD.out))]
            rfl
          | cons d r2 =>
            have hd := d.toNat_lt
            have hac2 : acc.length + (r2.length + 1 + 1) ≤ s.length := hac1
            by_cases g3 : d.toNat = 34 ∨ (d.toNat ≠ 34 ∧ d.toNat = 92)
            · have U2 := Lib.hid (U.out.step (uq_esc G2.out (g3.imp id (fun h => h.2))) (by simp; omega))
              rcases g3 with g3 | ⟨g3, g4⟩
              · have j5 : ((d.toNat : Int) == 34) = true := by rw [beq_iff_eq]; omega
                clear g3
                go_wp2_with ((at_builtin; refine Stop.out ?_))
                refine Stop.mk (wpList_app _ rfl _ _ elemB rfl w.heap.size (.slice A9 acc.length c9) acc.length _ rfl (own_below O.out ((Below.refl _ _).alloc (Nat.le_refl _) _)) _ 1 1 (bc d) rfl (Src.new _ (bc d) _ 1 rfl) (by simp [bc, Value.oneCell']) (by omega) (by have := B1.out.size; simp; omega) ?_)
                intro v4 w4 own4 _ hb4 _
                have B4 := Lib.hid (B1.out.trans ((((Below.refl _ _).alloc hz _)).trans hb4))
                have O4 := Lib.hid (show w4.ownsRow w.heap.size 5 1 v4 ((acc ++ [d]).length) ((acc ++ [d]).flatMap bc) by simpa using own4)
                clear own4 hb4 O B1
                go_wp2_with (fail)
                go_roundw
                case rel => exact ⟨acc ++ [d], r2, _, rfl, rfl, U2.out, O4.out, B4.out⟩
                case measure => first | (simp [strLen]; done) | (simp [strLen]; omega)
              · have j5 : ((d.toNat : Int) == 34) = false := by rw [beq_eq_false_iff_ne]; omega
                have j6 : ((d.toNat : Int) == 92) = true := by rw [beq_iff_eq]; omega
                clear g3 g4
                go_wp2_with ((at_builtin; refine Stop.out ?_))
                refine Stop.mk (wpList_app _ rfl _ _ elemB rfl w.heap.size (.slice A9 acc.length c9) acc.length _ rfl (own_below O.out ((Below.refl _ _).alloc (Nat.le_refl _) _)) _ 1 1 (bc d) rfl (Src.new _ (bc d) _ 1 rfl) (by simp [bc, Value.oneCell']) (by omega) (by have := B1.out.size; simp; omega) ?_)
                intro v4 w4 own4 _ hb4 _
                have B4 := Lib.hid (B1.out.trans ((((Below.refl _ _).alloc hz _)).trans hb4))
                have O4 := Lib.hid (show w4.ownsRow w.heap.size 5 1 v4 ((acc ++ [d]).length) ((acc ++ [d]).flatMap bc) by simpa using own4)
                clear own4 hb4 O B1
                go_wp2_with (fail)
                go_roundw
                case rel => exact ⟨acc ++ [d], r2, _, rfl, rfl, U2.out, O4.out, B4.out⟩
                case measure => first | (simp [strLen]; done) | (simp [strLen]; omega)
            · have j5 : ((d.toNat : Int) == 34) = false := by rw [beq_eq_false_iff_ne]; omega
              have j6 : ((d.toNat : Int) == 92) = false := by rw [beq_eq_false_iff_ne]; omega
              have G3 := Lib.hid (show d.toNat ≠ 34 ∧ d.toNat ≠ 92 by omega)
              clear g3
              cases r2 with
              | nil =>
                have BAD := Lib.hid (uq_short (s := []) G2.out G3.out.1 G3.out.2 (by simp))
                go_wp2_with (fail)
                go_ret2
                refine ⟨?_, B1.out⟩
                rw [unqT_none (EQ.out.trans (U.out.bad BAD.out))]
                rfl
              | cons a r3 =>
                cases r3 with
                | nil =>
                  have BAD := Lib.hid (uq_short (s := [a]) G2.out G3.out.1 G3.out.2 (by simp))
                  go_wp2_with (fail)
                  go_ret2
                  refine ⟨?_, B1.out⟩
                  rw [unqT_none (EQ.out.trans (U.out.bad BAD.out))]
                  rfl
                | cons b r4 =>
                  have ha := a.toNat_lt
                  have hbb := b.toNat_lt
                  have hva := hexV_le a
                  have hvb := hexV_le b
                  have hac4 : acc.length + (r4.length + 1 + 1 + 1 + 1) ≤ s.length := hac2
                  have l4 : decide ((r4.length : Int) + 1 + 1 + 1 + 1 < 4) = false := by rw [decide_eq_false_iff_not]; omega
                  by_cases g4 : d.toNat = 120
                  case neg =>
                    have BAD := Lib.hid (uq_hexbad (a := a) (b := b) (s := r4) G2.out G3.out.1 G3.out.2 (.inl g4))
                    have j7 : ((d.toNat : Int) != 120) = true := by rw [bne_iff_ne]; omega
                    clear g4
                    go_wp2_with (fail)
                    go_ret2
                    refine ⟨?_, B1.out⟩
                    rw [unqT_none (EQ.out.trans (U.out.bad BAD.out))]
                    rfl
                  case pos =>
                    have G4 := Lib.hid g4
                    have j7 : ((d.toNat : Int) != 120) = false := by rw [bne_eq_false_iff_eq]; omega
                    clear g4
                    obtain ⟨va, hva'⟩ : ∃ v, v = hexV a := ⟨_, rfl⟩
                    obtain ⟨vb, hvb'⟩ : ∃ v, v = hexV b := ⟨_, rfl⟩
                    have HVA := Lib.hid hva'
                    have HVB := Lib.hid hvb'
                    have CA := Lib.hid (fun w' => show Calls Try.prog 66 #[.int .u8 a.toNat] w' (RetV w' (.int .u8 va)) by rw [hva']; exact c_value_hex a w')
                    have CB := Lib.hid (fun w' => show Calls Try.prog 66 #[.int .u8 b.toNat] w' (RetV w' (.int .u8 vb)) by rw [hvb']; exact c_value_hex b w')
                    rw [← hva'] at hva
                    rw [← hvb'] at hvb
                    clear hva' hvb'
                    by_cases g5 : 15 < va
                    · have BAD := Lib.hid (uq_hexbad (a := a) (b := b) (s := r4) G2.out G3.out.1 G3.out.2 (.inr (.inl (by rw [← HVA.out]; exact g5))))
                      have j8 : decide ((15 : Int) < (va : Int)) = true := by rw [decide_eq_true_iff]; omega
                      clear g5
                      go_wp2_with (fail)
                      refine (CA.out _).mono ?_
                      rintro e w5 ⟨rfl, hb5⟩
                      replace B1 := Lib.hid (B1.out.trans (hb5.mono hz))
                      clear hb5
                      go_wp2_with (fail)
                      go_ret2
                      refine ⟨?_, B1.out⟩
                      rw [unqT_none (EQ.out.trans (U.out.bad BAD.out))]
                      rfl
                    · have j8 : decide ((15 : Int) < (va : Int)) = false := by rw [decide_eq_false_iff_not]; omega
                      have G5 := Lib.hid g5
                      clear g5
                      go_wp2_with (fail)
                      refine (CA.out _).mono ?_
                      rintro e w5 ⟨rfl, hb5⟩
                      replace O := Lib.hid (own_below O.out hb5)
                      replace B1 := Lib.hid (B1.out.trans (hb5.mono hz))
                      clear hb5 hz
                      have hz := B1.out.size
                      go_wp2_with (fail)
                      refine (CB.out _).mono ?_
                      rintro e w6 ⟨rfl, hb6⟩
                      replace O := Lib.hid (own_below O.out hb6)
                      replace B1 := Lib.hid (B1.out.trans (hb6.mono hz))
                      clear hb6 hz
                      have hz := B1.out.size
                      by_cases g6 : 15 < vb
                      · have BAD := Lib.hid (uq_hexbad (a := a) (b := b) (s := r4) G2.out G3.out.1 G3.out.2 (.inr (.inr (.inl (by rw [← HVB.out]; exact g6)))))
                        have j9 : decide ((15 : Int) < (vb : Int)) = true := by rw [decide_eq_true_iff]; omega
                        clear g6
                        go_wp2_with (fail)
                        go_ret2
                        refine ⟨?_, B1.out⟩
                        rw [unqT_none (EQ.out.trans (U.out.bad BAD.out))]
                        rfl
                      · have j9 : decide ((15 : Int) < (vb : Int)) = false := by rw [decide_eq_false_iff_not]; omega
                        have G6 := Lib.hid g6
                        clear g6
                        go_wp2_with (fail)
                        have SHL := Lib.hid (show ((va : Int) * 16) % 256 = ((16 * va : Nat) : Int) by have := G5.out; omega)
                        have OR := Lib.hid (or_hex (x := va) (y := vb) (by have := G5.out; omega) (by have := G6.out; omega))
                        refine wp_region_rel [Sp.eq (.string (str (c :: d :: a :: b :: r4))), Sp.eq (.int .u8 a.toNat), Sp.eq (.int .u8 va), Sp.eq (.int .u8 ((16 * va : Nat) : Int)), Sp.eq (.string (str (c :: d :: a :: b :: r4))), Sp.eq (.int .u8 b.toNat), Sp.eq (.int .u8 vb), Sp.eq (.int .u8 ((16 * va + vb : Nat) : Int)), Sp.eq (.int .u8 ((16 * va + vb : Nat) : Int))] 114 (by kernel_rfl) (by kernel_rfl) rfl rfl ?_ ?_
                        · refine ⟨?_, ?_, ?_, ?_, ?_, ?_, ?_, ?_, ?_, trivial⟩
                          all_goals (intro u W2 hb2 hd; simp [Deps, Region.binds, Sp.eq_holds] at hd; simp only [putDeps, dstOf, Region.binds])
                          case refine_1 =>
                            go_wp2_with (fail); exact RelEnd.mk rfl (Below.refl _ _) rfl
                          case refine_2 =>
                            go_wp2_with (fail); exact RelEnd.mk rfl (Below.refl _ _) rfl
                          case refine_3 =>
                            go_wp2_with (go_at_call 66; refine (CA.out _).mono ?_; rintro e3 W3 ⟨rfl, hb3⟩)
                            exact RelEnd.mk rfl hb3 rfl
                          case refine_4 =>
                            go_wp2_with (fail)
                            refine RelEnd.mk rfl (Below.refl _ _) ?_
                            show Value.int _ _ = Value.int _ _
                            rw [SHL.out]
                          case refine_5 =>
                            go_wp2_with (fail); exact RelEnd.mk rfl (Below.refl _ _) rfl
                          case refine_6 =>
                            go_wp2_with (fail); exact RelEnd.mk rfl (Below.refl _ _) rfl
                          case refine_7 =>
                            go_wp2_with (go_at_call 66; refine (CB.out _).mono ?_; rintro e3 W3 ⟨rfl, hb3⟩)
                            exact RelEnd.mk rfl hb3 rfl
                          case refine_8 =>
                            go_wp2_with (fail)
                            refine RelEnd.mk rfl (Below.refl _ _) ?_
                            show Value.int _ _ = Value.int _ _
                            rw [OR.out]
                          case refine_9 =>
                            go_wp2_with (fail); exact RelEnd.mk rfl (Below.refl _ _) rfl
                        · intro u W2 hb2 hold
                          simp only [RelHold, Sp.eq_holds, Nat.reduceAdd] at hold
                          obtain ⟨-, -, -, -, -, -, -, -, hE, -⟩ := hold
                          simp only [putAll, Act.put, Nat.reduceAdd, List.setIfInBounds_toArray, List.set_cons_zero, List.set_cons_succ]
                          rw [hE]
                          obtain ⟨x, hx⟩ : ∃ x : UInt8, x.toNat = 16 * va + vb := ⟨UInt8.ofNat (16 * va + vb), by simp; have := G5.out; have := G6.out; omega⟩
                          rw [← hx]
                          have hxx := x.toNat_lt
                          have XE := Lib.hid (show UInt8.ofNat (16 * hexV a + hexV b) = x by rw [← HVA.out, ← HVB.out, ← hx]; simp)
                          have HX := Lib.hid hx
                          replace O := Lib.hid (own_below O.out hb2)
                          replace B1 := Lib.hid (B1.out.trans (hb2.mono hz))
                          clear hb2 hx hz SHL OR CA CB
                          have hz := B1.out.size
                          by_cases g7 : 32 ≤ x.toNat ∧ x.toNat ≤ 126
                          · have BAD := Lib.hid (uq_hexbad (a := a) (b := b) (s := r4) G2.out G3.out.1 G3.out.2 (.inr (.inr (.inr (by rw [← HVA.out, ← HVB.out, ← HX.out]; exact g7)))))
                            have k1 : decide ((32 : Int) ≤ (x.toNat : Int)) = true := by rw [decide_eq_true_iff]; omega
                            have k2 : decide ((x.toNat : Int) ≤ 126) = true := by rw [decide_eq_true_iff]; omega
                            clear g7
                            go_wp2_with (fail)
                            go_ret2
                            refine ⟨?_, B1.out⟩
                            rw [unqT_none (EQ.out.trans (U.out.bad BAD.out))]
                            rfl
                          · have U2 := Lib.hid (show UnqAt s (acc ++ [x]) r4 by rw [← XE.out]; exact U.out.step (uq_hexok G2.out G4.out (by rw [← HVA.out, ← HVB.out]; have h5 := G5.out; have h6 := G6.out; have h7 := HX.out; omega)) (by simp; omega))
                            have hcs : ¬ 32 ≤ x.toNat ∨ (32 ≤ x.toNat ∧ ¬ x.toNat ≤ 126) := by omega
                            clear g7
                            rcases hcs with g8 | ⟨g8, g9⟩
                            · have k1 : decide ((32 : Int) ≤ (x.toNat : Int)) = false := by rw [decide_eq_false_iff_not]; omega
                              clear g8
                              go_wp2_with ((at_builtin; refine Stop.out ?_))
                              refine Stop.mk (wpList_app _ rfl _ _ elemB rfl w.heap.size (.slice A9 acc.length c9) acc.length _ rfl (own_below O.out ((Below.refl _ _).alloc (Nat.le_refl _) _)) _ 1 1 (bc x) rfl (Src.new _ (bc x) _ 1 rfl) (by simp [bc, Value.oneCell']) (by omega) (by have := B1.out.size; simp; omega) ?_)
                              intro v4 w4 own4 _ hb4 _
                              have B4 := Lib.hid (B1.out.trans ((((Below.refl _ _).alloc hz _)).trans hb4))
                              have O4 := Lib.hid (show w4.ownsRow w.heap.size 5 1 v4 ((acc ++ [x]).length) ((acc ++ [x]).flatMap bc) by simpa using own4)
                              clear own4 hb4 O B1
                              go_wp2_with (fail)
                              go_roundw
                              case rel => exact ⟨acc ++ [x], r4, _, rfl, rfl, U2.out, O4.out, B4.out⟩
                              case measure => first | (simp [strLen]; done) | (simp [strLen]; omega)
                            · have k1 : decide ((32 : Int) ≤ (x.toNat : Int)) = true := by rw [decide_eq_true_iff]; omega
                              have k2 : decide ((x.toNat : Int) ≤ 126) = false := by rw [decide_eq_false_iff_not]; omega
                              clear g8 g9
                              go_wp2_with ((at_builtin; refine Stop.out ?_))
                              refine Stop.mk (wpList_app _ rfl _ _ elemB rfl w.heap.size (.slice A9 acc.length c9) acc.length _ rfl (own_below O.out ((Below.refl _ _).alloc (Nat.le_refl _) _)) _ 1 1 (bc x) rfl (Src.new _ (bc x) _ 1 rfl) (by simp [bc, Value.oneCell']) (by omega) (by have := B1.out.size; simp; omega) ?_)
                              intro v4 w4 own4 _ hb4 _
                              have B4 := Lib.hid (B1.out.trans ((((Below.refl _ _).alloc hz _)).trans hb4))
                              have O4 := Lib.hid (show w4.ownsRow w.heap.size 5 1 v4 ((acc ++ [x]).length) ((acc ++ [x]).flatMap bc) by simpa using own4)
                              clear own4 hb4 O B1
                              go_wp2_with (fail)
                              go_roundw
                              case rel => exact ⟨acc ++ [x], r4, _, rfl, rfl, U2.out, O4.out, B4.out⟩
                              case measure => first | (simp [strLen]; done) | (simp [strLen]; omega)
        · have j4 : ((c.toNat : Int) != 92) = true := by rw [bne_iff_ne]; omega
          have U2 := Lib.hid (U.out.step (uq_plain G1.out.1 G1.out.2.1 G1.out.2.2 g2) (by simp))
          clear g2
          go_wp2_with ((at_builtin; refine Stop.out ?_))
          refine Stop.mk (wpList_app _ rfl _ _ elemB rfl w.heap.size (.slice A9 acc.length c9) acc.length _ rfl (own_below O.out ((Below.refl _ _).alloc (Nat.le_refl _) _)) _ 1 1 (bc c) rfl (Src.new _ (bc c) _ 1 rfl) (by simp [bc, Value.oneCell']) (by omega) (by have := B1.out.size; simp; omega) ?_)
          intro v4 w4 own4 _ hb4 _
          have B4 := Lib.hid (B1.out.trans ((((Below.refl _ _).alloc hz _)).trans hb4))
          have O4 := Lib.hid (show w4.ownsRow w.heap.size 5 1 v4 ((acc ++ [c]).length) ((acc ++ [c]).flatMap bc) by simpa using own4)
          clear own4 hb4 O B1
          go_wp2_with (fail)
          go_roundw
          case rel => exact ⟨acc ++ [c], r1, _, rfl, rfl, U2.out, O4.out, B4.out⟩
          case measure => first | (simp [strLen]; done) | (simp [strLen]; omega)
end Go.Proofs.Ytbidnflcbgnckaa
namespace Go.Proofs.Ytbidnflcbgnckaa
open Go.RowKit

/-- What is left, and the first error. -/
structure Rd where
  s : List UInt8
  e : Int
deriving DecidableEq

/-! A number off bytes: its error, its value, how many bytes it has. -/
def nxE : Nat → Bool → List UInt8 → Int
  | 0, _, _ => 3
  | _ + 1, _, [] => 2
  | f + 1, first, c :: s => if 128 ≤ c.toNat then nxE f false s else if c.toNat = 0 ∧ first = false then 3 else 0
def nxV : Nat → List UInt8 → Nat
  | 0, _ => 0
  | _ + 1, [] => 0
  | f + 1, c :: s => if 128 ≤ c.toNat then c.toNat % 128 + 128 * nxV f s else c.toNat
def nxK : Nat → List UInt8 → Nat
  | 0, _ => 0
  | _ + 1, [] => 0
  | f + 1, c :: s => if 128 ≤ c.toNat then nxK f s + 1 else 1
@[irreducible] def nErr (s : List UInt8) (most : Int) : Int := if nxE 6 true s = 0 then (if 1099511627776 < nxV 6 s ∨ most < (nxV 6 s : Int) then 4 else 0) else nxE 6 true s
@[irreducible] def nVal (s : List UInt8) (most : Int) : Int := if nErr s most = 0 then (nxV 6 s : Int) else 0
@[irreducible] def nLen (s : List UInt8) (most : Int) : Nat := if nErr s most = 0 then nxK 6 s else 0
/-! What the readers' calls answer, and what is left then. -/
/-! A number's bytes are read as it. -/
/-! What is read as a number has just a number's bytes. -/
/-! How the loops over a number's bytes go. -/
def Peek (s : List UInt8) (k acc : Nat) : Prop :=
  k ≤ 6 ∧ k ≤ s.length ∧ acc < 128 ^ k ∧ nxE 6 true s = nxE (6 - k) (decide (k = 0)) (s.drop k) ∧ nxV 6 s = acc + 128 ^ k * nxV (6 - k) (s.drop k) ∧ nxK 6 s = k + nxK (6 - k) (s.drop k) ∧
    ∀ j c, j < k → s[j]? = some c → 128 ≤ c.toNat
section
variable {s : List UInt8} {k acc : Nat}
theorem Peek.start (s : List UInt8) : Peek s 0 0 := ⟨by omega, by omega, by simp, by simp, by simp, by simp, fun j c h => by omega⟩
theorem Peek.next (h : Peek s k acc) (hk : k < 6) (hl : k < s.length) (hc : 128 ≤ s[k].toNat) : Peek s (k + 1) (acc + s[k].toNat % 128 * 128 ^ k) := by
  obtain ⟨_, _, h3, h4, h5, h6, h7⟩ := h
  rw [List.drop_eq_getElem_cons hl, show 6 - k = (6 - (k + 1)) + 1 by omega] at h4 h5 h6
  rw [nxE, if_pos hc] at h4
  rw [nxV, if_pos hc] at h5
  rw [nxK, if_pos hc] at h6
  have hm : s[k].toNat % 128 < 128 := Nat.mod_lt _ (by omega)
  refine ⟨by omega, by omega, ?_, ?_, ?_, by omega, ?_⟩
  · rw [Nat.pow_succ]
    have : s[k].toNat % 128 * 128 ^ k ≤ 127 * 128 ^ k := Nat.mul_le_mul_right _ (by omega)
    omega
  · rw [h4]; simp
  · rw [h5, Nat.mul_add, Nat.pow_succ, Nat.mul_comm (128 ^ k) (s[k].toNat % 128), Nat.mul_assoc]; omega
  · intro j c hj hjc
    rcases Nat.lt_or_ge j k with hlt | hge
    · exact h7 j c hlt hjc
    · obtain rfl : j = k := by omega
      rw [List.getElem?_eq_getElem hl] at hjc
      injection hjc with hjc
      rw [← hjc]; exact hc
theorem Peek.full (h : Peek s 6 acc) : nxE 6 true s = 3 := by rw [h.2.2.2.1]; rfl
theorem Peek.zero (h : Peek s k acc) (hk : k < 6) (hl : k < s.length) (hc : s[k].toNat = 0) (h0 : 0 < k) : nxE 6 true s = 3 := by
  rw [h.2.2.2.1, List.drop_eq_getElem_cons hl, show 6 - k = (6 - (k + 1)) + 1 by omega, nxE, if_neg (by omega), if_pos ⟨hc, by simp; omega⟩]
theorem Peek.done (h : Peek s k acc) (hk : k < 6) (hl : k < s.length) (hc : s[k].toNat < 128) (h0 : s[k].toNat ≠ 0 ∨ k = 0) : nxE 6 true s = 0 ∧ nxV 6 s = acc + s[k].toNat * 128 ^ k ∧ nxK 6 s = k + 1 := by
  obtain ⟨_, _, h3, h4, h5, h6, h7⟩ := h
  rw [List.drop_eq_getElem_cons hl, show 6 - k = (6 - (k + 1)) + 1 by omega] at h4 h5 h6
  rw [nxE, if_neg (by omega)] at h4
  rw [nxV, if_neg (by omega)] at h5
  rw [nxK, if_neg (by omega)] at h6
  refine ⟨?_, by rw [h5, Nat.mul_comm], h6⟩
  rw [h4, if_neg]
  rintro ⟨h1, h2⟩
  rcases h0 with h0 | h0
  · exact h0 h1
  · simp [h0] at h2
end
end Go.Proofs.Ytbidnflcbgnckaa
namespace Go.Proofs.Ytbidnflcbgnckaa
open Go.RowKit

/-! Worlds in which, below a block number, one block alone may have turned. -/
structure Kept (p : Option Nat) (B : Nat) (w w' : World) : Prop where
  os : w'.os = w.os
  tape : w'.tape = w.tape
  output : w'.output = w.output
  size : w.heap.size ≤ w'.heap.size
  block : ∀ k, k < B → p ≠ some k → w'.heap[k]? = w.heap[k]?
section
variable {p : Option Nat} {B B' : Nat} {a b c w w' : World}
theorem Kept.refl (p : Option Nat) (B : Nat) (w : World) : Kept p B w w := ⟨rfl, rfl, rfl, Nat.le_refl _, fun _ _ _ => rfl⟩
theorem Kept.of_below (h : Below B w w') : Kept p B w w' := ⟨h.os, h.tape, h.output, h.size, fun k hk _ => h.block k hk⟩
theorem Kept.trans (h : Kept p B a b) (k : Kept p B b c) : Kept p B a c := ⟨k.os.trans h.os, k.tape.trans h.tape, k.output.trans h.output, Nat.le_trans h.size k.size, fun i hi hp => (k.block i hi hp).trans (h.block i hi hp)⟩
theorem Kept.mono (h : Kept p B w w') (hB : B' ≤ B) : Kept p B' w w' := ⟨h.os, h.tape, h.output, h.size, fun k hk hp => h.block k (by omega) hp⟩
theorem Kept.below (h : Kept p B w w') (hB : B' ≤ B) (hp : ∀ g, p = some g → B' ≤ g) : Below B' w w' := ⟨h.os, h.tape, h.output, h.size, fun k hk => h.block k (by omega) (fun e => by have := hp k e; omega)⟩
theorem Kept.alloc (h : Kept p B a w) (hB : B ≤ w.heap.size) (o : Obj) : Kept p B a (w.alloc o) := h.trans (.of_below ((Below.refl _ _).alloc hB o))
theorem Kept.drew (h : Kept p B a w) : Kept p B a w.drew := ⟨h.os, h.tape, h.output, h.size, h.block⟩
theorem Kept.setCell (h : Kept p B a w) {q : Addr} (hq : B ≤ q.block ∨ p = some q.block) (u : Value) : Kept p B a (w.setCell q u) :=
  h.trans ⟨rfl, rfl, rfl, by simp [World.setCell], fun k hk hp => Below.heap_setCell _ _ _ _ (fun e => by
    subst e
    rcases hq with h | h
    · omega
    · exact hp h)⟩
theorem Kept.then_below (h : Kept p B a w) (k : Below w.heap.size w w') (hB : B ≤ w.heap.size) : Kept p B a w' := h.trans (.of_below (k.mono hB))
theorem Kept.then_kept (h : Kept p B a w) (k : Kept p w.heap.size w w') (hB : B ≤ w.heap.size) : Kept p B a w' := h.trans (k.mono hB)
theorem Kept.cell (h : Kept p B w w') {q : Addr} (hq : q.block < B) (hp : p ≠ some q.block) : w'.cell? q = w.cell? q := World.cell?_of_block (w := w) (h.block q.block hq hp)
end

/-! A block that is known whole. -/
def Blk (w : World) (g : Nat) (cs : Array Value) : Prop := ∃ t, w.heap[g]? = some (.cells cs t (0, 0))
section
variable {w w' : World} {g : Nat} {cs : Array Value}
theorem Blk.lt (h : Blk w g cs) : g < w.heap.size := by
  obtain ⟨t, h⟩ := h
  rcases Nat.lt_or_ge g w.heap.size with hlt | hge
  · exact hlt
  · rw [Array.getElem?_eq_none hge] at h; cases h
theorem Blk.cell (h : Blk w g cs) {i : Nat} {v : Value} (hv : cs[i]? = some v) : w.cell? ⟨g, i, none⟩ = some v := by
  obtain ⟨t, h⟩ := h
  simp [World.cell?, h, hv]
theorem Blk.frozen (h : Blk w g cs) (i : Nat) : w.frozen? ⟨g, i, none⟩ = false := by
  obtain ⟨t, h⟩ := h
  simp [World.frozen?, h]
theorem Blk.new (w : World) (t : TypeId) (cs : Array Value) : Blk (w.alloc (.cells cs t)) w.heap.size cs := ⟨t, heap_alloc_new w _⟩
theorem Blk.kept {p : Option Nat} {B : Nat} (h : Blk w g cs) (k : Kept p B w w') (hg : g < B) (hp : p ≠ some g) : Blk w' g cs := by
  obtain ⟨t, h⟩ := h
  exact ⟨t, (k.block g hg hp).trans h⟩
theorem Blk.below {B : Nat} (h : Blk w g cs) (k : Below B w w') (hg : g < B) : Blk w' g cs := by
  obtain ⟨t, h⟩ := h
  exact ⟨t, (k.block g hg).trans h⟩
theorem Blk.store (h : Blk w g cs) (i : Nat) (u : Value) : Blk (w.setCell ⟨g, i, none⟩ u) g (cs.setIfInBounds i u) := by
  obtain ⟨t, h⟩ := h
  exact ⟨t, by simp [World.setCell, Array.getElem?_modify, h]⟩
theorem Blk.far (h : Blk w g cs) {q : Addr} (hq : g ≠ q.block) (u : Value) : Blk (w.setCell q u) g cs := by
  obtain ⟨t, h⟩ := h
  exact ⟨t, (Below.heap_setCell w q u g hq).trans h⟩
end

/-! The readers in memory. -/
/-- The program's reader at block g: the bytes B, the place, the error. -/
def RdA (w : World) (g : Nat) (A : Option Addr) (c : Nat) (B : List UInt8) (pos : Nat) (e : Int) : Prop :=
  Blk w g #[.slice A B.length c, .int .i64 pos, .int .i64 e] ∧ pos ≤ B.length ∧ B.length ≤ c ∧ c ≤ 9223372036854775807 ∧ B.length ≤ 4294967296 ∧ (B = [] ∨ ∃ b off, A = some ⟨b, off, none⟩ ∧ b < g ∧ Row 1 bc w b off B)
/-- The program's reader; none: the nil one. -/
def RdP (w : World) (p : Option Nat) (st : Rd) : Prop :=
  (p = none ∧ st = ⟨[], 1⟩) ∨ ∃ g A c B pos, p = some g ∧ RdA w g A c B pos st.e ∧ st.s = B.drop pos
/-- The reference's reader at block h. -/
def RdR (w : World) (h : Nat) (st : Rd) : Prop := Blk w h #[.string (str st.s), .int .i64 st.e] ∧ st.s.length ≤ 4294967296
section
variable {w w' : World} {g h : Nat} {A : Option Addr} {c pos : Nat} {B : List UInt8} {e : Int} {p q : Option Nat} {st st' : Rd}
theorem RdA.kept (r : RdA w g A c B pos e) (k : Kept q w.heap.size w w') (hq : ∀ h, q = some h → g < h) : RdA w' g A c B pos e := by
  obtain ⟨h1, h2, h3, h4, h5, h6⟩ := r
  refine ⟨h1.kept k h1.lt (fun e => by have := hq g e; omega), h2, h3, h4, h5, h6.imp id fun ⟨b, off, hA, hb, hr⟩ => ⟨b, off, hA, hb, ?_⟩⟩
  have := h1.lt
  exact hr.keep fun o => k.cell (by show b < _; omega) (fun e => by have := hq b e; omega)
theorem RdP.kept (r : RdP w p st) (k : Kept q w.heap.size w w') (hq : ∀ g h, p = some g → q = some h → g < h) : RdP w' p st :=
  r.imp id fun ⟨g, A, c, B, pos, hp, ha, hs⟩ => ⟨g, A, c, B, pos, hp, ha.kept k (fun h => hq g h hp), hs⟩
theorem RdP.below (r : RdP w p st) (k : Below w.heap.size w w') : RdP w' p st := r.kept (q := none) (.of_below k) (fun _ _ _ h => by cases h)
theorem RdP.lt (r : RdP w p st) (hg : p = some g) : g < w.heap.size := by
  rcases r with ⟨rfl, _⟩ | ⟨g', A, c, B, pos, hp, ha, _⟩
  · cases hg
  · rw [hp] at hg; injection hg with hg; subst hg; exact ha.1.lt
theorem RdR.kept (r : RdR w h st) (k : Kept q w.heap.size w w') (hq : q ≠ some h) : RdR w' h st := ⟨r.1.kept k r.1.lt hq, r.2⟩
theorem RdR.below (r : RdR w h st) (k : Below w.heap.size w w') : RdR w' h st := r.kept (q := none) (.of_below k) (by simp)
theorem RdR.lt (r : RdR w h st) : h < w.heap.size := r.1.lt
theorem RdP.len (r : RdP w p st) : st.s.length ≤ 4294967296 := by
  rcases r with ⟨rfl, rfl⟩ | ⟨g, A, c, B, pos, hp, ha, hs⟩
  · simp
  · rw [hs]; have := ha.2.2.2.2.1; simp; omega
end

/-! The ends of the readers' calls. -/
end Go.Proofs.Ytbidnflcbgnckaa
namespace Go.Proofs.Ytbidnflcbgnckaa
open Go.RowKit

/-- The type ty is a struct or an array of n cells. -/
structure Str (P : Program) (ty : TypeId) (n : Nat) : Prop where
  desc : ∃ d, P.underlying ty = some d ∧ (match d with | .struct _ | .array _ _ => true | _ => false) = true
  size : (P.info? ty).map (·.size) = some n
section
variable {P : Program} {w : World}
theorem Kept.one {g : Nat} {w' : World} (h : Kept (some g) w.heap.size w w') {p : Option Nat} {B : Nat} (hB : B ≤ w.heap.size) (hg : B ≤ g ∨ p = some g) : Kept p B w w' :=
  ⟨h.os, h.tape, h.output, h.size, fun k hk hp => h.block k (by omega) (fun e => by
    injection e with e; subst e
    rcases hg with hg | hg
    · omega
    · exact hp hg)⟩
theorem Kept.oneB {g B : Nat} {w' : World} (h : Kept (some g) w.heap.size w w') (hB : B ≤ w.heap.size) (hg : B ≤ g) : Below B w w' := h.below hB (fun k hk => by injection hk with hk; omega)
theorem wpList_loadB {ops : Array Oper} {rest : List Oper} {o : Oper} {a : Act} {Q : Exit → Act → World → Prop} (hgd : o.guard = none) (ty : TypeId) (x : Operand) (ho : o.op = .load ty x)
    (g : Nat) (hx : a.eval x = .pointer (some ⟨g, 0, none⟩)) (cs : Array Value) (hb : Blk w g cs) {n : Nat} (S : Str P ty n) (hn : cs.size = n)
    (h : wpList P ops Q rest (a.put o.dst (.agg cs)) w) : wpList P ops Q (o :: rest) a w := by
  obtain ⟨d, h1, h2⟩ := S.desc
  obtain ⟨t, hb⟩ := hb
  exact wpList_load_row hgd ty x ho g hx t cs (0, 0) d hb h1 (by cases d <;> first | rfl | (simp at h2)) (by rw [S.size, hn]) h
theorem Blk.row {g : Nat} {cs : Array Value} (hb : Blk w g cs) (cells : Array Value) : Blk (w.setRow g cells) g cells ∧ Kept (some g) w.heap.size w (w.setRow g cells) := by
  have hlt := hb.lt
  obtain ⟨t, hb⟩ := hb
  exact ⟨⟨t, setRow_heap w g _ _ t _ hb⟩, ⟨rfl, rfl, rfl, by simp [World.setRow], fun k hk hp => setRow_other w g k _ (fun e => hp (by rw [e]))⟩⟩
theorem wsB {ops : Array Oper} {rest : List Oper} {o : Oper} {a : Act} {Q : Exit → Act → World → Prop} (hgd : o.guard = none) (ty : TypeId) (x y : Operand) (ho : o.op = .store ty x y)
    (g : Nat) (cells : Array Value) (hx : a.eval x = .pointer (some ⟨g, 0, none⟩)) (hy : a.eval y = .agg cells) (old : Array Value) (hb : Blk w g old) {n : Nat} (S : Str P ty n) (hn : cells.size = n)
    (hold : old.size = cells.size) (h1 : cells.all (·.oneCell') = true)
    (h : ∀ w', Blk w' g cells → Kept (some g) w.heap.size w w' → wpList P ops Q rest (a.put o.dst undef) w') : wpList P ops Q (o :: rest) a w := by
  obtain ⟨k1, k2⟩ := hb.row cells
  obtain ⟨t, hb⟩ := hb
  exact wpList_store_row hgd ty x y ho g cells hx hy t old hb (by rw [S.size, hn]) hold h1 (h _ k1 k2)
/-- The walk stands still at a read, at a store of a value of type ty. -/
theorem stop_load {ops : Array Oper} {rest : List Oper} {o : Oper} {a : Act} {Q : Exit → Act → World → Prop} (ty : TypeId) (x : Operand) (_ : o.guard = none) (_ : o.op = .load ty x) (h : Stop (wpList P ops Q (o :: rest) a w)) : wpList P ops Q (o :: rest) a w := h
theorem stS {ops : Array Oper} {rest : List Oper} {o : Oper} {a : Act} {Q : Exit → Act → World → Prop} (ty : TypeId) (x y : Operand) (_ : o.guard = none) (_ : o.op = .store ty x y) (h : Stop (wpList P ops Q (o :: rest) a w)) : wpList P ops Q (o :: rest) a w := h
theorem results_B {fn : Func} {p : Tmp} {ty : TypeId} (h : fn.results = #[.cell p ty]) {tmps : Array Value} {g : Nat} {cs : Array Value} (hp : tmps.getD p undef = .pointer (some ⟨g, 0, none⟩)) (hb : Blk w g cs) {n : Nat} (S : Str P ty n) (hn : cs.size = n) :
    (results fn tmps).run P w = .ok (.agg cs) w := by
  obtain ⟨d, h1, h2⟩ := S.desc
  obtain ⟨t, hb⟩ := hb
  exact results_cell_row h tmps w g t cs (0, 0) d hp hb h1 (by cases d <;> first | rfl | (simp at h2)) (by rw [S.size, hn])
end
end Go.Proofs.Ytbidnflcbgnckaa
namespace Go.Proofs.Ytbidnflcbgnckaa
open Go.RowKit

/-- A world behind the making of one block, in which that block is as it was made. -/
def At (w w' : World) (cs : Array Value) : Prop := Below w.heap.size w w' ∧ Blk w' w.heap.size cs
theorem At.new (w : World) (t : TypeId) (cs : Array Value) : At w (w.alloc (.cells cs t)) cs := ⟨(Below.refl _ _).alloc (Nat.le_refl _) _, Blk.new _ _ _⟩
theorem At.step {w w1 w2 : World} {cs : Array Value} (h : At w w1 cs) (hb : Below w1.heap.size w1 w2) : At w w2 cs := ⟨h.1.trans (hb.mono h.1.size), h.2.below hb h.2.lt⟩
theorem At.alloc {w w1 : World} {cs : Array Value} (h : At w w1 cs) (o : Obj) : At w (w1.alloc o) cs := h.step ((Below.refl _ _).alloc (Nat.le_refl _) o)
end Go.Proofs.Ytbidnflcbgnckaa
namespace Go.Proofs.Ytbidnflcbgnckaa
open Go.RowKit

theorem results_B2 {P : Program} {w : World} {fn : Func} {p s : Tmp} {ty : TypeId} (h : fn.results = #[.cell p ty, .tmp s]) {tmps : Array Value} {g : Nat} {cs : Array Value} {v : Value} (hp : tmps.getD p undef = .pointer (some ⟨g, 0, none⟩)) (hv : tmps.getD s undef = v) (hb : Blk w g cs) {n : Nat} (S : Str P ty n) (hn : cs.size = n) :
    (results fn tmps).run P w = .ok (.tuple #[.agg cs, v]) w := by
  obtain ⟨d, h1, h2⟩ := S.desc
  obtain ⟨t, hb⟩ := hb
  have hl := run_loadVar_row (P := P) w g t ty cs (0, 0) d hb h1 (by cases d <;> first | rfl | (simp at h2)) (by rw [S.size, hn])
  have hp' : tmps[p]?.getD undef = .pointer (some ⟨g, 0, none⟩) := by simpa using hp
  have hv' : tmps[s]?.getD undef = v := by simpa using hv
  simp [results, h, hp', hv', asAddr, hl]
theorem fresh_below {w w' : World} {o : Obj} (hk : Kept (some w.heap.size) (w.alloc o).heap.size (w.alloc o) w') : Below w.heap.size w w' := ((Below.refl _ _).alloc (Nat.le_refl _) _).trans (hk.oneB (by simp) (Nat.le_refl _))
/-- The first block of a call's own is made. -/
theorem At.go {P : Program} {ops : Array Oper} {l : List Oper} {a : Act} {Q : Exit → Act → World → Prop} {t : TypeId} {w : World} {cs : Array Value} (h : ∀ w', At w w' cs → w'.heap.size = w.heap.size + 1 → wpList P ops Q l a w') :
    wpList P ops Q l a (w.alloc (.cells cs t)) := h _ (At.new w t cs) (by simp)
theorem At.as {w w' : World} {cs ds : Array Value} (h : At w w' cs) (e : cs = ds) : At w w' ds := e ▸ h
theorem At.kept {w w1 w2 : World} {cs : Array Value} (h : At w w1 cs) {q : Nat} (hq : w.heap.size < q) (k : Kept (some q) w1.heap.size w1 w2) : At w w2 cs :=
  ⟨h.1.trans (k.oneB h.1.size (by omega)), h.2.kept k h.2.lt (fun e => by injection e with e; omega)⟩
theorem At.lt {w w' : World} {cs : Array Value} (h : At w w' cs) : w.heap.size < w'.heap.size := h.2.lt
end Go.Proofs.Ytbidnflcbgnckaa
namespace Go.Proofs.Ytbidnflcbgnckaa
open Go.RowKit

structure Card where
  id : Int
  ver : Int
  lab : Nat
  f : List Val
deriving DecidableEq
structure Patch where
  mask : Nat
  lab : Nat
  f : List Val
deriving DecidableEq
structure Edit where
  kind : Int
  id : Int
  group : Int
  p : Patch
deriving DecidableEq
@[irreducible] def farr (f : List Val) : Array Value := (f.flatMap Val.cells).toArray
@[irreducible] def Card.arr (c : Card) : Array Value := (([.int .i64 c.id, .int .i64 c.ver, .int .u32 c.lab] : List Value) ++ c.f.flatMap Val.cells).toArray
@[irreducible] def Patch.arr (p : Patch) : Array Value := (([.int .u32 p.mask, .int .u32 p.lab] : List Value) ++ p.f.flatMap Val.cells).toArray
@[irreducible] def Edit.arr (e : Edit) : Array Value := (([.int .i64 e.kind, .int .i64 e.id, .int .i64 e.group, .int .u32 e.p.mask, .int .u32 e.p.lab] : List Value) ++ e.p.f.flatMap Val.cells).toArray
section
variable {f : List Val} {k : Nat}
end
end Go.Proofs.Ytbidnflcbgnckaa
namespace Go.Proofs.Ytbidnflcbgnckaa
open Go.RowKit

section
variable {P : Program} {w : World}
theorem Str.agg {ty : TypeId} {n : Nat} (S : Str P ty n) (w : World) : (isAgg ty).run P w = .ok true w := by
  obtain ⟨d, h1, h2⟩ := S.desc
  unfold isAgg
  rw [Sem.run_bind, run_underlying h1 w]
  cases d <;> simp_all
theorem Str.sizeOf {ty : TypeId} {n : Nat} (S : Str P ty n) (w : World) : (Go.sizeOf ty).run P w = .ok n w := by
  have h := S.size
  cases hq : P.info? ty with
  | none => rw [hq] at h; cases h
  | some i =>
    rw [hq] at h
    simp at h
    simp [Go.sizeOf, typeInfo, hq, h]
theorem Blk.all {g : Nat} {cs : Array Value} (h : Blk w g cs) (j : Nat) (u : Value) (hu : cs[j]? = some u) : w.cell? ⟨g, 0 + j, none⟩ = some u := by rw [Nat.zero_add]; exact h.cell hu
end
/-! Equality. -/
section
variable {P : Program} {w : World}
end
abbrev Val.c3 (x : Val) : Array Value := #[.int .i64 x.kind, .int .i64 x.n, .string (str x.s)]
end Go.Proofs.Ytbidnflcbgnckaa
namespace Go.Proofs.Ytbidnflcbgnckaa
open Go.RowKit

theorem c_value_unquote (t : List UInt8) (w : World) (hb : t.length ≤ 1000000) : Calls Try.prog 59 #[.string (str t)] w (RetV w (unqT t)) := by
  by_cases h : t.length < 2
  · exact value_unquote_short t w h
  · obtain ⟨n, hn⟩ : ∃ n, t.length = n + 1 := ⟨t.length - 1, by omega⟩
    by_cases h1 : (t[0]'(by omega)).toNat = 34
    · by_cases h2 : (t[n]'(by omega)).toNat = 34
      · exact value_unquote_in t n w hn (by omega) (by omega) h1 h2
      · exact value_unquote_ends t n w hn (by omega) (by omega) (.inr ⟨h1, h2⟩)
    · exact value_unquote_ends t n w hn (by omega) (by omega) (.inl h1)
/-- A value off its text. -/
def valR (t : List UInt8) : Option Val := if t = [45] then some ⟨0, 0, []⟩ else match intR t 1099511627776 with
  | some n => some ⟨1, n, []⟩
  | none => match unquote t with
    | some u => if u.length ≤ 24 then some ⟨2, 0, u⟩ else none
    | none => none
abbrev vz : Val := ⟨0, 0, []⟩
def valT (t : List UInt8) : Value := .tuple #[.agg ((valR t).getD vz).c3, .bool (valR t).isSome]
theorem valT_some {t : List UInt8} {v : Val} (h : valR t = some v) : valT t = .tuple #[.agg v.c3, .bool true] := by unfold valT; rw [h]; rfl
theorem valT_none {t : List UInt8} (h : valR t = none) : valT t = .tuple #[.agg vz.c3, .bool false] := by unfold valT; rw [h]; rfl
theorem valR_dash : valR [45] = some vz := by unfold valR; rw [if_pos rfl]
theorem strVl : Str Try.prog 39 3 := ⟨⟨_, Try.underlying39, rfl⟩, by kernel_rfl⟩
set_option maxHeartbeats 1000000 in
theorem c_value_Read (t : List UInt8) (w : World) (hb : t.length ≤ 1000000) : Calls Try.prog 48 #[.string (str t)] w (RetV w (valT t)) := by
  have B0 := Lib.hid (At.new w 39 vz.c3)
  by_cases h0 : t = [45]
  · subst h0
    rw [valT_some valR_dash]
    go_enter Try.func48, Try.ntmps48
    go_wp2_with (with_reducible refine stS 39 (.tmp 2) (.tmp 10) rfl rfl ?_)
    refine Stop.mk (wsB rfl _ _ _ rfl w.heap.size _ rfl rfl _ B0.out.2 strVl rfl rfl (by simp [Value.oneCell']) ?_)
    intro w9 hb9 hk9
    go_wp2_with (fail)
    refine bodyPost_ret (results_B2 rfl rfl rfl hb9 strVl rfl) rfl ⟨?_, B0.out.1.trans (hk9.oneB B0.out.1.size (Nat.le_refl _))⟩
    rfl
  · have j0 : (t == [45]) = false := by simpa using h0
    have V0 := Lib.hid (show valR t = match intR t 1099511627776 with | some n => some (⟨1, n, []⟩ : Val) | none => match unquote t with | some u => if u.length ≤ 24 then some ⟨2, 0, u⟩ else none | none => none by unfold valR; rw [if_neg h0])
    have CI := Lib.hid (fun w' => c_bits_Int t 1099511627776 w' (by omega))
    have CU := Lib.hid (fun w' => c_value_unquote t w' hb)
    clear h0
    cases hi : intR t 1099511627776 with
    | some n =>
      have e1 := intR_some hi
      rw [e1.1, e1.2] at CI
      have VE := Lib.hid (show valR t = some ⟨1, n, []⟩ by rw [V0.out, hi])
      rw [valT_some VE.out]
      clear e1 hi CU
      go_enter Try.func48, Try.ntmps48
      go_wp2_with (fail)
      refine (CI.out _).mono ?_
      rintro e w1 ⟨rfl, hb1⟩
      replace B0 := Lib.hid (B0.out.step hb1)
      go_wp2_with (with_reducible refine stS 39 (.tmp 2) (.tmp 18) rfl rfl ?_)
      refine Stop.mk (wsB rfl _ _ _ rfl w.heap.size _ rfl rfl _ B0.out.2 strVl rfl rfl (by simp [Value.oneCell']) ?_)
      intro w9 hb9 hk9
      go_wp2_with (fail)
      refine bodyPost_ret (results_B2 rfl rfl rfl hb9 strVl rfl) rfl ⟨?_, B0.out.1.trans (hk9.oneB B0.out.1.size (Nat.le_refl _))⟩
      rfl
    | none =>
      have e1 := intR_none hi
      rw [e1.1, e1.2] at CI
      cases hu : unquote t with
      | none =>
        have VE := Lib.hid (show valR t = none by rw [V0.out, hi, hu])
        rw [unqT_none hu] at CU
        rw [valT_none VE.out]
        clear e1 hi hu
        go_enter Try.func48, Try.ntmps48
        go_wp2_with (fail)
        refine (CI.out _).mono ?_
        rintro e w1 ⟨rfl, hb1⟩
        replace B0 := Lib.hid (B0.out.step hb1)
        go_wp2_with (fail)
        refine (CU.out _).mono ?_
        rintro e w2 ⟨rfl, hb2⟩
        replace B0 := Lib.hid (B0.out.step hb2)
        go_wp2_with (with_reducible refine stS 39 (.tmp 2) (.tmp 31) rfl rfl ?_)
        refine Stop.mk (wsB rfl _ _ _ rfl w.heap.size _ rfl rfl _ B0.out.2 strVl rfl rfl (by simp [Value.oneCell']) ?_)
        intro w9 hb9 hk9
        go_wp2_with (fail)
        refine bodyPost_ret (results_B2 rfl rfl rfl hb9 strVl rfl) rfl ⟨?_, B0.out.1.trans (hk9.oneB B0.out.1.size (Nat.le_refl _))⟩
        rfl
      | some u =>
        rw [unqT_some hu] at CU
        by_cases hl : u.length ≤ 24
        · have VE := Lib.hid (show valR t = some ⟨2, 0, u⟩ by rw [V0.out, hi, hu]; exact if_pos hl)
          rw [valT_some VE.out]
          have j1 : decide ((24 : Int) < (u.length : Int)) = false := by rw [decide_eq_false_iff_not]; omega
          clear e1 hi hu hl
          go_enter Try.func48, Try.ntmps48
          go_wp2_with (fail)
          refine (CI.out _).mono ?_
          rintro e w1 ⟨rfl, hb1⟩
          replace B0 := Lib.hid (B0.out.step hb1)
          go_wp2_with (fail)
          refine (CU.out _).mono ?_
          rintro e w2 ⟨rfl, hb2⟩
          replace B0 := Lib.hid (B0.out.step hb2)
          go_wp2_with (with_reducible refine stS 39 (.tmp 2) (.tmp 33) rfl rfl ?_)
          refine Stop.mk (wsB rfl _ _ _ rfl w.heap.size _ rfl rfl _ B0.out.2 strVl rfl rfl (by simp [Value.oneCell']) ?_)
          intro w9 hb9 hk9
          go_wp2_with (fail)
          refine bodyPost_ret (results_B2 rfl rfl rfl hb9 strVl rfl) rfl ⟨?_, B0.out.1.trans (hk9.oneB B0.out.1.size (Nat.le_refl _))⟩
          rfl
        · have VE := Lib.hid (show valR t = none by rw [V0.out, hi, hu]; exact if_neg hl)
          rw [valT_none VE.out]
          have j1 : decide ((24 : Int) < (u.length : Int)) = true := by rw [decide_eq_true_iff]; omega
          clear e1 hi hu hl
          go_enter Try.func48, Try.ntmps48
          go_wp2_with (fail)
          refine (CI.out _).mono ?_
          rintro e w1 ⟨rfl, hb1⟩
          replace B0 := Lib.hid (B0.out.step hb1)
          go_wp2_with (fail)
          refine (CU.out _).mono ?_
          rintro e w2 ⟨rfl, hb2⟩
          replace B0 := Lib.hid (B0.out.step hb2)
          go_wp2_with (with_reducible refine stS 39 (.tmp 2) (.tmp 31) rfl rfl ?_)
          refine Stop.mk (wsB rfl _ _ _ rfl w.heap.size _ rfl rfl _ B0.out.2 strVl rfl rfl (by simp [Value.oneCell']) ?_)
          intro w9 hb9 hk9
          go_wp2_with (fail)
          refine bodyPost_ret (results_B2 rfl rfl rfl hb9 strVl rfl) rfl ⟨?_, B0.out.1.trans (hk9.oneB B0.out.1.size (Nat.le_refl _))⟩
          rfl
end Go.Proofs.Ytbidnflcbgnckaa
namespace Go.Proofs.Ytbidnflcbgnckaa
open Go.RowKit

/-- A word's cells. -/
abbrev wdA (kind n p : Int) (s : List UInt8) : Array Value := #[.int .i64 kind, .int .i64 n, .int .i64 p, .string (str s)]
theorem strWd : Str Try.prog 65 4 := ⟨⟨_, Try.underlying65, rfl⟩, by kernel_rfl⟩
def fstT (o : Option Fst) (p : Int) (base : Int) : Value := match o with
  | some x => .tuple #[.agg (wdA x.kind x.n p x.s), .int .i64 (base + x.len)]
  | none => .tuple #[.agg (wdA 0 0 0 []), .int .i64 0]
theorem fst_letters {c : UInt8} {r : List UInt8} (h : 97 ≤ c.toNat ∧ c.toNat ≤ 122) : fst (c :: r) = some ⟨1, 0, (c :: r).take (run 97 122 (c :: r)), run 97 122 (c :: r)⟩ := by rw [fst, if_pos h]
theorem fst_digits {c : UInt8} {r : List UInt8} (h : 48 ≤ c.toNat ∧ c.toNat ≤ 57) : fst (c :: r) = (intR ((c :: r).take (run 48 57 (c :: r))) 1099511627776).map fun (v : Nat) => (⟨2, (v : Int), [], run 48 57 (c :: r)⟩ : Fst) := by rw [fst, if_neg (by omega), if_pos h]
theorem intR_34 {c : UInt8} {r : List UInt8} (h : c.toNat = 34) (m : Int) : intR (c :: r) m = none := by
  unfold intR
  split
  · rfl
  · rw [intF, if_neg (by omega)]
theorem valR_quoted {c : UInt8} {r : List UInt8} (h : c.toNat = 34) : valR (c :: r) = match unquote (c :: r) with | some u => if u.length ≤ 24 then some ⟨2, 0, u⟩ else none | none => none := by
  unfold valR
  rw [if_neg (fun e => by injection e with e; rw [e] at h; revert h; decide), intR_34 h]
  rfl
theorem valR_nil : valR [] = none := by decide
/-- The word in quotes that a text begins with. -/
theorem fst_quoted {c : UInt8} {r : List UInt8} (h : c.toNat = 34) : fst (c :: r) = match valR ((c :: r).take (qt r 1)) with | some v => some ⟨3, 0, v.s, qt r 1⟩ | none => none := by
  have hc : c = 34 := u8_eq h
  rw [fst, if_neg (by omega), if_neg (by omega), if_pos hc]
  by_cases h0 : qt r 1 = 0
  · rw [if_pos h0, h0, List.take_zero, valR_nil]
  · rw [if_neg h0]
    obtain ⟨m, hm⟩ : ∃ m, qt r 1 = m + 1 := ⟨qt r 1 - 1, by omega⟩
    rw [hm, List.take_succ_cons, valR_quoted h]
    cases unquote (c :: List.take m r) with
    | none => rfl
    | some u =>
      simp only
      split <;> rfl
theorem fst_other {c : UInt8} {r : List UInt8} (h1 : ¬ (97 ≤ c.toNat ∧ c.toNat ≤ 122)) (h2 : ¬ (48 ≤ c.toNat ∧ c.toNat ≤ 57)) (h3 : c.toNat ≠ 34) : fst (c :: r) = if sign c then some ⟨4, 0, [c], 1⟩ else none := by
  rw [fst, if_neg h1, if_neg h2, if_neg (fun e => h3 (by rw [e]; rfl))]
set_option maxHeartbeats 4000000 in
set_option maxRecDepth 4000 in
theorem c_lex_first (c : UInt8) (r : List UInt8) (w : World) (hs : r.length ≤ 100000) : Calls Try.prog 24 #[.string (str (c :: r))] w (RetV w (fstT (fst (c :: r)) 0 0)) := by
  have B0 := Lib.hid (At.new w 65 (wdA 0 0 0 []))
  have hc := c.toNat_lt
  by_cases g1 : 97 ≤ c.toNat ∧ c.toNat ≤ 122
  · have hl := run_le 97 122 (c :: r)
    have CR := Lib.hid (fun w' => show Calls Try.prog 45 #[.string (str (c :: r)), .int .u8 97, .int .u8 122] w' (RetV w' (.int .i64 (run 97 122 (c :: r) : Nat))) from c_lex_run (c :: r) 97 122 w' (by simp; omega))
    have F := fst_letters (r := r) g1
    obtain ⟨m, hm⟩ : ∃ m, m = run 97 122 (c :: r) := ⟨_, rfl⟩
    rw [← hm] at CR F hl
    have E := Lib.hid (congrArg (fun o => fstT o 0 0) F)
    have j1 : decide ((97 : Int) ≤ (c.toNat : Int)) = true := by rw [decide_eq_true_iff]; omega
    have j2 : decide ((c.toNat : Int) ≤ 122) = true := by rw [decide_eq_true_iff]; omega
    have hl' : m ≤ r.length + 1 := by simpa using hl
    clear g1 F hm
    go_enter Try.func24, Try.ntmps24
    go_wp2_with (fail)
    refine (CR.out _).mono ?_
    rintro e w1 ⟨rfl, hb1⟩
    replace B0 := Lib.hid (B0.out.step hb1)
    clear hb1
    go_wp2_with (with_reducible refine stS 65 (.tmp 2) (.tmp 26) rfl rfl ?_)
    refine Stop.mk (wsB rfl _ _ _ rfl w.heap.size _ rfl rfl _ B0.out.2 strWd rfl rfl (by simp [Value.oneCell']) ?_)
    intro w9 hb9 hk9
    go_wp2_with (fail)
    refine bodyPost_ret (results_B2 rfl rfl rfl hb9 strWd rfl) rfl ⟨?_, B0.out.1.trans (hk9.oneB B0.out.1.size (Nat.le_refl _))⟩
    rw [E.out]
    simp [fstT]
  · by_cases g2 : 48 ≤ c.toNat ∧ c.toNat ≤ 57
    · have hl := run_le 48 57 (c :: r)
      have CR := Lib.hid (fun w' => show Calls Try.prog 45 #[.string (str (c :: r)), .int .u8 48, .int .u8 57] w' (RetV w' (.int .i64 (run 48 57 (c :: r) : Nat))) from c_lex_run (c :: r) 48 57 w' (by simp; omega))
      have F := fst_digits (r := r) g2
      obtain ⟨m, hm⟩ : ∃ m, m = run 48 57 (c :: r) := ⟨_, rfl⟩
      rw [← hm] at CR F hl
      have j1 : decide ((97 : Int) ≤ (c.toNat : Int)) = false := by rw [decide_eq_false_iff_not]; omega
      have j2 : decide ((48 : Int) ≤ (c.toNat : Int)) = true := by rw [decide_eq_true_iff]; omega
      have j3 : decide ((c.toNat : Int) ≤ 57) = true := by rw [decide_eq_true_iff]; omega
      have hl' : m ≤ r.length + 1 := by simpa using hl
      have CI := Lib.hid (fun w' => c_bits_Int ((c :: r).take m) 1099511627776 w' (by rw [List.length_take]; simp; omega))
      clear g1 g2 hm
      cases hi : intR ((c :: r).take m) 1099511627776 with
      | some v =>
        rw [hi] at F
        rw [(intR_some hi).1, (intR_some hi).2] at CI
        have E := Lib.hid (congrArg (fun o => fstT o 0 0) F)
        clear F hi
        go_enter Try.func24, Try.ntmps24
        go_wp2_with (fail)
        refine (CR.out _).mono ?_
        rintro e w1 ⟨rfl, hb1⟩
        replace B0 := Lib.hid (B0.out.step hb1)
        clear hb1
        go_wp2_with (fail)
        refine (CI.out _).mono ?_
        rintro e w2 ⟨rfl, hb2⟩
        replace B0 := Lib.hid (B0.out.step hb2)
        clear hb2
        go_wp2_with (with_reducible refine stS 65 (.tmp 2) (.tmp 46) rfl rfl ?_)
        refine Stop.mk (wsB rfl _ _ _ rfl w.heap.size _ rfl rfl _ B0.out.2 strWd rfl rfl (by simp [Value.oneCell']) ?_)
        intro w9 hb9 hk9
        go_wp2_with (fail)
        refine bodyPost_ret (results_B2 rfl rfl rfl hb9 strWd rfl) rfl ⟨?_, B0.out.1.trans (hk9.oneB B0.out.1.size (Nat.le_refl _))⟩
        rw [E.out]
        simp [fstT]
      | none =>
        rw [hi] at F
        rw [(intR_none hi).1, (intR_none hi).2] at CI
        have E := Lib.hid (congrArg (fun o => fstT o 0 0) F)
        clear F hi
        go_enter Try.func24, Try.ntmps24
        go_wp2_with (fail)
        refine (CR.out _).mono ?_
        rintro e w1 ⟨rfl, hb1⟩
        replace B0 := Lib.hid (B0.out.step hb1)
        clear hb1
        go_wp2_with (fail)
        refine (CI.out _).mono ?_
        rintro e w2 ⟨rfl, hb2⟩
        replace B0 := Lib.hid (B0.out.step hb2)
        clear hb2
        go_wp2_with (with_reducible refine stS 65 (.tmp 2) (.tmp 76) rfl rfl ?_)
        refine Stop.mk (wsB rfl _ _ _ rfl w.heap.size _ rfl rfl _ B0.out.2 strWd rfl rfl (by simp [Value.oneCell']) ?_)
        intro w9 hb9 hk9
        go_wp2_with (fail)
        refine bodyPost_ret (results_B2 rfl rfl rfl hb9 strWd rfl) rfl ⟨?_, B0.out.1.trans (hk9.oneB B0.out.1.size (Nat.le_refl _))⟩
        rw [E.out]
        simp [fstT]
    · by_cases g3 : c.toNat = 34
      · have hl := qt_le r.length r 1 (Nat.le_refl _)
        have CQ := Lib.hid (fun w' => show Calls Try.prog 47 #[.string (str (c :: r))] w' (RetV w' (.int .i64 (qt r 1 : Nat))) from c_lex_quoted (c :: r) w' (by simp; omega))
        have F := fst_quoted (r := r) g3
        obtain ⟨m, hm⟩ : ∃ m, m = qt r 1 := ⟨_, rfl⟩
        have H0 := Lib.hid (show m = 0 → valR ((c :: r).take m) = none from fun h => by rw [h, List.take_zero]; exact valR_nil)
        rw [← hm] at CQ F hl
        have j1 : decide ((97 : Int) ≤ (c.toNat : Int)) = false := by rw [decide_eq_false_iff_not]; omega
        have j2 : decide ((48 : Int) ≤ (c.toNat : Int)) = false := by rw [decide_eq_false_iff_not]; omega
        have j3 : ((c.toNat : Int) == 34) = true := by rw [beq_iff_eq]; omega
        have CV := Lib.hid (fun w' => c_value_Read ((c :: r).take m) w' (by rw [List.length_take]; simp; omega))
        have hl' : m ≤ r.length + 1 := by omega
        clear g1 g2 g3 hm hl
        cases hv : valR ((c :: r).take m) with
        | some v =>
          rw [hv] at F
          rw [valT_some hv] at CV
          have hm0 : 0 < m := by
            rcases Nat.eq_zero_or_pos m with h | h
            · have := H0.out h; rw [hv] at this; cases this
            · exact h
          have E := Lib.hid (congrArg (fun o => fstT o 0 0) F)
          have k1 : decide ((0 : Int) < (m : Int)) = true := by rw [decide_eq_true_iff]; omega
          clear F hv
          go_enter Try.func24, Try.ntmps24
          go_wp2_with (fail)
          refine (CQ.out _).mono ?_
          rintro e w1 ⟨rfl, hb1⟩
          replace B0 := Lib.hid (B0.out.step hb1)
          clear hb1
          go_wp2_with (fail)
          refine (CV.out _).mono ?_
          rintro e w2 ⟨rfl, hb2⟩
          replace B0 := Lib.hid (B0.out.step hb2)
          clear hb2
          go_wp2_with (with_reducible refine stS 39 (.tmp 10) (.tmp 58) rfl rfl ?_)
          refine Stop.mk (wsB rfl _ _ _ rfl w2.heap.size v.c3 rfl rfl _ (Blk.new _ _ _) strVl rfl rfl (by simp [Value.oneCell']) ?_)
          intro w3 hb3 hk3
          replace B0 := Lib.hid (B0.out.step (fresh_below hk3))
          have q2 := hb3.cell (show v.c3[2]? = _ from rfl)
          have q0 := hb3.cell (show v.c3[0]? = _ from rfl)
          have q1 := hb3.cell (show v.c3[1]? = _ from rfl)
          have hlt := hb3.lt
          clear hb3 hk3
          go_wp2_with (with_reducible refine stS 65 (.tmp 2) (.tmp 67) rfl rfl ?_)
          refine Stop.mk (wsB rfl _ _ _ rfl w.heap.size _ rfl rfl _ B0.out.2 strWd rfl rfl (by simp [Value.oneCell']) ?_)
          intro w9 hb9 hk9
          go_wp2_with (fail)
          refine bodyPost_ret (results_B2 rfl rfl rfl hb9 strWd rfl) rfl ⟨?_, B0.out.1.trans (hk9.oneB B0.out.1.size (Nat.le_refl _))⟩
          rw [E.out]
          simp [fstT]
        | none =>
          rw [hv] at F
          rw [valT_none hv] at CV
          have E := Lib.hid (congrArg (fun o => fstT o 0 0) F)
          clear F hv
          go_enter Try.func24, Try.ntmps24
          go_wp2_with (fail)
          refine (CQ.out _).mono ?_
          rintro e w1 ⟨rfl, hb1⟩
          replace B0 := Lib.hid (B0.out.step hb1)
          clear hb1
          go_wp2_with (fail)
          refine (CV.out _).mono ?_
          rintro e w2 ⟨rfl, hb2⟩
          replace B0 := Lib.hid (B0.out.step hb2)
          clear hb2
          go_wp2_with (with_reducible refine stS 39 (.tmp 10) (.tmp 58) rfl rfl ?_)
          refine Stop.mk (wsB rfl _ _ _ rfl w2.heap.size vz.c3 rfl rfl _ (Blk.new _ _ _) strVl rfl rfl (by simp [Value.oneCell']) ?_)
          intro w3 hb3 hk3
          replace B0 := Lib.hid (B0.out.step (fresh_below hk3))
          clear hb3 hk3
          go_wp2_with (with_reducible refine stS 65 (.tmp 2) (.tmp 76) rfl rfl ?_)
          refine Stop.mk (wsB rfl _ _ _ rfl w.heap.size _ rfl rfl _ B0.out.2 strWd rfl rfl (by simp [Value.oneCell']) ?_)
          intro w9 hb9 hk9
          go_wp2_with (fail)
          refine bodyPost_ret (results_B2 rfl rfl rfl hb9 strWd rfl) rfl ⟨?_, B0.out.1.trans (hk9.oneB B0.out.1.size (Nat.le_refl _))⟩
          rw [E.out]
          simp [fstT]
      · have F := fst_other (r := r) g1 g2 g3
        have j0 : ((c.toNat : Int) == 34) = false := by rw [beq_eq_false_iff_ne]; omega
        have CX := Lib.hid (fun w' => c_strings_IndexByte (str [40, 41, 61, 60, 62, 126]) c.toNat w')
        have SI := sign_index c
        obtain ⟨ix, hix⟩ : ∃ x, x = Lib.indexByte [40, 41, 61, 60, 62, 126] c := ⟨_, rfl⟩
        have hX : Lib.indexByte (str [40, 41, 61, 60, 62, 126]).data.toList (c.toNat : Int).toNat.toUInt8 = ix := by
          rw [hix]
          show Lib.indexByte [40, 41, 61, 60, 62, 126] (UInt8.ofNat c.toNat) = _
          rw [UInt8.ofNat_toNat]
        rw [hX] at CX
        rw [← hix] at SI
        have hcs : c.toNat < 48 ∨ (57 < c.toNat ∧ c.toNat < 97) ∨ 122 < c.toNat := by omega
        clear hX hix g1 g2 g3
        cases hsg : sign c
        case true =>
          rw [hsg] at F SI
          have E := Lib.hid (congrArg (fun o => fstT o 0 0) F)
          clear F hsg
          rcases hcs with g | ⟨g, g'⟩ | g
          · have j1 : decide ((97 : Int) ≤ (c.toNat : Int)) = false := by rw [decide_eq_false_iff_not]; omega
            have j2 : decide ((48 : Int) ≤ (c.toNat : Int)) = false := by rw [decide_eq_false_iff_not]; omega
            clear g
            go_enter Try.func24, Try.ntmps24
            go_wp2_with (fail)
            refine (CX.out _).mono ?_
            rintro e w1 ⟨rfl, rfl⟩
            go_wp2_with (with_reducible refine stS 65 (.tmp 2) (.tmp 75) rfl rfl ?_)
            refine Stop.mk (wsB rfl _ _ _ rfl w.heap.size _ rfl rfl _ B0.out.2 strWd rfl rfl (by simp [Value.oneCell']) ?_)
            intro w9 hb9 hk9
            go_wp2_with (fail)
            refine bodyPost_ret (results_B2 rfl rfl rfl hb9 strWd rfl) rfl ⟨?_, B0.out.1.trans (hk9.oneB B0.out.1.size (Nat.le_refl _))⟩
            rw [E.out]
            simp [fstT]
          · have j1 : decide ((97 : Int) ≤ (c.toNat : Int)) = false := by rw [decide_eq_false_iff_not]; omega
            have j2 : decide ((48 : Int) ≤ (c.toNat : Int)) = true := by rw [decide_eq_true_iff]; omega
            have j3 : decide ((c.toNat : Int) ≤ 57) = false := by rw [decide_eq_false_iff_not]; omega
            clear g g'
            go_enter Try.func24, Try.ntmps24
            go_wp2_with (fail)
            refine (CX.out _).mono ?_
            rintro e w1 ⟨rfl, rfl⟩
            go_wp2_with (with_reducible refine stS 65 (.tmp 2) (.tmp 75) rfl rfl ?_)
            refine Stop.mk (wsB rfl _ _ _ rfl w.heap.size _ rfl rfl _ B0.out.2 strWd rfl rfl (by simp [Value.oneCell']) ?_)
            intro w9 hb9 hk9
            go_wp2_with (fail)
            refine bodyPost_ret (results_B2 rfl rfl rfl hb9 strWd rfl) rfl ⟨?_, B0.out.1.trans (hk9.oneB B0.out.1.size (Nat.le_refl _))⟩
            rw [E.out]
            simp [fstT]
          · have j1 : decide ((97 : Int) ≤ (c.toNat : Int)) = true := by rw [decide_eq_true_iff]; omega
            have j1' : decide ((c.toNat : Int) ≤ 122) = false := by rw [decide_eq_false_iff_not]; omega
            have j2 : decide ((48 : Int) ≤ (c.toNat : Int)) = true := by rw [decide_eq_true_iff]; omega
            have j3 : decide ((c.toNat : Int) ≤ 57) = false := by rw [decide_eq_false_iff_not]; omega
            clear g
            go_enter Try.func24, Try.ntmps24
            go_wp2_with (fail)
            refine (CX.out _).mono ?_
            rintro e w1 ⟨rfl, rfl⟩
            go_wp2_with (with_reducible refine stS 65 (.tmp 2) (.tmp 75) rfl rfl ?_)
            refine Stop.mk (wsB rfl _ _ _ rfl w.heap.size _ rfl rfl _ B0.out.2 strWd rfl rfl (by simp [Value.oneCell']) ?_)
            intro w9 hb9 hk9
            go_wp2_with (fail)
            refine bodyPost_ret (results_B2 rfl rfl rfl hb9 strWd rfl) rfl ⟨?_, B0.out.1.trans (hk9.oneB B0.out.1.size (Nat.le_refl _))⟩
            rw [E.out]
            simp [fstT]
        case false =>
          rw [hsg] at F SI
          have E := Lib.hid (congrArg (fun o => fstT o 0 0) F)
          clear F hsg
          rcases hcs with g | ⟨g, g'⟩ | g
          · have j1 : decide ((97 : Int) ≤ (c.toNat : Int)) = false := by rw [decide_eq_false_iff_not]; omega
            have j2 : decide ((48 : Int) ≤ (c.toNat : Int)) = false := by rw [decide_eq_false_iff_not]; omega
            clear g
            go_enter Try.func24, Try.ntmps24
            go_wp2_with (fail)
            refine (CX.out _).mono ?_
            rintro e w1 ⟨rfl, rfl⟩
            go_wp2_with (with_reducible refine stS 65 (.tmp 2) (.tmp 76) rfl rfl ?_)
            refine Stop.mk (wsB rfl _ _ _ rfl w.heap.size _ rfl rfl _ B0.out.2 strWd rfl rfl (by simp [Value.oneCell']) ?_)
            intro w9 hb9 hk9
            go_wp2_with (fail)
            refine bodyPost_ret (results_B2 rfl rfl rfl hb9 strWd rfl) rfl ⟨?_, B0.out.1.trans (hk9.oneB B0.out.1.size (Nat.le_refl _))⟩
            rw [E.out]
            simp [fstT]
          · have j1 : decide ((97 : Int) ≤ (c.toNat : Int)) = false := by rw [decide_eq_false_iff_not]; omega
            have j2 : decide ((48 : Int) ≤ (c.toNat : Int)) = true := by rw [decide_eq_true_iff]; omega
            have j3 : decide ((c.toNat : Int) ≤ 57) = false := by rw [decide_eq_false_iff_not]; omega
            clear g g'
            go_enter Try.func24, Try.ntmps24
            go_wp2_with (fail)
            refine (CX.out _).mono ?_
            rintro e w1 ⟨rfl, rfl⟩
            go_wp2_with (with_reducible refine stS 65 (.tmp 2) (.tmp 76) rfl rfl ?_)
            refine Stop.mk (wsB rfl _ _ _ rfl w.heap.size _ rfl rfl _ B0.out.2 strWd rfl rfl (by simp [Value.oneCell']) ?_)
            intro w9 hb9 hk9
            go_wp2_with (fail)
            refine bodyPost_ret (results_B2 rfl rfl rfl hb9 strWd rfl) rfl ⟨?_, B0.out.1.trans (hk9.oneB B0.out.1.size (Nat.le_refl _))⟩
            rw [E.out]
            simp [fstT]
          · have j1 : decide ((97 : Int) ≤ (c.toNat : Int)) = true := by rw [decide_eq_true_iff]; omega
            have j1' : decide ((c.toNat : Int) ≤ 122) = false := by rw [decide_eq_false_iff_not]; omega
            have j2 : decide ((48 : Int) ≤ (c.toNat : Int)) = true := by rw [decide_eq_true_iff]; omega
            have j3 : decide ((c.toNat : Int) ≤ 57) = false := by rw [decide_eq_false_iff_not]; omega
            clear g
            go_enter Try.func24, Try.ntmps24
            go_wp2_with (fail)
            refine (CX.out _).mono ?_
            rintro e w1 ⟨rfl, rfl⟩
            go_wp2_with (with_reducible refine stS 65 (.tmp 2) (.tmp 76) rfl rfl ?_)
            refine Stop.mk (wsB rfl _ _ _ rfl w.heap.size _ rfl rfl _ B0.out.2 strWd rfl rfl (by simp [Value.oneCell']) ?_)
            intro w9 hb9 hk9
            go_wp2_with (fail)
            refine bodyPost_ret (results_B2 rfl rfl rfl hb9 strWd rfl) rfl ⟨?_, B0.out.1.trans (hk9.oneB B0.out.1.size (Nat.le_refl _))⟩
            rw [E.out]
            simp [fstT]
end Go.Proofs.Ytbidnflcbgnckaa
namespace Go.Proofs.Ytbidnflcbgnckaa
open Go.RowKit

/-- Blocks from number B on, each known whole, no two the same. -/
def Blks (w : World) (B : Nat) : List (Nat × Array Value) → Prop
  | [] => True
  | x :: r => (Blk w x.1 x.2 ∧ B ≤ x.1 ∧ ∀ y ∈ r, y.1 ≠ x.1) ∧ Blks w B r
section
variable {w w' : World} {B : Nat} {l : List (Nat × Array Value)}
theorem Blks.kept {q : Option Nat} (h : Blks w B l) (k : Kept q w.heap.size w w') (hq : ∀ g, q = some g → g < B) : Blks w' B l := by
  induction l with
  | nil => trivial
  | cons x r ih =>
    obtain ⟨⟨h1, h2, h3⟩, h4⟩ := h
    exact ⟨⟨h1.kept k h1.lt (fun e => by have := hq _ e; omega), h2, h3⟩, ih h4⟩
theorem Blks.far {q : Nat} (h : Blks w B l) (k : Kept (some q) w.heap.size w w') (hq : ∀ y ∈ l, y.1 ≠ q) : Blks w' B l := by
  induction l with
  | nil => trivial
  | cons x r ih =>
    obtain ⟨⟨h1, h2, h3⟩, h4⟩ := h
    exact ⟨⟨h1.kept k h1.lt (fun e => by injection e with e; exact hq x (List.mem_cons_self ..) e.symm), h2, h3⟩, ih h4 (fun y hy => hq y (List.mem_cons_of_mem _ hy))⟩
theorem Blks.lt (h : Blks w B l) : ∀ y ∈ l, y.1 < w.heap.size := by
  induction l with
  | nil => intro y hy; cases hy
  | cons x r ih =>
    intro y hy
    rcases List.mem_cons.1 hy with rfl | hy
    · exact h.1.1.lt
    · exact ih h.2 y hy
end
theorem kept_set (w : World) (g off : Nat) (v : Value) : Kept (some g) w.heap.size w (w.setCell ⟨g, off, none⟩ v) := (Kept.refl (some g) _ w).setCell (q := ⟨g, off, none⟩) (.inr rfl) v
/-- The program's reader, and blocks of the call's own. -/
structure EnvP (p : Option Nat) (S : Rd) (w w' : World) (l : List (Nat × Array Value)) : Prop where
  low : ∀ g, p = some g → g < w.heap.size
  kept : Kept p w.heap.size w w'
  rd : RdP w' p S
  blks : Blks w' w.heap.size l
section
variable {p : Option Nat} {S S' : Rd} {w w1 w2 : World} {l : List (Nat × Array Value)} {g g0 : Nat} {cs c0 cs' : Array Value}
theorem EnvP.start (r : RdP w p S) : EnvP p S w w [] := ⟨fun _ hg => r.lt hg, Kept.refl _ _ _, r, trivial⟩
theorem EnvP.size (h : EnvP p S w w1 l) : w.heap.size ≤ w1.heap.size := h.kept.size
theorem EnvP.call (h : EnvP p S w w1 l) (r : RdP w2 p S') (k : Kept p w1.heap.size w1 w2) : EnvP p S' w w2 l :=
  ⟨h.low, h.kept.then_kept k h.size, r, h.blks.kept k h.low⟩
theorem EnvP.below (h : EnvP p S w w1 l) (k : Below w1.heap.size w1 w2) : EnvP p S w w2 l :=
  ⟨h.low, h.kept.then_below k h.size, h.rd.below k, h.blks.kept (q := none) (.of_below k) (fun _ e => by cases e)⟩
theorem EnvP.alloc (h : EnvP p S w w1 l) (t : TypeId) (cs : Array Value) : EnvP p S w (w1.alloc (.cells cs t)) ((w1.heap.size, cs) :: l) := by
  have h' := h.below ((Below.refl _ _).alloc (Nat.le_refl _) (.cells cs t))
  exact ⟨h.low, h'.kept, h'.rd, ⟨Blk.new _ _ _, h.size, fun y hy => by have := h.blks.lt y hy; simp only; omega⟩, h'.blks⟩
theorem EnvP.own (h : EnvP p S w w1 l) (hg : w.heap.size ≤ g) (k : Kept (some g) w1.heap.size w1 w2) : Kept p w.heap.size w w2 ∧ RdP w2 p S :=
  ⟨h.kept.trans (k.one h.size (.inl hg)), h.rd.kept k (fun a b ha hb => by injection hb with hb; have := h.low a ha; omega)⟩
theorem EnvP.b0 (h : EnvP p S w w1 ((g, cs) :: l)) : Blk w1 g cs := h.blks.1.1
theorem EnvP.b1 (h : EnvP p S w w1 ((g0, c0) :: (g, cs) :: l)) : Blk w1 g cs := h.blks.2.1.1
theorem EnvP.as (h : EnvP p S w w1 ((g, cs) :: l)) (e : cs = cs') : EnvP p S w w1 ((g, cs') :: l) := e ▸ h
theorem EnvP.state (h : EnvP p S w w1 l) (e : S = S') : EnvP p S' w w1 l := e ▸ h
end
/-- The reference's reader, and blocks of the call's own. -/
structure EnvR (p : Nat) (S : Rd) (w w' : World) (l : List (Nat × Array Value)) : Prop where
  low : p < w.heap.size
  kept : Kept (some p) w.heap.size w w'
  rd : RdR w' p S
  blks : Blks w' w.heap.size l
section
variable {p : Nat} {S S' : Rd} {w w1 w2 : World} {l : List (Nat × Array Value)} {g g0 : Nat} {cs c0 cs' : Array Value}
theorem EnvR.start (r : RdR w p S) : EnvR p S w w [] := ⟨r.lt, Kept.refl _ _ _, r, trivial⟩
theorem EnvR.size (h : EnvR p S w w1 l) : w.heap.size ≤ w1.heap.size := h.kept.size
theorem EnvR.call (h : EnvR p S w w1 l) (r : RdR w2 p S') (k : Kept (some p) w1.heap.size w1 w2) : EnvR p S' w w2 l :=
  ⟨h.low, h.kept.then_kept k h.size, r, h.blks.kept k (fun g e => by injection e with e; have := h.low; omega)⟩
theorem EnvR.below (h : EnvR p S w w1 l) (k : Below w1.heap.size w1 w2) : EnvR p S w w2 l :=
  ⟨h.low, h.kept.then_below k h.size, h.rd.below k, h.blks.kept (q := none) (.of_below k) (fun _ e => by cases e)⟩
theorem EnvR.alloc (h : EnvR p S w w1 l) (t : TypeId) (cs : Array Value) : EnvR p S w (w1.alloc (.cells cs t)) ((w1.heap.size, cs) :: l) := by
  have h' := h.below ((Below.refl _ _).alloc (Nat.le_refl _) (.cells cs t))
  exact ⟨h.low, h'.kept, h'.rd, ⟨Blk.new _ _ _, h.size, fun y hy => by have := h.blks.lt y hy; simp only; omega⟩, h'.blks⟩
theorem EnvR.own (h : EnvR p S w w1 l) (hg : w.heap.size ≤ g) (k : Kept (some g) w1.heap.size w1 w2) : Kept (some p) w.heap.size w w2 ∧ RdR w2 p S :=
  ⟨h.kept.trans (k.one h.size (.inl hg)), h.rd.kept k (fun e => by injection e with e; have := h.low; omega)⟩
theorem EnvR.b0 (h : EnvR p S w w1 ((g, cs) :: l)) : Blk w1 g cs := h.blks.1.1
theorem EnvR.b1 (h : EnvR p S w w1 ((g0, c0) :: (g, cs) :: l)) : Blk w1 g cs := h.blks.2.1.1
theorem EnvR.as (h : EnvR p S w w1 ((g, cs) :: l)) (e : cs = cs') : EnvR p S w w1 ((g, cs') :: l) := e ▸ h
theorem EnvR.state (h : EnvR p S w w1 l) (e : S = S') : EnvR p S' w w1 l := e ▸ h
end
end Go.Proofs.Ytbidnflcbgnckaa
namespace Go.Proofs.Ytbidnflcbgnckaa
open Go.RowKit

theorem Kept.grown {p : Nat} {w w' : World} (h : Kept (some p) w.heap.size w w') : w.grownBy w' (some p) := ⟨h.os, h.tape, h.output, h.size, fun k hk hne => h.block k hk (fun e => hne e.symm)⟩
def Wd.cells (x : Wd) : List Value := [.int .i64 x.kind, .int .i64 x.n, .int .i64 x.pos, .string (str x.s)]
theorem Wd.cells_len (x : Wd) : (Wd.cells x).length = 4 := rfl
theorem wds_one (l : List Wd) : ∀ u ∈ l.flatMap Wd.cells, u.oneCell' = true := by
  intro u hu
  obtain ⟨x, _, hx⟩ := List.mem_flatMap.1 hu
  simp only [Wd.cells, List.mem_cons, List.not_mem_nil, or_false] at hx
  rcases hx with rfl | rfl | rfl | rfl <;> rfl
theorem elemW : Elem Try.prog 42 65 4 40 := Elem.mk' (z := .agg (wdA 0 0 0 [])) Try.underlying42 (by kernel_rfl) rfl (by omega) (by omega)
/-- The words of a text, and the place of what is wrong. -/
def lexS (s : List UInt8) : List Wd × Option Nat := lexF s.length s 0
/-- How far a text has been cut. -/
def LexAt (s : List UInt8) (acc : List Wd) (k : Nat) : Prop := lexS s = (acc ++ (lexF (s.drop k).length (s.drop k) k).1, (lexF (s.drop k).length (s.drop k) k).2) ∧ k ≤ s.length ∧ acc.length ≤ k
theorem LexAt.start (s : List UInt8) : LexAt s [] 0 := ⟨by simp [lexS], by omega, by simp⟩
theorem LexAt.done {s : List UInt8} {acc : List Wd} (h : LexAt s acc s.length) : lexS s = (acc, none) := by rw [h.1, List.drop_length]; simp [lexF]
theorem LexAt.blank {s : List UInt8} {acc : List Wd} {k : Nat} (h : LexAt s acc k) (hk : k < s.length) (hc : s[k].toNat = 32) : LexAt s acc (k + 1) := by
  have e : s[k] = 32 := UInt8.toNat_inj.1 hc
  refine ⟨?_, by omega, by have := h.2.2; omega⟩
  rw [h.1, List.drop_eq_getElem_cons hk, List.length_cons, lexF, if_pos e]
theorem LexAt.bad {s : List UInt8} {acc : List Wd} {k : Nat} (h : LexAt s acc k) (hk : k < s.length) (hc : s[k].toNat ≠ 32) (hf : fst (s.drop k) = none) : (lexS s).2 = some k := by
  have e : s[k] ≠ 32 := fun e => hc (by rw [e]; rfl)
  rw [h.1, List.drop_eq_getElem_cons hk, List.length_cons, lexF, if_neg e]
  rw [List.drop_eq_getElem_cons hk] at hf
  rw [hf]
theorem LexAt.word {s : List UInt8} {acc : List Wd} {k : Nat} {x : Fst} (h : LexAt s acc k) (hk : k < s.length) (hc : s[k].toNat ≠ 32) (hf : fst (s.drop k) = some x) : LexAt s (acc ++ [⟨x.kind, x.n, k, x.s⟩]) (k + x.len) ∧ 0 < x.len ∧ k + x.len ≤ s.length := by
  have e : s[k] ≠ 32 := fun e => hc (by rw [e]; rfl)
  obtain ⟨_, h1, h2⟩ := fst_may hf
  rw [List.length_drop] at h2
  have hd : (s.drop k).length = s.length - k := List.length_drop
  refine ⟨⟨?_, by omega, by have := h.2.2; simp; omega⟩, h1, by omega⟩
  have hx := hf
  rw [List.drop_eq_getElem_cons hk] at hx
  rw [h.1, List.drop_eq_getElem_cons hk, List.length_cons, lexF, if_neg e, hx]
  simp only
  rw [← List.drop_eq_getElem_cons hk, List.drop_drop, lexF_more _ _ _ (by simp only [List.length_drop]; omega)]
  simp
/-- The end of All. -/
def RetAll (wt : TypeId) (w : World) (s : List UInt8) (e : Ending) (w' : World) : Prop :=
  Below w.heap.size w w' ∧ ((1000 < s.length ∧ e = .returned (.tuple #[.slice none 0 0, .int .i64 0, .int .i64 4])) ∨
    (s.length ≤ 1000 ∧ ((∃ k : Nat, (lexS s).2 = some k ∧ e = .returned (.tuple #[.slice none 0 0, .int .i64 k, .int .i64 3])) ∨
      (∃ v ws, lexS s = (ws, none) ∧ e = .returned (.tuple #[v, .int .i64 0, .int .i64 0]) ∧ w'.ownsRow w.heap.size wt 4 v ws.length (ws.flatMap Wd.cells)))))
set_option maxHeartbeats 400000 in
theorem lex_All_long (s : List UInt8) (w : World) (h : 1000 < s.length) (hs : s.length ≤ 9223372036854775807) : Calls Try.prog 12 #[.string (str s)] w (RetAll 65 w s) := by
  have d1 : decide ((1000 : Int) < (s.length : Int)) = true := by rw [decide_eq_true_iff]; omega
  go_enter Try.func12, Try.ntmps12
  go_wp2_with (fail)
  go_ret3
  exact ⟨(by repeat (first | exact Below.refl _ _ | refine Below.drew ?_ | refine Below.alloc ?_ (by first | omega | (simp; done) | (simp; omega)) _ | refine Below.setCell ?_ (by first | omega | (simp; done) | (simp; omega)) _ | refine Below.trans ?_ (Below.mono (by assumption) (by first | omega | (simp; done) | (simp; omega))))), .inl ⟨h, rfl⟩⟩
set_option maxHeartbeats 4000000 in
set_option maxRecDepth 4000 in
theorem lex_All_in (s : List UInt8) (w : World) (hs : s.length ≤ 1000) : Calls Try.prog 12 #[.string (str s)] w (RetAll 65 w s) := by
  have d1 : decide ((1000 : Int) < (s.length : Int)) = false := by rw [decide_eq_false_iff_not]; omega
  go_enter Try.func12, Try.ntmps12
  go_wp2_with (fail)
  go_loopw [5, 6] (fun v i wr => ∃ (k : Nat) (acc : List Wd) (v0 : Value), v = v0 ∧ i = .int .i64 k ∧ Hid (LexAt s acc k) ∧ Hid (wr.ownsRow w.heap.size 65 4 v acc.length (acc.flatMap Wd.cells)) ∧ Hid (Below w.heap.size w wr))
    (fun _ i _ => s.length - (intOf i).toNat)
  case atStart => exact ⟨0, [], _, rfl, rfl, LexAt.start s, World.ownsRow_nil _ _ _ _, Below.refl _ _⟩
  case round =>
    obtain ⟨k, acc, v0, rfl, rfl, H, O, B1⟩ := hrel
    obtain ⟨A9, c9, rfl, -, -⟩ := own_form O.out
    have hz := B1.out.size
    have hkl := H.out.2.1
    have hal := H.out.2.2
    by_cases hlt : k < s.length
    · have dl : decide (k < s.length) = true := by simpa using hlt
      by_cases g1 : s[k].toNat = 32
      · have j1 : ((s[k].toNat : Int) == 32) = true := by rw [beq_iff_eq]; omega
        have H2 := Lib.hid (H.out.blank hlt g1)
        clear H g1
        go_wp2_with (fail)
        go_roundw
        case rel => exact ⟨k + 1, acc, _, rfl, by go_num, H2.out, O.out, B1.out⟩
        case measure => simp [intOf]; omega
      · have j1 : ((s[k].toNat : Int) == 32) = false := by rw [beq_eq_false_iff_ne]; omega
        have HC := Lib.hid g1
        clear g1
        have CF := Lib.hid (fun w' => show Calls Try.prog 24 #[.string (str (s.drop k))] w' (RetV w' (fstT (fst (s.drop k)) 0 0)) by rw [List.drop_eq_getElem_cons hlt]; exact c_lex_first _ _ w' (by rw [List.length_drop]; omega))
        have hx : List.take (s.length - k) (List.drop k s) = List.drop k s := List.take_of_length_le (by rw [List.length_drop]; omega)
        cases hf : fst (s.drop k) with
        | none =>
          rw [hf] at CF
          have H2 := Lib.hid (H.out.bad hlt HC.out hf)
          clear hf H
          go_wp2_with (fail)
          refine (CF.out _).mono ?_
          rintro e w1 ⟨rfl, hb1⟩
          replace B1 := Lib.hid (B1.out.trans (hb1.mono hz))
          clear hb1 hz
          unfold fstT
          go_wp2_with (with_reducible refine stS 65 (.tmp 7) (.tmp 27) rfl rfl ?_)
          refine Stop.mk (wsB rfl _ _ _ rfl w1.heap.size (wdA 0 0 0 []) rfl rfl _ (Blk.new _ _ _) strWd rfl rfl (by simp [Value.oneCell']) ?_)
          intro w3 hb3 hk3
          replace B1 := Lib.hid (B1.out.trans ((fresh_below hk3).mono B1.out.size))
          clear hb3 hk3
          go_wp2_with (fail)
          go_ret3
          exact ⟨B1.out, .inr ⟨hs, .inl ⟨k, H2.out, rfl⟩⟩⟩
        | some x =>
          rw [hf] at CF
          have H2 := Lib.hid (H.out.word hlt HC.out hf)
          have hl0 := H2.out.2.1
          have hl1 := H2.out.2.2
          obtain ⟨xk, xn, xs, xl⟩ := x
          have j2 : ((xl : Int) == 0) = false := by rw [beq_eq_false_iff_ne]; simp only at hl0; omega
          clear hf H
          go_wp2_with (fail)
          refine (CF.out _).mono ?_
          rintro e w1 ⟨rfl, hb1⟩
          replace O := Lib.hid (own_below O.out hb1)
          replace B1 := Lib.hid (B1.out.trans (hb1.mono hz))
          clear hb1 hz
          unfold fstT
          go_wp2_with (with_reducible refine stS 65 (.tmp 7) (.tmp 27) rfl rfl ?_)
          refine Stop.mk (wsB rfl _ _ _ rfl w1.heap.size (wdA xk xn 0 xs) rfl rfl _ (Blk.new _ _ _) strWd rfl rfl (by simp [Value.oneCell']) ?_)
          intro w3 hb3 hk3
          have hop := Lib.hid (show ∀ b, (Value.slice A9 acc.length c9).ownBlock = some b → b ≠ w1.heap.size from fun b hb => by have := (O.out.lt b hb).2; omega)
          replace O := Lib.hid (own_below O.out (fresh_below hk3))
          have hpw := B1.out.size
          replace B1 := Lib.hid (B1.out.trans ((fresh_below hk3).mono B1.out.size))
          obtain ⟨p, hp⟩ : ∃ p, p = w1.heap.size := ⟨_, rfl⟩
          rw [← hp] at hb3 hop hpw ⊢
          have BP := Lib.hid hb3
          have c2 := hb3.cell (show (wdA xk xn 0 xs)[2]? = _ from rfl)
          have ff := fun i => hb3.frozen i
          have hpl := hb3.lt
          have BP2 := Lib.hid (show Blk (w3.setCell ⟨p, 2, none⟩ (.int .i64 k)) p (wdA xk xn k xs) from hb3.store 2 (.int .i64 k))
          have B2 := Lib.hid (B1.out.trans ((kept_set w3 p 2 (.int .i64 k)).oneB B1.out.size hpw))
          have O2 := Lib.hid (own_kept_lt O.out (kept_set w3 p 2 (.int .i64 k)).grown hop.out)
          clear hb3 hk3 hp
          go_wp2_with (with_reducible refine stop_load 65 (.tmp 7) rfl rfl ?_)
          refine Stop.mk (wpList_loadB rfl _ _ rfl p rfl _ BP2.out strWd rfl ?_)
          go_wp2_with ((at_builtin; refine Stop.out ?_))
          refine Stop.mk (wpList_app _ rfl _ _ elemW rfl w.heap.size (.slice A9 acc.length c9) acc.length _ rfl (own_below O2.out ((Below.refl _ _).alloc (Nat.le_refl _) _)) _ 1 1 (Wd.cells ⟨xk, xn, k, xs⟩) rfl (by
            have h := Src.new (w3.setCell ⟨p, 2, none⟩ (.int .i64 k)) (Wd.cells ⟨xk, xn, k, xs⟩) 65 4 rfl
            have e : (w3.setCell ⟨p, 2, none⟩ (Value.int .i64 (k : Int))).heap.size = w3.heap.size := by simp [World.setCell]
            rw [e] at h
            exact h) (by simpa using wds_one [⟨xk, xn, k, xs⟩]) (by omega) (by have := B2.out.size; simp at this ⊢; omega) ?_)
          intro v4 w4 own4 _ hb4 _
          have B4 := Lib.hid (B2.out.trans ((((Below.refl _ _).alloc B2.out.size _)).trans hb4))
          have O4 := Lib.hid (show w4.ownsRow w.heap.size 65 4 v4 ((acc ++ [(⟨xk, xn, k, xs⟩ : Wd)]).length) ((acc ++ [(⟨xk, xn, k, xs⟩ : Wd)]).flatMap Wd.cells) by simpa using own4)
          have H3 := Lib.hid H2.out.1
          have hl0' : 0 < xl := hl0
          have hl1' : k + xl ≤ s.length := hl1
          clear own4 hb4 c2 ff
          go_wp2_with (fail)
          go_roundw
          case rel => exact ⟨k + xl, _, _, rfl, by go_num, H3.out, O4.out, B4.out⟩
          case measure => simp [intOf]; omega
    · have dl : decide (k < s.length) = false := by simpa using hlt
      obtain rfl : k = s.length := by omega
      have HD := Lib.hid H.out.done
      clear H hlt
      go_wp2_with (fail)
      go_ret3
      exact ⟨B1.out, .inr ⟨hs, .inr ⟨_, acc, HD.out, rfl, O.out⟩⟩⟩
theorem c_lex_All (s : List UInt8) (w : World) (hs : s.length ≤ 9223372036854775807) : Calls Try.prog 12 #[.string (str s)] w (RetAll 65 w s) := by
  by_cases h : 1000 < s.length
  · exact lex_All_long s w h hs
  · exact lex_All_in s w (by omega)
end Go.Proofs.Ytbidnflcbgnckaa
namespace Go.Proofs.Ytbidnflcbgnckaa
open Go.RowKit

/-! Lists of numbers. -/
def ic (n : Int) : List Value := [.int .i64 n]
theorem ic_len (n : Int) : (ic n).length = 1 := rfl
abbrev InI := In 1 ic
end Go.Proofs.Ytbidnflcbgnckaa
namespace Go.Proofs.Ytbidnflcbgnckaa
open Go.RowKit

/-- A world behind the making of two blocks, in which they are as they were made. -/
def At2 (w w' : World) (cs ds : Array Value) : Prop := Below w.heap.size w w' ∧ Blk w' w.heap.size cs ∧ Blk w' (w.heap.size + 1) ds
theorem At2.new (w : World) (s t : TypeId) (cs ds : Array Value) : At2 w ((w.alloc (.cells cs s)).alloc (.cells ds t)) cs ds := by
  have h := (At.new w s cs).alloc (.cells ds t)
  refine ⟨h.1, h.2, ?_⟩
  have := Blk.new (w.alloc (.cells cs s)) t ds
  simpa using this
theorem At2.step {w w1 w2 : World} {cs ds : Array Value} (h : At2 w w1 cs ds) (hb : Below w1.heap.size w1 w2) : At2 w w2 cs ds := ⟨h.1.trans (hb.mono h.1.size), h.2.1.below hb h.2.1.lt, h.2.2.below hb h.2.2.lt⟩
end Go.Proofs.Ytbidnflcbgnckaa
