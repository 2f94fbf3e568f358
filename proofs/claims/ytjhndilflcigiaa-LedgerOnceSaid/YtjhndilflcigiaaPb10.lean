/-
  Regions that draw their order, with one move that nothing of the first part waits for: it may be made ahead of all others. Behind it the rule of Relt.
-/
import Derived.Test.YtjhndilflcigiaaPb9
import Derived.Test.YtjhndilflcigiaaRows
import Derived.WalkKit
import Derived.WalkSpells
import Derived.WalkLawsBesides
import Derived.Lib.Hide
import Derived.Deep.QuietTactic
import Derived.BigQuiet
import Derived.Maps.AppendAt
import Derived.WalkSmall
import Derived.ProofKit
import Derived.OpenShut
import Derived.JoinedCond
import Derived.Deep.Slices
import Derived.Deep.Fields
import Derived.Carry
import Derived.Test.YtjhndilflcigiaaProg
import Derived.Deep.CutBlock
import Derived.Deep.DeepCutAuto
import Derived.Deep.AppendSrc
import Derived.Lib.AppendStr
import Derived.Laws.BytesArg
import Derived.Laws.CopyOwn
import Derived.Outline
import Derived.IntWalk
import Derived.Lib.EndianBits
import Derived.Laws.Tables
import Derived.Laws.Rows
import Derived.Shelf.Spec.TrailingZeros
import Derived.StillTail
import Derived.Lib.AppendZeros
import Derived.Deep.Quiet
import Derived.ChangeKeysEq
import Derived.Laws.StructEq
import Derived.Laws.LoneSync
namespace Go.Proofs.Ytjhndilflcigiaa
open Go.RowKit

/-- Operation j0 is a move that may be made first. -/
def floatB (ops : Array Oper) (j0 : Nat) : Bool :=
  match ops[j0]? with
  | none => false
  | some o0 =>
    match o0.op, o0.dst with
    | .move x, some d => o0.guard.isNone && o0.after.all (fun e => !Region.binds .any e) && (List.range ops.size).all fun j => j == j0 ||
      match ops[j]? with
      | none => false
      | some o => o.dst != some d && (match o.dst with | none => true | some t => match x with | .tmp s => s != t | _ => true) && (match o.op with | .select .. => false | _ => true) &&
        (o.after.any (fun e => Region.binds .any e && e.on == j0) || (o.looksAt ops).all (fun t => t != d))
    | _, _ => false
structure FloatAt (ops : Array Oper) (j0 : Nat) (d : Tmp) (x : Operand) : Prop where
  op : ∃ o0, ops[j0]? = some o0 ∧ o0.op = .move x ∧ o0.dst = some d ∧ o0.guard = none ∧ ∀ e ∈ o0.after, Region.binds .any e = false
  others : ∀ j o, ops[j]? = some o → j ≠ j0 → o.dst ≠ some d ∧ (∀ t, o.dst = some t → x ≠ .tmp t) ∧ (∀ cs b, o.op ≠ .select cs b) ∧ ((∀ e ∈ o.after, Region.binds .any e = true → e.on ≠ j0) → ∀ t ∈ o.looksAt ops, t ≠ d)
theorem floatB_spec {ops : Array Oper} {j0 : Nat} (h : floatB ops j0 = true) : ∃ d x, FloatAt ops j0 d x := by
  unfold floatB at h
  cases h0 : ops[j0]? with
  | none => rw [h0] at h; cases h
  | some o0 =>
    rw [h0] at h
    simp only at h
    split at h
    · rename_i x d hop hdst
      simp only [Bool.and_eq_true, List.all_eq_true] at h
      obtain ⟨⟨h1, h2⟩, h3⟩ := h
      refine ⟨d, x, ⟨o0, h0, hop, hdst, by simpa using h1, fun e he => by have := Array.all_eq_true_iff_forall_mem.1 h2 e he; simpa using this⟩, fun j o hj hne => ?_⟩
      have hlt : j < ops.size := (Array.getElem?_eq_some_iff.1 hj).1
      have h4 := h3 j (List.mem_range.2 hlt)
      rw [hj] at h4
      simp only [Bool.or_eq_true, beq_iff_eq, Bool.and_eq_true, bne_iff_ne] at h4
      obtain ⟨⟨⟨a1, a2⟩, a3⟩, a4⟩ := h4.resolve_left hne
      refine ⟨a1, fun t ht hx => ?_, fun cs b hs => ?_, fun hw t ht => ?_⟩
      · rw [ht, hx] at a2
        simp at a2
      · rw [hs] at a3
        cases a3
      · rcases a4 with a4 | a4
        · rw [Array.any_eq_true'] at a4
          obtain ⟨e, he, h5⟩ := a4
          simp only [Bool.and_eq_true, beq_iff_eq] at h5
          exact absurd h5.2 (hw e he h5.1)
        · have := List.all_eq_true.1 a4 t ht
          simpa using this
    · cases h
section
variable {P : Program} {ops : Array Oper} {Q : Exit → Act → World → Prop}
theorem put_swap' {a : Act} {d e : Option Tmp} {u v : Value} (h : d ≠ e ∨ d = none) : (a.put d u).put e v = (a.put e v).put d u := by
  cases d with
  | none => cases e <;> rfl
  | some d =>
    cases e with
    | none => rfl
    | some e =>
      have hne : d ≠ e := fun he => by rcases h with h | h; exact h (by rw [he]); cases h
      simp only [Act.put]
      rw [Array.setIfInBounds_comm _ _ hne]
theorem eval_keep {a : Act} {e : Option Tmp} {u : Value} (ds : List Deferred) (y : Operand) (h : ∀ t, e = some t → y ≠ .tmp t) : (({ a with defers := ds } : Act).put e u).eval y = a.eval y := by
  cases e with
  | none => cases y <;> rfl
  | some t =>
    cases y with
    | tmp s =>
      have hne : t ≠ s := fun he => h t rfl (by rw [he])
      show ((({ a with defers := ds } : Act).put (some t) u).tmps.getD s undef) = a.tmps.getD s undef
      rw [Array.getD_eq_getD_getElem?, Array.getD_eq_getD_getElem?, put_get_ne _ _ (fun e => hne (by injection e))]
    | _ => rfl
theorem wpOp_put {i : Nat} {oi : Oper} {d : Tmp} {v : Value} {a : Act} {w : World} {K K' : Act → World → Prop} (hi : ops[i]? = some oi) (hsel : ∀ cs b, oi.op ≠ .select cs b) (hlook : ∀ t ∈ oi.looksAt ops, t ≠ d) (hne : oi.dst ≠ some d)
    (hQ : ∀ c (a : Act) w v, Q (.panic c) (a.put (some d) v) w → Q (.panic c) a w) (hK : ∀ (b : Act) w', (∀ y, (∀ t, oi.dst = some t → y ≠ .tmp t) → b.eval y = a.eval y) → K (b.put (some d) v) w' → K' b w') (h : wpOp P ops Q i K (a.put (some d) v) w) : wpOp P ops Q i K' a w := by
  have agree : ∀ t ∈ oi.looksAt ops, (a.put (some d) v).tmps[t]? = a.tmps[t]? := fun t ht => put_get_ne a v (fun e => hlook t ht (by injection e with e; exact e.symm))
  have heval : execOp (a.put (some d) v).eval oi = execOp a.eval oi := execOp_congr oi hsel (eval_agree agree)
  have hwant := wanted_agree agree
  have swap : ∀ (b : Act) (u : Value), (b.put (some d) v).put oi.dst u = (b.put oi.dst u).put (some d) v := fun b u => put_swap' (.inl (fun e => hne e.symm))
  unfold wpOp at h ⊢
  simp only [hi, hwant] at h ⊢
  by_cases hw : Region.wanted oi (yielded ops a.tmps) = true
  · rw [if_pos hw] at h ⊢
    rcases h with h | ⟨h1, h2⟩
    · left
      unfold Oper.wp at h ⊢
      rw [heval] at h
      generalize (execOp a.eval oi).run P w = r at h ⊢
      cases r with
      | ok n w'' =>
        cases n <;> simp only [Oper.upon] at h ⊢
        case value u => rw [swap] at h; exact hK _ _ (fun y hy => eval_keep a.defers y hy) h
        case skip => rw [swap] at h; exact hK _ _ (fun y hy => eval_keep a.defers y hy) h
        case defer x => exact hK _ _ (fun y hy => eval_keep (x :: a.defers) y hy) (by have := swap { a with defers := x :: a.defers } undef; rw [← this]; exact h)
        case enter f args =>
          refine Calls.mono h fun e w'' he => ?_
          cases e with
          | returned u => simp only at he ⊢; rw [swap] at he; exact hK _ _ (fun y hy => eval_keep a.defers y hy) he
          | panicked c => exact hQ _ _ _ _ he
          | outgrown => exact he
        case row row args => exact Rows.mono h fun u w'' he => by rw [swap] at he; exact hK _ _ (fun y hy => eval_keep a.defers y hy) he
      | halt x w'' =>
        cases x <;> simp only [Oper.upon] at h ⊢
        case panic u => exact hQ _ _ _ _ h
    · right
      refine ⟨?_, h2⟩
      unfold Oper.asks at h1 ⊢
      first
        | (rw [heval] at h1; exact h1)
        | simpa [heval] using h1
  · rw [if_neg hw] at h ⊢
    rw [swap] at h
    exact hK _ _ (fun y hy => eval_keep a.defers y hy) h
theorem wpAny_float {j0 : Nat} {d : Tmp} {x : Operand} (hf : FloatAt ops j0 d x) (hQ : ∀ c (a : Act) w v, Q (.panic c) (a.put (some d) v) w → Q (.panic c) a w) :
    ∀ (f : Nat) (listed : Array Bool) (a : Act) (w : World), listed.getD j0 true = false → wpAny P .any ops Q f (listed.setIfInBounds j0 true) (a.put (some d) (a.eval x)) w → wpAny P .any ops Q (f + 1) listed a w := by
  obtain ⟨o0, h0, hop, hdst, hgd, haft⟩ := hf.op
  have move : ∀ (K : Act → World → Prop) (a : Act) (w : World), K (a.put (some d) (a.eval x)) w → wpOp P ops Q j0 K a w := fun K a w h => by
    unfold wpOp
    simp [h0, Region.wanted, hgd]
    left
    unfold Oper.wp execOp
    simp only [hop, Sem.run_pure, Oper.upon, hdst]
    exact h
  intro f
  induction f with
  | zero =>
    intro listed a w hun h
    have hr : j0 ∈ Region.ready .any ops listed := mem_ready.2 ⟨hun, o0, h0, fun e he hb => by rw [haft e he] at hb; cases hb⟩
    refine ⟨fun e => (by rw [e] at hr; cases hr), fun i hi => ?_⟩
    by_cases hij : i = j0
    · subst hij; exact move _ _ _ h
    · have := ready_mono (i := j0) hi hij
      rw [h.1] at this
      cases this
  | succ f ih =>
    intro listed a w hun h
    have hr : j0 ∈ Region.ready .any ops listed := mem_ready.2 ⟨hun, o0, h0, fun e he hb => by rw [haft e he] at hb; cases hb⟩
    refine ⟨fun e => (by rw [e] at hr; cases hr), fun i hi => ?_⟩
    by_cases hij : i = j0
    · subst hij; exact move _ _ _ h
    · obtain ⟨_, oi, hoi, hall⟩ := mem_ready.1 hi
      obtain ⟨b1, b2, b3, b4⟩ := hf.others i oi hoi hij
      have hw : ∀ e ∈ oi.after, Region.binds .any e = true → e.on ≠ j0 := fun e he hb heq => by
        have h1 := hall e he hb
        rw [heq, getD_both hun] at h1
        cases h1
      have h2 := h.2 i (ready_mono hi hij)
      refine wpOp_put hoi b3 (b4 hw) b1 hQ (fun b w' hb hk => ?_) h2
      have he := hb x (fun t ht => b2 t ht)
      refine ih (listed.setIfInBounds i true) b w' (by rw [getD_set_ne true hij]; exact hun) ?_
      rw [he, Array.setIfInBounds_comm _ _ hij]
      exact hk
end
/-- Each operation of the first part, but for the move, is waited for. -/
def sinkF (ops : Array Oper) (n j0 : Nat) : Bool :=
  (List.range n).all fun i => i == j0 || (List.range (n + 1)).any fun j => decide (i < j) && (decide (j ≠ j0) && Region.waitsFor .any ops j i)
theorem tail_waitsF {ops : Array Oper} {n j0 : Nat} {listed : Array Bool} (hs : sinkF ops n j0 = true) (hc : Region.chainB .any ops n = true) (hn : n < ops.size) (inv : HeadInv .any ops n listed) (hj0 : listed.getD j0 false = true) :
    ∀ (d i : Nat), n - i = d → i < n → listed.getD i true = false → ∀ t, n ≤ t → t ∉ Region.ready .any ops listed := by
  intro d
  induction d using Nat.strongRecOn with
  | _ d ih =>
    intro i hd hi hun t ht hr
    obtain ⟨_, ot, hot, hall⟩ := mem_ready.1 hr
    have htlt : t < ops.size := (Array.getElem?_eq_some_iff.1 hot).1
    by_cases htn : t = n
    · subst htn
      have h1 := List.all_eq_true.1 hs i (List.mem_range.2 hi)
      simp only [Bool.or_eq_true, beq_iff_eq] at h1
      rcases h1 with h1 | h1
      · subst h1
        rw [getD_both hun] at hj0
        cases hj0
      obtain ⟨j, hj, hj2⟩ := List.any_eq_true.1 h1
      simp only [Bool.and_eq_true, decide_eq_true_eq] at hj2
      obtain ⟨oj, hoj, e, he, hb, hon⟩ := Region.waitsFor_spec hj2.2.2
      have hjle : j ≤ t := by have := List.mem_range.1 hj; omega
      by_cases hjt : j = t
      · subst hjt
        have : oj = ot := Option.some.inj (hoj.symm.trans hot)
        subst this
        have h2 := hall e he hb
        rw [hon, getD_both hun] at h2
        cases h2
      · cases hl : listed.getD j false with
        | true =>
          have h2 := inv.closed j oj hoj hl e he hb
          rw [hon, getD_both hun] at h2
          cases h2
        | false =>
          have hjs : j < listed.size := by rw [inv.size]; omega
          exact ih (t - j) (by omega) j rfl (by omega) (getD_in hjs hl) t (Nat.le_refl _) hr
    · have h1 := List.all_eq_true.1 hc t (List.mem_range.2 htlt)
      simp only [Bool.or_eq_true, decide_eq_true_eq] at h1
      rcases h1 with h1 | h1
      · omega
      · obtain ⟨o', ho', e, he, hb, hon⟩ := Region.waitsFor_spec h1
        have : o' = ot := Option.some.inj (ho'.symm.trans hot)
        subst this
        have h2 := hall e he hb
        rw [hon, getD_both (inv.tail (t - 1) (by omega) (by omega))] at h2
        cases h2
/-- The rule of Relt, with one move j0 of the first part that may be made at any time. -/
theorem wp_region_relF {P : Program} {id : Nat} {Q : Exit → Act → World → Prop} {a : Act} {w : World} {l : List Oper} (S : List Sp) (N n j0 : Nat) (hm : P.follows .mixedOrders = true) (hn : n < l.length) (hj : j0 < n) (hB : relBt l.toArray N n = true) (hf : floatB l.toArray j0 = true) (hsk : sinkF l.toArray n j0 = true) (hch : Region.chainB .any l.toArray n = true)
    (hsq : Region.seqB .any l.toArray (l.length - n) n (doneT n l.length) = true) (ha : a.tmps.size = N) (hS : S.length = n) (hQ : ∀ c (a : Act) w d v, Q (.panic c) (a.put (some d) v) w → Q (.panic c) a w)
    (hv : ∀ o0 x, l[j0]? = some o0 → o0.op = .move x → (S.getD j0 Sp.any).holds (a.eval x) w)
    (hop : RelGoals P l.toArray S a w (l.take n) 0) (hend : ∀ u w1, Below w.heap.size w w1 → RelHold u w1 S 0 → wpList P l.toArray Q (l.drop n) (putAll u (l.take n) 0 a) w1) : (Code.region id l.toArray true).wp P Q a w := by
  refine wp_region_any hm ?_
  obtain ⟨d, x, hF⟩ := floatB_spec hf
  obtain ⟨o0, h0, hop0, hdst0, hgd0, haft0⟩ := hF.op
  have h0' : l[j0]? = some o0 := by simpa using h0
  have hsz : l.toArray.size = (l.length - 1) + 1 := by simp; omega
  rw [hsz]
  refine wpAny_float hF (fun c a w v h => hQ c a w d v h) _ _ _ _ (getD_in (by simp; omega) (getD_replicate_false _ _)) ?_
  have hdN : d < N := by
    obtain ⟨⟨d', hd', hdN', _⟩, _⟩ := relBt_spec hB hj h0
    rw [hdst0] at hd'
    injection hd' with hd'
    rw [hd']
    exact hdN'
  have hev : ({ w with drawn := w.drawn + 1 } : World) = w.drew := rfl
  obtain ⟨L0, hL0⟩ : ∃ L0, L0 = (Array.replicate l.toArray.size false).setIfInBounds j0 true := ⟨_, rfl⟩
  have hj0l : j0 < l.length := by omega
  have hL0j : L0.getD j0 false = true := by rw [hL0]; simp [hj0l]
  have hL0n : ∀ t, t ≠ j0 → L0.getD t false = false := fun t ht => by rw [hL0, getD_set_ne false (fun e => ht e.symm)]; exact getD_replicate_false _ _
  have hL0s : L0.size = l.length := by rw [hL0]; simp
  have hL0c : L0.toList.count false = (n - 1) + (l.length - n) := by
    rw [hL0, Array.toList_setIfInBounds, List.count_set (by simpa using hj0l)]
    simp
    omega
  have inv : RelInv l S a w L0 (a.put (some d) (a.eval x)) { w with drawn := w.drawn + 1 } := by
    refine ⟨(Below.refl _ _).drew, rfl, put_size _ _ _, ?_, ?_, fun _ => a.eval x, ?_⟩
    · intro j o hjo hl e he hb
      by_cases hjj : j = j0
      · subst hjj
        rw [h0'] at hjo
        injection hjo with hjo
        subst hjo
        rw [haft0 e he] at hb
        cases hb
      · rw [hL0n j hjj] at hl
        cases hl
    · intro t ht
      refine put_get_ne _ _ (fun e => ?_)
      injection e with e
      subst e
      have := ht j0 o0 h0' hdst0
      rw [hL0j] at this
      cases this
    · intro j o t hjo hd hl
      by_cases hjj : j = j0
      · subst hjj
        rw [h0'] at hjo
        injection hjo with hjo
        subst hjo
        rw [hdst0] at hd
        injection hd with hd
        subst hd
        exact ⟨put_get_eq _ _ (by rw [ha]; exact hdN), (S.getD j Sp.any).stays _ _ _ (hv _ _ h0' hop0) ((Below.refl _ _).drew)⟩
      · rw [hL0n j hjj] at hl
        cases hl
  rw [← hsz, ← hL0]
  have := relT_any (Q := Q) (fun listed => listed.getD j0 false = true) (fun listed i h => getD_set_true h) hn hB (fun listed hJ hinv i hi hu t ht => tail_waitsF hsk hch (by simpa using hn) hinv hJ _ i rfl hi hu t ht) hsq ha hS (HopT.of (Nat.le_of_lt hn) hop) hend (n - 1) L0 (a.put (some d) (a.eval x)) { w with drawn := w.drawn + 1 } hL0s (fun t ht => hL0n t (by omega)) hL0c hL0j inv
  rw [show n - 1 + (l.length - n) = l.length - 1 by omega] at this
  exact this
end Go.Proofs.Ytjhndilflcigiaa
