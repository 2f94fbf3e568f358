/-
  Regions that draw their order, whose operations up to a place read, call and make memory (told of by properties: Rel.t), and behind that place come one by one (stores). (Printed by genrelt.py.)
-/
import Derived.Test.YtfgjhgecmelccaaLw13
import Derived.WalkKit
import Derived.WalkSpells
import Derived.WalkLawsBesides
import Derived.Lib.Hide
import Derived.Deep.QuietTactic
import Derived.BigQuiet
import Derived.Maps.AppendAt
import Derived.WalkSmall
import Derived.StillTail
import Derived.RangeFuncNested
import Derived.RangeFuncCalls
import Derived.OrdersIn
import Derived.ControlIn
import Derived.Test.YtfgjhgecmelccaaProg
import Derived.Deep.CutBlock
import Derived.Deep.DeepCutAuto
import Derived.Deep.AppendSrc
import Derived.Lib.AppendStr
import Derived.Laws.BytesArg
import Derived.WalkMore
import Derived.ScopeJumps
import Derived.Lib.Bytealg
import Derived.Laws.Externs
import Derived.Laws.IdiomStrings
import Derived.Outline
import Derived.IntWalk
import Derived.Laws.Tables
import Derived.Laws.Rows
import Derived.ChangeKeysEq
import Derived.Laws.StructEq
import Derived.RangeFuncBound
import Derived.RangeFuncLeaves
import Derived.OwnWalkIn
import Derived.LoopIn
import Derived.Shelf.Abstract
import Derived.Test.YtfgjhgecmelccaaRows
import Derived.ProofKit
import Derived.OpenShut
import Derived.JoinedCond
import Derived.Deep.Slices
import Derived.Deep.Fields
import Derived.Carry
namespace Go.Proofs.Ytfgjhgecmelccaa
open Go.RowKit

def relBt (ops : Array Oper) (N n : Nat) : Bool :=
  (List.range n).all fun i => match ops[i]? with
    | none => false
    | some o =>
      (match o.dst with
        | none => false
        | some d => decide (d < N) && (List.range ops.size).all (fun j => j == i || dstOf ops j != some d)) &&
      (match o.op with
        | .select .. => false
        | _ => true) &&
      o.after.all (fun e => !Region.binds .any e || decide (e.on < i)) &&
      (o.looksAt ops).all (fun t => (List.range ops.size).all fun j => dstOf ops j != some t || o.after.any (fun e => Region.binds .any e && e.on == j) ||
        (match ops[j]? with
          | none => false
          | some oj => oj.after.any (fun e => Region.binds .any e && e.on == i)))
section
variable {ops : Array Oper} {N : Nat}
theorem relBt_spec {n : Nat} (h : relBt ops N n = true) {i : Nat} {o : Oper} (hin : i < n) (ho : ops[i]? = some o) :
    (∃ d, o.dst = some d ∧ d < N ∧ ∀ j, dstOf ops j = some d → j = i) ∧ (∀ cs b, o.op ≠ .select cs b) ∧ (∀ e ∈ o.after, Region.binds .any e = true → e.on < i) ∧
    (∀ t ∈ o.looksAt ops, ∀ j, dstOf ops j = some t → (∃ e ∈ o.after, Region.binds .any e = true ∧ e.on = j) ∨ (∃ oj, ops[j]? = some oj ∧ ∃ e ∈ oj.after, Region.binds .any e = true ∧ e.on = i)) := by
  have hi : i < ops.size := (Array.getElem?_eq_some_iff.1 ho).1
  have hlt : ∀ j t, dstOf ops j = some t → j < ops.size := fun j t hj => by
    rcases Nat.lt_or_ge j ops.size with h | h
    · exact h
    · simp [dstOf, Array.getElem?_eq_none h] at hj
  unfold relBt at h
  rw [List.all_eq_true] at h
  have h1 := h i (List.mem_range.2 hin)
  rw [ho] at h1
  simp only [Bool.and_eq_true] at h1
  obtain ⟨⟨⟨h2, h3⟩, h4⟩, h5⟩ := h1
  refine ⟨?_, ?_, ?_, ?_⟩
  · cases hd : o.dst with
    | none => rw [hd] at h2; cases h2
    | some d =>
      rw [hd] at h2
      simp only [Bool.and_eq_true, decide_eq_true_eq] at h2
      refine ⟨d, rfl, h2.1, fun j hj => ?_⟩
      have := List.all_eq_true.1 h2.2 j (List.mem_range.2 (hlt j d hj))
      simp only [Bool.or_eq_true, beq_iff_eq, bne_iff_ne] at this
      exact this.resolve_right (fun hn => hn hj)
  · intro cs b hs
    rw [hs] at h3
    cases h3
  · intro e he hb
    have := Array.all_eq_true_iff_forall_mem.1 h4 e he
    simpa [hb] using this
  · intro t ht j hj
    have := List.all_eq_true.1 (List.all_eq_true.1 h5 t ht) j (List.mem_range.2 (hlt j t hj))
    simp only [Bool.or_eq_true, bne_iff_ne] at this
    rcases this with (h6 | h6) | h6
    · exact absurd hj h6
    · left
      rw [Array.any_eq_true'] at h6
      obtain ⟨e, he, h7⟩ := h6
      simp only [Bool.and_eq_true, beq_iff_eq] at h7
      exact ⟨e, he, h7.1, h7.2⟩
    · right
      cases hoj : ops[j]? with
      | none => rw [hoj] at h6; cases h6
      | some oj =>
        rw [hoj] at h6
        simp only at h6
        rw [Array.any_eq_true'] at h6
        obtain ⟨e, he, h7⟩ := h6
        simp only [Bool.and_eq_true, beq_iff_eq] at h7
        exact ⟨oj, rfl, e, he, h7.1, h7.2⟩
end
/-- The goals of the operations ahead of place n. -/
def HopT (P : Program) (l : List Oper) (S : List Sp) (a : Act) (w : World) (n : Nat) : Prop :=
  ∀ (i : Nat) (o : Oper), l[i]? = some o → i < n → ∀ (u : Nat → Value) (w1 : World), Below w.heap.size w w1 → Deps S u w1 o.after.toList →
    wpList P l.toArray (RelEnd a.defers o.dst (S.getD i Sp.any) w1) [o] (putDeps l.toArray u o.after.toList a) w1
section
variable {P : Program} {S : List Sp} {a : Act} {w : World} {l : List Oper}
theorem HopT.of {n : Nat} (_hn : n ≤ l.length) (h : RelGoals P l.toArray S a w (l.take n) 0) : HopT P l S a w n := fun i o ho hi u w1 hb hd => by
  have := RelGoals.at (l.take n) 0 h i o (by rw [List.getElem?_take]; simp [hi, ho]) u w1 hb hd
  rw [Nat.zero_add] at this
  exact this
theorem relT_step {Q : Exit → Act → World → Prop} {N : Nat} {n : Nat} (hB : relBt l.toArray N n = true) (ha : a.tmps.size = N) (hop : HopT P l S a w n) {listed : Array Bool} (hsz : listed.size = l.length) {a' : Act} {w' : World} (inv : RelInv l S a w listed a' w') {i : Nat} (hr : i ∈ Region.ready .any l.toArray listed) (hin : i < n) :
    wpOp P l.toArray Q i (RelInv l S a w (listed.setIfInBounds i true)) a' w' := by
  obtain ⟨hun, o, ho, hall⟩ := mem_ready.1 hr
  have hol : l[i]? = some o := by simpa using ho
  obtain ⟨⟨d, hd, hdN, huniq⟩, hsel, _, hlook⟩ := relBt_spec hB hin ho
  obtain ⟨hbel, hdef, hsize, hclosed, hold, u, hu⟩ := inv
  have hil : i < l.length := by
    rcases Nat.lt_or_ge i l.length with h | h
    · exact h
    · simp [List.getElem?_eq_none h] at hol
  have hunf : listed.getD i false = false := by
    have : i < listed.size := by omega
    simpa [this] using hun
  have dst_at : ∀ j t, dstOf l.toArray j = some t → ∃ oj, l[j]? = some oj ∧ oj.dst = some t := fun j t h => by
    unfold dstOf at h
    rw [List.getElem?_toArray] at h
    cases hj : l[j]? with
    | none => rw [hj] at h; cases h
    | some oj => rw [hj] at h; exact ⟨oj, rfl, h⟩
  have dst_of : ∀ j oj t, l[j]? = some oj → oj.dst = some t → dstOf l.toArray j = some t := fun j oj t h h' => by
    unfold dstOf
    rw [List.getElem?_toArray, h]; exact h'
  have hdeps : Deps S u w' o.after.toList := Deps.of _ (fun e he hb => by
    have he' : e ∈ o.after := by simpa using he
    have hl := hall e he' hb
    have hlo := (relBt_spec hB hin ho).2.2.1 e he' hb
    have hlt : e.on < l.length := by omega
    obtain ⟨⟨t, ht, _⟩, _⟩ := relBt_spec hB (i := e.on) (o := l[e.on]) (by omega) (by simp [hlt])
    exact (hu e.on l[e.on] t (by simp [hlt]) ht hl).2)
  have hgoal := hop i o hol hin u w' hbel hdeps
  have hF := putDeps_size (ops := l.toArray) u o.after.toList a
  generalize hFe : putDeps l.toArray u o.after.toList a = F at hgoal hF
  have agree : ∀ t ∈ o.looksAt l.toArray, F.tmps[t]? = a'.tmps[t]? := by
    intro t ht
    by_cases hex : ∃ e ∈ o.after.toList, Region.binds .any e = true ∧ dstOf l.toArray e.on = some t
    · obtain ⟨e, he, hb, hde⟩ := hex
      obtain ⟨oj, hj, hdj⟩ := dst_at _ _ hde
      have hw := (hu e.on oj t hj hdj (hall e (by simpa using he) hb)).1
      obtain ⟨⟨d', hd', hdN', huniq'⟩, _⟩ := relBt_spec hB (i := e.on) (o := oj) (by have := (relBt_spec hB hin ho).2.2.1 e (by simpa using he) hb; omega) (by simpa using hj)
      have : d' = t := by rw [hd'] at hdj; injection hdj
      subst this
      rw [hw, ← hFe]
      exact putDeps_hit u huniq' _ _ (by rw [ha]; exact hdN') ⟨e, he, hb, hde⟩
    · rw [← hFe, putDeps_miss u _ _ (fun e he hb hde => hex ⟨e, he, hb, hde⟩)]
      symm
      refine hold t (fun j oj hj hdj => ?_)
      cases hlj : listed.getD j false
      · rfl
      · rcases hlook t ht j (dst_of j oj t hj hdj) with ⟨e, he, hb, hej⟩ | ⟨oj', hoj', e, he, hb, hei⟩
        · exact absurd ⟨e, by simpa using he, hb, by rw [hej]; exact dst_of j oj t hj hdj⟩ hex
        · have : oj' = oj := by
            rw [List.getElem?_toArray, hj] at hoj'
            injection hoj' with hoj'
            exact hoj'.symm
          subst this
          have := hclosed j oj' hj hlj e he hb
          rw [hei, hunf] at this
          cases this
  have heval : execOp F.eval o = execOp a'.eval o := execOp_congr o hsel (eval_agree agree)
  have hwant := wanted_agree agree
  have fin : ∀ v w'', RelEnd a.defers o.dst (S.getD i Sp.any) w' .normal (F.put o.dst v) w'' → RelInv l S a w (listed.setIfInBounds i true) (a'.put o.dst v) w'' := by
    rintro v w'' ⟨_, _, hb2, hs⟩
    have hs' := hs d hd
    rw [hd] at hs'
    have hg : (F.put (some d) v).tmps.getD d undef = v := by
      have := put_get_eq F v (t := d) (by rw [hF.1, ha]; exact hdN)
      rw [Array.getD_eq_getD_getElem?, this]; rfl
    rw [hg] at hs'
    refine ⟨hbel.trans (hb2.mono hbel.size), by rw [put_defers, hdef], by rw [put_size, hsize], ?_, ?_, fun j => if j = i then v else u j, ?_⟩
    · intro j oj hj hlj e he hb
      by_cases hji : i = j
      · subst hji
        rw [hol] at hj
        injection hj with hj
        subst hj
        exact getD_set_true (hall e he hb)
      · rw [getD_set_false hji] at hlj
        exact getD_set_true (hclosed j oj hj hlj e he hb)
    · intro t ht
      have hne : o.dst ≠ some t := fun he => by
        have := ht i o hol he
        rw [show (listed.setIfInBounds i true).getD i false = true by simp [hsz, hil]] at this
        cases this
      rw [put_get_ne _ _ hne]
      refine hold t (fun j oj hj hdj => ?_)
      have hji : i ≠ j := fun e => by
        subst e
        rw [hol] at hj
        injection hj with hj
        subst hj
        exact hne hdj
      have := ht j oj hj hdj
      rwa [getD_set_false hji] at this
    · intro j oj t hj hdj hlj
      by_cases hji : j = i
      · subst hji
        rw [hol] at hj
        injection hj with hj
        subst hj
        rw [hd] at hdj
        injection hdj with hdj
        subst hdj
        simp only [if_true]
        rw [hd]
        exact ⟨put_get_eq _ _ (by rw [hsize, ha]; exact hdN), hs'⟩
      · rw [getD_set_false (Ne.symm hji)] at hlj
        simp only [if_neg hji]
        have hne : o.dst ≠ some t := fun he => by
          rw [hd] at he
          injection he with he
          subst he
          exact hji (huniq j (dst_of j oj d hj hdj))
        obtain ⟨h1, h2⟩ := hu j oj t hj hdj hlj
        exact ⟨(put_get_ne _ _ hne).trans h1, (S.getD j Sp.any).stays _ _ _ h2 hb2⟩
  have nolets : ¬ LetsOut (RelEnd a.defers o.dst (S.getD i Sp.any) w') := by
    rintro ⟨_, _, h, _⟩
    cases h
  unfold wpOp
  simp only [ho]
  simp only [wpList, hwant] at hgoal
  by_cases hw : Region.wanted o (yielded l.toArray a'.tmps) = true
  · rw [if_pos hw] at hgoal ⊢
    rcases hgoal with h | ⟨_, h⟩
    · left
      unfold Oper.wp at h ⊢
      rw [heval] at h
      generalize (execOp a'.eval o).run P w' = r at h ⊢
      cases r with
      | ok n w'' =>
        cases n <;> simp only [Oper.upon] at h ⊢
        case value u => exact fin _ _ h
        case skip => exact fin _ _ h
        case defer x =>
          exfalso
          obtain ⟨_, h2, _⟩ := h
          rw [put_defers] at h2
          have := congrArg List.length h2
          simp only [List.length_cons, hF.2] at this
          omega
        case enter f args =>
          refine Calls.mono h fun e w'' he => ?_
          cases e with
          | returned u => exact fin _ _ he
          | panicked c => cases he.1
          | outgrown => exact absurd he nolets
        case row row args => exact Rows.mono h fun u w'' he => fin _ _ he
      | halt x w'' =>
        cases x <;> simp only [Oper.upon] at h ⊢
        case panic u => cases h.1
    · exact absurd h nolets
  · rw [if_neg hw] at hgoal ⊢
    exact fin _ _ hgoal
def doneT (n m : Nat) : Array Bool := (List.replicate n true ++ List.replicate (m - n) false).toArray
theorem doneT_of {n : Nat} (hn : n ≤ l.length) {listed : Array Bool} (hsz : listed.size = l.length) (ht : ∀ t, n ≤ t → listed.getD t false = false) (hall : ∀ j, j < n → listed.getD j false = true) : listed = doneT n l.length := by
  apply Array.ext_getElem?
  intro j
  have e : (doneT n l.length)[j]? = (List.replicate n true ++ List.replicate (l.length - n) false)[j]? := by unfold doneT; rw [List.getElem?_toArray]
  rw [e, List.getElem?_append]
  by_cases hj : j < n
  · have h := hall j hj
    have hjs : j < listed.size := by omega
    simp [hjs] at h
    simp [hj, hjs, h]
  · by_cases hjl : j < l.length
    · have h := ht j (by omega)
      have hjs : j < listed.size := by omega
      simp [hjs] at h
      rw [if_neg (by simpa using hj), List.length_replicate, List.getElem?_replicate, if_pos (by omega), Array.getElem?_eq_getElem hjs, h]
    · simp [hj, Array.getElem?_eq_none (show listed.size ≤ j by omega)]
      omega
theorem relT_any {Q : Exit → Act → World → Prop} {N n : Nat} (J : Array Bool → Prop) (hJ : ∀ listed i, J listed → J (listed.setIfInBounds i true)) (hn : n < l.length) (hB : relBt l.toArray N n = true) (hwait : ∀ listed, J listed → HeadInv .any l.toArray n listed → ∀ i, i < n → listed.getD i true = false → ∀ t, n ≤ t → t ∉ Region.ready .any l.toArray listed) (hsq : Region.seqB .any l.toArray (l.length - n) n (doneT n l.length) = true) (ha : a.tmps.size = N) (hS : S.length = n) (hop : HopT P l S a w n)
    (hend : ∀ u w1, Below w.heap.size w w1 → RelHold u w1 S 0 → wpList P l.toArray Q (l.drop n) (putAll u (l.take n) 0 a) w1) :
    ∀ (f : Nat) (listed : Array Bool) (a' : Act) (w' : World), listed.size = l.length → (∀ t, n ≤ t → listed.getD t false = false) → listed.toList.count false = f + (l.length - n) → J listed → RelInv l S a w listed a' w' → wpAny P .any l.toArray Q (f + (l.length - n)) listed a' w' := by
  intro f
  induction f with
  | zero =>
    intro listed a' w' hsz htl hc hj0' inv
    have hall : ∀ j, j < n → listed.getD j false = true := by
      intro j hj
      cases hlj : listed.getD j false
      · exfalso
        have hjs : j < listed.size := by omega
        have h1 : (listed.setIfInBounds j true).toList.count false + 1 = listed.toList.count false := by
          have hun : listed[j] = false := by simpa [hjs] using hlj
          have hpos : 0 < listed.toList.count false := List.count_pos_iff.2 (by rw [← hun]; simp)
          rw [Array.toList_setIfInBounds, List.count_set (by simpa using hjs)]
          rw [if_pos (show (listed.toList[j]'(by simpa using hjs) == false) = true by simp [hun]), if_neg (by decide)]
          omega
        have h2 : l.length - n ≤ (listed.setIfInBounds j true).toList.count false := by
          have h3 : (listed.setIfInBounds j true).toList.drop n = List.replicate (l.length - n) false := by
            apply List.ext_getElem?
            intro k
            rw [List.getElem?_drop, List.getElem?_replicate]
            by_cases hk : k < l.length - n
            · have h4 := htl (n + k) (by omega)
              have hks : n + k < listed.size := by omega
              simp [hks] at h4
              rw [if_pos hk]
              simp [hks, h4, show ¬ j = n + k by omega]
            · rw [if_neg hk]
              simp
              omega
          have h5 := List.take_append_drop n (listed.setIfInBounds j true).toList
          rw [← h5, List.count_append, h3]
          simp
        omega
      · rfl
    rw [Nat.zero_add]
    have hL := doneT_of (Nat.le_of_lt hn) hsz htl hall
    obtain ⟨hbel, hdef, hsize, _, hold, u, hu⟩ := inv
    have e : a' = putAll u (l.take n) 0 a := by
      have h1 := putAll_size u (l.take n) 0 a
      obtain ⟨tm, df⟩ := a'
      generalize hFe : putAll u (l.take n) 0 a = F at h1
      obtain ⟨tm2, df2⟩ := F
      simp only at hdef hsize h1
      have : tm = tm2 := by
        apply Array.ext_getElem?
        intro t
        have hF2 : tm2[t]? = (putAll u (l.take n) 0 a).tmps[t]? := by rw [hFe]
        rw [hF2]
        by_cases hex : ∃ (j : Nat) (o : Oper), j < n ∧ l[j]? = some o ∧ o.dst = some t
        · obtain ⟨j, o, hjn, hj, hd⟩ := hex
          obtain ⟨⟨d, hd', hdN, huniq⟩, _⟩ := relBt_spec hB (i := j) (o := o) hjn (by simpa using hj)
          have hdt : d = t := by rw [hd'] at hd; injection hd
          subst hdt
          have h2 := putAll_hit u (l.take n) 0 a j o (t := d) (by rw [ha]; exact hdN) (by rw [List.getElem?_take]; simp [hjn, hj]) hd (fun k x hk hx => huniq k (by
            have hkn : k < n := by
              rcases Nat.lt_or_ge k n with h | h
              · exact h
              · rw [List.getElem?_take] at hk; simp [show ¬ k < n by omega] at hk
            rw [List.getElem?_take, if_pos hkn] at hk
            unfold dstOf; rw [List.getElem?_toArray, hk]; exact hx))
          rw [Nat.zero_add] at h2
          rw [h2]
          exact (hu j o d hj hd (hall j hjn)).1
        · rw [putAll_miss u (l.take n) 0 a (fun (o : Oper) ho hd => by
            obtain ⟨j, hj, rfl⟩ := List.getElem_of_mem ho
            have hj' : j < n ∧ j < l.length := by simp at hj; omega
            exact hex ⟨j, (l.take n)[j], hj'.1, by simp [hj'.2], hd⟩)]
          refine hold t (fun j o hj hd => ?_)
          by_cases hjn : j < n
          · exact absurd ⟨j, o, hjn, hj, hd⟩ hex
          · exact htl j (by omega)
      rw [this, hdef, h1.2]
    have hgo := hend u w' hbel (RelHold.of S 0 (fun j s hj => by
      have hj' : j < S.length := by
        rcases Nat.lt_or_ge j S.length with h | h
        · exact h
        · simp [List.getElem?_eq_none h] at hj
      have hjl : j < l.length := by omega
      obtain ⟨⟨d, hd', _⟩, _⟩ := relBt_spec hB (i := j) (o := l[j]) (by omega) (by simp [hjl])
      have := (hu j l[j] d (by simp [hjl]) hd' (hall j (by omega))).2
      rw [Nat.zero_add]
      rw [List.getD_eq_getElem?_getD, hj] at this
      exact this))
    rw [← e] at hgo
    have hdl : (l.drop n).length = l.length - n := by simp
    have := wpAny_of_seq (P := P) (md := .any) (Q' := Q) (ops := l.toArray) (l.drop n) n listed a' w' (fun j => by simp [List.getElem?_drop]) (by rw [hdl, hL]; exact hsq) hgo
    rwa [hdl] at this
  | succ f ih =>
    intro listed a' w' hsz htl hc hj0' inv
    have hclosed : ∀ j oj, l.toArray[j]? = some oj → listed.getD j false = true → ∀ e ∈ oj.after, Region.binds .any e = true → listed.getD e.on false = true := fun j oj hj => inv.2.2.2.1 j oj (by simpa using hj)
    have hinv : HeadInv .any l.toArray n listed := ⟨by simpa using hsz, hclosed, fun t ht htl' => getD_in (by simp at htl'; omega) (htl t ht)⟩
    have hex : ∃ j, j < n ∧ listed.getD j false = false := by
      rcases Classical.em (∃ j, j < n ∧ listed.getD j false = false) with h | h
      · exact h
      · exfalso
        have hall : ∀ j, j < n → listed.getD j false = true := fun j hj => by
          cases hlj : listed.getD j false
          · exact absurd ⟨j, hj, hlj⟩ h
          · rfl
        have hL := doneT_of (Nat.le_of_lt hn) hsz htl hall
        rw [hL] at hc
        unfold doneT at hc
        simp [List.count_append, List.count_replicate] at hc
    obtain ⟨j0, hj0, hl0⟩ := hex
    rw [show f + 1 + (l.length - n) = (f + (l.length - n)) + 1 by omega] at hc ⊢
    refine ⟨fun h0 => ?_, fun i hi => ?_⟩
    · exfalso
      have hall : ∀ j, j < n → listed.getD j false = true := by
        intro j
        induction j using Nat.strongRecOn with
        | ind j ih2 =>
          intro hj
          cases hlj : listed.getD j false
          · exfalso
            have hlt : j < listed.size := by omega
            have : j ∈ Region.ready .any l.toArray listed := mem_ready.2 ⟨by simpa [hlt] using hlj, l[j]'(by omega), by simp [show j < l.length by omega], fun e he hb => by
              have := (relBt_spec hB (i := j) (o := l[j]'(by omega)) hj (by simp [show j < l.length by omega])).2.2.1 e he hb
              exact ih2 e.on this (by omega)⟩
            rw [h0] at this
            cases this
          · rfl
      rw [hall j0 hj0] at hl0
      cases hl0
    · have hin : i < n := by
        rcases Nat.lt_or_ge i n with h | h
        · exact h
        · exact absurd hi (hwait listed hj0' hinv j0 hj0 (getD_in (by omega) hl0) i h)
      refine wpOp_mono (fun a'' w'' h => ?_) (relT_step hB ha hop hsz inv hi hin)
      refine ih _ a'' w'' (by simpa using hsz) (fun t ht => by rw [getD_set_ne false (by omega)]; exact htl t ht) ?_ (hJ _ _ hj0') h
      obtain ⟨hun, o, ho, _⟩ := mem_ready.1 hi
      have hil : i < listed.size := by omega
      have hun' : listed[i] = false := by simpa [hil] using hun
      rw [Array.toList_setIfInBounds, List.count_set (by simpa using hil)]
      simp [hun', hc]
end
end Go.Proofs.Ytfgjhgecmelccaa
