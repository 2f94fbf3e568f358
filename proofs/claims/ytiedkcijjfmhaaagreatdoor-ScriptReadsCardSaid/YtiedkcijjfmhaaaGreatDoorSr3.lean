/-
  Lemmas (walks and plain laws), in one text.
-/
import Derived.Test.YtiedkcijjfmhaaaGreatDoorSr2
import Derived.Maps.Own
namespace Go.Proofs.YtiedkcijjfmhaaaGreatDoor
open Go.RowKit

def upd {α : Type} (f : Nat → α) (i : Nat) (x : α) : Nat → α := fun j => if j = i then x else f j
theorem upd_same {α : Type} (f : Nat → α) (i : Nat) (x : α) : upd f i x i = x := if_pos rfl
theorem upd_other {α : Type} (f : Nat → α) {i j : Nat} (x : α) (h : j ≠ i) : upd f i x j = f j := if_neg h
/-- What an operation hands back: the value in its slot. -/
def given (d : Option Tmp) (a : Act) : Value := match d with | some t => a.tmps.getD t undef | none => undef
def EndM (ds : List Deferred) (d : Option Tmp) (F : Value → World → Prop) (e : Exit) (a' : Act) (w' : World) : Prop := e = .normal ∧ a'.defers = ds ∧ F (given d a') w'
theorem EndM.mk {ds : List Deferred} {d : Tmp} {F : Value → World → Prop} {a' : Act} {w' : World} (h1 : a'.defers = ds) (h2 : F (a'.tmps.getD d undef) w') : EndM ds (some d) F .normal a' w' := ⟨rfl, h1, h2⟩
theorem EndM.mk0 {ds : List Deferred} {F : Value → World → Prop} {a' : Act} {w' : World} (h1 : a'.defers = ds) (h2 : F undef w') : EndM ds none F .normal a' w' := ⟨rfl, h1, h2⟩
def relBm (ops : Array Oper) (N : Nat) : Bool :=
  (List.range ops.size).all fun i => match ops[i]? with
    | none => false
    | some o =>
      (match o.dst with
        | none => true
        | some d => decide (d < N) && (List.range ops.size).all (fun j => j == i || dstOf ops j != some d)) &&
      (match o.op with
        | .select .. => false
        | _ => true) &&
      o.after.all (fun e => !Region.binds .any e || decide (e.on < i)) &&
      (o.looksAt ops).all (fun t => (List.range ops.size).all fun j => dstOf ops j != some t || o.after.any (fun e => Region.binds .any e && e.on == j) ||
        (match ops[j]? with
          | none => false
          | some oj => oj.after.any (fun e => Region.binds .any e && e.on == i)))
section
variable {ops : Array Oper} {N : Nat}
theorem relBm_spec (h : relBm ops N = true) {i : Nat} {o : Oper} (ho : ops[i]? = some o) :
    (∀ d, o.dst = some d → d < N ∧ ∀ j, dstOf ops j = some d → j = i) ∧ (∀ cs b, o.op ≠ .select cs b) ∧ (∀ e ∈ o.after, Region.binds .any e = true → e.on < i) ∧
    (∀ t ∈ o.looksAt ops, ∀ j, dstOf ops j = some t → (∃ e ∈ o.after, Region.binds .any e = true ∧ e.on = j) ∨ (∃ oj, ops[j]? = some oj ∧ ∃ e ∈ oj.after, Region.binds .any e = true ∧ e.on = i)) := by
  have hi : i < ops.size := (Array.getElem?_eq_some_iff.1 ho).1
  have hlt : ∀ j t, dstOf ops j = some t → j < ops.size := fun j t hj => by
    rcases Nat.lt_or_ge j ops.size with h | h
    · exact h
    · simp [dstOf, Array.getElem?_eq_none h] at hj
  unfold relBm at h
  rw [List.all_eq_true] at h
  have h1 := h i (List.mem_range.2 hi)
  rw [ho] at h1
  simp only [Bool.and_eq_true] at h1
  obtain ⟨⟨⟨h2, h3⟩, h4⟩, h5⟩ := h1
  refine ⟨?_, ?_, ?_, ?_⟩
  · intro d hd
    rw [hd] at h2
    simp only [Bool.and_eq_true, decide_eq_true_eq] at h2
    refine ⟨h2.1, fun j hj => ?_⟩
    have := List.all_eq_true.1 h2.2 j (List.mem_range.2 (hlt j d hj))
    simp only [Bool.or_eq_true, beq_iff_eq, bne_iff_ne] at this
    exact this.resolve_right (fun hn => hn hj)
  · intro cs b hs
    rw [hs] at h3
    cases h3
  · intro e he hb
    have := Array.all_eq_true_iff_forall_mem.1 h4 e he
    simpa [hb] using this
  · intro t ht j hj
    have := List.all_eq_true.1 (List.all_eq_true.1 h5 t ht) j (List.mem_range.2 (hlt j t hj))
    simp only [Bool.or_eq_true, bne_iff_ne] at this
    rcases this with (h6 | h6) | h6
    · exact absurd hj h6
    · left
      rw [Array.any_eq_true'] at h6
      obtain ⟨e, he, h7⟩ := h6
      simp only [Bool.and_eq_true, beq_iff_eq] at h7
      exact ⟨e, he, h7.1, h7.2⟩
    · right
      cases hoj : ops[j]? with
      | none => rw [hoj] at h6; cases h6
      | some oj =>
        rw [hoj] at h6
        simp only at h6
        rw [Array.any_eq_true'] at h6
        obtain ⟨e, he, h7⟩ := h6
        simp only [Bool.and_eq_true, beq_iff_eq] at h7
        exact ⟨oj, rfl, e, he, h7.1, h7.2⟩
end
/-- What is told of the operations that one waits for. -/
def DepsM (V : Nat → Value → Prop) (L : Nat → Bool) (u : Nat → Value) : List Edge → Prop
  | [] => True
  | e :: r => (Region.binds .any e = true → L e.on = true ∧ V e.on (u e.on)) ∧ DepsM V L u r
theorem DepsM.of {V : Nat → Value → Prop} {L : Nat → Bool} {u : Nat → Value} : ∀ es : List Edge, (∀ e ∈ es, Region.binds .any e = true → L e.on = true ∧ V e.on (u e.on)) → DepsM V L u es
  | [], _ => trivial
  | e :: r, h => ⟨h e (List.mem_cons_self ..), DepsM.of r (fun x hx => h x (List.mem_cons_of_mem _ hx))⟩
/-- The goal of one operation. -/
def GoalM (P : Program) (ops : Array Oper) (V : Nat → Value → Prop) (M : (Nat → Bool) → (Nat → Value) → World → Prop) (a : Act) (i : Nat) (o : Oper) : Prop :=
  ∀ (L : Nat → Bool) (u : Nat → Value) (w1 : World), M L u w1 → L i = false → DepsM V L u o.after.toList →
    wpList P ops (EndM a.defers o.dst (fun v w2 => V i v ∧ M (upd L i true) (upd u i v) w2)) [o] (putDeps ops u o.after.toList a) w1
def GoalsM (P : Program) (ops : Array Oper) (V : Nat → Value → Prop) (M : (Nat → Bool) → (Nat → Value) → World → Prop) (a : Act) : List Oper → Nat → Prop
  | [], _ => True
  | o :: r, i => GoalM P ops V M a i o ∧ GoalsM P ops V M a r (i + 1)
section
variable {P : Program} {V : Nat → Value → Prop} {M : (Nat → Bool) → (Nat → Value) → World → Prop} {a : Act} {l : List Oper}
theorem GoalsM.at {ops : Array Oper} : ∀ (l : List Oper) (i : Nat), GoalsM P ops V M a l i → ∀ (j : Nat) (o : Oper), l[j]? = some o → GoalM P ops V M a (i + j) o
  | [], _, _, _, _, h => by simp at h
  | x :: r, i, hg, 0, o, h => by
    simp only [List.getElem?_cons_zero, Option.some.injEq] at h
    subst h
    exact hg.1
  | x :: r, i, hg, j + 1, o, h => by
    have := GoalsM.at r (i + 1) hg.2 j o (by simpa using h)
    rw [show i + 1 + j = i + (j + 1) by omega] at this
    exact this
def InvM (V : Nat → Value → Prop) (M : (Nat → Bool) → (Nat → Value) → World → Prop) (l : List Oper) (a : Act) (listed : Array Bool) (a' : Act) (w' : World) : Prop :=
  a'.defers = a.defers ∧ a'.tmps.size = a.tmps.size ∧
  (∀ j o, l[j]? = some o → listed.getD j false = true → ∀ e ∈ o.after, Region.binds .any e = true → listed.getD e.on false = true) ∧
  (∀ t, (∀ j o, l[j]? = some o → o.dst = some t → listed.getD j false = false) → a'.tmps[t]? = a.tmps[t]?) ∧
  ∃ u : Nat → Value, (∀ j o t, l[j]? = some o → o.dst = some t → listed.getD j false = true → a'.tmps[t]? = some (u j)) ∧ (∀ j, j < l.length → listed.getD j false = true → V j (u j)) ∧ M (fun j => listed.getD j false) u w'
theorem relM_step {Q : Exit → Act → World → Prop} {N : Nat} (hB : relBm l.toArray N = true) (ha : a.tmps.size = N) (hop : GoalsM P l.toArray V M a l 0) {listed : Array Bool} (hsz : listed.size = l.length) {a' : Act} {w' : World} (inv : InvM V M l a listed a' w') {i : Nat} (hr : i ∈ Region.ready .any l.toArray listed) :
    wpOp P l.toArray Q i (InvM V M l a (listed.setIfInBounds i true)) a' w' := by
  obtain ⟨hun, o, ho, hall⟩ := mem_ready.1 hr
  have hol : l[i]? = some o := by simpa using ho
  obtain ⟨hdu, hsel, _, hlook⟩ := relBm_spec hB ho
  obtain ⟨hdef, hsize, hclosed, hold, u, hu, hv, hM⟩ := inv
  have hil : i < l.length := by
    rcases Nat.lt_or_ge i l.length with h | h
    · exact h
    · simp [List.getElem?_eq_none h] at hol
  have hunf : listed.getD i false = false := by
    have : i < listed.size := by omega
    simpa [this] using hun
  have dst_at : ∀ j t, dstOf l.toArray j = some t → ∃ oj, l[j]? = some oj ∧ oj.dst = some t := fun j t h => by
    unfold dstOf at h
    rw [List.getElem?_toArray] at h
    cases hj : l[j]? with
    | none => rw [hj] at h; cases h
    | some oj => rw [hj] at h; exact ⟨oj, rfl, h⟩
  have dst_of : ∀ j oj t, l[j]? = some oj → oj.dst = some t → dstOf l.toArray j = some t := fun j oj t h h' => by
    unfold dstOf
    rw [List.getElem?_toArray, h]; exact h'
  have hdeps : DepsM V (fun j => listed.getD j false) u o.after.toList := DepsM.of _ (fun e he hb => by
    have he' : e ∈ o.after := by simpa using he
    have hl := hall e he' hb
    have hlt : e.on < l.length := by
      have := (relBm_spec hB ho).2.2.1 e he' hb
      omega
    exact ⟨hl, hv e.on hlt hl⟩)
  have hgoal0 := GoalsM.at l 0 hop i o hol
  rw [Nat.zero_add] at hgoal0
  have hgoal := hgoal0 (fun j => listed.getD j false) u w' hM hunf hdeps
  have hF := putDeps_size (ops := l.toArray) u o.after.toList a
  generalize hFe : putDeps l.toArray u o.after.toList a = F at hgoal hF
  have agree : ∀ t ∈ o.looksAt l.toArray, F.tmps[t]? = a'.tmps[t]? := by
    intro t ht
    by_cases hex : ∃ e ∈ o.after.toList, Region.binds .any e = true ∧ dstOf l.toArray e.on = some t
    · obtain ⟨e, he, hb, hde⟩ := hex
      obtain ⟨oj, hj, hdj⟩ := dst_at _ _ hde
      have hw := hu e.on oj t hj hdj (hall e (by simpa using he) hb)
      obtain ⟨hdN', huniq'⟩ := (relBm_spec hB (i := e.on) (o := oj) (by simpa using hj)).1 t hdj
      rw [hw, ← hFe]
      exact putDeps_hit u huniq' _ _ (by rw [ha]; exact hdN') ⟨e, he, hb, hde⟩
    · rw [← hFe, putDeps_miss u _ _ (fun e he hb hde => hex ⟨e, he, hb, hde⟩)]
      symm
      refine hold t (fun j oj hj hdj => ?_)
      cases hlj : listed.getD j false
      · rfl
      · rcases hlook t ht j (dst_of j oj t hj hdj) with ⟨e, he, hb, hej⟩ | ⟨oj', hoj', e, he, hb, hei⟩
        · exact absurd ⟨e, by simpa using he, hb, by rw [hej]; exact dst_of j oj t hj hdj⟩ hex
        · have : oj' = oj := by
            rw [List.getElem?_toArray, hj] at hoj'
            injection hoj' with hoj'
            exact hoj'.symm
          subst this
          have := hclosed j oj' hj hlj e he hb
          rw [hei, hunf] at this
          cases this
  have heval : execOp F.eval o = execOp a'.eval o := execOp_congr o hsel (eval_agree agree)
  have hwant := wanted_agree agree
  have hL : (fun j => (listed.setIfInBounds i true).getD j false) = upd (fun j => listed.getD j false) i true := by
    funext j
    by_cases hji : j = i
    · subst hji
      rw [upd_same]
      simp [hsz, hil]
    · rw [upd_other _ _ hji]
      exact getD_set_false (Ne.symm hji)
  have fin : ∀ v w'', EndM a.defers o.dst (fun v w2 => V i v ∧ M (upd (fun j => listed.getD j false) i true) (upd u i v) w2) .normal (F.put o.dst v) w'' → InvM V M l a (listed.setIfInBounds i true) (a'.put o.dst v) w'' := by
    rintro v w'' ⟨_, _, hs1, hs2⟩
    refine ⟨by rw [put_defers, hdef], by rw [put_size, hsize], ?_, ?_, upd u i (given o.dst (F.put o.dst v)), ?_, ?_, by rw [hL]; exact hs2⟩
    · intro j oj hj hlj e he hb
      by_cases hji : i = j
      · subst hji
        rw [hol] at hj
        injection hj with hj
        subst hj
        exact getD_set_true (hall e he hb)
      · rw [getD_set_false hji] at hlj
        exact getD_set_true (hclosed j oj hj hlj e he hb)
    · intro t ht
      have hne : o.dst ≠ some t := fun he => by
        have := ht i o hol he
        rw [show (listed.setIfInBounds i true).getD i false = true by simp [hsz, hil]] at this
        cases this
      rw [put_get_ne _ _ hne]
      refine hold t (fun j oj hj hdj => ?_)
      have hji : i ≠ j := fun e => by
        subst e
        rw [hol] at hj
        injection hj with hj
        subst hj
        exact hne hdj
      have := ht j oj hj hdj
      rwa [getD_set_false hji] at this
    · intro j oj t hj hdj hlj
      by_cases hji : j = i
      · subst hji
        rw [hol] at hj
        injection hj with hj
        subst hj
        rw [upd_same, hdj]
        obtain ⟨hdN, _⟩ := hdu t hdj
        have h1 := put_get_eq a' v (t := t) (by rw [hsize, ha]; exact hdN)
        have h2 := put_get_eq F v (t := t) (by rw [hF.1, ha]; exact hdN)
        rw [h1]
        show _ = some ((F.put (some t) v).tmps.getD t undef)
        rw [Array.getD_eq_getD_getElem?, h2]
        rfl
      · rw [getD_set_false (Ne.symm hji)] at hlj
        rw [upd_other _ _ hji]
        have hne : o.dst ≠ some t := fun he => hji ((hdu t he).2 j (dst_of j oj t hj hdj))
        exact (put_get_ne _ _ hne).trans (hu j oj t hj hdj hlj)
    · intro j hjl hlj
      by_cases hji : j = i
      · subst hji
        rw [upd_same]
        exact hs1
      · rw [upd_other _ _ hji]
        rw [getD_set_false (Ne.symm hji)] at hlj
        exact hv j hjl hlj
  have nolets : ¬ LetsOut (EndM a.defers o.dst (fun v w2 => V i v ∧ M (upd (fun j => listed.getD j false) i true) (upd u i v) w2)) := by
    rintro ⟨_, _, h, _⟩
    cases h
  unfold wpOp
  simp only [ho]
  simp only [wpList, hwant] at hgoal
  by_cases hw : Region.wanted o (yielded l.toArray a'.tmps) = true
  · rw [if_pos hw] at hgoal ⊢
    rcases hgoal with h | ⟨_, h⟩
    · left
      unfold Oper.wp at h ⊢
      rw [heval] at h
      generalize (execOp a'.eval o).run P w' = r at h ⊢
      cases r with
      | ok n w'' =>
        cases n <;> simp only [Oper.upon] at h ⊢
        case value u => exact fin _ _ h
        case skip => exact fin _ _ h
        case defer x =>
          exfalso
          obtain ⟨_, h2, _⟩ := h
          rw [put_defers] at h2
          have := congrArg List.length h2
          simp only [List.length_cons, hF.2] at this
          omega
        case enter f args =>
          refine Calls.mono h fun e w'' he => ?_
          cases e with
          | returned u => exact fin _ _ he
          | panicked c => cases he.1
          | outgrown => exact absurd he nolets
        case row row args => exact Rows.mono h fun u w'' he => fin _ _ he
      | halt x w'' =>
        cases x <;> simp only [Oper.upon] at h ⊢
        case panic u => cases h.1
    · exact absurd h nolets
  · rw [if_neg hw] at hgoal ⊢
    exact fin _ _ hgoal
theorem relM_any {Q : Exit → Act → World → Prop} {N : Nat} (hB : relBm l.toArray N = true) (ha : a.tmps.size = N) (hop : GoalsM P l.toArray V M a l 0)
    (hend : ∀ u w1, (∀ j, j < l.length → V j (u j)) → M (fun j => decide (j < l.length)) u w1 → Q .normal (putAll u l 0 a) w1) :
    ∀ (f : Nat) (listed : Array Bool) (a' : Act) (w' : World), listed.size = l.length → listed.toList.count false = f → InvM V M l a listed a' w' → wpAny P .any l.toArray Q f listed a' w'
  | 0, listed, a', w', hsz, hc, inv => by
    have hall : ∀ j, j < l.length → listed.getD j false = true := fun j hj => by
      have h1 : false ∉ listed.toList := List.count_eq_zero.1 hc
      have hlt : j < listed.size := by omega
      cases hb : listed[j]
      · exact absurd (by rw [← hb]; simp) h1
      · simp [hlt, hb]
    have hready : Region.ready .any l.toArray listed = [] := by
      rw [List.eq_nil_iff_forall_not_mem]
      intro j hj
      obtain ⟨h0, o, ho, _⟩ := mem_ready.1 hj
      have hj' : j < l.length := by
        rcases Nat.lt_or_ge j l.length with h | h
        · exact h
        · simp [List.getElem?_eq_none h] at ho
      have := hall j hj'
      have hlt : j < listed.size := by omega
      simp [hlt] at this h0
      rw [this] at h0
      cases h0
    refine ⟨hready, ?_⟩
    obtain ⟨hdef, hsize, _, hold, u, hu, hv, hM⟩ := inv
    have e : a' = putAll u l 0 a := by
      have h1 := putAll_size u l 0 a
      obtain ⟨tm, df⟩ := a'
      generalize hFe : putAll u l 0 a = F at h1
      obtain ⟨tm2, df2⟩ := F
      simp only at hdef hsize h1
      have : tm = tm2 := by
        apply Array.ext_getElem?
        intro t
        have hF2 : tm2[t]? = (putAll u l 0 a).tmps[t]? := by rw [hFe]
        rw [hF2]
        by_cases hex : ∃ (j : Nat) (o : Oper), l[j]? = some o ∧ o.dst = some t
        · obtain ⟨j, o, hj, hd⟩ := hex
          obtain ⟨hdN, huniq⟩ := (relBm_spec hB (i := j) (o := o) (by simpa using hj)).1 t hd
          have hj' : j < l.length := by
            rcases Nat.lt_or_ge j l.length with h | h
            · exact h
            · simp [List.getElem?_eq_none h] at hj
          have h2 := putAll_hit u l 0 a j o (t := t) (by rw [ha]; exact hdN) hj hd (fun k x hk hx => huniq k (by unfold dstOf; rw [List.getElem?_toArray, hk]; exact hx))
          rw [Nat.zero_add] at h2
          rw [h2]
          exact hu j o t hj hd (hall j hj')
        · rw [putAll_miss u l 0 a (fun (o : Oper) ho hd => by
            obtain ⟨j, hj, rfl⟩ := List.getElem_of_mem ho
            exact hex ⟨j, l[j], by simp [hj], hd⟩)]
          exact hold t (fun j o hj hd => absurd ⟨j, o, hj, hd⟩ hex)
      rw [this, hdef, h1.2]
    rw [e]
    refine hend u w' (fun j hj => hv j hj (hall j hj)) ?_
    have hL : (fun j => listed.getD j false) = fun j => decide (j < l.length) := by
      funext j
      by_cases hj : j < l.length
      · rw [hall j hj]; simp [hj]
      · rw [decide_eq_false hj]
        simp [Array.getD, hsz, hj]
    rw [← hL]
    exact hM
  | f + 1, listed, a', w', hsz, hc, inv => by
    refine ⟨fun h0 => ?_, fun i hi => ?_⟩
    · exfalso
      have hall : ∀ j, j < l.length → listed.getD j false = true := by
        intro j
        induction j using Nat.strongRecOn with
        | ind j ih =>
          intro hj
          cases hlj : listed.getD j false
          · exfalso
            have hlt : j < listed.size := by omega
            have : j ∈ Region.ready .any l.toArray listed := mem_ready.2 ⟨by simpa [hlt] using hlj, l[j], by simp [hj], fun e he hb => by
              have := (relBm_spec hB (i := j) (o := l[j]) (by simp [hj])).2.2.1 e he hb
              exact ih e.on this (by omega)⟩
            rw [h0] at this
            cases this
          · rfl
      have : listed.toList.count false = 0 := List.count_eq_zero.2 (fun hm => by
        obtain ⟨j, hj, he⟩ := List.getElem_of_mem hm
        have hj' : j < listed.size := by simpa using hj
        have := hall j (by omega)
        simp [hj'] at this
        simp [this] at he)
      omega
    · refine wpOp_mono (fun a'' w'' h => ?_) (relM_step hB ha hop hsz inv hi)
      refine relM_any hB ha hop hend f _ a'' w'' (by simpa using hsz) ?_ h
      obtain ⟨hun, o, ho, _⟩ := mem_ready.1 hi
      have hil : i < listed.size := by
        have : i < l.length := by
          rcases Nat.lt_or_ge i l.length with h | h
          · exact h
          · simp [List.getElem?_eq_none h] at ho
        omega
      have hun' : listed[i] = false := by simpa [hil] using hun
      rw [Array.toList_setIfInBounds, List.count_set (by simpa using hil)]
      simp [hun', hc]
end
/-- Each operation by itself, under the watch M; no order is looked at. -/
theorem wp_region_relM {P : Program} {id : Nat} {Q : Exit → Act → World → Prop} {a : Act} {w : World} {l : List Oper} (V : Nat → Value → Prop) (M : (Nat → Bool) → (Nat → Value) → World → Prop) (N : Nat) (hm : P.follows .mixedOrders = true) (hB : relBm l.toArray N = true) (ha : a.tmps.size = N)
    (h0 : ∀ u w', Below w.heap.size w w' → w'.heap = w.heap → M (fun _ => false) u w') (hop : GoalsM P l.toArray V M a l 0)
    (hend : ∀ u w1, (∀ j, j < l.length → V j (u j)) → M (fun j => decide (j < l.length)) u w1 → Q .normal (putAll u l 0 a) w1) : (Code.region id l.toArray true).wp P Q a w := by
  refine wp_region_any hm ?_
  have hf : (fun j => (Array.replicate l.length false).getD j false) = fun _ => false := by funext j; exact getD_replicate_false _ j
  have := relM_any (Q := Q) hB ha hop hend l.length (Array.replicate l.length false) a { w with drawn := w.drawn + 1 } (by simp) (by simp)
    ⟨rfl, rfl, fun j o _ hl => (by rw [getD_replicate_false] at hl; cases hl), fun _ _ => rfl, fun _ => undef, fun j o t _ _ hl => (by rw [getD_replicate_false] at hl; cases hl), fun j _ hl => (by rw [getD_replicate_false] at hl; cases hl), by rw [hf]; exact h0 _ _ (Below.refl _ _).drew rfl⟩
  simpa using this
end Go.Proofs.YtiedkcijjfmhaaaGreatDoor
namespace Go.Proofs.YtiedkcijjfmhaaaGreatDoor
open Go.RowKit

theorem Blk.inj {w : World} {g : Nat} {c d : Array Value} (h : Blk w g c) (h' : Blk w g d) : c = d := by
  obtain ⟨t, h⟩ := h
  obtain ⟨t', h'⟩ := h'
  rw [h] at h'
  injection h' with h'
  injection h'
/-- Operation i makes a block of cells z, operation s fills it by f. -/
def Bx (w : World) (i s : Nat) (z f : Array Value) (L : Nat → Bool) (u : Nat → Value) (w1 : World) : Prop :=
  (L s = true → L i = true) ∧ (L i = true → ∃ g, u i = .pointer (some ⟨g, 0, none⟩) ∧ w.heap.size ≤ g ∧ Blk w1 g (if L s = true then f else z))
section
variable {w w1 w2 : World} {i s j : Nat} {z f : Array Value} {L : Nat → Bool} {u : Nat → Value} {v : Value}
theorem Bx.start (h : L i = false) (h' : L s = false) : Bx w i s z f L u w1 := ⟨fun e => (by rw [h'] at e; cases e), fun e => (by rw [h] at e; cases e)⟩
/-- Another operation, which turns nothing that is there. -/
theorem Bx.pure (h : Bx w i s z f L u w1) (hi : j ≠ i) (hs : j ≠ s) (hb : Below w1.heap.size w1 w2) : Bx w i s z f (upd L j true) (upd u j v) w2 := by
  refine ⟨?_, ?_⟩
  · rw [upd_other _ _ (Ne.symm hi), upd_other _ _ (Ne.symm hs)]; exact h.1
  · rw [upd_other _ _ (Ne.symm hi), upd_other _ _ (Ne.symm hs), upd_other _ _ (Ne.symm hi)]
    intro e
    obtain ⟨g, h1, h2, h3⟩ := h.2 e
    exact ⟨g, h1, h2, h3.below hb h3.lt⟩
/-- Another operation, which stores into another block. -/
theorem Bx.far (h : Bx w i s z f L u w1) (hi : j ≠ i) (hs : j ≠ s) {q : Nat} {c : Array Value} (hq : Blk w1 q c) (hz : c.size ≠ z.size) (hf : c.size ≠ f.size) (hb : Kept (some q) w1.heap.size w1 w2) : Bx w i s z f (upd L j true) (upd u j v) w2 := by
  refine ⟨?_, ?_⟩
  · rw [upd_other _ _ (Ne.symm hi), upd_other _ _ (Ne.symm hs)]; exact h.1
  · rw [upd_other _ _ (Ne.symm hi), upd_other _ _ (Ne.symm hs), upd_other _ _ (Ne.symm hi)]
    intro e
    obtain ⟨g, h1, h2, h3⟩ := h.2 e
    refine ⟨g, h1, h2, h3.kept hb h3.lt (fun e' => ?_)⟩
    injection e' with e'
    subst e'
    have := Blk.inj hq h3
    rw [this] at hz hf
    split at hz
    · rename_i hc; rw [if_pos hc] at hf; exact hf rfl
    · exact hz rfl
/-- The block is made. -/
theorem Bx.make (h : Bx w i s z f L u w1) (hL : L i = false) (his : i ≠ s) (hsz : w.heap.size ≤ w1.heap.size) (t : TypeId) : Bx w i s z f (upd L i true) (upd u i (.pointer (some ⟨w1.heap.size, 0, none⟩))) (w1.alloc (.cells z t)) := by
  have hls : L s = false := by
    cases hc : L s
    · rfl
    · have := h.1 hc; rw [hL] at this; cases this
  refine ⟨?_, fun _ => ⟨w1.heap.size, upd_same .., hsz, ?_⟩⟩
  · rw [upd_other _ _ his.symm, hls]; intro e; cases e
  · rw [upd_other _ _ his.symm, hls, if_neg (by simp)]
    exact Blk.new _ _ _
theorem Bx.at (h : Bx w i s z f L u w1) (hL : L i = true) (hs : L s = false) : ∃ g, u i = .pointer (some ⟨g, 0, none⟩) ∧ w.heap.size ≤ g ∧ Blk w1 g z := by
  obtain ⟨g, h1, h2, h3⟩ := h.2 hL
  rw [hs, if_neg (by simp)] at h3
  exact ⟨g, h1, h2, h3⟩
/-- The block is filled. -/
theorem Bx.fill (_h : Bx w i s z f L u w1) (hL : L i = true) (his : i ≠ s) {g : Nat} (hu : u i = .pointer (some ⟨g, 0, none⟩)) (hg : w.heap.size ≤ g) (hb : Blk w2 g f) : Bx w i s z f (upd L s true) (upd u s v) w2 := by
  refine ⟨?_, ?_⟩
  · rw [upd_other _ _ his]; intro _; exact hL
  · rw [upd_same, upd_other _ _ his, upd_other _ _ his, if_pos rfl]
    intro _
    exact ⟨g, hu, hg, hb⟩
theorem Bx.done (h : Bx w i s z f L u w1) (hi : L i = true) (hs : L s = true) : ∃ g, u i = .pointer (some ⟨g, 0, none⟩) ∧ w.heap.size ≤ g ∧ Blk w1 g f := by
  obtain ⟨g, h1, h2, h3⟩ := h.2 hi
  rw [hs, if_pos rfl] at h3
  exact ⟨g, h1, h2, h3⟩
end
end Go.Proofs.YtiedkcijjfmhaaaGreatDoor
namespace Go.Proofs.YtiedkcijjfmhaaaGreatDoor
open Go.RowKit
open Go.ChangeMaps (setBlock)

/-- The map at block b. -/
def MapAt (w : World) (b : Nat) (es : Array MapEntry) (clock : Nat) : Prop := w.heap[b]? = some (.map es clock)
section
variable {P : Program} {w w' : World} {b : Nat} {es : Array MapEntry} {clock : Nat}
theorem MapAt.lt (h : MapAt w b es clock) : b < w.heap.size := by
  rcases Nat.lt_or_ge b w.heap.size with hlt | hge
  · exact hlt
  · unfold MapAt at h; rw [Array.getElem?_eq_none hge] at h; cases h
theorem MapAt.new (w : World) : MapAt (w.alloc (.map #[] 0)) w.heap.size #[] 0 := heap_alloc_new w _
theorem MapAt.kept {p : Option Nat} {B : Nat} (h : MapAt w b es clock) (k : Kept p B w w') (hb : b < B) (hp : p ≠ some b) : MapAt w' b es clock := (k.block b hb hp).trans h
theorem MapAt.below {B : Nat} (h : MapAt w b es clock) (k : Below B w w') (hb : b < B) : MapAt w' b es clock := (k.block b hb).trans h
end
/-! A call that reads and stores: two blocks may turn. -/
structure Kpq (p : Option Nat) (q B : Nat) (w w' : World) : Prop where
  os : w'.os = w.os
  tape : w'.tape = w.tape
  output : w'.output = w.output
  size : w.heap.size ≤ w'.heap.size
  block : ∀ k, k < B → p ≠ some k → k ≠ q → w'.heap[k]? = w.heap[k]?
section
variable {p : Option Nat} {q B B' : Nat} {a b c w w' : World}
theorem Kpq.refl (p : Option Nat) (q B : Nat) (w : World) : Kpq p q B w w := ⟨rfl, rfl, rfl, Nat.le_refl _, fun _ _ _ _ => rfl⟩
theorem Kpq.trans (h : Kpq p q B a b) (k : Kpq p q B b c) : Kpq p q B a c := ⟨k.os.trans h.os, k.tape.trans h.tape, k.output.trans h.output, Nat.le_trans h.size k.size, fun i hi hp hq => (k.block i hi hp hq).trans (h.block i hi hp hq)⟩
theorem Kpq.mono (h : Kpq p q B w w') (hB : B' ≤ B) : Kpq p q B' w w' := ⟨h.os, h.tape, h.output, h.size, fun k hk hp hq => h.block k (by omega) hp hq⟩
theorem Kpq.of_p (h : Kept p B w w') : Kpq p q B w w' := ⟨h.os, h.tape, h.output, h.size, fun k hk hp _ => h.block k hk hp⟩
theorem Kpq.of_q (h : Kept (some q) B w w') : Kpq p q B w w' := ⟨h.os, h.tape, h.output, h.size, fun k hk _ hq => h.block k hk (fun e => hq (by injection e with e; exact e.symm))⟩
theorem Kpq.kept (h : Kpq p q B w w') (hB : B' ≤ B) (hq : B' ≤ q) : Kept p B' w w' := ⟨h.os, h.tape, h.output, h.size, fun k hk hp => h.block k (by omega) hp (by omega)⟩
end
/-- The program's reader, and one block that may be stored into. -/
structure EnvQ (p : Option Nat) (S : Rd) (q : Nat) (cs : Array Value) (w w' : World) : Prop where
  low : ∀ g, p = some g → g < q
  lt : q < w.heap.size
  kept : Kpq p q w.heap.size w w'
  rd : RdP w' p S
  blk : Blk w' q cs
section
variable {p : Option Nat} {S S' : Rd} {q : Nat} {cs cs' : Array Value} {w w1 w2 : World}
theorem EnvQ.start (r : RdP w p S) (b : Blk w q cs) (low : ∀ g, p = some g → g < q) : EnvQ p S q cs w w := ⟨low, b.lt, Kpq.refl _ _ _ _, r, b⟩
theorem EnvQ.size (h : EnvQ p S q cs w w1) : w.heap.size ≤ w1.heap.size := h.kept.size
theorem EnvQ.call (h : EnvQ p S q cs w w1) (r : RdP w2 p S') (k : Kept p w1.heap.size w1 w2) : EnvQ p S' q cs w w2 :=
  ⟨h.low, h.lt, h.kept.trans (Kpq.of_p (k.mono h.size)), r, h.blk.kept k h.blk.lt (fun e => by have := h.low q e; omega)⟩
theorem EnvQ.below (h : EnvQ p S q cs w w1) (k : Below w1.heap.size w1 w2) : EnvQ p S q cs w w2 :=
  ⟨h.low, h.lt, h.kept.trans (Kpq.of_p (.of_below (k.mono h.size))), h.rd.below k, h.blk.below k h.blk.lt⟩
theorem EnvQ.put (h : EnvQ p S q cs w w1) (b : Blk w2 q cs') (k : Kept (some q) w1.heap.size w1 w2) : EnvQ p S q cs' w w2 :=
  ⟨h.low, h.lt, h.kept.trans (Kpq.of_q (k.mono h.size)), h.rd.kept k (fun a b ha hb => by injection hb with hb; have := h.low a ha; omega), b⟩
theorem EnvQ.store (h : EnvQ p S q cs w w1) (off : Nat) (v : Value) : EnvQ p S q (cs.setIfInBounds off v) w (w1.setCell ⟨q, off, none⟩ v) := h.put (h.blk.store off v) (kept_set w1 q off v)
theorem EnvQ.as (h : EnvQ p S q cs w w1) (e : cs = cs') : EnvQ p S q cs' w w1 := e ▸ h
theorem EnvQ.state (h : EnvQ p S q cs w w1) (e : S = S') : EnvQ p S' q cs w w1 := e ▸ h
theorem EnvQ.calls (h : EnvQ p S q cs w w1) (k : EnvQ p S' q cs' w1 w2) : EnvQ p S' q cs' w w2 := ⟨h.low, h.lt, h.kept.trans (k.kept.mono h.size), k.rd, k.blk⟩
/-- A block of the call's own that is none of the listed ones turns. -/
theorem EnvP.other {l : List (Nat × Array Value)} {g : Nat} (h : EnvP p S w w1 l) (hg : w.heap.size ≤ g) (hn : ∀ y ∈ l, y.1 ≠ g) (k : Kept (some g) w1.heap.size w1 w2) : EnvP p S w w2 l := by
  obtain ⟨a, r⟩ := h.own hg k
  exact ⟨h.low, a, r, h.blks.far k hn⟩
/-- The first block of a call's own is made. -/
theorem EnvP.go {P : Program} {ops : Array Oper} {l : List Oper} {a : Act} {Q : Exit → Act → World → Prop} {t : TypeId} (r : RdP w p S) (h : ∀ w', EnvP p S w w' [(w.heap.size, cs)] → w'.heap.size = w.heap.size + 1 → wpList P ops Q l a w') :
    wpList P ops Q l a (w.alloc (.cells cs t)) := h _ ((EnvP.start r).alloc t cs) (by simp)
end
end Go.Proofs.YtiedkcijjfmhaaaGreatDoor
namespace Go.Proofs.YtiedkcijjfmhaaaGreatDoor
open Go.RowKit

theorem relgoals_genN {P : Program} {ops : Array Oper} {S : List Sp} {a : Act} {w : World} {r : List Oper} {s : Nat} (h : ∀ fr, fr = a → RelGoals P ops S fr w r s) : RelGoals P ops S a w r s := h a rfl
/-- The two readers; g ahead of h; nothing below the call's own has turned. -/
structure RW (w w' : World) (g h : Nat) (s1 s2 : Rd) : Prop where
  below : Below w.heap.size w w'
  rp : RdP w' (some g) s1
  rr : RdR w' h s2
  og : w.heap.size ≤ g
  gh : g < h
section
variable {w w' w2 : World} {g h : Nat} {s1 s2 s3 : Rd}
theorem RW.step (L : RW w w' g h s1 s2) (hb : Below w'.heap.size w' w2) : RW w w2 g h s1 s2 := ⟨L.below.trans (hb.mono L.below.size), L.rp.below hb, L.rr.below hb, L.og, L.gh⟩
theorem RW.hi (L : RW w w' g h s1 s2) : h < w'.heap.size := L.rr.lt
end
end Go.Proofs.YtiedkcijjfmhaaaGreatDoor
