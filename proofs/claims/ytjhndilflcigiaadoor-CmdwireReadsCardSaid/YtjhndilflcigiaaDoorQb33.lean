/-
  Lemmas (walks and plain laws), in one text.
-/
import Derived.Test.YtjhndilflcigiaaDoorQb32
import Derived.Test.YtjhndilflcigiaaDoorRows
import Derived.WalkKit
import Derived.WalkSpells
import Derived.WalkLawsBesides
import Derived.Lib.Hide
import Derived.Deep.QuietTactic
import Derived.BigQuiet
import Derived.Maps.AppendAt
import Derived.WalkSmall
import Derived.ProofKit
import Derived.OpenShut
import Derived.JoinedCond
import Derived.Deep.Slices
import Derived.Deep.Fields
import Derived.Carry
import Derived.Deep.AppendSrc
import Derived.Lib.AppendStr
import Derived.Laws.BytesArg
import Derived.Test.YtjhndilflcigiaaDoorProg
import Derived.Shelf.Spec.TrailingZeros
import Derived.RangeFuncNested
import Derived.RangeFuncBound
import Derived.RangeFuncCalls
import Derived.RangeFuncLeaves
import Derived.Shelf.Abstract
import Derived.Shelf.RegionOpen
import Derived.OwnWalkIn
import Derived.TacticsInMore
import Derived.LoopNIn
import Derived.LoopIn
import Derived.Test.YtjhndilflcigiaaDoorTie
import Derived.Lib.LaidTab
import Derived.LaidMore
import Derived.SevenTiedAt
import Derived.Test.YtjhndilflcigiaaDoorCards
import Derived.Laws.Tables
import Derived.Laws.Rows
import Derived.Maps.Own
import Derived.Deep.CutBlock
import Derived.Deep.DeepCutAuto
import Derived.ChangeKeysEq
import Derived.Laws.StructEq
import Derived.Laws.CopyOwn
import Derived.Outline
import Derived.IntWalk
import Derived.Lib.EndianBits
import Derived.Lib.AppendZeros
import Derived.WalkMore
import Derived.StillTail
import Derived.Deep.Quiet
namespace Go.Proofs.YtjhndilflcigiaaDoor
open Go.RowKit

section
variable {P : Program} {l : List Oper} {a : Act} {w : World}
/-- Behind a head of s operations that have been carried out, in whatever order. -/
theorem rel_tail {Q : Exit → Act → World → Prop} (S : List Sp) {N : Nat} (hB : relB l.toArray N = true) (ha : a.tmps.size = N) (hS : S.length = l.length) (s : Nat) (hs : s ≤ l.length) (u0 : Nat → Value)
    (hu : ∀ j o t, j < s → l[j]? = some o → o.dst = some t → a.tmps[t]? = some (u0 j) ∧ (S.getD j Sp.any).holds (u0 j) w)
    (hop : RelGoals P l.toArray S a w (l.drop s) s) (hend : ∀ u w1, Below w.heap.size w w1 → RelHold u w1 S 0 → Q .normal (putAll u l 0 a) w1) :
    wpAny P .any l.toArray Q (l.length - s) (Array.replicate s true ++ Array.replicate (l.length - s) false) a w := by
  have hg : ∀ j, (Array.replicate s true ++ Array.replicate (l.length - s) false).getD j false = decide (j < s) := by
    intro j
    rw [Array.getD_eq_getD_getElem?, Array.getElem?_append]
    by_cases h : j < s
    · simp [h]
    · simp [h]
      rw [Array.getElem?_replicate]
      split <;> rfl
  refine rel_any hB ha hS (Hop.of hop) hend _ _ a w (fun j hj => by rw [hg]; simpa using hj) (by simp; omega) (by simp [List.count_replicate]) ?_
  refine ⟨Below.refl _ _, rfl, rfl, ?_, fun _ _ => rfl, u0, ?_⟩
  · intro j o ho hl e he hb
    rw [hg] at hl ⊢
    have hj : j < s := by simpa using hl
    have := (relB_spec hB (i := j) (o := o) (by simpa using ho)).2.2.1 e he hb
    simp; omega
  · intro j o t ho hd hl
    rw [hg] at hl
    exact hu j o t (by simpa using hl) ho hd
theorem wp_move {o : Oper} {K : Act → World → Prop} {Q : Exit → Act → World → Prop} {x : Operand} (ho : o.op = .move x) (h : K (a.put o.dst (a.eval x)) w) : o.wp P a w K Q := by
  unfold Oper.wp execOp
  simp only [ho, Sem.run_pure]
  exact h
theorem wp_callf {o : Oper} {K : Act → World → Prop} {Q : Exit → Act → World → Prop} {f : FuncId} {fn : Func} {x : Operand} {ts : Array TypeId} (ho : o.op = .call { callee := .value (.func f), args := #[x], argTypes := ts })
    (hf : P.funcs[f]? = some fn) (hn : (fn.name == "runtime.NumGoroutine") = false) (hb : fn.body.isNone = false)
    (h : Calls P f #[a.eval x] w fun e w' => ∃ v, e = .returned v ∧ K (a.put o.dst v) w') : o.wp P a w K Q := by
  unfold Oper.wp execOp
  have hr : (callFunc f #[a.eval x]).run P w = .ok (.enter f #[a.eval x]) w := by
    have hn' : fn.name ≠ "runtime.NumGoroutine" := by simpa using hn
    have hb' : fn.body ≠ none := by intro h; rw [h] at hb; cases hb
    simp [callFunc, go_sem, hf, hn', hb']
  have hd : (Deferred.ofValue (a.eval (Operand.func f)) #[a.eval x]) = pure { target := .fn (.func f) #[], args := #[a.eval x] } := rfl
  simp only [ho, resolve, invoke, Sem.run_bind, List.map_toArray, List.map_cons, List.map_nil, hd, Sem.run_pure, Result.andThen_ok, Array.append_empty, hr]
  refine Calls.mono h fun e w' he => ?_
  obtain ⟨v, rfl, hk⟩ := he
  exact hk
theorem wpOp_plain {ops : Array Oper} {i : Nat} {o : Oper} {K : Act → World → Prop} {Q : Exit → Act → World → Prop} (ho : ops[i]? = some o) (hg : o.guard = none) (h : o.wp P a w K Q) : wpOp P ops Q i K a w := by
  unfold wpOp
  simp [ho, Region.wanted, hg]
  exact .inl h
theorem eval_put_ne {d : Tmp} {v : Value} {x : Operand} (h : x ≠ .tmp d) : (a.put (some d) v).eval x = a.eval x := by
  cases x with
  | tmp t =>
    have ht : d ≠ t := fun e => h (by rw [e])
    show (a.put (some d) v).tmps.getD t undef = a.tmps.getD t undef
    rw [Array.getD_eq_getD_getElem?, Array.getD_eq_getD_getElem?, put_get_ne a v (fun e => ht (by injection e))]
  | _ => rfl
theorem eval_put_eq {d : Tmp} {v : Value} (h : d < a.tmps.size) : (a.put (some d) v).eval (.tmp d) = v := by
  show (a.put (some d) v).tmps.getD d undef = v
  rw [Array.getD_eq_getD_getElem?, put_get_eq a v h]; rfl
theorem put_swap {d e : Tmp} {v u : Value} (h : d ≠ e) : (a.put (some d) v).put (some e) u = (a.put (some e) u).put (some d) v := by
  unfold Act.put
  simp only
  rw [Array.setIfInBounds_comm _ _ h]
/-- How the head's operations become ready. -/
def headB (ops : Array Oper) (n : Nat) : Bool :=
  let L := fun (a b c d : Bool) => (a :: b :: c :: d :: List.replicate n false).toArray
  (Region.ready .any ops (L false false false false) == [0, 2]) && (Region.ready .any ops (L true false false false) == [1, 2]) && (Region.ready .any ops (L false false true false) == [0]) &&
    (Region.ready .any ops (L true true false false) == [2]) && (Region.ready .any ops (L true false true false) == [1]) && (Region.ready .any ops (L true true true false) == [3])
/-- Two calls that write, one behind the other; then each operation by itself. -/
theorem wp_region_two {id : Nat} {Q : Exit → Act → World → Prop} {N : Nat} (hm : P.follows .mixedOrders = true) (hB : relB l.toArray N = true) (ha : a.tmps.size = N) (n : Nat) (hl : l.length = n + 4) (hH : headB l.toArray n = true)
    {f1 f2 : FuncId} {fn1 fn2 : Func} {x0 x2 : Operand} {d0 d1 d2 d3 : Tmp} {t1 t3 : Array TypeId} {o0 o1 o2 o3 : Oper} {r : List Oper} (hlr : l = o0 :: o1 :: o2 :: o3 :: r)
    (g0 : o0.guard = none ∧ o0.op = .move x0 ∧ o0.dst = some d0) (g1 : o1.guard = none ∧ o1.op = .call { callee := .value (.func f1), args := #[.tmp d0], argTypes := t1 } ∧ o1.dst = some d1)
    (g2 : o2.guard = none ∧ o2.op = .move x2 ∧ o2.dst = some d2) (g3 : o3.guard = none ∧ o3.op = .call { callee := .value (.func f2), args := #[.tmp d2], argTypes := t3 } ∧ o3.dst = some d3)
    (hf1 : P.funcs[f1]? = some fn1 ∧ (fn1.name == "runtime.NumGoroutine") = false ∧ fn1.body.isNone = false) (hf2 : P.funcs[f2]? = some fn2 ∧ (fn2.name == "runtime.NumGoroutine") = false ∧ fn2.body.isNone = false)
    (hx0 : x0 ≠ .tmp d2) (hx2 : x2 ≠ .tmp d0 ∧ x2 ≠ .tmp d1) (hd : d0 ≠ d1 ∧ d0 ≠ d2 ∧ d0 ≠ d3 ∧ d1 ≠ d2 ∧ d1 ≠ d3 ∧ d2 ≠ d3) (hdN : d0 < N ∧ d1 < N ∧ d2 < N ∧ d3 < N)
    (h : Calls P f1 #[a.eval x0] w.drew fun e w1 => ∃ v1, e = .returned v1 ∧ Calls P f2 #[a.eval x2] w1 fun e w2 => ∃ v2, e = .returned v2 ∧
      ∃ S' : List Sp, S'.length = n ∧ RelGoals P l.toArray (Sp.eq (a.eval x0) :: Sp.eq v1 :: Sp.eq (a.eval x2) :: Sp.eq v2 :: S') ((((a.put (some d0) (a.eval x0)).put (some d1) v1).put (some d2) (a.eval x2)).put (some d3) v2) w2 r 4 ∧
        ∀ u w3, Below w2.heap.size w2 w3 → RelHold u w3 (Sp.eq (a.eval x0) :: Sp.eq v1 :: Sp.eq (a.eval x2) :: Sp.eq v2 :: S') 0 →
          Q .normal (putAll u l 0 ((((a.put (some d0) (a.eval x0)).put (some d1) v1).put (some d2) (a.eval x2)).put (some d3) v2)) w3) :
    (Code.region id l.toArray true).wp P Q a w := by
  unfold headB at hH
  simp only [Bool.and_eq_true, beq_iff_eq] at hH
  obtain ⟨⟨⟨⟨⟨r0, r1⟩, r2⟩, r3⟩, r4⟩, r5⟩ := hH
  obtain ⟨gd0, op0, dst0⟩ := g0
  obtain ⟨gd1, op1, dst1⟩ := g1
  obtain ⟨gd2, op2, dst2⟩ := g2
  obtain ⟨gd3, op3, dst3⟩ := g3
  obtain ⟨n01, n02, n03, n12, n13, n23⟩ := hd
  obtain ⟨l0, l1, l2, l3⟩ := hdN
  have at0 : l.toArray[0]? = some o0 := by rw [hlr]; rfl
  have at1 : l.toArray[1]? = some o1 := by rw [hlr]; rfl
  have at2 : l.toArray[2]? = some o2 := by rw [hlr]; rfl
  have at3 : l.toArray[3]? = some o3 := by rw [hlr]; rfl
  refine wp_region_any hm ?_
  have e0 : Array.replicate l.toArray.size false = (false :: false :: false :: false :: List.replicate n false).toArray := by
    rw [List.size_toArray, hl]; rfl
  rw [e0, List.size_toArray, hl]
  -- the last call, and what is left
  have last : ∀ (v1 : Value) (w1 : World), (Calls P f2 #[a.eval x2] w1 fun e w2 => ∃ v2, e = .returned v2 ∧
      ∃ S' : List Sp, S'.length = n ∧ RelGoals P l.toArray (Sp.eq (a.eval x0) :: Sp.eq v1 :: Sp.eq (a.eval x2) :: Sp.eq v2 :: S') ((((a.put (some d0) (a.eval x0)).put (some d1) v1).put (some d2) (a.eval x2)).put (some d3) v2) w2 r 4 ∧
        ∀ u w3, Below w2.heap.size w2 w3 → RelHold u w3 (Sp.eq (a.eval x0) :: Sp.eq v1 :: Sp.eq (a.eval x2) :: Sp.eq v2 :: S') 0 →
          Q .normal (putAll u l 0 ((((a.put (some d0) (a.eval x0)).put (some d1) v1).put (some d2) (a.eval x2)).put (some d3) v2)) w3) →
      wpAny P .any l.toArray Q (n + 1) (true :: true :: true :: false :: List.replicate n false).toArray (((a.put (some d0) (a.eval x0)).put (some d1) v1).put (some d2) (a.eval x2)) w1 := by
    intro v1 w1 hc
    refine ⟨(fun h0 => by rw [r5] at h0; cases h0), fun i hi => ?_⟩
    rw [r5] at hi
    obtain rfl : i = 3 := by simpa using hi
    refine wpOp_plain at3 gd3 (wp_callf op3 hf2.1 hf2.2.1 hf2.2.2 ?_)
    rw [eval_put_eq (by rw [put_size, put_size, ha]; exact l2)]
    refine hc.mono ?_
    rintro e w2 ⟨v2, rfl, S', hS', hg, hend⟩
    refine ⟨v2, rfl, ?_⟩
    rw [dst3]
    have hsz : ((((a.put (some d0) (a.eval x0)).put (some d1) v1).put (some d2) (a.eval x2)).put (some d3) v2).tmps.size = N := by rw [put_size, put_size, put_size, put_size, ha]
    have key := rel_tail (P := P) (l := l) (Q := Q) (w := w2) (a := ((((a.put (some d0) (a.eval x0)).put (some d1) v1).put (some d2) (a.eval x2)).put (some d3) v2))
      (Sp.eq (a.eval x0) :: Sp.eq v1 :: Sp.eq (a.eval x2) :: Sp.eq v2 :: S') hB hsz (by simp [hS', hl]) 4 (by omega) (fun j => [a.eval x0, v1, a.eval x2, v2].getD j undef) ?_ (by rw [hlr]; rw [hlr] at hg; exact hg) hend
    · have e1 : l.length - 4 = n := by omega
      rw [e1] at key
      have e2 : ((true :: true :: true :: false :: List.replicate n false).toArray).setIfInBounds 3 true = Array.replicate 4 true ++ Array.replicate n false := by
        rw [List.setIfInBounds_toArray]
        simp only [List.set_cons_zero, List.set_cons_succ]
        apply Array.ext'
        simp [List.replicate]
      rw [e2]
      exact key
    · intro j o t hj ho hdj
      have hj4 : j = 0 ∨ j = 1 ∨ j = 2 ∨ j = 3 := by omega
      rw [hlr] at ho
      rcases hj4 with rfl | rfl | rfl | rfl
      · have hoe : o = o0 := by simpa using ho.symm
        rw [hoe, dst0] at hdj
        have hte : t = d0 := by injection hdj with hdj; exact hdj.symm
        rw [hte]
        refine ⟨?_, by simp only [List.getD_cons_zero, Sp.eq_holds]⟩
        simp only [List.getD_cons_zero]
        rw [put_get_ne _ _ (by simpa using Ne.symm n03), put_get_ne _ _ (by simpa using Ne.symm n02), put_get_ne _ _ (by simpa using Ne.symm n01)]
        exact put_get_eq _ _ (by rw [ha]; exact l0)
      · have hoe : o = o1 := by simpa using ho.symm
        rw [hoe, dst1] at hdj
        have hte : t = d1 := by injection hdj with hdj; exact hdj.symm
        rw [hte]
        refine ⟨?_, by simp only [List.getD_cons_zero, List.getD_cons_succ, Sp.eq_holds]⟩
        simp only [List.getD_cons_zero, List.getD_cons_succ]
        rw [put_get_ne _ _ (by simpa using Ne.symm n13), put_get_ne _ _ (by simpa using Ne.symm n12)]
        exact put_get_eq _ _ (by rw [put_size, ha]; exact l1)
      · have hoe : o = o2 := by simpa using ho.symm
        rw [hoe, dst2] at hdj
        have hte : t = d2 := by injection hdj with hdj; exact hdj.symm
        rw [hte]
        refine ⟨?_, by simp only [List.getD_cons_zero, List.getD_cons_succ, Sp.eq_holds]⟩
        simp only [List.getD_cons_zero, List.getD_cons_succ]
        rw [put_get_ne _ _ (by simpa using Ne.symm n23)]
        exact put_get_eq _ _ (by rw [put_size, put_size, ha]; exact l2)
      · have hoe : o = o3 := by simpa using ho.symm
        rw [hoe, dst3] at hdj
        have hte : t = d3 := by injection hdj with hdj; exact hdj.symm
        rw [hte]
        refine ⟨?_, by simp only [List.getD_cons_zero, List.getD_cons_succ, Sp.eq_holds]⟩
        simp only [List.getD_cons_zero, List.getD_cons_succ]
        exact put_get_eq _ _ (by rw [put_size, put_size, put_size, ha]; exact l3)
  -- the first call, the second move already made
  have mid : wpAny P .any l.toArray Q (n + 2) (true :: false :: true :: false :: List.replicate n false).toArray ((a.put (some d0) (a.eval x0)).put (some d2) (a.eval x2)) w.drew := by
    refine ⟨(fun h0 => by rw [r4] at h0; cases h0), fun i hi => ?_⟩
    rw [r4] at hi
    obtain rfl : i = 1 := by simpa using hi
    refine wpOp_plain at1 gd1 (wp_callf op1 hf1.1 hf1.2.1 hf1.2.2 ?_)
    rw [eval_put_ne (by simpa using n02), eval_put_eq (by rw [ha]; exact l0)]
    refine h.mono ?_
    rintro e w1 ⟨v1, rfl, hc⟩
    refine ⟨v1, rfl, ?_⟩
    rw [dst1, List.setIfInBounds_toArray]
    simp only [List.set_cons_zero, List.set_cons_succ]
    rw [← put_swap n12]
    exact last v1 w1 hc
  refine ⟨(fun h0 => by rw [r0] at h0; cases h0), fun i hi => ?_⟩
  rw [r0] at hi
  have hi' : i = 0 ∨ i = 2 := by simpa using hi
  rcases hi' with rfl | rfl
  · refine wpOp_plain at0 gd0 (wp_move op0 ?_)
    rw [dst0, List.setIfInBounds_toArray]
    simp only [List.set_cons_zero]
    refine ⟨(fun h0 => by rw [r1] at h0; cases h0), fun i hi => ?_⟩
    rw [r1] at hi
    have hi' : i = 1 ∨ i = 2 := by simpa using hi
    rcases hi' with rfl | rfl
    · refine wpOp_plain at1 gd1 (wp_callf op1 hf1.1 hf1.2.1 hf1.2.2 ?_)
      rw [eval_put_eq (by rw [ha]; exact l0)]
      refine h.mono ?_
      rintro e w1 ⟨v1, rfl, hc⟩
      refine ⟨v1, rfl, ?_⟩
      rw [dst1, List.setIfInBounds_toArray]
      simp only [List.set_cons_zero, List.set_cons_succ]
      refine ⟨(fun h0 => by rw [r3] at h0; cases h0), fun i hi => ?_⟩
      rw [r3] at hi
      obtain rfl : i = 2 := by simpa using hi
      refine wpOp_plain at2 gd2 (wp_move op2 ?_)
      rw [dst2, List.setIfInBounds_toArray, eval_put_ne hx2.2, eval_put_ne hx2.1]
      simp only [List.set_cons_zero, List.set_cons_succ]
      exact last v1 w1 hc
    · refine wpOp_plain at2 gd2 (wp_move op2 ?_)
      rw [dst2, List.setIfInBounds_toArray, eval_put_ne hx2.1]
      simp only [List.set_cons_zero, List.set_cons_succ]
      exact mid
  · refine wpOp_plain at2 gd2 (wp_move op2 ?_)
    rw [dst2, List.setIfInBounds_toArray]
    simp only [List.set_cons_zero, List.set_cons_succ]
    refine ⟨(fun h0 => by rw [r2] at h0; cases h0), fun i hi => ?_⟩
    rw [r2] at hi
    obtain rfl : i = 0 := by simpa using hi
    refine wpOp_plain at0 gd0 (wp_move op0 ?_)
    rw [dst0, List.setIfInBounds_toArray, eval_put_ne hx0, put_swap (Ne.symm n02)]
    simp only [List.set_cons_zero]
    exact mid
end
end Go.Proofs.YtjhndilflcigiaaDoor
namespace Go.Proofs.YtjhndilflcigiaaDoor
open Go.RowKit

theorem relgoals_genN {P : Program} {ops : Array Oper} {S : List Sp} {a : Act} {w : World} {r : List Oper} {s : Nat} (h : ∀ fr, fr = a → RelGoals P ops S fr w r s) : RelGoals P ops S a w r s := h a rfl
theorem In.ownN {α : Type} {k : Nat} {cs : α → List Value} {w : World} {base : Nat} {e : TypeId} {A : Option Addr} {c : Nat} {l : List α} (hk : ∀ x, (cs x).length = k) (h : w.ownsRow base e k (.slice A l.length c) l.length (l.flatMap cs)) (hs : l.length ≤ 4294967296) : In k cs w A c l := by
  obtain ⟨A', c', hv, hin⟩ := In.of_own hk h hs
  injection hv with e1 _ e2
  subst e1 e2
  exact hin
theorem RdR.eN {w : World} {h : Nat} {st : Rd} (r : RdR w h st) : w.cell? ⟨h, 1, none⟩ = some (.int .i64 st.e) := r.1.cell rfl
theorem RdR.sN {w : World} {h : Nat} {st : Rd} (r : RdR w h st) : w.cell? ⟨h, 0, none⟩ = some (.string (str st.s)) := r.1.cell rfl
/-- The two readers; g ahead of h; nothing below the call's own has turned. -/
structure RW (w w' : World) (g h : Nat) (s1 s2 : Rd) : Prop where
  below : Below w.heap.size w w'
  rp : RdP w' (some g) s1
  rr : RdR w' h s2
  og : w.heap.size ≤ g
  gh : g < h
section
variable {w w' w2 : World} {g h : Nat} {s1 s2 s3 : Rd}
theorem RW.step (L : RW w w' g h s1 s2) (hb : Below w'.heap.size w' w2) : RW w w2 g h s1 s2 := ⟨L.below.trans (hb.mono L.below.size), L.rp.below hb, L.rr.below hb, L.og, L.gh⟩
theorem RW.hi (L : RW w w' g h s1 s2) : h < w'.heap.size := L.rr.lt
theorem RW.readP (L : RW w w' g h s1 s2) (r : RdP w2 (some g) s3) (k : Kept (some g) w'.heap.size w' w2) : RW w w2 g h s3 s2 :=
  ⟨L.below.trans (k.oneB L.below.size L.og), r, L.rr.kept k (fun e => by injection e with e; have := L.gh; omega), L.og, L.gh⟩
theorem RW.readR (L : RW w w' g h s1 s2) (r : RdR w2 h s3) (k : Kept (some h) w'.heap.size w' w2) : RW w w2 g h s1 s3 :=
  ⟨L.below.trans (k.oneB L.below.size (by have := L.og; have := L.gh; omega)), L.rp.kept k (fun x y e1 e2 => by injection e1 with e1; injection e2 with e2; have := L.gh; omega), r, L.og, L.gh⟩
end
end Go.Proofs.YtjhndilflcigiaaDoor
namespace Go.Proofs.YtjhndilflcigiaaDoor
open Go.RowKit

def decE (b : List UInt8) : Int := rdEnd (rdCmd' ⟨b, 0⟩)
def decC (b : List UInt8) : Cmd := if decE b = 0 then rdCmd ⟨b, 0⟩ else cmdz
/-- The end of Decode. -/
def RetDC (w : World) (c : Cmd) (code : Int) (e : Ending) (w' : World) : Prop :=
  ∃ A n, e = .returned (.tuple #[.agg (c.arr A n), .int .i64 code]) ∧ w'.ownsRow w.heap.size 132 5 (.slice A c.f.length n) c.f.length (c.f.flatMap Node.cells) ∧ Below w.heap.size w w'
theorem rdCmd_wf (st : Rd) : (rdCmd st).wf := ⟨(rdCmd_len st).1, (rdCmd_len st).2⟩
set_option maxHeartbeats 4000000 in
set_option maxRecDepth 10000 in
theorem c_cmdwire_Decode (b : List UInt8) (B : Option Addr) (cb : Nat) (w : World) (hT : Tab w) (h : InB w B cb b) : Calls Tryd.prog 30 #[.slice B b.length cb] w (RetDC w (decC b) (decE b)) := by
  have HT := Lib.hid hT
  have H := Lib.hid h
  have hw := Lib.hid (rdCmd_wf ⟨b, 0⟩)
  obtain ⟨C, hC⟩ : ∃ c, c = rdCmd ⟨b, 0⟩ := ⟨_, rfl⟩
  obtain ⟨SS, hSS⟩ : ∃ s, s = rdCmd' ⟨b, 0⟩ := ⟨_, rfl⟩
  obtain ⟨X, hX⟩ : ∃ e, e = rdEnd SS := ⟨_, rfl⟩
  rw [← hC] at hw
  have HC := Lib.hid hC
  have HSS := Lib.hid hSS
  have HX := Lib.hid hX
  have e1 : decE b = X := by unfold decE; rw [← hSS, hX]
  have e2 : decC b = if X = 0 then C else cmdz := by unfold decC; rw [e1, ← hC]
  obtain ⟨D, hD⟩ : ∃ d, d = if X = 0 then C else cmdz := ⟨_, rfl⟩
  rw [e1, e2, ← hD]
  have HD := Lib.hid hD
  clear hT h hC hSS hX e1 e2 hD
  cases hz : (X != 0)
  all_goals
    go_enter Tryd.func30, Tryd.ntmps30
    go_wp2_with (with_reducible refine stop_call _ rfl ?_)
    refine Stop.mk (At.go ?_)
    intro w00 a00 hz00
    clear hz00
    have B0 := Lib.hid (a00.as (cmdK_arr 0).symm)
    clear a00
    go_wp2_with (fail)
    refine (c_octet_New b B cb _ (H.out.below B0.out.1)).mono ?_
    rintro e w1 ⟨g, rfl, hg, hr1, hb1⟩
    have HG := Lib.hid (show w.heap.size < g by have := B0.out.lt; omega)
    replace B0 := Lib.hid (B0.out.step hb1)
    clear hb1 hg
    go_wp2_with (fail)
    refine (c_cmdwire_Read (some g) ⟨b, 0⟩ _ (HT.out.below B0.out.1) hr1).mono ?_
    rintro e w2 ⟨A, n, rfl, own2, hr2, hk2⟩
    rw [← HC.out] at own2 ⊢
    rw [← HSS.out] at hr2
    have hlw1 := B0.out.lt
    replace B0 := Lib.hid (B0.out.kept HG.out hk2)
    have O := Lib.hid own2
    have HR := Lib.hid hr2
    have hlw2 := B0.out.lt
    clear hr1 own2 hr2 hk2
    go_wp2_with (with_reducible refine stop_store 32 (.tmp 5) (.tmp 10) rfl rfl ?_)
    refine Stop.mk (wpList_storeB rfl _ _ _ rfl w2.heap.size _ rfl rfl _ (Blk.new _ _ _) strCm (Cmd.arr_size hw.out) (by rw [Cmd.arr_size hw.out]; rfl) (Cmd.arr_ones hw.out) ?_)
    intro w3 hb3 hk3
    have hB3 := fresh_below hk3
    replace B0 := Lib.hid (B0.out.step hB3)
    replace HR := Lib.hid (HR.out.below hB3)
    replace O := Lib.hid (own_below O.out hB3)
    obtain ⟨q, hq⟩ : ∃ q, q = w2.heap.size := ⟨_, rfl⟩
    rw [← hq] at hb3 ⊢
    have Bq := Lib.hid hb3
    have hqw : w.heap.size < q := by omega
    clear hb3 hk3 hB3 hq
    go_wp2_with (fail)
    refine (c_octet_End (some g) SS _ HR.out).mono ?_
    rintro e w4 ⟨rfl, hb4⟩
    rw [← HX.out]
    replace Bq := Lib.hid (Bq.out.below hb4 Bq.out.lt)
    replace B0 := Lib.hid (B0.out.step hb4)
    replace O := Lib.hid (own_below O.out hb4)
    clear hb4 HR
  · have h0 : X = 0 := by simpa using hz
    have HD2 := Lib.hid (HD.out.trans (if_pos h0))
    have H0 := Lib.hid h0
    clear h0
    go_wp2_with (with_reducible refine stop_load 32 (.tmp 5) rfl rfl ?_)
    refine Stop.mk (wpList_loadB rfl _ _ rfl q rfl _ Bq.out strCm (Cmd.arr_size hw.out) ?_)
    go_wp2_with (with_reducible refine stop_store 32 (.tmp 2) (.tmp 17) rfl rfl ?_)
    refine Stop.mk (wpList_storeB rfl _ _ _ rfl w.heap.size _ rfl rfl _ B0.out.2 strCm (Cmd.arr_size hw.out) (by rw [Cmd.arr_size hw.out, Cmd.arr_size cmdz_wf]) (Cmd.arr_ones hw.out) ?_)
    intro w99 hb99 hk99
    have hbw : Below w.heap.size w w99 := B0.out.1.trans (hk99.oneB B0.out.1.size (Nat.le_refl _))
    have O9 := own_kept O.out hk99 (fun g hg => by injection hg with hg; omega)
    clear hk99
    go_wp2_with (fail)
    refine bodyPost_ret (results_B2 rfl rfl rfl hb99 strCm (Cmd.arr_size hw.out)) rfl ⟨A, n, ?_, by rw [HD2.out]; exact own_base O9 (by omega), hbw⟩
    rw [H0.out, HD2.out]
    rfl
  · have h0 : X ≠ 0 := by simpa using hz
    have HD2 := Lib.hid (HD.out.trans (if_neg h0))
    clear h0
    go_wp2_with (with_reducible refine stop_store 32 (.tmp 2) (.tmp 15) rfl rfl ?_)
    refine Stop.mk (wpList_storeB rfl _ _ _ rfl w.heap.size _ rfl rfl _ B0.out.2 strCm (cmdK_size 0) (by rw [cmdK_size, Cmd.arr_size cmdz_wf]) (cmdK_one 0) ?_)
    intro w99 hb99 hk99
    have hbw : Below w.heap.size w w99 := B0.out.1.trans (hk99.oneB B0.out.1.size (Nat.le_refl _))
    clear hk99
    go_wp2_with (fail)
    refine bodyPost_ret (results_B2 rfl rfl rfl hb99 strCm (cmdK_size 0)) rfl ⟨none, 0, ?_, by rw [HD2.out]; exact World.ownsRow_nil _ _ _ _, hbw⟩
    rw [HD2.out, cmdK_arr 0]
    rfl
set_option maxHeartbeats 4000000 in
set_option maxRecDepth 10000 in
theorem c_ref33_Decode (b : List UInt8) (hbl : b.length ≤ 4294967296) (w : World) : Calls Tryd.prog 31 #[.string (str b)] w (RetDC w (decC b) (decE b)) := by
  have hw := Lib.hid (rdCmd_wf ⟨b, 0⟩)
  obtain ⟨C, hC⟩ : ∃ c, c = rdCmd ⟨b, 0⟩ := ⟨_, rfl⟩
  obtain ⟨SS, hSS⟩ : ∃ s, s = rdCmd' ⟨b, 0⟩ := ⟨_, rfl⟩
  obtain ⟨X, hX⟩ : ∃ e, e = rdEnd SS := ⟨_, rfl⟩
  rw [← hC] at hw
  have HC := Lib.hid hC
  have HSS := Lib.hid hSS
  have HX := Lib.hid hX
  have e1 : decE b = X := by unfold decE; rw [← hSS, hX]
  have e2 : decC b = if X = 0 then C else cmdz := by unfold decC; rw [e1, ← hC]
  obtain ⟨D, hD⟩ : ∃ d, d = if X = 0 then C else cmdz := ⟨_, rfl⟩
  rw [e1, e2, ← hD]
  have HD := Lib.hid hD
  clear hC hSS hX e1 e2 hD
  cases hz : (X != 0)
  all_goals
    go_enter Tryd.func31, Tryd.ntmps31
    go_wp2_with (with_reducible refine stop_box 45 _ rfl ?_)
    refine Stop.mk (At.go ?_)
    intro w00 a00 hz00
    clear hz00
    have B0 := Lib.hid (a00.as (cmdK_arr 0).symm)
    clear a00
    go_wp2_with (fail)
    have hr1 : RdR (w00.alloc (.cells #[.string (str b), .int .i64 0] 45)) w00.heap.size ⟨b, 0⟩ := ⟨Blk.new _ _ _, hbl⟩
    have HR1 := Lib.hid hr1
    have HG := Lib.hid (show w.heap.size < w00.heap.size from B0.out.lt)
    replace B0 := Lib.hid (B0.out.alloc (.cells #[.string (str b), .int .i64 0] 45))
    obtain ⟨g, hg⟩ : ∃ g, g = w00.heap.size := ⟨_, rfl⟩
    rw [← hg] at HR1 HG ⊢
    clear hr1 hg
    refine (c_ref33_Read g ⟨b, 0⟩ _ HR1.out).mono ?_
    rintro e w2 ⟨A, n, rfl, own2, hr2, hk2⟩
    rw [← HC.out] at own2 ⊢
    rw [← HSS.out] at hr2
    have hlw1 := B0.out.lt
    replace B0 := Lib.hid (B0.out.kept HG.out hk2)
    have O := Lib.hid own2
    have HR := Lib.hid hr2
    have hlw2 := B0.out.lt
    clear own2 hr2 hk2 HR1
    go_wp2_with (with_reducible refine stop_store 32 (.tmp 5) (.tmp 11) rfl rfl ?_)
    refine Stop.mk (wpList_storeB rfl _ _ _ rfl w2.heap.size _ rfl rfl _ (Blk.new _ _ _) strCm (Cmd.arr_size hw.out) (by rw [Cmd.arr_size hw.out]; rfl) (Cmd.arr_ones hw.out) ?_)
    intro w3 hb3 hk3
    have hB3 := fresh_below hk3
    replace B0 := Lib.hid (B0.out.step hB3)
    replace HR := Lib.hid (HR.out.below hB3)
    replace O := Lib.hid (own_below O.out hB3)
    obtain ⟨q, hq⟩ : ∃ q, q = w2.heap.size := ⟨_, rfl⟩
    rw [← hq] at hb3 ⊢
    have Bq := Lib.hid hb3
    have hqw : w.heap.size < q := by omega
    clear hb3 hk3 hB3 hq
    go_wp2_with (fail)
    refine (c_ref01_End g SS _ HR.out).mono ?_
    rintro e w4 ⟨rfl, hb4⟩
    rw [← HX.out]
    replace Bq := Lib.hid (Bq.out.below hb4 Bq.out.lt)
    replace B0 := Lib.hid (B0.out.step hb4)
    replace O := Lib.hid (own_below O.out hb4)
    clear hb4 HR
  · have h0 : X = 0 := by simpa using hz
    have HD2 := Lib.hid (HD.out.trans (if_pos h0))
    have H0 := Lib.hid h0
    clear h0
    go_wp2_with (with_reducible refine stop_load 32 (.tmp 5) rfl rfl ?_)
    refine Stop.mk (wpList_loadB rfl _ _ rfl q rfl _ Bq.out strCm (Cmd.arr_size hw.out) ?_)
    go_wp2_with (with_reducible refine stop_store 32 (.tmp 2) (.tmp 18) rfl rfl ?_)
    refine Stop.mk (wpList_storeB rfl _ _ _ rfl w.heap.size _ rfl rfl _ B0.out.2 strCm (Cmd.arr_size hw.out) (by rw [Cmd.arr_size hw.out, Cmd.arr_size cmdz_wf]) (Cmd.arr_ones hw.out) ?_)
    intro w99 hb99 hk99
    have hbw : Below w.heap.size w w99 := B0.out.1.trans (hk99.oneB B0.out.1.size (Nat.le_refl _))
    have O9 := own_kept O.out hk99 (fun g hg => by injection hg with hg; omega)
    clear hk99
    go_wp2_with (fail)
    refine bodyPost_ret (results_B2 rfl rfl rfl hb99 strCm (Cmd.arr_size hw.out)) rfl ⟨A, n, ?_, by rw [HD2.out]; exact own_base O9 (by omega), hbw⟩
    rw [H0.out, HD2.out]
    rfl
  · have h0 : X ≠ 0 := by simpa using hz
    have HD2 := Lib.hid (HD.out.trans (if_neg h0))
    clear h0
    go_wp2_with (with_reducible refine stop_store 32 (.tmp 2) (.tmp 16) rfl rfl ?_)
    refine Stop.mk (wpList_storeB rfl _ _ _ rfl w.heap.size _ rfl rfl _ B0.out.2 strCm (cmdK_size 0) (by rw [cmdK_size, Cmd.arr_size cmdz_wf]) (cmdK_one 0) ?_)
    intro w99 hb99 hk99
    have hbw : Below w.heap.size w w99 := B0.out.1.trans (hk99.oneB B0.out.1.size (Nat.le_refl _))
    clear hk99
    go_wp2_with (fail)
    refine bodyPost_ret (results_B2 rfl rfl rfl hb99 strCm (cmdK_size 0)) rfl ⟨none, 0, ?_, by rw [HD2.out]; exact World.ownsRow_nil _ _ _ _, hbw⟩
    rw [HD2.out, cmdK_arr 0]
    rfl
end Go.Proofs.YtjhndilflcigiaaDoor
