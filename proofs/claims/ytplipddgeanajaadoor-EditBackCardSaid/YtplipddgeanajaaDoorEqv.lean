/-
  Structs that are compared as a whole, in a walk: stop at the comparison, and go on with what it answers.
-/
import Derived.Test.YtplipddgeanajaaDoorAgg
namespace Go.Proofs.YtplipddgeanajaaDoor
open Go.RowKit

section
variable {P : Program} {w : World}
theorem stop_bin {ops : Array Oper} {rest : List Oper} {o : Oper} {a : Act} {Q : Exit → Act → World → Prop} (op : BinOp) (ty : TypeId) (x y : Operand) (ty2 : TypeId) (_ : o.op = .binOp op ty x y ty2) (h : Stop (wpList P ops Q (o :: rest) a w)) : wpList P ops Q (o :: rest) a w := h
theorem wpList_neqS {ops : Array Oper} {rest : List Oper} {o : Oper} {a : Act} {Q : Exit → Act → World → Prop} (hw : Region.wanted o (yielded ops a.tmps) = true) (ty : TypeId) (x y : Operand) (ty2 : TypeId) (ho : o.op = .binOp .neq ty x y ty2)
    (xs ys : Array Value) (hx : a.eval x = .agg xs) (hy : a.eval y = .agg ys) (hg : P.eqGuardType P.depth ty = false) (b : Bool) (he : (Op.equalIn 10000 ty (.agg xs) (.agg ys)).run P w = .ok b w)
    (h : wpList P ops Q rest (a.put o.dst (.bool (!b))) w) : wpList P ops Q (o :: rest) a w := by
  refine wpList_g hw fun K hK => ?_
  unfold Oper.wp execOp
  simp only [ho, hx, hy, Sem.run_bind, Sem.run_pure, Result.andThen_ok, run_eqGuard_agg w _ _ _ _ _ _ hg, run_neq_struct, he]
  exact hK _ _ h
theorem wpList_eqlS {ops : Array Oper} {rest : List Oper} {o : Oper} {a : Act} {Q : Exit → Act → World → Prop} (hw : Region.wanted o (yielded ops a.tmps) = true) (ty : TypeId) (x y : Operand) (ty2 : TypeId) (ho : o.op = .binOp .eql ty x y ty2)
    (xs ys : Array Value) (hx : a.eval x = .agg xs) (hy : a.eval y = .agg ys) (hg : P.eqGuardType P.depth ty = false) (b : Bool) (he : (Op.equalIn 10000 ty (.agg xs) (.agg ys)).run P w = .ok b w)
    (h : wpList P ops Q rest (a.put o.dst (.bool b)) w) : wpList P ops Q (o :: rest) a w := by
  refine wpList_g hw fun K hK => ?_
  unfold Oper.wp execOp
  simp only [ho, hx, hy, Sem.run_bind, Sem.run_pure, Result.andThen_ok, run_eqGuard_agg w _ _ _ _ _ _ hg, run_eql_struct, he]
  exact hK _ _ h
end
theorem gV : Tryd.prog.eqGuardType Tryd.prog.depth 24 = false := by kernel_rfl
theorem gC : Tryd.prog.eqGuardType Tryd.prog.depth 129 = false := by kernel_rfl
theorem gP : Tryd.prog.eqGuardType Tryd.prog.depth 27 = false := by kernel_rfl
theorem gE : Tryd.prog.eqGuardType Tryd.prog.depth 29 = false := by kernel_rfl
end Go.Proofs.YtplipddgeanajaaDoor
