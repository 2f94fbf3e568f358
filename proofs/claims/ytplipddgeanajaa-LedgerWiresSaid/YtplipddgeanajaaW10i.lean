/-
  The walk of the statement PredJoins: it answers true, whatever the two filters.
-/
import Derived.Test.YtplipddgeanajaaW10h
import Derived.Test.YtplipddgeanajaaW10f
namespace Go.Proofs.Ytplipddgeanajaa
open Go.RowKit

theorem In.lit {α : Type} {k : Nat} {cs : α → List Value} (hk : ∀ x, (cs x).length = k) (w : World) (l : List α) (t : TypeId) (n : Nat) (hn : n = l.length) (hl : l.length ≤ 4294967296) : In k cs (w.alloc (.cells (l.flatMap cs).toArray t)) (some ⟨w.heap.size, 0, none⟩) n l := by
  subst hn
  refine ⟨Nat.le_refl _, by omega, hl, .inr ⟨_, 0, rfl, by simp, fun i hi j u hu => ?_⟩⟩
  have hj : j < k := by rw [← hk l[i]]; exact (List.getElem?_eq_some_iff.1 hu).1
  rw [World.cell?_alloc_new, Nat.zero_add]
  have := flat_get (k := k) hk l i hi j hj
  rw [List.getElem?_toArray, this]; exact hu
set_option maxHeartbeats 400000 in
theorem c_ref10_Check_long (n : Nat) (A : Option Addr) (c : Nat) (w : World) (hn : 31 < n) (_hL : n ≤ c) (_hC : c ≤ 9223372036854775807) :
    Calls Try.prog 37 #[.slice A n c] w (RetV w (.int .i64 4)) := by
  go_enter Try.func37, Try.ntmps37
  go_wp2_with (fail)
  go_ret
  exact RetV.int rfl (by repeat (first | exact Below.refl _ _ | refine Below.drew ?_ | refine Below.alloc ?_ (by first | omega | (simp; done) | (simp; omega)) _ | refine Below.setCell ?_ (by first | omega | (simp; done) | (simp; omega)) _ | refine Below.trans ?_ (Below.mono (by assumption) (by first | omega | (simp; done) | (simp; omega)))))
theorem joined_len (op : Int) (l : List Node) : (joined op l).length = 1 + l.length := by simp [joined]; omega
theorem check_any (a : List Node) (A : Option Addr) (ca : Nat) (w : World) (hl : a.length ≤ ca) (hc : ca ≤ 9223372036854775807) (hr : a = [] ∨ ∃ b off, A = some ⟨b, off, none⟩ ∧ b < w.heap.size ∧ Row 5 Node.cells w b off a) (hs : ∀ x ∈ a, x.v.s.length ≤ 9223372036854775807) :
    ∃ ea : Int, (∀ w', Below w.heap.size w w' → Calls Try.prog 37 #[.slice A a.length ca] w' (RetV w' (.int .i64 ea))) ∧ (ea = 0 → InN w A ca a ∧ check a = 0) := by
  by_cases h : 31 < a.length
  · exact ⟨4, fun w' _ => c_ref10_Check_long a.length A ca w' h hl hc, fun e => by omega⟩
  · have hin : InN w A ca a := ⟨hl, hc, by omega, hr⟩
    exact ⟨check a, fun w' hb => c_ref10_Check a A ca w' (hin.below hb) hs, fun e => ⟨hin, e⟩⟩
end Go.Proofs.Ytplipddgeanajaa
