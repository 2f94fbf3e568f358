/-
  The walks of chapter 10's functions that join filters and take their parts, and of the functions of package slices that they call.
-/
import Derived.Test.YtplipddgeanajaaW10d
import Derived.Test.YtplipddgeanajaaOct
import Derived.Lib.AppendZeros
namespace Go.Proofs.Ytplipddgeanajaa
open Go.RowKit

theorem elemN : Elem Try.prog 34 74 5 48 := Elem.mk' Try.underlying34 (z := .agg #[.int .i64 0, .int .i64 0, .int .i64 0, .int .i64 0, .string ⟨#[]⟩]) (by kernel_rfl) rfl (by omega) (by omega)
theorem elemK : Elem Try.prog 163 34 1 24 := Elem.mk' Try.underlying163 (z := .slice none 0 0) (by kernel_rfl) rfl (by omega) (by omega)
set_option maxHeartbeats 400000 in
set_option maxRecDepth 4000 in
theorem c_Clone_n (l : List Node) (A : Option Addr) (c : Nat) (w : World) (h : In 5 Node.cells w A c l) :
    Calls Try.prog 103 #[.slice A l.length c] w (RetS 5 Node.cells 74 w l) := by
  have hL := h.1
  have hC := h.2.1
  have hS := h.2.2.1
  have EB := elemN
  rcases A with _ | ad
  · have hl : l = [] := by
      rcases h.2.2.2 with h | ⟨b, off, hh, _⟩
      · exact h
      · cases hh
    subst hl
    clear h
    have ke := fun (w : World) (n c : Nat) => Lib.run_eql_slice_nil (P := Try.prog) w 34 _ none n c 0 0 Try.underlying34
    go_enter Try.func103, Try.ntmps103
    go_wp2_with (fail)
    go_ret
    exact ⟨_, rfl, World.ownsRow_nil _ _ _ _, Below.refl _ _⟩
  · have ke := fun (w : World) (n c : Nat) => Lib.run_eql_slice_nil (P := Try.prog) w 34 _ (some ad) n c 0 0 Try.underlying34
    go_enter Try.func103, Try.ntmps103
    go_wp2_with ((at_builtin; refine Stop.out ?_))
    refine Stop.mk (wpList_app _ rfl (.tmp 5) (.tmp 6) EB rfl w.heap.size (.slice (some ⟨w.heap.size, 0, none⟩) 0 0) 0 [] rfl (World.ownsRow_lit w #[] 0 (Nat.le_refl _) (by unfold maxLen; omega) (by simp)) (some ad) l.length c (l.flatMap Node.cells) rfl (Src.of_in Node.cells_len (by omega) (h.alloc _)) (nodes_one _) (by omega) ?_ ?_)
    · simp only [World.size_alloc]; omega
    intro v2 w2 own2 _ hb2 _
    rw [Nat.zero_add, List.nil_append] at own2
    have hb3 : Below w.heap.size w w2 := Below.trans (b := w.alloc (.cells #[] 74)) (by repeat (first | exact Below.refl _ _ | refine Below.drew ?_ | refine Below.alloc ?_ (by first | omega | (simp; done) | (simp; omega)) _ | refine Below.setCell ?_ (by first | omega | (simp; done) | (simp; omega)) _ | refine Below.trans ?_ (Below.mono (by assumption) (by first | omega | (simp; done) | (simp; omega))))) hb2
    go_wp2_with (fail)
    go_ret
    exact ⟨_, rfl, own2, hb3⟩
theorem own_zero {w : World} {e : TypeId} {size cap : Nat} {C : Array Value} (hC : C.size = cap * size) (hm : cap ≤ maxLen) : (w.drew.alloc (.cells C e)).ownsRow w.heap.size e size (.slice (some ⟨w.heap.size, 0, none⟩) 0 cap) 0 [] :=
  ⟨by simp, .inr ⟨w.heap.size, cap, C, rfl, Nat.le_refl _, heap_alloc_new w.drew _, Nat.zero_le _, hm, hC, by simp⟩⟩
def sumLen (os : List Kid) : Nat := (os.map (·.2.2.length)).sum
theorem sumLen_at (os : List Kid) (k : Nat) (h : k < os.length) : sumLen (os.drop k) = os[k].2.2.length + sumLen (os.drop (k + 1)) := by
  unfold sumLen
  rw [List.drop_eq_getElem_cons h, List.map_cons, List.sum_cons]
theorem kids_one (os : List Kid) : ∀ u ∈ os.flatMap Kid.cells, u.oneCell' = true := by
  intro u hu
  obtain ⟨x, _, hx⟩ := List.mem_flatMap.1 hu
  simp only [Kid.cells, List.mem_singleton] at hx
  subst hx; rfl
theorem Kid.cells_len (x : Kid) : x.cells.length = 1 := rfl
theorem Row.kid {w : World} {b off : Nat} {l : List Kid} (h : Row 1 Kid.cells w b off l) {i : Nat} (hi : i < l.length) : w.cell? ⟨b, off + i, none⟩ = some l[i].val := by
  have := h i hi 0 _ rfl
  simpa using this
end Go.Proofs.Ytplipddgeanajaa
