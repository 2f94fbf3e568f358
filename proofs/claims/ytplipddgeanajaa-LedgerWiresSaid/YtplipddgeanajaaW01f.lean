/-
  The walks of the reader's calls that only look: the first error, how many bytes are left; nothing turns.
-/
import Derived.Test.YtplipddgeanajaaW01c
namespace Go.Proofs.Ytplipddgeanajaa
open Go.RowKit

set_option maxHeartbeats 400000 in
theorem c_octet_Err' (p : Option Nat) (st : Rd) (w : World) (h : RdP w p st) : Calls Try.prog 20 #[ptr p] w (RetV w (.int .i64 st.e)) := by
  rcases p with _ | g
  · have hs := h.nil
    subst hs
    rw [ptr_none]
    go_enter Try.func20, Try.ntmps20
    go_wp2_with (fail)
    go_ret
    exact RetV.of rfl (by repeat (first | exact Below.refl _ _ | refine Below.drew ?_ | refine Below.alloc ?_ (by first | omega | (simp; done) | (simp; omega)) _ | refine Below.setCell ?_ (by first | omega | (simp; done) | (simp; omega)) _ | refine Below.trans ?_ (Below.mono (by assumption) (by first | omega | (simp; done) | (simp; omega)))))
  · obtain ⟨A, c, B, pos, ha, hs⟩ := h.at
    have c2 : w.cell? ⟨g, 2, none⟩ = some (.int .i64 st.e) := ha.1.cell rfl
    have Hs := Lib.hid hs
    clear hs
    rw [ptr_some]
    go_enter Try.func20, Try.ntmps20
    go_wp2_with (fail)
    go_ret
    exact RetV.of rfl (by repeat (first | exact Below.refl _ _ | refine Below.drew ?_ | refine Below.alloc ?_ (by first | omega | (simp; done) | (simp; omega)) _ | refine Below.setCell ?_ (by first | omega | (simp; done) | (simp; omega)) _ | refine Below.trans ?_ (Below.mono (by assumption) (by first | omega | (simp; done) | (simp; omega)))))
set_option maxHeartbeats 400000 in
theorem c_octet_Left' (p : Option Nat) (st : Rd) (w : World) (h : RdP w p st) : Calls Try.prog 21 #[ptr p] w (RetV w (.int .i64 st.s.length)) := by
  rcases p with _ | g
  · have hs := h.nil
    subst hs
    rw [ptr_none]
    go_enter Try.func21, Try.ntmps21
    go_wp2_with (fail)
    go_ret
    exact RetV.of rfl (by repeat (first | exact Below.refl _ _ | refine Below.drew ?_ | refine Below.alloc ?_ (by first | omega | (simp; done) | (simp; omega)) _ | refine Below.setCell ?_ (by first | omega | (simp; done) | (simp; omega)) _ | refine Below.trans ?_ (Below.mono (by assumption) (by first | omega | (simp; done) | (simp; omega)))))
  · obtain ⟨A, c, B, pos, ha, hs⟩ := h.at
    have c0 : w.cell? ⟨g, 0, none⟩ = some (.slice A B.length c) := ha.1.cell rfl
    have c1 : w.cell? ⟨g, 1, none⟩ = some (.int .i64 pos) := ha.1.cell rfl
    have hL := ha.2.1
    have hC := ha.2.2.1
    have hC' := ha.2.2.2.1
    have hS := ha.2.2.2.2.1
    have hgl := ha.1.lt
    have hw : IntKind.i64.wrap ((B.length : Int) - (pos : Int)) = (st.s.length : Int) := by rw [IntWalk.i64_in _ (by omega), hs, List.length_drop]; omega
    have Hs := Lib.hid hs
    have Ha := Lib.hid ha
    clear hs ha
    rw [ptr_some]
    go_enter Try.func21, Try.ntmps21
    go_wp2_with (fail)
    refine wp_region_grow (by kernel_rfl) (by kernel_rfl) ?_
    repeat (quiet_step ((first | (fail))))
    refine wpQuiet_nil ?_
    intro w2 hb2
    go_wp2_with (fail)
    go_ret
    exact RetV.of rfl (by repeat (first | exact Below.refl _ _ | refine Below.drew ?_ | refine Below.alloc ?_ (by first | omega | (simp; done) | (simp; omega)) _ | refine Below.setCell ?_ (by first | omega | (simp; done) | (simp; omega)) _ | refine Below.trans ?_ (Below.mono (by assumption) (by first | omega | (simp; done) | (simp; omega)))))
end Go.Proofs.Ytplipddgeanajaa
