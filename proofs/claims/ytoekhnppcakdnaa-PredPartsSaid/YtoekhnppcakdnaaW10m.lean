/-
  The walk of the reference's Join.
-/
import Derived.Test.YtoekhnppcakdnaaW10l
namespace Go.Proofs.Ytoekhnppcakdnaa
open Go.RowKit

set_option maxHeartbeats 1000000 in
theorem c_ref10_Join (op : Int) (os : List Kid) (A : Option Addr) (c : Nat) (w : World) (h : In 1 Kid.cells w A c os) (hk : ∀ o ∈ os, InN w o.1 o.2.1 o.2.2) (hs : sumLen os ≤ 4294967295) :
    Calls Try.prog 42 #[.int .i64 op, .slice A os.length c] w (RetS 5 Node.cells 29 w (joined op (os.flatMap (·.2.2)))) := by
  have hL := h.1
  have hC := h.2.1
  have hS := h.2.2.1
  have EN := elemN
  have Hk := Lib.hid hk
  clear hk
  have H0 : Hid (([⟨op, 0, ⟨0, 0, []⟩⟩] : List Node) ++ (os.drop 0).flatMap (·.2.2) = joined op (os.flatMap (·.2.2))) := by show _ = _; rw [List.drop_zero]; rfl
  have S0 : Hid (1 + sumLen (os.drop 0) = 1 + sumLen os) := rfl
  go_enter Try.func42, Try.ntmps42
  go_wp2_with (fail)
  have ownL := World.ownsRow_lit w #[.int .i64 op, .int .i64 0, .int .i64 0, .int .i64 0, .string ⟨#[]⟩] 1 (Nat.le_refl _) (by unfold maxLen; omega) (by simp) (base := w.heap.size) (e := 29) (size := 5)
  go_loopw [5, 6] (fun v i wr => ∃ (k : Nat) (acc : List Node), k ≤ os.length ∧ i = .int .i64 k ∧ acc.length ≤ 4294967296 ∧ Hid (acc.length + sumLen (os.drop k) = 1 + sumLen os) ∧ Hid (wr.ownsRow w.heap.size 29 5 v acc.length (acc.flatMap Node.cells)) ∧ Hid (acc ++ (os.drop k).flatMap (·.2.2) = joined op (os.flatMap (·.2.2))) ∧ Below w.heap.size w wr)
    (fun _ i _ => os.length - (intOf i).toNat)
  case atStart => exact ⟨0, [⟨op, 0, ⟨0, 0, []⟩⟩], by omega, rfl, by simp, S0, ownL, H0, (by repeat (first | exact Below.refl _ _ | refine Below.drew ?_ | refine Below.alloc ?_ (by first | omega | (simp; done) | (simp; omega)) _ | refine Below.setCell ?_ (by first | omega | (simp; done) | (simp; omega)) _ | refine Below.trans ?_ (Below.mono (by assumption) (by first | omega | (simp; done) | (simp; omega)))))⟩
  case round =>
    obtain ⟨k2, acc, hk2, rfl, hacc, HS, O, N, hbi⟩ := hrel
    have hzi := hbi.size
    obtain ⟨Av, cv, rfl, hcv1, hcv2⟩ := own_form O.out
    by_cases hlt2 : k2 < os.length
    · obtain ⟨bl, off, rfl, hb, hrow⟩ := h.at hlt2
      have hin := Hk.out os[k2] (List.getElem_mem hlt2)
      obtain ⟨⟨A1, c1, l1⟩, ho⟩ : ∃ o, os[k2] = o := ⟨_, rfl⟩
      rw [ho] at hin
      have hcell : wr.cell? ⟨bl, off + k2, none⟩ = some (.slice A1 l1.length c1) := by
        have := (hrow.below hbi hb).kid hlt2
        rw [ho] at this
        exact this
      have hm := HS.out
      rw [sumLen_at os k2 hlt2, ho] at hm
      simp only at hm hin
      have hm1 : acc.length + l1.length ≤ 4294967296 := by omega
      have HM : Hid (acc.length + l1.length + sumLen (os.drop (k2 + 1)) = 1 + sumLen os) := by show _ = _; omega
      have hn := N.out
      rw [List.drop_eq_getElem_cons hlt2, List.flatMap_cons, ho] at hn
      have HN := Lib.hid hn
      have HI := Lib.hid hin
      clear h hm HS N hn ho hin H0 S0
      go_wp2_with ((at_builtin; refine Stop.out ?_))
      refine Stop.mk (wpList_app _ rfl (.tmp 16) (.tmp 20) EN rfl w.heap.size (.slice Av acc.length cv) acc.length (acc.flatMap Node.cells) rfl O.out A1 l1.length c1 (l1.flatMap Node.cells) rfl (Src.of_in Node.cells_len (by omega) (HI.out.below hbi)) (nodes_one _) (by omega) hzi ?_)
      intro v3 w3 own3 _ hb3 _
      have e : acc.flatMap Node.cells ++ l1.flatMap Node.cells = (acc ++ l1).flatMap Node.cells := by rw [List.flatMap_append]
      rw [e] at own3
      have O3 := Lib.hid own3
      have hB3 : Below w.heap.size w w3 := hbi.trans hb3
      clear own3 e hb3
      go_wp2_with (fail)
      go_roundw
      case rel => exact ⟨k2 + 1, acc ++ l1, by omega, by go_num, by simp only [List.length_append]; omega, by show _ = _; rw [List.length_append]; exact HM.out, by show World.ownsRow _ _ _ _ _ _ _; rw [List.length_append]; exact O3.out, by show _ = _; rw [← HN.out]; simp, hB3⟩
      case measure => simp [intOf]; omega
    · have hn := N.out
      rw [List.drop_of_length_le (by omega)] at hn
      have HN := Lib.hid hn
      clear hn N HS H0 S0
      go_wp2_with (fail)
      go_ret
      exact RetS.of O.out (Nat.le_refl _) (by rw [← HN.out]; simp) hbi
/-- Behind each place of a filter stand as many trees as the node there has parts. -/
theorem Trees.parts_at : ∀ {l : List Node} {n : Nat} {r : List Node} {d : Nat}, Trees n l r d → ∀ (a : Nat) (ha : a < l.length), a < l.length - r.length → ∃ mid d', Trees (parts l[a].op).toNat (l.drop (a + 1)) mid d'
  | _, _, _, _, .nil l, a, ha, h => by omega
  | _, _, _, _, .cons (x := x) (l := l) (m := m) (r := r) t1 t2, 0, ha, h => ⟨_, _, by simpa using t1⟩
  | _, _, _, _, .cons (x := x) (l := l) (m := m) (r := r) t1 t2, a + 1, ha, h => by
    have hl1 := t1.length
    have hl2 := t2.length
    simp only [List.length_cons] at ha h
    by_cases h1 : a < l.length - m.length
    · have := Trees.parts_at t1 a (by omega) h1
      simpa using this
    · obtain ⟨p, hp, _⟩ := t1.behind
      subst hp
      have hpl : p.length ≤ a := by simp at h1; omega
      have := Trees.parts_at t2 (a - p.length) (by simp at ha; omega) (by simp at h; omega)
      obtain ⟨mid, d', ht⟩ := this
      refine ⟨mid, d', ?_⟩
      have e1 : (x :: (p ++ m))[a + 1]'(by simpa using ha) = m[a - p.length]'(by simp at ha; omega) := by
        simp only [List.getElem_cons_succ]
        rw [List.getElem_append_right hpl]
      have e2 : (x :: (p ++ m)).drop (a + 1 + 1) = m.drop (a - p.length + 1) := by
        simp only [List.drop_succ_cons]
        rw [List.drop_append, List.drop_of_length_le (by omega), List.nil_append]
        congr 1; omega
      rw [e1, e2]; exact ht
end Go.Proofs.Ytoekhnppcakdnaa
