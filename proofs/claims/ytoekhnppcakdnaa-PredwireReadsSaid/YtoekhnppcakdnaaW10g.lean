/-
  The walks of chapter 10's functions that join filters and take their parts, and of the functions of package slices that they call.
-/
import Derived.Test.YtoekhnppcakdnaaW10d
import Derived.Test.YtoekhnppcakdnaaOct
import Derived.Lib.AppendZeros
namespace Go.Proofs.Ytoekhnppcakdnaa
open Go.RowKit

theorem elemN : Elem Try.prog 22 29 5 48 := Elem.mk' Try.underlying22 (z := .agg #[.int .i64 0, .int .i64 0, .int .i64 0, .int .i64 0, .string ⟨#[]⟩]) (by kernel_rfl) rfl (by omega) (by omega)
theorem elemK : Elem Try.prog 54 22 1 24 := Elem.mk' Try.underlying54 (z := .slice none 0 0) (by kernel_rfl) rfl (by omega) (by omega)
set_option maxHeartbeats 400000 in
set_option maxRecDepth 4000 in
theorem c_Clone_n (l : List Node) (A : Option Addr) (c : Nat) (w : World) (h : In 5 Node.cells w A c l) :
    Calls Try.prog 72 #[.slice A l.length c] w (RetS 5 Node.cells 29 w l) := by
  have hL := h.1
  have hC := h.2.1
  have hS := h.2.2.1
  have EB := elemN
  rcases A with _ | ad
  · have hl : l = [] := by
      rcases h.2.2.2 with h | ⟨b, off, hh, _⟩
      · exact h
      · cases hh
    subst hl
    clear h
    have ke := fun (w : World) (n c : Nat) => Lib.run_eql_slice_nil (P := Try.prog) w 22 _ none n c 0 0 Try.underlying22
    go_enter Try.func72, Try.ntmps72
    go_wp2_with (fail)
    go_ret
    exact ⟨_, rfl, World.ownsRow_nil _ _ _ _, Below.refl _ _⟩
  · have ke := fun (w : World) (n c : Nat) => Lib.run_eql_slice_nil (P := Try.prog) w 22 _ (some ad) n c 0 0 Try.underlying22
    go_enter Try.func72, Try.ntmps72
    go_wp2_with ((at_builtin; refine Stop.out ?_))
    refine Stop.mk (wpList_app _ rfl (.tmp 5) (.tmp 6) EB rfl w.heap.size (.slice (some ⟨w.heap.size, 0, none⟩) 0 0) 0 [] rfl (World.ownsRow_lit w #[] 0 (Nat.le_refl _) (by unfold maxLen; omega) (by simp)) (some ad) l.length c (l.flatMap Node.cells) rfl (Src.of_in Node.cells_len (by omega) (h.alloc _)) (nodes_one _) (by omega) ?_ ?_)
    · simp only [World.size_alloc]; omega
    intro v2 w2 own2 _ hb2 _
    rw [Nat.zero_add, List.nil_append] at own2
    have hb3 : Below w.heap.size w w2 := Below.trans (b := w.alloc (.cells #[] 29)) (by repeat (first | exact Below.refl _ _ | refine Below.drew ?_ | refine Below.alloc ?_ (by first | omega | (simp; done) | (simp; omega)) _ | refine Below.setCell ?_ (by first | omega | (simp; done) | (simp; omega)) _ | refine Below.trans ?_ (Below.mono (by assumption) (by first | omega | (simp; done) | (simp; omega))))) hb2
    go_wp2_with (fail)
    go_ret
    exact ⟨_, rfl, own2, hb3⟩
theorem own_zero {w : World} {e : TypeId} {size cap : Nat} {C : Array Value} (hC : C.size = cap * size) (hm : cap ≤ maxLen) : (w.drew.alloc (.cells C e)).ownsRow w.heap.size e size (.slice (some ⟨w.heap.size, 0, none⟩) 0 cap) 0 [] :=
  ⟨by simp, .inr ⟨w.heap.size, cap, C, rfl, Nat.le_refl _, heap_alloc_new w.drew _, Nat.zero_le _, hm, hC, by simp⟩⟩
set_option maxHeartbeats 400000 in
theorem c_Grow_n (n : Nat) (w : World) (hn : n ≤ 8589934592) : Calls Try.prog 110 #[.slice none 0 0, .int .i64 n] w (RetS 5 Node.cells 29 w []) := by
  have EN := elemN
  by_cases h0 : n = 0
  · subst h0
    go_enter Try.func110, Try.ntmps110
    go_wp2_with (fail)
    go_ret
    exact ⟨_, rfl, World.ownsRow_nil _ _ _ _, Below.refl _ _⟩
  · have hpos : 0 < n := by omega
    go_enter Try.func110, Try.ntmps110
    go_wp2_with ((at_builtin; refine Stop.out ?_))
    obtain ⟨i, z, h2, h3, h4, h5, h6⟩ := EN.info
    have hb : n * i.bytes ≤ 281474976710656 := by rw [h5]; omega
    have hge := grownCap_ge w n 0 29
    have hcm := grownCap_le_maxLen w n 0 29 (by unfold maxLen; omega)
    refine Stop.mk (Lib.wpList_append_run _ rfl (.tmp 20) (.tmp 21) 22 3 rfl _ _ rfl rfl _ _ (Lib.run_append_nil_zeros w _ _ _ _ i z .i64 .i64 EN.under Try.underlying3 h2 h3 n hpos (by omega) (by omega) hb) ?_)
    have hC : (Builtin.zeroCells z.cells n ++ Builtin.zeroCells z.cells (grownCap w n 0 29 - n)).size = grownCap w n 0 29 * 5 := by
      rw [Array.size_append, size_zeroCells, size_zeroCells, h6]; omega
    generalize hcg : grownCap w n 0 29 = cap at hC hcm hge ⊢
    generalize hCg : Builtin.zeroCells z.cells n ++ Builtin.zeroCells z.cells (cap - n) = C at hC ⊢
    have hcm' : cap ≤ 9223372036854775807 := by unfold maxLen at hcm; omega
    have HC := Lib.hid hC
    have HM := Lib.hid hcm
    clear hC hcm hcg hCg h2 h3 h4 h5 h6 hb EN
    go_wp2_with (fail)
    go_ret
    exact ⟨_, rfl, own_zero HC.out HM.out, (by repeat (first | exact Below.refl _ _ | refine Below.drew ?_ | refine Below.alloc ?_ (by first | omega | (simp; done) | (simp; omega)) _ | refine Below.setCell ?_ (by first | omega | (simp; done) | (simp; omega)) _ | refine Below.trans ?_ (Below.mono (by assumption) (by first | omega | (simp; done) | (simp; omega)))))⟩
def sumLen (os : List Kid) : Nat := (os.map (·.2.2.length)).sum
theorem sumLen_at (os : List Kid) (k : Nat) (h : k < os.length) : sumLen (os.drop k) = os[k].2.2.length + sumLen (os.drop (k + 1)) := by
  unfold sumLen
  rw [List.drop_eq_getElem_cons h, List.map_cons, List.sum_cons]
theorem kids_one (os : List Kid) : ∀ u ∈ os.flatMap Kid.cells, u.oneCell' = true := by
  intro u hu
  obtain ⟨x, _, hx⟩ := List.mem_flatMap.1 hu
  simp only [Kid.cells, List.mem_singleton] at hx
  subst hx; rfl
theorem Kid.cells_len (x : Kid) : x.cells.length = 1 := rfl
theorem Row.kid {w : World} {b off : Nat} {l : List Kid} (h : Row 1 Kid.cells w b off l) {i : Nat} (hi : i < l.length) : w.cell? ⟨b, off + i, none⟩ = some l[i].val := by
  have := h i hi 0 _ rfl
  simpa using this
set_option maxHeartbeats 1000000 in
theorem c_Concat (os : List Kid) (A : Option Addr) (c : Nat) (w : World) (h : In 1 Kid.cells w A c os) (hk : ∀ o ∈ os, InN w o.1 o.2.1 o.2.2) (hs : sumLen os ≤ 4294967296) :
    Calls Try.prog 71 #[.slice A os.length c] w (RetS 5 Node.cells 29 w (os.flatMap (·.2.2))) := by
  have hL := h.1
  have hC := h.2.1
  have hS := h.2.2.1
  have EN := elemN
  have Hk := Lib.hid hk
  clear hk
  have H0 : Hid (0 + sumLen (os.drop 0) = sumLen os) := by show _ = _; simp
  go_enter Try.func71, Try.ntmps71
  go_wp2_with (fail)
  go_loopw [3, 5, 11] (fun sz x i wr => ∃ (k m : Nat), k ≤ os.length ∧ i = .int .i64 k ∧ sz = .int .i64 m ∧ Hid (m + sumLen (os.drop k) = sumLen os) ∧ Below w.heap.size w wr) (fun _ _ i _ => os.length - (intOf i).toNat)
  case atStart => exact ⟨0, 0, by omega, rfl, rfl, H0, (by repeat (first | exact Below.refl _ _ | refine Below.drew ?_ | refine Below.alloc ?_ (by first | omega | (simp; done) | (simp; omega)) _ | refine Below.setCell ?_ (by first | omega | (simp; done) | (simp; omega)) _ | refine Below.trans ?_ (Below.mono (by assumption) (by first | omega | (simp; done) | (simp; omega)))))⟩
  case round =>
    obtain ⟨k, m, hkl, rfl, rfl, H, hbl⟩ := hrel
    have hbz := hbl.size
    by_cases hlt : k < os.length
    · obtain ⟨bl, off, rfl, hb, hrow⟩ := h.at hlt
      obtain ⟨⟨A1, c1, l1⟩, ho⟩ : ∃ o, os[k] = o := ⟨_, rfl⟩
      have hcell : wr.cell? ⟨bl, off + k, none⟩ = some (.slice A1 l1.length c1) := by
        have := (hrow.below hbl hb).kid hlt
        rw [ho] at this
        exact this
      have hm := H.out
      rw [sumLen_at os k hlt, ho] at hm
      simp only at hm
      have hm1 : m + l1.length ≤ 4294967296 := by omega
      have HN : Hid (m + l1.length + sumLen (os.drop (k + 1)) = sumLen os) := by show _ = _; omega
      clear h hm H H0 ho
      go_wp2_with (fail)
      go_roundw
      case rel => exact ⟨k + 1, m + l1.length, by omega, by go_num, by go_num, HN, hbl⟩
      case measure => simp [intOf]; omega
    · have hm := H.out
      rw [List.drop_of_length_le (by omega)] at hm
      have hm1 : m ≤ 4294967296 := by omega
      have H2 : Hid (([] : List Node) ++ (os.drop 0).flatMap (·.2.2) = os.flatMap (·.2.2)) := by show _ = _; simp
      clear hm H H0
      go_wp2_with (go_at_call 110; refine (c_Grow_n m _ (by omega)).mono ?_; rintro e w2 ⟨v2, rfl, own2, hb2⟩)
      have hB2 : Below w.heap.size w w2 := (by repeat (first | exact Below.refl _ _ | refine Below.drew ?_ | refine Below.alloc ?_ (by first | omega | (simp; done) | (simp; omega)) _ | refine Below.setCell ?_ (by first | omega | (simp; done) | (simp; omega)) _ | refine Below.trans ?_ (Below.mono (by assumption) (by first | omega | (simp; done) | (simp; omega)))))
      have hz2 := hB2.size
      have own2' : w2.ownsRow w.heap.size 29 5 v2 0 (([] : List Node).flatMap Node.cells) := own_base own2 hbz
      have O2 := Lib.hid own2'
      clear own2 own2' hb2
      obtain ⟨wo, rfl⟩ : ∃ wo : World, wo = wr := ⟨_, rfl⟩
      go_loopw [6, 8, 27] (fun v x i wi => ∃ (k : Nat) (acc : List Node), k ≤ os.length ∧ i = .int .i64 k ∧ acc.length ≤ 4294967296 ∧ Hid (acc.length + sumLen (os.drop k) = sumLen os) ∧ Hid (wi.ownsRow w.heap.size 29 5 v acc.length (acc.flatMap Node.cells)) ∧ Hid (acc ++ (os.drop k).flatMap (·.2.2) = os.flatMap (·.2.2)) ∧ Below w.heap.size w wi)
        (fun _ _ i _ => os.length - (intOf i).toNat)
      case atStart => exact ⟨0, [], by omega, rfl, by simp, by show _ = _; simp, O2.out, H2, hB2⟩
      case round =>
        obtain ⟨k2, acc, hk2, rfl, hacc, HS, O, N, hbi⟩ := hrel
        have hzi := hbi.size
        obtain ⟨Av, cv, rfl, hcv1, hcv2⟩ := own_form O.out
        by_cases hlt2 : k2 < os.length
        · obtain ⟨bl, off, rfl, hb, hrow⟩ := h.at hlt2
          have hin := Hk.out os[k2] (List.getElem_mem hlt2)
          obtain ⟨⟨A1, c1, l1⟩, ho⟩ : ∃ o, os[k2] = o := ⟨_, rfl⟩
          rw [ho] at hin
          have hcell : wr.cell? ⟨bl, off + k2, none⟩ = some (.slice A1 l1.length c1) := by
            have := (hrow.below hbi hb).kid hlt2
            rw [ho] at this
            exact this
          have hm := HS.out
          rw [sumLen_at os k2 hlt2, ho] at hm
          simp only at hm hin
          have hm1 : acc.length + l1.length ≤ 4294967296 := by omega
          have HM : Hid (acc.length + l1.length + sumLen (os.drop (k2 + 1)) = sumLen os) := by show _ = _; omega
          have hn := N.out
          rw [List.drop_eq_getElem_cons hlt2, List.flatMap_cons, ho] at hn
          have HN := Lib.hid hn
          have HI := Lib.hid hin
          clear h hm HS N hn ho hin H2
          go_wp2_with ((at_builtin; refine Stop.out ?_))
          refine Stop.mk (wpList_app _ rfl (.tmp 31) (.tmp 32) EN rfl w.heap.size (.slice Av acc.length cv) acc.length (acc.flatMap Node.cells) rfl O.out A1 l1.length c1 (l1.flatMap Node.cells) rfl (Src.of_in Node.cells_len (by omega) (HI.out.below hbi)) (nodes_one _) (by omega) hzi ?_)
          intro v3 w3 own3 _ hb3 _
          have e : acc.flatMap Node.cells ++ l1.flatMap Node.cells = (acc ++ l1).flatMap Node.cells := by rw [List.flatMap_append]
          rw [e] at own3
          have O3 := Lib.hid own3
          have hB3 : Below w.heap.size w w3 := hbi.trans hb3
          clear own3 e hb3
          go_wp2_with (fail)
          go_roundw
          case rel => exact ⟨k2 + 1, acc ++ l1, by omega, by go_num, by simp only [List.length_append]; omega, by show _ = _; rw [List.length_append]; exact HM.out, by show World.ownsRow _ _ _ _ _ _ _; rw [List.length_append]; exact O3.out, by show _ = _; rw [← HN.out]; simp, hB3⟩
          case measure => simp [intOf]; omega
        · have hn := N.out
          rw [List.drop_of_length_le (by omega)] at hn
          have HN := Lib.hid hn
          clear hn N HS H2
          go_wp2_with (fail)
          go_ret
          exact RetS.of O.out (Nat.le_refl _) (by rw [← HN.out]; simp) hbi
end Go.Proofs.Ytoekhnppcakdnaa
