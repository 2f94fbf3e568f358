/-
  The walks of chapter 10's functions: where trees end, which lists are too large to be looked at, and whether a list holds a node that may not be.
-/
import Derived.Test.YtplipddgeanajaaW10a
namespace Go.Proofs.Ytplipddgeanajaa
open Go.RowKit

theorem endAt_hid (l : List Node) (i : Nat) : Hid (endFrom (l.drop (i + 0)) 1 (i + 0) = endAt l i) := (endAt_nat l i).symm

set_option maxHeartbeats 400000 in
theorem c_pred_End (l : List Node) (A : Option Addr) (c : Nat) (i : Int) (w : World) (h : InN w A c l) :
    Calls Try.prog 65 #[.slice A l.length c, .int .i64 i] w (RetV w (.int .i64 (endAt l i))) := by
  have hL := h.1
  have hC := h.2.1
  have hS := h.2.2.1
  by_cases h1 : i < 0
  · have H := Lib.hid (endAt_neg (l := l) h1)
    go_enter Try.func65, Try.ntmps65
    go_wp2
    go_ret
    exact RetV.int H.out.symm (Below.refl _ _)
  by_cases h2 : l.length ≤ i
  · have H := Lib.hid (endAt_past h2)
    go_enter Try.func65, Try.ntmps65
    go_wp2
    go_ret
    exact RetV.int H.out.symm (Below.refl _ _)
  obtain ⟨a, rfl⟩ : ∃ a : Nat, i = a := ⟨i.toNat, by omega⟩
  obtain ⟨b, off, rfl, hb, hrow⟩ := h.at (i := a) (by omega)
  clear h
  go_enter Try.func65, Try.ntmps65
  go_wp2
  go_loopw [5, 20] (fun need i wr => ∃ k : Nat, ∃ nd : Int, a + k ≤ l.length ∧ 1 ≤ nd ∧ nd ≤ 2 * k + 1 ∧ need = .int .i64 nd ∧ i = .int .i64 k ∧ Hid (endFrom (l.drop (a + k)) nd (a + k) = endAt l a) ∧ Below w.heap.size w wr)
     (fun _ i _ => l.length - (intOf i).toNat)
  case atStart => exact ⟨0, 1, by omega, by omega, by omega, rfl, rfl, endAt_hid l a, Below.refl _ _⟩
  case round =>
    obtain ⟨k, nd, hk, hnd1, hnd2, rfl, rfl, H, hbl⟩ := hrel
    by_cases hlt : a + k < l.length
    · obtain ⟨e0, e1, e2, e3, e4⟩ := (hrow.below hbl hb).node hlt (o := off + a * 5 + k * 5) (by omega)
      have hf := H.out
      rw [endFrom_at l (a + k) hlt] at hf
      obtain ⟨p, hp⟩ : ∃ p, parts l[a + k].op = p := ⟨_, rfl⟩
      have hpb := parts_bd l[a + k].op
      have Hp := Lib.hid hp
      rw [hp] at hf hpb
      have hpb1 := hpb.1
      have hpb2 := hpb.2
      have HF := Lib.hid hf
      have hbz := hbl.size
      clear hf hp hpb H
      by_cases hz : nd + (p - 1) = 0
      · go_wp2_with (go_at_call 104; refine (c_pred_Parts _ _).mono ?_; rintro e w1 ⟨rfl, hb1⟩; rw [Hp.out])
        go_ret
        refine RetV.int ?_ (by repeat (first | exact Below.refl _ _ | refine Below.drew ?_ | refine Below.alloc ?_ (by first | omega | (simp; done) | (simp; omega)) _ | refine Below.setCell ?_ (by first | omega | (simp; done) | (simp; omega)) _ | refine Below.trans ?_ (Below.mono (by assumption) (by first | omega | (simp; done) | (simp; omega)))))
        have hf := HF.out
        rw [if_pos hz] at hf
        rw [← hf]
        simp
      · go_wp2_with (go_at_call 104; refine (c_pred_Parts _ _).mono ?_; rintro e w1 ⟨rfl, hb1⟩; rw [Hp.out])
        go_roundw
        case rel =>
          refine ⟨k + 1, nd + (p - 1), by omega, by omega, by omega, rfl, by go_num, ?_, (by repeat (first | exact Below.refl _ _ | refine Below.drew ?_ | refine Below.alloc ?_ (by first | omega | (simp; done) | (simp; omega)) _ | refine Below.setCell ?_ (by first | omega | (simp; done) | (simp; omega)) _ | refine Below.trans ?_ (Below.mono (by assumption) (by first | omega | (simp; done) | (simp; omega)))))⟩
          have hf := HF.out
          rw [if_neg hz] at hf
          exact hf
        case measure => simp [intOf]; omega
    · go_wp2_with fail
      go_ret
      refine RetV.int ?_ hbl
      have := H.out
      rw [List.drop_of_length_le (by omega)] at this
      exact this
set_option maxHeartbeats 400000 in
theorem c_ref10_End (l : List Node) (A : Option Addr) (c : Nat) (i : Int) (w : World) (h : InN w A c l) :
    Calls Try.prog 72 #[.slice A l.length c, .int .i64 i] w (RetV w (.int .i64 (endAt l i))) := by
  have hL := h.1
  have hC := h.2.1
  have hS := h.2.2.1
  by_cases h1 : i < 0
  · have H := Lib.hid (endAt_neg (l := l) h1)
    go_enter Try.func72, Try.ntmps72
    go_wp2
    go_ret
    exact RetV.int H.out.symm (Below.refl _ _)
  by_cases h2 : l.length ≤ i
  · have H := Lib.hid (endAt_past h2)
    go_enter Try.func72, Try.ntmps72
    go_wp2_with fail
    refine wp_loop_rounds 1 ?_
    rw [rounds_succ]
    go_wp2_with fail
    go_ret
    exact RetV.int H.out.symm (Below.refl _ _)
  obtain ⟨a, rfl⟩ : ∃ a : Nat, i = a := ⟨i.toNat, by omega⟩
  obtain ⟨b, off, rfl, hb, hrow⟩ := h.at (i := a) (by omega)
  clear h
  go_enter Try.func72, Try.ntmps72
  go_wp2_with (fail)
  go_loopw [1, 5] (fun i need wr => ∃ k : Nat, ∃ nd : Int, a + k ≤ l.length ∧ 0 ≤ nd ∧ nd ≤ 2 * k + 1 ∧ (nd = 0 → 1 ≤ k) ∧ need = .int .i64 nd ∧ i = .int .i64 (a + k : Nat) ∧ Hid ((nd = 0 → ((a + k : Nat) : Int) = endAt l a) ∧ (nd ≠ 0 → endFrom (l.drop (a + k)) nd (a + k) = endAt l a)) ∧ Below w.heap.size w wr)
     (fun i _ _ => l.length - (intOf i).toNat)
  case atStart => exact ⟨0, 1, by omega, by omega, by omega, by omega, rfl, rfl, ⟨by omega, fun _ => endAt_hid l a⟩, Below.refl _ _⟩
  case round =>
    obtain ⟨k, nd, hk, hnd1, hnd2, hnd3, rfl, rfl, H, hbl⟩ := hrel
    have hbz := hbl.size
    by_cases hz : nd = 0
    · have H1 := Lib.hid (H.out.1 hz)
      clear H
      subst hz
      go_wp2_with (fail)
      all_goals (go_ret; exact RetV.int H1.out hbl)
    have hnd4 : 1 ≤ nd := by omega
    have hf := H.out.2 hz
    clear H
    by_cases hlt : a + k < l.length
    · obtain ⟨e0, e1, e2, e3, e4⟩ := (hrow.below hbl hb).node hlt (o := off + (a + k) * 5) (by omega)
      rw [endFrom_at l (a + k) hlt] at hf
      obtain ⟨p, hp⟩ : ∃ p, parts l[a + k].op = p := ⟨_, rfl⟩
      have hpb := parts_bd l[a + k].op
      have Hp := Lib.hid hp
      rw [hp] at hf hpb
      have hpb1 := hpb.1
      have hpb2 := hpb.2
      have HF := Lib.hid hf
      clear hf hp hpb
      go_wp2_with (go_at_call 106; refine (c_ref10_Parts _ _).mono ?_; rintro e w1 ⟨rfl, hb1⟩; rw [Hp.out])
      go_roundw
      case rel =>
        refine ⟨k + 1, nd - 1 + p, by omega, by omega, by omega, by omega, rfl, by go_num, ?_, (by repeat (first | exact Below.refl _ _ | refine Below.drew ?_ | refine Below.alloc ?_ (by first | omega | (simp; done) | (simp; omega)) _ | refine Below.setCell ?_ (by first | omega | (simp; done) | (simp; omega)) _ | refine Below.trans ?_ (Below.mono (by assumption) (by first | omega | (simp; done) | (simp; omega)))))⟩
        have hf := HF.out
        rw [show nd + (p - 1) = nd - 1 + p by omega] at hf
        refine ⟨fun e => ?_, fun e => ?_⟩
        · rw [if_pos e] at hf; rw [← hf]; omega
        · rw [if_neg e] at hf; exact hf
      case measure => simp [intOf]; omega
    · rw [List.drop_of_length_le (by omega)] at hf
      have HF := Lib.hid hf
      clear hf
      go_wp2_with fail
      go_ret
      exact RetV.int HF.out hbl
set_option maxHeartbeats 400000 in
theorem c_law10_Large_long (n : Nat) (A : Option Addr) (c : Nat) (w : World) (hn : 100 < n) (_hL : n ≤ c) (_hC : c ≤ 9223372036854775807) :
    Calls Try.prog 9 #[.slice A n c] w (RetV w (.bool true)) := by
  go_enter Try.func9, Try.ntmps9
  go_wp2
  go_ret
  exact RetV.bool rfl (Below.refl _ _)
set_option maxHeartbeats 400000 in
theorem c_law10_Large (l : List Node) (A : Option Addr) (c : Nat) (w : World) (h : InN w A c l) (hs : ∀ x ∈ l, x.v.s.length ≤ 9223372036854775807) :
    Calls Try.prog 9 #[.slice A l.length c] w (RetV w (.bool (large l))) := by
  have hL := h.1
  have hC := h.2.1
  have hS := h.2.2.1
  by_cases h1 : 100 < l.length
  · have H : Hid (large l = true) := by unfold Hid large; simp [h1]
    go_enter Try.func9, Try.ntmps9
    go_wp2
    go_ret
    exact RetV.bool H.out.symm (Below.refl _ _)
  have HL : Hid (large l = l.any fun x => decide (200 < x.v.s.length)) := by unfold Hid large; simp [h1]
  go_enter Try.func9, Try.ntmps9
  go_wp2
  go_loop [3] (fun i => ∃ k : Nat, k ≤ l.length ∧ i = .int .i64 k ∧ Hid ((l.take k).any (fun x => decide (200 < x.v.s.length)) = false)) (fun i => l.length - (intOf i).toNat)
  case atStart => exact ⟨0, by omega, rfl, by simp [Hid]⟩
  case round =>
    obtain ⟨k, hk, rfl, H⟩ := hrel
    by_cases hlt : k < l.length
    · obtain ⟨b, off, rfl, hb, hrow⟩ := h.at hlt
      obtain ⟨e0, e1, e2, e3, e4⟩ := hrow.node hlt rfl
      have hs1 := hs l[k] (List.getElem_mem hlt)
      clear h hs
      go_wp2
      · go_ret
        refine RetV.bool ?_ (Below.refl _ _)
        rw [HL.out]
        symm
        rw [List.any_eq_true]
        exact ⟨l[k], List.getElem_mem hlt, by simp; omega⟩
      · go_round
        case rel =>
          refine ⟨k + 1, by omega, by go_num, ?_⟩
          show List.any _ _ = false
          rw [List.take_succ_eq_append_getElem hlt, List.any_append, H.out]
          simp_all; omega
        case measure => simp [intOf]; omega
    · go_wp2
      go_ret
      refine RetV.bool ?_ (Below.refl _ _)
      rw [HL.out, ← H.out, List.take_of_length_le (by omega)]
end Go.Proofs.Ytplipddgeanajaa
