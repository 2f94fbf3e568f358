/-
  The reference's checks of cards and patches, whatever their texts' lengths. (Printed by gen08n.py.)
-/
import Derived.Test.YtjkjfnhplgcigaaDoorW06b
namespace Go.Proofs.YtjkjfnhplgcigaaDoor
open Go.RowKit

set_option maxHeartbeats 1000000 in
theorem ref06_Check_loopW (c : Card) (w : World) (hf : c.f.length = 8) (hs : ∀ x ∈ c.f, x.s.length ≤ 9223372036854775807) (h : 1 ≤ c.id ∧ c.id < 1073741824 ∧ 1 ≤ c.ver ∧ c.ver ≤ 1099511627776 ∧ c.lab < 65536) : Calls Tryd.prog 38 #[.agg c.arr] w (RetV w (.bool c.ok)) := by
  obtain ⟨h0, h1, h2⟩ := c.arr_head
  have E := Lib.hid (Card.ok_head h)
  obtain ⟨a1, a2, a3, a4, a5⟩ := h
  have b1 : decide (c.id < 1) = false := by simp; omega
  have b2 : decide (1073741824 ≤ c.id) = false := by simp; omega
  have b3 : decide (c.ver < 1) = false := by simp; omega
  have b4 : decide (1099511627776 < c.ver) = false := by simp; omega
  have b5 : decide (65536 ≤ (c.lab : Int)) = false := by simp; omega
  go_enter Tryd.func38, Tryd.ntmps38
  go_wp2
  go_loopw [3] (fun i wr => ∃ k : Nat, k ≤ 8 ∧ i = .int .i64 k ∧ Hid ((c.f.take k).all Val.ok = true) ∧ Below w.heap.size w wr ∧ Blk wr w.heap.size c.arr) (fun i _ => 8 - (intOf i).toNat)
  case atStart => exact ⟨0, by omega, rfl, rfl, (by repeat (first | exact Below.refl _ _ | refine Below.drew ?_ | refine Below.alloc ?_ (by first | omega | (simp; done) | (simp; omega)) _ | refine Below.setCell ?_ (by first | omega | (simp; done) | (simp; omega)) _ | refine Below.trans ?_ (Below.mono (by assumption) (by first | omega | (simp; done) | (simp; omega))))), Blk.new _ _ _⟩
  case round =>
    obtain ⟨k, hk, rfl, hno, hb, hB⟩ := hrel
    by_cases hlt : k < 8
    · obtain ⟨c0, c1, c2⟩ := Card.arr_val (c := c) (k := k) (by omega)
      have d0 := hB.cell c0
      have d1 := hB.cell c1
      have d2 := hB.cell c2
      have T := Lib.hid (show c.f.take (k + 1) = c.f.take k ++ [c.f[k]'(by omega)] from List.take_succ_eq_append_getElem (by omega))
      have M := Lib.hid (List.getElem_mem (l := c.f) (n := k) (by omega))
      have hsl := hs _ M.out
      cases hv : (c.f[k]'(by omega)).ok
      · go_wp2_with (go_at_call 40; refine (c_ref04_Check (c.f[k]'(by omega)) _ (by omega)).mono ?_; rintro e w1 ⟨rfl, hb1⟩)
        go_ret
        refine RetV.bool ?_ (hb.trans (hb1.mono hb.size))
        rw [E.out]
        symm
        exact List.all_eq_false.2 ⟨_, M.out, by simp [hv]⟩
      · go_wp2_with (go_at_call 40; refine (c_ref04_Check (c.f[k]'(by omega)) _ (by omega)).mono ?_; rintro e w1 ⟨rfl, hb1⟩)
        go_roundw
        case rel => exact ⟨k + 1, by omega, by go_num, Lib.hid (by rw [T.out, List.all_append, hno.out]; simpa using hv), hb.trans (hb1.mono hb.size), hB.below hb1 hB.lt⟩
        case measure => simp [intOf]; omega
    · have : k = 8 := by omega
      subst this
      go_wp2
      go_ret
      refine RetV.bool ?_ hb
      have := hno.out
      rw [List.take_of_length_le (by omega)] at this
      rw [E.out]; exact this.symm
theorem c_ref06_CheckW (c : Card) (w : World) (hf : c.f.length = 8) (hs : ∀ x ∈ c.f, x.s.length ≤ 9223372036854775807) : Calls Tryd.prog 38 #[.agg c.arr] w (RetV w (.bool c.ok)) := by
  by_cases h : 1 ≤ c.id ∧ c.id < 1073741824 ∧ 1 ≤ c.ver ∧ c.ver ≤ 1099511627776 ∧ c.lab < 65536
  · exact ref06_Check_loopW c w hf hs h
  · exact ref06_Check_bad c w h

set_option maxHeartbeats 2000000 in
theorem ref06_CheckPatch_loopW (p : Patch) (w : World) (hf : p.f.length = 8) (hs : ∀ x ∈ p.f, x.s.length ≤ 9223372036854775807) (a1 : p.mask ≠ 0) (a2 : p.mask ≤ 511) (a3 : p.lab < 65536) (hc : p.lab = 0 ∨ p.mask.testBit 8 = true) :
    Calls Tryd.prog 39 #[.agg p.arr] w (RetV w (.int .i64 p.code)) := by
  obtain ⟨h0, h1⟩ := p.arr_head
  have E := Lib.hid (Patch.code_f a1 a2 a3 hc)
  have k1 : decide (p.mask ≤ 511) = true := by simpa using a2
  have k2 : ((p.mask : Int) == 0) = false := by simp; omega
  have k3 : decide (65536 ≤ (p.lab : Int)) = false := by simp; omega
  have HF := Lib.hid hf
  by_cases hl : p.lab = 0
  all_goals
    first
    | (have k4 : ((p.lab : Int) != 0) = false := by simp [hl])
    | (have k4 : ((p.lab : Int) != 0) = true := by simp; omega)
    have h8 := Lib.hid hc
    have hl' := Lib.hid hl
    clear hc hl hf
    go_enter Tryd.func39, Tryd.ntmps39
    go_wp2_with (first
      | (go_at_call 78; refine (c_ref05_Check p.mask _).mono ?_; rintro e w1 ⟨rfl, hb1⟩; have B1 := Lib.hid ((Blk.new w 27 p.arr).below hb1 (by simp)); have q0 := B1.out.cell h0; have q1 := B1.out.cell h1; have hb2 : Below w.heap.size w w1 := ((Below.refl _ _).alloc (Nat.le_refl _) _).trans (hb1.mono (by simp)))
      | (go_at_call 64; refine (c_ref05_Labels p.mask (by omega) _).mono ?_; rintro e w2 ⟨rfl, hb3⟩; have g8 := h8.out.resolve_left hl'.out))
    go_loopw [3] (fun i wr => ∃ k : Nat, k ≤ 8 ∧ i = .int .i64 k ∧ Hid (∀ j (hj : j < p.f.length), j < k → fitAt p.mask j p.f[j] = true) ∧ Below w.heap.size w wr ∧ Blk wr w.heap.size p.arr) (fun i _ => 8 - (intOf i).toNat)
    case atStart => first
      | exact ⟨0, by omega, rfl, Lib.hid (fun j _ h => absurd h (by omega)), hb2, B1.out⟩
      | exact ⟨0, by omega, rfl, Lib.hid (fun j _ h => absurd h (by omega)), hb2.trans (hb3.mono hb2.size), B1.out.below hb3 B1.out.lt⟩
    case round =>
      clear q0 q1 hb2 B1
      obtain ⟨k, hk, rfl, hno, hb, hB⟩ := hrel
      by_cases hlt : k < 8
      · have hk8 : k < p.f.length := by have := HF.out; omega
        obtain ⟨d0, d1, d2⟩ := Patch.row hB hk8
        have dm := hB.cell h0
        have M := Lib.hid (List.getElem_mem (l := p.f) (n := k) hk8)
        have hsl := hs _ M.out
        have hz0 : wr.heap.size ≥ w.heap.size := hb.size
        have stop : fitAt p.mask k p.f[k] = false → Hid (p.code = 1) := fun h => Lib.hid (by rw [E.out, fits_no hk8 h]; rfl)
        have next : fitAt p.mask k p.f[k] = true → Hid (∀ j (hj : j < p.f.length), j < k + 1 → fitAt p.mask j p.f[j] = true) := fun h => Lib.hid (fun j hj hjk => by
          rcases Nat.lt_or_ge j k with h1 | h1
          · exact hno.out j hj h1
          · have : j = k := by omega
            subst this; exact h)
        cases hv : p.f[k].ok
        · have S := stop (by unfold fitAt; rw [hv]; rfl)
          clear stop next hno
          go_wp2_with (first
            | (go_at_call 40; refine (c_ref04_Check p.f[k] _ (by omega)).mono ?_; rintro e w4 ⟨rfl, hb4⟩))
          go_ret
          exact RetV.int S.out.symm (hb.trans (hb4.mono hz0))
        · by_cases hkd : p.f[k].kind = 0
          · have N := next (by unfold fitAt; rw [hv, hkd]; rfl)
            have c0 : (p.f[k].kind != 0) = false := by simp [hkd]
            have HK := Lib.hid hkd
            clear stop next hno hkd
            go_wp2_with (first
              | (go_at_call 40; refine (c_ref04_Check p.f[k] _ (by omega)).mono ?_; rintro e w4 ⟨rfl, hb4⟩; have B4 := hB.below hb4 hB.lt; obtain ⟨e0, e1, e2⟩ := Patch.row B4 hk8; have em := B4.cell h0))
            go_roundw
            case rel => exact ⟨k + 1, by omega, by go_num, N, hb.trans (hb4.mono hz0), B4⟩
            case measure => simp [intOf]; omega
          · have c0 : (p.f[k].kind != 0) = true := by simpa using hkd
            have hkd0 : decide (p.f[k].kind = 0) = false := by simpa using hkd
            cases hbit : p.mask.testBit k
            · have S := stop (by unfold fitAt; rw [hv, hkd0, hbit]; rfl)
              clear stop next hno hkd hkd0
              go_wp2_with (first
                | (go_at_call 40; refine (c_ref04_Check p.f[k] _ (by omega)).mono ?_; rintro e w4 ⟨rfl, hb4⟩; have B4 := hB.below hb4 hB.lt; obtain ⟨e0, e1, e2⟩ := Patch.row B4 hk8; have em := B4.cell h0)
                | (go_at_call 65; refine (c_ref03_Has p.mask k (by omega) (by omega) _).mono ?_; rintro e w5 ⟨rfl, hb5⟩))
              go_ret
              exact RetV.int S.out.symm (hb.trans ((hb4.trans (hb5.mono hb4.size)).mono hz0))
            · have N := next (by unfold fitAt; rw [hv, hbit]; simp)
              clear stop next hno hkd hkd0
              go_wp2_with (first
                | (go_at_call 40; refine (c_ref04_Check p.f[k] _ (by omega)).mono ?_; rintro e w4 ⟨rfl, hb4⟩; have B4 := hB.below hb4 hB.lt; obtain ⟨e0, e1, e2⟩ := Patch.row B4 hk8; have em := B4.cell h0)
                | (go_at_call 65; refine (c_ref03_Has p.mask k (by omega) (by omega) _).mono ?_; rintro e w5 ⟨rfl, hb5⟩))
              go_roundw
              case rel => exact ⟨k + 1, by omega, by go_num, N, hb.trans ((hb4.trans (hb5.mono hb4.size)).mono hz0), B4.below hb5 B4.lt⟩
              case measure => simp [intOf]; omega
      · have : k = 8 := by omega
        subst this
        have S : Hid (p.code = 0) := Lib.hid (by rw [E.out, fits_yes (fun j hj => hno.out j hj (by have := HF.out; omega))]; rfl)
        clear hno
        go_wp2
        go_ret
        exact RetV.int S.out.symm hb

theorem c_ref06_CheckPatchW (p : Patch) (w : World) (hm : p.mask < 4294967296) (hf : p.f.length = 8) (hs : ∀ x ∈ p.f, x.s.length ≤ 9223372036854775807) : Calls Tryd.prog 39 #[.agg p.arr] w (RetV w (.int .i64 p.code)) :=
  p.go (ref06_CheckPatch_early p w hm) (ref06_CheckPatch_loopW p w hf hs)
end Go.Proofs.YtjkjfnhplgcigaaDoor
