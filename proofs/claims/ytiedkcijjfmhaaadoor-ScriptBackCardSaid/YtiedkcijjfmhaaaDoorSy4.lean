/-
  The walks of chapter 6's CheckPatch, the program's and the reference's: which patches may be.
-/
import Derived.Test.YtiedkcijjfmhaaaDoorSy2
namespace Go.Proofs.YtiedkcijjfmhaaaDoor
open Go.RowKit

def fitAt (m k : Nat) (x : Val) : Bool := x.ok && (decide (x.kind = 0) || m.testBit k)
def fits (m : Nat) (f : List Val) : Bool := (List.range f.length).all fun k => (f[k]?).all (fitAt m k)
theorem fits_no {m : Nat} {f : List Val} {k : Nat} (h : k < f.length) (hn : fitAt m k f[k] = false) : fits m f = false := by
  unfold fits
  refine List.all_eq_false.2 ⟨k, List.mem_range.2 h, ?_⟩
  rw [List.getElem?_eq_getElem h]
  simp [hn]
theorem fits_yes {m : Nat} {f : List Val} (h : ∀ k (hk : k < f.length), fitAt m k f[k] = true) : fits m f = true := by
  unfold fits
  refine List.all_eq_true.2 fun k hk => ?_
  have hk := List.mem_range.1 hk
  rw [List.getElem?_eq_getElem hk]
  simpa using h k hk
theorem fits_at {m : Nat} {f : List Val} (h : fits m f = true) {k : Nat} (hk : k < f.length) : fitAt m k f[k] = true := by
  have := List.all_eq_true.1 h k (List.mem_range.2 hk)
  rw [List.getElem?_eq_getElem hk] at this
  simpa using this
def Patch.code (p : Patch) : Int := if p.mask = 0 ∨ 511 < p.mask then 11 else if 65536 ≤ p.lab ∨ (p.lab ≠ 0 ∧ p.mask.testBit 8 = false) then 1 else if fits p.mask p.f then 0 else 1
theorem Patch.code_mask {p : Patch} (h : p.mask = 0 ∨ 511 < p.mask) : p.code = 11 := by unfold Patch.code; rw [if_pos h]
theorem Patch.code_lab {p : Patch} (h1 : p.mask ≠ 0) (h2 : p.mask ≤ 511) (h : 65536 ≤ p.lab ∨ (p.lab ≠ 0 ∧ p.mask.testBit 8 = false)) : p.code = 1 := by unfold Patch.code; rw [if_neg (by omega), if_pos h]
theorem Patch.code_f {p : Patch} (h1 : p.mask ≠ 0) (h2 : p.mask ≤ 511) (h3 : p.lab < 65536) (h : p.lab = 0 ∨ p.mask.testBit 8 = true) : p.code = if fits p.mask p.f then 0 else 1 := by
  unfold Patch.code
  rw [if_neg (by omega), if_neg]
  rintro (h4 | ⟨h4, h5⟩)
  · omega
  · rcases h with h | h
    · exact h4 h
    · rw [h] at h5; cases h5

set_option maxHeartbeats 1000000 in
theorem ref06_CheckPatch_early (p : Patch) (w : World) (hm : p.mask < 4294967296) (hc : p.code = 11 ∧ (p.mask = 0 ∨ 511 < p.mask) ∨ p.code = 1 ∧ p.mask ≠ 0 ∧ p.mask ≤ 511 ∧ (65536 ≤ p.lab ∨ (p.lab ≠ 0 ∧ p.mask.testBit 8 = false))) :
    Calls Tryd.prog 33 #[.agg p.arr] w (RetV w (.int .i64 p.code)) := by
  obtain ⟨h0, h1⟩ := p.arr_head
  rcases hc with ⟨e, hc⟩ | ⟨e, a1, a2, hc⟩
  · have E := lh e
    clear e
    rcases Nat.lt_or_ge 511 p.mask with hb | hb
    · have k1 : decide (p.mask ≤ 511) = false := by simp; omega
      clear hc
      go_enter Tryd.func33, Tryd.ntmps33
      go_wp2_with (go_at_call 32; refine (c_ref05_Check p.mask _).mono ?_; rintro e w1 ⟨rfl, hb1⟩)
      go_ret
      exact RetV.int E.out.symm (((Below.refl _ _).alloc (Nat.le_refl _) _).trans (hb1.mono (by simp)))
    · have k1 : decide (p.mask ≤ 511) = true := by simpa using hb
      have hz : p.mask = 0 := by omega
      have k2 : ((p.mask : Int) == 0) = true := by simp [hz]
      have HZ := lh hz
      clear hc hz
      go_enter Tryd.func33, Tryd.ntmps33
      go_wp2_with (go_at_call 32; refine (c_ref05_Check p.mask _).mono ?_; rintro e w1 ⟨rfl, hb1⟩; have q0 := hb1.cell (p := ⟨w.heap.size, 0, none⟩) (by simp))
      go_ret
      exact RetV.int E.out.symm (((Below.refl _ _).alloc (Nat.le_refl _) _).trans (hb1.mono (by simp)))
  · have E := lh e
    clear e
    have k1 : decide (p.mask ≤ 511) = true := by simpa using a2
    have k2 : ((p.mask : Int) == 0) = false := by simp; omega
    by_cases hl : 65536 ≤ p.lab
    · have k3 : decide (65536 ≤ (p.lab : Int)) = true := by simp; omega
      clear hc
      go_enter Tryd.func33, Tryd.ntmps33
      go_wp2_with (go_at_call 32; refine (c_ref05_Check p.mask _).mono ?_; rintro e w1 ⟨rfl, hb1⟩; have q0 := hb1.cell (p := ⟨w.heap.size, 0, none⟩) (by simp); have q1 := hb1.cell (p := ⟨w.heap.size, 1, none⟩) (by simp))
      go_ret
      exact RetV.int E.out.symm (((Below.refl _ _).alloc (Nat.le_refl _) _).trans (hb1.mono (by simp)))
    · obtain ⟨hl0, h8⟩ := hc.resolve_left hl
      have k3 : decide (65536 ≤ (p.lab : Int)) = false := by simp; omega
      have k4 : ((p.lab : Int) != 0) = true := by simp; omega
      clear hc
      go_enter Tryd.func33, Tryd.ntmps33
      go_wp2_with (first
        | (go_at_call 32; refine (c_ref05_Check p.mask _).mono ?_; rintro e w1 ⟨rfl, hb1⟩; have q0 := hb1.cell (p := ⟨w.heap.size, 0, none⟩) (by simp); have q1 := hb1.cell (p := ⟨w.heap.size, 1, none⟩) (by simp); have hb2 : Below w.heap.size w w1 := ((Below.refl _ _).alloc (Nat.le_refl _) _).trans (hb1.mono (by simp)))
        | (go_at_call 64; refine (c_ref05_Labels p.mask hm _).mono ?_; rintro e w2 ⟨rfl, hb3⟩))
      go_ret
      exact RetV.int E.out.symm (hb2.trans (hb3.mono hb2.size))
theorem Patch.row {p : Patch} {w : World} {g : Nat} (h : Blk w g p.arr) {k : Nat} (hk : k < p.f.length) : w.cell? ⟨g, 2 + k * 3, none⟩ = some (.int .i64 p.f[k].kind) ∧ w.cell? ⟨g, 2 + k * 3 + 1, none⟩ = some (.int .i64 p.f[k].n) ∧ w.cell? ⟨g, 2 + k * 3 + 2, none⟩ = some (.string (str p.f[k].s)) := by
  obtain ⟨h0, h1, h2⟩ := Patch.arr_val (c := p) hk
  exact ⟨h.cell h0, h.cell h1, h.cell h2⟩
set_option maxHeartbeats 2000000 in
theorem ref06_CheckPatch_loop (p : Patch) (w : World) (hf : p.f.length = 8) (hs : ∀ x ∈ p.f, x.s.length ≤ 4294967000) (a1 : p.mask ≠ 0) (a2 : p.mask ≤ 511) (a3 : p.lab < 65536) (hc : p.lab = 0 ∨ p.mask.testBit 8 = true) :
    Calls Tryd.prog 33 #[.agg p.arr] w (RetV w (.int .i64 p.code)) := by
  obtain ⟨h0, h1⟩ := p.arr_head
  have E := lh (Patch.code_f a1 a2 a3 hc)
  have k1 : decide (p.mask ≤ 511) = true := by simpa using a2
  have k2 : ((p.mask : Int) == 0) = false := by simp; omega
  have k3 : decide (65536 ≤ (p.lab : Int)) = false := by simp; omega
  have HF := lh hf
  by_cases hl : p.lab = 0
  all_goals
    first
    | (have k4 : ((p.lab : Int) != 0) = false := by simp [hl])
    | (have k4 : ((p.lab : Int) != 0) = true := by simp; omega)
    have h8 := lh hc
    have hl' := lh hl
    clear hc hl hf
    go_enter Tryd.func33, Tryd.ntmps33
    go_wp2_with (first
      | (go_at_call 32; refine (c_ref05_Check p.mask _).mono ?_; rintro e w1 ⟨rfl, hb1⟩; have B1 := lh ((Blk.new w 28 p.arr).below hb1 (by simp)); have q0 := B1.out.cell h0; have q1 := B1.out.cell h1; have hb2 : Below w.heap.size w w1 := ((Below.refl _ _).alloc (Nat.le_refl _) _).trans (hb1.mono (by simp)))
      | (go_at_call 64; refine (c_ref05_Labels p.mask (by omega) _).mono ?_; rintro e w2 ⟨rfl, hb3⟩; have g8 := h8.out.resolve_left hl'.out))
    go_loopw [3] (fun i wr => ∃ k : Nat, k ≤ 8 ∧ i = .int .i64 k ∧ Hid (∀ j (hj : j < p.f.length), j < k → fitAt p.mask j p.f[j] = true) ∧ Below w.heap.size w wr ∧ Blk wr w.heap.size p.arr) (fun i _ => 8 - (intOf i).toNat)
    case atStart => first
      | exact ⟨0, by omega, rfl, lh (fun j _ h => absurd h (by omega)), hb2, B1.out⟩
      | exact ⟨0, by omega, rfl, lh (fun j _ h => absurd h (by omega)), hb2.trans (hb3.mono hb2.size), B1.out.below hb3 B1.out.lt⟩
    case round =>
      clear q0 q1 hb2 B1
      obtain ⟨k, hk, rfl, hno, hb, hB⟩ := hrel
      by_cases hlt : k < 8
      · have hk8 : k < p.f.length := by have := HF.out; omega
        obtain ⟨d0, d1, d2⟩ := Patch.row hB hk8
        have dm := hB.cell h0
        have M := lh (List.getElem_mem (l := p.f) (n := k) hk8)
        have hsl := hs _ M.out
        have hz0 : wr.heap.size ≥ w.heap.size := hb.size
        have stop : fitAt p.mask k p.f[k] = false → Hid (p.code = 1) := fun h => lh (by rw [E.out, fits_no hk8 h]; rfl)
        have next : fitAt p.mask k p.f[k] = true → Hid (∀ j (hj : j < p.f.length), j < k + 1 → fitAt p.mask j p.f[j] = true) := fun h => lh (fun j hj hjk => by
          rcases Nat.lt_or_ge j k with h1 | h1
          · exact hno.out j hj h1
          · have : j = k := by omega
            subst this; exact h)
        cases hv : p.f[k].ok
        · have S := stop (by unfold fitAt; rw [hv]; rfl)
          clear stop next hno
          go_wp2_with (first
            | (go_at_call 65; refine (c_ref04_Check p.f[k] _ (by omega)).mono ?_; rintro e w4 ⟨rfl, hb4⟩))
          go_ret
          exact RetV.int S.out.symm (hb.trans (hb4.mono hz0))
        · by_cases hkd : p.f[k].kind = 0
          · have N := next (by unfold fitAt; rw [hv, hkd]; rfl)
            have c0 : (p.f[k].kind != 0) = false := by simp [hkd]
            have HK := lh hkd
            clear stop next hno hkd
            go_wp2_with (first
              | (go_at_call 65; refine (c_ref04_Check p.f[k] _ (by omega)).mono ?_; rintro e w4 ⟨rfl, hb4⟩; have B4 := hB.below hb4 hB.lt; obtain ⟨e0, e1, e2⟩ := Patch.row B4 hk8; have em := B4.cell h0))
            go_roundw
            case rel => exact ⟨k + 1, by omega, by go_num, N, hb.trans (hb4.mono hz0), B4⟩
            case measure => simp [intOf]; omega
          · have c0 : (p.f[k].kind != 0) = true := by simpa using hkd
            have hkd0 : decide (p.f[k].kind = 0) = false := by simpa using hkd
            cases hbit : p.mask.testBit k
            · have S := stop (by unfold fitAt; rw [hv, hkd0, hbit]; rfl)
              clear stop next hno hkd hkd0
              go_wp2_with (first
                | (go_at_call 65; refine (c_ref04_Check p.f[k] _ (by omega)).mono ?_; rintro e w4 ⟨rfl, hb4⟩; have B4 := hB.below hb4 hB.lt; obtain ⟨e0, e1, e2⟩ := Patch.row B4 hk8; have em := B4.cell h0)
                | (go_at_call 66; refine (c_ref03_Has p.mask k (by omega) (by omega) _).mono ?_; rintro e w5 ⟨rfl, hb5⟩))
              go_ret
              exact RetV.int S.out.symm (hb.trans ((hb4.trans (hb5.mono hb4.size)).mono hz0))
            · have N := next (by unfold fitAt; rw [hv, hbit]; simp)
              clear stop next hno hkd hkd0
              go_wp2_with (first
                | (go_at_call 65; refine (c_ref04_Check p.f[k] _ (by omega)).mono ?_; rintro e w4 ⟨rfl, hb4⟩; have B4 := hB.below hb4 hB.lt; obtain ⟨e0, e1, e2⟩ := Patch.row B4 hk8; have em := B4.cell h0)
                | (go_at_call 66; refine (c_ref03_Has p.mask k (by omega) (by omega) _).mono ?_; rintro e w5 ⟨rfl, hb5⟩))
              go_roundw
              case rel => exact ⟨k + 1, by omega, by go_num, N, hb.trans ((hb4.trans (hb5.mono hb4.size)).mono hz0), B4.below hb5 B4.lt⟩
              case measure => simp [intOf]; omega
      · have : k = 8 := by omega
        subst this
        have S : Hid (p.code = 0) := lh (by rw [E.out, fits_yes (fun j hj => hno.out j hj (by have := HF.out; omega))]; rfl)
        clear hno
        go_wp2
        go_ret
        exact RetV.int S.out.symm hb

/-! The program's. -/
set_option maxHeartbeats 1000000 in
theorem card_CheckPatch_early (p : Patch) (w : World) (hm : p.mask < 4294967296) (hc : p.code = 11 ∧ (p.mask = 0 ∨ 511 < p.mask) ∨ p.code = 1 ∧ p.mask ≠ 0 ∧ p.mask ≤ 511 ∧ (65536 ≤ p.lab ∨ (p.lab ≠ 0 ∧ p.mask.testBit 8 = false))) :
    Calls Tryd.prog 25 #[.agg p.arr] w (RetV w (.int .i64 p.code)) := by
  obtain ⟨h0, h1⟩ := p.arr_head
  rcases hc with ⟨e, hc⟩ | ⟨e, a1, a2, hc⟩
  · have E := lh e
    clear e
    by_cases hz : p.mask = 0
    · have k2 : ((p.mask : Int) == 0) = true := by simp [hz]
      clear hc hz
      go_enter Tryd.func25, Tryd.ntmps25
      go_wp2
      go_ret
      exact RetV.int E.out.symm (by repeat (first | exact Below.refl _ _ | refine Below.drew ?_ | refine Below.alloc ?_ (by first | omega | (simp; done) | (simp; omega)) _ | refine Below.setCell ?_ (by first | omega | (simp; done) | (simp; omega)) _ | refine Below.trans ?_ (Below.mono (by assumption) (by first | omega | (simp; done) | (simp; omega)))))
    · have k2 : ((p.mask : Int) == 0) = false := by simpa using hz
      have k1 : decide (p.mask ≤ 511) = false := by simp; omega
      clear hc hz
      go_enter Tryd.func25, Tryd.ntmps25
      go_wp2_with (go_at_call 24; refine (c_mask_Check p.mask hm _).mono ?_; rintro e w1 ⟨rfl, hb1⟩)
      go_ret
      exact RetV.int E.out.symm (((Below.refl _ _).alloc (Nat.le_refl _) _).trans (hb1.mono (by simp)))
  · have E := lh e
    clear e
    have k1 : decide (p.mask ≤ 511) = true := by simpa using a2
    have k2 : ((p.mask : Int) == 0) = false := by simp; omega
    by_cases hl : 65536 ≤ p.lab
    · have k3 : ((p.lab : Int) / 65536 != 0) = true := by simp; omega
      clear hc
      go_enter Tryd.func25, Tryd.ntmps25
      go_wp2_with (go_at_call 24; refine (c_mask_Check p.mask hm _).mono ?_; rintro e w1 ⟨rfl, hb1⟩; have q0 := hb1.cell (p := ⟨w.heap.size, 0, none⟩) (by simp); have q1 := hb1.cell (p := ⟨w.heap.size, 1, none⟩) (by simp))
      go_ret
      exact RetV.int E.out.symm (((Below.refl _ _).alloc (Nat.le_refl _) _).trans (hb1.mono (by simp)))
    · obtain ⟨hl0, h8⟩ := hc.resolve_left hl
      have k3 : ((p.lab : Int) / 65536 != 0) = false := by simp; omega
      have k4 : ((p.lab : Int) != 0) = true := by simp; omega
      clear hc
      go_enter Tryd.func25, Tryd.ntmps25
      go_wp2_with (first
        | (go_at_call 24; refine (c_mask_Check p.mask hm _).mono ?_; rintro e w1 ⟨rfl, hb1⟩; have q0 := hb1.cell (p := ⟨w.heap.size, 0, none⟩) (by simp); have q1 := hb1.cell (p := ⟨w.heap.size, 1, none⟩) (by simp); have hb2 : Below w.heap.size w w1 := ((Below.refl _ _).alloc (Nat.le_refl _) _).trans (hb1.mono (by simp)))
        | (go_at_call 55; refine (c_mask_Labels p.mask hm _).mono ?_; rintro e w2 ⟨rfl, hb3⟩))
      go_ret
      exact RetV.int E.out.symm (hb2.trans (hb3.mono hb2.size))
theorem shr_bit (m k : Nat) (h : m ≤ 511) : (bits BinOp.and IntKind.u32 ((m : Int) / 2 ^ k) 1 == 0) = !m.testBit k := by
  have hle : m / 2 ^ k ≤ m := Nat.div_le_self _ _
  have e : ((m : Int) / 2 ^ k) = ((m / 2 ^ k : Nat) : Int) := by simp
  have h1 : bits .and .u32 ((m / 2 ^ k : Nat) : Int) 1 = ((m / 2 ^ k &&& 1 : Nat) : Int) := and_u32 (m / 2 ^ k) 1 (by omega) (by omega)
  rw [e, h1, has_div, Nat.and_one_is_mod]
  rw [Bool.eq_iff_iff]
  simp
  omega
theorem Patch.part {p : Patch} {w : World} {g : Nat} (h : Blk w g p.arr) (j : Nat) (u : Value) (hu : (farr p.f)[j]? = some u) : w.cell? ⟨g, 2 + j, none⟩ = some u := h.cell (by rw [Patch.arr_tail]; exact hu)
set_option maxHeartbeats 2000000 in
theorem card_CheckPatch_loop (p : Patch) (w : World) (hf : p.f.length = 8) (hs : ∀ x ∈ p.f, x.s.length ≤ 4294967000) (a1 : p.mask ≠ 0) (a2 : p.mask ≤ 511) (a3 : p.lab < 65536) (hc : p.lab = 0 ∨ p.mask.testBit 8 = true) :
    Calls Tryd.prog 25 #[.agg p.arr] w (RetV w (.int .i64 p.code)) := by
  obtain ⟨h0, h1⟩ := p.arr_head
  have E := lh (Patch.code_f a1 a2 a3 hc)
  have k1 : decide (p.mask ≤ 511) = true := by simpa using a2
  have k2 : ((p.mask : Int) == 0) = false := by simp; omega
  have k3 : ((p.lab : Int) / 65536 != 0) = false := by simp; omega
  have HF := lh hf
  by_cases hl : p.lab = 0
  all_goals
    first
    | (have k4 : ((p.lab : Int) != 0) = false := by simp [hl])
    | (have k4 : ((p.lab : Int) != 0) = true := by simp; omega)
    have h8 := lh hc
    have hl' := lh hl
    clear hc hl hf
    go_enter Tryd.func25, Tryd.ntmps25
    go_wp2_with (first
      | (with_reducible refine stop_load 26 (.tmp 31) rfl rfl ?_)
      | (go_at_call 24; refine (c_mask_Check p.mask (by omega) _).mono ?_; rintro e w1 ⟨rfl, hb1⟩; have B1 := lh ((Blk.new w 28 p.arr).below hb1 (by simp)); have q0 := B1.out.cell h0; have q1 := B1.out.cell h1; have hb2 : Below w.heap.size w w1 := ((Below.refl _ _).alloc (Nat.le_refl _) _).trans (hb1.mono (by simp)))
      | (go_at_call 55; refine (c_mask_Labels p.mask (by omega) _).mono ?_; rintro e w2 ⟨rfl, hb3⟩; have g8 := h8.out.resolve_left hl'.out))
    first
    | refine Stop.mk (wpList_loadAt rfl _ _ rfl w.heap.size 2 rfl (farr p.f) (Patch.part (B1.out.below hb3 B1.out.lt)) strF (by rw [farr_size, HF.out]) ?_)
    | refine Stop.mk (wpList_loadAt rfl _ _ rfl w.heap.size 2 rfl (farr p.f) (Patch.part B1.out) strF (by rw [farr_size, HF.out]) ?_)
    go_wp2
    go_loopw [3, 4, 33] (fun _ _ i wr => ∃ k : Nat, k ≤ 8 ∧ i = .int .i64 k ∧ Hid (∀ j (hj : j < p.f.length), j < k → fitAt p.mask j p.f[j] = true) ∧ Below w.heap.size w wr ∧ Blk wr w.heap.size p.arr) (fun _ _ i _ => 8 - (intOf i).toNat)
    case atStart => first
      | exact ⟨0, by omega, rfl, lh (fun j _ h => absurd h (by omega)), hb2, B1.out⟩
      | exact ⟨0, by omega, rfl, lh (fun j _ h => absurd h (by omega)), hb2.trans (hb3.mono hb2.size), B1.out.below hb3 B1.out.lt⟩
    case round =>
      clear q0 q1 hb2 B1
      obtain ⟨k, hk, rfl, hno, hb, hB⟩ := hrel
      by_cases hlt : k < 8
      · have hk8 : k < p.f.length := by have := HF.out; omega
        have stop : fitAt p.mask k p.f[k] = false → Hid (p.code = 1) := fun h => lh (by rw [E.out, fits_no hk8 h]; rfl)
        have next : fitAt p.mask k p.f[k] = true → Hid (∀ j (hj : j < p.f.length), j < k + 1 → fitAt p.mask j p.f[j] = true) := fun h => lh (fun j hj hjk => by
          rcases Nat.lt_or_ge j k with h1 | h1
          · exact hno.out j hj h1
          · have : j = k := by omega
            subst this; exact h)
        have BT := lh (shr_bit p.mask k (by omega))
        have dm := hB.cell h0
        have ki := fun w => index_farr HF.out k hlt w
        have M := lh (List.getElem_mem (l := p.f) (n := k) hk8)
        have hsl := hs _ M.out
        have hz0 : wr.heap.size ≥ w.heap.size := hb.size
        have hzl := hB.lt
        go_wp2_with (go_at_call 56; refine (c_value_Check p.f[k] _ (by omega)).mono ?_; rintro e w4 ⟨rfl, hb4⟩; have B4 := hB.below (Below.trans ((Below.refl _ _).alloc (Nat.le_refl _) _) (hb4.mono (by simp))) hB.lt; have hz4 := hb4.size; simp only [World.size_alloc] at hz4; have e0 := hb4.cell (p := ⟨wr.heap.size, 0, none⟩) (by simp); have e1 := hb4.cell (p := ⟨wr.heap.size, 1, none⟩) (by simp); have e2 := hb4.cell (p := ⟨wr.heap.size, 2, none⟩) (by simp); have em := B4.cell h0; have hb5 : Below w.heap.size w w4 := hb.trans ((Below.trans ((Below.refl _ _).alloc (Nat.le_refl _) _) (hb4.mono (by simp))).mono hz0))
        all_goals first
          | (go_roundw
             case rel => exact ⟨k + 1, by omega, by go_num, next (by
               have hok : p.f[k].ok = true := by assumption
               unfold fitAt
               rw [hok, Bool.true_and, Bool.or_eq_true, decide_eq_true_eq]
               first
               | exact .inl (by assumption)
               | (have hx : (bits BinOp.and IntKind.u32 ((p.mask : Int) / 2 ^ k) 1 == 0) = false := by assumption
                  rw [BT.out] at hx
                  exact .inr (by simpa using hx))), hb5, B4⟩
             case measure => simp [intOf]; omega)
          | (go_ret
             refine RetV.int ?_ hb5
             first
             | (have hno : ¬ p.f[k].ok = true := by assumption
                exact (stop (by unfold fitAt; simp [hno])).out.symm)
             | (have hkd : ¬ p.f[k].kind = 0 := by assumption
                have hx : (bits BinOp.and IntKind.u32 ((p.mask : Int) / 2 ^ k) 1 == 0) = true := by assumption
                rw [BT.out] at hx
                exact (stop (by unfold fitAt; simp at hx; simp [hx, hkd])).out.symm)
             | (exfalso
                have hok : p.f[k].ok = true := by assumption
                have hk0 : p.f[k].kind = 0 := by assumption
                unfold Val.ok at hok
                rw [if_pos hk0] at hok
                simp at hok
                first
                | exact absurd hok.1 (by assumption)
                | exact absurd hok.2 (by assumption)))
      · have : k = 8 := by omega
        subst this
        have S : Hid (p.code = 0) := lh (by rw [E.out, fits_yes (fun j hj => hno.out j hj (by have := HF.out; omega))]; rfl)
        clear hno
        go_wp2
        go_ret
        exact RetV.int S.out.symm hb
theorem Patch.go (p : Patch) {Q : Prop} (h1 : (p.code = 11 ∧ (p.mask = 0 ∨ 511 < p.mask) ∨ p.code = 1 ∧ p.mask ≠ 0 ∧ p.mask ≤ 511 ∧ (65536 ≤ p.lab ∨ (p.lab ≠ 0 ∧ p.mask.testBit 8 = false))) → Q)
    (h2 : p.mask ≠ 0 → p.mask ≤ 511 → p.lab < 65536 → (p.lab = 0 ∨ p.mask.testBit 8 = true) → Q) : Q := by
  by_cases a : p.mask = 0 ∨ 511 < p.mask
  · exact h1 (.inl ⟨Patch.code_mask a, a⟩)
  · by_cases b : 65536 ≤ p.lab ∨ (p.lab ≠ 0 ∧ p.mask.testBit 8 = false)
    · exact h1 (.inr ⟨Patch.code_lab (by omega) (by omega) b, by omega, by omega, b⟩)
    · refine h2 (by omega) (by omega) (by omega) ?_
      cases h8 : p.mask.testBit 8
      · rw [h8] at b; left; simp at b; omega
      · right; rfl
theorem c_ref06_CheckPatch (p : Patch) (w : World) (hm : p.mask < 4294967296) (hf : p.f.length = 8) (hs : ∀ x ∈ p.f, x.s.length ≤ 4294967000) : Calls Tryd.prog 33 #[.agg p.arr] w (RetV w (.int .i64 p.code)) :=
  p.go (ref06_CheckPatch_early p w hm) (ref06_CheckPatch_loop p w hf hs)
theorem c_card_CheckPatch (p : Patch) (w : World) (hm : p.mask < 4294967296) (hf : p.f.length = 8) (hs : ∀ x ∈ p.f, x.s.length ≤ 4294967000) : Calls Tryd.prog 25 #[.agg p.arr] w (RetV w (.int .i64 p.code)) :=
  p.go (card_CheckPatch_early p w hm) (card_CheckPatch_loop p w hf hs)
end Go.Proofs.YtiedkcijjfmhaaaDoor
