/-
  The walks of chapter 1's readers, the program's and the reference's: numbers, texts and truths taken off bytes.
-/
import Derived.Test.YtiedkcijjfmhaaaDoorSy1
import Derived.Test.YtiedkcijjfmhaaaDoorSy2
import Derived.IntWalk
import Derived.Laws.CopyOwn
import Derived.Lib.EndianBits
import Derived.Outline
namespace Go.Proofs.YtiedkcijjfmhaaaDoor
open Go.RowKit

def RetPk (g : Nat) (A : Option Addr) (c : Nat) (B : List UInt8) (pos : Nat) (most : Int) (w : World) (e : Ending) (w' : World) : Prop :=
  e = .returned (.tuple #[.int .i64 (nVal (B.drop pos) most), .int .i64 ((pos + nLen (B.drop pos) most : Nat) : Int)]) ∧ RdA w' g A c B pos (nErr (B.drop pos) most) ∧ Kept (some g) w.heap.size w w'

theorem wrap64_id (n : Int) (h0 : 0 ≤ n) (h1 : n < 9223372036854775808) : wrap64 n = n := by unfold wrap64; omega
theorem peek_or (acc d k : Nat) (hk : k ≤ 5) (ha : acc < 128 ^ k) (hd : d < 256) :
    bits .or .i64 (acc : Int) (wrap64 (wrap64 (bits .and .u8 (d : Int) 127) * 2 ^ (7 * k))) = ((acc + d % 128 * 128 ^ k : Nat) : Int) := by
  have h1 := u8_and_nat d 127 hd (by omega)
  rw [Nat.and_two_pow_sub_one_eq_mod d 7] at h1
  have hm : d % 128 < 128 := Nat.mod_lt _ (by omega)
  have e : bits .and .u8 (d : Int) 127 = ((d % 128 : Nat) : Int) := h1
  rw [e, wrap64_id ((d % 128 : Nat) : Int) (by omega) (by omega)]
  have hwr : ∀ n : Int, 0 ≤ n → n < 2 ^ 63 → IntKind.i64.wrap n = n := fun n h0 h1 => IntWalk.i64_in _ (by omega)
  generalize d % 128 = x at *
  have key : ∀ (i : Nat) (p : Nat), (2 : Int) ^ i = p → i ≤ 35 → (p : Int) ≤ 34359738368 → acc < p → bits .or .i64 (acc : Int) (wrap64 ((x : Int) * 2 ^ i)) = ((acc + x * p : Nat) : Int) := by
    intro i p hp hi hpl hap
    have hx0 : x * p ≤ 127 * 34359738368 := Nat.mul_le_mul (by omega) (by omega)
    have hx1 : (x : Int) * (p : Int) = ((x * p : Nat) : Int) := by simp
    rw [hp, hx1, wrap64_id _ (by omega) (by omega)]
    rw [bits_join_low .i64 63 (by decide) hwr i _ _ (by omega) (by rw [hp]; omega) (by omega) (by omega) (by rw [hp, ← hx1]; exact Int.mul_emod_left _ _) (by omega)]
    simp
  rcases (show k = 0 ∨ k = 1 ∨ k = 2 ∨ k = 3 ∨ k = 4 ∨ k = 5 by omega) with rfl | rfl | rfl | rfl | rfl | rfl
  · exact key 0 1 rfl (by omega) (by omega) (by simpa using ha)
  · exact key 7 128 rfl (by omega) (by omega) (by simpa using ha)
  · exact key 14 16384 rfl (by omega) (by omega) (by simpa using ha)
  · exact key 21 2097152 rfl (by omega) (by omega) (by simpa using ha)
  · exact key 28 268435456 rfl (by omega) (by omega) (by simpa using ha)
  · exact key 35 34359738368 rfl (by omega) (by omega) (by simpa using ha)
theorem RetPk.bad {g : Nat} {A : Option Addr} {c : Nat} {B : List UInt8} {pos : Nat} {most : Int} {w wr w2 : World} {e : Int} (_hgl : g < wr.heap.size) (R : RdA wr g A c B pos 0) (hbl : Below w.heap.size w wr)
    (hb2 : Below (wr.setCell ⟨g, 2, none⟩ (.int .i64 e)).heap.size (wr.setCell ⟨g, 2, none⟩ (.int .i64 e)) w2) (he : nErr (B.drop pos) most = e) (h0 : e ≠ 0) :
    RetPk g A c B pos most w (.returned (.tuple #[.int .i64 0, .int .i64 pos])) w2 := by
  have hz : (wr.setCell ⟨g, 2, none⟩ (.int .i64 e)).heap.size = wr.heap.size := by simp [World.setCell]
  refine ⟨?_, ?_, ?_⟩
  · rw [nVal_bad (by omega), nLen_bad (by omega)]; rfl
  · rw [he]; exact (R.store2 e).kept (q := none) (.of_below hb2) (fun _ h => by cases h)
  · exact ((Kept.of_below hbl).setCell (.inr rfl) _).then_below hb2 (by rw [hz]; exact hbl.size)
theorem RetPk.good {g : Nat} {A : Option Addr} {c : Nat} {B : List UInt8} {pos k m v : Nat} {most : Int} {w wr w2 : World} (R : RdA wr g A c B pos 0) (hbl : Below w.heap.size w wr)
    (hb2 : Below wr.heap.size wr w2) (he : nErr (B.drop pos) most = 0) (hV : nxV 6 (B.drop pos) = v) (hK : nxK 6 (B.drop pos) = k + 1) (hm : m = pos + k) :
    RetPk g A c B pos most w (.returned (.tuple #[.int .i64 v, .int .i64 ((m : Int) + 1)])) w2 := by
  refine ⟨?_, ?_, ?_⟩
  · rw [nVal_ok he, nLen_ok he, hV, hK, hm]
    have : (((pos + (k + 1) : Nat)) : Int) = ((pos + k : Nat) : Int) + 1 := by omega
    rw [this]
  · rw [he]; exact R.kept (q := none) (.of_below hb2) (fun _ h => by cases h)
  · exact (Kept.of_below hbl).then_below hb2 hbl.size
set_option maxHeartbeats 1000000 in
set_option maxRecDepth 4000 in
theorem c_octet_peek (g : Nat) (A : Option Addr) (c : Nat) (B : List UInt8) (pos : Nat) (most : Int) (w : World) (h : RdA w g A c B pos 0) :
    Calls Tryd.prog 80 #[ptr (some g), .int .i64 most] w (RetPk g A c B pos most w) := by
  have hL := h.2.1
  have hC := h.2.2.1
  have hC' := h.2.2.2.1
  have hS := h.2.2.2.2.1
  change Calls _ _ #[.pointer (some ⟨g, 0, none⟩), .int .i64 most] _ _
  go_enter Tryd.func80, Tryd.ntmps80
  go_wp2_with (fail)
  go_loopw [6, 9] (fun v i wr => ∃ k acc : Nat, Hid (Peek (B.drop pos) k acc) ∧ k ≤ 6 ∧ pos + k ≤ B.length ∧ i = .int .i64 k ∧ v = .int .i64 acc ∧ Hid (RdA wr g A c B pos 0) ∧ Below w.heap.size w wr)
    (fun _ i _ => 6 - (intOf i).toNat)
  case atStart => exact ⟨0, 0, Peek.start _, by omega, by omega, rfl, rfl, h, (by repeat (first | exact Below.refl _ _ | refine Below.drew ?_ | refine Below.alloc ?_ (by first | omega | (simp; done) | (simp; omega)) _ | refine Below.setCell ?_ (by first | omega | (simp; done) | (simp; omega)) _ | refine Below.trans ?_ (Below.mono (by assumption) (by first | omega | (simp; done) | (simp; omega)))))⟩
  case round =>
    obtain ⟨k, acc, hp, hk6, hkl, rfl, rfl, R, hbl⟩ := hrel
    have hgl := R.out.1.lt
    have hbz := hbl.size
    have f2 := R.out.1.frozen 2
    have c0 : wr.cell? ⟨g, 0, none⟩ = some (.slice A B.length c) := R.out.1.cell rfl
    have c1 : wr.cell? ⟨g, 1, none⟩ = some (.int .i64 pos) := R.out.1.cell rfl
    have c2 : wr.cell? ⟨g, 2, none⟩ = some (.int .i64 0) := R.out.1.cell rfl
    clear h
    by_cases h6 : k = 6
    · subst h6
      have he : Hid (nErr (B.drop pos) most = 3) := by show _ = _; rw [nErr_def, hp.out.full]; rfl
      go_wp2_with (fail)
      refine wp_region_grow (by kernel_rfl) (by kernel_rfl) ?_
      repeat (quiet_step ((first | (fail))))
      refine wpQuiet_nil ?_
      intro w2 hb2
      go_wp2_with (fail)
      go_ret2
      exact RetPk.bad hgl R.out hbl hb2 he.out (by omega)
    · have hlt : k < 6 := by omega
      have hd : decide ((k : Int) < 6) = true := by simp; omega
      obtain ⟨m, hm⟩ : ∃ m, m = pos + k := ⟨_, rfl⟩
      have hml : m ≤ B.length := by omega
      have hw : IntKind.i64.wrap ((pos : Int) + (k : Int)) = (m : Int) := by rw [IntWalk.i64_in _ (by omega)]; omega
      have Hm := lh hm
      clear hm
      by_cases hl : m = B.length
      · have he : Hid (nErr (B.drop pos) most = 2) := by show _ = _; rw [nErr_def, hp.out.short hlt (by rw [List.length_drop]; have := Hm.out; omega)]; rfl
        subst hl
        go_wp2_with (fail)
        refine wp_region_grow (by kernel_rfl) (by kernel_rfl) ?_
        repeat (quiet_step ((first | (fail))))
        refine wpQuiet_nil ?_
        intro w2 hb2
        have q2 := fun o => hb2.cell (p := ⟨g, o, none⟩) hgl
        have qf := (hb2.frozen (p := ⟨g, 2, none⟩) hgl).trans f2
        have hg2 : g < w2.heap.size := Nat.lt_of_lt_of_le hgl hb2.size
        clear f2
        go_wp2_with (fail)
        refine wp_region_grow (by kernel_rfl) (by kernel_rfl) ?_
        repeat (quiet_step ((first | (fail))))
        refine wpQuiet_nil ?_
        intro w3 hb3
        go_wp2_with (fail)
        go_ret2
        exact RetPk.bad (Nat.lt_of_lt_of_le hgl hb2.size) (R.out.kept (q := none) (.of_below hb2) (fun _ h => by cases h)) (hbl.trans (hb2.mono hbz)) hb3 he.out (by omega)
      · have hlt2 : m < B.length := by omega
        have hd2 : decide (B.length ≤ m) = false := by simp; omega
        clear hl
        obtain ⟨b, off, rfl, hbg, hrow⟩ := R.out.2.2.2.2.2.resolve_left (fun e => by subst e; simp at hlt2)
        have e0 : wr.cell? ⟨b, off + m, none⟩ = some (.int .u8 B[m].toNat) := by have := hrow m hlt2 0 _ rfl; simpa using this
        go_wp2_with (fail)
        refine wp_region_grow (by kernel_rfl) (by kernel_rfl) ?_
        repeat (quiet_step ((first | (fail))))
        refine wpQuiet_nil ?_
        intro w2 hb2
        have q2 := fun o => hb2.cell (p := ⟨g, o, none⟩) hgl
        have q3 := fun o => hb2.cell (p := ⟨b, o, none⟩) (by show b < _; omega)
        have qf := (hb2.frozen (p := ⟨g, 2, none⟩) hgl).trans f2
        have hg2 : g < w2.heap.size := Nat.lt_of_lt_of_le hgl hb2.size
        have hbb2 : b < w2.heap.size := by omega
        have hm0 : (0 : Int) ≤ (m : Int) := by omega
        have hm1 : (m : Int) < (B.length : Int) := by omega
        go_wp2_with (fail)
        refine wp_region_grow (by kernel_rfl) (by kernel_rfl) ?_
        repeat (quiet_step ((first | (fail))))
        refine wpQuiet_nil ?_
        intro w3 hb3
        have q4 := fun o => hb3.cell (p := ⟨g, o, none⟩) hg2
        have qf3 := (hb3.frozen (p := ⟨g, 2, none⟩) hg2).trans qf
        have hg3 : g < w3.heap.size := Nat.lt_of_lt_of_le hg2 hb3.size
        obtain ⟨d, hdm⟩ : ∃ d, d = B[m].toNat := ⟨_, rfl⟩
        have hd256 : d < 256 := by rw [hdm]; exact B[m].toNat_lt
        rw [← hdm]
        have Hdm := lh hdm
        clear hdm e0 c0 hrow qf f2 q3
        have hor := peek_or acc d k (by omega) hp.out.2.2.1 hd256
        have hw1 : IntKind.i64.wrap ((m : Int) + 1) = (m : Int) + 1 := IntWalk.i64_in _ (by omega)
        have hk' : k < (B.drop pos).length := by rw [List.length_drop]; have := Hm.out; omega
        have hdk : Hid ((B.drop pos)[k].toNat = d) := by show _ = _; rw [Hdm.out, List.getElem_drop]; congr 2; exact Hm.out.symm
        have hb23 := hbl.trans ((hb2.trans (hb3.mono hb2.size)).mono hbz)
        have R3 := lh (R.out.kept (q := none) (.of_below (hb2.trans (hb3.mono hb2.size))) (fun _ h => by cases h))
        clear hb2 hb3 R hbl
        by_cases h128 : 128 ≤ d
        · have hd3 : decide (d < 128) = false := by simp; omega
          have hp2 := hp.out.next hlt hk' (by rw [hdk.out]; exact h128)
          rw [hdk.out] at hp2
          have Hp2 := lh hp2
          clear hp2 hp
          go_wp2_with (fail)
          go_roundw
          case rel => exact ⟨k + 1, _, Hp2.out, by omega, by have := Hm.out; omega, by go_num, rfl, R3.out, hb23⟩
          case measure => simp [intOf]; omega
        · have hd3 : decide (d < 128) = true := by simp; omega
          have hdone := fun h => hp.out.done hlt hk' (by rw [hdk.out]; omega) h
          rw [hdk.out] at hdone
          have hd128 : d % 128 = d := Nat.mod_eq_of_lt (by omega)
          rw [hd128] at hor
          obtain ⟨v, hv⟩ : ∃ v, v = acc + d * 128 ^ k := ⟨_, rfl⟩
          rw [← hv] at hor hdone
          clear hd128
          have hvl : v < 128 ^ 6 := by
            have h1 := hp.out.2.2.1
            have h2 : 128 ^ k ≤ 128 ^ 5 := Nat.pow_le_pow_right (by omega) (by omega)
            have h3 : d * 128 ^ k ≤ 127 * 128 ^ k := Nat.mul_le_mul_right _ (by omega)
            omega
          by_cases hz : d = 0 ∧ 0 < k
          · have he : Hid (nErr (B.drop pos) most = 3) := by show _ = _; rw [nErr_def, hp.out.zero hlt hk' (by rw [hdk.out]; exact hz.1) hz.2]; rfl
            have hk0' : decide (0 < k) = true := by simp; omega
            obtain ⟨rfl, hk0⟩ := hz
            clear hv hdone hvl
            go_wp2_with (fail)
            refine wp_region_grow (by kernel_rfl) (by kernel_rfl) ?_
            repeat (quiet_step ((first | (fail))))
            refine wpQuiet_nil ?_
            intro w4 hb4
            go_wp2_with (fail)
            go_ret2
            exact RetPk.bad hg3 R3.out hb23 hb4 he.out (by omega)
          · obtain ⟨hE, hV, hK⟩ := hdone (by omega)
            have he : Hid (nErr (B.drop pos) most = if 1099511627776 < v ∨ most < (v : Int) then 4 else 0) := by show _ = _; rw [nErr_def, hE, hV]; rfl
            have HV := lh hV
            have HK := lh hK
            have Hv := lh hv
            clear hE hV hK hdone hv hvl
            have hz0 : (decide (d = 0) && decide (0 < k)) = false := by
              rw [Bool.and_eq_false_iff]; simp; omega
            by_cases hlong : 1099511627776 < v ∨ most < (v : Int)
            · have he4 := lh (he.out.trans (if_pos hlong))
              have hl2 : (decide (1099511627776 < (v : Int)) || decide (most < (v : Int))) = true := by
                rw [Bool.or_eq_true]; simp; omega
              clear he hlong
              go_wp2_with (fail)
              all_goals
                refine wp_region_grow (by kernel_rfl) (by kernel_rfl) ?_
                repeat (quiet_step ((first | (fail))))
                refine wpQuiet_nil ?_
                intro w4 hb4
                go_wp2_with (fail)
                go_ret2
                exact RetPk.bad hg3 R3.out hb23 hb4 he4.out (by omega)
            · have he0 := lh (he.out.trans (if_neg hlong))
              have hl2 : decide (1099511627776 < (v : Int)) = false := by simp; omega
              have hl3 : decide (most < (v : Int)) = false := by simp; omega
              clear he hlong
              go_wp2_with (fail)
              all_goals
                refine wp_region_grow (by kernel_rfl) (by kernel_rfl) ?_
                repeat (quiet_step ((first | (fail))))
                refine wpQuiet_nil ?_
                intro w4 hb4
                go_wp2_with (fail)
                go_ret2
                exact RetPk.good R3.out hb23 hb4 he0.out HV.out HK.out Hm.out
end Go.Proofs.YtiedkcijjfmhaaaDoor
