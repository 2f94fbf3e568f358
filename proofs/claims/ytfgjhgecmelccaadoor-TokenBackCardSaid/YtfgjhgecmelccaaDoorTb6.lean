/-
  Lemmas (walks and plain laws), in one text.
-/
import Derived.Test.YtfgjhgecmelccaaDoorTb5
import Derived.Test.YtfgjhgecmelccaaDoorRows
import Derived.WalkKit
import Derived.WalkSpells
import Derived.WalkLawsBesides
import Derived.Lib.Hide
import Derived.Deep.QuietTactic
import Derived.BigQuiet
import Derived.Maps.AppendAt
import Derived.WalkSmall
import Derived.ProofKit
import Derived.OpenShut
import Derived.JoinedCond
import Derived.Deep.Slices
import Derived.Deep.Fields
import Derived.Carry
import Derived.HandedShaped
import Derived.Shelf.Strings.Builder1
import Derived.Shelf.Strings.Builder2
import Derived.Shelf.Strings.OnBuilder
import Derived.Shelf.Small.Wraps
import Derived.Shelf.Utf8.RuneCount
import Derived.Shelf.Strconv.Itoa0
import Derived.Shelf.Strconv.Itoa1
import Derived.Shelf.LaysM
import Derived.Shelf.Strconv.Itoa2
import Derived.Shelf.Strconv.Itoa3
import Derived.Shelf.Strings.Search1
import Derived.Shelf.Strings.Search2
import Derived.Shelf.Strings.Search3
import Derived.Shelf.Strings.Count
import Derived.Shelf.Strings.Shaped
import Derived.Shelf.Strings.Split
import Derived.Shelf.Strings.SplitShaped
import Derived.Shelf.Unicode.Decode
import Derived.Shelf.Strings.RuneCount
import Derived.Shelf.Strings.Explode
import Derived.Shelf.Unicode.DecodeSlow
import Derived.Test.YtfgjhgecmelccaaDoorProg
import Derived.Deep.AppendSrc
import Derived.Lib.AppendStr
import Derived.Laws.BytesArg
import Derived.Lib.AppendIntMem
import Derived.Lib.ItoaLen
import Derived.Lib.TrailingZeros
import Derived.Lib.SplitLaws
import Derived.Lib.ItoaNum
import Derived.Shelf.Strings.PiecesUse
import Derived.Shelf.Spec.TrailingZeros
import Derived.RangeFuncNested
import Derived.RangeFuncBound
import Derived.RangeFuncCalls
import Derived.RangeFuncLeaves
import Derived.Shelf.Abstract
import Derived.Shelf.RegionOpen
import Derived.OwnWalkIn
import Derived.TacticsInMore
import Derived.LoopNIn
import Derived.LoopIn
import Derived.Test.YtfgjhgecmelccaaDoorTie
import Derived.Lib.LaidTab
import Derived.LaidMore
import Derived.Lay
import Derived.Stop.LaidErr
import Derived.SevenTiedAt
import Derived.Test.YtfgjhgecmelccaaDoorCards
import Derived.Deep.CutBlock
import Derived.Deep.DeepCutAuto
import Derived.Laws.Tables
import Derived.Laws.Rows
import Derived.Laws.CopyOwn
import Derived.Outline
import Derived.IntWalk
import Derived.Lib.EndianBits
import Derived.StillTail
import Derived.Laws.IdiomStrings
import Derived.ChangeKeysEq
import Derived.Laws.StructEq
namespace Go.Proofs.YtfgjhgecmelccaaDoor
open Go.RowKit

/-- peek's end: what it answers, and what the reader is then. -/
def RetPk (g : Nat) (A : Option Addr) (c : Nat) (B : List UInt8) (pos : Nat) (most : Int) (w : World) (e : Ending) (w' : World) : Prop :=
  e = .returned (.tuple #[.int .i64 (nVal (B.drop pos) most), .int .i64 ((pos + nLen (B.drop pos) most : Nat) : Int)]) ∧ RdA w' g A c B pos (nErr (B.drop pos) most) ∧ Kept (some g) w.heap.size w w'

theorem wrap64_id (n : Int) (h0 : 0 ≤ n) (h1 : n < 9223372036854775808) : wrap64 n = n := by unfold wrap64; omega
theorem peek_or (acc d k : Nat) (hk : k ≤ 5) (ha : acc < 128 ^ k) (hd : d < 256) :
    bits .or .i64 (acc : Int) (wrap64 (wrap64 (bits .and .u8 (d : Int) 127) * 2 ^ (7 * k))) = ((acc + d % 128 * 128 ^ k : Nat) : Int) := by
  have h1 := u8_and_nat d 127 hd (by omega)
  rw [Nat.and_two_pow_sub_one_eq_mod d 7] at h1
  have hm : d % 128 < 128 := Nat.mod_lt _ (by omega)
  have e : bits .and .u8 (d : Int) 127 = ((d % 128 : Nat) : Int) := h1
  rw [e, wrap64_id ((d % 128 : Nat) : Int) (by omega) (by omega)]
  have hwr : ∀ n : Int, 0 ≤ n → n < 2 ^ 63 → IntKind.i64.wrap n = n := fun n h0 h1 => IntWalk.i64_in _ (by omega)
  generalize d % 128 = x at *
  have key : ∀ (i : Nat) (p : Nat), (2 : Int) ^ i = p → i ≤ 35 → (p : Int) ≤ 34359738368 → acc < p → bits .or .i64 (acc : Int) (wrap64 ((x : Int) * 2 ^ i)) = ((acc + x * p : Nat) : Int) := by
    intro i p hp hi hpl hap
    have hx0 : x * p ≤ 127 * 34359738368 := Nat.mul_le_mul (by omega) (by omega)
    have hx1 : (x : Int) * (p : Int) = ((x * p : Nat) : Int) := by simp
    rw [hp, hx1, wrap64_id _ (by omega) (by omega)]
    rw [bits_join_low .i64 63 (by decide) hwr i _ _ (by omega) (by rw [hp]; omega) (by omega) (by omega) (by rw [hp, ← hx1]; exact Int.mul_emod_left _ _) (by omega)]
    simp
  rcases (show k = 0 ∨ k = 1 ∨ k = 2 ∨ k = 3 ∨ k = 4 ∨ k = 5 by omega) with rfl | rfl | rfl | rfl | rfl | rfl
  · exact key 0 1 rfl (by omega) (by omega) (by simpa using ha)
  · exact key 7 128 rfl (by omega) (by omega) (by simpa using ha)
  · exact key 14 16384 rfl (by omega) (by omega) (by simpa using ha)
  · exact key 21 2097152 rfl (by omega) (by omega) (by simpa using ha)
  · exact key 28 268435456 rfl (by omega) (by omega) (by simpa using ha)
  · exact key 35 34359738368 rfl (by omega) (by omega) (by simpa using ha)
theorem RetPk.bad {g : Nat} {A : Option Addr} {c : Nat} {B : List UInt8} {pos : Nat} {most : Int} {w wr w2 : World} {e : Int} (_hgl : g < wr.heap.size) (R : RdA wr g A c B pos 0) (hbl : Below w.heap.size w wr)
    (hb2 : Below (wr.setCell ⟨g, 2, none⟩ (.int .i64 e)).heap.size (wr.setCell ⟨g, 2, none⟩ (.int .i64 e)) w2) (he : nErr (B.drop pos) most = e) (h0 : e ≠ 0) :
    RetPk g A c B pos most w (.returned (.tuple #[.int .i64 0, .int .i64 pos])) w2 := by
  have hz : (wr.setCell ⟨g, 2, none⟩ (.int .i64 e)).heap.size = wr.heap.size := by simp [World.setCell]
  refine ⟨?_, ?_, ?_⟩
  · rw [nVal_bad (by omega), nLen_bad (by omega)]; rfl
  · rw [he]; exact (R.store2 e).kept (q := none) (.of_below hb2) (fun _ h => by cases h)
  · exact ((Kept.of_below hbl).setCell (.inr rfl) _).then_below hb2 (by rw [hz]; exact hbl.size)
theorem RetPk.good {g : Nat} {A : Option Addr} {c : Nat} {B : List UInt8} {pos k m v : Nat} {most : Int} {w wr w2 : World} (R : RdA wr g A c B pos 0) (hbl : Below w.heap.size w wr)
    (hb2 : Below wr.heap.size wr w2) (he : nErr (B.drop pos) most = 0) (hV : nxV 6 (B.drop pos) = v) (hK : nxK 6 (B.drop pos) = k + 1) (hm : m = pos + k) :
    RetPk g A c B pos most w (.returned (.tuple #[.int .i64 v, .int .i64 ((m : Int) + 1)])) w2 := by
  refine ⟨?_, ?_, ?_⟩
  · rw [nVal_ok he, nLen_ok he, hV, hK, hm]
    have : (((pos + (k + 1) : Nat)) : Int) = ((pos + k : Nat) : Int) + 1 := by omega
    rw [this]
  · rw [he]; exact R.kept (q := none) (.of_below hb2) (fun _ h => by cases h)
  · exact (Kept.of_below hbl).then_below hb2 hbl.size
set_option maxHeartbeats 1000000 in
set_option maxRecDepth 4000 in
theorem c_octet_peek (g : Nat) (A : Option Addr) (c : Nat) (B : List UInt8) (pos : Nat) (most : Int) (w : World) (h : RdA w g A c B pos 0) :
    Calls Tryd.prog 136 #[ptr (some g), .int .i64 most] w (RetPk g A c B pos most w) := by
  have hL := h.2.1
  have hC := h.2.2.1
  have hC' := h.2.2.2.1
  have hS := h.2.2.2.2.1
  change Calls _ _ #[.pointer (some ⟨g, 0, none⟩), .int .i64 most] _ _
  go_enter Tryd.func136, Tryd.ntmps136
  go_wp2_with (fail)
  go_loopw [6, 9] (fun v i wr => ∃ k acc : Nat, Hid (Peek (B.drop pos) k acc) ∧ k ≤ 6 ∧ pos + k ≤ B.length ∧ i = .int .i64 k ∧ v = .int .i64 acc ∧ Hid (RdA wr g A c B pos 0) ∧ Below w.heap.size w wr)
    (fun _ i _ => 6 - (intOf i).toNat)
  case atStart => exact ⟨0, 0, Peek.start _, by omega, by omega, rfl, rfl, h, (by repeat (first | exact Below.refl _ _ | refine Below.drew ?_ | refine Below.alloc ?_ (by first | omega | (simp; done) | (simp; omega)) _ | refine Below.setCell ?_ (by first | omega | (simp; done) | (simp; omega)) _ | refine Below.trans ?_ (Below.mono (by assumption) (by first | omega | (simp; done) | (simp; omega)))))⟩
  case round =>
    obtain ⟨k, acc, hp, hk6, hkl, rfl, rfl, R, hbl⟩ := hrel
    have hgl := R.out.1.lt
    have hbz := hbl.size
    have f2 := R.out.1.frozen 2
    have c0 : wr.cell? ⟨g, 0, none⟩ = some (.slice A B.length c) := R.out.1.cell rfl
    have c1 : wr.cell? ⟨g, 1, none⟩ = some (.int .i64 pos) := R.out.1.cell rfl
    have c2 : wr.cell? ⟨g, 2, none⟩ = some (.int .i64 0) := R.out.1.cell rfl
    clear h
    by_cases h6 : k = 6
    · subst h6
      have he : Hid (nErr (B.drop pos) most = 3) := by show _ = _; rw [nErr_def, hp.out.full]; rfl
      go_wp2_with (fail)
      refine wp_region_grow (by kernel_rfl) (by kernel_rfl) ?_
      repeat (quiet_step ((first | (fail))))
      refine wpQuiet_nil ?_
      intro w2 hb2
      go_wp2_with (fail)
      go_ret2
      exact RetPk.bad hgl R.out hbl hb2 he.out (by omega)
    · have hlt : k < 6 := by omega
      have hd : decide ((k : Int) < 6) = true := by simp; omega
      obtain ⟨m, hm⟩ : ∃ m, m = pos + k := ⟨_, rfl⟩
      have hml : m ≤ B.length := by omega
      have hw : IntKind.i64.wrap ((pos : Int) + (k : Int)) = (m : Int) := by rw [IntWalk.i64_in _ (by omega)]; omega
      have Hm := Lib.hid hm
      clear hm
      by_cases hl : m = B.length
      · have he : Hid (nErr (B.drop pos) most = 2) := by show _ = _; rw [nErr_def, hp.out.short hlt (by rw [List.length_drop]; have := Hm.out; omega)]; rfl
        subst hl
        go_wp2_with (fail)
        refine wp_region_grow (by kernel_rfl) (by kernel_rfl) ?_
        repeat (quiet_step ((first | (fail))))
        refine wpQuiet_nil ?_
        intro w2 hb2
        have q2 := fun o => hb2.cell (p := ⟨g, o, none⟩) hgl
        have qf := (hb2.frozen (p := ⟨g, 2, none⟩) hgl).trans f2
        have hg2 : g < w2.heap.size := Nat.lt_of_lt_of_le hgl hb2.size
        clear f2
        go_wp2_with (fail)
        refine wp_region_grow (by kernel_rfl) (by kernel_rfl) ?_
        repeat (quiet_step ((first | (fail))))
        refine wpQuiet_nil ?_
        intro w3 hb3
        go_wp2_with (fail)
        go_ret2
        exact RetPk.bad (Nat.lt_of_lt_of_le hgl hb2.size) (R.out.kept (q := none) (.of_below hb2) (fun _ h => by cases h)) (hbl.trans (hb2.mono hbz)) hb3 he.out (by omega)
      · have hlt2 : m < B.length := by omega
        have hd2 : decide (B.length ≤ m) = false := by simp; omega
        clear hl
        obtain ⟨b, off, rfl, hbg, hrow⟩ := R.out.2.2.2.2.2.resolve_left (fun e => by subst e; simp at hlt2)
        have e0 : wr.cell? ⟨b, off + m, none⟩ = some (.int .u8 B[m].toNat) := by have := hrow m hlt2 0 _ rfl; simpa using this
        go_wp2_with (fail)
        refine wp_region_grow (by kernel_rfl) (by kernel_rfl) ?_
        repeat (quiet_step ((first | (fail))))
        refine wpQuiet_nil ?_
        intro w2 hb2
        have q2 := fun o => hb2.cell (p := ⟨g, o, none⟩) hgl
        have q3 := fun o => hb2.cell (p := ⟨b, o, none⟩) (by show b < _; omega)
        have qf := (hb2.frozen (p := ⟨g, 2, none⟩) hgl).trans f2
        have hg2 : g < w2.heap.size := Nat.lt_of_lt_of_le hgl hb2.size
        have hbb2 : b < w2.heap.size := by omega
        have hm0 : (0 : Int) ≤ (m : Int) := by omega
        have hm1 : (m : Int) < (B.length : Int) := by omega
        go_wp2_with (fail)
        refine wp_region_grow (by kernel_rfl) (by kernel_rfl) ?_
        repeat (quiet_step ((first | (fail))))
        refine wpQuiet_nil ?_
        intro w3 hb3
        have q4 := fun o => hb3.cell (p := ⟨g, o, none⟩) hg2
        have qf3 := (hb3.frozen (p := ⟨g, 2, none⟩) hg2).trans qf
        have hg3 : g < w3.heap.size := Nat.lt_of_lt_of_le hg2 hb3.size
        obtain ⟨d, hdm⟩ : ∃ d, d = B[m].toNat := ⟨_, rfl⟩
        have hd256 : d < 256 := by rw [hdm]; exact B[m].toNat_lt
        rw [← hdm]
        have Hdm := Lib.hid hdm
        clear hdm e0 c0 hrow qf f2 q3
        have hor := peek_or acc d k (by omega) hp.out.2.2.1 hd256
        have hw1 : IntKind.i64.wrap ((m : Int) + 1) = (m : Int) + 1 := IntWalk.i64_in _ (by omega)
        have hk' : k < (B.drop pos).length := by rw [List.length_drop]; have := Hm.out; omega
        have hdk : Hid ((B.drop pos)[k].toNat = d) := by show _ = _; rw [Hdm.out, List.getElem_drop]; congr 2; exact Hm.out.symm
        have hb23 := hbl.trans ((hb2.trans (hb3.mono hb2.size)).mono hbz)
        have R3 := Lib.hid (R.out.kept (q := none) (.of_below (hb2.trans (hb3.mono hb2.size))) (fun _ h => by cases h))
        clear hb2 hb3 R hbl
        by_cases h128 : 128 ≤ d
        · have hd3 : decide (d < 128) = false := by simp; omega
          have hp2 := hp.out.next hlt hk' (by rw [hdk.out]; exact h128)
          rw [hdk.out] at hp2
          have Hp2 := Lib.hid hp2
          clear hp2 hp
          go_wp2_with (fail)
          go_roundw
          case rel => exact ⟨k + 1, _, Hp2.out, by omega, by have := Hm.out; omega, by go_num, rfl, R3.out, hb23⟩
          case measure => simp [intOf]; omega
        · have hd3 : decide (d < 128) = true := by simp; omega
          have hdone := fun h => hp.out.done hlt hk' (by rw [hdk.out]; omega) h
          rw [hdk.out] at hdone
          have hd128 : d % 128 = d := Nat.mod_eq_of_lt (by omega)
          rw [hd128] at hor
          obtain ⟨v, hv⟩ : ∃ v, v = acc + d * 128 ^ k := ⟨_, rfl⟩
          rw [← hv] at hor hdone
          clear hd128
          have hvl : v < 128 ^ 6 := by
            have h1 := hp.out.2.2.1
            have h2 : 128 ^ k ≤ 128 ^ 5 := Nat.pow_le_pow_right (by omega) (by omega)
            have h3 : d * 128 ^ k ≤ 127 * 128 ^ k := Nat.mul_le_mul_right _ (by omega)
            omega
          by_cases hz : d = 0 ∧ 0 < k
          · have he : Hid (nErr (B.drop pos) most = 3) := by show _ = _; rw [nErr_def, hp.out.zero hlt hk' (by rw [hdk.out]; exact hz.1) hz.2]; rfl
            have hk0' : decide (0 < k) = true := by simp; omega
            obtain ⟨rfl, hk0⟩ := hz
            clear hv hdone hvl
            go_wp2_with (fail)
            refine wp_region_grow (by kernel_rfl) (by kernel_rfl) ?_
            repeat (quiet_step ((first | (fail))))
            refine wpQuiet_nil ?_
            intro w4 hb4
            go_wp2_with (fail)
            go_ret2
            exact RetPk.bad hg3 R3.out hb23 hb4 he.out (by omega)
          · obtain ⟨hE, hV, hK⟩ := hdone (by omega)
            have he : Hid (nErr (B.drop pos) most = if 1099511627776 < v ∨ most < (v : Int) then 4 else 0) := by show _ = _; rw [nErr_def, hE, hV]; rfl
            have HV := Lib.hid hV
            have HK := Lib.hid hK
            have Hv := Lib.hid hv
            clear hE hV hK hdone hv hvl
            have hz0 : (decide (d = 0) && decide (0 < k)) = false := by
              rw [Bool.and_eq_false_iff]; simp; omega
            by_cases hlong : 1099511627776 < v ∨ most < (v : Int)
            · have he4 := Lib.hid (he.out.trans (if_pos hlong))
              have hl2 : (decide (1099511627776 < (v : Int)) || decide (most < (v : Int))) = true := by
                rw [Bool.or_eq_true]; simp; omega
              clear he hlong
              go_wp2_with (fail)
              all_goals
                refine wp_region_grow (by kernel_rfl) (by kernel_rfl) ?_
                repeat (quiet_step ((first | (fail))))
                refine wpQuiet_nil ?_
                intro w4 hb4
                go_wp2_with (fail)
                go_ret2
                exact RetPk.bad hg3 R3.out hb23 hb4 he4.out (by omega)
            · have he0 := Lib.hid (he.out.trans (if_neg hlong))
              have hl2 : decide (1099511627776 < (v : Int)) = false := by simp; omega
              have hl3 : decide (most < (v : Int)) = false := by simp; omega
              clear he hlong
              go_wp2_with (fail)
              all_goals
                refine wp_region_grow (by kernel_rfl) (by kernel_rfl) ?_
                repeat (quiet_step ((first | (fail))))
                refine wpQuiet_nil ?_
                intro w4 hb4
                go_wp2_with (fail)
                go_ret2
                exact RetPk.good R3.out hb23 hb4 he0.out HV.out HK.out Hm.out
end Go.Proofs.YtfgjhgecmelccaaDoor
namespace Go.Proofs.YtfgjhgecmelccaaDoor
open Go.RowKit

theorem RdP.nil {w : World} {st : Rd} (h : RdP w none st) : st = ⟨[], 1⟩ := by
  rcases h with ⟨_, h⟩ | ⟨g, _, _, _, _, h, _⟩
  · exact h
  · cases h
theorem RdP.at {w : World} {g : Nat} {st : Rd} (h : RdP w (some g) st) : ∃ A c B pos, RdA w g A c B pos st.e ∧ st.s = B.drop pos := by
  rcases h with ⟨h, _⟩ | ⟨g', A, c, B, pos, h, ha, hs⟩
  · cases h
  · injection h with h; subst h; exact ⟨A, c, B, pos, ha, hs⟩
theorem RdP.mk {w : World} {g : Nat} {A : Option Addr} {c : Nat} {B : List UInt8} {pos : Nat} {st : Rd} (ha : RdA w g A c B pos st.e) (hs : st.s = B.drop pos) : RdP w (some g) st := .inr ⟨g, A, c, B, pos, rfl, ha, hs⟩
theorem RdP.nilmk (w : World) : RdP w none ⟨[], 1⟩ := .inl ⟨rfl, rfl⟩
theorem RetP.nil {w w' : World} {st' : Rd} {v : Value} (h : st' = ⟨[], 1⟩) (hb : Below w.heap.size w w') : RetP none st' w v (.returned v) w' := by subst h; exact ⟨rfl, RdP.nilmk _, .of_below hb⟩
theorem RetP.same {w w' : World} {p : Option Nat} {st : Rd} {v : Value} (h : RdP w p st) (hb : Below w.heap.size w w') : RetP p st w v (.returned v) w' := ⟨rfl, h.below hb, .of_below hb⟩

/-- The nil reader, or the one at g. -/
theorem RdA.fail {w : World} {g : Nat} {A : Option Addr} {c : Nat} {B : List UInt8} {pos : Nat} {st : Rd} {e : Int} (ha : RdA w g A c B pos st.e) (hs : st.s = B.drop pos) : RdP (w.setCell ⟨g, 2, none⟩ (.int .i64 e)) (some g) ⟨st.s, e⟩ ∧ Kept (some g) w.heap.size w (w.setCell ⟨g, 2, none⟩ (.int .i64 e)) :=
  ⟨RdP.mk (ha.store2 e) hs, (Kept.refl _ _ _).setCell (q := ⟨g, 2, none⟩) (.inr rfl) _⟩
set_option maxHeartbeats 400000 in
theorem c_octet_Err (p : Option Nat) (st : Rd) (w : World) (h : RdP w p st) : Calls Tryd.prog 25 #[ptr p] w (RetP p st w (.int .i64 st.e)) := by
  rcases p with _ | g
  · have hs := h.nil
    subst hs
    rw [ptr_none]
    go_enter Tryd.func25, Tryd.ntmps25
    go_wp2_with (fail)
    go_ret
    exact RetP.same h (by repeat (first | exact Below.refl _ _ | refine Below.drew ?_ | refine Below.alloc ?_ (by first | omega | (simp; done) | (simp; omega)) _ | refine Below.setCell ?_ (by first | omega | (simp; done) | (simp; omega)) _ | refine Below.trans ?_ (Below.mono (by assumption) (by first | omega | (simp; done) | (simp; omega)))))
  · obtain ⟨A, c, B, pos, ha, hs⟩ := h.at
    have c2 : w.cell? ⟨g, 2, none⟩ = some (.int .i64 st.e) := ha.1.cell rfl
    have Hs := Lib.hid hs
    clear hs
    rw [ptr_some]
    go_enter Tryd.func25, Tryd.ntmps25
    go_wp2_with (fail)
    go_ret
    exact RetP.same h (by repeat (first | exact Below.refl _ _ | refine Below.drew ?_ | refine Below.alloc ?_ (by first | omega | (simp; done) | (simp; omega)) _ | refine Below.setCell ?_ (by first | omega | (simp; done) | (simp; omega)) _ | refine Below.trans ?_ (Below.mono (by assumption) (by first | omega | (simp; done) | (simp; omega)))))
/-- Nothing is handed back; the program's reader is then st'. -/
def RetF (p : Option Nat) (st' : Rd) (w : World) (e : Ending) (w' : World) : Prop := e = .returned (.tuple #[]) ∧ RdP w' p st' ∧ Kept p w.heap.size w w'
set_option maxHeartbeats 400000 in
theorem c_octet_Fail (p : Option Nat) (st : Rd) (e : Int) (w : World) (h : RdP w p st) : Calls Tryd.prog 82 #[ptr p, .int .i64 e] w (RetF p (rdF st e) w) := by
  rcases p with _ | g
  · have hs := h.nil
    subst hs
    rw [ptr_none, rdF_err (by decide)]
    go_enter Tryd.func82, Tryd.ntmps82
    go_wp2_with (fail)
    go_end0
    exact ⟨rfl, RdP.nilmk _, Kept.refl _ _ _⟩
  · obtain ⟨A, c, B, pos, ha, hs⟩ := h.at
    have c2 : w.cell? ⟨g, 2, none⟩ = some (.int .i64 st.e) := ha.1.cell rfl
    have f2 := ha.1.frozen 2
    have hgl := ha.1.lt
    have Hs := Lib.hid hs
    clear hs
    rw [ptr_some]
    by_cases h0 : st.e = 0
    · have hb : (st.e == 0) = true := by simpa using h0
      have hf := rdF_ok (e := e) h0
      have H0 := Lib.hid h0
      rw [hf]
      clear h0 hf
      go_enter Tryd.func82, Tryd.ntmps82
      go_wp2_with (fail)
      go_end0
      exact ⟨rfl, (ha.fail Hs.out).1, (ha.fail Hs.out).2⟩
    · have hb : (st.e == 0) = false := by simpa using h0
      rw [rdF_err h0]
      clear h0
      go_enter Tryd.func82, Tryd.ntmps82
      go_wp2_with (fail)
      go_end0
      exact ⟨rfl, h, Kept.refl _ _ _⟩
set_option maxHeartbeats 400000 in
theorem c_octet_RNum (p : Option Nat) (st : Rd) (most : Int) (w : World) (h : RdP w p st) : Calls Tryd.prog 74 #[ptr p, .int .i64 most] w (RetP p (rdN' st most) w (.int .i64 (rdN st most))) := by
  rcases p with _ | g
  · have hs := h.nil
    subst hs
    rw [ptr_none, (rdN_err (by decide)).1, (rdN_err (by decide)).2]
    go_enter Tryd.func74, Tryd.ntmps74
    go_wp2_with (fail)
    go_ret
    exact RetP.same h (by repeat (first | exact Below.refl _ _ | refine Below.drew ?_ | refine Below.alloc ?_ (by first | omega | (simp; done) | (simp; omega)) _ | refine Below.setCell ?_ (by first | omega | (simp; done) | (simp; omega)) _ | refine Below.trans ?_ (Below.mono (by assumption) (by first | omega | (simp; done) | (simp; omega)))))
  · obtain ⟨A, c, B, pos, ha, hs⟩ := h.at
    have c2 : w.cell? ⟨g, 2, none⟩ = some (.int .i64 st.e) := ha.1.cell rfl
    have Hs := Lib.hid hs
    clear hs
    rw [ptr_some]
    by_cases h0 : st.e = 0
    · have hb : (st.e != 0) = false := by simpa using h0
      have h1 : rdN st most = nVal st.s most := by unfold rdN; rw [if_pos h0]
      have h2 : rdN' st most = ⟨st.s.drop (nLen st.s most), nErr st.s most⟩ := by unfold rdN'; rw [if_pos h0]
      have ha0 : RdA w g A c B pos 0 := by rw [← h0]; exact ha
      rw [h1, h2, Hs.out]
      have H0 := Lib.hid h0
      clear h0 h1 h2
      go_enter Tryd.func74, Tryd.ntmps74
      go_wp2_with (fail)
      refine (c_octet_peek g A c B pos most _ ha0).mono ?_
      rintro e w1 ⟨rfl, hr, hk⟩
      have f1 := hr.1.frozen 1
      have c1 : w1.cell? ⟨g, 1, none⟩ = some (.int .i64 pos) := hr.1.cell rfl
      go_wp2_with (fail)
      go_ret
      refine ⟨rfl, RdP.mk (hr.store1 _ ?_) ?_, hk.setCell (q := ⟨g, 1, none⟩) (.inr rfl) _⟩
      · have := nLen_le (B.drop pos) most
        have := ha0.2.1
        rw [List.length_drop] at *; omega
      · rw [List.drop_drop]
    · have hb : (st.e != 0) = true := by simpa using h0
      rw [(rdN_err h0).1, (rdN_err h0).2]
      clear h0
      go_enter Tryd.func74, Tryd.ntmps74
      go_wp2_with (fail)
      go_ret
      exact RetP.same h (by repeat (first | exact Below.refl _ _ | refine Below.drew ?_ | refine Below.alloc ?_ (by first | omega | (simp; done) | (simp; omega)) _ | refine Below.setCell ?_ (by first | omega | (simp; done) | (simp; omega)) _ | refine Below.trans ?_ (Below.mono (by assumption) (by first | omega | (simp; done) | (simp; omega)))))
theorem RdA.in {w : World} {g : Nat} {A : Option Addr} {c : Nat} {B : List UInt8} {pos : Nat} {e : Int} (ha : RdA w g A c B pos e) : InB w A c B :=
  ⟨ha.2.2.1, ha.2.2.2.1, ha.2.2.2.2.1, ha.2.2.2.2.2.imp id fun ⟨b, off, hA, hb, hr⟩ => ⟨b, off, hA, by have := ha.1.lt; omega, hr⟩⟩
end Go.Proofs.YtfgjhgecmelccaaDoor
namespace Go.Proofs.YtfgjhgecmelccaaDoor
open Go.RowKit

set_option maxHeartbeats 400000 in
theorem c_octet_Left' (p : Option Nat) (st : Rd) (w : World) (h : RdP w p st) : Calls Tryd.prog 26 #[ptr p] w (RetV w (.int .i64 st.s.length)) := by
  rcases p with _ | g
  · have hs := h.nil
    subst hs
    rw [ptr_none]
    go_enter Tryd.func26, Tryd.ntmps26
    go_wp2_with (fail)
    go_ret
    exact RetV.of rfl (by repeat (first | exact Below.refl _ _ | refine Below.drew ?_ | refine Below.alloc ?_ (by first | omega | (simp; done) | (simp; omega)) _ | refine Below.setCell ?_ (by first | omega | (simp; done) | (simp; omega)) _ | refine Below.trans ?_ (Below.mono (by assumption) (by first | omega | (simp; done) | (simp; omega)))))
  · obtain ⟨A, c, B, pos, ha, hs⟩ := h.at
    have c0 : w.cell? ⟨g, 0, none⟩ = some (.slice A B.length c) := ha.1.cell rfl
    have c1 : w.cell? ⟨g, 1, none⟩ = some (.int .i64 pos) := ha.1.cell rfl
    have hL := ha.2.1
    have hC := ha.2.2.1
    have hC' := ha.2.2.2.1
    have hS := ha.2.2.2.2.1
    have hgl := ha.1.lt
    have hw : IntKind.i64.wrap ((B.length : Int) - (pos : Int)) = (st.s.length : Int) := by rw [IntWalk.i64_in _ (by omega), hs, List.length_drop]; omega
    have Hs := Lib.hid hs
    have Ha := Lib.hid ha
    clear hs ha
    rw [ptr_some]
    go_enter Tryd.func26, Tryd.ntmps26
    go_wp2_with (fail)
    refine wp_region_grow (by kernel_rfl) (by kernel_rfl) ?_
    repeat (quiet_step ((first | (fail))))
    refine wpQuiet_nil ?_
    intro w2 hb2
    go_wp2_with (fail)
    go_ret
    exact RetV.of rfl (by repeat (first | exact Below.refl _ _ | refine Below.drew ?_ | refine Below.alloc ?_ (by first | omega | (simp; done) | (simp; omega)) _ | refine Below.setCell ?_ (by first | omega | (simp; done) | (simp; omega)) _ | refine Below.trans ?_ (Below.mono (by assumption) (by first | omega | (simp; done) | (simp; omega)))))
end Go.Proofs.YtfgjhgecmelccaaDoor
