/-
  Lemmas (walks and plain laws), in one text.
-/
import Derived.Test.YtkofjkadmknmjaaDoorBb6
import Derived.Test.YtkofjkadmknmjaaDoorRows
import Derived.WalkKit
import Derived.WalkSpells
import Derived.WalkLawsBesides
import Derived.Lib.Hide
import Derived.Deep.QuietTactic
import Derived.BigQuiet
import Derived.Maps.AppendAt
import Derived.WalkSmall
import Derived.ProofKit
import Derived.OpenShut
import Derived.JoinedCond
import Derived.Deep.Slices
import Derived.Deep.Fields
import Derived.Carry
import Derived.HandedShaped
import Derived.Shelf.Small.Wraps
import Derived.Shelf.Utf8.RuneCount
import Derived.Shelf.Strconv.Itoa0
import Derived.Shelf.Strconv.Itoa1
import Derived.Shelf.LaysM
import Derived.Shelf.Strconv.Itoa2
import Derived.Shelf.Strconv.Itoa3
import Derived.Shelf.Strings.Search1
import Derived.Shelf.Strings.Search2
import Derived.Shelf.Strings.Search3
import Derived.Shelf.Strings.Count
import Derived.Shelf.Strings.Shaped
import Derived.Shelf.Strings.Prefix
import Derived.Shelf.Strings.Split
import Derived.Shelf.Strings.SplitShaped
import Derived.Shelf.Unicode.DecodeSlow
import Derived.Test.YtkofjkadmknmjaaDoorProg
import Derived.Deep.AppendSrc
import Derived.Lib.AppendStr
import Derived.Laws.BytesArg
import Derived.Lib.AppendIntMem
import Derived.Lib.ItoaLen
import Derived.Lib.TrailingZeros
import Derived.Lib.SplitLaws
import Derived.Lib.ItoaNum
import Derived.Shelf.Strings.PiecesUse
import Derived.Shelf.Spec.TrailingZeros
import Derived.RangeFuncNested
import Derived.RangeFuncBound
import Derived.RangeFuncCalls
import Derived.RangeFuncLeaves
import Derived.Shelf.Abstract
import Derived.Shelf.RegionOpen
import Derived.OwnWalkIn
import Derived.TacticsInMore
import Derived.LoopNIn
import Derived.LoopIn
import Derived.Test.YtkofjkadmknmjaaDoorTie
import Derived.Lib.LaidTab
import Derived.LaidMore
import Derived.Lay
import Derived.Stop.LaidErr
import Derived.SevenTiedAt
import Derived.Test.YtkofjkadmknmjaaDoorCards
import Derived.StillTail
import Derived.OrdersIn
import Derived.ControlIn
import Derived.Lib.BitFns
import Derived.Deep.CutBlock
import Derived.Deep.DeepCutAuto
import Derived.Laws.IdiomStrings
import Derived.Outline
import Derived.IntWalk
import Derived.Lib.Tables
namespace Go.Proofs.YtkofjkadmknmjaaDoor
open Go.RowKit

set_option maxHeartbeats 1000000 in
set_option maxRecDepth 4000 in
theorem c_ref03_List (s : Nat) (hs : s < 4294967296) (w : World) : Calls Tryd.prog 45 #[.int .u32 s] w (RetS 1 ic 3 w ((idx s).map Int.ofNat)) := by
  go_enter Tryd.func45, Tryd.ntmps45
  go_wp2_with (fail)
  go_loopw [3, 4] (fun v i wr => ∃ (k : Nat) (l : List Int), k ≤ 32 ∧ i = .int .i64 k ∧ Hid (l = (((List.range k).filter s.testBit).map Int.ofNat)) ∧ l.length ≤ k ∧ Hid (wr.ownsRow w.heap.size 3 1 v l.length (l.flatMap ic)) ∧ Hid (Below w.heap.size w wr)) (fun _ i _ => 32 - (intOf i).toNat)
  case atStart => exact ⟨0, [], by omega, rfl, rfl, by simp, World.ownsRow_lit w #[] 0 (Nat.le_refl _) (by unfold maxLen; omega) (by simp), (by repeat (first | exact Below.refl _ _ | refine Below.drew ?_ | refine Below.alloc ?_ (by first | omega | (simp; done) | (simp; omega)) _ | refine Below.setCell ?_ (by first | omega | (simp; done) | (simp; omega)) _ | refine Below.trans ?_ (Below.mono (by assumption) (by first | omega | (simp; done) | (simp; omega)))))⟩
  case round =>
    obtain ⟨k, l, hk, rfl, HL, hlk, O, B1⟩ := hrel
    obtain ⟨A9, c9, rfl, -, -⟩ := own_form O.out
    have hz := B1.out.size
    by_cases hlt : k < 32
    · have d1 : decide ((k : Int) < 32) = true := by simp; omega
      have HH := Lib.hid (fun w' => c_ref03_Has s k hs (by omega) w')
      cases hb : s.testBit k
      · replace HH := Lib.hid (by have := HH.out; rw [hb] at this; exact this)
        have HL2 := Lib.hid (show l = (((List.range (k + 1)).filter s.testBit).map Int.ofNat) by rw [List.range_succ, List.filter_append, List.map_append, HL.out]; simp [hb])
        clear hb
        go_wp2_with (fail)
        refine (HH.out _).mono ?_
        rintro e w1 ⟨rfl, hb1⟩
        have B2 := Lib.hid (B1.out.trans (hb1.mono hz))
        have O2 := Lib.hid (own_below O.out hb1)
        clear hb1 O B1
        go_wp2_with (fail)
        go_roundw
        case rel => exact ⟨k + 1, l, by omega, by go_num, HL2.out, by omega, O2.out, B2.out⟩
        case measure => simp [intOf]; omega
      · replace HH := Lib.hid (by have := HH.out; rw [hb] at this; exact this)
        have HL2 := Lib.hid (show l ++ [(k : Int)] = (((List.range (k + 1)).filter s.testBit).map Int.ofNat) by rw [List.range_succ, List.filter_append, List.map_append, HL.out]; simp [hb])
        clear hb
        go_wp2_with (fail)
        refine (HH.out _).mono ?_
        rintro e w1 ⟨rfl, hb1⟩
        have B2 := Lib.hid (B1.out.trans (hb1.mono hz))
        have O2 := Lib.hid (own_below O.out hb1)
        have hz2 := B2.out.size
        clear hb1 O B1
        go_wp2_with ((at_builtin; refine Stop.out ?_))
        refine Stop.mk (wpList_app _ rfl _ _ elemI rfl w.heap.size (.slice A9 l.length c9) l.length _ rfl (own_below O2.out ((Below.refl _ _).alloc (Nat.le_refl _) _)) _ 1 1 (ic (k : Int)) rfl (Src.new _ (ic (k : Int)) _ 1 rfl) (by simp [ic, Value.oneCell']) (by omega) (by simp; omega) ?_)
        intro v4 w4 own4 _ hb4 _
        have B4 := Lib.hid (B2.out.trans ((((Below.refl _ _).alloc hz2 _)).trans hb4))
        have O4 := Lib.hid (show w4.ownsRow w.heap.size 3 1 v4 ((l ++ [(k : Int)]).length) ((l ++ [(k : Int)]).flatMap ic) by simpa using own4)
        clear own4 hb4 O2 B2
        go_wp2_with (fail)
        go_roundw
        case rel => exact ⟨k + 1, l ++ [(k : Int)], by omega, by go_num, HL2.out, by simp; omega, O4.out, B4.out⟩
        case measure => simp [intOf]; omega
    · obtain rfl : k = 32 := by omega
      have d1 : decide ((32 : Int) < 32) = false := by simp
      clear hlt
      go_wp2_with (fail)
      go_ret
      exact RetS.of O.out (Nat.le_refl _) HL.out B1.out

end Go.Proofs.YtkofjkadmknmjaaDoor
namespace Go.Proofs.YtkofjkadmknmjaaDoor
open Go.RowKit

/-- A set's text, of how many of its numbers. -/
theorem showB_nil {s : Nat} (hs : s < 4294967296) (h : idx s = []) : showB s = [45] := by
  unfold showB
  by_cases h0 : s = 0
  · rw [if_pos h0]
  · exact absurd h (idx_ne h0 hs)
theorem showB_cons {s : Nat} (h : idx s ≠ []) : showB s = joinC 44 ((idx s).map tens) := by
  unfold showB
  by_cases h0 : s = 0
  · subst h0; exact absurd idx_zero h
  · rw [if_neg h0]
theorem joinT_len (l : List Nat) (hl : ∀ n ∈ l, n < 32) : (joinC 44 (l.map tens)).length ≤ 3 * l.length := by
  induction l with
  | nil => simp [joinC]
  | cons n l ih =>
    have h1 := ih (fun m hm => hl m (List.mem_cons_of_mem _ hm))
    have h2 := tens_len n 2 (by have := hl n (List.mem_cons_self ..); omega) (by omega)
    cases l with
    | nil => simp [joinC]; omega
    | cons m l =>
      rw [List.map_cons, joinC_cons _ _ (by simp), List.length_append, List.length_cons]
      simp only [List.length_cons] at *
      omega
set_option maxHeartbeats 1000000 in
set_option maxRecDepth 4000 in
theorem c_ref03_Show (s : Nat) (hs : s < 4294967296) (w : World) : Calls Tryd.prog 38 #[.int .u32 s] w (RetV w (.string (str (showB s)))) := by
  have hil := idx_len s
  obtain ⟨l, hl⟩ : ∃ l, l = idx s := ⟨_, rfl⟩
  have hlt32 : ∀ n ∈ l, n < 32 := fun n hn => idx_lt (by rw [← hl]; exact hn)
  have CL := Lib.hid (fun w' => show Calls Tryd.prog 45 #[.int .u32 s] w' (RetS 1 ic 3 w' (l.map Int.ofNat)) by rw [hl]; exact c_ref03_List s hs w')
  rw [← hl] at hil
  cases hlc : l with
  | nil =>
    have E := Lib.hid (showB_nil hs (by rw [← hl]; exact hlc))
    rw [hlc] at CL
    clear hlc hl hlt32 hil
    rw [E.out]
    go_enter Tryd.func38, Tryd.ntmps38
    go_wp2_with (fail)
    refine (CL.out _).mono ?_
    rintro e w1 ⟨v1, rfl, own1, hb1⟩
    obtain ⟨A1, c1, rfl, -, -⟩ := own_form own1
    go_wp2_with (fail)
    go_ret
    exact RetV.of rfl hb1
  | cons n0 l0 =>
    have E := Lib.hid (show showB s = joinC 44 (l.map tens) by rw [hl]; exact showB_cons (by rw [← hl, hlc]; simp))
    have hpos : 0 < l.length := by rw [hlc]; simp
    rw [E.out]
    clear hlc E hl
    go_enter Tryd.func38, Tryd.ntmps38
    go_wp2_with (fail)
    refine (CL.out _).mono ?_
    rintro e w1 ⟨v1, rfl, own1, hb1⟩
    obtain ⟨A1, c1, rfl, hin⟩ := In.of_own ic_len own1 (by simp; omega)
    rw [List.length_map]
    have hlm : (l.map Int.ofNat).length = l.length := List.length_map ..
    obtain ⟨b, off, rfl, hbb, hrow⟩ := hin.at (i := 0) (by rw [hlm]; exact hpos)
    have hC := hin.2.1
    have hLc := hin.1
    rw [hlm] at hLc
    have CELL := Lib.hid (show ∀ k (hk : k < l.length), w1.cell? ⟨b, off + k, none⟩ = some (.int .i64 (l[k] : Nat)) from fun k hk => by
      have := hrow k (by rw [hlm]; exact hk) 0 _ rfl
      simpa using this)
    have e0 := CELL.out 0 hpos
    simp only [Nat.add_zero] at e0
    have B1 := Lib.hid hb1
    have hz1 := hb1.size
    clear hb1 own1 hrow hin
    have h0lt := hlt32 _ (List.getElem_mem hpos)
    go_wp2_with (fail)
    refine (c_ref03_Tens l[0] (by omega) _).mono ?_
    rintro e w2 ⟨rfl, hb2⟩
    have B2 := Lib.hid hb2
    clear hb2
    go_wp2_with (fail)
    go_loopw [4, 5] (fun t i wr => ∃ (k : Nat) (acc : List UInt8), 1 ≤ k ∧ k ≤ l.length ∧ i = .int .i64 k ∧ t = .string (str acc) ∧ Hid (acc = joinC 44 ((l.take k).map tens)) ∧ Hid (Below w1.heap.size w1 wr)) (fun _ i _ => l.length - (intOf i).toNat)
    case atStart => exact ⟨1, tens l[0], by omega, by omega, rfl, rfl, by show _ = _; rw [List.take_succ_eq_append_getElem hpos]; simp [joinC], B2.out⟩
    case round =>
      obtain ⟨k, acc, hk1, hk, rfl, rfl, HA, B3⟩ := hrel
      have hacc : acc.length ≤ 3 * l.length := by
        rw [HA.out]
        have := joinT_len (l.take k) (fun n hn => hlt32 n (List.mem_of_mem_take hn))
        rw [List.length_take] at this
        omega
      by_cases hlt : k < l.length
      · have d1 : decide (k < l.length) = true := by simpa using hlt
        have ek := (B3.out.cell (p := ⟨b, off + k, none⟩) hbb).trans (CELL.out k hlt)
        have hk32 := hlt32 _ (List.getElem_mem hlt)
        have H2 := Lib.hid (show acc ++ 44 :: tens l[k] = joinC 44 ((l.take (k + 1)).map tens) by
          rw [List.take_succ_eq_append_getElem hlt, List.map_append, List.map_cons, List.map_nil, joinC_snoc _ _ (by
            intro e
            have := congrArg List.length e
            rw [List.length_map, List.length_take] at this
            simp only [List.length_nil] at this
            omega), HA.out])
        have CT := Lib.hid (fun w' => c_ref03_Tens l[k] (by omega) w')
        obtain ⟨x, hx⟩ : ∃ x, tens l[k] = x := ⟨_, rfl⟩
        have hxl : x.length ≤ 2 := by rw [← hx]; exact tens_len _ 2 (by omega) (by omega)
        rw [hx] at CT H2
        clear HA hx
        go_wp2_with (fail)
        refine (CT.out _).mono ?_
        rintro e w4 ⟨rfl, hb4⟩
        have B4 := Lib.hid (B3.out.trans (hb4.mono B3.out.size))
        clear hb4 B3
        go_wp2_with (fail)
        go_roundw
        case rel => exact ⟨k + 1, _, by omega, by omega, by go_num, by first | rfl | (simp; done), by first | exact H2.out | (show _ = _; rw [← H2.out]; simp), B4.out⟩
        case measure => simp [intOf]; omega
      · obtain rfl : k = l.length := by omega
        have d1 : decide (l.length < l.length) = false := by simp
        have H2 := Lib.hid (show acc = joinC 44 (l.map tens) by rw [HA.out, List.take_length])
        clear HA hlt
        go_wp2_with (fail)
        go_ret
        exact RetV.str H2.out (B1.out.trans (B3.out.mono hz1))
end Go.Proofs.YtkofjkadmknmjaaDoor
namespace Go.Proofs.YtkofjkadmknmjaaDoor
open Go.RowKit

theorem CutAt.len {c : UInt8} {t : List UInt8} {ps : List (List UInt8)} {f i : Nat} (h : CutAt c t ps f i) : ps.length ≤ t.length := by
  have h1 := cuts_len c t
  rw [h.2.2, List.length_append] at h1
  have h2 : 1 ≤ (consHead ((t.drop f).take (i - f)) (cuts c (t.drop i))).length := by
    cases hc : cuts c (t.drop i) with
    | nil => simp [consHead]
    | cons a r => simp [consHead]
  omega
set_option maxHeartbeats 1000000 in
set_option maxRecDepth 4000 in
theorem c_ref03_Split (t : List UInt8) (ht : t.length ≤ 1000000) (w : World) : Calls Tryd.prog 79 #[.string (str t), .int .u8 44] w (RetS 1 sc 9 w (cuts 44 t)) := by
  go_enter Tryd.func79, Tryd.ntmps79
  go_wp2_with (fail)
  go_loopw [5, 6, 7] (fun v fr i wr => ∃ (k f : Nat) (ps : List (List UInt8)), i = .int .i64 k ∧ fr = .int .i64 f ∧ f ≤ k ∧ k ≤ t.length ∧ ps.length ≤ t.length ∧ Hid (CutAt 44 t ps f k) ∧ Hid (wr.ownsRow w.heap.size 9 1 v ps.length (ps.flatMap sc)) ∧ Hid (Below w.heap.size w wr)) (fun _ _ i _ => t.length - (intOf i).toNat)
  case atStart => exact ⟨0, 0, [], rfl, rfl, by omega, by omega, by simp, CutAt.start 44 t, World.ownsRow_lit w #[] 0 (Nat.le_refl _) (by unfold maxLen; omega) (by simp), (by repeat (first | exact Below.refl _ _ | refine Below.drew ?_ | refine Below.alloc ?_ (by first | omega | (simp; done) | (simp; omega)) _ | refine Below.setCell ?_ (by first | omega | (simp; done) | (simp; omega)) _ | refine Below.trans ?_ (Below.mono (by assumption) (by first | omega | (simp; done) | (simp; omega)))))⟩
  case round =>
    obtain ⟨k, f, ps, rfl, rfl, hfk, hk, hpl, C, O, B1⟩ := hrel
    obtain ⟨A9, c9, rfl, -, -⟩ := own_form O.out
    have hz := B1.out.size
    by_cases hlt : k < t.length
    · have d1 : decide (k < t.length) = true := by simpa using hlt
      have h256 := t[k].toNat_lt
      by_cases h44 : t[k].toNat = 44
      · have j1 : ((t[k].toNat : Int) == 44) = true := by rw [beq_iff_eq]; omega
        have C2 := Lib.hid (C.out.sep hlt (UInt8.toNat_inj.1 h44))
        obtain ⟨p, hp⟩ : ∃ p, p = List.take (k - f) (List.drop f t) := ⟨_, rfl⟩
        replace C2 := Lib.hid (by have := C2.out; rw [← hp] at this; exact this)
        have hpl2 := C2.out.len
        have HP := Lib.hid hp.symm
        clear h44 C hp
        go_wp2_with ((at_builtin; refine Stop.out ?_))
        rw [HP.out]
        refine Stop.mk (wpList_app _ rfl _ _ elemS rfl w.heap.size (.slice A9 ps.length c9) ps.length _ rfl (own_below O.out ((Below.refl _ _).alloc (Nat.le_refl _) _)) _ 1 1 (sc p) rfl (Src.new _ (sc p) _ 1 rfl) (by simp [sc, Value.oneCell']) (by omega) (by simp; omega) ?_)
        intro v4 w4 own4 _ hb4 _
        have B4 := Lib.hid (B1.out.trans ((((Below.refl _ _).alloc hz _)).trans hb4))
        have O4 := Lib.hid (show w4.ownsRow w.heap.size 9 1 v4 ((ps ++ [p]).length) ((ps ++ [p]).flatMap sc) by simpa using own4)
        clear own4 hb4 O B1
        go_wp2_with (fail)
        go_roundw
        case rel => exact ⟨k + 1, k + 1, ps ++ [p], by go_num, by go_num, by omega, by omega, hpl2, C2.out, O4.out, B4.out⟩
        case measure => simp [intOf]; omega
      · have j1 : ((t[k].toNat : Int) == 44) = false := by rw [beq_eq_false_iff_ne]; omega
        have C2 := Lib.hid (C.out.next hlt (fun e => h44 (by rw [e]; rfl)))
        clear h44 C
        go_wp2_with (fail)
        go_roundw
        case rel => exact ⟨k + 1, f, ps, by go_num, rfl, by omega, by omega, hpl, C2.out, O.out, B1.out⟩
        case measure => simp [intOf]; omega
    · obtain rfl : k = t.length := by omega
      have d1 : decide (t.length < t.length) = false := by simp
      have C2 := Lib.hid C.out.done
      obtain ⟨p, hp⟩ : ∃ p, p = List.drop f t := ⟨_, rfl⟩
      replace C2 := Lib.hid (by have := C2.out; rw [← hp] at this; exact this)
      have HP := Lib.hid hp.symm
      have htk : List.take (t.length - f) p = p := by rw [hp]; exact List.take_of_length_le (by rw [List.length_drop]; exact Nat.le_refl _)
      have HT := Lib.hid htk
      clear hlt C hp htk
      go_wp2_with ((at_builtin; refine Stop.out ?_))
      rw [HP.out, HT.out]
      refine Stop.mk (wpList_app _ rfl _ _ elemS rfl w.heap.size (.slice A9 ps.length c9) ps.length _ rfl (own_below O.out ((Below.refl _ _).alloc (Nat.le_refl _) _)) _ 1 1 (sc p) rfl (Src.new _ (sc p) _ 1 rfl) (by simp [sc, Value.oneCell']) (by omega) (by simp; omega) ?_)
      intro v4 w4 own4 _ hb4 _
      have B4 := Lib.hid (B1.out.trans ((((Below.refl _ _).alloc hz _)).trans hb4))
      have O4 := Lib.hid (show w4.ownsRow w.heap.size 9 1 v4 ((ps ++ [p]).length) ((ps ++ [p]).flatMap sc) by simpa using own4)
      clear own4 hb4 O B1
      go_wp2_with (fail)
      go_ret
      exact RetS.of O4.out (Nat.le_refl _) C2.out.symm B4.out

/-- How far the reference's Read has come. -/
theorem setP_snoc (l : List (List UInt8)) (p : List UInt8) (s : Nat) : setP (l ++ [p]) s = setP [p] (setP l s) := by
  induction l generalizing s with
  | nil => rfl
  | cons q l ih => rw [List.cons_append, setP, ih]; rfl
def setV (t : List UInt8) : Value := .tuple #[.int .u32 ((readB t).getD 0 : Nat), .bool (readB t).isSome]
theorem setV_some {t : List UInt8} {s : Nat} (h : readB t = some s) : setV t = .tuple #[.int .u32 s, .bool true] := by unfold setV; rw [h]; rfl
theorem setV_none {t : List UInt8} (h : readB t = none) : setV t = .tuple #[.int .u32 0, .bool false] := by unfold setV; rw [h]; rfl
theorem bitN_of {n : Nat} (h : n < 32) : bitN (n : Int) = 2 ^ n := bitN_nat (by omega)
set_option maxHeartbeats 1000000 in
set_option maxRecDepth 4000 in
theorem c_ref03_Read (t : List UInt8) (ht : t.length ≤ 1000000) (w : World) : Calls Tryd.prog 34 #[.string (str t)] w (RetV w (setV t)) := by
  have CS := Lib.hid (fun w' => c_ref03_Split t ht w')
  have hcl := cuts_len 44 t
  have hpart := Lib.hid (cuts_part 44 t)
  obtain ⟨l, hl⟩ : ∃ l, cuts 44 t = l := ⟨_, rfl⟩
  have RE := Lib.hid (readS_eq t)
  replace RE := Lib.hid (by have := RE.out; unfold readS at this; rw [hl] at this; exact this)
  rw [hl] at CS hpart hcl
  clear hl
  go_enter Tryd.func34, Tryd.ntmps34
  go_wp2_with (fail)
  refine (CS.out _).mono ?_
  rintro e w1 ⟨v1, rfl, own1, hb1⟩
  obtain ⟨A1, c1, rfl, hin⟩ := In.of_own sc_len own1 (by omega)
  have hC := hin.2.1
  have hLc := hin.1
  have HI := Lib.hid hin
  have B1 := Lib.hid hb1
  have hz1 := hb1.size
  clear own1 hb1 hin
  go_wp2_with (fail)
  go_loopw [4, 6] (fun s i wr => ∃ (k m : Nat), i = .int .i64 k ∧ s = .int .u32 m ∧ k ≤ l.length ∧ k ≤ 33 ∧ m < 4294967296 ∧ Hid (m = setP (l.take k) 0) ∧ Hid (Below w1.heap.size w1 wr)) (fun _ i _ => l.length - (intOf i).toNat)
  case atStart => exact ⟨0, 0, rfl, rfl, by omega, by omega, by omega, rfl, Below.refl _ _⟩
  case round =>
    obtain ⟨k, m, rfl, rfl, hk, hk33, hm, HM, B2⟩ := hrel
    by_cases hr : k < l.length ∧ k < 33
    · have d1 : decide (k < l.length) = true := by simpa using hr.1
      have d2 : decide ((k : Int) < 33) = true := by simp; omega
      have hlt := hr.1
      obtain ⟨b, off, hA, hbb, hrow⟩ := HI.out.at (i := k) hlt
      obtain rfl : A1 = some ⟨b, off, none⟩ := hA
      have ek := (B2.out.cell (p := ⟨b, off + k, none⟩) hbb).trans (show w1.cell? ⟨b, off + k, none⟩ = some (.string (str l[k])) by have := hrow k hlt 0 _ rfl; simpa using this)
      have hpl := hpart.out l[k] (List.getElem_mem hlt)
      have CI := Lib.hid (fun w' => c_ref03_Int l[k] 31 w' (by omega))
      have HM2 := Lib.hid (show setP [l[k]] m = setP (l.take (k + 1)) 0 by rw [List.take_succ_eq_append_getElem hlt, setP_snoc, ← HM.out])
      have hk0 : (0 : Int) ≤ (k : Int) := by omega
      have hk1 : (k : Int) < (l.length : Int) := by omega
      have hk3 := hr.2
      clear hrow hr HM
      cases hi : intR l[k] 31 with
      | none =>
        replace CI := Lib.hid (by have := CI.out; rw [(intR_none hi).1, (intR_none hi).2] at this; exact this)
        replace HM2 := Lib.hid (show m = setP (l.take (k + 1)) 0 by have := HM2.out; rw [← this]; simp only [setP]; rw [hi])
        clear hi
        go_wp2_with (fail)
        refine (CI.out _).mono ?_
        rintro e w4 ⟨rfl, hb4⟩
        have B4 := Lib.hid (B2.out.trans (hb4.mono B2.out.size))
        clear hb4 B2
        go_wp2_with (fail)
        go_roundw
        case rel => exact ⟨k + 1, m, by go_num, rfl, by omega, by omega, hm, HM2.out, B4.out⟩
        case measure => simp [intOf]; omega
      | some n =>
        have hn32 : n < 32 := by have := (tens_intR hi).2.2; omega
        replace CI := Lib.hid (by have := CI.out; rw [(intR_some hi).1, (intR_some hi).2] at this; exact this)
        replace HM2 := Lib.hid (show m ||| 2 ^ n = setP (l.take (k + 1)) 0 by have := HM2.out; rw [← this]; simp only [setP]; rw [hi])
        have CW := Lib.hid (fun w' => c_ref03_WithA m n hm w')
        rw [bitN_of hn32] at CW
        have hm2 : m ||| 2 ^ n < 4294967296 := Nat.or_lt_two_pow (n := 32) hm (Nat.pow_lt_pow_right (by omega) (by omega))
        obtain ⟨m2, hm2e⟩ : ∃ m2, m ||| 2 ^ n = m2 := ⟨_, rfl⟩
        rw [hm2e] at hm2 CW
        replace HM2 := Lib.hid (by have := HM2.out; rw [hm2e] at this; exact this)
        clear hi hm2e
        go_wp2_with (fail)
        refine (CI.out _).mono ?_
        rintro e w4 ⟨rfl, hb4⟩
        have B4 := Lib.hid (B2.out.trans (hb4.mono B2.out.size))
        clear hb4 B2
        go_wp2_with (fail)
        refine (CW.out _).mono ?_
        rintro e w5 ⟨rfl, hb5⟩
        have B5 := Lib.hid (B4.out.trans (hb5.mono B4.out.size))
        clear hb5 B4
        go_wp2_with (fail)
        go_roundw
        case rel => exact ⟨k + 1, m2, by go_num, rfl, by omega, by omega, hm2, HM2.out, B5.out⟩
        case measure => simp [intOf]; omega
    · have HT := Lib.hid (show l.take k = l.take 33 by
        by_cases h : k < 33
        · have : k = l.length := by omega
          rw [this, List.take_length, List.take_of_length_le (by omega)]
        · rw [show k = 33 by omega])
      replace HM := Lib.hid (by have := HM.out; rw [HT.out] at this; exact this)
      replace RE := Lib.hid (by have := RE.out; rw [← HM.out] at this; exact this)
      have d : (decide (k < l.length) && decide ((k : Int) < 33)) = false := by
        rw [Bool.and_eq_false_iff, decide_eq_false_iff_not, decide_eq_false_iff_not]; omega
      have CW := Lib.hid (fun w' => c_ref03_Show m hm w')
      obtain ⟨q, hq⟩ : ∃ q, showB m = q := ⟨_, rfl⟩
      rw [hq] at CW
      have RQ := Lib.hid (by have := RE.out; rw [hq] at this; exact this)
      clear hr hq RE HM HT
      by_cases he : q = t
      · have V := Lib.hid (setV_some (show readB t = some m by rw [← RQ.out]; exact if_pos he))
        have e2 : (q != t) = false := by simpa using he
        have e2' : (q == t) = true := by simpa using he
        clear RQ he
        cases e1 : decide (k < l.length)
        · clear d
          go_wp2_with (fail)
          refine (CW.out _).mono ?_
          rintro e w4 ⟨rfl, hb4⟩
          have B4 := Lib.hid (B2.out.trans (hb4.mono B2.out.size))
          clear hb4 B2
          go_wp2_with (fail)
          go_ret2
          rw [V.out]
          exact RetV.of rfl (B1.out.trans (B4.out.mono hz1))
        · have e3 : decide ((k : Int) < 33) = false := by rw [e1] at d; simpa using d
          clear d
          go_wp2_with (fail)
          refine (CW.out _).mono ?_
          rintro e w4 ⟨rfl, hb4⟩
          have B4 := Lib.hid (B2.out.trans (hb4.mono B2.out.size))
          clear hb4 B2
          go_wp2_with (fail)
          go_ret2
          rw [V.out]
          exact RetV.of rfl (B1.out.trans (B4.out.mono hz1))
      · have V := Lib.hid (setV_none (show readB t = none by rw [← RQ.out]; exact if_neg he))
        have e2 : (q != t) = true := by simpa using he
        have e2' : (q == t) = false := by simpa using he
        clear RQ he
        cases e1 : decide (k < l.length)
        · clear d
          go_wp2_with (fail)
          refine (CW.out _).mono ?_
          rintro e w4 ⟨rfl, hb4⟩
          have B4 := Lib.hid (B2.out.trans (hb4.mono B2.out.size))
          clear hb4 B2
          go_wp2_with (fail)
          go_ret2
          rw [V.out]
          exact RetV.of rfl (B1.out.trans (B4.out.mono hz1))
        · have e3 : decide ((k : Int) < 33) = false := by rw [e1] at d; simpa using d
          clear d
          go_wp2_with (fail)
          refine (CW.out _).mono ?_
          rintro e w4 ⟨rfl, hb4⟩
          have B4 := Lib.hid (B2.out.trans (hb4.mono B2.out.size))
          clear hb4 B2
          go_wp2_with (fail)
          go_ret2
          rw [V.out]
          exact RetV.of rfl (B1.out.trans (B4.out.mono hz1))
end Go.Proofs.YtkofjkadmknmjaaDoor
namespace Go.Proofs.YtkofjkadmknmjaaDoor
open Go.RowKit

set_option maxHeartbeats 1000000 in
set_option maxRecDepth 4000 in
theorem c_bits_Read (t : List UInt8) (ht : t.length ≤ 1000000) (w : World) (hM : MaxV w) : Calls Tryd.prog 33 #[.string (str t)] w (RetV w (setV t)) := by
  by_cases h45 : t = [45]
  · rw [setV_some (show readB t = some 0 by unfold readB; rw [if_pos h45])]
    subst h45
    go_enter Tryd.func33, Tryd.ntmps33
    go_wp2_with (fail)
    go_ret2
    exact RetV.of rfl (by repeat (first | exact Below.refl _ _ | refine Below.drew ?_ | refine Below.alloc ?_ (by first | omega | (simp; done) | (simp; omega)) _ | refine Below.setCell ?_ (by first | omega | (simp; done) | (simp; omega)) _ | refine Below.trans ?_ (Below.mono (by assumption) (by first | omega | (simp; done) | (simp; omega)))))
  · have RB := Lib.hid (show readB t = readP (cuts 44 t) 0 (-1) by unfold readB; rw [if_neg h45])
    have e45 : (t == [45]) = false := by simpa using h45
    have CS := Lib.hid (c_Split t 44 w hM (by omega))
    have hcl := cuts_len 44 t
    have hpart := Lib.hid (cuts_part 44 t)
    obtain ⟨l, hl⟩ : ∃ l, cuts 44 t = l := ⟨_, rfl⟩
    rw [hl] at CS hpart hcl RB
    clear hl h45
    go_enter Tryd.func33, Tryd.ntmps33
    go_wp2_with (fail)
    refine CS.out.mono ?_
    rintro e w1 ⟨A1, c1, rfl, hin, hb1⟩
    have hC := hin.2.1
    have hLc := hin.1
    have HI := Lib.hid hin
    have B1 := Lib.hid hb1
    have hz1 := hb1.size
    clear hb1 hin
    go_wp2_with (fail)
    go_loopw [4, 5, 15] (fun s la i wr => ∃ (k m : Nat) (last : Int), i = .int .i64 k ∧ s = .int .u32 m ∧ la = .int .i64 last ∧ k ≤ l.length ∧ m < 4294967296 ∧ Hid (readP l 0 (-1) = readP (l.drop k) m last) ∧ Hid (Below w1.heap.size w1 wr)) (fun _ _ i _ => l.length - (intOf i).toNat)
    case atStart => exact ⟨0, 0, -1, rfl, rfl, rfl, by omega, by omega, rfl, Below.refl _ _⟩
    case round =>
      obtain ⟨k, m, last, rfl, rfl, rfl, hk, hm, HR, B2⟩ := hrel
      by_cases hlt : k < l.length
      · have d1 : decide (k < l.length) = true := by simpa using hlt
        obtain ⟨b, off, hA, hbb, hrow⟩ := HI.out.at (i := k) hlt
        obtain rfl : A1 = some ⟨b, off, none⟩ := hA
        have ek := (B2.out.cell (p := ⟨b, off + k, none⟩) hbb).trans (show w1.cell? ⟨b, off + k, none⟩ = some (.string (str l[k])) by have := hrow k hlt 0 _ rfl; simpa using this)
        have hpl := hpart.out l[k] (List.getElem_mem hlt)
        have CI := Lib.hid (fun w' => c_bits_Int l[k] 31 w' (by omega))
        have HR2 := Lib.hid (show readP l 0 (-1) = match intR l[k] 31 with | none => none | some n => if (n : Int) ≤ last then none else readP (l.drop (k + 1)) (m ||| 2 ^ n) n by rw [HR.out, List.drop_eq_getElem_cons hlt]; rfl)
        have hk0 : (0 : Int) ≤ (k : Int) := by omega
        have hk1 : (k : Int) < (l.length : Int) := by omega
        clear hrow HR
        cases hi : intR l[k] 31 with
        | none =>
          replace CI := Lib.hid (by have := CI.out; rw [(intR_none hi).1, (intR_none hi).2] at this; exact this)
          have V := Lib.hid (setV_none (show readB t = none by rw [RB.out, HR2.out, hi]))
          clear hi HR2
          go_wp2_with (fail)
          refine (CI.out _).mono ?_
          rintro e w4 ⟨rfl, hb4⟩
          have B4 := Lib.hid (B2.out.trans (hb4.mono B2.out.size))
          clear hb4 B2
          go_wp2_with (fail)
          go_ret2
          rw [V.out]
          exact RetV.of rfl (B1.out.trans (B4.out.mono hz1))
        | some n =>
          have hn32 : n < 32 := by have := (tens_intR hi).2.2; omega
          replace CI := Lib.hid (by have := CI.out; rw [(intR_some hi).1, (intR_some hi).2] at this; exact this)
          replace HR2 := Lib.hid (show readP l 0 (-1) = if (n : Int) ≤ last then none else readP (l.drop (k + 1)) (m ||| 2 ^ n) n by rw [HR2.out, hi])
          clear hi
          by_cases hle : (n : Int) ≤ last
          · have d2 : decide ((n : Int) ≤ last) = true := by simpa using hle
            have V := Lib.hid (setV_none (show readB t = none by rw [RB.out, HR2.out, if_pos hle]))
            clear HR2 hle
            go_wp2_with (fail)
            refine (CI.out _).mono ?_
            rintro e w4 ⟨rfl, hb4⟩
            have B4 := Lib.hid (B2.out.trans (hb4.mono B2.out.size))
            clear hb4 B2
            go_wp2_with (fail)
            go_ret2
            rw [V.out]
            exact RetV.of rfl (B1.out.trans (B4.out.mono hz1))
          · have d2 : decide ((n : Int) ≤ last) = false := by simpa using hle
            replace HR2 := Lib.hid (show readP l 0 (-1) = readP (l.drop (k + 1)) (m ||| 2 ^ n) n by rw [HR2.out, if_neg hle])
            have CB := Lib.hid (fun w' => c_bits_bitA (n : Int) w')
            rw [bitN_of hn32] at CB
            have h2n : (2 : Nat) ^ n < 4294967296 := by
              have : (2 : Nat) ^ n < 2 ^ 32 := Nat.pow_lt_pow_right (by omega) hn32
              omega
            have hm2 : m ||| 2 ^ n < 4294967296 := Nat.or_lt_two_pow (n := 32) hm h2n
            obtain ⟨q, hq⟩ : ∃ q, 2 ^ n = q := ⟨_, rfl⟩
            rw [hq] at CB h2n hm2
            replace HR2 := Lib.hid (by have := HR2.out; rw [hq] at this; exact this)
            have ho := or_u32 m q hm h2n
            clear hle hq
            go_wp2_with (fail)
            refine (CI.out _).mono ?_
            rintro e w4 ⟨rfl, hb4⟩
            have B4 := Lib.hid (B2.out.trans (hb4.mono B2.out.size))
            clear hb4 B2
            go_wp2_with (fail)
            refine (CB.out _).mono ?_
            rintro e w5 ⟨rfl, hb5⟩
            have B5 := Lib.hid (B4.out.trans (hb5.mono B4.out.size))
            clear hb5 B4
            go_wp2_with (fail)
            go_roundw
            case rel => exact ⟨k + 1, m ||| q, n, by go_num, rfl, rfl, by omega, hm2, HR2.out, B5.out⟩
            case measure => simp [intOf]; omega
      · obtain rfl : k = l.length := by omega
        have d1 : decide (l.length < l.length) = false := by simp
        have V := Lib.hid (setV_some (show readB t = some m by rw [RB.out, HR.out, List.drop_length]; rfl))
        clear hlt HR
        go_wp2_with (fail)
        go_ret2
        rw [V.out]
        exact RetV.of rfl (B1.out.trans (B2.out.mono hz1))
end Go.Proofs.YtkofjkadmknmjaaDoor
