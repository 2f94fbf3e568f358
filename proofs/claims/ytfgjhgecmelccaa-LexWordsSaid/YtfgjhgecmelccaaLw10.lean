/-
  Lemmas (walks and plain laws), in one text.
-/
import Derived.Test.YtfgjhgecmelccaaLw9
import Derived.WalkKit
import Derived.WalkSpells
import Derived.WalkLawsBesides
import Derived.Lib.Hide
import Derived.Deep.QuietTactic
import Derived.BigQuiet
import Derived.Maps.AppendAt
import Derived.WalkSmall
import Derived.StillTail
import Derived.RangeFuncNested
import Derived.RangeFuncCalls
import Derived.OrdersIn
import Derived.ControlIn
import Derived.Test.YtfgjhgecmelccaaProg
import Derived.Deep.CutBlock
import Derived.Deep.DeepCutAuto
import Derived.Deep.AppendSrc
import Derived.Lib.AppendStr
import Derived.Laws.BytesArg
import Derived.WalkMore
import Derived.ScopeJumps
import Derived.Lib.Bytealg
import Derived.Laws.Externs
import Derived.Laws.IdiomStrings
import Derived.Outline
import Derived.IntWalk
import Derived.Laws.Tables
import Derived.Laws.Rows
import Derived.ChangeKeysEq
import Derived.Laws.StructEq
import Derived.RangeFuncBound
import Derived.RangeFuncLeaves
import Derived.OwnWalkIn
import Derived.LoopIn
import Derived.Shelf.Abstract
import Derived.Test.YtfgjhgecmelccaaRows
import Derived.ProofKit
import Derived.OpenShut
import Derived.JoinedCond
import Derived.Deep.Slices
import Derived.Deep.Fields
import Derived.Carry
namespace Go.Proofs.Ytfgjhgecmelccaa
open Go.RowKit

theorem one_in (W : World) (e : TypeId) (x : UInt8) : InB (W.alloc (.cells #[.int .u8 (x.toNat : Int)] e)) (some ⟨W.heap.size, 0, none⟩) 1 [x] := by
  refine ⟨by simp, by omega, by simp, .inr ⟨W.heap.size, 0, rfl, by rw [World.size_alloc]; exact Nat.lt_succ_self _, fun i hi j u hu => ?_⟩⟩
  obtain rfl : i = 0 := by simpa using hi
  have hj : j < 1 := (List.getElem?_eq_some_iff.1 hu).1
  obtain rfl : j = 0 := by omega
  rw [World.cell?_alloc_new]
  simp only [bc, List.getElem_cons_zero, List.getElem?_cons_zero, Option.some.injEq] at hu
  rw [← hu]
  rfl
def OpnAt (t acc : List UInt8) (k : Nat) : Prop := acc ++ opn (t.drop k) = opn (t.drop 1) ∧ acc.length ≤ k
theorem OpnAt.end {t acc : List UInt8} {k : Nat} (h : OpnAt t acc k) (hk : t.length ≤ k + 1) : acc = opn (t.drop 1) := by
  rw [← h.1]
  have : opn (t.drop k) = [] := by
    match e : t.drop k with
    | [] => rw [opn]
    | [c] => rw [opn]
    | c :: d :: r =>
      have := congrArg List.length e
      rw [List.length_drop] at this
      simp at this
      omega
  rw [this, List.append_nil]
theorem OpnAt.plain {t acc : List UInt8} {k : Nat} (h : OpnAt t acc k) (hk : k + 1 < t.length) (hc : (t[k]'(by omega)).toNat ≠ 92) : OpnAt t (acc ++ [t[k]'(by omega)]) (k + 1) := by
  refine ⟨?_, by have := h.2; simp; omega⟩
  rw [← h.1, List.drop_eq_getElem_cons (show k < t.length by omega), opn_plain hc (by
    intro e
    have := congrArg List.length e
    rw [List.length_drop] at this
    simp at this; omega)]
  simp
theorem OpnAt.esc {t acc : List UInt8} {k : Nat} (h : OpnAt t acc k) (hk : k + 1 < t.length) (hc : (t[k]'(by omega)).toNat = 92)
    (hn : ∀ (h3 : k + 3 < t.length), ¬ ((t[k + 1]'hk).toNat = 120 ∧ hexV (t[k + 2]'(by omega)) ≤ 15 ∧ hexV (t[k + 3]'h3) ≤ 15)) : OpnAt t (acc ++ [t[k + 1]'hk]) (k + 2) := by
  refine ⟨?_, by have := h.2; simp; omega⟩
  rw [← h.1, List.drop_eq_getElem_cons (show k < t.length by omega), List.drop_eq_getElem_cons hk, opn_esc hc (by
    intro a b r2 e
    have hl := congrArg List.length e
    rw [List.length_drop] at hl
    simp only [List.length_cons] at hl
    have h3 : k + 3 < t.length := by omega
    rw [List.drop_eq_getElem_cons (show k + 1 + 1 < t.length by omega), List.drop_eq_getElem_cons (show k + 1 + 1 + 1 < t.length by omega)] at e
    simp only [List.cons.injEq] at e
    rw [← e.1, ← e.2.1]
    exact hn h3)]
  simp
theorem OpnAt.hex {t acc : List UInt8} {k : Nat} (h : OpnAt t acc k) (h3 : k + 3 < t.length) (hc : (t[k]'(by omega)).toNat = 92)
    (hn : (t[k + 1]'(by omega)).toNat = 120 ∧ hexV (t[k + 2]'(by omega)) ≤ 15 ∧ hexV (t[k + 3]'h3) ≤ 15) : OpnAt t (acc ++ [UInt8.ofNat (16 * hexV (t[k + 2]'(by omega)) + hexV (t[k + 3]'h3))]) (k + 4) := by
  refine ⟨?_, by have := h.2; simp; omega⟩
  rw [← h.1, List.drop_eq_getElem_cons (show k < t.length by omega), List.drop_eq_getElem_cons (show k + 1 < t.length by omega), List.drop_eq_getElem_cons (show k + 1 + 1 < t.length by omega), List.drop_eq_getElem_cons (show k + 1 + 1 + 1 < t.length by omega), opn_hex hc hn]
  simp
theorem hexI_ge {c : UInt8} : 0 ≤ hexI c ↔ hexV c ≤ 15 := by unfold hexI; split <;> omega
theorem hexI_eq {c : UInt8} (h : hexV c ≤ 15) : hexI c = hexV c := by unfold hexI; rw [if_pos h]
set_option maxHeartbeats 4000000 in
set_option maxRecDepth 4000 in
theorem c_ref04_open (t : List UInt8) (w : World) (hs : t.length ≤ 1000000) (hpos : 1 ≤ t.length) : Calls Try.prog 53 #[.string (str t)] w (RetV w (.string (str (opn (t.drop 1))))) := by
  go_enter Try.func53, Try.ntmps53
  go_wp2_with (fail)
  rw [show ({ data := #[] } : ByteArray) = str [] from rfl]
  go_loopw [3, 4] (fun x i wr => ∃ (k : Nat) (acc : List UInt8), 1 ≤ k ∧ k ≤ t.length + 2 ∧ i = .int .i64 k ∧ x = .string (str acc) ∧ Hid (OpnAt t acc k) ∧ Hid (Below w.heap.size w wr)) (fun _ i _ => t.length + 2 - (intOf i).toNat)
  case atStart => exact ⟨1, [], by omega, by omega, rfl, rfl, ⟨rfl, by simp⟩, Below.refl _ _⟩
  case round =>
    obtain ⟨k, acc, hk0, hk, rfl, rfl, H, B1⟩ := hrel
    have ha := H.out.2
    have hz := B1.out.size
    by_cases hk1 : k + 1 < t.length
    · have d1 : decide ((k : Int) < (t.length : Int) - 1) = true := by rw [decide_eq_true_iff]; omega
      have hk0' : k < t.length := by omega
      have h0 : List.take 1 (List.drop k t) = [t[k]] := by rw [List.drop_eq_getElem_cons hk0']; rfl
      by_cases g1 : t[k].toNat = 92
      · have j1 : ((t[k].toNat : Int) != 92) = false := by rw [bne_eq_false_iff_eq]; omega
        by_cases g2 : t[k + 1].toNat = 120
        · have j2 : ((t[k + 1].toNat : Int) == 120) = true := by rw [beq_iff_eq]; omega
          by_cases hk3 : k + 3 < t.length
          · have hk2 : k + 2 < t.length := by omega
            have d3 : decide (k + 3 < t.length) = true := by simpa using hk3
            have d3' : decide ((k : Int) + 3 < (t.length : Int)) = true := by rw [decide_eq_true_iff]; omega
            have CA0 := Lib.hid (fun w' => c_ref04_hex (t[k + 2]'hk2) w')
            have CB0 := Lib.hid (fun w' => c_ref04_hex (t[k + 3]'hk3) w')
            by_cases g3 : hexV (t[k + 2]'hk2) ≤ 15
            · by_cases g4 : hexV (t[k + 3]'hk3) ≤ 15
              · have U2 := Lib.hid (H.out.hex hk3 g1 ⟨g2, g3, g4⟩)
                obtain ⟨va, hva⟩ : ∃ v, v = hexV (t[k + 2]'hk2) := ⟨_, rfl⟩
                obtain ⟨vb, hvb⟩ : ∃ v, v = hexV (t[k + 3]'hk3) := ⟨_, rfl⟩
                have CA := Lib.hid (fun w' => show Calls Try.prog 73 #[.int .u8 (t[k + 2]'hk2).toNat] w' (RetV w' (.int .i64 (va : Int))) by have := CA0.out w'; rw [hexI_eq g3, ← hva] at this; exact this)
                have CB := Lib.hid (fun w' => show Calls Try.prog 73 #[.int .u8 (t[k + 3]'hk3).toNat] w' (RetV w' (.int .i64 (vb : Int))) by have := CB0.out w'; rw [hexI_eq g4, ← hvb] at this; exact this)
                rw [← hva, ← hvb] at U2
                rw [← hva] at g3
                rw [← hvb] at g4
                have k1 : decide ((0 : Int) ≤ (va : Int)) = true := by simp
                have k2 : decide ((0 : Int) ≤ (vb : Int)) = true := by simp
                obtain ⟨x, hx⟩ : ∃ x : UInt8, 16 * (va : Int) + (vb : Int) = (x.toNat : Int) := ⟨UInt8.ofNat (16 * va + vb), by simp; omega⟩
                have HX := Lib.hid hx
                have hxx := x.toNat_lt
                have XE : UInt8.ofNat (16 * va + vb) = x := by rw [show 16 * va + vb = x.toNat by omega]; simp
                rw [XE] at U2
                clear hva hvb CA0 CB0 g1 g2 H hx XE
                go_wp2_with (fail)
                refine (CA.out _).mono ?_
                rintro e w1 ⟨rfl, hb1⟩
                go_wp2_with (fail)
                refine (CB.out _).mono ?_
                rintro e w2 ⟨rfl, hb2⟩
                have B2 := Lib.hid (B1.out.trans ((hb1.trans (hb2.mono hb1.size)).mono B1.out.size))
                clear hb1 hb2 B1 hz
                have hz := B2.out.size
                go_wp2_with (fail)
                refine wp_region_rel [Sp.eq (.string (str acc)), Sp.eq (.string (str t)), Sp.eq (.int .i64 k), Sp.eq (.int .i64 ((k + 2 : Nat) : Int)), Sp.eq (.int .u8 (t[k + 2]'hk2).toNat), Sp.eq (.int .i64 (va : Int)), Sp.eq (.int .i64 (16 * (va : Int))), Sp.eq (.string (str t)), Sp.eq (.int .i64 k), Sp.eq (.int .i64 ((k + 3 : Nat) : Int)), Sp.eq (.int .u8 (t[k + 3]'hk3).toNat), Sp.eq (.int .i64 (vb : Int)), Sp.eq (.int .i64 (x.toNat : Int)), Sp.eq (.int .u8 (x.toNat : Int)), Sp.slice 1 bc [x], Sp.eq (.string (str [x])), Sp.eq (.string (str (acc ++ [x]))), Sp.eq (.string (str (acc ++ [x])))] 81 (by kernel_rfl) (by kernel_rfl) rfl rfl ?_ ?_
                · refine ⟨?_, ?_, ?_, ?_, ?_, ?_, ?_, ?_, ?_, ?_, ?_, ?_, ?_, ?_, ?_, ?_, ?_, ?_, trivial⟩
                  all_goals (intro u W2 hb2 hd; simp [Deps, Region.binds, Sp.slice_holds, Sp.eq_holds] at hd; simp only [putDeps, dstOf, Region.binds])
                  case refine_1 =>
                    go_wp2_with (fail); exact RelEnd.mk rfl (Below.refl _ _) rfl
                  case refine_2 =>
                    go_wp2_with (fail); exact RelEnd.mk rfl (Below.refl _ _) rfl
                  case refine_3 =>
                    go_wp2_with (fail); exact RelEnd.mk rfl (Below.refl _ _) rfl
                  case refine_4 =>
                    go_wp2_with (fail); exact RelEnd.mk rfl (Below.refl _ _) rfl
                  case refine_5 =>
                    go_wp2_with (fail); exact RelEnd.mk rfl (Below.refl _ _) rfl
                  case refine_6 =>
                    go_wp2_with (go_at_call 73; refine (CA.out _).mono ?_; rintro e3 W3 ⟨rfl, hb3⟩)
                    exact RelEnd.mk rfl hb3 rfl
                  case refine_7 =>
                    go_wp2_with (fail); exact RelEnd.mk rfl (Below.refl _ _) rfl
                  case refine_8 =>
                    go_wp2_with (fail); exact RelEnd.mk rfl (Below.refl _ _) rfl
                  case refine_9 =>
                    go_wp2_with (fail); exact RelEnd.mk rfl (Below.refl _ _) rfl
                  case refine_10 =>
                    go_wp2_with (fail); exact RelEnd.mk rfl (Below.refl _ _) rfl
                  case refine_11 =>
                    go_wp2_with (fail); exact RelEnd.mk rfl (Below.refl _ _) rfl
                  case refine_12 =>
                    go_wp2_with (go_at_call 73; refine (CB.out _).mono ?_; rintro e3 W3 ⟨rfl, hb3⟩)
                    exact RelEnd.mk rfl hb3 rfl
                  case refine_13 =>
                    have hx := HX.out
                    go_wp2_with (fail); exact RelEnd.mk rfl (Below.refl _ _) rfl
                  case refine_14 =>
                    go_wp2_with (fail); exact RelEnd.mk rfl (Below.refl _ _) rfl
                  case refine_15 =>
                    go_wp2_with (fail)
                    refine RelEnd.mk rfl ((Below.refl _ _).alloc (Nat.le_refl _) _) ?_
                    exact ⟨_, 1, rfl, one_in _ _ x⟩
                  case refine_16 =>
                    obtain ⟨A6, c6, e6, in6⟩ := hd
                    have kb := conv_str (P := Try.prog) (w := W2) Try.underlying42 Try.underlying5 Try.underlying9 in6
                    simp only [List.length_singleton] at kb e6
                    go_wp2_with (fail)
                    exact RelEnd.mk rfl (Below.refl _ _) rfl
                  case refine_17 =>
                    go_wp2_with (fail); exact RelEnd.mk rfl (Below.refl _ _) rfl
                  case refine_18 =>
                    go_wp2_with (fail); exact RelEnd.mk rfl (Below.refl _ _) rfl
                · intro u W2 hb2 hold
                  simp only [RelHold, Sp.eq_holds, Sp.slice_holds, Nat.reduceAdd] at hold
                  obtain ⟨-, -, -, -, -, -, -, -, -, -, -, -, -, -, -, -, -, hE, -⟩ := hold
                  simp only [putAll, Act.put, Nat.reduceAdd, List.setIfInBounds_toArray, List.set_cons_zero, List.set_cons_succ]
                  rw [hE]
                  replace B2 := Lib.hid (B2.out.trans (hb2.mono hz))
                  clear hb2
                  go_wp2_with (fail)
                  go_roundw
                  case rel => exact ⟨k + 4, _, by omega, by omega, by go_num, rfl, U2.out, B2.out⟩
                  case measure => simp [intOf]; omega
              · have U2 := Lib.hid (H.out.esc hk1 g1 (fun _ h => g4 h.2.2))
                have va0 : 0 ≤ hexI (t[k + 2]'hk2) := hexI_ge.2 g3
                have vb0 : ¬ 0 ≤ hexI (t[k + 3]'hk3) := fun h => g4 (hexI_ge.1 h)
                obtain ⟨va, hva⟩ : ∃ v, v = hexI (t[k + 2]'hk2) := ⟨_, rfl⟩
                obtain ⟨vb, hvb⟩ : ∃ v, v = hexI (t[k + 3]'hk3) := ⟨_, rfl⟩
                rw [← hva] at CA0 va0
                rw [← hvb] at CB0 vb0
                have k1 : decide ((0 : Int) ≤ va) = true := by rw [decide_eq_true_iff]; exact va0
                have k2 : decide ((0 : Int) ≤ vb) = false := by rw [decide_eq_false_iff_not]; exact vb0
                clear hva hvb va0 vb0 g1 g2 g3 g4 H
                go_wp2_with (fail)
                refine (CA0.out _).mono ?_
                rintro e w1 ⟨rfl, hb1⟩
                go_wp2_with (fail)
                refine (CB0.out _).mono ?_
                rintro e w2 ⟨rfl, hb2⟩
                replace B1 := Lib.hid (B1.out.trans ((hb1.trans (hb2.mono hb1.size)).mono B1.out.size))
                clear hb1 hb2
                have h1 : List.take 1 (List.drop (k + 1) t) = [t[k + 1]] := by rw [List.drop_eq_getElem_cons hk1]; rfl
                go_wp2_with (fail)
                go_roundw
                case rel => exact ⟨k + 2, _, by omega, by omega, by go_num, by first | rfl | (simp; done), U2.out, B1.out⟩
                case measure => simp [intOf]; omega
            · have U2 := Lib.hid (H.out.esc hk1 g1 (fun _ h => g3 h.2.1))
              have va0 : ¬ 0 ≤ hexI (t[k + 2]'hk2) := fun h => g3 (hexI_ge.1 h)
              obtain ⟨va, hva⟩ : ∃ v, v = hexI (t[k + 2]'hk2) := ⟨_, rfl⟩
              rw [← hva] at CA0 va0
              have k1 : decide ((0 : Int) ≤ va) = false := by rw [decide_eq_false_iff_not]; exact va0
              clear hva va0 g1 g2 g3 H CB0
              go_wp2_with (fail)
              refine (CA0.out _).mono ?_
              rintro e w1 ⟨rfl, hb1⟩
              replace B1 := Lib.hid (B1.out.trans (hb1.mono B1.out.size))
              clear hb1
              have h1 : List.take 1 (List.drop (k + 1) t) = [t[k + 1]] := by rw [List.drop_eq_getElem_cons hk1]; rfl
              go_wp2_with (fail)
              go_roundw
              case rel => exact ⟨k + 2, _, by omega, by omega, by go_num, by first | rfl | (simp; done), U2.out, B1.out⟩
              case measure => simp [intOf]; omega
          · have U2 := Lib.hid (H.out.esc hk1 g1 (fun h => absurd h hk3))
            have d3 : decide (k + 3 < t.length) = false := by simpa using hk3
            have d3' : decide ((k : Int) + 3 < (t.length : Int)) = false := by rw [decide_eq_false_iff_not]; omega
            clear g1 g2 H
            have h1 : List.take 1 (List.drop (k + 1) t) = [t[k + 1]] := by rw [List.drop_eq_getElem_cons hk1]; rfl
            go_wp2_with (fail)
            go_roundw
            case rel => exact ⟨k + 2, _, by omega, by omega, by go_num, by first | rfl | (simp; done), U2.out, B1.out⟩
            case measure => simp [intOf]; omega
        · have U2 := Lib.hid (H.out.esc hk1 g1 (fun _ h => g2 h.1))
          have j2 : ((t[k + 1].toNat : Int) == 120) = false := by rw [beq_eq_false_iff_ne]; omega
          clear g1 g2 H
          have h1 : List.take 1 (List.drop (k + 1) t) = [t[k + 1]] := by rw [List.drop_eq_getElem_cons hk1]; rfl
          go_wp2_with (fail)
          go_roundw
          case rel => exact ⟨k + 2, _, by omega, by omega, by go_num, by first | rfl | (simp; done), U2.out, B1.out⟩
          case measure => simp [intOf]; omega
      · have j1 : ((t[k].toNat : Int) != 92) = true := by rw [bne_iff_ne]; omega
        have U2 := Lib.hid (H.out.plain hk1 g1)
        clear g1 H
        go_wp2_with (fail)
        go_roundw
        case rel => exact ⟨k + 1, _, by omega, by omega, by go_num, by first | rfl | (simp; done), U2.out, B1.out⟩
        case measure => simp [intOf]; omega
    · have d1 : decide ((k : Int) < (t.length : Int) - 1) = false := by rw [decide_eq_false_iff_not]; omega
      have H2 := Lib.hid (H.out.end (by omega))
      clear H
      go_wp2_with (fail)
      go_ret
      exact RetV.str H2.out B1.out
end Go.Proofs.Ytfgjhgecmelccaa
namespace Go.Proofs.Ytfgjhgecmelccaa
open Go.RowKit

set_option maxHeartbeats 400000 in
theorem c_ref04_Check (x : Val) (w : World) (hs : x.s.length ≤ 9223372036854775807) : Calls Try.prog 67 #[x.val] w (RetV w (.bool x.ok)) := by
  unfold Val.val
  go_enter Try.func67, Try.ntmps67
  go_wp2
  all_goals (go_ret; refine RetV.bool ?_ (by repeat (first | exact Below.refl _ _ | refine Below.drew ?_ | refine Below.alloc ?_ (by first | omega | (simp; done) | (simp; omega)) _ | refine Below.setCell ?_ (by first | omega | (simp; done) | (simp; omega)) _ | refine Below.trans ?_ (Below.mono (by assumption) (by first | omega | (simp; done) | (simp; omega))))); simp_all [Val.ok]; try omega)
end Go.Proofs.Ytfgjhgecmelccaa
namespace Go.Proofs.Ytfgjhgecmelccaa
open Go.RowKit

def showV (x : Val) : List UInt8 := if x.ok then (if x.kind = 1 then tens x.n.toNat else if x.kind = 2 then quote x.s else [45]) else []
theorem showV_bad {x : Val} (h : x.ok = false) : showV x = [] := by unfold showV; rw [h]; rfl
theorem showV_num {x : Val} (h : x.ok = true) (hk : x.kind = 1) : showV x = tens x.n.toNat := by unfold showV; rw [if_pos h, if_pos hk]
theorem showV_text {x : Val} (h : x.ok = true) (hk : x.kind = 2) : showV x = quote x.s := by unfold showV; rw [if_pos h, if_neg (by omega), if_pos hk]
theorem showV_none {x : Val} (h : x.ok = true) (h1 : x.kind ≠ 1) (h2 : x.kind ≠ 2) : showV x = [45] := by unfold showV; rw [if_pos h, if_neg h1, if_neg h2]
theorem Val.num_bd {x : Val} (h : x.ok = true) (hk : x.kind = 1) : 0 ≤ x.n ∧ x.n ≤ 1099511627776 := by
  unfold Val.ok at h
  rw [if_neg (by omega), if_pos hk] at h
  simp only [Bool.and_eq_true, decide_eq_true_eq] at h
  exact h.1
theorem Val.text_bd {x : Val} (h : x.ok = true) (hk : x.kind = 2) : x.s.length ≤ 24 := by
  unfold Val.ok at h
  rw [if_neg (by omega), if_neg (by omega), if_pos hk] at h
  simp only [Bool.and_eq_true, decide_eq_true_eq] at h
  exact h.2
set_option maxHeartbeats 1000000 in
theorem c_ref04_Show (x : Val) (w : World) (hs : x.s.length ≤ 9223372036854775807) : Calls Try.prog 54 #[.agg x.c3] w (RetV w (.string (str (showV x)))) := by
  have B0 := Lib.hid (At.new w 57 x.c3)
  have q0 := B0.out.2.cell (show x.c3[0]? = _ from rfl)
  have q1 := B0.out.2.cell (show x.c3[1]? = _ from rfl)
  have q2 := B0.out.2.cell (show x.c3[2]? = _ from rfl)
  have CC := Lib.hid (fun w' => show Calls Try.prog 67 #[.agg x.c3] w' (RetV w' (.bool x.ok)) from c_ref04_Check x w' hs)
  cases hok : x.ok
  case false =>
    rw [hok] at CC
    rw [showV_bad hok]
    clear hok
    go_enter Try.func54, Try.ntmps54
    go_wp2_with (fail)
    refine (CC.out _).mono ?_
    rintro e w1 ⟨rfl, hb1⟩
    go_wp2_with (fail)
    go_ret
    exact RetV.of rfl (B0.out.1.trans (hb1.mono B0.out.1.size))
  case true =>
    rw [hok] at CC
    have hcs : x.kind = 1 ∨ (x.kind ≠ 1 ∧ x.kind = 2) ∨ (x.kind ≠ 1 ∧ x.kind ≠ 2) := by omega
    rcases hcs with g1 | ⟨g1, g2⟩ | ⟨g1, g2⟩
    · obtain ⟨b0, b1⟩ := Val.num_bd hok g1
      obtain ⟨m, hm⟩ : ∃ m : Nat, x.n = m := ⟨x.n.toNat, by omega⟩
      have E := Lib.hid (show showV x = tens m by rw [showV_num hok g1, hm]; rfl)
      have CT := Lib.hid (fun w' => show Calls Try.prog 74 #[.int .i64 x.n] w' (RetV w' (.string (str (tens m)))) by rw [hm]; exact c_ref03_Tens m (by omega) w')
      have j1 : (x.kind == 1) = true := by simpa using g1
      clear hok g1 hm b0 b1
      rw [E.out]
      go_enter Try.func54, Try.ntmps54
      go_wp2_with (fail)
      refine (CC.out _).mono ?_
      rintro e w1 ⟨rfl, hb1⟩
      replace B0 := Lib.hid (B0.out.step hb1)
      clear q0 q1 q2 hb1
      have q0 := B0.out.2.cell (show x.c3[0]? = _ from rfl)
      have q1 := B0.out.2.cell (show x.c3[1]? = _ from rfl)
      have q2 := B0.out.2.cell (show x.c3[2]? = _ from rfl)
      go_wp2_with (fail)
      refine (CT.out _).mono ?_
      rintro e w2 ⟨rfl, hb2⟩
      go_wp2_with (fail)
      go_ret
      exact RetV.of rfl (B0.out.1.trans (hb2.mono B0.out.1.size))
    · have E := Lib.hid (showV_text hok g2)
      have hl := Val.text_bd hok g2
      have CQ := Lib.hid (fun w' => c_ref04_Quote x.s w' (by omega))
      have j1 : (x.kind == 1) = false := by simpa using g1
      have j2 : (x.kind == 2) = true := by simpa using g2
      clear hok g1 g2
      rw [E.out]
      go_enter Try.func54, Try.ntmps54
      go_wp2_with (fail)
      refine (CC.out _).mono ?_
      rintro e w1 ⟨rfl, hb1⟩
      replace B0 := Lib.hid (B0.out.step hb1)
      clear q0 q1 q2 hb1
      have q0 := B0.out.2.cell (show x.c3[0]? = _ from rfl)
      have q1 := B0.out.2.cell (show x.c3[1]? = _ from rfl)
      have q2 := B0.out.2.cell (show x.c3[2]? = _ from rfl)
      go_wp2_with (fail)
      refine (CQ.out _).mono ?_
      rintro e w2 ⟨rfl, hb2⟩
      go_wp2_with (fail)
      go_ret
      exact RetV.of rfl (B0.out.1.trans (hb2.mono B0.out.1.size))
    · have E := Lib.hid (showV_none hok g1 g2)
      have j1 : (x.kind == 1) = false := by simpa using g1
      have j2 : (x.kind == 2) = false := by simpa using g2
      clear hok g1 g2
      rw [E.out]
      go_enter Try.func54, Try.ntmps54
      go_wp2_with (fail)
      refine (CC.out _).mono ?_
      rintro e w1 ⟨rfl, hb1⟩
      replace B0 := Lib.hid (B0.out.step hb1)
      clear q0 q1 q2 hb1
      have q0 := B0.out.2.cell (show x.c3[0]? = _ from rfl)
      go_wp2_with (fail)
      go_ret
      exact RetV.of rfl B0.out.1
/-- What the reference's Read tries. -/
def candV (t : List UInt8) : Val := match intR t 1099511627776 with
  | some n => ⟨1, n, []⟩
  | none => if 1 < t.length ∧ t.head? = some 34 ∧ t.length ≤ 98 then ⟨2, 0, opn (t.drop 1)⟩ else vz
theorem quote_len (u : List UInt8) : (quote u).length ≤ 4 * u.length + 2 := by
  have : (u.flatMap quC).length ≤ 4 * u.length := by
    induction u with
    | nil => simp
    | cons c u ih =>
      have hq : (quC c).length ≤ 4 := by
        unfold quC
        split
        · simp
        · split <;> simp
      rw [List.flatMap_cons, List.length_append, List.length_cons]; omega
  have e : (quote u).length = (u.flatMap quC).length + 2 := by unfold quote; rw [List.length_cons, List.length_append]; rfl
  omega
theorem candV_read (t : List UInt8) : valR t = if showV (candV t) = t then some (candV t) else none := by
  cases hi : intR t 1099511627776 with
  | some n =>
    obtain ⟨e1, e2, e3⟩ := tens_intR hi
    have hc : candV t = ⟨1, n, []⟩ := by unfold candV; rw [hi]
    have hne : t ≠ [45] := fun e => by
      rw [e] at hi
      have h0 : intR [45] 1099511627776 = none := by decide
      rw [h0] at hi; cases hi
    have hok : (⟨1, n, []⟩ : Val).ok = true := by unfold Val.ok; simp; omega
    rw [hc, showV_num hok rfl]
    simp only [Int.toNat_natCast]
    rw [if_pos e1.symm]
    unfold valR; rw [if_neg hne, hi]
  | none =>
    by_cases hb : 1 < t.length ∧ t.head? = some 34 ∧ t.length ≤ 98
    · have hc : candV t = ⟨2, 0, opn (t.drop 1)⟩ := by unfold candV; rw [hi]; exact if_pos hb
      have hne : t ≠ [45] := fun e => by rw [e] at hb; simp at hb
      rw [hc]
      have hv : valR t = match unquote t with | some u => if u.length ≤ 24 then some (⟨2, 0, u⟩ : Val) else none | none => none := by unfold valR; rw [if_neg hne, hi]; rfl
      rw [hv]
      cases hu : unquote t with
      | some u =>
        have hq := quote_unquote hu
        have ho : opn (t.drop 1) = u := by rw [← hq]; unfold quote; simp only [List.drop_succ_cons, List.drop_zero]; exact opn_quote u
        rw [ho]
        by_cases hl : u.length ≤ 24
        · have hok : (⟨2, 0, u⟩ : Val).ok = true := by unfold Val.ok; simp; exact hl
          rw [showV_text hok rfl, if_pos hq]
          exact if_pos hl
        · have hok : (⟨2, 0, u⟩ : Val).ok = false := by unfold Val.ok; simp; omega
          rw [showV_bad hok, if_neg (fun e => by rw [← e] at hb; simp at hb)]
          exact if_neg hl
      | none =>
        simp only
        rw [if_neg]
        intro e
        by_cases hl : (opn (t.drop 1)).length ≤ 24
        · have hok : (⟨2, 0, opn (t.drop 1)⟩ : Val).ok = true := by unfold Val.ok; simp; simpa using hl
          rw [showV_text hok rfl] at e
          have := unquote_quote (opn (t.drop 1))
          simp only at e
          rw [e, hu] at this
          cases this
        · have hok : (⟨2, 0, opn (t.drop 1)⟩ : Val).ok = false := by unfold Val.ok; simp; simpa using hl
          rw [showV_bad hok] at e
          rw [← e] at hb; simp at hb
    · have hc : candV t = vz := by unfold candV; rw [hi]; exact if_neg hb
      rw [hc, showV_none (by decide) (by decide) (by decide)]
      by_cases h45 : t = [45]
      · subst h45; rw [if_pos rfl]; exact valR_dash
      · rw [if_neg (fun e => h45 e.symm)]
        unfold valR
        rw [if_neg h45, hi]
        simp only
        cases hu : unquote t with
        | none => rfl
        | some u =>
          refine if_neg (fun hl => hb ?_)
          have hq := quote_unquote hu
          have := quote_len u
          rw [hq] at this
          refine ⟨?_, ?_, by omega⟩
          · rw [← hq]; unfold quote; simp
          · rw [← hq]; unfold quote; rfl
end Go.Proofs.Ytfgjhgecmelccaa
namespace Go.Proofs.Ytfgjhgecmelccaa
open Go.RowKit

/-- A world behind the making of two blocks, in which they are as they were made. -/
def At2 (w w' : World) (cs ds : Array Value) : Prop := Below w.heap.size w w' ∧ Blk w' w.heap.size cs ∧ Blk w' (w.heap.size + 1) ds
theorem At2.new (w : World) (s t : TypeId) (cs ds : Array Value) : At2 w ((w.alloc (.cells cs s)).alloc (.cells ds t)) cs ds := by
  have h := (At.new w s cs).alloc (.cells ds t)
  refine ⟨h.1, h.2, ?_⟩
  have := Blk.new (w.alloc (.cells cs s)) t ds
  simpa using this
theorem At2.step {w w1 w2 : World} {cs ds : Array Value} (h : At2 w w1 cs ds) (hb : Below w1.heap.size w1 w2) : At2 w w2 cs ds := ⟨h.1.trans (hb.mono h.1.size), h.2.1.below hb h.2.1.lt, h.2.2.below hb h.2.2.lt⟩
end Go.Proofs.Ytfgjhgecmelccaa
