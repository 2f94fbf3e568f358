/-
  Lemmas (walks and plain laws), in one text.
-/
import Derived.Test.YtkofjkadmknmjaaDoorVb7
import Derived.Test.YtkofjkadmknmjaaDoorRows
import Derived.WalkKit
import Derived.WalkSpells
import Derived.WalkLawsBesides
import Derived.Lib.Hide
import Derived.Deep.QuietTactic
import Derived.BigQuiet
import Derived.Maps.AppendAt
import Derived.WalkSmall
import Derived.ProofKit
import Derived.OpenShut
import Derived.JoinedCond
import Derived.Deep.Slices
import Derived.Deep.Fields
import Derived.Carry
import Derived.Shelf.Small.Wraps
import Derived.Shelf.Utf8.RuneCount
import Derived.Shelf.Strconv.Itoa0
import Derived.Shelf.Strconv.Itoa1
import Derived.Shelf.LaysM
import Derived.Shelf.Strconv.Itoa2
import Derived.Shelf.Strconv.Itoa3
import Derived.Shelf.Strings.Search1
import Derived.Shelf.Strings.Search2
import Derived.Shelf.Strings.Search3
import Derived.Shelf.Strings.Count
import Derived.Shelf.Strings.Shaped
import Derived.Shelf.Strings.Prefix
import Derived.Shelf.Strings.Split
import Derived.Shelf.Strings.SplitShaped
import Derived.Shelf.Unicode.DecodeSlow
import Derived.Test.YtkofjkadmknmjaaDoorProg
import Derived.Deep.AppendSrc
import Derived.Lib.AppendStr
import Derived.Laws.BytesArg
import Derived.Lib.AppendIntMem
import Derived.Lib.ItoaLen
import Derived.Test.YtkofjkadmknmjaaDoorTie
import Derived.Lib.LaidTab
import Derived.LaidMore
import Derived.Stop.LaidErr
import Derived.SevenTiedAt
import Derived.HandedShaped
import Derived.Test.YtkofjkadmknmjaaDoorCards
import Derived.Deep.CutBlock
import Derived.Deep.DeepCutAuto
import Derived.Laws.IdiomStrings
import Derived.Outline
import Derived.IntWalk
import Derived.StillTail
import Derived.Laws.Tables
import Derived.Laws.Rows
import Derived.ChangeKeysEq
import Derived.Laws.StructEq
import Derived.Lib.AppendZeros
import Derived.Deep.Quiet
import Derived.OwnWalk
import Derived.Lib.TrailingZeros
import Derived.Lib.SplitLaws
import Derived.Lib.ItoaNum
import Derived.Shelf.Strings.PiecesUse
namespace Go.Proofs.YtkofjkadmknmjaaDoor
open Go.RowKit

/-- How far a text has been put in quotes. -/
def QuoAt (s acc : List UInt8) (k : Nat) : Prop := acc ++ ((s.drop k).flatMap quC ++ [34]) = quote s ∧ acc.length ≤ 4 * k + 1
theorem QuoAt.step {s acc : List UInt8} {k : Nat} (h : QuoAt s acc k) (hk : k < s.length) : QuoAt s (acc ++ quC s[k]) (k + 1) := by
  refine ⟨?_, ?_⟩
  · rw [← h.1, List.drop_eq_getElem_cons hk, List.flatMap_cons]; simp
  · have := h.2
    have hq : (quC s[k]).length ≤ 4 := by
      unfold quC
      split
      · simp
      · split <;> simp
    rw [List.length_append]; omega
theorem quC_hex {c : UInt8} (h : c.toNat < 32 ∨ 126 < c.toNat) : quC c = [92, 120, hexD (c.toNat / 16), hexD (c.toNat % 16)] := by unfold quC; rw [if_pos h]
theorem quC_esc {c : UInt8} (h : ¬ (c.toNat < 32 ∨ 126 < c.toNat)) (h2 : c.toNat = 34 ∨ c.toNat = 92) : quC c = [92, c] := by
  unfold quC; rw [if_neg h, if_pos (h2.imp (fun h => UInt8.toNat_inj.1 h) (fun h => UInt8.toNat_inj.1 h))]
theorem quC_one {c : UInt8} (h : ¬ (c.toNat < 32 ∨ 126 < c.toNat)) (h2 : ¬ (c.toNat = 34 ∨ c.toNat = 92)) : quC c = [c] := by
  unfold quC; rw [if_neg h, if_neg (fun h3 => h2 (h3.imp (fun h => by rw [h]; rfl) (fun h => by rw [h]; rfl)))]
set_option maxHeartbeats 4000000 in
set_option maxRecDepth 4000 in
theorem c_ref04_Quote (s : List UInt8) (w : World) (hs : s.length ≤ 1000000) : Calls Tryd.prog 27 #[.string (str s)] w (RetV w (.string (str (quote s)))) := by
  go_enter Tryd.func27, Tryd.ntmps27
  go_wp2_with (fail)
  rw [show ({ data := #[] } : ByteArray) = str [] from rfl]
  go_loopw [3, 4] (fun t i wr => ∃ (k : Nat) (acc : List UInt8), k ≤ s.length ∧ i = .int .i64 k ∧ t = .string (str acc) ∧ Hid (QuoAt s acc k) ∧ Hid (Below w.heap.size w wr)) (fun _ i _ => s.length - (intOf i).toNat)
  case atStart => exact ⟨0, [34], by omega, rfl, rfl, ⟨rfl, by simp⟩, Below.refl _ _⟩
  case round =>
    obtain ⟨k, acc, hk, rfl, rfl, H, B1⟩ := hrel
    have ha := H.out.2
    by_cases hlt : k < s.length
    · have d1 : decide (k < s.length) = true := by simpa using hlt
      have U2 := Lib.hid (H.out.step hlt)
      have h1 : List.take 1 (List.drop k s) = [s[k]] := by rw [List.drop_eq_getElem_cons hlt]; rfl
      have hc := s[k].toNat_lt
      by_cases g1 : s[k].toNat < 32 ∨ 126 < s[k].toNat
      · have Q := Lib.hid (quC_hex g1)
        have hcs : s[k].toNat < 32 ∨ (¬ s[k].toNat < 32 ∧ 126 < s[k].toNat) := by omega
        replace U2 := Lib.hid (by have := U2.out; rw [Q.out] at this; exact this)
        clear g1 H
        rcases hcs with g1 | ⟨g1, g2⟩
        · have j1 : decide ((s[k].toNat : Int) < 32) = true := by rw [decide_eq_true_iff]; omega
          clear g1
          go_wp2_with (fail)
          refine (c_ref04_digit (s[k].toNat / 16) (by omega) _).mono ?_
          rintro e w1 ⟨rfl, hb1⟩
          go_wp2_with (fail)
          refine (c_ref04_digit (s[k].toNat % 16) (by omega) _).mono ?_
          rintro e w2 ⟨rfl, hb2⟩
          have B2 := Lib.hid (B1.out.trans ((hb1.trans (hb2.mono hb1.size)).mono B1.out.size))
          clear hb1 hb2
          go_wp2_with (fail)
          go_roundw
          case rel =>
            exact ⟨k + 1, _, by omega, by go_num, by first | rfl | (simp; done), U2.out, B2.out⟩
          case measure => simp [intOf]; omega
        · have j1 : decide ((s[k].toNat : Int) < 32) = false := by rw [decide_eq_false_iff_not]; omega
          have j2 : decide ((126 : Int) < (s[k].toNat : Int)) = true := by rw [decide_eq_true_iff]; omega
          clear g1 g2
          go_wp2_with (fail)
          refine (c_ref04_digit (s[k].toNat / 16) (by omega) _).mono ?_
          rintro e w1 ⟨rfl, hb1⟩
          go_wp2_with (fail)
          refine (c_ref04_digit (s[k].toNat % 16) (by omega) _).mono ?_
          rintro e w2 ⟨rfl, hb2⟩
          have B2 := Lib.hid (B1.out.trans ((hb1.trans (hb2.mono hb1.size)).mono B1.out.size))
          clear hb1 hb2
          go_wp2_with (fail)
          go_roundw
          case rel => exact ⟨k + 1, _, by omega, by go_num, by first | rfl | (simp; done), U2.out, B2.out⟩
          case measure => simp [intOf]; omega
      · have j1 : decide ((s[k].toNat : Int) < 32) = false := by rw [decide_eq_false_iff_not]; omega
        have j2 : decide ((126 : Int) < (s[k].toNat : Int)) = false := by rw [decide_eq_false_iff_not]; omega
        by_cases g2 : s[k].toNat = 34 ∨ s[k].toNat = 92
        · replace U2 := Lib.hid (by have := U2.out; rw [quC_esc g1 g2] at this; exact this)
          have hcs : s[k].toNat = 34 ∨ (s[k].toNat ≠ 34 ∧ s[k].toNat = 92) := by omega
          clear g1 g2 H
          rcases hcs with g1 | ⟨g1, g2⟩
          · have j3 : ((s[k].toNat : Int) == 34) = true := by rw [beq_iff_eq]; omega
            clear g1
            go_wp2_with (fail)
            go_roundw
            case rel => exact ⟨k + 1, _, by omega, by go_num, by first | rfl | (simp; done), U2.out, B1.out⟩
            case measure => simp [intOf]; omega
          · have j3 : ((s[k].toNat : Int) == 34) = false := by rw [beq_eq_false_iff_ne]; omega
            have j4 : ((s[k].toNat : Int) == 92) = true := by rw [beq_iff_eq]; omega
            clear g1 g2
            go_wp2_with (fail)
            go_roundw
            case rel => exact ⟨k + 1, _, by omega, by go_num, by first | rfl | (simp; done), U2.out, B1.out⟩
            case measure => simp [intOf]; omega
        · replace U2 := Lib.hid (by have := U2.out; rw [quC_one g1 g2] at this; exact this)
          have j3 : ((s[k].toNat : Int) == 34) = false := by rw [beq_eq_false_iff_ne]; omega
          have j4 : ((s[k].toNat : Int) == 92) = false := by rw [beq_eq_false_iff_ne]; omega
          clear g1 g2 H
          go_wp2_with (fail)
          go_roundw
          case rel => exact ⟨k + 1, _, by omega, by go_num, by first | rfl | (simp; done), U2.out, B1.out⟩
          case measure => simp [intOf]; omega
    · have d1 : decide (k < s.length) = false := by simpa using hlt
      have H2 := Lib.hid (show acc ++ [34] = quote s by rw [← H.out.1, List.drop_eq_nil_of_le (by omega)]; simp)
      clear hlt H
      go_wp2_with (fail)
      go_ret
      exact RetV.str H2.out B1.out
end Go.Proofs.YtkofjkadmknmjaaDoor
namespace Go.Proofs.YtkofjkadmknmjaaDoor
open Go.RowKit

/-- What stands between quotes, by any bytes behind a backslash; the last byte is not read. -/
def opn : List UInt8 → List UInt8
  | [] => []
  | [_] => []
  | c :: d :: r =>
    if c.toNat ≠ 92 then c :: opn (d :: r)
    else match r with
      | a :: b :: r2 => if d.toNat = 120 ∧ hexV a ≤ 15 ∧ hexV b ≤ 15 then UInt8.ofNat (16 * hexV a + hexV b) :: opn r2 else d :: opn (a :: b :: r2)
      | [a] => d :: opn [a]
      | [] => [d]
termination_by l => l.length
theorem opn_one (c : UInt8) : opn [c] = [] := by rw [opn]
theorem opn_two (c d : UInt8) (r : List UInt8) : opn (c :: d :: r) = if c.toNat ≠ 92 then c :: opn (d :: r)
    else match r with
      | a :: b :: r2 => if d.toNat = 120 ∧ hexV a ≤ 15 ∧ hexV b ≤ 15 then UInt8.ofNat (16 * hexV a + hexV b) :: opn r2 else d :: opn (a :: b :: r2)
      | [a] => d :: opn [a]
      | [] => [d] := opn.eq_def (c :: d :: r)
theorem opn_plain {c : UInt8} {r : List UInt8} (h : c.toNat ≠ 92) (hr : r ≠ []) : opn (c :: r) = c :: opn r := by
  cases r with
  | nil => exact absurd rfl hr
  | cons d r => rw [opn_two, if_pos h]
theorem opn_hex {c d a b : UInt8} {r : List UInt8} (hc : c.toNat = 92) (h : d.toNat = 120 ∧ hexV a ≤ 15 ∧ hexV b ≤ 15) : opn (c :: d :: a :: b :: r) = UInt8.ofNat (16 * hexV a + hexV b) :: opn r := by
  rw [opn_two, if_neg (by omega)]
  exact if_pos h
theorem opn_esc {c d : UInt8} {r : List UInt8} (hc : c.toNat = 92) (h : ∀ a b r2, r = a :: b :: r2 → ¬ (d.toNat = 120 ∧ hexV a ≤ 15 ∧ hexV b ≤ 15)) : opn (c :: d :: r) = d :: opn r := by
  rw [opn_two, if_neg (by omega)]
  match r, h with
  | [], _ => simp only; rw [opn]
  | [a], _ => rfl
  | a :: b :: r2, h => exact if_neg (h a b r2 rfl)
theorem opn_quC (c : UInt8) (r : List UInt8) (hr : r ≠ []) : opn (quC c ++ r) = c :: opn r := by
  have hc := c.toNat_lt
  by_cases h : c.toNat < 32 ∨ 126 < c.toNat
  · rw [quC_hex h]
    have e1 := hexV_D (n := c.toNat / 16) (by omega)
    have e2 := hexV_D (n := c.toNat % 16) (by omega)
    simp only [List.cons_append, List.nil_append]
    rw [opn_hex rfl ⟨rfl, by omega, by omega⟩, e1, e2, show 16 * (c.toNat / 16) + c.toNat % 16 = c.toNat by omega]
    simp
  · by_cases h2 : c.toNat = 34 ∨ c.toNat = 92
    · rw [quC_esc h h2]
      simp only [List.cons_append, List.nil_append]
      exact opn_esc rfl (fun a b r2 _ h3 => by omega)
    · rw [quC_one h h2]
      exact opn_plain (by omega) hr
theorem opn_quote : ∀ s : List UInt8, opn (s.flatMap quC ++ [34]) = s
  | [] => opn_one 34
  | c :: s => by rw [List.flatMap_cons, List.append_assoc, opn_quC c _ (by simp), opn_quote s]
end Go.Proofs.YtkofjkadmknmjaaDoor
namespace Go.Proofs.YtkofjkadmknmjaaDoor
open Go.RowKit

theorem one_in (W : World) (e : TypeId) (x : UInt8) : InB (W.alloc (.cells #[.int .u8 (x.toNat : Int)] e)) (some ⟨W.heap.size, 0, none⟩) 1 [x] := by
  refine ⟨by simp, by omega, by simp, .inr ⟨W.heap.size, 0, rfl, by rw [World.size_alloc]; exact Nat.lt_succ_self _, fun i hi j u hu => ?_⟩⟩
  obtain rfl : i = 0 := by simpa using hi
  have hj : j < 1 := (List.getElem?_eq_some_iff.1 hu).1
  obtain rfl : j = 0 := by omega
  rw [World.cell?_alloc_new]
  simp only [bc, List.getElem_cons_zero, List.getElem?_cons_zero, Option.some.injEq] at hu
  rw [← hu]
  rfl
def OpnAt (t acc : List UInt8) (k : Nat) : Prop := acc ++ opn (t.drop k) = opn (t.drop 1) ∧ acc.length ≤ k
theorem OpnAt.end {t acc : List UInt8} {k : Nat} (h : OpnAt t acc k) (hk : t.length ≤ k + 1) : acc = opn (t.drop 1) := by
  rw [← h.1]
  have : opn (t.drop k) = [] := by
    match e : t.drop k with
    | [] => rw [opn]
    | [c] => rw [opn]
    | c :: d :: r =>
      have := congrArg List.length e
      rw [List.length_drop] at this
      simp at this
      omega
  rw [this, List.append_nil]
theorem OpnAt.plain {t acc : List UInt8} {k : Nat} (h : OpnAt t acc k) (hk : k + 1 < t.length) (hc : (t[k]'(by omega)).toNat ≠ 92) : OpnAt t (acc ++ [t[k]'(by omega)]) (k + 1) := by
  refine ⟨?_, by have := h.2; simp; omega⟩
  rw [← h.1, List.drop_eq_getElem_cons (show k < t.length by omega), opn_plain hc (by
    intro e
    have := congrArg List.length e
    rw [List.length_drop] at this
    simp at this; omega)]
  simp
theorem OpnAt.esc {t acc : List UInt8} {k : Nat} (h : OpnAt t acc k) (hk : k + 1 < t.length) (hc : (t[k]'(by omega)).toNat = 92)
    (hn : ∀ (h3 : k + 3 < t.length), ¬ ((t[k + 1]'hk).toNat = 120 ∧ hexV (t[k + 2]'(by omega)) ≤ 15 ∧ hexV (t[k + 3]'h3) ≤ 15)) : OpnAt t (acc ++ [t[k + 1]'hk]) (k + 2) := by
  refine ⟨?_, by have := h.2; simp; omega⟩
  rw [← h.1, List.drop_eq_getElem_cons (show k < t.length by omega), List.drop_eq_getElem_cons hk, opn_esc hc (by
    intro a b r2 e
    have hl := congrArg List.length e
    rw [List.length_drop] at hl
    simp only [List.length_cons] at hl
    have h3 : k + 3 < t.length := by omega
    rw [List.drop_eq_getElem_cons (show k + 1 + 1 < t.length by omega), List.drop_eq_getElem_cons (show k + 1 + 1 + 1 < t.length by omega)] at e
    simp only [List.cons.injEq] at e
    rw [← e.1, ← e.2.1]
    exact hn h3)]
  simp
theorem OpnAt.hex {t acc : List UInt8} {k : Nat} (h : OpnAt t acc k) (h3 : k + 3 < t.length) (hc : (t[k]'(by omega)).toNat = 92)
    (hn : (t[k + 1]'(by omega)).toNat = 120 ∧ hexV (t[k + 2]'(by omega)) ≤ 15 ∧ hexV (t[k + 3]'h3) ≤ 15) : OpnAt t (acc ++ [UInt8.ofNat (16 * hexV (t[k + 2]'(by omega)) + hexV (t[k + 3]'h3))]) (k + 4) := by
  refine ⟨?_, by have := h.2; simp; omega⟩
  rw [← h.1, List.drop_eq_getElem_cons (show k < t.length by omega), List.drop_eq_getElem_cons (show k + 1 < t.length by omega), List.drop_eq_getElem_cons (show k + 1 + 1 < t.length by omega), List.drop_eq_getElem_cons (show k + 1 + 1 + 1 < t.length by omega), opn_hex hc hn]
  simp
theorem hexI_ge {c : UInt8} : 0 ≤ hexI c ↔ hexV c ≤ 15 := by unfold hexI; split <;> omega
theorem hexI_eq {c : UInt8} (h : hexV c ≤ 15) : hexI c = hexV c := by unfold hexI; rw [if_pos h]
set_option maxHeartbeats 4000000 in
set_option maxRecDepth 4000 in
theorem c_ref04_open (t : List UInt8) (w : World) (hs : t.length ≤ 1000000) (hpos : 1 ≤ t.length) : Calls Tryd.prog 75 #[.string (str t)] w (RetV w (.string (str (opn (t.drop 1))))) := by
  go_enter Tryd.func75, Tryd.ntmps75
  go_wp2_with (fail)
  rw [show ({ data := #[] } : ByteArray) = str [] from rfl]
  go_loopw [3, 4] (fun x i wr => ∃ (k : Nat) (acc : List UInt8), 1 ≤ k ∧ k ≤ t.length + 2 ∧ i = .int .i64 k ∧ x = .string (str acc) ∧ Hid (OpnAt t acc k) ∧ Hid (Below w.heap.size w wr)) (fun _ i _ => t.length + 2 - (intOf i).toNat)
  case atStart => exact ⟨1, [], by omega, by omega, rfl, rfl, ⟨rfl, by simp⟩, Below.refl _ _⟩
  case round =>
    obtain ⟨k, acc, hk0, hk, rfl, rfl, H, B1⟩ := hrel
    have ha := H.out.2
    have hz := B1.out.size
    by_cases hk1 : k + 1 < t.length
    · have d1 : decide ((k : Int) < (t.length : Int) - 1) = true := by rw [decide_eq_true_iff]; omega
      have hk0' : k < t.length := by omega
      have h0 : List.take 1 (List.drop k t) = [t[k]] := by rw [List.drop_eq_getElem_cons hk0']; rfl
      by_cases g1 : t[k].toNat = 92
      · have j1 : ((t[k].toNat : Int) != 92) = false := by rw [bne_eq_false_iff_eq]; omega
        by_cases g2 : t[k + 1].toNat = 120
        · have j2 : ((t[k + 1].toNat : Int) == 120) = true := by rw [beq_iff_eq]; omega
          by_cases hk3 : k + 3 < t.length
          · have hk2 : k + 2 < t.length := by omega
            have d3 : decide (k + 3 < t.length) = true := by simpa using hk3
            have d3' : decide ((k : Int) + 3 < (t.length : Int)) = true := by rw [decide_eq_true_iff]; omega
            have CA0 := Lib.hid (fun w' => c_ref04_hex (t[k + 2]'hk2) w')
            have CB0 := Lib.hid (fun w' => c_ref04_hex (t[k + 3]'hk3) w')
            by_cases g3 : hexV (t[k + 2]'hk2) ≤ 15
            · by_cases g4 : hexV (t[k + 3]'hk3) ≤ 15
              · have U2 := Lib.hid (H.out.hex hk3 g1 ⟨g2, g3, g4⟩)
                obtain ⟨va, hva⟩ : ∃ v, v = hexV (t[k + 2]'hk2) := ⟨_, rfl⟩
                obtain ⟨vb, hvb⟩ : ∃ v, v = hexV (t[k + 3]'hk3) := ⟨_, rfl⟩
                have CA := Lib.hid (fun w' => show Calls Tryd.prog 92 #[.int .u8 (t[k + 2]'hk2).toNat] w' (RetV w' (.int .i64 (va : Int))) by have := CA0.out w'; rw [hexI_eq g3, ← hva] at this; exact this)
                have CB := Lib.hid (fun w' => show Calls Tryd.prog 92 #[.int .u8 (t[k + 3]'hk3).toNat] w' (RetV w' (.int .i64 (vb : Int))) by have := CB0.out w'; rw [hexI_eq g4, ← hvb] at this; exact this)
                rw [← hva, ← hvb] at U2
                rw [← hva] at g3
                rw [← hvb] at g4
                have k1 : decide ((0 : Int) ≤ (va : Int)) = true := by simp
                have k2 : decide ((0 : Int) ≤ (vb : Int)) = true := by simp
                obtain ⟨x, hx⟩ : ∃ x : UInt8, 16 * (va : Int) + (vb : Int) = (x.toNat : Int) := ⟨UInt8.ofNat (16 * va + vb), by simp; omega⟩
                have HX := Lib.hid hx
                have hxx := x.toNat_lt
                have XE : UInt8.ofNat (16 * va + vb) = x := by rw [show 16 * va + vb = x.toNat by omega]; simp
                rw [XE] at U2
                clear hva hvb CA0 CB0 g1 g2 H hx XE
                go_wp2_with (fail)
                refine (CA.out _).mono ?_
                rintro e w1 ⟨rfl, hb1⟩
                go_wp2_with (fail)
                refine (CB.out _).mono ?_
                rintro e w2 ⟨rfl, hb2⟩
                have B2 := Lib.hid (B1.out.trans ((hb1.trans (hb2.mono hb1.size)).mono B1.out.size))
                clear hb1 hb2 B1 hz
                have hz := B2.out.size
                go_wp2_with (fail)
                refine wp_region_rel [Sp.eq (.string (str acc)), Sp.eq (.string (str t)), Sp.eq (.int .i64 k), Sp.eq (.int .i64 ((k + 2 : Nat) : Int)), Sp.eq (.int .u8 (t[k + 2]'hk2).toNat), Sp.eq (.int .i64 (va : Int)), Sp.eq (.int .i64 (16 * (va : Int))), Sp.eq (.string (str t)), Sp.eq (.int .i64 k), Sp.eq (.int .i64 ((k + 3 : Nat) : Int)), Sp.eq (.int .u8 (t[k + 3]'hk3).toNat), Sp.eq (.int .i64 (vb : Int)), Sp.eq (.int .i64 (x.toNat : Int)), Sp.eq (.int .u8 (x.toNat : Int)), Sp.slice 1 bc [x], Sp.eq (.string (str [x])), Sp.eq (.string (str (acc ++ [x]))), Sp.eq (.string (str (acc ++ [x])))] 81 (by kernel_rfl) (by kernel_rfl) rfl rfl ?_ ?_
                · refine ⟨?_, ?_, ?_, ?_, ?_, ?_, ?_, ?_, ?_, ?_, ?_, ?_, ?_, ?_, ?_, ?_, ?_, ?_, trivial⟩
                  all_goals (intro u W2 hb2 hd; simp [Deps, Region.binds, Sp.slice_holds, Sp.eq_holds] at hd; simp only [putDeps, dstOf, Region.binds])
                  case refine_1 =>
                    go_wp2_with (fail); exact RelEnd.mk rfl (Below.refl _ _) rfl
                  case refine_2 =>
                    go_wp2_with (fail); exact RelEnd.mk rfl (Below.refl _ _) rfl
                  case refine_3 =>
                    go_wp2_with (fail); exact RelEnd.mk rfl (Below.refl _ _) rfl
                  case refine_4 =>
                    go_wp2_with (fail); exact RelEnd.mk rfl (Below.refl _ _) rfl
                  case refine_5 =>
                    go_wp2_with (fail); exact RelEnd.mk rfl (Below.refl _ _) rfl
                  case refine_6 =>
                    go_wp2_with (go_at_call 92; refine (CA.out _).mono ?_; rintro e3 W3 ⟨rfl, hb3⟩)
                    exact RelEnd.mk rfl hb3 rfl
                  case refine_7 =>
                    go_wp2_with (fail); exact RelEnd.mk rfl (Below.refl _ _) rfl
                  case refine_8 =>
                    go_wp2_with (fail); exact RelEnd.mk rfl (Below.refl _ _) rfl
                  case refine_9 =>
                    go_wp2_with (fail); exact RelEnd.mk rfl (Below.refl _ _) rfl
                  case refine_10 =>
                    go_wp2_with (fail); exact RelEnd.mk rfl (Below.refl _ _) rfl
                  case refine_11 =>
                    go_wp2_with (fail); exact RelEnd.mk rfl (Below.refl _ _) rfl
                  case refine_12 =>
                    go_wp2_with (go_at_call 92; refine (CB.out _).mono ?_; rintro e3 W3 ⟨rfl, hb3⟩)
                    exact RelEnd.mk rfl hb3 rfl
                  case refine_13 =>
                    have hx := HX.out
                    go_wp2_with (fail); exact RelEnd.mk rfl (Below.refl _ _) rfl
                  case refine_14 =>
                    go_wp2_with (fail); exact RelEnd.mk rfl (Below.refl _ _) rfl
                  case refine_15 =>
                    go_wp2_with (fail)
                    refine RelEnd.mk rfl ((Below.refl _ _).alloc (Nat.le_refl _) _) ?_
                    exact ⟨_, 1, rfl, one_in _ _ x⟩
                  case refine_16 =>
                    obtain ⟨A6, c6, e6, in6⟩ := hd
                    have kb := conv_str (P := Tryd.prog) (w := W2) Tryd.underlying63 Tryd.underlying5 Tryd.underlying9 in6
                    simp only [List.length_singleton] at kb e6
                    go_wp2_with (fail)
                    exact RelEnd.mk rfl (Below.refl _ _) rfl
                  case refine_17 =>
                    go_wp2_with (fail); exact RelEnd.mk rfl (Below.refl _ _) rfl
                  case refine_18 =>
                    go_wp2_with (fail); exact RelEnd.mk rfl (Below.refl _ _) rfl
                · intro u W2 hb2 hold
                  simp only [RelHold, Sp.eq_holds, Sp.slice_holds, Nat.reduceAdd] at hold
                  obtain ⟨-, -, -, -, -, -, -, -, -, -, -, -, -, -, -, -, -, hE, -⟩ := hold
                  simp only [putAll, Act.put, Nat.reduceAdd, List.setIfInBounds_toArray, List.set_cons_zero, List.set_cons_succ]
                  rw [hE]
                  replace B2 := Lib.hid (B2.out.trans (hb2.mono hz))
                  clear hb2
                  go_wp2_with (fail)
                  go_roundw
                  case rel => exact ⟨k + 4, _, by omega, by omega, by go_num, rfl, U2.out, B2.out⟩
                  case measure => simp [intOf]; omega
              · have U2 := Lib.hid (H.out.esc hk1 g1 (fun _ h => g4 h.2.2))
                have va0 : 0 ≤ hexI (t[k + 2]'hk2) := hexI_ge.2 g3
                have vb0 : ¬ 0 ≤ hexI (t[k + 3]'hk3) := fun h => g4 (hexI_ge.1 h)
                obtain ⟨va, hva⟩ : ∃ v, v = hexI (t[k + 2]'hk2) := ⟨_, rfl⟩
                obtain ⟨vb, hvb⟩ : ∃ v, v = hexI (t[k + 3]'hk3) := ⟨_, rfl⟩
                rw [← hva] at CA0 va0
                rw [← hvb] at CB0 vb0
                have k1 : decide ((0 : Int) ≤ va) = true := by rw [decide_eq_true_iff]; exact va0
                have k2 : decide ((0 : Int) ≤ vb) = false := by rw [decide_eq_false_iff_not]; exact vb0
                clear hva hvb va0 vb0 g1 g2 g3 g4 H
                go_wp2_with (fail)
                refine (CA0.out _).mono ?_
                rintro e w1 ⟨rfl, hb1⟩
                go_wp2_with (fail)
                refine (CB0.out _).mono ?_
                rintro e w2 ⟨rfl, hb2⟩
                replace B1 := Lib.hid (B1.out.trans ((hb1.trans (hb2.mono hb1.size)).mono B1.out.size))
                clear hb1 hb2
                have h1 : List.take 1 (List.drop (k + 1) t) = [t[k + 1]] := by rw [List.drop_eq_getElem_cons hk1]; rfl
                go_wp2_with (fail)
                go_roundw
                case rel => exact ⟨k + 2, _, by omega, by omega, by go_num, by first | rfl | (simp; done), U2.out, B1.out⟩
                case measure => simp [intOf]; omega
            · have U2 := Lib.hid (H.out.esc hk1 g1 (fun _ h => g3 h.2.1))
              have va0 : ¬ 0 ≤ hexI (t[k + 2]'hk2) := fun h => g3 (hexI_ge.1 h)
              obtain ⟨va, hva⟩ : ∃ v, v = hexI (t[k + 2]'hk2) := ⟨_, rfl⟩
              rw [← hva] at CA0 va0
              have k1 : decide ((0 : Int) ≤ va) = false := by rw [decide_eq_false_iff_not]; exact va0
              clear hva va0 g1 g2 g3 H CB0
              go_wp2_with (fail)
              refine (CA0.out _).mono ?_
              rintro e w1 ⟨rfl, hb1⟩
              replace B1 := Lib.hid (B1.out.trans (hb1.mono B1.out.size))
              clear hb1
              have h1 : List.take 1 (List.drop (k + 1) t) = [t[k + 1]] := by rw [List.drop_eq_getElem_cons hk1]; rfl
              go_wp2_with (fail)
              go_roundw
              case rel => exact ⟨k + 2, _, by omega, by omega, by go_num, by first | rfl | (simp; done), U2.out, B1.out⟩
              case measure => simp [intOf]; omega
          · have U2 := Lib.hid (H.out.esc hk1 g1 (fun h => absurd h hk3))
            have d3 : decide (k + 3 < t.length) = false := by simpa using hk3
            have d3' : decide ((k : Int) + 3 < (t.length : Int)) = false := by rw [decide_eq_false_iff_not]; omega
            clear g1 g2 H
            have h1 : List.take 1 (List.drop (k + 1) t) = [t[k + 1]] := by rw [List.drop_eq_getElem_cons hk1]; rfl
            go_wp2_with (fail)
            go_roundw
            case rel => exact ⟨k + 2, _, by omega, by omega, by go_num, by first | rfl | (simp; done), U2.out, B1.out⟩
            case measure => simp [intOf]; omega
        · have U2 := Lib.hid (H.out.esc hk1 g1 (fun _ h => g2 h.1))
          have j2 : ((t[k + 1].toNat : Int) == 120) = false := by rw [beq_eq_false_iff_ne]; omega
          clear g1 g2 H
          have h1 : List.take 1 (List.drop (k + 1) t) = [t[k + 1]] := by rw [List.drop_eq_getElem_cons hk1]; rfl
          go_wp2_with (fail)
          go_roundw
          case rel => exact ⟨k + 2, _, by omega, by omega, by go_num, by first | rfl | (simp; done), U2.out, B1.out⟩
          case measure => simp [intOf]; omega
      · have j1 : ((t[k].toNat : Int) != 92) = true := by rw [bne_iff_ne]; omega
        have U2 := Lib.hid (H.out.plain hk1 g1)
        clear g1 H
        go_wp2_with (fail)
        go_roundw
        case rel => exact ⟨k + 1, _, by omega, by omega, by go_num, by first | rfl | (simp; done), U2.out, B1.out⟩
        case measure => simp [intOf]; omega
    · have d1 : decide ((k : Int) < (t.length : Int) - 1) = false := by rw [decide_eq_false_iff_not]; omega
      have H2 := Lib.hid (H.out.end (by omega))
      clear H
      go_wp2_with (fail)
      go_ret
      exact RetV.str H2.out B1.out
end Go.Proofs.YtkofjkadmknmjaaDoor
namespace Go.Proofs.YtkofjkadmknmjaaDoor
open Go.RowKit

set_option maxHeartbeats 400000 in
theorem c_value_Check (x : Val) (w : World) (hs : x.s.length ≤ 9223372036854775807) : Calls Tryd.prog 14 #[x.val] w (RetV w (.bool x.ok)) := by
  unfold Val.val
  go_enter Tryd.func14, Tryd.ntmps14
  go_wp2
  all_goals (go_ret; refine RetV.bool ?_ (by repeat (first | exact Below.refl _ _ | refine Below.drew ?_ | refine Below.alloc ?_ (by first | omega | (simp; done) | (simp; omega)) _ | refine Below.setCell ?_ (by first | omega | (simp; done) | (simp; omega)) _ | refine Below.trans ?_ (Below.mono (by assumption) (by first | omega | (simp; done) | (simp; omega))))); simp_all [Val.ok]; try omega)
set_option maxHeartbeats 400000 in
theorem c_ref04_Check (x : Val) (w : World) (hs : x.s.length ≤ 9223372036854775807) : Calls Tryd.prog 15 #[x.val] w (RetV w (.bool x.ok)) := by
  unfold Val.val
  go_enter Tryd.func15, Tryd.ntmps15
  go_wp2
  all_goals (go_ret; refine RetV.bool ?_ (by repeat (first | exact Below.refl _ _ | refine Below.drew ?_ | refine Below.alloc ?_ (by first | omega | (simp; done) | (simp; omega)) _ | refine Below.setCell ?_ (by first | omega | (simp; done) | (simp; omega)) _ | refine Below.trans ?_ (Below.mono (by assumption) (by first | omega | (simp; done) | (simp; omega))))); simp_all [Val.ok]; try omega)
end Go.Proofs.YtkofjkadmknmjaaDoor
