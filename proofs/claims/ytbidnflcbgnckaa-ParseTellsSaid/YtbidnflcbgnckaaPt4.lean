/-
  Lemmas (walks and plain laws), in one text.
-/
import Derived.Test.YtbidnflcbgnckaaPt1
import Derived.Test.YtbidnflcbgnckaaPt2
import Derived.Test.YtbidnflcbgnckaaPt3
import Derived.Defers
import Derived.Laws.EntriesVeiled
import Derived.Laws.Pointers
import Derived.Recover
import Derived.RegionTactic
import Derived.Deep.Quiet
import Derived.StillTail
namespace Go.Proofs.Ytbidnflcbgnckaa
open Go.RowKit

theorem fld3 (a b c : Value) (s : ByteArray) (w : World) : (Instr.field 65 (.agg #[a, b, c, .string s]) 3).run Try.prog w = .ok (.string s) w := by kernel_rfl
set_option maxRecDepth 10000 in
set_option maxHeartbeats 2000000 in
theorem c_parse_field (ws : List Wd) (b : Nat) (N : Int) (w : World) (h : Rdr w b N ws) : Calls Try.prog 71 #[.pointer (some ⟨b, 0, none⟩)] w (RetPr w b N (VL b) (pField N ws)) := by
  have H := Lib.hid h
  have hbl := h.lt
  have hfd := fld3
  clear h
  go_enter Try.func71, Try.ntmps71
  go_wp2_with (fail)
  refine (c_parse_number 8 ws b N _ H.out).mono ?_
  intro e w1 h1
  cases hp : pNum N 8 ws with
  | bad p er =>
    rw [hp] at h1
    obtain ⟨rfl, K1⟩ := h1
    have HP := Lib.hid hp
    clear hp
    go_wp2_with (fail)
    refine ⟨rfl, ?_⟩
    rw [show pField N ws = .bad p er by unfold pField; rw [HP.out]]
    exact ⟨rfl, K1⟩
  | ok n r =>
    rw [hp] at h1
    obtain ⟨v, rfl, hv, K1, R1⟩ := h1
    obtain rfl : v = .int .i64 n := hv
    have HP := Lib.hid hp
    have A1 := Lib.hid (show At11 w b N r w1 from ⟨K1, R1⟩)
    clear hp K1 R1
    go_wp2_with (fail)
    refine (c_parse_at r b N _ A1.out.R).mono ?_
    rintro e w2 ⟨rfl, hb2⟩
    have A2 := Lib.hid (A1.out.below hb2)
    clear hb2
    go_wp2_with (fail)
    refine (next_lit [4] r b N w2 _ A2.out.R rfl (by simp)).mono ?_
    intro e w3 h3
    cases r with
    | nil =>
      obtain ⟨rfl, K9⟩ := h3
      unfold pan
      go_wp2_with (fail)
      refine ⟨rfl, ?_⟩
      rw [show pField N ws = .bad N 3 by unfold pField; rw [HP.out]; simp [pSign]]
      exact ⟨rfl, A2.out.bad K9⟩
    | cons x q =>
      replace h3 : (if x.kind ∈ [4] then _ else _ : Prop) := h3
      by_cases hk : x.kind = 4
      · rw [if_pos (show x.kind ∈ [4] by simp [hk])] at h3
        obtain ⟨rfl, K3, R3⟩ := h3
        have A3 := Lib.hid (A2.out.call K3 R3)
        clear K3 R3
        by_cases s1 : x.s = [61]
        · have c1 : (x.s == [61]) = true := by simpa using s1
          have hs := s1
          clear s1
          go_wp2_with (fail)
          refine (next_lit [2, 3] q b N w3 _ A3.out.R rfl (by simp)).mono ?_
          intro e w4 h4
          cases q with
          | nil =>
            obtain ⟨rfl, K9⟩ := h4
            unfold pan
            go_wp2_with (fail)
            refine ⟨rfl, ?_⟩
            rw [show pField N ws = .bad N 3 by unfold pField; rw [HP.out]; simp [pSign, signOp, pVal, hk, hs]]
            exact ⟨rfl, A3.out.bad K9⟩
          | cons y z =>
            replace h4 : (if y.kind ∈ [2, 3] then _ else _ : Prop) := h4
            by_cases hy : y.kind ∈ [2, 3]
            · rw [if_pos hy] at h4
              obtain ⟨rfl, K4, R4⟩ := h4
              have A4 := Lib.hid (A3.out.call K4 R4)
              have hbz := R4.lt
              clear K4 R4
              have A5 := Lib.hid (A4.out.below (show Below w4.heap.size w4 (w4.alloc (.cells #[.int .i64 y.kind, .int .i64 y.n, .int .i64 y.pos, .string (str y.s)] 65)) from (by repeat (first | exact Below.refl _ _ | refine Below.drew ?_ | refine Below.alloc ?_ (by first | omega | (simp; done) | (simp; omega)) _ | refine Below.setCell ?_ (by first | omega | (simp; done) | (simp; omega)) _ | refine Below.trans ?_ (Below.mono (by assumption) (by first | omega | (simp; done) | (simp; omega)))))))
              by_cases h2 : y.kind = 2
              · have b2 : (y.kind == 2) = true := by simpa using h2
                have HY := Lib.hid h2
                clear h2 hy
                go_wp2_with (fail)
                have h2 := HY.out
                refine (c_parse_node 6 n ⟨1, y.n, []⟩ _).mono ?_
                rintro e w6 ⟨A6, c6, rfl, hb6, i6, hA6⟩
                have hz6 := A5.out.R.lt
                have A6' := Lib.hid (A5.out.below hb6)
                have I6 := Lib.hid i6
                have HA6 := Lib.hid hA6
                clear hb6 i6 hA6
                go_wp2_with (fail)
                go_ret
                rw [show pField N ws = .ok (nd 6 n ⟨1, y.n, []⟩) z by unfold pField; rw [HP.out]; simp [pSign, signOp, pVal, hk, hs, h2]]
                exact ⟨_, rfl, ⟨A6, c6, rfl, I6.out, fun ad e => by have := HA6.out ad e; omega⟩, A6'.out.K, A6'.out.R⟩
              · have b2 : (y.kind == 2) = false := by simpa using h2
                have HY := Lib.hid (show y.kind = 3 by simp at hy; omega)
                clear h2 hy
                go_wp2_with (fail)
                have h3 := HY.out
                refine (c_parse_node 6 n ⟨2, 0, y.s⟩ _).mono ?_
                rintro e w6 ⟨A6, c6, rfl, hb6, i6, hA6⟩
                have hz6 := A5.out.R.lt
                have A6' := Lib.hid (A5.out.below hb6)
                have I6 := Lib.hid i6
                have HA6 := Lib.hid hA6
                clear hb6 i6 hA6
                go_wp2_with (fail)
                go_ret
                rw [show pField N ws = .ok (nd 6 n ⟨2, 0, y.s⟩) z by unfold pField; rw [HP.out]; simp [pSign, signOp, pVal, hk, hs, h3]]
                exact ⟨_, rfl, ⟨A6, c6, rfl, I6.out, fun ad e => by have := HA6.out ad e; omega⟩, A6'.out.K, A6'.out.R⟩
            · rw [if_neg hy] at h4
              have h23 : y.kind ≠ 2 ∧ y.kind ≠ 3 := by simp at hy; exact hy
              obtain ⟨rfl, K9⟩ := h4
              unfold pan
              go_wp2_with (fail)
              refine ⟨rfl, ?_⟩
              rw [show pField N ws = .bad y.pos 3 by unfold pField; rw [HP.out]; simp [pSign, signOp, pVal, hk, hs, h23.1, h23.2]]
              exact ⟨rfl, A3.out.bad K9⟩
        by_cases s2 : x.s = [60]
        · have c1 : (x.s == [61]) = false := by rw [s2]; rfl
          have c2 : (x.s == [60]) = true := by simpa using s2
          have hs := s2
          clear s1 s2
          go_wp2_with (fail)
          refine (next_lit [2, 3] q b N w3 _ A3.out.R rfl (by simp)).mono ?_
          intro e w4 h4
          cases q with
          | nil =>
            obtain ⟨rfl, K9⟩ := h4
            unfold pan
            go_wp2_with (fail)
            refine ⟨rfl, ?_⟩
            rw [show pField N ws = .bad N 3 by unfold pField; rw [HP.out]; simp [pSign, signOp, pVal, hk, hs]]
            exact ⟨rfl, A3.out.bad K9⟩
          | cons y z =>
            replace h4 : (if y.kind ∈ [2, 3] then _ else _ : Prop) := h4
            by_cases hy : y.kind ∈ [2, 3]
            · rw [if_pos hy] at h4
              obtain ⟨rfl, K4, R4⟩ := h4
              have A4 := Lib.hid (A3.out.call K4 R4)
              have hbz := R4.lt
              clear K4 R4
              have A5 := Lib.hid (A4.out.below (show Below w4.heap.size w4 (w4.alloc (.cells #[.int .i64 y.kind, .int .i64 y.n, .int .i64 y.pos, .string (str y.s)] 65)) from (by repeat (first | exact Below.refl _ _ | refine Below.drew ?_ | refine Below.alloc ?_ (by first | omega | (simp; done) | (simp; omega)) _ | refine Below.setCell ?_ (by first | omega | (simp; done) | (simp; omega)) _ | refine Below.trans ?_ (Below.mono (by assumption) (by first | omega | (simp; done) | (simp; omega)))))))
              by_cases h2 : y.kind = 2
              · have b2 : (y.kind == 2) = true := by simpa using h2
                have HY := Lib.hid h2
                clear h2 hy
                go_wp2_with (fail)
                have h2 := HY.out
                refine (c_parse_node 7 n ⟨1, y.n, []⟩ _).mono ?_
                rintro e w6 ⟨A6, c6, rfl, hb6, i6, hA6⟩
                have hz6 := A5.out.R.lt
                have A6' := Lib.hid (A5.out.below hb6)
                have I6 := Lib.hid i6
                have HA6 := Lib.hid hA6
                clear hb6 i6 hA6
                go_wp2_with (fail)
                go_ret
                rw [show pField N ws = .ok (nd 7 n ⟨1, y.n, []⟩) z by unfold pField; rw [HP.out]; simp [pSign, signOp, pVal, hk, hs, h2]]
                exact ⟨_, rfl, ⟨A6, c6, rfl, I6.out, fun ad e => by have := HA6.out ad e; omega⟩, A6'.out.K, A6'.out.R⟩
              · have b2 : (y.kind == 2) = false := by simpa using h2
                have HY := Lib.hid (show y.kind = 3 by simp at hy; omega)
                clear h2 hy
                go_wp2_with (fail)
                have h3 := HY.out
                refine (c_parse_node 7 n ⟨2, 0, y.s⟩ _).mono ?_
                rintro e w6 ⟨A6, c6, rfl, hb6, i6, hA6⟩
                have hz6 := A5.out.R.lt
                have A6' := Lib.hid (A5.out.below hb6)
                have I6 := Lib.hid i6
                have HA6 := Lib.hid hA6
                clear hb6 i6 hA6
                go_wp2_with (fail)
                go_ret
                rw [show pField N ws = .ok (nd 7 n ⟨2, 0, y.s⟩) z by unfold pField; rw [HP.out]; simp [pSign, signOp, pVal, hk, hs, h3]]
                exact ⟨_, rfl, ⟨A6, c6, rfl, I6.out, fun ad e => by have := HA6.out ad e; omega⟩, A6'.out.K, A6'.out.R⟩
            · rw [if_neg hy] at h4
              have h23 : y.kind ≠ 2 ∧ y.kind ≠ 3 := by simp at hy; exact hy
              obtain ⟨rfl, K9⟩ := h4
              unfold pan
              go_wp2_with (fail)
              refine ⟨rfl, ?_⟩
              rw [show pField N ws = .bad y.pos 3 by unfold pField; rw [HP.out]; simp [pSign, signOp, pVal, hk, hs, h23.1, h23.2]]
              exact ⟨rfl, A3.out.bad K9⟩
        by_cases s3 : x.s = [62]
        · have c1 : (x.s == [61]) = false := by rw [s3]; rfl
          have c2 : (x.s == [60]) = false := by rw [s3]; rfl
          have c3 : (x.s == [62]) = true := by simpa using s3
          have hs := s3
          clear s1 s2 s3
          go_wp2_with (fail)
          refine (next_lit [2, 3] q b N w3 _ A3.out.R rfl (by simp)).mono ?_
          intro e w4 h4
          cases q with
          | nil =>
            obtain ⟨rfl, K9⟩ := h4
            unfold pan
            go_wp2_with (fail)
            refine ⟨rfl, ?_⟩
            rw [show pField N ws = .bad N 3 by unfold pField; rw [HP.out]; simp [pSign, signOp, pVal, hk, hs]]
            exact ⟨rfl, A3.out.bad K9⟩
          | cons y z =>
            replace h4 : (if y.kind ∈ [2, 3] then _ else _ : Prop) := h4
            by_cases hy : y.kind ∈ [2, 3]
            · rw [if_pos hy] at h4
              obtain ⟨rfl, K4, R4⟩ := h4
              have A4 := Lib.hid (A3.out.call K4 R4)
              have hbz := R4.lt
              clear K4 R4
              have A5 := Lib.hid (A4.out.below (show Below w4.heap.size w4 (w4.alloc (.cells #[.int .i64 y.kind, .int .i64 y.n, .int .i64 y.pos, .string (str y.s)] 65)) from (by repeat (first | exact Below.refl _ _ | refine Below.drew ?_ | refine Below.alloc ?_ (by first | omega | (simp; done) | (simp; omega)) _ | refine Below.setCell ?_ (by first | omega | (simp; done) | (simp; omega)) _ | refine Below.trans ?_ (Below.mono (by assumption) (by first | omega | (simp; done) | (simp; omega)))))))
              by_cases h2 : y.kind = 2
              · have b2 : (y.kind == 2) = true := by simpa using h2
                have HY := Lib.hid h2
                clear h2 hy
                go_wp2_with (fail)
                have h2 := HY.out
                refine (c_parse_node 8 n ⟨1, y.n, []⟩ _).mono ?_
                rintro e w6 ⟨A6, c6, rfl, hb6, i6, hA6⟩
                have hz6 := A5.out.R.lt
                have A6' := Lib.hid (A5.out.below hb6)
                have I6 := Lib.hid i6
                have HA6 := Lib.hid hA6
                clear hb6 i6 hA6
                go_wp2_with (fail)
                go_ret
                rw [show pField N ws = .ok (nd 8 n ⟨1, y.n, []⟩) z by unfold pField; rw [HP.out]; simp [pSign, signOp, pVal, hk, hs, h2]]
                exact ⟨_, rfl, ⟨A6, c6, rfl, I6.out, fun ad e => by have := HA6.out ad e; omega⟩, A6'.out.K, A6'.out.R⟩
              · have b2 : (y.kind == 2) = false := by simpa using h2
                have HY := Lib.hid (show y.kind = 3 by simp at hy; omega)
                clear h2 hy
                go_wp2_with (fail)
                have h3 := HY.out
                refine (c_parse_node 8 n ⟨2, 0, y.s⟩ _).mono ?_
                rintro e w6 ⟨A6, c6, rfl, hb6, i6, hA6⟩
                have hz6 := A5.out.R.lt
                have A6' := Lib.hid (A5.out.below hb6)
                have I6 := Lib.hid i6
                have HA6 := Lib.hid hA6
                clear hb6 i6 hA6
                go_wp2_with (fail)
                go_ret
                rw [show pField N ws = .ok (nd 8 n ⟨2, 0, y.s⟩) z by unfold pField; rw [HP.out]; simp [pSign, signOp, pVal, hk, hs, h3]]
                exact ⟨_, rfl, ⟨A6, c6, rfl, I6.out, fun ad e => by have := HA6.out ad e; omega⟩, A6'.out.K, A6'.out.R⟩
            · rw [if_neg hy] at h4
              have h23 : y.kind ≠ 2 ∧ y.kind ≠ 3 := by simp at hy; exact hy
              obtain ⟨rfl, K9⟩ := h4
              unfold pan
              go_wp2_with (fail)
              refine ⟨rfl, ?_⟩
              rw [show pField N ws = .bad y.pos 3 by unfold pField; rw [HP.out]; simp [pSign, signOp, pVal, hk, hs, h23.1, h23.2]]
              exact ⟨rfl, A3.out.bad K9⟩
        by_cases s4 : x.s = [126]
        · have c1 : (x.s == [61]) = false := by rw [s4]; rfl
          have c2 : (x.s == [60]) = false := by rw [s4]; rfl
          have c3 : (x.s == [62]) = false := by rw [s4]; rfl
          have c4 : (x.s == [126]) = true := by simpa using s4
          have hs := s4
          clear s1 s2 s3 s4
          go_wp2_with (fail)
          refine (next_lit [3] q b N w3 _ A3.out.R rfl (by simp)).mono ?_
          intro e w4 h4
          cases q with
          | nil =>
            obtain ⟨rfl, K9⟩ := h4
            unfold pan
            go_wp2_with (fail)
            refine ⟨rfl, ?_⟩
            rw [show pField N ws = .bad N 3 by unfold pField; rw [HP.out]; simp [pSign, signOp, pVal, hk, hs]]
            exact ⟨rfl, A3.out.bad K9⟩
          | cons y z =>
            replace h4 : (if y.kind ∈ [3] then _ else _ : Prop) := h4
            by_cases hy : y.kind = 3
            · rw [if_pos (show y.kind ∈ [3] by simp [hy])] at h4
              obtain ⟨rfl, K4, R4⟩ := h4
              have A5 := Lib.hid (A3.out.call K4 R4)
              clear K4 R4
              go_wp2_with (fail)
              refine (c_parse_node 9 n ⟨2, 0, y.s⟩ _).mono ?_
              rintro e w6 ⟨A6, c6, rfl, hb6, i6, hA6⟩
              have hz6 := A5.out.R.lt
              have A6' := Lib.hid (A5.out.below hb6)
              have I6 := Lib.hid i6
              have HA6 := Lib.hid hA6
              clear hb6 i6 hA6
              go_wp2_with (fail)
              go_ret
              rw [show pField N ws = .ok (nd 9 n ⟨2, 0, y.s⟩) z by unfold pField; rw [HP.out]; simp [pSign, signOp, pVal, hk, hs, hy]]
              exact ⟨_, rfl, ⟨A6, c6, rfl, I6.out, fun ad e => by have := HA6.out ad e; omega⟩, A6'.out.K, A6'.out.R⟩
            · rw [if_neg (show y.kind ∉ [3] by simpa using hy)] at h4
              obtain ⟨rfl, K9⟩ := h4
              unfold pan
              go_wp2_with (fail)
              refine ⟨rfl, ?_⟩
              rw [show pField N ws = .bad y.pos 3 by unfold pField; rw [HP.out]; simp [pSign, signOp, pVal, hk, hs, hy]]
              exact ⟨rfl, A3.out.bad K9⟩
        · have c1 : (x.s == [61]) = false := by simpa using s1
          have c2 : (x.s == [60]) = false := by simpa using s2
          have c3 : (x.s == [62]) = false := by simpa using s3
          have c4 : (x.s == [126]) = false := by simpa using s4
          have HS := Lib.hid (show x.s ≠ [61] ∧ x.s ≠ [60] ∧ x.s ≠ [62] ∧ x.s ≠ [126] from ⟨s1, s2, s3, s4⟩)
          have HX := Lib.hid hk
          clear s1 s2 s3 s4 hk
          go_wp2_with (fail)
          refine ⟨rfl, ?_⟩
          rw [show pField N ws = .bad x.pos 3 by unfold pField; rw [HP.out]; simp [pSign, signOp, HX.out, HS.out.1, HS.out.2.1, HS.out.2.2.1, HS.out.2.2.2]]
          exact ⟨rfl, A3.out.K⟩
      · rw [if_neg (show x.kind ∉ [4] by simpa using hk)] at h3
        obtain ⟨rfl, K9⟩ := h3
        unfold pan
        go_wp2_with (fail)
        refine ⟨rfl, ?_⟩
        rw [show pField N ws = .bad x.pos 3 by unfold pField; rw [HP.out]; simp [pSign, signOp, hk]]
        exact ⟨rfl, A2.out.bad K9⟩
end Go.Proofs.Ytbidnflcbgnckaa
namespace Go.Proofs.Ytbidnflcbgnckaa
open Go.RowKit

/-- A join of one list, of two, laid in a new row. -/
theorem join_lit (op : Int) (os : List Kid) (w1 w2 : World) (hk : ∀ o ∈ os, InN w1 o.1 o.2.1 o.2.2) (h : w2 = w1.alloc (.cells (os.flatMap Kid.cells).toArray 23)) (hl : os.length ≤ 4294967296) (hs : sumLen os ≤ 4294967295) (hj : (joined op (os.flatMap (·.2.2))).length ≤ 4294967296) :
    Calls Try.prog 52 #[.int .i64 op, .slice (some ⟨w1.heap.size, 0, none⟩) os.length os.length] w2 (RetL w1 (joined op (os.flatMap (·.2.2)))) := by
  have b1 : Below w1.heap.size w1 w2 := by rw [h]; exact (by repeat (first | exact Below.refl _ _ | refine Below.drew ?_ | refine Below.alloc ?_ (by first | omega | (simp; done) | (simp; omega)) _ | refine Below.setCell ?_ (by first | omega | (simp; done) | (simp; omega)) _ | refine Below.trans ?_ (Below.mono (by assumption) (by first | omega | (simp; done) | (simp; omega)))))
  have s1 := b1.size
  refine (c_pred_Join op os _ os.length w2 (by rw [h]; exact In.lit (k := 1) (cs := Kid.cells) Kid.cells_len w1 os _ _ rfl hl) (fun o ho => (hk o ho).below b1) hs).mono ?_
  rintro e w3 ⟨v, rfl, own, hb⟩
  obtain ⟨g, c, rfl, hg, hi⟩ := own_in5 own (by simp [joined]) hj
  exact ⟨_, _, rfl, b1.trans (hb.mono s1), hi, fun ad e => by injection e with e; subst e; show w1.heap.size ≤ g; omega⟩
/-- How many words are left, by the reader's block. -/
def leftW (w : World) (b : Nat) : Nat := match w.cell? ⟨b, 0, none⟩ with
  | some (.slice _ n _) => n
  | _ => 0
theorem leftW_of {w : World} {b : Nat} {N : Int} {ws : List Wd} (h : Rdr w b N ws) : leftW w b = ws.length := by
  obtain ⟨A, c, h1, -⟩ := h
  unfold leftW
  rw [h1.cell (i := 0) rfl]; rfl
def OneC (N : Int) (f : Nat) : Prop := ∀ (ws : List Wd) (b : Nat) (w : World), Rdr w b N ws → ws.length ≤ 100000 → 4 * ws.length + 1 ≤ f → Calls Try.prog 61 #[.pointer (some ⟨b, 0, none⟩)] w (RetPr w b N (VL b) (pOne N f ws))
def AllC (N : Int) (f : Nat) : Prop := ∀ (ws : List Wd) (b : Nat) (w : World), Rdr w b N ws → ws.length ≤ 100000 → 4 * ws.length + 2 ≤ f → Calls Try.prog 50 #[.pointer (some ⟨b, 0, none⟩)] w (RetPr w b N (VL b) (pAll N f ws))
def AnyC (N : Int) (f : Nat) : Prop := ∀ (ws : List Wd) (b : Nat) (w : World), Rdr w b N ws → ws.length ≤ 100000 → 4 * ws.length + 3 ≤ f → Calls Try.prog 26 #[.pointer (some ⟨b, 0, none⟩)] w (RetPr w b N (VL b) (pAny N f ws))
set_option maxRecDepth 10000 in
set_option maxHeartbeats 2000000 in
theorem all_of_one (N : Int) (f : Nat) (IH : ∀ f' ≤ f, OneC N f') : AllC N (f + 1) := by
  -- all the function's name, one the inner one's, pOne the inner plain, pAllL the plain loop, pAll the plain whole, sAnd the word, 11 the op, pOne_fit fit of the inner
  intro ws b w h hws hf
  have H := Lib.hid h
  have hbl := h.lt
  clear h
  go_enter Try.func50, Try.ntmps50
  go_wp2_with (fail)
  refine (IH f (Nat.le_refl _) ws b w H.out hws (by omega)).mono ?_
  intro e w1 h1
  have ht := pOne_fit N f ws
  cases hp : pOne N f ws with
  | bad p er =>
    rw [hp] at h1
    obtain ⟨rfl, K1⟩ := h1
    have HP := Lib.hid hp
    clear hp ht
    go_wp2_with (fail)
    refine ⟨rfl, ?_⟩
    rw [show pAll N (f + 1) ws = .bad p er by unfold pAll; rw [HP.out]]
    exact ⟨rfl, K1⟩
  | ok l r =>
    rw [hp] at h1 ht
    obtain ⟨v, rfl, hv, K1, R1⟩ := h1
    obtain ⟨t1, t2, -⟩ := ht
    have HP := Lib.hid (show pAll N (f + 1) ws = pAllL N f l r by unfold pAll; rw [hp])
    have A1 := Lib.hid (show At11 w b N r w1 from ⟨K1, R1⟩)
    have HV := Lib.hid hv
    obtain ⟨X, hX⟩ : ∃ X, X = pAllL N f l r := ⟨_, rfl⟩
    have HT := Lib.hid (show pAll N (f + 1) ws = X from HP.out.trans hX.symm)
    have HX := Lib.hid hX
    clear hp K1 R1 hv hX
    go_wp2_with (fail)
    go_loopw [3] (fun v wr => ∃ (f' : Nat) (l' : List Node) (r' : List Wd), f' ≤ f ∧ 4 * r'.length + 1 ≤ f' ∧ 1 ≤ l'.length ∧ l'.length + r'.length ≤ 100000 ∧ Hid (X = pAllL N f' l' r') ∧ Hid (At11 w b N r' wr) ∧ Hid (VL b wr l' v)) (fun _ wr => leftW wr b)
    case atStart => exact ⟨f, l, r, by omega, by omega, t1, by omega, HX, A1, HV⟩
    case round =>
      clear HX A1 HV
      obtain ⟨f', l', r', i1, i2, i3, i4, IX, IA, IV⟩ := hrel
      go_wp2_with (fail)
      refine (c_parse_is 1 sAnd r' b N _ IA.out.R).mono ?_
      rintro e w2 ⟨rfl, K2, R2⟩
      obtain ⟨f2, rfl⟩ : ∃ f2, f' = f2 + 1 := ⟨f' - 1, by omega⟩
      have hlw := leftW_of IA.out.R
      obtain ⟨A0, c0, rfl, j1, j2⟩ := IV.out
      have J1 := Lib.hid (j1.kept4 j2 K2)
      have J2 := Lib.hid j2
      clear j1 j2
      cases hw : isW 1 sAnd r'
      · rw [hw, if_neg (by simp)] at R2
        have A2 := Lib.hid (IA.out.call K2 R2)
        have HX := Lib.hid (show X = .ok l' r' by rw [IX.out]; unfold pAllL; rw [hw, if_neg (by simp)])
        clear K2 R2 hw
        go_wp2_with (fail)
        go_ret
        rw [HT.out, HX.out]
        exact ⟨_, rfl, ⟨A0, c0, rfl, J1.out, J2.out⟩, A2.out.K, A2.out.R⟩
      · rw [hw, if_pos rfl] at R2
        have A2 := Lib.hid (IA.out.call K2 R2)
        obtain ⟨n1, n2⟩ := isW_len hw
        have HW := Lib.hid hw
        clear K2 R2 hw
        go_wp2_with (fail)
        refine (IH f2 (by omega) (r'.drop 1) b _ A2.out.R (by omega) (by omega)).mono ?_
        intro e w3 h3
        have ht := pOne_fit N f2 (r'.drop 1)
        cases hp : pOne N f2 (r'.drop 1) with
        | bad p er =>
          rw [hp] at h3
          obtain ⟨rfl, K3⟩ := h3
          have HX := Lib.hid (show X = .bad p er by rw [IX.out]; unfold pAllL; rw [HW.out, if_pos rfl, hp])
          clear hp ht
          go_wp2_with (fail)
          refine ⟨rfl, ?_⟩
          rw [HT.out, HX.out]
          exact ⟨rfl, A2.out.bad K3⟩
        | ok m q =>
          rw [hp] at h3 ht
          obtain ⟨v3, rfl, hv3, K3, R3⟩ := h3
          obtain ⟨t4, t5, -⟩ := ht
          have HX := Lib.hid (show X = pAllL N f2 (joined 11 (l' ++ m)) q by rw [IX.out]; show (if isW 1 sAnd r' then _ else _) = _; rw [HW.out, if_pos rfl, hp])
          obtain ⟨A3, c3, rfl, k1, k2⟩ := hv3
          have A3' := Lib.hid (A2.out.call K3 R3)
          have J3 := Lib.hid (J1.out.kept4 J2.out K3)
          have J4 := Lib.hid k1
          clear hp K3 R3 k1 k2
          go_wp2_with (fail)
          refine (join_lit 11 [(A0, c0, l'), (A3, c3, m)] w3 _ (fun o ho => by
            simp only [List.mem_cons, List.not_mem_nil, or_false] at ho
            rcases ho with rfl | rfl
            · exact J3.out
            · exact J4.out) rfl (by simp) (by simp [sumLen]; omega) (by simp [joined]; omega)).mono ?_
          rintro e w4 ⟨A4, c4, rfl, hb4, i4', hA4⟩
          rw [show ([(A0, c0, l'), (A3, c3, m)] : List Kid).flatMap (·.2.2) = l' ++ m by simp] at i4' ⊢
          have A4' := Lib.hid (A3'.out.below hb4)
          have hz := A3'.out.R.lt
          have V4 := Lib.hid (show VL b w4 (joined 11 (l' ++ m)) (.slice A4 (joined 11 (l' ++ m)).length c4) from ⟨A4, c4, rfl, i4', fun ad e => by have := hA4 ad e; omega⟩)
          have hl4 := leftW_of A4'.out.R
          clear hb4 i4' hA4
          go_wp2_with (fail)
          go_roundw
          case rel => exact ⟨f2, joined 11 (l' ++ m), q, by omega, by omega, by simp [joined], by simp [joined]; omega, HX, A4', V4⟩
          case measure => rw [hl4, hlw]; omega
set_option maxRecDepth 10000 in
set_option maxHeartbeats 2000000 in
theorem any_of_all (N : Int) (f : Nat) (IH : ∀ f' ≤ f, AllC N f') : AnyC N (f + 1) := by
  -- any the function's name, all the inner one's, pAll the inner plain, pAnyL the plain loop, pAny the plain whole, sOr the word, 12 the op, pAll_fit fit of the inner
  intro ws b w h hws hf
  have H := Lib.hid h
  have hbl := h.lt
  clear h
  go_enter Try.func26, Try.ntmps26
  go_wp2_with (fail)
  refine (IH f (Nat.le_refl _) ws b w H.out hws (by omega)).mono ?_
  intro e w1 h1
  have ht := pAll_fit N f ws
  cases hp : pAll N f ws with
  | bad p er =>
    rw [hp] at h1
    obtain ⟨rfl, K1⟩ := h1
    have HP := Lib.hid hp
    clear hp ht
    go_wp2_with (fail)
    refine ⟨rfl, ?_⟩
    rw [show pAny N (f + 1) ws = .bad p er by unfold pAny; rw [HP.out]]
    exact ⟨rfl, K1⟩
  | ok l r =>
    rw [hp] at h1 ht
    obtain ⟨v, rfl, hv, K1, R1⟩ := h1
    obtain ⟨t1, t2, -⟩ := ht
    have HP := Lib.hid (show pAny N (f + 1) ws = pAnyL N f l r by unfold pAny; rw [hp])
    have A1 := Lib.hid (show At11 w b N r w1 from ⟨K1, R1⟩)
    have HV := Lib.hid hv
    obtain ⟨X, hX⟩ : ∃ X, X = pAnyL N f l r := ⟨_, rfl⟩
    have HT := Lib.hid (show pAny N (f + 1) ws = X from HP.out.trans hX.symm)
    have HX := Lib.hid hX
    clear hp K1 R1 hv hX
    go_wp2_with (fail)
    go_loopw [3] (fun v wr => ∃ (f' : Nat) (l' : List Node) (r' : List Wd), f' ≤ f ∧ 4 * r'.length + 1 ≤ f' ∧ 1 ≤ l'.length ∧ l'.length + r'.length ≤ 100000 ∧ Hid (X = pAnyL N f' l' r') ∧ Hid (At11 w b N r' wr) ∧ Hid (VL b wr l' v)) (fun _ wr => leftW wr b)
    case atStart => exact ⟨f, l, r, by omega, by omega, t1, by omega, HX, A1, HV⟩
    case round =>
      clear HX A1 HV
      obtain ⟨f', l', r', i1, i2, i3, i4, IX, IA, IV⟩ := hrel
      go_wp2_with (fail)
      refine (c_parse_is 1 sOr r' b N _ IA.out.R).mono ?_
      rintro e w2 ⟨rfl, K2, R2⟩
      obtain ⟨f2, rfl⟩ : ∃ f2, f' = f2 + 1 := ⟨f' - 1, by omega⟩
      have hlw := leftW_of IA.out.R
      obtain ⟨A0, c0, rfl, j1, j2⟩ := IV.out
      have J1 := Lib.hid (j1.kept4 j2 K2)
      have J2 := Lib.hid j2
      clear j1 j2
      cases hw : isW 1 sOr r'
      · rw [hw, if_neg (by simp)] at R2
        have A2 := Lib.hid (IA.out.call K2 R2)
        have HX := Lib.hid (show X = .ok l' r' by rw [IX.out]; unfold pAnyL; rw [hw, if_neg (by simp)])
        clear K2 R2 hw
        go_wp2_with (fail)
        go_ret
        rw [HT.out, HX.out]
        exact ⟨_, rfl, ⟨A0, c0, rfl, J1.out, J2.out⟩, A2.out.K, A2.out.R⟩
      · rw [hw, if_pos rfl] at R2
        have A2 := Lib.hid (IA.out.call K2 R2)
        obtain ⟨n1, n2⟩ := isW_len hw
        have HW := Lib.hid hw
        clear K2 R2 hw
        go_wp2_with (fail)
        refine (IH f2 (by omega) (r'.drop 1) b _ A2.out.R (by omega) (by omega)).mono ?_
        intro e w3 h3
        have ht := pAll_fit N f2 (r'.drop 1)
        cases hp : pAll N f2 (r'.drop 1) with
        | bad p er =>
          rw [hp] at h3
          obtain ⟨rfl, K3⟩ := h3
          have HX := Lib.hid (show X = .bad p er by rw [IX.out]; unfold pAnyL; rw [HW.out, if_pos rfl, hp])
          clear hp ht
          go_wp2_with (fail)
          refine ⟨rfl, ?_⟩
          rw [HT.out, HX.out]
          exact ⟨rfl, A2.out.bad K3⟩
        | ok m q =>
          rw [hp] at h3 ht
          obtain ⟨v3, rfl, hv3, K3, R3⟩ := h3
          obtain ⟨t4, t5, -⟩ := ht
          have HX := Lib.hid (show X = pAnyL N f2 (joined 12 (l' ++ m)) q by rw [IX.out]; show (if isW 1 sOr r' then _ else _) = _; rw [HW.out, if_pos rfl, hp])
          obtain ⟨A3, c3, rfl, k1, k2⟩ := hv3
          have A3' := Lib.hid (A2.out.call K3 R3)
          have J3 := Lib.hid (J1.out.kept4 J2.out K3)
          have J4 := Lib.hid k1
          clear hp K3 R3 k1 k2
          go_wp2_with (fail)
          refine (join_lit 12 [(A0, c0, l'), (A3, c3, m)] w3 _ (fun o ho => by
            simp only [List.mem_cons, List.not_mem_nil, or_false] at ho
            rcases ho with rfl | rfl
            · exact J3.out
            · exact J4.out) rfl (by simp) (by simp [sumLen]; omega) (by simp [joined]; omega)).mono ?_
          rintro e w4 ⟨A4, c4, rfl, hb4, i4', hA4⟩
          rw [show ([(A0, c0, l'), (A3, c3, m)] : List Kid).flatMap (·.2.2) = l' ++ m by simp] at i4' ⊢
          have A4' := Lib.hid (A3'.out.below hb4)
          have hz := A3'.out.R.lt
          have V4 := Lib.hid (show VL b w4 (joined 12 (l' ++ m)) (.slice A4 (joined 12 (l' ++ m)).length c4) from ⟨A4, c4, rfl, i4', fun ad e => by have := hA4 ad e; omega⟩)
          have hl4 := leftW_of A4'.out.R
          clear hb4 i4' hA4
          go_wp2_with (fail)
          go_roundw
          case rel => exact ⟨f2, joined 12 (l' ++ m), q, by omega, by omega, by simp [joined], by simp [joined]; omega, HX, A4', V4⟩
          case measure => rw [hl4, hlw]; omega
end Go.Proofs.Ytbidnflcbgnckaa
namespace Go.Proofs.Ytbidnflcbgnckaa
open Go.RowKit

theorem pOne_open (N : Int) (f : Nat) (x : Wd) (r : List Wd) (h : x.kind = 4 ∧ x.s = [40]) : pOne N (f + 1) (x :: r) = pClose N (pAny N f r) := by
  show (if x.kind = 4 ∧ x.s = [40] then _ else _) = _
  rw [if_pos h]
theorem pOne_word (N : Int) (f : Nat) (x : Wd) (r : List Wd) (h : x.kind = 1) (hs : x.s ≠ sNot) : pOne N (f + 1) (x :: r) = pWord N x r := by
  show (if x.kind = 4 ∧ x.s = [40] then _ else if x.kind = 1 then (if x.s = sNot then _ else _) else _) = _
  rw [if_neg (by omega), if_pos h, if_neg hs]
theorem pOne_not (N : Int) (f : Nat) (x : Wd) (r : List Wd) (h : x.kind = 1) (hs : x.s = sNot) : pOne N (f + 1) (x :: r) = pNot (pOne N f r) := by
  show (if x.kind = 4 ∧ x.s = [40] then _ else if x.kind = 1 then (if x.s = sNot then _ else _) else _) = _
  rw [if_neg (by omega), if_pos h, if_pos hs]
theorem pOne_bad (N : Int) (f : Nat) (x : Wd) (r : List Wd) (h : x.kind ≠ 1) (hs : ¬ (x.kind = 4 ∧ x.s = [40])) : pOne N (f + 1) (x :: r) = .bad x.pos 3 := by
  show (if x.kind = 4 ∧ x.s = [40] then _ else if x.kind = 1 then (if x.s = sNot then _ else _) else _) = _
  rw [if_neg hs, if_neg h]
set_option maxRecDepth 10000 in
set_option maxHeartbeats 4000000 in
theorem one_of_any (N : Int) (f : Nat) (IH1 : ∀ f' ≤ f, OneC N f') (IH2 : ∀ f' ≤ f, AnyC N f') : OneC N (f + 1) := by
  intro ws b w h hws hf
  have H := Lib.hid h
  have hbl := h.lt
  clear h
  go_enter Try.func61, Try.ntmps61
  go_wp2_with (fail)
  refine (c_parse_is 4 [40] ws b N _ H.out).mono ?_
  rintro e w1 ⟨rfl, K1, R1⟩
  cases ws with
  | nil =>
    have A1 := Lib.hid (show At11 w b N [] w1 from ⟨K1, R1⟩)
    clear K1 R1
    go_wp2_with (fail)
    refine (next_lit [1] [] b N w1 _ A1.out.R rfl (by simp)).mono ?_
    rintro e w2 ⟨rfl, K2⟩
    unfold pan
    go_wp2_with (fail)
    exact ⟨rfl, rfl, A1.out.bad K2⟩
  | cons x r =>
    rw [List.length_cons] at hws hf
    by_cases ho : x.kind = 4 ∧ x.s = [40]
    · have hw : isW 4 [40] (x :: r) = true := by simp [isW, ho.1, ho.2]
      rw [hw, if_pos rfl] at R1
      rw [hw]
      have W := Lib.hid (pOne_open N f x r ho)
      have A1 := Lib.hid (show At11 w b N r w1 from ⟨K1, R1⟩)
      clear K1 R1 hw ho
      go_wp2_with (fail)
      refine (IH2 f (Nat.le_refl _) r b _ A1.out.R (by omega) (by omega)).mono ?_
      intro e w2 h2
      cases hp : pAny N f r with
      | bad p er =>
        rw [hp] at h2
        obtain ⟨rfl, K2⟩ := h2
        have HP := Lib.hid (show pOne N (f + 1) (x :: r) = .bad p er by rw [W.out, hp]; rfl)
        clear hp
        go_wp2_with (fail)
        refine ⟨rfl, ?_⟩
        rw [HP.out]
        exact ⟨rfl, A1.out.bad K2⟩
      | ok l q =>
        rw [hp] at h2
        obtain ⟨v, rfl, hv, K2, R2⟩ := h2
        obtain ⟨A0, c0, rfl, j1, j2⟩ := hv
        have A2 := Lib.hid (A1.out.call K2 R2)
        have J1 := Lib.hid j1
        have J2 := Lib.hid j2
        have HP := Lib.hid (show pOne N (f + 1) (x :: r) = pClose N (.ok l q) by rw [W.out, hp])
        clear hp K2 R2 j1 j2
        go_wp2_with (fail)
        refine (c_parse_is 4 [41] q b N _ A2.out.R).mono ?_
        rintro e w3 ⟨rfl, K3, R3⟩
        have J3 := Lib.hid (J1.out.kept4 J2.out K3)
        cases hw : isW 4 [41] q
        · rw [hw, if_neg (by simp)] at R3
          have A3 := Lib.hid (A2.out.call K3 R3)
          have HX := Lib.hid (show pOne N (f + 1) (x :: r) = .bad (posW N q) 3 by rw [HP.out]; simp [pClose, hw])
          clear K3 R3 hw
          go_wp2_with (fail)
          refine (c_parse_at q b N _ A3.out.R).mono ?_
          rintro e w4 ⟨rfl, hb4⟩
          go_wp2_with (fail)
          refine ⟨rfl, ?_⟩
          rw [HX.out]
          exact ⟨rfl, A3.out.K.then_below hb4 A3.out.K.size⟩
        · rw [hw, if_pos rfl] at R3
          have A3 := Lib.hid (A2.out.call K3 R3)
          have HX := Lib.hid (show pOne N (f + 1) (x :: r) = .ok l (q.drop 1) by rw [HP.out]; simp [pClose, hw])
          clear K3 R3 hw
          go_wp2_with (fail)
          go_ret
          rw [HX.out]
          exact ⟨_, rfl, ⟨A0, c0, rfl, J3.out, J2.out⟩, A3.out.K, A3.out.R⟩
    · have hw : isW 4 [40] (x :: r) = false := by
        simp only [isW, Bool.and_eq_false_iff, decide_eq_false_iff_not]
        by_cases h4 : x.kind = 4
        · exact .inr (fun e => ho ⟨h4, e⟩)
        · exact .inl h4
      rw [hw, if_neg (by simp)] at R1
      rw [hw]
      have A1 := Lib.hid (show At11 w b N (x :: r) w1 from ⟨K1, R1⟩)
      have HO := Lib.hid ho
      clear K1 R1 hw ho
      go_wp2_with (fail)
      refine (next_lit [1] (x :: r) b N w1 _ A1.out.R rfl (by simp)).mono ?_
      intro e w2 h2
      replace h2 : (if x.kind ∈ [1] then _ else _ : Prop) := h2
      by_cases hk : x.kind = 1
      · rw [if_pos (show x.kind ∈ [1] by simp [hk])] at h2
        obtain ⟨rfl, K2, R2⟩ := h2
        have A2 := Lib.hid (A1.out.call K2 R2)
        have A5 := Lib.hid (A2.out.below (show Below w2.heap.size w2 (w2.alloc (.cells #[.int .i64 x.kind, .int .i64 x.n, .int .i64 x.pos, .string (str x.s)] 65)) from (by repeat (first | exact Below.refl _ _ | refine Below.drew ?_ | refine Below.alloc ?_ (by first | omega | (simp; done) | (simp; omega)) _ | refine Below.setCell ?_ (by first | omega | (simp; done) | (simp; omega)) _ | refine Below.trans ?_ (Below.mono (by assumption) (by first | omega | (simp; done) | (simp; omega)))))))
        clear K2 R2
        by_cases s1 : x.s = sNot
        · have W := Lib.hid (pOne_not N f x r hk s1)
          have c1 : (x.s == [110, 111, 116]) = true := by rw [s1]; rfl
          clear hk s1
          go_wp2_with (fail)
          refine (IH1 f (Nat.le_refl _) r b _ A5.out.R (by omega) (by omega)).mono ?_
          intro e w3 h3
          have ht := pOne_fit N f r
          cases hp : pOne N f r with
          | bad p er =>
            rw [hp] at h3
            obtain ⟨rfl, K3⟩ := h3
            have HP := Lib.hid (show pOne N (f + 1) (x :: r) = .bad p er by rw [W.out, hp]; rfl)
            clear hp ht
            go_wp2_with (fail)
            refine ⟨rfl, ?_⟩
            rw [HP.out]
            exact ⟨rfl, A5.out.bad K3⟩
          | ok l q =>
            rw [hp] at h3 ht
            obtain ⟨v, rfl, hv, K3, R3⟩ := h3
            obtain ⟨t1, t2, -⟩ := ht
            obtain ⟨A0, c0, rfl, j1, j2⟩ := hv
            have A3 := Lib.hid (A5.out.call K3 R3)
            have J1 := Lib.hid j1
            have HP := Lib.hid (show pOne N (f + 1) (x :: r) = .ok (joined 10 l) q by rw [W.out, hp]; rfl)
            clear hp K3 R3 j1 j2
            go_wp2_with (fail)
            refine (join_lit 10 [(A0, c0, l)] w3 _ (fun o ho => by rw [List.mem_singleton.1 ho]; exact J1.out) rfl (by simp) (by simp [sumLen]; omega) (by simp [joined]; omega)).mono ?_
            rintro e w4 ⟨A4, c4, rfl, hb4, i4', hA4⟩
            rw [show ([(A0, c0, l)] : List Kid).flatMap (·.2.2) = l by simp] at i4' ⊢
            have A4' := Lib.hid (A3.out.below hb4)
            have hz := A3.out.R.lt
            have I4 := Lib.hid i4'
            have HA4 := Lib.hid hA4
            clear hb4 i4' hA4
            go_wp2_with (fail)
            go_ret
            rw [HP.out]
            exact ⟨_, rfl, ⟨A4, c4, rfl, I4.out, fun ad e => by have := HA4.out ad e; omega⟩, A4'.out.K, A4'.out.R⟩
        have W := Lib.hid (pOne_word N f x r hk s1)
        have c1 : (x.s == [110, 111, 116]) = false := by simpa using s1
        clear hk s1
        by_cases s2 : x.s = sAll
        · have c2 : (x.s == [97, 108, 108]) = true := by rw [s2]; rfl
          have hs := s2
          have HP := Lib.hid (show pOne N (f + 1) (x :: r) = .ok (nd 1 0 zv) r by rw [W.out]; simp [pWord, hs])
          clear s2 hs
          go_wp2_with (fail)
          refine (c_parse_node 1 0 zv _).mono ?_
          rintro e w6 ⟨A6, c6, rfl, hb6, i6, hA6⟩
          have hz6 := A5.out.R.lt
          have A6' := Lib.hid (A5.out.below hb6)
          have I6 := Lib.hid i6
          have HA6 := Lib.hid hA6
          clear hb6 i6 hA6
          go_wp2_with (fail)
          go_ret
          rw [HP.out]
          exact ⟨_, rfl, ⟨A6, c6, rfl, I6.out, fun ad e => by have := HA6.out ad e; omega⟩, A6'.out.K, A6'.out.R⟩
        have c2 : (x.s == [97, 108, 108]) = false := by simpa using s2
        by_cases s3 : x.s = sNever
        · have c3 : (x.s == [110, 101, 118, 101, 114]) = true := by rw [s3]; rfl
          have HP := Lib.hid (show pOne N (f + 1) (x :: r) = .ok (nd 2 0 zv) r by rw [W.out]; simp [pWord, s3])
          clear s2 s3
          go_wp2_with (fail)
          refine (c_parse_node 2 0 zv _).mono ?_
          rintro e w6 ⟨A6, c6, rfl, hb6, i6, hA6⟩
          have hz6 := A5.out.R.lt
          have A6' := Lib.hid (A5.out.below hb6)
          have I6 := Lib.hid i6
          have HA6 := Lib.hid hA6
          clear hb6 i6 hA6
          go_wp2_with (fail)
          go_ret
          rw [HP.out]
          exact ⟨_, rfl, ⟨A6, c6, rfl, I6.out, fun ad e => by have := HA6.out ad e; omega⟩, A6'.out.K, A6'.out.R⟩
        have c3 : (x.s == [110, 101, 118, 101, 114]) = false := by simpa using s3
        by_cases s4 : x.s = sLabel
        · have c4 : (x.s == [108, 97, 98, 101, 108]) = true := by rw [s4]; rfl
          have HS := Lib.hid s4
          clear s2 s3 s4
          go_wp2_with (fail)
          refine (c_parse_number 16 r b N _ A5.out.R).mono ?_
          intro e w7 h7
          cases hp : pNum N 16 r with
          | bad p er =>
            rw [hp] at h7
            obtain ⟨rfl, K7⟩ := h7
            have HP := Lib.hid (show pOne N (f + 1) (x :: r) = .bad p er by rw [W.out]; simp [pWord, HS.out, pLeaf, hp])
            clear hp
            go_wp2_with (fail)
            refine ⟨rfl, ?_⟩
            rw [HP.out]
            exact ⟨rfl, A5.out.bad K7⟩
          | ok n q =>
            rw [hp] at h7
            obtain ⟨v, rfl, hv, K7, R7⟩ := h7
            obtain rfl : v = .int .i64 n := hv
            have HP := Lib.hid (show pOne N (f + 1) (x :: r) = .ok (nd 3 n zv) q by rw [W.out]; simp [pWord, HS.out, pLeaf, hp])
            have A7 := Lib.hid (A5.out.call K7 R7)
            clear hp K7 R7
            go_wp2_with (fail)
            refine (c_parse_node 3 n zv _).mono ?_
            rintro e w6 ⟨A6, c6, rfl, hb6, i6, hA6⟩
            have hz6 := A7.out.R.lt
            have A6' := Lib.hid (A7.out.below hb6)
            have I6 := Lib.hid i6
            have HA6 := Lib.hid hA6
            clear hb6 i6 hA6
            go_wp2_with (fail)
            go_ret
            rw [HP.out]
            exact ⟨_, rfl, ⟨A6, c6, rfl, I6.out, fun ad e => by have := HA6.out ad e; omega⟩, A6'.out.K, A6'.out.R⟩
        have c4 : (x.s == [108, 97, 98, 101, 108]) = false := by simpa using s4
        by_cases s5 : x.s = sMember
        · have c5 : (x.s == [109, 101, 109, 98, 101, 114]) = true := by rw [s5]; rfl
          have HS := Lib.hid s5
          clear s2 s3 s4 s5
          go_wp2_with (fail)
          refine (c_parse_number 16 r b N _ A5.out.R).mono ?_
          intro e w7 h7
          cases hp : pNum N 16 r with
          | bad p er =>
            rw [hp] at h7
            obtain ⟨rfl, K7⟩ := h7
            have HP := Lib.hid (show pOne N (f + 1) (x :: r) = .bad p er by rw [W.out]; simp [pWord, HS.out, pLeaf, hp])
            clear hp
            go_wp2_with (fail)
            refine ⟨rfl, ?_⟩
            rw [HP.out]
            exact ⟨rfl, A5.out.bad K7⟩
          | ok n q =>
            rw [hp] at h7
            obtain ⟨v, rfl, hv, K7, R7⟩ := h7
            obtain rfl : v = .int .i64 n := hv
            have HP := Lib.hid (show pOne N (f + 1) (x :: r) = .ok (nd 4 n zv) q by rw [W.out]; simp [pWord, HS.out, pLeaf, hp])
            have A7 := Lib.hid (A5.out.call K7 R7)
            clear hp K7 R7
            go_wp2_with (fail)
            refine (c_parse_node 4 n zv _).mono ?_
            rintro e w6 ⟨A6, c6, rfl, hb6, i6, hA6⟩
            have hz6 := A7.out.R.lt
            have A6' := Lib.hid (A7.out.below hb6)
            have I6 := Lib.hid i6
            have HA6 := Lib.hid hA6
            clear hb6 i6 hA6
            go_wp2_with (fail)
            go_ret
            rw [HP.out]
            exact ⟨_, rfl, ⟨A6, c6, rfl, I6.out, fun ad e => by have := HA6.out ad e; omega⟩, A6'.out.K, A6'.out.R⟩
        have c5 : (x.s == [109, 101, 109, 98, 101, 114]) = false := by simpa using s5
        by_cases s6 : x.s = sHas
        · have c6 : (x.s == [104, 97, 115]) = true := by rw [s6]; rfl
          have HS := Lib.hid s6
          clear s2 s3 s4 s5 s6
          go_wp2_with (fail)
          refine (c_parse_number 8 r b N _ A5.out.R).mono ?_
          intro e w7 h7
          cases hp : pNum N 8 r with
          | bad p er =>
            rw [hp] at h7
            obtain ⟨rfl, K7⟩ := h7
            have HP := Lib.hid (show pOne N (f + 1) (x :: r) = .bad p er by rw [W.out]; simp [pWord, HS.out, pLeaf, hp])
            clear hp
            go_wp2_with (fail)
            refine ⟨rfl, ?_⟩
            rw [HP.out]
            exact ⟨rfl, A5.out.bad K7⟩
          | ok n q =>
            rw [hp] at h7
            obtain ⟨v, rfl, hv, K7, R7⟩ := h7
            obtain rfl : v = .int .i64 n := hv
            have HP := Lib.hid (show pOne N (f + 1) (x :: r) = .ok (nd 5 n zv) q by rw [W.out]; simp [pWord, HS.out, pLeaf, hp])
            have A7 := Lib.hid (A5.out.call K7 R7)
            clear hp K7 R7
            go_wp2_with (fail)
            refine (c_parse_node 5 n zv _).mono ?_
            rintro e w6 ⟨A6, c6, rfl, hb6, i6, hA6⟩
            have hz6 := A7.out.R.lt
            have A6' := Lib.hid (A7.out.below hb6)
            have I6 := Lib.hid i6
            have HA6 := Lib.hid hA6
            clear hb6 i6 hA6
            go_wp2_with (fail)
            go_ret
            rw [HP.out]
            exact ⟨_, rfl, ⟨A6, c6, rfl, I6.out, fun ad e => by have := HA6.out ad e; omega⟩, A6'.out.K, A6'.out.R⟩
        have c6 : (x.s == [104, 97, 115]) = false := by simpa using s6
        by_cases s7 : x.s = sField
        · have c7 : (x.s == [102, 105, 101, 108, 100]) = true := by rw [s7]; rfl
          have HP := Lib.hid (show pOne N (f + 1) (x :: r) = pField N r by rw [W.out]; simp [pWord, s7])
          clear s2 s3 s4 s5 s6 s7
          go_wp2_with (fail)
          refine (c_parse_field r b N _ A5.out.R).mono ?_
          intro e w7 h7
          cases hp : pField N r with
          | bad p er =>
            rw [hp] at h7
            obtain ⟨rfl, K7⟩ := h7
            have HQ := Lib.hid (HP.out.trans hp)
            clear hp
            go_wp2_with (fail)
            refine ⟨rfl, ?_⟩
            rw [HQ.out]
            exact ⟨rfl, A5.out.bad K7⟩
          | ok l q =>
            rw [hp] at h7
            obtain ⟨v, rfl, hv, K7, R7⟩ := h7
            obtain ⟨A0, c0, rfl, j1, j2⟩ := hv
            have HQ := Lib.hid (HP.out.trans hp)
            have A7 := Lib.hid (A5.out.call K7 R7)
            have J1 := Lib.hid j1
            have J2 := Lib.hid j2
            clear hp K7 R7 j1 j2
            go_wp2_with (fail)
            go_ret
            rw [HQ.out]
            exact ⟨_, rfl, ⟨A0, c0, rfl, J1.out, J2.out⟩, A7.out.K, A7.out.R⟩
        have c7 : (x.s == [102, 105, 101, 108, 100]) = false := by simpa using s7
        have HP := Lib.hid (show pOne N (f + 1) (x :: r) = .bad x.pos 3 by rw [W.out]; simp [pWord, s2, s3, s4, s5, s6, s7])
        clear s2 s3 s4 s5 s6 s7
        go_wp2_with (fail)
        refine ⟨rfl, ?_⟩
        rw [HP.out]
        exact ⟨rfl, A5.out.K⟩
      · rw [if_neg (show x.kind ∉ [1] by simpa using hk)] at h2
        obtain ⟨rfl, K2⟩ := h2
        have HP := Lib.hid (pOne_bad N f x r hk HO.out)
        unfold pan
        go_wp2_with (fail)
        refine ⟨rfl, ?_⟩
        rw [HP.out]
        exact ⟨rfl, A1.out.bad K2⟩
theorem c_parse_all3 (N : Int) : ∀ f, OneC N f ∧ AllC N f ∧ AnyC N f := by
  intro f
  induction f using Nat.strongRecOn with
  | ind f ih =>
    cases f with
    | zero => exact ⟨fun ws b w _ _ hf => by omega, fun ws b w _ _ hf => by omega, fun ws b w _ _ hf => by omega⟩
    | succ f =>
      have h1 : ∀ f' ≤ f, OneC N f' := fun f' h => (ih f' (by omega)).1
      have h2 : ∀ f' ≤ f, AllC N f' := fun f' h => (ih f' (by omega)).2.1
      have h3 : ∀ f' ≤ f, AnyC N f' := fun f' h => (ih f' (by omega)).2.2
      exact ⟨one_of_any N f h1 h3, all_of_one N f h1, any_of_all N f h2⟩
end Go.Proofs.Ytbidnflcbgnckaa
namespace Go.Proofs.Ytbidnflcbgnckaa
open Go.RowKit

set_option maxRecDepth 10000 in
set_option maxHeartbeats 1000000 in
theorem c_catch_idle (v0 v1 : Value) (w : World) :
    CallsD Try.prog 25 #[v0, v1] .returning w fun e u' w' => e = .returned (.tuple #[]) ∧ u' = .returning ∧ w' = w := by
  refine callsD_of_wpS Try.func25 rfl fun c₀ cs hu => ?_
  apply wpS_seq
  apply wpS_region
  simp [wpOpsS, go_sem, recoverD, hu, Try.ntmps25, Exit.thenS]
  refine wpS_of_wp ?_
  go_wp2
  cases c₀
  simp_all [bodyPostS, results, Try.results25]
theorem fault_is (p er : Int) (w : World) : (Instr.typeAssert (.iface 46 (.agg #[.int .i64 p, .int .i64 er])) 20 46 true).run Try.prog w = .ok (.tuple #[.agg #[.int .i64 p, .int .i64 er], .bool true]) w := by kernel_rfl
set_option maxRecDepth 10000 in
set_option maxHeartbeats 1000000 in
theorem c_catch_fault (p0 p1 : Nat) (x0 x1 x2 : Value) (p er : Int) (older : List PanicEntry) (w : World) (h0 : Blk w p0 #[x0]) (h1 : Blk w p1 #[x1, x2]) (hne : p0 ≠ p1) (B : Nat) (b0 : B ≤ p0) (b1 : B ≤ p1) :
    CallsD Try.prog 25 #[.pointer (some ⟨p0, 0, none⟩), .pointer (some ⟨p1, 0, none⟩)] (.panicking ({ v := .iface 46 (.agg #[.int .i64 p, .int .i64 er]), recovered := false } :: older)) w fun e u' w' =>
      e = .returned (.tuple #[]) ∧ u' = .panicking ({ v := .iface 46 (.agg #[.int .i64 p, .int .i64 er]), recovered := true } :: older) ∧ Below B w w' ∧ Blk w' p0 #[.slice none 0 0] ∧ Blk w' p1 #[.int .i64 p, .int .i64 er] := by
  have hta := fault_is p er
  have q0 := h0.cell (i := 0) rfl
  have q1 := h1.cell (i := 0) rfl
  have q2 := h1.cell (i := 1) rfl
  have z0 := h0.frozen 0
  have z1 := h1.frozen 0
  have z2 := h1.frozen 1
  have l0 := h0.lt
  have l1 := h1.lt
  refine callsD_of_wpS Try.func25 rfl fun c₀ cs hu => ?_
  apply wpS_seq
  apply wpS_region
  simp [wpOpsS, go_sem, recoverD, hu, Try.ntmps25, Exit.thenS]
  obtain ⟨F, hF⟩ : ∃ F : Value, F = .iface 46 (.agg #[.int .i64 p, .int .i64 er]) := ⟨_, rfl⟩
  change Code.wpS _ _ _ { tmps := #[.pointer (some ⟨p0, 0, none⟩), .pointer (some ⟨p1, 0, none⟩), .iface 46 (.agg #[.int .i64 p, .int .i64 er]), undef, undef, .iface 46 (.agg #[.int .i64 p, .int .i64 er]), undef, undef, undef, undef, undef, undef, undef, undef, undef, undef, undef], defers := [] } _ _
  clear hF F
  refine wpS_of_wp ?_
  go_wp2_with (fail)
  have hn : p0 ≠ w.heap.size := by omega
  have hn1 : p1 ≠ w.heap.size := by omega
  have FIN : ∀ w', w' = ((((w.setCell ⟨p0, 0, none⟩ (.slice none 0 0)).setCell ⟨p1, 0, none⟩ (.int .i64 p)).setCell ⟨p1, 1, none⟩ (.int .i64 er)).alloc (.cells #[.int .i64 p, .int .i64 er] 46)).drew → Below B w w' ∧ Blk w' p0 #[.slice none 0 0] ∧ Blk w' p1 #[.int .i64 p, .int .i64 er] := by
    rintro w' rfl
    have k0 := ((h0.store 0 (.slice none 0 0)).far (q := ⟨p1, 0, none⟩) hne (.int .i64 p)).far (q := ⟨p1, 1, none⟩) hne (.int .i64 er)
    have k1 := ((h1.far (q := ⟨p0, 0, none⟩) (fun e => hne e.symm) (.slice none 0 0)).store 0 (.int .i64 p)).store 1 (.int .i64 er)
    have hb : ∀ W : World, Below W.heap.size W (W.alloc (.cells #[.int .i64 p, .int .i64 er] 46)) := fun W => (Below.refl _ _).alloc (Nat.le_refl _) _
    have hB : B ≤ w.heap.size := by omega
    refine ⟨?_, (show Blk (World.alloc _ _) p0 _ from k0.below (hb _) k0.lt), (show Blk (World.alloc _ _) p1 _ from k1.below (hb _) k1.lt)⟩
    exact Below.drew (Below.alloc (Below.setCell (Below.setCell (Below.setCell (Below.refl _ _) (show B ≤ p0 from b0) _) (show B ≤ p1 from b1) _) (show B ≤ p1 from b1) _) (by simp [World.setCell]; omega) _)
  have HF := Lib.hid (FIN _ rfl)
  clear FIN
  go_region
  exact ⟨rfl, _, rfl, .tuple #[], results_none rfl _ _ _, rfl, rfl, HF.out⟩
end Go.Proofs.Ytbidnflcbgnckaa
namespace Go.Proofs.Ytbidnflcbgnckaa
open Go.RowKit

/-- What read comes to. -/
def RetTop (w : World) (b : Nat) (x : PR (List Node)) (e : Ending) (w' : World) : Prop := ∃ v p er, e = .returned (.tuple #[v, .agg #[.int .i64 p, .int .i64 er]]) ∧ Kept (some b) w.heap.size w w' ∧ match x with
  | .ok l _ => VL b w' l v ∧ p = 0 ∧ er = 0
  | .bad pp ee => v = .slice none 0 0 ∧ p = pp ∧ er = ee
/-- A list of nodes does not lie in a block of few cells. -/
theorem off_small {w : World} {A : Option Addr} {c q : Nat} {l : List Node} {cs : Array Value} (hI : InN w A c l) (h1 : 1 ≤ l.length) (hb : Blk w q cs) (hs : cs.size ≤ 4) : ∀ ad, A = some ad → ad.block ≠ q := by
  obtain ⟨g, off, rfl, hg, hrow⟩ := hI.at (i := 0) (by omega)
  intro ad e
  injection e with e
  subst e
  rintro rfl
  obtain ⟨-, -, -, -, e4⟩ := hrow.node (i := 0) (by omega) (by rw [Nat.zero_mul, Nat.add_zero])
  obtain ⟨t, ht⟩ := hb
  simp only at ht
  simp [World.cell?, ht] at e4
  have := (Array.getElem?_eq_some_iff.1 e4).1
  omega
theorem off_smallW {w : World} {A : Option Addr} {c q : Nat} {l : List Wd} {cs : Array Value} (hI : In 4 Wd.cells w A c l) (h1 : 1 ≤ l.length) (hb : Blk w q cs) (hs : cs.size ≤ 3) : ∀ ad, A = some ad → ad.block ≠ q := by
  obtain ⟨g, off, rfl, hg, hrow⟩ := hI.at (i := 0) (by omega)
  intro ad e
  injection e with e
  subst e
  rintro rfl
  have e4 := hrow 0 (by omega) 3 _ rfl
  obtain ⟨t, ht⟩ := hb
  simp only at ht
  simp [World.cell?, ht] at e4
  have := (Array.getElem?_eq_some_iff.1 e4).1
  omega
set_option maxRecDepth 10000 in
set_option maxHeartbeats 1000000 in
theorem c_parse_read (ws : List Wd) (b : Nat) (N : Int) (w : World) (h : Rdr w b N ws) (hws : ws.length ≤ 100000) : Calls Try.prog 13 #[.pointer (some ⟨b, 0, none⟩)] w (RetTop w b (pTop N ws)) := by
  have H := Lib.hid h
  have hbl := h.lt
  have IH := Lib.hid ((c_parse_all3 N (4 * ws.length + 8)).2.2)
  clear h
  obtain ⟨w2, hw2⟩ : ∃ w2, w2 = (w.alloc (.cells #[.slice none 0 0] 23)).alloc (.cells #[.int .i64 0, .int .i64 0] 46) := ⟨_, rfl⟩
  obtain ⟨S2, C2, D2⟩ := two_blocks w w2 _ _ _ _ hw2
  have S2 := Lib.hid S2
  have C2 := Lib.hid C2
  have D2 := Lib.hid D2
  have R2 := Lib.hid (H.out.below S2.out)
  go_enter_defers Try.func13, Try.ntmps13
  go_wp2_with (rw [← hw2]; clear hw2)
  refine (IH.out ws b w2 R2.out hws (by omega)).mono ?_
  intro e w3 h3
  cases hp : pAny N (4 * ws.length + 8) ws with
  | bad p er =>
    rw [hp] at h3
    obtain ⟨rfl, K3⟩ := h3
    have HP := Lib.hid (show pTop N ws = .bad p er by unfold pTop; rw [hp])
    clear hp
    have z2 : w.heap.size + 1 < w2.heap.size := D2.out.lt
    have C3 := C2.out.kept K3 C2.out.lt (fun e => by injection e with e; omega)
    have D3 := D2.out.kept K3 D2.out.lt (fun e => by injection e with e; omega)
    have S3 := Lib.hid ((Kept.of_below (p := some b) S2.out).trans (K3.mono S2.out.size))
    clear K3
    go_wp2_with (fail)
    refine leaves_cons (f := 25) (args := #[.pointer (some ⟨w.heap.size, 0, none⟩), .pointer (some ⟨w.heap.size + 1, 0, none⟩)]) (by simp) (by simp [go_sem]) ?_
    refine (c_catch_fault w.heap.size (w.heap.size + 1) _ _ _ p er [] w3 C3 D3 (by omega) w.heap.size (Nat.le_refl _) (by omega)).mono ?_
    rintro e u' w4 ⟨rfl, rfl, hB, k0, k1⟩
    have q0 := k0.cell (i := 0) rfl
    have q1 := k1.cell (i := 0) rfl
    have q2 := k1.cell (i := 1) rfl
    simp [Leaves, settle, results, Try.results13, go_sem, q0, q1, q2]
    exact ⟨_, p, er, rfl, S3.out.trans (.of_below hB), by rw [HP.out]; exact ⟨rfl, rfl, rfl⟩⟩
  | ok l r =>
    rw [hp] at h3
    obtain ⟨v, rfl, hv, K3, R3⟩ := h3
    obtain ⟨A0, c0, rfl, j1, j2⟩ := hv
    have z2 : w.heap.size + 1 < w2.heap.size := D2.out.lt
    have C3 := C2.out.kept K3 C2.out.lt (fun e => by injection e with e; omega)
    have D3 := D2.out.kept K3 D2.out.lt (fun e => by injection e with e; omega)
    have z3 := K3.size
    have S3 := Lib.hid ((Kept.of_below (p := some b) S2.out).trans (K3.mono S2.out.size))
    have q0 := C3.cell (i := 0) rfl
    have f0 := C3.frozen 0
    have l0 : w.heap.size < w3.heap.size := C3.lt
    have HL := Lib.hid (show 1 ≤ l.length by have := pAny_fit N (4 * ws.length + 8) ws; rw [hp] at this; exact this.1)
    have J1 := Lib.hid j1
    have J2 := Lib.hid j2
    have HP := Lib.hid (show pTop N ws = if r = [] then .ok l [] else .bad (posW N r) 3 by unfold pTop; rw [hp])
    clear hp j1 j2 K3
    obtain ⟨A, c, hB, hI, hA⟩ := id R3
    have r0 := hB.cell (i := 0) rfl
    have HR := Lib.hid R3
    have HC := Lib.hid C3
    have HD := Lib.hid D3
    have b3 := hB.lt
    have d0 := D3.cell (i := 0) rfl
    have d1 := D3.cell (i := 1) rfl
    have g0 := D3.frozen 0
    have g1 := D3.frozen 1
    clear hB hI hA R3 C3 D3
    cases r with
    | nil =>
      go_wp2_with (fail)
      refine leaves_cons (f := 25) (args := #[.pointer (some ⟨w.heap.size, 0, none⟩), .pointer (some ⟨w.heap.size + 1, 0, none⟩)]) (by simp) (by simp [go_sem]) ?_
      refine (c_catch_idle _ _ _).mono ?_
      rintro e u' w4 ⟨rfl, rfl, hw4⟩
      have K4 : Kept (some w.heap.size) w3.heap.size w3 (((w3.setCell ⟨w.heap.size, 0, none⟩ (.slice A0 l.length c0))).setCell ⟨w.heap.size, 0, none⟩ (.slice A0 l.length c0)) := (kept_set _ _ _ _).trans ((kept_set _ _ _ _).mono (by simp [World.setCell]))
      have C4 := (HC.out.store 0 (.slice A0 l.length c0)).store 0 (.slice A0 l.length c0)
      have D4 := HD.out.kept K4 HD.out.lt (fun e => by injection e with e; omega)
      have I4 := J1.out.kept4 (off_small J1.out HL.out HC.out (by simp)) K4
      have K5 := kept_set (((w3.setCell ⟨w.heap.size, 0, none⟩ (.slice A0 l.length c0))).setCell ⟨w.heap.size, 0, none⟩ (.slice A0 l.length c0)) (w.heap.size + 1) 0 (.int .i64 0)
      have D5 := D4.store 0 (.int .i64 0)
      have C5 := C4.kept K5 C4.lt (fun e => by injection e with e; omega)
      have I5 := I4.kept4 (off_small I4 HL.out D4 (by simp)) K5
      have K6 := kept_set ((((w3.setCell ⟨w.heap.size, 0, none⟩ (.slice A0 l.length c0))).setCell ⟨w.heap.size, 0, none⟩ (.slice A0 l.length c0)).setCell ⟨w.heap.size + 1, 0, none⟩ (.int .i64 0)) (w.heap.size + 1) 1 (.int .i64 0)
      have D6 := D5.store 1 (.int .i64 0)
      have C6 := C5.kept K6 C5.lt (fun e => by injection e with e; omega)
      have I6 := I5.kept4 (off_small I5 HL.out D5 (by simp)) K6
      rw [← hw4] at D6 C6 I6 K6
      have q0 := C6.cell (i := 0) rfl
      have q1 := D6.cell (i := 0) rfl
      have q2 := D6.cell (i := 1) rfl
      have hS : Kept (some b) w.heap.size w3 w4 := .of_below ((K4.oneB (by omega) (Nat.le_refl _)).trans (((K5.oneB (by simp [World.setCell]; omega) (by omega))).trans (K6.oneB (by simp [World.setCell]; omega) (by omega))))
      clear hw4 K4 K5 K6 C4 C5 D4 D5 I4 I5
      simp [Leaves, settle, results, Try.results13, go_sem, q0, q1, q2]
      exact ⟨_, 0, 0, rfl, S3.out.trans hS, by rw [HP.out, if_pos (by first | rfl | trivial)]; exact ⟨⟨A0, c0, rfl, I6, J2.out⟩, rfl, rfl⟩⟩
    | cons x q =>
      have bl : decide ((0 : Int) < (q.length : Int) + 1) = true := by rw [decide_eq_true_eq]; omega
      obtain ⟨w5, hw5⟩ : ∃ w5, w5 = w3.setCell ⟨w.heap.size, 0, none⟩ (.slice A0 l.length c0) := ⟨_, rfl⟩
      have K5 : Kept (some w.heap.size) w3.heap.size w3 w5 := by rw [hw5]; exact kept_set _ _ _ _
      have C5 : Blk w5 w.heap.size #[.slice A0 l.length c0] := by rw [hw5]; exact HC.out.store 0 _
      have D5 := HD.out.kept K5 HD.out.lt (fun e => by injection e with e; omega)
      have S5 := Lib.hid (S3.out.trans (show Kept (some b) w.heap.size w3 w5 from .of_below (K5.oneB (by omega) (Nat.le_refl _))))
      have R5 : Calls Try.prog 27 #[.pointer (some ⟨b, 0, none⟩)] w5 (RetV w5 (.int .i64 x.pos)) := by
        obtain ⟨A', c', h1, h2, h3⟩ := HR.out
        exact c_parse_at (x :: q) b N w5 ⟨A', c', h1.kept K5 b3 (fun e => by injection e with e; omega), h2.kept4 (off_smallW h2 (by simp) HC.out (by simp)) K5, h3⟩
      have R5 := Lib.hid R5
      go_wp2_with (fail)
      rw [← hw5]
      clear hw5
      refine R5.out.mono ?_
      rintro e w6 ⟨rfl, hb6⟩
      have C6 := C5.below hb6 C5.lt
      have D6 := D5.below hb6 D5.lt
      have z6 := hb6.size
      have z5 := K5.size
      have S6 := Lib.hid (S5.out.then_below hb6 (by omega))
      go_wp2_with (fail)
      refine leaves_cons (f := 25) (args := #[.pointer (some ⟨w.heap.size, 0, none⟩), .pointer (some ⟨w.heap.size + 1, 0, none⟩)]) (by simp) (by simp [go_sem]) ?_
      refine (c_catch_fault w.heap.size (w.heap.size + 1) _ _ _ x.pos 3 [] w6 C6 D6 (by omega) w.heap.size (Nat.le_refl _) (by omega)).mono ?_
      rintro e u' w7 ⟨rfl, rfl, hB, k0, k1⟩
      have q0 := k0.cell (i := 0) rfl
      have q1 := k1.cell (i := 0) rfl
      have q2 := k1.cell (i := 1) rfl
      simp [Leaves, settle, results, Try.results13, go_sem, q0, q1, q2]
      exact ⟨_, x.pos, 3, rfl, S6.out.trans (.of_below hB), by rw [HP.out, if_neg (by simp)]; exact ⟨rfl, rfl, rfl⟩⟩
end Go.Proofs.Ytbidnflcbgnckaa
namespace Go.Proofs.Ytbidnflcbgnckaa
open Go.RowKit

/-- What is wrong is a form or an argument; what is read has no longer texts than the words. -/
def Told (M : Nat) : PR (List Node) → Prop
  | .bad _ e => e = 1 ∨ e = 3
  | .ok l r => (∀ x ∈ l, x.v.s.length ≤ M) ∧ ∀ w ∈ r, w.s.length ≤ M
def Wds (M : Nat) (ws : List Wd) : Prop := ∀ w ∈ ws, w.s.length ≤ M
theorem Wds.tail {M : Nat} {w : Wd} {r : List Wd} (h : Wds M (w :: r)) : Wds M r := fun x hx => h x (List.mem_cons_of_mem _ hx)
theorem Wds.drop {M : Nat} {r : List Wd} (h : Wds M r) : Wds M (r.drop 1) := fun x hx => h x (List.mem_of_mem_drop hx)
theorem told_nd {M : Nat} {op n : Int} {v : Val} {r : List Wd} (h : v.s.length ≤ M) (hr : Wds M r) : Told M (.ok (nd op n v) r) :=
  ⟨fun x hx => by rw [List.mem_singleton.1 hx]; exact h, hr⟩
theorem pVal_told {M : Nat} (N op n : Int) {ws : List Wd} (h : Wds M ws) : Told M (pVal N op n ws) := by
  cases ws with
  | nil => exact .inr rfl
  | cons w r =>
    simp only [pVal]
    split
    · exact told_nd (h w (List.mem_cons_self ..)) h.tail
    · split
      · exact told_nd (Nat.zero_le _) h.tail
      · exact .inr rfl
theorem pSign_told {M : Nat} (N n : Int) {ws : List Wd} (h : Wds M ws) : Told M (pSign N n ws) := by
  cases ws with
  | nil => exact .inr rfl
  | cons w r =>
    simp only [pSign]
    split
    · exact pVal_told N _ n h.tail
    · exact .inr rfl
theorem pNum_bad {N below p e : Int} {ws : List Wd} (h : pNum N below ws = .bad p e) : e = 1 ∨ e = 3 := by
  cases ws with
  | nil => injection h with h1 h2; exact .inr h2.symm
  | cons w q =>
    simp only [pNum] at h
    split at h
    · split at h
      · injection h with h1 h2; exact .inl h2.symm
      · cases h
    · injection h with h1 h2; exact .inr h2.symm
theorem pField_told {M : Nat} (N : Int) {ws : List Wd} (h : Wds M ws) : Told M (pField N ws) := by
  unfold pField
  cases hp : pNum N 8 ws with
  | bad p e => exact pNum_bad hp
  | ok n r =>
    obtain ⟨w, rfl, _⟩ := pNum_fit hp
    exact pSign_told N n h.tail
theorem pLeaf_told {M : Nat} (N op below : Int) {ws : List Wd} (h : Wds M ws) : Told M (pLeaf N op below ws) := by
  unfold pLeaf
  cases hp : pNum N below ws with
  | bad p e => exact pNum_bad hp
  | ok n r =>
    obtain ⟨w, rfl, _⟩ := pNum_fit hp
    exact told_nd (Nat.zero_le _) h.tail
theorem pWord_told {M : Nat} (N : Int) (w : Wd) {r : List Wd} (h : Wds M r) : Told M (pWord N w r) := by
  unfold pWord
  split
  · exact told_nd (Nat.zero_le _) h
  · split
    · exact told_nd (Nat.zero_le _) h
    · split
      · exact pLeaf_told N 3 16 h
      · split
        · exact pLeaf_told N 4 16 h
        · split
          · exact pLeaf_told N 5 8 h
          · split
            · exact pField_told N h
            · exact .inr rfl
def Txts (M : Nat) (l : List Node) : Prop := ∀ x ∈ l, x.v.s.length ≤ M
theorem Txts.join {M : Nat} {op : Int} {l : List Node} (h : Txts M l) : Txts M (joined op l) := fun x hx => by
  rcases List.mem_cons.1 hx with rfl | hx
  · exact Nat.zero_le _
  · exact h x hx
theorem Txts.app {M : Nat} {l m : List Node} (h : Txts M l) (k : Txts M m) : Txts M (l ++ m) := fun x hx => by
  rcases List.mem_append.1 hx with hx | hx
  · exact h x hx
  · exact k x hx
theorem p_told (M : Nat) (N : Int) : ∀ (f : Nat), (∀ ws, Wds M ws → Told M (pOne N f ws)) ∧ (∀ ws, Wds M ws → Told M (pAll N f ws)) ∧
    (∀ (l : List Node) ws, Txts M l → Wds M ws → Told M (pAllL N f l ws)) ∧ (∀ ws, Wds M ws → Told M (pAny N f ws)) ∧
    (∀ (l : List Node) ws, Txts M l → Wds M ws → Told M (pAnyL N f l ws))
  | 0 => ⟨fun _ _ => .inr rfl, fun _ _ => .inr rfl, fun _ _ _ _ => .inr rfl, fun _ _ => .inr rfl, fun _ _ _ _ => .inr rfl⟩
  | f + 1 => by
    obtain ⟨i1, i2, i3, i4, i5⟩ := p_told M N f
    refine ⟨fun ws h => ?_, fun ws h => ?_, fun l ws hl h => ?_, fun ws h => ?_, fun l ws hl h => ?_⟩
    · unfold pOne
      cases ws with
      | nil => exact .inr rfl
      | cons w r =>
        simp only
        split
        · have := i4 r h.tail
          cases hx : pAny N f r with
          | bad p e => rw [hx] at this; exact this
          | ok l q =>
            rw [hx] at this
            unfold pClose
            simp only
            split
            · exact ⟨this.1, fun x hx => this.2 x (List.mem_of_mem_drop hx)⟩
            · exact .inr rfl
        · split
          · split
            · have := i1 r h.tail
              cases hx : pOne N f r with
              | bad p e => rw [hx] at this; exact this
              | ok l q =>
                rw [hx] at this
                exact ⟨Txts.join this.1, this.2⟩
            · exact pWord_told N w h.tail
          · exact .inr rfl
    · unfold pAll
      have := i1 ws h
      cases hx : pOne N f ws with
      | bad p e => rw [hx] at this; exact this
      | ok l r => rw [hx] at this; exact i3 l r this.1 this.2
    · unfold pAllL
      split
      · have := i1 (ws.drop 1) h.drop
        cases hx : pOne N f (ws.drop 1) with
        | bad p e => rw [hx] at this; exact this
        | ok m r => rw [hx] at this; exact i3 _ r (Txts.join (Txts.app hl this.1)) this.2
      · exact ⟨hl, h⟩
    · unfold pAny
      have := i2 ws h
      cases hx : pAll N f ws with
      | bad p e => rw [hx] at this; exact this
      | ok l r => rw [hx] at this; exact i5 l r this.1 this.2
    · unfold pAnyL
      split
      · have := i2 (ws.drop 1) h.drop
        cases hx : pAll N f (ws.drop 1) with
        | bad p e => rw [hx] at this; exact this
        | ok m r => rw [hx] at this; exact i5 _ r (Txts.join (Txts.app hl this.1)) this.2
      · exact ⟨hl, h⟩
theorem pTop_told {M : Nat} (N : Int) {ws : List Wd} (h : Wds M ws) : Told M (pTop N ws) := by
  unfold pTop
  have := (p_told M N (4 * ws.length + 8)).2.2.2.1 ws h
  cases hx : pAny N (4 * ws.length + 8) ws with
  | bad p e => rw [hx] at this; exact this
  | ok l r =>
    rw [hx] at this
    simp only
    split
    · exact ⟨this.1, fun x hx => by cases hx⟩
    · exact .inr rfl
/-- Words that are alike, but for their places. -/
inductive Alk : List Wd → List Wd → Prop
  | nil : Alk [] []
  | cons (k n p q : Int) (s : List UInt8) {a b : List Wd} (h : Alk a b) : Alk (⟨k, n, p, s⟩ :: a) (⟨k, n, q, s⟩ :: b)
def PRel {α : Type} : PR α → PR α → Prop
  | .ok a r, .ok b q => a = b ∧ Alk r q
  | .bad _ _, .bad _ _ => True
  | _, _ => False
theorem PRel.ok {α : Type} {x y : PR α} (h : PRel x y) {a : α} {r : List Wd} (hx : x = .ok a r) : ∃ q, y = .ok a q ∧ Alk r q := by
  subst hx
  cases y with
  | ok b q => obtain ⟨rfl, h2⟩ := h; exact ⟨q, rfl, h2⟩
  | bad p e => exact h.elim
theorem PRel.bad {α : Type} {x y : PR α} (h : PRel x y) {p e : Int} (hx : x = .bad p e) : ∃ p' e', y = .bad p' e' := by
  subst hx
  cases y with
  | ok b q => exact h.elim
  | bad p e => exact ⟨p, e, rfl⟩
theorem Alk.isW {a b : List Wd} (h : Alk a b) (k : Int) (s : List UInt8) : isW k s a = isW k s b := by cases h <;> rfl
theorem Alk.drop {a b : List Wd} (h : Alk a b) : Alk (a.drop 1) (b.drop 1) := by
  cases h with
  | nil => exact .nil
  | cons k n p q s h => exact h
theorem Alk.len {a b : List Wd} (h : Alk a b) : a.length = b.length := by
  induction h with
  | nil => rfl
  | cons k n p q s h ih => simp [ih]
theorem Alk.empty {a b : List Wd} (h : Alk a b) : a = [] ↔ b = [] := by cases h <;> simp
section
variable (N N2 : Int)
theorem pVal_alk (op n : Int) {a b : List Wd} (h : Alk a b) : PRel (pVal N op n a) (pVal N2 op n b) := by
  cases h with
  | nil => trivial
  | cons k m p q s h =>
    simp only [pVal]
    split
    · exact ⟨rfl, h⟩
    · split
      · exact ⟨rfl, h⟩
      · trivial
theorem pSign_alk (n : Int) {a b : List Wd} (h : Alk a b) : PRel (pSign N n a) (pSign N2 n b) := by
  cases h with
  | nil => trivial
  | cons k m p q s h =>
    simp only [pSign]
    split
    · exact pVal_alk N N2 _ n h
    · trivial
theorem pNum_alk (below : Int) {a b : List Wd} (h : Alk a b) : PRel (pNum N below a) (pNum N2 below b) := by
  cases h with
  | nil => trivial
  | cons k m p q s h =>
    simp only [pNum]
    split
    · split
      · trivial
      · exact ⟨rfl, h⟩
    · trivial
theorem pField_alk {a b : List Wd} (h : Alk a b) : PRel (pField N a) (pField N2 b) := by
  have := pNum_alk N N2 8 h
  unfold pField
  cases hp : pNum N 8 a with
  | bad p e => obtain ⟨p2, e2, h2⟩ := this.bad hp; rw [h2]; trivial
  | ok n r => obtain ⟨q, h2, h3⟩ := this.ok hp; rw [h2]; exact pSign_alk N N2 n h3
theorem pLeaf_alk (op below : Int) {a b : List Wd} (h : Alk a b) : PRel (pLeaf N op below a) (pLeaf N2 op below b) := by
  have := pNum_alk N N2 below h
  unfold pLeaf
  cases hp : pNum N below a with
  | bad p e => obtain ⟨p2, e2, h2⟩ := this.bad hp; rw [h2]; trivial
  | ok n r => obtain ⟨q, h2, h3⟩ := this.ok hp; rw [h2]; exact ⟨rfl, h3⟩
theorem pWord_alk (k n p q : Int) (s : List UInt8) {a b : List Wd} (h : Alk a b) : PRel (pWord N ⟨k, n, p, s⟩ a) (pWord N2 ⟨k, n, q, s⟩ b) := by
  unfold pWord
  simp only
  split
  · exact ⟨rfl, h⟩
  · split
    · exact ⟨rfl, h⟩
    · split
      · exact pLeaf_alk N N2 3 16 h
      · split
        · exact pLeaf_alk N N2 4 16 h
        · split
          · exact pLeaf_alk N N2 5 8 h
          · split
            · exact pField_alk N N2 h
            · trivial
theorem p_alk : ∀ (f : Nat), (∀ a b, Alk a b → PRel (pOne N f a) (pOne N2 f b)) ∧ (∀ a b, Alk a b → PRel (pAll N f a) (pAll N2 f b)) ∧
    (∀ l a b, Alk a b → PRel (pAllL N f l a) (pAllL N2 f l b)) ∧ (∀ a b, Alk a b → PRel (pAny N f a) (pAny N2 f b)) ∧
    (∀ l a b, Alk a b → PRel (pAnyL N f l a) (pAnyL N2 f l b))
  | 0 => ⟨fun _ _ _ => trivial, fun _ _ _ => trivial, fun _ _ _ _ => trivial, fun _ _ _ => trivial, fun _ _ _ _ => trivial⟩
  | f + 1 => by
    obtain ⟨i1, i2, i3, i4, i5⟩ := p_alk f
    refine ⟨fun a b h => ?_, fun a b h => ?_, fun l a b h => ?_, fun a b h => ?_, fun l a b h => ?_⟩
    · unfold pOne
      cases h with
      | nil => trivial
      | cons k n p q s h =>
        simp only
        split
        · have := i4 _ _ h
          unfold pClose
          split
          · rename_i hx
            obtain ⟨p2, e2, h2⟩ := this.bad hx; rw [h2]; trivial
          · rename_i hx
            obtain ⟨q2, h2, h3⟩ := this.ok hx
            rw [h2]
            simp only
            rw [h3.isW]
            split
            · exact ⟨rfl, h3.drop⟩
            · trivial
        · split
          · split
            · have := i1 _ _ h
              unfold pNot
              split
              · rename_i hx
                obtain ⟨p2, e2, h2⟩ := this.bad hx; rw [h2]; trivial
              · rename_i hx
                obtain ⟨q2, h2, h3⟩ := this.ok hx
                rw [h2]
                exact ⟨rfl, h3⟩
            · exact pWord_alk N N2 k n p q s h
          · trivial
    · unfold pAll
      have := i1 _ _ h
      cases hx : pOne N f a with
      | bad p e => obtain ⟨p2, e2, h2⟩ := this.bad hx; rw [h2]; trivial
      | ok l r => obtain ⟨q, h2, h3⟩ := this.ok hx; rw [h2]; exact i3 l _ _ h3
    · unfold pAllL
      rw [h.isW]
      split
      · have := i1 _ _ h.drop
        cases hx : pOne N f (a.drop 1) with
        | bad p e => obtain ⟨p2, e2, h2⟩ := this.bad hx; rw [h2]; trivial
        | ok m r => obtain ⟨q, h2, h3⟩ := this.ok hx; rw [h2]; exact i3 _ _ _ h3
      · exact ⟨rfl, h⟩
    · unfold pAny
      have := i2 _ _ h
      cases hx : pAll N f a with
      | bad p e => obtain ⟨p2, e2, h2⟩ := this.bad hx; rw [h2]; trivial
      | ok l r => obtain ⟨q, h2, h3⟩ := this.ok hx; rw [h2]; exact i5 l _ _ h3
    · unfold pAnyL
      rw [h.isW]
      split
      · have := i2 _ _ h.drop
        cases hx : pAll N f (a.drop 1) with
        | bad p e => obtain ⟨p2, e2, h2⟩ := this.bad hx; rw [h2]; trivial
        | ok m r => obtain ⟨q, h2, h3⟩ := this.ok hx; rw [h2]; exact i5 _ _ _ h3
      · exact ⟨rfl, h⟩
/-- Places do not matter to what is read. -/
theorem pTop_alk {a b : List Wd} (h : Alk a b) : PRel (pTop N a) (pTop N2 b) := by
  unfold pTop
  rw [h.len]
  have := (p_alk N N2 (4 * b.length + 8)).2.2.2.1 a b h
  cases hx : pAny N (4 * b.length + 8) a with
  | bad p e => obtain ⟨p2, e2, h2⟩ := this.bad hx; rw [h2]; trivial
  | ok l r =>
    obtain ⟨q, h2, h3⟩ := this.ok hx
    rw [h2]
    simp only
    by_cases hr : r = []
    · rw [if_pos hr, if_pos (h3.empty.1 hr)]; exact ⟨rfl, .nil⟩
    · rw [if_neg hr, if_neg (fun e => hr (h3.empty.2 e))]; trivial
end
end Go.Proofs.Ytbidnflcbgnckaa
namespace Go.Proofs.Ytbidnflcbgnckaa
open Go.RowKit

theorem fst_short {s : List UInt8} {x : Fst} (h : fst s = some x) : x.s.length ≤ s.length + 24 := by
  cases s with
  | nil => cases h
  | cons c r =>
    simp only [fst] at h
    split at h
    · injection h with h; subst h; simp only [List.length_take]; omega
    · split at h
      · cases hi : intR ((c :: r).take (run 48 57 (c :: r))) 1099511627776 with
        | none => rw [hi] at h; cases h
        | some v => rw [hi] at h; injection h with h; subst h; simp
      · split at h
        · split at h
          · cases h
          · split at h
            · cases h
            · split at h
              · injection h with h; subst h; simp only; omega
              · cases h
        · split at h
          · injection h with h; subst h; simp
          · cases h
theorem lexF_short : ∀ (f : Nat) (s : List UInt8) (p : Nat), (lexF f s p).1.length ≤ s.length ∧ ∀ w ∈ (lexF f s p).1, w.s.length ≤ s.length + 24
  | 0, s, p => ⟨by simp [lexF], by simp [lexF]⟩
  | _ + 1, [], p => ⟨by simp [lexF], by simp [lexF]⟩
  | f + 1, c :: r, p => by
    unfold lexF
    split
    · have := lexF_short f r (p + 1)
      exact ⟨by rw [List.length_cons]; omega, fun w hw => by have := this.2 w hw; rw [List.length_cons]; omega⟩
    · cases hf : fst (c :: r) with
      | none => simp
      | some x =>
        obtain ⟨_, h1, h2⟩ := fst_may hf
        have := lexF_short f ((c :: r).drop x.len) (p + x.len)
        rw [List.length_drop] at this
        simp only
        refine ⟨by rw [List.length_cons]; omega, fun w hw => ?_⟩
        rcases List.mem_cons.1 hw with rfl | hw
        · exact fst_short hf
        · have := this.2 w hw; omega
/-- What a text is read as, or what is wrong, and where. -/
def fil (s : List UInt8) : PR (List Node) := if 1000 < s.length then .bad 0 4 else match lexS s with
  | (_, some k) => .bad k 3
  | (ws, none) => match pTop s.length ws with
    | .bad p e => .bad p e
    | .ok l _ => if check l = 0 then .ok l [] else .bad 0 (check l)
theorem fil_long {s : List UInt8} (h : 1000 < s.length) : fil s = .bad 0 4 := by unfold fil; rw [if_pos h]
theorem fil_lex {s : List UInt8} {k : Nat} (h : ¬ 1000 < s.length) (hk : (lexS s).2 = some k) : fil s = .bad k 3 := by
  unfold fil; rw [if_neg h]
  generalize lexS s = x at hk ⊢
  obtain ⟨a, b⟩ := x
  cases hk; rfl
theorem fil_bad {s : List UInt8} {ws : List Wd} {p e : Int} (h : ¬ 1000 < s.length) (hk : lexS s = (ws, none)) (hp : pTop s.length ws = .bad p e) : fil s = .bad p e := by
  unfold fil; rw [if_neg h, hk]; simp only; rw [hp]
theorem fil_check {s : List UInt8} {ws : List Wd} {l : List Node} {r : List Wd} (h : ¬ 1000 < s.length) (hk : lexS s = (ws, none)) (hp : pTop s.length ws = .ok l r) (hc : check l ≠ 0) : fil s = .bad 0 (check l) := by
  unfold fil; rw [if_neg h, hk]; simp only; rw [hp]; simp only; rw [if_neg hc]
theorem fil_ok {s : List UInt8} {ws : List Wd} {l : List Node} {r : List Wd} (h : ¬ 1000 < s.length) (hk : lexS s = (ws, none)) (hp : pTop s.length ws = .ok l r) (hc : check l = 0) : fil s = .ok l [] := by
  unfold fil; rw [if_neg h, hk]; simp only; rw [hp]; simp only; rw [if_pos hc]
theorem lexS_short {s : List UInt8} {ws : List Wd} {x : Option Nat} (h : lexS s = (ws, x)) : ws.length ≤ s.length ∧ Wds (s.length + 24) ws := by
  have := lexF_short s.length s 0
  unfold lexS at h
  rw [h] at this
  exact this
/-- What Filter comes to. -/
def RetFil (w : World) (x : PR (List Node)) (e : Ending) (w' : World) : Prop := Below w.heap.size w w' ∧ match x with
  | .bad p er => er ≠ 0 ∧ e = .returned (.tuple #[.slice none 0 0, .int .i64 p, .int .i64 er])
  | .ok l _ => check l = 0 ∧ ∃ A c, e = .returned (.tuple #[.slice A l.length c, .int .i64 0, .int .i64 0]) ∧ InN w' A c l
set_option maxRecDepth 10000 in
set_option maxHeartbeats 1000000 in
theorem c_parse_Filter (s : List UInt8) (w : World) (hs : s.length ≤ 9223372036854775807) : Calls Try.prog 6 #[.string (str s)] w (RetFil w (fil s)) := by
  go_enter Try.func6, Try.ntmps6
  go_wp2_with (fail)
  refine (c_lex_All s w hs).mono ?_
  rintro e w1 ⟨hb1, hx⟩
  rcases hx with ⟨hl, rfl⟩ | ⟨hl, ⟨k, hk, rfl⟩ | ⟨v, ws, hk, rfl, own⟩⟩
  · have F := Lib.hid (fil_long hl)
    clear hl
    go_wp2_with (fail)
    go_ret3
    rw [F.out]
    exact ⟨hb1, by omega, rfl⟩
  · have F := Lib.hid (fil_lex (by omega) hk)
    clear hk
    go_wp2_with (fail)
    go_ret3
    rw [F.out]
    exact ⟨hb1, by omega, rfl⟩
  · obtain ⟨hn, hM⟩ := lexS_short hk
    obtain ⟨A, c, rfl, hI, hA⟩ := own_at Wd.cells_len own (by omega)
    have HK := Lib.hid hk
    have HM := Lib.hid hM
    have B1 := Lib.hid hb1
    have z1 := hb1.size
    have HI := Lib.hid hI
    have HA := Lib.hid hA
    clear hk hM hb1 hI hA own
    obtain ⟨w2, hw2⟩ : ∃ w2, w2 = w1.alloc (.cells #[.slice A ws.length c, .int .i64 (s.length : Int)] 50) := ⟨_, rfl⟩
    have b2 : Below w1.heap.size w1 w2 := by rw [hw2]; exact (by repeat (first | exact Below.refl _ _ | refine Below.drew ?_ | refine Below.alloc ?_ (by first | omega | (simp; done) | (simp; omega)) _ | refine Below.setCell ?_ (by first | omega | (simp; done) | (simp; omega)) _ | refine Below.trans ?_ (Below.mono (by assumption) (by first | omega | (simp; done) | (simp; omega)))))
    have R2 := Lib.hid (show Rdr w2 w1.heap.size s.length ws from ⟨A, c, by rw [hw2]; exact Blk.new _ _ _, HI.out.below b2, fun ad e => by have := (HA.out ad e).2; omega⟩)
    have B2 := Lib.hid (B1.out.trans (b2.mono z1))
    clear b2
    go_wp2_with (rw [← hw2]; clear hw2)
    refine (c_parse_read ws _ _ w2 R2.out (by omega)).mono ?_
    rintro e w3 ⟨v, p, er, rfl, hk3, hx⟩
    have B3 := Lib.hid (B2.out.trans (hk3.below B2.out.size (fun g e => by injection e with e; omega)))
    have HX := Lib.hid hx
    clear hk3 hx
    obtain ⟨w4, hw4⟩ : ∃ w4, w4 = w3.alloc (.cells #[.int .i64 p, .int .i64 er] 46) := ⟨_, rfl⟩
    have b4 : Below w3.heap.size w3 w4 := by rw [hw4]; exact (by repeat (first | exact Below.refl _ _ | refine Below.drew ?_ | refine Below.alloc ?_ (by first | omega | (simp; done) | (simp; omega)) _ | refine Below.setCell ?_ (by first | omega | (simp; done) | (simp; omega)) _ | refine Below.trans ?_ (Below.mono (by assumption) (by first | omega | (simp; done) | (simp; omega)))))
    have C4 := Lib.hid (show Blk w4 w3.heap.size #[.int .i64 p, .int .i64 er] by rw [hw4]; exact Blk.new _ _ _)
    have B4 := Lib.hid (B3.out.trans (b4.mono B3.out.size))
    have z3 := B3.out.size
    have z4 := C4.out.lt
    have b4 := Lib.hid b4
    cases hp : pTop s.length ws with
    | bad pp ee =>
      have H3 := HX.out
      rw [hp] at H3
      obtain ⟨rfl, rfl, rfl⟩ := H3
      have F := Lib.hid (fil_bad (by omega) HK.out hp)
      have T := pTop_told s.length HM.out
      rw [hp] at T
      have T := Lib.hid (show er ≠ 0 by rcases T with h | h <;> omega)
      have ne : (er != 0) = true := by simpa using T.out
      have q0 := C4.out.cell (i := 0) rfl
      have q1 := C4.out.cell (i := 1) rfl
      clear hp HX
      go_wp2_with (fail)
      rw [← hw4]
      clear hw4
      refine wp_region_grow (by kernel_rfl) (by kernel_rfl) ?_
      repeat (quiet_step ((first | (fail))))
      refine wpQuiet_nil ?_
      intro w5 hb5
      go_wp2_with (fail)
      go_ret3
      rw [F.out]
      exact ⟨B4.out.trans (hb5.mono B4.out.size), T.out, rfl⟩
    | ok l r =>
      have H3 := HX.out
      rw [hp] at H3
      obtain ⟨⟨A3, c3, rfl, hi3, -⟩, rfl, rfl⟩ := H3
      have T := pTop_told s.length HM.out
      rw [hp] at T
      have HT := Lib.hid T.1
      have I4 := Lib.hid (hi3.below b4.out)
      have HP := Lib.hid hp
      clear hp HX T hi3
      go_wp2_with (fail)
      rw [← hw4]
      clear hw4
      refine (c_pred_Check l A3 c3 _ I4.out (fun x hx => by have := HT.out x hx; omega)).mono ?_
      rintro e w5 ⟨rfl, hb5⟩
      have B5 := Lib.hid (B4.out.trans (hb5.mono B4.out.size))
      have I5 := Lib.hid (I4.out.below hb5)
      clear hb5
      by_cases hc : check l = 0
      · have F := Lib.hid (fil_ok (by omega) HK.out HP.out hc)
        have HC := Lib.hid hc
        have bc : (check l != 0) = false := by simpa using hc
        clear hc
        go_wp2_with (fail)
        go_ret3
        rw [F.out]
        exact ⟨B5.out, HC.out, A3, c3, rfl, I5.out⟩
      · have F := Lib.hid (fil_check (by omega) HK.out HP.out hc)
        have HC := Lib.hid hc
        have bc : (check l != 0) = true := by simpa using hc
        clear hc
        go_wp2_with (fail)
        go_ret3
        rw [F.out]
        exact ⟨B5.out, HC.out, rfl⟩
end Go.Proofs.Ytbidnflcbgnckaa
namespace Go.Proofs.Ytbidnflcbgnckaa
open Go.RowKit

/-- How far a text has been put in quotes. -/
def QuoAt (s acc : List UInt8) (k : Nat) : Prop := acc ++ ((s.drop k).flatMap quC ++ [34]) = quote s ∧ acc.length ≤ 4 * k + 1
theorem QuoAt.step {s acc : List UInt8} {k : Nat} (h : QuoAt s acc k) (hk : k < s.length) : QuoAt s (acc ++ quC s[k]) (k + 1) := by
  refine ⟨?_, ?_⟩
  · rw [← h.1, List.drop_eq_getElem_cons hk, List.flatMap_cons]; simp
  · have := h.2
    have hq : (quC s[k]).length ≤ 4 := by
      unfold quC
      split
      · simp
      · split <;> simp
    rw [List.length_append]; omega
theorem quC_hex {c : UInt8} (h : c.toNat < 32 ∨ 126 < c.toNat) : quC c = [92, 120, hexD (c.toNat / 16), hexD (c.toNat % 16)] := by unfold quC; rw [if_pos h]
theorem quC_esc {c : UInt8} (h : ¬ (c.toNat < 32 ∨ 126 < c.toNat)) (h2 : c.toNat = 34 ∨ c.toNat = 92) : quC c = [92, c] := by
  unfold quC; rw [if_neg h, if_pos (h2.imp (fun h => UInt8.toNat_inj.1 h) (fun h => UInt8.toNat_inj.1 h))]
theorem quC_one {c : UInt8} (h : ¬ (c.toNat < 32 ∨ 126 < c.toNat)) (h2 : ¬ (c.toNat = 34 ∨ c.toNat = 92)) : quC c = [c] := by
  unfold quC; rw [if_neg h, if_neg (fun h3 => h2 (h3.imp (fun h => by rw [h]; rfl) (fun h => by rw [h]; rfl)))]
set_option maxHeartbeats 4000000 in
set_option maxRecDepth 4000 in
theorem c_ref04_Quote (s : List UInt8) (w : World) (hs : s.length ≤ 1000000) : Calls Try.prog 20 #[.string (str s)] w (RetV w (.string (str (quote s)))) := by
  go_enter Try.func20, Try.ntmps20
  go_wp2_with (fail)
  rw [show ({ data := #[] } : ByteArray) = str [] from rfl]
  go_loopw [3, 4] (fun t i wr => ∃ (k : Nat) (acc : List UInt8), k ≤ s.length ∧ i = .int .i64 k ∧ t = .string (str acc) ∧ Hid (QuoAt s acc k) ∧ Hid (Below w.heap.size w wr)) (fun _ i _ => s.length - (intOf i).toNat)
  case atStart => exact ⟨0, [34], by omega, rfl, rfl, ⟨rfl, by simp⟩, Below.refl _ _⟩
  case round =>
    obtain ⟨k, acc, hk, rfl, rfl, H, B1⟩ := hrel
    have ha := H.out.2
    by_cases hlt : k < s.length
    · have d1 : decide (k < s.length) = true := by simpa using hlt
      have U2 := Lib.hid (H.out.step hlt)
      have h1 : List.take 1 (List.drop k s) = [s[k]] := by rw [List.drop_eq_getElem_cons hlt]; rfl
      have hc := s[k].toNat_lt
      by_cases g1 : s[k].toNat < 32 ∨ 126 < s[k].toNat
      · have Q := Lib.hid (quC_hex g1)
        have hcs : s[k].toNat < 32 ∨ (¬ s[k].toNat < 32 ∧ 126 < s[k].toNat) := by omega
        replace U2 := Lib.hid (by have := U2.out; rw [Q.out] at this; exact this)
        clear g1 H
        rcases hcs with g1 | ⟨g1, g2⟩
        · have j1 : decide ((s[k].toNat : Int) < 32) = true := by rw [decide_eq_true_iff]; omega
          clear g1
          go_wp2_with (fail)
          refine (c_ref04_digit (s[k].toNat / 16) (by omega) _).mono ?_
          rintro e w1 ⟨rfl, hb1⟩
          go_wp2_with (fail)
          refine (c_ref04_digit (s[k].toNat % 16) (by omega) _).mono ?_
          rintro e w2 ⟨rfl, hb2⟩
          have B2 := Lib.hid (B1.out.trans ((hb1.trans (hb2.mono hb1.size)).mono B1.out.size))
          clear hb1 hb2
          go_wp2_with (fail)
          go_roundw
          case rel =>
            exact ⟨k + 1, _, by omega, by go_num, by first | rfl | (simp; done), U2.out, B2.out⟩
          case measure => simp [intOf]; omega
        · have j1 : decide ((s[k].toNat : Int) < 32) = false := by rw [decide_eq_false_iff_not]; omega
          have j2 : decide ((126 : Int) < (s[k].toNat : Int)) = true := by rw [decide_eq_true_iff]; omega
          clear g1 g2
          go_wp2_with (fail)
          refine (c_ref04_digit (s[k].toNat / 16) (by omega) _).mono ?_
          rintro e w1 ⟨rfl, hb1⟩
          go_wp2_with (fail)
          refine (c_ref04_digit (s[k].toNat % 16) (by omega) _).mono ?_
          rintro e w2 ⟨rfl, hb2⟩
          have B2 := Lib.hid (B1.out.trans ((hb1.trans (hb2.mono hb1.size)).mono B1.out.size))
          clear hb1 hb2
          go_wp2_with (fail)
          go_roundw
          case rel => exact ⟨k + 1, _, by omega, by go_num, by first | rfl | (simp; done), U2.out, B2.out⟩
          case measure => simp [intOf]; omega
      · have j1 : decide ((s[k].toNat : Int) < 32) = false := by rw [decide_eq_false_iff_not]; omega
        have j2 : decide ((126 : Int) < (s[k].toNat : Int)) = false := by rw [decide_eq_false_iff_not]; omega
        by_cases g2 : s[k].toNat = 34 ∨ s[k].toNat = 92
        · replace U2 := Lib.hid (by have := U2.out; rw [quC_esc g1 g2] at this; exact this)
          have hcs : s[k].toNat = 34 ∨ (s[k].toNat ≠ 34 ∧ s[k].toNat = 92) := by omega
          clear g1 g2 H
          rcases hcs with g1 | ⟨g1, g2⟩
          · have j3 : ((s[k].toNat : Int) == 34) = true := by rw [beq_iff_eq]; omega
            clear g1
            go_wp2_with (fail)
            go_roundw
            case rel => exact ⟨k + 1, _, by omega, by go_num, by first | rfl | (simp; done), U2.out, B1.out⟩
            case measure => simp [intOf]; omega
          · have j3 : ((s[k].toNat : Int) == 34) = false := by rw [beq_eq_false_iff_ne]; omega
            have j4 : ((s[k].toNat : Int) == 92) = true := by rw [beq_iff_eq]; omega
            clear g1 g2
            go_wp2_with (fail)
            go_roundw
            case rel => exact ⟨k + 1, _, by omega, by go_num, by first | rfl | (simp; done), U2.out, B1.out⟩
            case measure => simp [intOf]; omega
        · replace U2 := Lib.hid (by have := U2.out; rw [quC_one g1 g2] at this; exact this)
          have j3 : ((s[k].toNat : Int) == 34) = false := by rw [beq_eq_false_iff_ne]; omega
          have j4 : ((s[k].toNat : Int) == 92) = false := by rw [beq_eq_false_iff_ne]; omega
          clear g1 g2 H
          go_wp2_with (fail)
          go_roundw
          case rel => exact ⟨k + 1, _, by omega, by go_num, by first | rfl | (simp; done), U2.out, B1.out⟩
          case measure => simp [intOf]; omega
    · have d1 : decide (k < s.length) = false := by simpa using hlt
      have H2 := Lib.hid (show acc ++ [34] = quote s by rw [← H.out.1, List.drop_eq_nil_of_le (by omega)]; simp)
      clear hlt H
      go_wp2_with (fail)
      go_ret
      exact RetV.str H2.out B1.out
end Go.Proofs.Ytbidnflcbgnckaa
namespace Go.Proofs.Ytbidnflcbgnckaa
open Go.RowKit

/-- What stands between quotes, by any bytes behind a backslash; the last byte is not read. -/
def opn : List UInt8 → List UInt8
  | [] => []
  | [_] => []
  | c :: d :: r =>
    if c.toNat ≠ 92 then c :: opn (d :: r)
    else match r with
      | a :: b :: r2 => if d.toNat = 120 ∧ hexV a ≤ 15 ∧ hexV b ≤ 15 then UInt8.ofNat (16 * hexV a + hexV b) :: opn r2 else d :: opn (a :: b :: r2)
      | [a] => d :: opn [a]
      | [] => [d]
termination_by l => l.length
theorem opn_one (c : UInt8) : opn [c] = [] := by rw [opn]
theorem opn_two (c d : UInt8) (r : List UInt8) : opn (c :: d :: r) = if c.toNat ≠ 92 then c :: opn (d :: r)
    else match r with
      | a :: b :: r2 => if d.toNat = 120 ∧ hexV a ≤ 15 ∧ hexV b ≤ 15 then UInt8.ofNat (16 * hexV a + hexV b) :: opn r2 else d :: opn (a :: b :: r2)
      | [a] => d :: opn [a]
      | [] => [d] := opn.eq_def (c :: d :: r)
theorem opn_plain {c : UInt8} {r : List UInt8} (h : c.toNat ≠ 92) (hr : r ≠ []) : opn (c :: r) = c :: opn r := by
  cases r with
  | nil => exact absurd rfl hr
  | cons d r => rw [opn_two, if_pos h]
theorem opn_hex {c d a b : UInt8} {r : List UInt8} (hc : c.toNat = 92) (h : d.toNat = 120 ∧ hexV a ≤ 15 ∧ hexV b ≤ 15) : opn (c :: d :: a :: b :: r) = UInt8.ofNat (16 * hexV a + hexV b) :: opn r := by
  rw [opn_two, if_neg (by omega)]
  exact if_pos h
theorem opn_esc {c d : UInt8} {r : List UInt8} (hc : c.toNat = 92) (h : ∀ a b r2, r = a :: b :: r2 → ¬ (d.toNat = 120 ∧ hexV a ≤ 15 ∧ hexV b ≤ 15)) : opn (c :: d :: r) = d :: opn r := by
  rw [opn_two, if_neg (by omega)]
  match r, h with
  | [], _ => simp only; rw [opn]
  | [a], _ => rfl
  | a :: b :: r2, h => exact if_neg (h a b r2 rfl)
theorem opn_quC (c : UInt8) (r : List UInt8) (hr : r ≠ []) : opn (quC c ++ r) = c :: opn r := by
  have hc := c.toNat_lt
  by_cases h : c.toNat < 32 ∨ 126 < c.toNat
  · rw [quC_hex h]
    have e1 := hexV_D (n := c.toNat / 16) (by omega)
    have e2 := hexV_D (n := c.toNat % 16) (by omega)
    simp only [List.cons_append, List.nil_append]
    rw [opn_hex rfl ⟨rfl, by omega, by omega⟩, e1, e2, show 16 * (c.toNat / 16) + c.toNat % 16 = c.toNat by omega]
    simp
  · by_cases h2 : c.toNat = 34 ∨ c.toNat = 92
    · rw [quC_esc h h2]
      simp only [List.cons_append, List.nil_append]
      exact opn_esc rfl (fun a b r2 _ h3 => by omega)
    · rw [quC_one h h2]
      exact opn_plain (by omega) hr
theorem opn_quote : ∀ s : List UInt8, opn (s.flatMap quC ++ [34]) = s
  | [] => opn_one 34
  | c :: s => by rw [List.flatMap_cons, List.append_assoc, opn_quC c _ (by simp), opn_quote s]
end Go.Proofs.Ytbidnflcbgnckaa
namespace Go.Proofs.Ytbidnflcbgnckaa
open Go.RowKit

theorem one_in (W : World) (e : TypeId) (x : UInt8) : InB (W.alloc (.cells #[.int .u8 (x.toNat : Int)] e)) (some ⟨W.heap.size, 0, none⟩) 1 [x] := by
  refine ⟨by simp, by omega, by simp, .inr ⟨W.heap.size, 0, rfl, by rw [World.size_alloc]; exact Nat.lt_succ_self _, fun i hi j u hu => ?_⟩⟩
  obtain rfl : i = 0 := by simpa using hi
  have hj : j < 1 := (List.getElem?_eq_some_iff.1 hu).1
  obtain rfl : j = 0 := by omega
  rw [World.cell?_alloc_new]
  simp only [bc, List.getElem_cons_zero, List.getElem?_cons_zero, Option.some.injEq] at hu
  rw [← hu]
  rfl
def OpnAt (t acc : List UInt8) (k : Nat) : Prop := acc ++ opn (t.drop k) = opn (t.drop 1) ∧ acc.length ≤ k
theorem OpnAt.end {t acc : List UInt8} {k : Nat} (h : OpnAt t acc k) (hk : t.length ≤ k + 1) : acc = opn (t.drop 1) := by
  rw [← h.1]
  have : opn (t.drop k) = [] := by
    match e : t.drop k with
    | [] => rw [opn]
    | [c] => rw [opn]
    | c :: d :: r =>
      have := congrArg List.length e
      rw [List.length_drop] at this
      simp at this
      omega
  rw [this, List.append_nil]
theorem OpnAt.plain {t acc : List UInt8} {k : Nat} (h : OpnAt t acc k) (hk : k + 1 < t.length) (hc : (t[k]'(by omega)).toNat ≠ 92) : OpnAt t (acc ++ [t[k]'(by omega)]) (k + 1) := by
  refine ⟨?_, by have := h.2; simp; omega⟩
  rw [← h.1, List.drop_eq_getElem_cons (show k < t.length by omega), opn_plain hc (by
    intro e
    have := congrArg List.length e
    rw [List.length_drop] at this
    simp at this; omega)]
  simp
theorem OpnAt.esc {t acc : List UInt8} {k : Nat} (h : OpnAt t acc k) (hk : k + 1 < t.length) (hc : (t[k]'(by omega)).toNat = 92)
    (hn : ∀ (h3 : k + 3 < t.length), ¬ ((t[k + 1]'hk).toNat = 120 ∧ hexV (t[k + 2]'(by omega)) ≤ 15 ∧ hexV (t[k + 3]'h3) ≤ 15)) : OpnAt t (acc ++ [t[k + 1]'hk]) (k + 2) := by
  refine ⟨?_, by have := h.2; simp; omega⟩
  rw [← h.1, List.drop_eq_getElem_cons (show k < t.length by omega), List.drop_eq_getElem_cons hk, opn_esc hc (by
    intro a b r2 e
    have hl := congrArg List.length e
    rw [List.length_drop] at hl
    simp only [List.length_cons] at hl
    have h3 : k + 3 < t.length := by omega
    rw [List.drop_eq_getElem_cons (show k + 1 + 1 < t.length by omega), List.drop_eq_getElem_cons (show k + 1 + 1 + 1 < t.length by omega)] at e
    simp only [List.cons.injEq] at e
    rw [← e.1, ← e.2.1]
    exact hn h3)]
  simp
theorem OpnAt.hex {t acc : List UInt8} {k : Nat} (h : OpnAt t acc k) (h3 : k + 3 < t.length) (hc : (t[k]'(by omega)).toNat = 92)
    (hn : (t[k + 1]'(by omega)).toNat = 120 ∧ hexV (t[k + 2]'(by omega)) ≤ 15 ∧ hexV (t[k + 3]'h3) ≤ 15) : OpnAt t (acc ++ [UInt8.ofNat (16 * hexV (t[k + 2]'(by omega)) + hexV (t[k + 3]'h3))]) (k + 4) := by
  refine ⟨?_, by have := h.2; simp; omega⟩
  rw [← h.1, List.drop_eq_getElem_cons (show k < t.length by omega), List.drop_eq_getElem_cons (show k + 1 < t.length by omega), List.drop_eq_getElem_cons (show k + 1 + 1 < t.length by omega), List.drop_eq_getElem_cons (show k + 1 + 1 + 1 < t.length by omega), opn_hex hc hn]
  simp
theorem hexI_ge {c : UInt8} : 0 ≤ hexI c ↔ hexV c ≤ 15 := by unfold hexI; split <;> omega
theorem hexI_eq {c : UInt8} (h : hexV c ≤ 15) : hexI c = hexV c := by unfold hexI; rw [if_pos h]
set_option maxHeartbeats 4000000 in
set_option maxRecDepth 4000 in
theorem c_ref04_open (t : List UInt8) (w : World) (hs : t.length ≤ 1000000) (hpos : 1 ≤ t.length) : Calls Try.prog 57 #[.string (str t)] w (RetV w (.string (str (opn (t.drop 1))))) := by
  go_enter Try.func57, Try.ntmps57
  go_wp2_with (fail)
  rw [show ({ data := #[] } : ByteArray) = str [] from rfl]
  go_loopw [3, 4] (fun x i wr => ∃ (k : Nat) (acc : List UInt8), 1 ≤ k ∧ k ≤ t.length + 2 ∧ i = .int .i64 k ∧ x = .string (str acc) ∧ Hid (OpnAt t acc k) ∧ Hid (Below w.heap.size w wr)) (fun _ i _ => t.length + 2 - (intOf i).toNat)
  case atStart => exact ⟨1, [], by omega, by omega, rfl, rfl, ⟨rfl, by simp⟩, Below.refl _ _⟩
  case round =>
    obtain ⟨k, acc, hk0, hk, rfl, rfl, H, B1⟩ := hrel
    have ha := H.out.2
    have hz := B1.out.size
    by_cases hk1 : k + 1 < t.length
    · have d1 : decide ((k : Int) < (t.length : Int) - 1) = true := by rw [decide_eq_true_iff]; omega
      have hk0' : k < t.length := by omega
      have h0 : List.take 1 (List.drop k t) = [t[k]] := by rw [List.drop_eq_getElem_cons hk0']; rfl
      by_cases g1 : t[k].toNat = 92
      · have j1 : ((t[k].toNat : Int) != 92) = false := by rw [bne_eq_false_iff_eq]; omega
        by_cases g2 : t[k + 1].toNat = 120
        · have j2 : ((t[k + 1].toNat : Int) == 120) = true := by rw [beq_iff_eq]; omega
          by_cases hk3 : k + 3 < t.length
          · have hk2 : k + 2 < t.length := by omega
            have d3 : decide (k + 3 < t.length) = true := by simpa using hk3
            have d3' : decide ((k : Int) + 3 < (t.length : Int)) = true := by rw [decide_eq_true_iff]; omega
            have CA0 := Lib.hid (fun w' => c_ref04_hex (t[k + 2]'hk2) w')
            have CB0 := Lib.hid (fun w' => c_ref04_hex (t[k + 3]'hk3) w')
            by_cases g3 : hexV (t[k + 2]'hk2) ≤ 15
            · by_cases g4 : hexV (t[k + 3]'hk3) ≤ 15
              · have U2 := Lib.hid (H.out.hex hk3 g1 ⟨g2, g3, g4⟩)
                obtain ⟨va, hva⟩ : ∃ v, v = hexV (t[k + 2]'hk2) := ⟨_, rfl⟩
                obtain ⟨vb, hvb⟩ : ∃ v, v = hexV (t[k + 3]'hk3) := ⟨_, rfl⟩
                have CA := Lib.hid (fun w' => show Calls Try.prog 65 #[.int .u8 (t[k + 2]'hk2).toNat] w' (RetV w' (.int .i64 (va : Int))) by have := CA0.out w'; rw [hexI_eq g3, ← hva] at this; exact this)
                have CB := Lib.hid (fun w' => show Calls Try.prog 65 #[.int .u8 (t[k + 3]'hk3).toNat] w' (RetV w' (.int .i64 (vb : Int))) by have := CB0.out w'; rw [hexI_eq g4, ← hvb] at this; exact this)
                rw [← hva, ← hvb] at U2
                rw [← hva] at g3
                rw [← hvb] at g4
                have k1 : decide ((0 : Int) ≤ (va : Int)) = true := by simp
                have k2 : decide ((0 : Int) ≤ (vb : Int)) = true := by simp
                obtain ⟨x, hx⟩ : ∃ x : UInt8, 16 * (va : Int) + (vb : Int) = (x.toNat : Int) := ⟨UInt8.ofNat (16 * va + vb), by simp; omega⟩
                have HX := Lib.hid hx
                have hxx := x.toNat_lt
                have XE : UInt8.ofNat (16 * va + vb) = x := by rw [show 16 * va + vb = x.toNat by omega]; simp
                rw [XE] at U2
                clear hva hvb CA0 CB0 g1 g2 H hx XE
                go_wp2_with (fail)
                refine (CA.out _).mono ?_
                rintro e w1 ⟨rfl, hb1⟩
                go_wp2_with (fail)
                refine (CB.out _).mono ?_
                rintro e w2 ⟨rfl, hb2⟩
                have B2 := Lib.hid (B1.out.trans ((hb1.trans (hb2.mono hb1.size)).mono B1.out.size))
                clear hb1 hb2 B1 hz
                have hz := B2.out.size
                go_wp2_with (fail)
                refine wp_region_rel [Sp.eq (.string (str acc)), Sp.eq (.string (str t)), Sp.eq (.int .i64 k), Sp.eq (.int .i64 ((k + 2 : Nat) : Int)), Sp.eq (.int .u8 (t[k + 2]'hk2).toNat), Sp.eq (.int .i64 (va : Int)), Sp.eq (.int .i64 (16 * (va : Int))), Sp.eq (.string (str t)), Sp.eq (.int .i64 k), Sp.eq (.int .i64 ((k + 3 : Nat) : Int)), Sp.eq (.int .u8 (t[k + 3]'hk3).toNat), Sp.eq (.int .i64 (vb : Int)), Sp.eq (.int .i64 (x.toNat : Int)), Sp.eq (.int .u8 (x.toNat : Int)), Sp.slice 1 bc [x], Sp.eq (.string (str [x])), Sp.eq (.string (str (acc ++ [x]))), Sp.eq (.string (str (acc ++ [x])))] 81 (by kernel_rfl) (by kernel_rfl) rfl rfl ?_ ?_
                · refine ⟨?_, ?_, ?_, ?_, ?_, ?_, ?_, ?_, ?_, ?_, ?_, ?_, ?_, ?_, ?_, ?_, ?_, ?_, trivial⟩
                  all_goals (intro u W2 hb2 hd; simp [Deps, Region.binds, Sp.slice_holds, Sp.eq_holds] at hd; simp only [putDeps, dstOf, Region.binds])
                  case refine_1 =>
                    go_wp2_with (fail); exact RelEnd.mk rfl (Below.refl _ _) rfl
                  case refine_2 =>
                    go_wp2_with (fail); exact RelEnd.mk rfl (Below.refl _ _) rfl
                  case refine_3 =>
                    go_wp2_with (fail); exact RelEnd.mk rfl (Below.refl _ _) rfl
                  case refine_4 =>
                    go_wp2_with (fail); exact RelEnd.mk rfl (Below.refl _ _) rfl
                  case refine_5 =>
                    go_wp2_with (fail); exact RelEnd.mk rfl (Below.refl _ _) rfl
                  case refine_6 =>
                    go_wp2_with (go_at_call 65; refine (CA.out _).mono ?_; rintro e3 W3 ⟨rfl, hb3⟩)
                    exact RelEnd.mk rfl hb3 rfl
                  case refine_7 =>
                    go_wp2_with (fail); exact RelEnd.mk rfl (Below.refl _ _) rfl
                  case refine_8 =>
                    go_wp2_with (fail); exact RelEnd.mk rfl (Below.refl _ _) rfl
                  case refine_9 =>
                    go_wp2_with (fail); exact RelEnd.mk rfl (Below.refl _ _) rfl
                  case refine_10 =>
                    go_wp2_with (fail); exact RelEnd.mk rfl (Below.refl _ _) rfl
                  case refine_11 =>
                    go_wp2_with (fail); exact RelEnd.mk rfl (Below.refl _ _) rfl
                  case refine_12 =>
                    go_wp2_with (go_at_call 65; refine (CB.out _).mono ?_; rintro e3 W3 ⟨rfl, hb3⟩)
                    exact RelEnd.mk rfl hb3 rfl
                  case refine_13 =>
                    have hx := HX.out
                    go_wp2_with (fail); exact RelEnd.mk rfl (Below.refl _ _) rfl
                  case refine_14 =>
                    go_wp2_with (fail); exact RelEnd.mk rfl (Below.refl _ _) rfl
                  case refine_15 =>
                    go_wp2_with (fail)
                    refine RelEnd.mk rfl ((Below.refl _ _).alloc (Nat.le_refl _) _) ?_
                    exact ⟨_, 1, rfl, one_in _ _ x⟩
                  case refine_16 =>
                    obtain ⟨A6, c6, e6, in6⟩ := hd
                    have kb := conv_str (P := Try.prog) (w := W2) Try.underlying29 Try.underlying5 Try.underlying9 in6
                    simp only [List.length_singleton] at kb e6
                    go_wp2_with (fail)
                    exact RelEnd.mk rfl (Below.refl _ _) rfl
                  case refine_17 =>
                    go_wp2_with (fail); exact RelEnd.mk rfl (Below.refl _ _) rfl
                  case refine_18 =>
                    go_wp2_with (fail); exact RelEnd.mk rfl (Below.refl _ _) rfl
                · intro u W2 hb2 hold
                  simp only [RelHold, Sp.eq_holds, Sp.slice_holds, Nat.reduceAdd] at hold
                  obtain ⟨-, -, -, -, -, -, -, -, -, -, -, -, -, -, -, -, -, hE, -⟩ := hold
                  simp only [putAll, Act.put, Nat.reduceAdd, List.setIfInBounds_toArray, List.set_cons_zero, List.set_cons_succ]
                  rw [hE]
                  replace B2 := Lib.hid (B2.out.trans (hb2.mono hz))
                  clear hb2
                  go_wp2_with (fail)
                  go_roundw
                  case rel => exact ⟨k + 4, _, by omega, by omega, by go_num, rfl, U2.out, B2.out⟩
                  case measure => simp [intOf]; omega
              · have U2 := Lib.hid (H.out.esc hk1 g1 (fun _ h => g4 h.2.2))
                have va0 : 0 ≤ hexI (t[k + 2]'hk2) := hexI_ge.2 g3
                have vb0 : ¬ 0 ≤ hexI (t[k + 3]'hk3) := fun h => g4 (hexI_ge.1 h)
                obtain ⟨va, hva⟩ : ∃ v, v = hexI (t[k + 2]'hk2) := ⟨_, rfl⟩
                obtain ⟨vb, hvb⟩ : ∃ v, v = hexI (t[k + 3]'hk3) := ⟨_, rfl⟩
                rw [← hva] at CA0 va0
                rw [← hvb] at CB0 vb0
                have k1 : decide ((0 : Int) ≤ va) = true := by rw [decide_eq_true_iff]; exact va0
                have k2 : decide ((0 : Int) ≤ vb) = false := by rw [decide_eq_false_iff_not]; exact vb0
                clear hva hvb va0 vb0 g1 g2 g3 g4 H
                go_wp2_with (fail)
                refine (CA0.out _).mono ?_
                rintro e w1 ⟨rfl, hb1⟩
                go_wp2_with (fail)
                refine (CB0.out _).mono ?_
                rintro e w2 ⟨rfl, hb2⟩
                replace B1 := Lib.hid (B1.out.trans ((hb1.trans (hb2.mono hb1.size)).mono B1.out.size))
                clear hb1 hb2
                have h1 : List.take 1 (List.drop (k + 1) t) = [t[k + 1]] := by rw [List.drop_eq_getElem_cons hk1]; rfl
                go_wp2_with (fail)
                go_roundw
                case rel => exact ⟨k + 2, _, by omega, by omega, by go_num, by first | rfl | (simp; done), U2.out, B1.out⟩
                case measure => simp [intOf]; omega
            · have U2 := Lib.hid (H.out.esc hk1 g1 (fun _ h => g3 h.2.1))
              have va0 : ¬ 0 ≤ hexI (t[k + 2]'hk2) := fun h => g3 (hexI_ge.1 h)
              obtain ⟨va, hva⟩ : ∃ v, v = hexI (t[k + 2]'hk2) := ⟨_, rfl⟩
              rw [← hva] at CA0 va0
              have k1 : decide ((0 : Int) ≤ va) = false := by rw [decide_eq_false_iff_not]; exact va0
              clear hva va0 g1 g2 g3 H CB0
              go_wp2_with (fail)
              refine (CA0.out _).mono ?_
              rintro e w1 ⟨rfl, hb1⟩
              replace B1 := Lib.hid (B1.out.trans (hb1.mono B1.out.size))
              clear hb1
              have h1 : List.take 1 (List.drop (k + 1) t) = [t[k + 1]] := by rw [List.drop_eq_getElem_cons hk1]; rfl
              go_wp2_with (fail)
              go_roundw
              case rel => exact ⟨k + 2, _, by omega, by omega, by go_num, by first | rfl | (simp; done), U2.out, B1.out⟩
              case measure => simp [intOf]; omega
          · have U2 := Lib.hid (H.out.esc hk1 g1 (fun h => absurd h hk3))
            have d3 : decide (k + 3 < t.length) = false := by simpa using hk3
            have d3' : decide ((k : Int) + 3 < (t.length : Int)) = false := by rw [decide_eq_false_iff_not]; omega
            clear g1 g2 H
            have h1 : List.take 1 (List.drop (k + 1) t) = [t[k + 1]] := by rw [List.drop_eq_getElem_cons hk1]; rfl
            go_wp2_with (fail)
            go_roundw
            case rel => exact ⟨k + 2, _, by omega, by omega, by go_num, by first | rfl | (simp; done), U2.out, B1.out⟩
            case measure => simp [intOf]; omega
        · have U2 := Lib.hid (H.out.esc hk1 g1 (fun _ h => g2 h.1))
          have j2 : ((t[k + 1].toNat : Int) == 120) = false := by rw [beq_eq_false_iff_ne]; omega
          clear g1 g2 H
          have h1 : List.take 1 (List.drop (k + 1) t) = [t[k + 1]] := by rw [List.drop_eq_getElem_cons hk1]; rfl
          go_wp2_with (fail)
          go_roundw
          case rel => exact ⟨k + 2, _, by omega, by omega, by go_num, by first | rfl | (simp; done), U2.out, B1.out⟩
          case measure => simp [intOf]; omega
      · have j1 : ((t[k].toNat : Int) != 92) = true := by rw [bne_iff_ne]; omega
        have U2 := Lib.hid (H.out.plain hk1 g1)
        clear g1 H
        go_wp2_with (fail)
        go_roundw
        case rel => exact ⟨k + 1, _, by omega, by omega, by go_num, by first | rfl | (simp; done), U2.out, B1.out⟩
        case measure => simp [intOf]; omega
    · have d1 : decide ((k : Int) < (t.length : Int) - 1) = false := by rw [decide_eq_false_iff_not]; omega
      have H2 := Lib.hid (H.out.end (by omega))
      clear H
      go_wp2_with (fail)
      go_ret
      exact RetV.str H2.out B1.out
end Go.Proofs.Ytbidnflcbgnckaa
namespace Go.Proofs.Ytbidnflcbgnckaa
open Go.RowKit

def showV (x : Val) : List UInt8 := if x.ok then (if x.kind = 1 then tens x.n.toNat else if x.kind = 2 then quote x.s else [45]) else []
theorem showV_bad {x : Val} (h : x.ok = false) : showV x = [] := by unfold showV; rw [h]; rfl
theorem showV_num {x : Val} (h : x.ok = true) (hk : x.kind = 1) : showV x = tens x.n.toNat := by unfold showV; rw [if_pos h, if_pos hk]
theorem showV_text {x : Val} (h : x.ok = true) (hk : x.kind = 2) : showV x = quote x.s := by unfold showV; rw [if_pos h, if_neg (by omega), if_pos hk]
theorem showV_none {x : Val} (h : x.ok = true) (h1 : x.kind ≠ 1) (h2 : x.kind ≠ 2) : showV x = [45] := by unfold showV; rw [if_pos h, if_neg h1, if_neg h2]
theorem Val.num_bd {x : Val} (h : x.ok = true) (hk : x.kind = 1) : 0 ≤ x.n ∧ x.n ≤ 1099511627776 := by
  unfold Val.ok at h
  rw [if_neg (by omega), if_pos hk] at h
  simp only [Bool.and_eq_true, decide_eq_true_eq] at h
  exact h.1
theorem Val.text_bd {x : Val} (h : x.ok = true) (hk : x.kind = 2) : x.s.length ≤ 24 := by
  unfold Val.ok at h
  rw [if_neg (by omega), if_neg (by omega), if_pos hk] at h
  simp only [Bool.and_eq_true, decide_eq_true_eq] at h
  exact h.2
set_option maxHeartbeats 1000000 in
theorem c_ref04_Show (x : Val) (w : World) (hs : x.s.length ≤ 9223372036854775807) : Calls Try.prog 58 #[.agg x.c3] w (RetV w (.string (str (showV x)))) := by
  have B0 := Lib.hid (At.new w 39 x.c3)
  have q0 := B0.out.2.cell (show x.c3[0]? = _ from rfl)
  have q1 := B0.out.2.cell (show x.c3[1]? = _ from rfl)
  have q2 := B0.out.2.cell (show x.c3[2]? = _ from rfl)
  have CC := Lib.hid (fun w' => show Calls Try.prog 42 #[.agg x.c3] w' (RetV w' (.bool x.ok)) from c_ref04_Check x w' hs)
  cases hok : x.ok
  case false =>
    rw [hok] at CC
    rw [showV_bad hok]
    clear hok
    go_enter Try.func58, Try.ntmps58
    go_wp2_with (fail)
    refine (CC.out _).mono ?_
    rintro e w1 ⟨rfl, hb1⟩
    go_wp2_with (fail)
    go_ret
    exact RetV.of rfl (B0.out.1.trans (hb1.mono B0.out.1.size))
  case true =>
    rw [hok] at CC
    have hcs : x.kind = 1 ∨ (x.kind ≠ 1 ∧ x.kind = 2) ∨ (x.kind ≠ 1 ∧ x.kind ≠ 2) := by omega
    rcases hcs with g1 | ⟨g1, g2⟩ | ⟨g1, g2⟩
    · obtain ⟨b0, b1⟩ := Val.num_bd hok g1
      obtain ⟨m, hm⟩ : ∃ m : Nat, x.n = m := ⟨x.n.toNat, by omega⟩
      have E := Lib.hid (show showV x = tens m by rw [showV_num hok g1, hm]; rfl)
      have CT := Lib.hid (fun w' => show Calls Try.prog 19 #[.int .i64 x.n] w' (RetV w' (.string (str (tens m)))) by rw [hm]; exact c_ref03_Tens m (by omega) w')
      have j1 : (x.kind == 1) = true := by simpa using g1
      clear hok g1 hm b0 b1
      rw [E.out]
      go_enter Try.func58, Try.ntmps58
      go_wp2_with (fail)
      refine (CC.out _).mono ?_
      rintro e w1 ⟨rfl, hb1⟩
      replace B0 := Lib.hid (B0.out.step hb1)
      clear q0 q1 q2 hb1
      have q0 := B0.out.2.cell (show x.c3[0]? = _ from rfl)
      have q1 := B0.out.2.cell (show x.c3[1]? = _ from rfl)
      have q2 := B0.out.2.cell (show x.c3[2]? = _ from rfl)
      go_wp2_with (fail)
      refine (CT.out _).mono ?_
      rintro e w2 ⟨rfl, hb2⟩
      go_wp2_with (fail)
      go_ret
      exact RetV.of rfl (B0.out.1.trans (hb2.mono B0.out.1.size))
    · have E := Lib.hid (showV_text hok g2)
      have hl := Val.text_bd hok g2
      have CQ := Lib.hid (fun w' => c_ref04_Quote x.s w' (by omega))
      have j1 : (x.kind == 1) = false := by simpa using g1
      have j2 : (x.kind == 2) = true := by simpa using g2
      clear hok g1 g2
      rw [E.out]
      go_enter Try.func58, Try.ntmps58
      go_wp2_with (fail)
      refine (CC.out _).mono ?_
      rintro e w1 ⟨rfl, hb1⟩
      replace B0 := Lib.hid (B0.out.step hb1)
      clear q0 q1 q2 hb1
      have q0 := B0.out.2.cell (show x.c3[0]? = _ from rfl)
      have q1 := B0.out.2.cell (show x.c3[1]? = _ from rfl)
      have q2 := B0.out.2.cell (show x.c3[2]? = _ from rfl)
      go_wp2_with (fail)
      refine (CQ.out _).mono ?_
      rintro e w2 ⟨rfl, hb2⟩
      go_wp2_with (fail)
      go_ret
      exact RetV.of rfl (B0.out.1.trans (hb2.mono B0.out.1.size))
    · have E := Lib.hid (showV_none hok g1 g2)
      have j1 : (x.kind == 1) = false := by simpa using g1
      have j2 : (x.kind == 2) = false := by simpa using g2
      clear hok g1 g2
      rw [E.out]
      go_enter Try.func58, Try.ntmps58
      go_wp2_with (fail)
      refine (CC.out _).mono ?_
      rintro e w1 ⟨rfl, hb1⟩
      replace B0 := Lib.hid (B0.out.step hb1)
      clear q0 q1 q2 hb1
      have q0 := B0.out.2.cell (show x.c3[0]? = _ from rfl)
      go_wp2_with (fail)
      go_ret
      exact RetV.of rfl B0.out.1
/-- What the reference's Read tries. -/
def candV (t : List UInt8) : Val := match intR t 1099511627776 with
  | some n => ⟨1, n, []⟩
  | none => if 1 < t.length ∧ t.head? = some 34 ∧ t.length ≤ 98 then ⟨2, 0, opn (t.drop 1)⟩ else vz
theorem quote_len (u : List UInt8) : (quote u).length ≤ 4 * u.length + 2 := by
  have : (u.flatMap quC).length ≤ 4 * u.length := by
    induction u with
    | nil => simp
    | cons c u ih =>
      have hq : (quC c).length ≤ 4 := by
        unfold quC
        split
        · simp
        · split <;> simp
      rw [List.flatMap_cons, List.length_append, List.length_cons]; omega
  have e : (quote u).length = (u.flatMap quC).length + 2 := by unfold quote; rw [List.length_cons, List.length_append]; rfl
  omega
theorem candV_read (t : List UInt8) : valR t = if showV (candV t) = t then some (candV t) else none := by
  cases hi : intR t 1099511627776 with
  | some n =>
    obtain ⟨e1, e2, e3⟩ := tens_intR hi
    have hc : candV t = ⟨1, n, []⟩ := by unfold candV; rw [hi]
    have hne : t ≠ [45] := fun e => by
      rw [e] at hi
      have h0 : intR [45] 1099511627776 = none := by decide
      rw [h0] at hi; cases hi
    have hok : (⟨1, n, []⟩ : Val).ok = true := by unfold Val.ok; simp; omega
    rw [hc, showV_num hok rfl]
    simp only [Int.toNat_natCast]
    rw [if_pos e1.symm]
    unfold valR; rw [if_neg hne, hi]
  | none =>
    by_cases hb : 1 < t.length ∧ t.head? = some 34 ∧ t.length ≤ 98
    · have hc : candV t = ⟨2, 0, opn (t.drop 1)⟩ := by unfold candV; rw [hi]; exact if_pos hb
      have hne : t ≠ [45] := fun e => by rw [e] at hb; simp at hb
      rw [hc]
      have hv : valR t = match unquote t with | some u => if u.length ≤ 24 then some (⟨2, 0, u⟩ : Val) else none | none => none := by unfold valR; rw [if_neg hne, hi]; rfl
      rw [hv]
      cases hu : unquote t with
      | some u =>
        have hq := quote_unquote hu
        have ho : opn (t.drop 1) = u := by rw [← hq]; unfold quote; simp only [List.drop_succ_cons, List.drop_zero]; exact opn_quote u
        rw [ho]
        by_cases hl : u.length ≤ 24
        · have hok : (⟨2, 0, u⟩ : Val).ok = true := by unfold Val.ok; simp; exact hl
          rw [showV_text hok rfl, if_pos hq]
          exact if_pos hl
        · have hok : (⟨2, 0, u⟩ : Val).ok = false := by unfold Val.ok; simp; omega
          rw [showV_bad hok, if_neg (fun e => by rw [← e] at hb; simp at hb)]
          exact if_neg hl
      | none =>
        simp only
        rw [if_neg]
        intro e
        by_cases hl : (opn (t.drop 1)).length ≤ 24
        · have hok : (⟨2, 0, opn (t.drop 1)⟩ : Val).ok = true := by unfold Val.ok; simp; simpa using hl
          rw [showV_text hok rfl] at e
          have := unquote_quote (opn (t.drop 1))
          simp only at e
          rw [e, hu] at this
          cases this
        · have hok : (⟨2, 0, opn (t.drop 1)⟩ : Val).ok = false := by unfold Val.ok; simp; simpa using hl
          rw [showV_bad hok] at e
          rw [← e] at hb; simp at hb
    · have hc : candV t = vz := by unfold candV; rw [hi]; exact if_neg hb
      rw [hc, showV_none (by decide) (by decide) (by decide)]
      by_cases h45 : t = [45]
      · subst h45; rw [if_pos rfl]; exact valR_dash
      · rw [if_neg (fun e => h45 e.symm)]
        unfold valR
        rw [if_neg h45, hi]
        simp only
        cases hu : unquote t with
        | none => rfl
        | some u =>
          refine if_neg (fun hl => hb ?_)
          have hq := quote_unquote hu
          have := quote_len u
          rw [hq] at this
          refine ⟨?_, ?_, by omega⟩
          · rw [← hq]; unfold quote; simp
          · rw [← hq]; unfold quote; rfl
end Go.Proofs.Ytbidnflcbgnckaa
namespace Go.Proofs.Ytbidnflcbgnckaa
open Go.RowKit

/-- A world behind the making of two blocks, in which they are as they were made. -/
def At2 (w w' : World) (cs ds : Array Value) : Prop := Below w.heap.size w w' ∧ Blk w' w.heap.size cs ∧ Blk w' (w.heap.size + 1) ds
theorem At2.new (w : World) (s t : TypeId) (cs ds : Array Value) : At2 w ((w.alloc (.cells cs s)).alloc (.cells ds t)) cs ds := by
  have h := (At.new w s cs).alloc (.cells ds t)
  refine ⟨h.1, h.2, ?_⟩
  have := Blk.new (w.alloc (.cells cs s)) t ds
  simpa using this
theorem At2.step {w w1 w2 : World} {cs ds : Array Value} (h : At2 w w1 cs ds) (hb : Below w1.heap.size w1 w2) : At2 w w2 cs ds := ⟨h.1.trans (hb.mono h.1.size), h.2.1.below hb h.2.1.lt, h.2.2.below hb h.2.2.lt⟩
end Go.Proofs.Ytbidnflcbgnckaa
namespace Go.Proofs.Ytbidnflcbgnckaa
open Go.RowKit

set_option maxHeartbeats 1000000 in
theorem c_ref10_Join (op : Int) (os : List Kid) (A : Option Addr) (c : Nat) (w : World) (h : In 1 Kid.cells w A c os) (hk : ∀ o ∈ os, InN w o.1 o.2.1 o.2.2) (hs : sumLen os ≤ 4294967295) :
    Calls Try.prog 35 #[.int .i64 op, .slice A os.length c] w (RetS 5 Node.cells 41 w (joined op (os.flatMap (·.2.2)))) := by
  have hL := h.1
  have hC := h.2.1
  have hS := h.2.2.1
  have EN := elemN
  have Hk := Lib.hid hk
  clear hk
  have H0 : Hid (([⟨op, 0, ⟨0, 0, []⟩⟩] : List Node) ++ (os.drop 0).flatMap (·.2.2) = joined op (os.flatMap (·.2.2))) := by show _ = _; rw [List.drop_zero]; rfl
  have S0 : Hid (1 + sumLen (os.drop 0) = 1 + sumLen os) := rfl
  go_enter Try.func35, Try.ntmps35
  go_wp2_with (fail)
  have ownL := World.ownsRow_lit w #[.int .i64 op, .int .i64 0, .int .i64 0, .int .i64 0, .string ⟨#[]⟩] 1 (Nat.le_refl _) (by unfold maxLen; omega) (by simp) (base := w.heap.size) (e := 41) (size := 5)
  go_loopw [5, 6] (fun v i wr => ∃ (k : Nat) (acc : List Node), k ≤ os.length ∧ i = .int .i64 k ∧ acc.length ≤ 4294967296 ∧ Hid (acc.length + sumLen (os.drop k) = 1 + sumLen os) ∧ Hid (wr.ownsRow w.heap.size 41 5 v acc.length (acc.flatMap Node.cells)) ∧ Hid (acc ++ (os.drop k).flatMap (·.2.2) = joined op (os.flatMap (·.2.2))) ∧ Below w.heap.size w wr)
    (fun _ i _ => os.length - (intOf i).toNat)
  case atStart => exact ⟨0, [⟨op, 0, ⟨0, 0, []⟩⟩], by omega, rfl, by simp, S0, ownL, H0, (by repeat (first | exact Below.refl _ _ | refine Below.drew ?_ | refine Below.alloc ?_ (by first | omega | (simp; done) | (simp; omega)) _ | refine Below.setCell ?_ (by first | omega | (simp; done) | (simp; omega)) _ | refine Below.trans ?_ (Below.mono (by assumption) (by first | omega | (simp; done) | (simp; omega)))))⟩
  case round =>
    obtain ⟨k2, acc, hk2, rfl, hacc, HS, O, N, hbi⟩ := hrel
    have hzi := hbi.size
    obtain ⟨Av, cv, rfl, hcv1, hcv2⟩ := own_form O.out
    by_cases hlt2 : k2 < os.length
    · obtain ⟨bl, off, rfl, hb, hrow⟩ := h.at hlt2
      have hin := Hk.out os[k2] (List.getElem_mem hlt2)
      obtain ⟨⟨A1, c1, l1⟩, ho⟩ : ∃ o, os[k2] = o := ⟨_, rfl⟩
      rw [ho] at hin
      have hcell : wr.cell? ⟨bl, off + k2, none⟩ = some (.slice A1 l1.length c1) := by
        have := (hrow.below hbi hb).kid hlt2
        rw [ho] at this
        exact this
      have hm := HS.out
      rw [sumLen_at os k2 hlt2, ho] at hm
      simp only at hm hin
      have hm1 : acc.length + l1.length ≤ 4294967296 := by omega
      have HM : Hid (acc.length + l1.length + sumLen (os.drop (k2 + 1)) = 1 + sumLen os) := by show _ = _; omega
      have hn := N.out
      rw [List.drop_eq_getElem_cons hlt2, List.flatMap_cons, ho] at hn
      have HN := Lib.hid hn
      have HI := Lib.hid hin
      clear h hm HS N hn ho hin H0 S0
      go_wp2_with ((at_builtin; refine Stop.out ?_))
      refine Stop.mk (wpList_app _ rfl (.tmp 16) (.tmp 20) EN rfl w.heap.size (.slice Av acc.length cv) acc.length (acc.flatMap Node.cells) rfl O.out A1 l1.length c1 (l1.flatMap Node.cells) rfl (Src.of_in Node.cells_len (by omega) (HI.out.below hbi)) (nodes_one _) (by omega) hzi ?_)
      intro v3 w3 own3 _ hb3 _
      have e : acc.flatMap Node.cells ++ l1.flatMap Node.cells = (acc ++ l1).flatMap Node.cells := by rw [List.flatMap_append]
      rw [e] at own3
      have O3 := Lib.hid own3
      have hB3 : Below w.heap.size w w3 := hbi.trans hb3
      clear own3 e hb3
      go_wp2_with (fail)
      go_roundw
      case rel => exact ⟨k2 + 1, acc ++ l1, by omega, by go_num, by simp only [List.length_append]; omega, by show _ = _; rw [List.length_append]; exact HM.out, by show World.ownsRow _ _ _ _ _ _ _; rw [List.length_append]; exact O3.out, by show _ = _; rw [← HN.out]; simp, hB3⟩
      case measure => simp [intOf]; omega
    · have hn := N.out
      rw [List.drop_of_length_le (by omega)] at hn
      have HN := Lib.hid hn
      clear hn N HS H0 S0
      go_wp2_with (fail)
      go_ret
      exact RetS.of O.out (Nat.le_refl _) (by rw [← HN.out]; simp) hbi
end Go.Proofs.Ytbidnflcbgnckaa
