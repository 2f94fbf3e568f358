/-
  Lemmas (walks and plain laws), in one text.
-/
import Derived.Test.YtjhndilflcigiaaPa17
import Derived.Test.YtjhndilflcigiaaRows
import Derived.WalkKit
import Derived.WalkSpells
import Derived.WalkLawsBesides
import Derived.Lib.Hide
import Derived.Deep.QuietTactic
import Derived.BigQuiet
import Derived.Maps.AppendAt
import Derived.WalkSmall
import Derived.ProofKit
import Derived.OpenShut
import Derived.JoinedCond
import Derived.Deep.Slices
import Derived.Deep.Fields
import Derived.Carry
import Derived.Test.YtjhndilflcigiaaProg
import Derived.Deep.CutBlock
import Derived.Deep.DeepCutAuto
import Derived.Deep.AppendSrc
import Derived.Lib.AppendStr
import Derived.Laws.BytesArg
import Derived.Laws.CopyOwn
import Derived.Outline
import Derived.IntWalk
import Derived.Lib.EndianBits
import Derived.Laws.Tables
import Derived.Laws.Rows
import Derived.Shelf.Spec.TrailingZeros
import Derived.StillTail
import Derived.Lib.AppendZeros
import Derived.Deep.Quiet
import Derived.ChangeKeysEq
import Derived.Laws.StructEq
import Derived.Laws.LoneSync
namespace Go.Proofs.Ytjhndilflcigiaa
open Go.ChangeShapes Go.WideShapes Go.ChangeAt Go.RowKit Go.Deep
open Go.ChangeMaps (open_string shut_string)

section
variable {H : Type} {enc : TypeId × Value → H} {w : World} {spare : Nat → Bool} {held : Bool}
theorem c_act : Try.prog.cellsOf 50 = 11 := by kernel_rfl
/-- What the form says of a filter that came in. -/
def FltRaw (w : World) (A : Option Addr) (c : Nat) (f : List Node) : Prop := f.length ≤ c ∧ c ≤ 9223372036854775807 ∧ (f = [] ∨ ∃ b off, A = some ⟨b, off, none⟩ ∧ b < w.heap.size ∧ Row 5 Node.cells w b off f) ∧ ∀ v ∈ f, v.wf
theorem Flt.of {A : Option Addr} {c : Nat} {f : List Node} (h : FltRaw w A c f) : Flt w A c f := by
  obtain ⟨h1, h2, h3, h4⟩ := h
  refine ⟨fun w' hb => ?_, fun hl => ?_, fun hl x hx => ?_⟩
  · by_cases h100 : 100 < f.length
    · have : large f = true := by unfold large; simp [h100]
      rw [this]
      exact c_law10_Large_long f.length A c w' h100 h1 h2
    · have hin : InN w A c f := ⟨h1, h2, by omega, h3⟩
      exact c_law10_Large f A c w' (hin.below hb) (fun x hx => (h4 x hx).2.2.2.2)
  · have := (large_short hl).1
    exact ⟨h1, h2, by omega, h3⟩
  · have := (large_short hl).2 x hx
    omega
theorem open_act {fuel : Nat} {cs : List Value} {x : DataW H × List MemPlace} (h : DataW.trod enc Try.prog w 0 spare held fuel 50 cs = some x) :
    ∃ v : DL, cs = DL.cells v ∧ FltRaw w v.2.1 v.2.2 v.1.a.f ∧ v.1.a.mask < 4294967296 := by
  obtain ⟨xs, n, _, _, hl, hxl, hf⟩ := DataW.trod_struct Try.underlying50 h
  rw [c_act] at hl
  have h0 := hf 0
  have h1 := hf 1
  obtain ⟨x0, x1, rfl⟩ : ∃ a b, xs = [a, b] := by
    match xs, (show xs.length = 2 from hxl) with
    | [a, b], _ => exact ⟨a, b, rfl⟩
  simp [c_int, c_reply] at h0 h1
  obtain ⟨a0, e0, -, -⟩ := DataW.trod_int Try.underlying3 h0
  obtain ⟨a, A, c, e1, k1, k2, k3, k4, k5⟩ := open_reply h1
  refine ⟨(⟨a0, a⟩, A, c), ?_, ⟨k1, k2, k3, k4⟩, k5⟩
  cases cs with
  | nil => simp at hl
  | cons q0 r =>
    simp only [List.length_cons] at hl
    simp only [List.take_succ_cons, List.take_zero, List.cons.injEq, and_true, List.tail_cons] at e0 e1
    rw [List.take_of_length_le (by omega)] at e1
    unfold DL.cells
    rw [e0, e1]
    rfl
theorem open_acts {fuel : Nat} {cs : List Value} {x : DataW H × List MemPlace} (h : DataW.trod enc Try.prog w 0 spare held fuel 41 cs = some x) :
    ∃ (A : Option Addr) (c : Nat) (l : List DL), cs = [.slice A l.length c] ∧ InD w A c l := by
  rcases open_slice Try.underlying41 h with ⟨rfl, rfl⟩ | ⟨a, len, cap, m, n, D, Pl, rfl, hb, hl, hm, hmm, hx, hi⟩
  · exact ⟨none, 0, [], rfl, by simp, by omega, .inl rfl, (fun _ h => by cases h), (fun _ h => by cases h)⟩
  · have hlm : len ≤ m := by rw [hmm]; split <;> omega
    have hq : ∀ i, i < len → ∃ v : DL, (∀ j u, (DL.cells v)[j]? = some u → w.cell? (a.add (i * 11 + j)) = some u) ∧ FltRaw w v.2.1 v.2.2 v.1.a.f ∧ v.1.a.mask < 4294967296 := by
      intro i hil
      obtain ⟨cs', hc, ht⟩ := hi i (by omega)
      rw [c_act] at hc
      obtain ⟨v, rfl, hv, hm⟩ := open_act ht
      obtain ⟨_, hcl, hat⟩ := World.cells?_some hc
      refine ⟨v, fun j u hu => ?_, hv, hm⟩
      have hj : j < 11 := by rw [← DL.cells_len v]; exact (List.getElem?_eq_some_iff.1 hu).1
      have h1 := hat j hj
      rw [Go.Deep.add_add] at h1
      rw [h1]; exact hu
    obtain ⟨l, hll, hq⟩ := list_of len hq
    refine ⟨some a, cap, l, by rw [hll], by omega, by unfold maxLen at hm; omega, ?_, fun v hv => ?_, fun v hv => ?_⟩
    · rcases Nat.eq_zero_or_pos len with h0 | h0
      · exact .inl (List.eq_nil_of_length_eq_zero (by omega))
      · right
        have h1 := (hq 0 (by omega)).1 0 _ rfl
        have hsp := cell_spot h1
        have hlt := World.block_lt_of_cell? w _ h1
        obtain ⟨ab, ao, asp⟩ := a
        simp [Addr.add] at hsp hlt
        subst hsp
        refine ⟨ab, ao, rfl, hlt, fun i hi j u hu => ?_⟩
        have := (hq i hi).1 j u hu
        rw [add_lit'] at this
        rw [Nat.add_assoc]; exact this
    · obtain ⟨i, hi, rfl⟩ := List.getElem_of_mem hv
      exact Flt.of (hq i hi).2.1
    · obtain ⟨i, hi, rfl⟩ := List.getElem_of_mem hv
      exact (hq i hi).2.2
end
end Go.Proofs.Ytjhndilflcigiaa
namespace Go.Proofs.Ytjhndilflcigiaa
open Go.RowKit

set_option maxHeartbeats 8000000 in
set_option maxRecDepth 4000 in
theorem c_law30_LedgerPlays (l : List DL) (A : Option Addr) (cl : Nat) (w : World) (h : InD w A cl l) :
    Calls Try.prog 6 #[.slice A l.length cl] w (RetV w (.bool true)) := by
  have D := Lib.hid h
  obtain ⟨n, hn⟩ : ∃ n, n = l.length := ⟨_, rfl⟩
  have hL : n ≤ cl := by rw [hn]; exact h.le
  have hC := h.cap
  rw [← hn]
  have HN := Lib.hid hn
  clear h hn
  go_enter Try.func6, Try.ntmps6
  go_wp2_with (fail)
  refine (c_ledger_New _).mono ?_
  rintro e w1 ⟨rfl, bg, hb1⟩
  obtain ⟨g, hg⟩ : ∃ g, g = w.heap.size := ⟨_, rfl⟩
  rw [← hg] at bg ⊢
  have L1 := Lib.hid (Lg.new bg)
  have HG := Lib.hid (show w.heap.size ≤ g ∧ g < w1.heap.size from ⟨by omega, bg.lt⟩)
  have H1 := Lib.hid hb1
  clear bg hb1 hg
  go_wp2_with (fail)
  refine (c_ref30_New _).mono ?_
  rintro e w2 ⟨v2, rfl, own2, hb2⟩
  obtain ⟨A2, c2, rfl, -⟩ := own_form own2
  have S := Lib.hid (show LS w w2 g lz (List.replicate 6 zr) A2 c2 [] from ⟨⟨H1.out.trans (hb2.mono H1.out.size), HG.out.1, L1.out.below hb2, ⟨In.own3R LR.cells_len own2 (by decide), fun x hx => by rw [List.eq_of_mem_replicate hx]; exact In.nil (by decide)⟩,
    ⟨.inr fun ad had => by
      obtain ⟨g2, c3, hv, -, -, hg2, -⟩ := own_form' own2 (by decide)
      injection hv with hv
      rw [hv] at had
      injection had with had
      rw [← had]
      have := HG.out.2
      show g2 ≠ g
      omega, fun x hx => by rw [List.eq_of_mem_replicate hx]; exact .inl rfl⟩, rfl, by decide, by decide⟩, fun _ hx => by cases hx⟩)
  clear own2 hb2 L1 HG H1
  rw [List.length_replicate]
  go_wp2_with (fail)
  go_loopw [4, 5] (fun m i wr => ∃ (k : Nat) (lg lm : List LR) (B : Option Addr) (d : Nat), k ≤ 200 ∧ i = .int .i64 k ∧ m = .slice B 6 d ∧ Hid (LS w wr g lg lm B d []))
    (fun _ i _ => 200 - (intOf i).toNat)
  case atStart => exact ⟨0, _, _, _, _, by omega, rfl, rfl, S.out⟩
  case round =>
    obtain ⟨k, lg, lm, B, d, hk, rfl, rfl, S0⟩ := hrel
    clear S
    by_cases h1 : k < n
    · have d1 : decide (k < n) = true := by simpa using h1
      by_cases h2 : k < 200
      · have d2 : decide ((k : Int) < 200) = true := by simp; omega
        have HLT := Lib.hid h2
        have hkl : k < l.length := by rw [← HN.out]; exact h1
        obtain ⟨b, off, rfl, RX⟩ := D.out.at hkl
        have FX := D.out.flt _ (List.getElem_mem hkl)
        have MX := D.out.msk _ (List.getElem_mem hkl)
        obtain ⟨x, hx⟩ : ∃ x, x = l[k] := ⟨_, rfl⟩
        rw [← hx] at RX FX MX
        have hkn := h1
        clear hx hkl h1 h2
        obtain ⟨⟨kind, a⟩, Af, cf⟩ := x
        simp only at RX FX MX
        have hb := RX.1
        have hbr := S0.out.1.below.size
        obtain ⟨kq, PT⟩ := RX.2 _ S0.out.1.below
        simp only at kq PT
        have PT' := Lib.hid PT
        have KQ := Lib.hid (fun wz (hz : Below w.heap.size w wz) => (RX.2 wz hz).1)
        simp only at KQ
        have F := Lib.hid FX
        clear PT RX FX kq
        go_wp2_with (with_reducible refine stop_load 47 (.tmp 33) rfl rfl ?_)
        refine Stop.mk (wpList_loadAt rfl _ _ rfl b _ rfl (a.arr Af cf) PT'.out strRp rfl ?_)
        go_wp2_with (with_reducible refine stop_store 47 (.tmp 6) (.tmp 34) rfl rfl ?_)
        refine Stop.mk (wpList_storeB rfl _ _ _ rfl wr.heap.size _ rfl rfl _ (Blk.new _ _ _) strRp rfl rfl (by simp [Value.oneCell']) ?_)
        intro w6 hb6 hk6
        have S := Lib.hid (S0.out.new hb6 hk6)
        obtain ⟨p, hp⟩ : ∃ p, p = wr.heap.size := ⟨_, rfl⟩
        rw [← hp] at S ⊢
        clear hb6 hk6 hp S0 PT'
        obtain ⟨q0, q1, q2, q3, q4, q5, q6, q7, q8, q9⟩ := rep_cells S.out.b0
        cases hlg : large a.f
        case true =>
          go_wp2_with (fail)
          refine (F.out.big _ S.out.1.below).mono ?_
          rintro e w7 ⟨rfl, hb7⟩
          rw [hlg]
          replace S := Lib.hid (S.out.step hb7)
          clear hb7 hlg
          go_wp2_with (fail)
          refine (c_law30_awake _).mono ?_
          rintro e w8 ⟨rfl, hb8⟩
          go_wp2_with (fail)
          go_ret
          exact RetV.bool rfl (S.out.1.below.trans (hb8.mono S.out.1.below.size))
        case false =>
          have HFI := Lib.hid (F.out.inn hlg)
          have HFS := Lib.hid (F.out.shs hlg)
          have HFL := Lib.hid (F.out.len hlg)
          have HFO := Lib.hid ((F.out.inn hlg).off S.out.1.og)
          have HLG := Lib.hid hlg
          clear hlg
          go_wp2_with (fail)
          refine (F.out.big _ S.out.1.below).mono ?_
          rintro e w7 ⟨rfl, hb7⟩
          rw [HLG.out]
          replace S := Lib.hid (S.out.step hb7)
          clear hb7 F
          clear q0 q1 q2 q3 q4 q5 q6 q7 q8 q9
          have kq := KQ.out _ S.out.1.below
          clear KQ
          have hbz := S.out.1.below.size
          have hcs : kind = 0 ∨ (kind ≠ 0 ∧ kind = 1) ∨ (kind ≠ 0 ∧ kind ≠ 1) := by omega
          rcases hcs with rfl | ⟨h0, h1⟩ | ⟨h0, h1⟩
          · obtain ⟨q0, q1, q2, q3, q4, q5, q6, q7, q8, q9⟩ := rep_cells S.out.b0
            go_wp2_with (fail)
            refine (c_ledger_Ask g lg a.dev a.req _ S.out.1.L).mono ?_
            rintro e w8 ⟨A8, c8, rfl, own8, hb8⟩
            replace S := Lib.hid (S.out.step hb8)
            clear hb8 kq
            clear q0 q1 q2 q3 q4 q5 q6 q7 q8 q9
            obtain ⟨E, hE⟩ : ∃ E, E = askE (rowsOf lg) a.dev a.req := ⟨_, rfl⟩
            obtain ⟨X, hX⟩ : ∃ X, X = askA (rowsOf lg) a.dev a.req := ⟨_, rfl⟩
            rw [← hX] at own8
            rw [← hE, ← hX]
            have HE := Lib.hid hE
            have HX := Lib.hid hX
            clear hE hX
            go_wp2_with (with_reducible refine stop_store 47 (.tmp 7) (.tmp 67) rfl rfl ?_)
            refine Stop.mk (wpList_storeB rfl _ _ _ rfl w8.heap.size _ rfl rfl _ (Blk.new _ _ _) strRp rfl rfl (by simp [Value.oneCell']) ?_)
            intro w9 hb9 hk9
            replace S := Lib.hid (S.out.new hb9 hk9)
            have O8 := Lib.hid (own_below own8 (fresh_below hk9))
            obtain ⟨p8, hp8⟩ : ∃ p, p = w8.heap.size := ⟨_, rfl⟩
            rw [← hp8] at S ⊢
            clear hb9 hk9 hp8 own8
            obtain ⟨q0, q1, q2, q3, q4, q5, q6, q7, q8, q9⟩ := rep_cells S.out.b1
            go_wp2_with (fail)
            refine (c_ref30_Ask6 B d lm a.dev a.req _ S.out.1.M S.out.1.len).mono ?_
            rintro e w10 ⟨A10, c10, rfl, in10, hb10⟩
            rw [← S.out.1.eq, ← HX.out] at in10
            rw [← S.out.1.eq, ← HX.out, ← HE.out]
            replace S := Lib.hid (S.out.step hb10)
            replace O8 := Lib.hid (own_below O8.out hb10)
            have I10 := Lib.hid in10
            clear hb10 in10
            clear q0 q1 q2 q3 q4 q5 q6 q7 q8 q9
            go_wp2_with (with_reducible refine stop_store 47 (.tmp 9) (.tmp 76) rfl rfl ?_)
            refine Stop.mk (wpList_storeB rfl _ _ _ rfl w10.heap.size _ rfl rfl _ (Blk.new _ _ _) strRp rfl rfl (by simp [Value.oneCell']) ?_)
            intro w11 hb11 hk11
            replace S := Lib.hid (S.out.new hb11 hk11)
            replace O8 := Lib.hid (own_below O8.out (fresh_below hk11))
            replace I10 := Lib.hid (I10.out.below (fresh_below hk11))
            obtain ⟨p10, hp10⟩ : ∃ p, p = w10.heap.size := ⟨_, rfl⟩
            rw [← hp10] at S ⊢
            clear hb11 hk11 hp10
            go_wp2_with (with_reducible refine stop_load 47 (.tmp 7) rfl rfl ?_)
            refine Stop.mk (wpList_loadAt rfl _ _ rfl p8 0 rfl (X.arr A8 c8) S.out.b1.all strRp rfl ?_)
            go_wp2_with (with_reducible refine stop_load 47 (.tmp 9) rfl rfl ?_)
            refine Stop.mk (wpList_loadAt rfl _ _ rfl p10 0 rfl (X.arr A10 c10) S.out.b0.all strRp rfl ?_)
            go_wp2_with (fail)
            refine (c_ref30_Same X X A8 A10 c8 c10 _ (In.own3R Node.cells_len O8.out (by have := I10.out.2.2.1; omega)) I10.out).mono ?_
            rintro e w12 ⟨rfl, hb12⟩
            rw [decide_eq_true (rfl : X = X)]
            replace S := Lib.hid (S.out.step hb12)
            clear hb12
            have S5 := Lib.hid S.out.drop
            clear S
            go_wp2_with (fail)
            refine (c_ledger_DataR S5.out.1).mono ?_
            rintro e w20 ⟨A20, c20, rfl, hb20, KR⟩
            have S6 := Lib.hid (S5.out.step hb20)
            have KR' := Lib.hid KR
            clear hb20 KR S5
            go_wp2_with (fail)
            refine (KR'.out _ _ _ (Below.refl _ _) S6.out.1.M).mono ?_
            rintro e w21 ⟨rfl, hb21⟩
            have S7 := Lib.hid (S6.out.step hb21)
            clear hb21 S6 KR'
            have h4 : k < 200 := HLT.out
            go_wp2_with (fail)
            go_roundw
            case rel => exact ⟨k + 1, _, _, _, _, by omega, by go_num, rfl, S7.out⟩
            case measure => simp [intOf]; omega
          · have j0 : (kind == 0) = false := by simpa using h0
            have j1 : (kind == 1) = true := by simpa using h1
            clear h0 h1
            go_wp2_with (with_reducible refine stop_load 47 (.tmp 6) rfl rfl ?_)
            refine Stop.mk (wpList_loadAt rfl _ _ rfl p 0 rfl (a.arr Af cf) S.out.b0.all strRp rfl ?_)
            go_wp2_with (fail)
            refine (c_ref30_Note6 lm B d a Af cf _ S.out.1.M S.out.1.len (HFI.out.below S.out.1.below) HFS.out MX).mono ?_
            rintro e w8 ⟨A8, c8, lm', rfl, in8, r8, hb8, o8⟩
            have T := Lib.hid (S.out.step hb8)
            have IN8 := Lib.hid in8
            have R8 := Lib.hid r8
            have OF8 := Lib.hid (o8 g S.out.1.L.2.1.lt S.out.1.off HFO.out)
            have HB8 := Lib.hid hb8
            rw [← S.out.1.eq]
            obtain ⟨Y, hY⟩ : ∃ Y, Y = noteOk (rowsOf lg) a := ⟨_, rfl⟩
            rw [← hY]
            have HY := Lib.hid hY
            clear in8 r8 hb8 o8 hY kq
            go_wp2_with (with_reducible refine stop_load 47 (.tmp 6) rfl rfl ?_)
            refine Stop.mk (wpList_loadAt rfl _ _ rfl p 0 rfl (a.arr Af cf) T.out.b0.all strRp rfl ?_)
            go_wp2_with (fail)
            refine (c_ledger_Note g lg a Af cf _ T.out.1.L (HFI.out.below T.out.1.below) HFS.out MX HFL.out).mono ?_
            rintro e w9 ⟨rfl, hk9, lg', L9, r9, -⟩
            rw [← HY.out]
            replace S := Lib.hid (show LS w w9 g lg' lm' A8 c8 [] from ⟨S.out.1.note HFL.out HB8.out IN8.out R8.out OF8.out hk9 L9 r9, fun _ hx => by cases hx⟩)
            clear T IN8 R8 OF8 HB8 hk9 L9 r9
            have S5 := Lib.hid S.out.drop
            clear S
            go_wp2_with (fail)
            refine (c_ledger_DataR S5.out.1).mono ?_
            rintro e w20 ⟨A20, c20, rfl, hb20, KR⟩
            have S6 := Lib.hid (S5.out.step hb20)
            have KR' := Lib.hid KR
            clear hb20 KR S5
            go_wp2_with (fail)
            refine (KR'.out _ _ _ (Below.refl _ _) S6.out.1.M).mono ?_
            rintro e w21 ⟨rfl, hb21⟩
            have S7 := Lib.hid (S6.out.step hb21)
            clear hb21 S6 KR'
            have h4 : k < 200 := HLT.out
            go_wp2_with (fail)
            go_roundw
            case rel => exact ⟨k + 1, _, _, _, _, by omega, by go_num, rfl, S7.out⟩
            case measure => simp [intOf]; omega
          · have j0 : (kind == 0) = false := by simpa using h0
            have j1 : (kind == 1) = false := by simpa using h1
            clear h0 h1
            obtain ⟨q0, q1, q2, q3, q4, q5, q6, q7, q8, q9⟩ := rep_cells S.out.b0
            go_wp2_with (fail)
            refine (c_ref30_Raise6 lm B d a.dev _ S.out.1.M S.out.1.len (by rw [← S.out.1.eq]; exact S.out.1.pos)).mono ?_
            rintro e w8 ⟨A8, c8, lm', rfl, in8, r8, hb8, o8⟩
            have T := Lib.hid (S.out.step hb8)
            have IN8 := Lib.hid in8
            have R8 := Lib.hid r8
            have OF8 := Lib.hid (o8 g S.out.1.L.2.1.lt S.out.1.off (.inl rfl))
            have HB8 := Lib.hid hb8
            rw [← S.out.1.eq]
            obtain ⟨Y, hY⟩ : ∃ Y, Y = raiseN (rowsOf lg) a.dev := ⟨_, rfl⟩
            rw [← hY]
            have HY := Lib.hid hY
            clear in8 r8 hb8 o8 hY kq
            clear q0 q1 q2 q3 q4 q5 q6 q7 q8 q9
            obtain ⟨q0, q1, q2, q3, q4, q5, q6, q7, q8, q9⟩ := rep_cells T.out.b0
            go_wp2_with (fail)
            refine (c_ledger_Raise g lg a.dev _ T.out.1.L T.out.1.pos).mono ?_
            rintro e w9 ⟨rfl, hk9, lg', L9, r9, -⟩
            rw [← HY.out]
            replace S := Lib.hid (show LS w w9 g lg' lm' A8 c8 [] from ⟨S.out.1.raise HB8.out IN8.out R8.out OF8.out hk9 L9 r9, fun _ hx => by cases hx⟩)
            clear T IN8 R8 OF8 HB8 hk9 L9 r9
            clear q0 q1 q2 q3 q4 q5 q6 q7 q8 q9
            have S5 := Lib.hid S.out.drop
            clear S
            go_wp2_with (fail)
            refine (c_ledger_DataR S5.out.1).mono ?_
            rintro e w20 ⟨A20, c20, rfl, hb20, KR⟩
            have S6 := Lib.hid (S5.out.step hb20)
            have KR' := Lib.hid KR
            clear hb20 KR S5
            go_wp2_with (fail)
            refine (KR'.out _ _ _ (Below.refl _ _) S6.out.1.M).mono ?_
            rintro e w21 ⟨rfl, hb21⟩
            have S7 := Lib.hid (S6.out.step hb21)
            clear hb21 S6 KR'
            have h4 : k < 200 := HLT.out
            go_wp2_with (fail)
            go_roundw
            case rel => exact ⟨k + 1, _, _, _, _, by omega, by go_num, rfl, S7.out⟩
            case measure => simp [intOf]; omega
      · have d2 : decide ((k : Int) < 200) = false := by simp; omega
        clear h1 h2
        clear D
        go_wp2_with (fail)
        refine (ledger_Ask_nil 0 1 _).mono ?_
        rintro e w2 ⟨A2, c2, rfl, -, hb2⟩
        have B2 := Lib.hid (S0.out.1.below.trans (hb2.mono S0.out.1.below.size))
        clear hb2 S0
        go_wp2_with (with_reducible refine stop_store 47 (.tmp 16) (.tmp 109) rfl rfl ?_)
        refine Stop.mk (wpList_storeB rfl _ _ _ rfl w2.heap.size _ rfl rfl _ (Blk.new _ _ _) strRp rfl rfl (by simp [Value.oneCell']) ?_)
        intro w3 hb3 hk3
        have B3 := Lib.hid (B2.out.trans ((fresh_below hk3).mono B2.out.size))
        clear hb3 hk3 B2
        go_wp2_with (fail)
        refine (ledger_Note_nil ⟨4, 0, 1, 0, 0, 0, 0, 0, [], 0⟩ none 0 _).mono ?_
        rintro e w4 ⟨rfl, hb4⟩
        have B4 := Lib.hid (B3.out.trans (hb4.mono B3.out.size))
        clear hb4 B3
        go_wp2_with (fail)
        refine (ledger_Raise_nil 0 _).mono ?_
        rintro e w5 ⟨rfl, hb5⟩
        have B5 := Lib.hid (B4.out.trans (hb5.mono B4.out.size))
        clear hb5 B4
        go_wp2_with (fail)
        refine (ledger_Data_nil _).mono ?_
        rintro e w6 ⟨rfl, hb6⟩
        have B6 := Lib.hid (B5.out.trans (hb6.mono B5.out.size))
        clear hb6 B5
        go_wp2_with (fail)
        refine (c_law30_awake _).mono ?_
        rintro e w7 ⟨rfl, hb7⟩
        go_wp2_with (fail)
        go_ret
        exact RetV.bool rfl (B6.out.trans (hb7.mono B6.out.size))
    · have d1 : decide (k < n) = false := by simpa using h1
      clear h1
      clear D
      go_wp2_with (fail)
      refine (ledger_Ask_nil 0 1 _).mono ?_
      rintro e w2 ⟨A2, c2, rfl, -, hb2⟩
      have B2 := Lib.hid (S0.out.1.below.trans (hb2.mono S0.out.1.below.size))
      clear hb2 S0
      go_wp2_with (with_reducible refine stop_store 47 (.tmp 16) (.tmp 109) rfl rfl ?_)
      refine Stop.mk (wpList_storeB rfl _ _ _ rfl w2.heap.size _ rfl rfl _ (Blk.new _ _ _) strRp rfl rfl (by simp [Value.oneCell']) ?_)
      intro w3 hb3 hk3
      have B3 := Lib.hid (B2.out.trans ((fresh_below hk3).mono B2.out.size))
      clear hb3 hk3 B2
      go_wp2_with (fail)
      refine (ledger_Note_nil ⟨4, 0, 1, 0, 0, 0, 0, 0, [], 0⟩ none 0 _).mono ?_
      rintro e w4 ⟨rfl, hb4⟩
      have B4 := Lib.hid (B3.out.trans (hb4.mono B3.out.size))
      clear hb4 B3
      go_wp2_with (fail)
      refine (ledger_Raise_nil 0 _).mono ?_
      rintro e w5 ⟨rfl, hb5⟩
      have B5 := Lib.hid (B4.out.trans (hb5.mono B4.out.size))
      clear hb5 B4
      go_wp2_with (fail)
      refine (ledger_Data_nil _).mono ?_
      rintro e w6 ⟨rfl, hb6⟩
      have B6 := Lib.hid (B5.out.trans (hb6.mono B5.out.size))
      clear hb6 B5
      go_wp2_with (fail)
      refine (c_law30_awake _).mono ?_
      rintro e w7 ⟨rfl, hb7⟩
      go_wp2_with (fail)
      go_ret
      exact RetV.bool rfl (B6.out.trans (hb7.mono B6.out.size))
end Go.Proofs.Ytjhndilflcigiaa
