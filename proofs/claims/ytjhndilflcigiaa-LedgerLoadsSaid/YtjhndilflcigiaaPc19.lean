/-
  Lemmas (walks and plain laws), in one text.
-/
import Derived.Test.YtjhndilflcigiaaPc18
import Derived.Test.YtjhndilflcigiaaRows
import Derived.WalkKit
import Derived.WalkSpells
import Derived.WalkLawsBesides
import Derived.Lib.Hide
import Derived.Deep.QuietTactic
import Derived.BigQuiet
import Derived.Maps.AppendAt
import Derived.WalkSmall
import Derived.ProofKit
import Derived.OpenShut
import Derived.JoinedCond
import Derived.Deep.Slices
import Derived.Deep.Fields
import Derived.Carry
import Derived.Test.YtjhndilflcigiaaProg
import Derived.Deep.CutBlock
import Derived.Deep.DeepCutAuto
import Derived.Deep.AppendSrc
import Derived.Lib.AppendStr
import Derived.Laws.BytesArg
import Derived.Laws.CopyOwn
import Derived.Outline
import Derived.IntWalk
import Derived.Lib.EndianBits
import Derived.Laws.Tables
import Derived.Laws.Rows
import Derived.Shelf.Spec.TrailingZeros
import Derived.StillTail
import Derived.Lib.AppendZeros
import Derived.Deep.Quiet
import Derived.ChangeKeysEq
import Derived.Laws.StructEq
import Derived.Laws.LoneSync
namespace Go.Proofs.Ytjhndilflcigiaa
open Go.RowKit

theorem c_ledger_Load (l : List LR) (A : Option Addr) (c : Nat) (w : World) (h : InRw w A c l) (hs : ∀ x ∈ l, ∀ y ∈ x.1.a.f, y.v.s.length ≤ 4294967000) (hm : ∀ x ∈ l, x.1.a.mask < 4294967296) :
    Calls Try.prog 32 #[.slice A l.length c] w (RetLoad w (rowsOf l)) := by
  by_cases h6 : l.length = 6
  · rw [h6]; exact ledger_Load_6 l A c w h h6 hs hm
  · exact ledger_Load_len l.length A c (rowsOf l) w h6 (by unfold rowsOf; rw [List.length_map])
set_option maxHeartbeats 400000 in
theorem ref30_Right_len (n : Nat) (A : Option Addr) (c : Nat) (w : World) (hn : n ≠ 6) : Calls Try.prog 33 #[.slice A n c] w (RetV w (.bool false)) := by
  have j : (n == 6) = false := by simpa using hn
  clear hn
  go_enter Try.func33, Try.ntmps33
  go_wp2_with (fail)
  go_ret
  exact RetV.bool rfl (by repeat (first | exact Below.refl _ _ | refine Below.drew ?_ | refine Below.alloc ?_ (by first | omega | (simp; done) | (simp; omega)) _ | refine Below.setCell ?_ (by first | omega | (simp; done) | (simp; omega)) _ | refine Below.trans ?_ (Below.mono (by assumption) (by first | omega | (simp; done) | (simp; omega)))))
set_option maxHeartbeats 8000000 in
set_option maxRecDepth 4000 in
theorem ref30_Right_6 (l : List LR) (A : Option Addr) (c : Nat) (w : World) (h : InRw w A c l) (h6 : l.length = 6) (hs : ∀ x ∈ l, ∀ y ∈ x.1.a.f, y.v.s.length ≤ 4294967000) (hm : ∀ x ∈ l, x.1.a.mask < 4294967296) :
    Calls Try.prog 33 #[.slice A 6 c] w (RetV w (.bool (rightL (rowsOf l)))) := by
  have hc1 : 6 ≤ c := by have := h.1.1; omega
  have hc2 := h.1.2.1
  obtain ⟨b, off, rfl, hb, hrow⟩ := h.1.at (i := 0) (by omega)
  have H := Lib.hid h
  have H6 := Lib.hid h6
  have HS := Lib.hid hs
  have HM := Lib.hid hm
  have HR := Lib.hid hrow
  have R6 := Lib.hid (show (rowsOf l).length = 6 by unfold rowsOf; rw [List.length_map]; exact h6)
  clear h h6 hs hm hrow
  go_enter Try.func33, Try.ntmps33
  go_wp2_with (fail)
  go_loopw [3] (fun i wr => ∃ (k : Nat), k ≤ 6 ∧ i = .int .i64 k ∧ Hid (∀ j : Nat, j < k → rowOk j (rowAt (rowsOf l) j) = true) ∧ Hid (Below w.heap.size w wr))
    (fun i _ => 6 - (intOf i).toNat)
  case atStart => exact ⟨0, by omega, rfl, (show ∀ j : Nat, j < 0 → rowOk j (rowAt (rowsOf l) j) = true from fun j hj => absurd hj (by omega)), Below.refl _ _⟩
  case round =>
    obtain ⟨k, hk, rfl, HOK, S0⟩ := hrel
    by_cases h1 : k < 6
    · have HK := Lib.hid h1
      have hkl : k < l.length := by rw [H6.out]; exact h1
      obtain ⟨x, hx⟩ : ∃ x, x = l[k] := ⟨_, rfl⟩
      have hxm : x ∈ l := by rw [hx]; exact List.getElem_mem hkl
      have PT := Lib.hid (show ∀ j u, (LR.arr x)[j]? = some u → wr.cell? ⟨b, off + k * 12 + j, none⟩ = some u from fun j u hu => (HR.out.below S0.out hb) k hkl j u (by rw [hx] at hu; rw [← LR.arr_cells, Array.getElem?_toList]; exact hu))
      have FX := Lib.hid (H.out.2 x hxm)
      have SX := Lib.hid (HS.out x hxm)
      have MX := HM.out x hxm
      have RA := Lib.hid (show rowAt (rowsOf l) k = x.1 by rw [hx]; exact rowAt_of hkl)
      have hbr := S0.out.size
      clear hx hxm hkl
      have d1 : decide ((k : Int) < 6) = true := by simp; omega
      go_wp2_with (with_reducible refine stop_load 77 (.tmp 16) rfl rfl ?_)
      refine Stop.mk (wpList_loadAt rfl _ _ rfl b _ rfl (LR.arr x) PT.out strRow rfl ?_)
      go_wp2_with (with_reducible refine stop_store 77 (.tmp 4) (.tmp 17) rfl rfl ?_)
      refine Stop.mk (wpList_storeB rfl _ _ _ rfl wr.heap.size _ rfl rfl _ (Blk.new _ _ _) strRow rfl rfl (by simp [Value.oneCell']) ?_)
      intro w6 hb6 hk6
      have S := Lib.hid (S0.out.trans ((fresh_below hk6).mono S0.out.size))
      obtain ⟨p, hp⟩ : ∃ p, p = wr.heap.size := ⟨_, rfl⟩
      rw [← hp] at hb6 ⊢
      obtain ⟨⟨last, ep, a⟩, Af, cf⟩ := x
      have BP := Lib.hid hb6
      replace FX := Lib.hid (show InN w Af cf a.f from FX.out)
      replace SX := Lib.hid (show ∀ y ∈ a.f, y.v.s.length ≤ 4294967000 from SX.out)
      replace MX : a.mask < 4294967296 := MX
      clear hb6 hk6 hp S0 PT h1
      by_cases hbd : 0 ≤ last ∧ last ≤ 1099511627776 ∧ 0 ≤ ep ∧ ep ≤ 1099511627776
      case neg =>
        have NO := Lib.hid (show rowOk k ⟨last, ep, a⟩ = false by unfold rowOk; simp only [hbd, decide_false, Bool.false_and])
        have hcs : last < 0 ∨ (¬ last < 0 ∧ 1099511627776 < last) ∨ (¬ last < 0 ∧ ¬ 1099511627776 < last ∧ ep < 0) ∨ (¬ last < 0 ∧ ¬ 1099511627776 < last ∧ ¬ ep < 0 ∧ 1099511627776 < ep) := by omega
        clear hbd
        have q0 : World.cell? _ ⟨p, 0, none⟩ = some (.int .i64 last) := BP.out.cell rfl
        have q1 : World.cell? _ ⟨p, 1, none⟩ = some (.int .i64 ep) := BP.out.cell rfl
        have q3 : World.cell? _ ⟨p, 3, none⟩ = some (.int .i64 a.dev) := BP.out.cell rfl
        have q4 : World.cell? _ ⟨p, 4, none⟩ = some (.int .i64 a.req) := BP.out.cell rfl
        have hpl := BP.out.lt
        rcases hcs with h1 | ⟨h1, h2⟩ | ⟨h1, h2, h3⟩ | ⟨h1, h2, h3, h4⟩
        · have j1 : decide (last < 0) = true := by simpa using h1
          clear h1
          go_wp2_with (fail)
          go_ret
          exact RetV.bool (right_bad HK.out (by rw [RA.out]; exact NO.out)).symm S.out
        · have j1 : decide (last < 0) = false := by simpa using h1
          have j2 : decide (1099511627776 < last) = true := by simpa using h2
          clear h1 h2
          go_wp2_with (fail)
          go_ret
          exact RetV.bool (right_bad HK.out (by rw [RA.out]; exact NO.out)).symm S.out
        · have j1 : decide (last < 0) = false := by simpa using h1
          have j2 : decide (1099511627776 < last) = false := by simpa using h2
          have j3 : decide (ep < 0) = true := by simpa using h3
          clear h1 h2 h3
          go_wp2_with (fail)
          go_ret
          exact RetV.bool (right_bad HK.out (by rw [RA.out]; exact NO.out)).symm S.out
        · have j1 : decide (last < 0) = false := by simpa using h1
          have j2 : decide (1099511627776 < last) = false := by simpa using h2
          have j3 : decide (ep < 0) = false := by simpa using h3
          have j4 : decide (1099511627776 < ep) = true := by simpa using h4
          clear h1 h2 h3 h4
          go_wp2_with (fail)
          go_ret
          exact RetV.bool (right_bad HK.out (by rw [RA.out]; exact NO.out)).symm S.out
      case pos =>
        have HBD := Lib.hid hbd
        have j1 : decide (last < 0) = false := by simp; omega
        have j2 : decide (1099511627776 < last) = false := by simp; omega
        have j3 : decide (ep < 0) = false := by simp; omega
        have j4 : decide (1099511627776 < ep) = false := by simp; omega
        clear hbd
        by_cases h0 : last = 0
        · have ROK := Lib.hid (show rowOk k ⟨last, ep, a⟩ = decide (a = rz) by unfold rowOk; rw [decide_eq_true HBD.out, if_pos h0, Bool.true_and])
          have k0 : (last == 0) = true := by simpa using h0
          have k1 : decide (0 < last) = false := by simp; omega
          clear h0
          have q0 : World.cell? _ ⟨p, 0, none⟩ = some (.int .i64 last) := BP.out.cell rfl
          have q1 : World.cell? _ ⟨p, 1, none⟩ = some (.int .i64 ep) := BP.out.cell rfl
          have q3 : World.cell? _ ⟨p, 3, none⟩ = some (.int .i64 a.dev) := BP.out.cell rfl
          have q4 : World.cell? _ ⟨p, 4, none⟩ = some (.int .i64 a.req) := BP.out.cell rfl
          have hpl := BP.out.lt
          by_cases hz : a = rz
          · have YES := Lib.hid (show rowOk k ⟨last, ep, a⟩ = true by rw [ROK.out]; exact decide_eq_true hz)
            have DZ := Lib.hid (decide_eq_true hz)
            clear hz
            go_wp2_with (with_reducible refine stop_loadG 47 (.tmp 40) rfl ?_)
            refine Stop.mk (wpList_loadAtG (by rfl) _ _ rfl p 2 rfl (a.arr Af cf) (lrow_part BP.out) strRp rfl ?_)
            go_wp2_with (fail)
            refine (c_ref30_Same a rz Af none cf 0 _ (FX.out.below S.out) (In.nil (by omega))).mono ?_
            rintro e w7 ⟨rfl, hb7⟩
            rw [DZ.out]
            replace S := Lib.hid (S.out.trans (hb7.mono S.out.size))
            replace BP := Lib.hid (BP.out.below hb7 BP.out.lt)
            clear hb7 q0 q1 q3 q4 hpl
            have q0 : World.cell? _ ⟨p, 0, none⟩ = some (.int .i64 last) := BP.out.cell rfl
            have q1 : World.cell? _ ⟨p, 1, none⟩ = some (.int .i64 ep) := BP.out.cell rfl
            have q3 : World.cell? _ ⟨p, 3, none⟩ = some (.int .i64 a.dev) := BP.out.cell rfl
            have q4 : World.cell? _ ⟨p, 4, none⟩ = some (.int .i64 a.req) := BP.out.cell rfl
            have hpl := BP.out.lt
            have OK3 := Lib.hid (show ∀ j : Nat, j < k + 1 → rowOk j (rowAt (rowsOf l) j) = true from fun j hj => by
              by_cases hjk : j < k
              · exact HOK.out j hjk
              · obtain rfl : j = k := by omega
                rw [RA.out]; exact YES.out)
            have h6' : k < 6 := HK.out
            go_wp2_with (fail)
            go_roundw
            case rel => exact ⟨k + 1, by omega, by go_num, OK3.out, S.out⟩
            case measure => simp [intOf]; omega
          · have NO := Lib.hid (show rowOk k ⟨last, ep, a⟩ = false by rw [ROK.out]; exact decide_eq_false hz)
            have DZ := Lib.hid (decide_eq_false hz)
            clear hz
            go_wp2_with (with_reducible refine stop_loadG 47 (.tmp 40) rfl ?_)
            refine Stop.mk (wpList_loadAtG (by rfl) _ _ rfl p 2 rfl (a.arr Af cf) (lrow_part BP.out) strRp rfl ?_)
            go_wp2_with (fail)
            refine (c_ref30_Same a rz Af none cf 0 _ (FX.out.below S.out) (In.nil (by omega))).mono ?_
            rintro e w7 ⟨rfl, hb7⟩
            rw [DZ.out]
            replace S := Lib.hid (S.out.trans (hb7.mono S.out.size))
            clear hb7 q0 q1 q3 q4 hpl
            go_wp2_with (fail)
            go_ret
            exact RetV.bool (right_bad HK.out (by rw [RA.out]; exact NO.out)).symm S.out
        · have ROK := Lib.hid (show rowOk k ⟨last, ep, a⟩ = ((a.ok && decide (a.dev = k)) && decide (a.req = last)) by unfold rowOk; rw [decide_eq_true HBD.out, if_neg h0, Bool.true_and])
          have k0 : (last == 0) = false := by simpa using h0
          have k1 : decide (0 < last) = true := by have := HBD.out.1; simp; omega
          clear h0
          have q0 : World.cell? _ ⟨p, 0, none⟩ = some (.int .i64 last) := BP.out.cell rfl
          have q1 : World.cell? _ ⟨p, 1, none⟩ = some (.int .i64 ep) := BP.out.cell rfl
          have q3 : World.cell? _ ⟨p, 3, none⟩ = some (.int .i64 a.dev) := BP.out.cell rfl
          have q4 : World.cell? _ ⟨p, 4, none⟩ = some (.int .i64 a.req) := BP.out.cell rfl
          have hpl := BP.out.lt
          cases hok : a.ok
          case false =>
            have NO := Lib.hid (show rowOk k ⟨last, ep, a⟩ = false by rw [ROK.out, hok]; rfl)
            have OK := Lib.hid hok
            clear hok
            go_wp2_with (with_reducible refine stop_loadG 47 (.tmp 51) rfl ?_)
            refine Stop.mk (wpList_loadAtG (by rfl) _ _ rfl p 2 rfl (a.arr Af cf) (lrow_part BP.out) strRp rfl ?_)
            go_wp2_with (fail)
            refine (c_ref30_Check a Af cf _ (FX.out.below S.out) SX.out MX).mono ?_
            rintro e w7 ⟨rfl, hb7⟩
            rw [OK.out]
            replace S := Lib.hid (S.out.trans (hb7.mono S.out.size))
            clear hb7 q0 q1 q3 q4 hpl
            go_wp2_with (fail)
            go_ret
            exact RetV.bool (right_bad HK.out (by rw [RA.out]; exact NO.out)).symm S.out
          case true =>
            have OK := Lib.hid hok
            have ROK' := Lib.hid (show rowOk k ⟨last, ep, a⟩ = (decide (a.dev = k) && decide (a.req = last)) by rw [ROK.out, hok]; rfl)
            clear hok
            go_wp2_with (with_reducible refine stop_loadG 47 (.tmp 51) rfl ?_)
            refine Stop.mk (wpList_loadAtG (by rfl) _ _ rfl p 2 rfl (a.arr Af cf) (lrow_part BP.out) strRp rfl ?_)
            go_wp2_with (fail)
            refine (c_ref30_Check a Af cf _ (FX.out.below S.out) SX.out MX).mono ?_
            rintro e w7 ⟨rfl, hb7⟩
            rw [OK.out]
            replace S := Lib.hid (S.out.trans (hb7.mono S.out.size))
            replace BP := Lib.hid (BP.out.below hb7 BP.out.lt)
            clear hb7 q0 q1 q3 q4 hpl
            have q0 : World.cell? _ ⟨p, 0, none⟩ = some (.int .i64 last) := BP.out.cell rfl
            have q1 : World.cell? _ ⟨p, 1, none⟩ = some (.int .i64 ep) := BP.out.cell rfl
            have q3 : World.cell? _ ⟨p, 3, none⟩ = some (.int .i64 a.dev) := BP.out.cell rfl
            have q4 : World.cell? _ ⟨p, 4, none⟩ = some (.int .i64 a.req) := BP.out.cell rfl
            have hpl := BP.out.lt
            by_cases hd : a.dev = k
            · by_cases hr : a.req = last
              · have YES := Lib.hid (show rowOk k ⟨last, ep, a⟩ = true by rw [ROK'.out]; simp [hd, hr])
                have i3 : (a.dev != (k : Int)) = false := by simpa using hd
                have i4 : (a.req != last) = false := by simpa using hr
                clear hd hr
                have OK3 := Lib.hid (show ∀ j : Nat, j < k + 1 → rowOk j (rowAt (rowsOf l) j) = true from fun j hj => by
                  by_cases hjk : j < k
                  · exact HOK.out j hjk
                  · obtain rfl : j = k := by omega
                    rw [RA.out]; exact YES.out)
                have h6' : k < 6 := HK.out
                go_wp2_with (fail)
                go_roundw
                case rel => exact ⟨k + 1, by omega, by go_num, OK3.out, S.out⟩
                case measure => simp [intOf]; omega
              · have NO := Lib.hid (show rowOk k ⟨last, ep, a⟩ = false by rw [ROK'.out]; simp [hr])
                have i3 : (a.dev != (k : Int)) = false := by simpa using hd
                have i4 : (a.req != last) = true := by simpa using hr
                clear hd hr
                go_wp2_with (fail)
                go_ret
                exact RetV.bool (right_bad HK.out (by rw [RA.out]; exact NO.out)).symm S.out
            · have NO := Lib.hid (show rowOk k ⟨last, ep, a⟩ = false by rw [ROK'.out]; simp [hd])
              have i3 : (a.dev != (k : Int)) = true := by simpa using hd
              clear hd
              go_wp2_with (fail)
              go_ret
              exact RetV.bool (right_bad HK.out (by rw [RA.out]; exact NO.out)).symm S.out
    · have d1 : decide ((k : Int) < 6) = false := by simp; omega
      obtain rfl : k = 6 := by omega
      clear h1 hk
      go_wp2_with (fail)
      go_ret
      exact RetV.bool (right_good R6.out HOK.out).symm S0.out
theorem c_ref30_Right (l : List LR) (A : Option Addr) (c : Nat) (w : World) (h : InRw w A c l) (hs : ∀ x ∈ l, ∀ y ∈ x.1.a.f, y.v.s.length ≤ 4294967000) (hm : ∀ x ∈ l, x.1.a.mask < 4294967296) :
    Calls Try.prog 33 #[.slice A l.length c] w (RetV w (.bool (rightL (rowsOf l)))) := by
  by_cases h6 : l.length = 6
  · rw [h6]; exact ref30_Right_6 l A c w h h6 hs hm
  · rw [right_len (by unfold rowsOf; rw [List.length_map]; exact h6)]; exact ref30_Right_len l.length A c w h6
end Go.Proofs.Ytjhndilflcigiaa
namespace Go.Proofs.Ytjhndilflcigiaa
open Go.RowKit

/-- Rows that came in. -/
structure InX (w : World) (A : Option Addr) (c : Nat) (l : List LR) : Prop where
  le : l.length ≤ c
  cap : c ≤ 9223372036854775807
  row : l = [] ∨ ∃ b off, A = some ⟨b, off, none⟩ ∧ b < w.heap.size ∧ Row 12 LR.cells w b off l
  flt : ∀ x ∈ l, Flt w x.2.1 x.2.2 x.1.a.f
  msk : ∀ x ∈ l, x.1.a.mask < 4294967296
theorem InX.at {w : World} {A : Option Addr} {c : Nat} {l : List LR} (h : InX w A c l) {k : Nat} (hk : k < l.length) : ∃ b off, A = some ⟨b, off, none⟩ ∧ RowAt w b (off + k * 12) l[k] := by
  rcases h.row with h0 | ⟨b, off, hA, hb, hrow⟩
  · subst h0; simp at hk
  · refine ⟨b, off, hA, hb, fun w' hw => ?_⟩
    have hr := hrow.below hw hb
    refine ⟨hr k hk 0 _ rfl, hr k hk 1 _ rfl, fun j u hu => ?_⟩
    have hj : j < 10 := (Array.getElem?_eq_some_iff.1 hu).1
    have := hr k hk (2 + j) u (by
      unfold LR.cells
      rw [List.getElem?_append_right (by simp)]
      simpa using hu)
    rwa [show off + k * 12 + (2 + j) = off + k * 12 + 2 + j by omega] at this
theorem InX.rows {w : World} {A : Option Addr} {c : Nat} {l : List LR} (h : InX w A c l) (h20 : l.length ≤ 20) (hl : ∀ x ∈ l, large x.1.a.f = false) : InRw w A c l :=
  ⟨⟨h.le, h.cap, by omega, h.row⟩, fun x hx => (h.flt x hx).inn (hl x hx)⟩
theorem right_len6 {l : List LRow} (h : rightL l = true) : l.length = 6 := by
  unfold rightL at h
  simpa using (Bool.and_eq_true_iff.1 h).1
theorem right_pos {l : List LRow} (h : rightL l = true) : ∀ x ∈ l, 0 ≤ x.ep := by
  intro x hx
  have h6 := right_len6 h
  obtain ⟨k, hk, rfl⟩ := List.getElem_of_mem hx
  unfold rightL at h
  have h1 := List.all_eq_true.1 (Bool.and_eq_true_iff.1 h).2 k (List.mem_range.2 (by omega))
  have e : rowAt l k = l[k] := by unfold rowAt; simp [hk]
  rw [e] at h1
  unfold rowOk at h1
  have := of_decide_eq_true (Bool.and_eq_true_iff.1 h1).1
  exact this.2.2.1
set_option maxHeartbeats 400000 in
set_option maxRecDepth 4000 in
theorem law30_Loads_many (n : Nat) (A : Option Addr) (c : Nat) (a : Rep) (Aa : Option Addr) (ca : Nat) (w : World) (hn : 20 < n) : Calls Try.prog 8 #[.slice A n c, .agg (a.arr Aa ca)] w (RetV w (.bool true)) := by
  have B0 := Lib.hid (At.new w 47 (a.arr Aa ca))
  go_enter Try.func8, Try.ntmps8
  go_wp2_with (fail)
  refine (c_law30_awake _).mono ?_
  rintro e w97 ⟨rfl, hb97⟩
  go_wp2_with (fail)
  go_ret
  exact RetV.bool rfl (B0.out.1.trans (hb97.mono B0.out.1.size))
set_option maxHeartbeats 8000000 in
set_option maxRecDepth 4000 in
theorem c_law30_LedgerLoads (l : List LR) (A : Option Addr) (c : Nat) (a : Rep) (Aa : Option Addr) (ca : Nat) (w : World) (h : InX w A c l) (h20 : l.length ≤ 20) (ha : Flt w Aa ca a.f) (hm : a.mask < 4294967296) :
    Calls Try.prog 8 #[.slice A l.length c, .agg (a.arr Aa ca)] w (RetV w (.bool true)) := by
  have B0 := Lib.hid (At.new w 47 (a.arr Aa ca))
  have X := Lib.hid h
  have F := Lib.hid ha
  obtain ⟨n, hn⟩ : ∃ n, n = l.length := ⟨_, rfl⟩
  have hL : n ≤ c := by rw [hn]; exact h.le
  have hC := h.cap
  have hn20 : n ≤ 20 := by omega
  rw [← hn]
  have HN := Lib.hid hn
  obtain ⟨q0, q1, q2, q3, q4, q5, q6, q7, q8, q9⟩ := B0.out.rep
  clear h ha hn h20
  cases hlg : large a.f
  case true =>
    have LG := Lib.hid hlg
    clear hlg
    go_enter Try.func8, Try.ntmps8
    go_wp2_with (fail)
    refine (F.out.big _ B0.out.1).mono ?_
    rintro e w1 ⟨rfl, hb1⟩
    rw [LG.out]
    replace B0 := Lib.hid (B0.out.step hb1)
    clear hb1
    go_wp2_with (fail)
    refine (c_law30_awake _).mono ?_
    rintro e w97 ⟨rfl, hb97⟩
    go_wp2_with (fail)
    go_ret
    exact RetV.bool rfl (B0.out.1.trans (hb97.mono B0.out.1.size))
  case false =>
  have LG := Lib.hid hlg
  have HFI := Lib.hid (F.out.inn hlg)
  have HFS := Lib.hid (F.out.shs hlg)
  have HFL := Lib.hid (F.out.len hlg)
  clear hlg
  go_enter Try.func8, Try.ntmps8
  go_wp2_with (fail)
  refine (F.out.big _ B0.out.1).mono ?_
  rintro e w1 ⟨rfl, hb1⟩
  rw [LG.out]
  replace B0 := Lib.hid (B0.out.step hb1)
  clear hb1 F LG q0 q1 q2 q3 q4 q5 q6 q7 q8 q9
  go_wp2_with (fail)
  go_loopw [5] (fun i wr => ∃ (k : Nat), k ≤ n ∧ i = .int .i64 k ∧ Hid (∀ j (h : j < l.length), j < k → large (l[j]'h).1.a.f = false) ∧ Hid (At w wr (a.arr Aa ca)))
    (fun i _ => n - (intOf i).toNat)
  case atStart => exact ⟨0, by omega, rfl, (show ∀ j (h : j < l.length), j < 0 → large (l[j]'h).1.a.f = false from fun j h hj => absurd hj (by omega)), B0.out⟩
  case round =>
    obtain ⟨k, hk, rfl, HOK, B1⟩ := hrel
    clear B0
    have B0 := B1
    clear B1
    by_cases h1 : k < n
    · have d1 : decide (k < n) = true := by simpa using h1
      have HK := Lib.hid h1
      have hkl : k < l.length := by rw [← HN.out]; exact h1
      obtain ⟨b, off, rfl, RX⟩ := X.out.at hkl
      obtain ⟨x, hx⟩ : ∃ x, x = l[k] := ⟨_, rfl⟩
      have hxm : x ∈ l := by rw [hx]; exact List.getElem_mem hkl
      have RX' : RowAt w b (off + k * 12) x := by rw [hx]; exact RX
      have FX := Lib.hid (X.out.flt x hxm)
      have KX := Lib.hid (show ∀ h : k < l.length, large (l[k]'h).1.a.f = large x.1.a.f from fun _ => by rw [hx])
      clear RX hx hxm hkl
      obtain ⟨⟨last, ep, o⟩, Af, cf⟩ := x
      have hb := RX'.1
      have hbr := B0.out.1.size
      have cc : World.cell? wr ⟨b, off + k * 12 + 2 + 8, none⟩ = some (.slice Af o.f.length cf) := (RX'.2 _ B0.out.1).2.2 8 _ rfl
      have cc' : World.cell? wr ⟨b, off + k * 12 + 10, none⟩ = some (.slice Af o.f.length cf) := cc
      replace FX := Lib.hid (show Flt w Af cf o.f from FX.out)
      clear RX' cc
      cases hlg : large o.f
      case true =>
        have LG := Lib.hid hlg
        clear hlg
        go_wp2_with (fail)
        refine (FX.out.big _ B0.out.1).mono ?_
        rintro e w2 ⟨rfl, hb2⟩
        rw [LG.out]
        replace B0 := Lib.hid (B0.out.step hb2)
        clear hb2
        go_wp2_with (fail)
        refine (c_law30_awake _).mono ?_
        rintro e w97 ⟨rfl, hb97⟩
        go_wp2_with (fail)
        go_ret
        exact RetV.bool rfl (B0.out.1.trans (hb97.mono B0.out.1.size))
      case false =>
        have LG := Lib.hid hlg
        clear hlg
        go_wp2_with (fail)
        refine (FX.out.big _ B0.out.1).mono ?_
        rintro e w2 ⟨rfl, hb2⟩
        rw [LG.out]
        replace B0 := Lib.hid (B0.out.step hb2)
        have OK3 := Lib.hid (show ∀ j (h : j < l.length), j < k + 1 → large (l[j]'h).1.a.f = false from fun j h hj => by
          by_cases hjk : j < k
          · exact HOK.out j h hjk
          · obtain rfl : j = k := by omega
            rw [KX.out h]; exact LG.out)
        clear hb2 cc' FX
        have h1' : k < n := HK.out
        go_wp2_with (fail)
        go_roundw
        case rel => exact ⟨k + 1, by omega, by go_num, OK3.out, B0.out⟩
        case measure => simp [intOf]; omega
    · have d1 : decide (k < n) = false := by simpa using h1
      have hall : ∀ x ∈ l, large x.1.a.f = false := fun x hx => by
        obtain ⟨j, hj, rfl⟩ := List.getElem_of_mem hx
        exact HOK.out j hj (by have := HN.out; omega)
      have HI := Lib.hid (X.out.rows (by have := HN.out; omega) hall)
      have HA := Lib.hid hall
      have HS := Lib.hid (show ∀ x ∈ l, ∀ y ∈ x.1.a.f, y.v.s.length ≤ 4294967000 from fun x hx => (X.out.flt x hx).shs (hall x hx))
      have HFit := Lib.hid (show ∀ x ∈ rowsOf l, x.a.f.length ≤ 1000000 from fun x hx => by
        obtain ⟨y, hy, rfl⟩ := List.mem_map.1 hx
        exact (X.out.flt y hy).len (hall y hy))
      have KL := Lib.hid (fun (wz : World) (hz : Below w.heap.size w wz) => show Calls Try.prog 32 #[.slice A n c] wz (RetLoad wz (rowsOf l)) by rw [HN.out]; exact c_ledger_Load l A c wz (HI.out.below hz) HS.out X.out.msk)
      have KR := Lib.hid (fun (wz : World) (hz : Below w.heap.size w wz) => show Calls Try.prog 33 #[.slice A n c] wz (RetV wz (.bool (rightL (rowsOf l)))) by rw [HN.out]; exact c_ref30_Right l A c wz (HI.out.below hz) HS.out X.out.msk)
      clear hall h1 hk HOK
      go_wp2_with (fail)
      refine (KL.out _ B0.out.1).mono ?_
      rintro e w2 (⟨hr, rfl, hb2⟩ | ⟨hr, g, lg, rfl, hg, hL2, hrow, hb2⟩)
      · have RR := Lib.hid hr
        replace B0 := Lib.hid (B0.out.step hb2)
        clear hr hb2
        go_wp2_with (fail)
        refine (KR.out _ B0.out.1).mono ?_
        rintro e w3 ⟨rfl, hb3⟩
        rw [RR.out]
        replace B0 := Lib.hid (B0.out.step hb3)
        clear hb3
        go_wp2_with (fail)
        refine (c_law30_awake _).mono ?_
        rintro e w97 ⟨rfl, hb97⟩
        go_wp2_with (fail)
        go_ret
        exact RetV.bool rfl (B0.out.1.trans (hb97.mono B0.out.1.size))
      · have RR := Lib.hid hr
        have hn6 : n = 6 := by have := right_len6 hr; have := HN.out; unfold rowsOf at *; simp at *; omega
        have hl6 : l.length = 6 := by rw [← HN.out]; exact hn6
        have B2 := Lib.hid (B0.out.step hb2)
        have S := Lib.hid (show LP w w2 g lg l A c from ⟨B2.out.1, Nat.le_trans B0.out.1.size hg, hL2, HI.out.below B2.out.1, ⟨(HI.out.1).off (Nat.le_trans B0.out.1.size hg), fun x hx => (HI.out.2 x hx).off (Nat.le_trans B0.out.1.size hg)⟩, hrow, by rw [hrow]; exact right_pos hr, by rw [hrow]; exact HFit.out⟩)
        have HFO := Lib.hid (HFI.out.off S.out.og)
        have H6 := Lib.hid hl6
        clear hr hb2 hg hL2 hrow B0 hl6
        have B0 := B2
        clear B2
        subst hn6
        clear d1
        go_wp2_with (fail)
        refine (KR.out _ B0.out.1).mono ?_
        rintro e w3 ⟨rfl, hb3⟩
        rw [RR.out]
        replace B0 := Lib.hid (B0.out.step hb3)
        replace S := Lib.hid (S.out.step hb3)
        clear hb3 KL KR
        go_wp2_with (fail)
        refine (c_ledger_DataR S.out).mono ?_
        rintro e w4 ⟨A4, c4, rfl, hb4, kr⟩
        have KD := Lib.hid kr
        replace B0 := Lib.hid (B0.out.step hb4)
        replace S := Lib.hid (S.out.step hb4)
        clear hb4 kr
        go_wp2_with (fail)
        refine (KD.out _ _ _ (Below.refl _ _) S.out.M).mono ?_
        rintro e w5 ⟨rfl, hb5⟩
        replace B0 := Lib.hid (B0.out.step hb5)
        replace S := Lib.hid (S.out.step hb5)
        clear hb5 KD
        go_wp2_with (with_reducible refine stop_load 47 (.tmp 3) rfl rfl ?_)
        refine Stop.mk (wpList_loadB rfl _ _ rfl w.heap.size rfl _ B0.out.2 strRp rfl ?_)
        go_wp2_with (fail)
        refine (c_ref30_Note6 l A c a Aa ca _ S.out.M H6.out (HFI.out.below S.out.below) HFS.out hm).mono ?_
        rintro e w8 ⟨A8, c8, lm', rfl, in8, r8, hb8, o8⟩
        have T := Lib.hid (S.out.step hb8)
        have IN8 := Lib.hid in8
        have R8 := Lib.hid r8
        have OF8 := Lib.hid (o8 g S.out.L.2.1.lt S.out.off HFO.out)
        have HB8 := Lib.hid hb8
        replace B0 := Lib.hid (B0.out.step hb8)
        rw [← S.out.eq]
        obtain ⟨Y, hY⟩ : ∃ Y, Y = noteOk (rowsOf lg) a := ⟨_, rfl⟩
        rw [← hY]
        have HY := Lib.hid hY
        clear in8 r8 hb8 o8 hY
        go_wp2_with (with_reducible refine stop_loadG 47 (.tmp 3) rfl ?_)
        refine Stop.mk (wpList_loadAtG (by rfl) _ _ rfl w.heap.size 0 rfl (a.arr Aa ca) B0.out.2.all strRp rfl ?_)
        go_wp2_with (fail)
        refine (c_ledger_Note g lg a Aa ca _ T.out.L (HFI.out.below T.out.below) HFS.out hm HFL.out).mono ?_
        rintro e w9 ⟨rfl, hk9, lg', L9, r9, -⟩
        rw [← HY.out]
        replace S := Lib.hid (show LP w w9 g lg' lm' A8 c8 from S.out.note HFL.out HB8.out IN8.out R8.out OF8.out hk9 L9 r9)
        clear T IN8 R8 OF8 HB8 hk9 L9 r9 B0
        go_wp2_with (fail)
        refine (c_ledger_DataR S.out).mono ?_
        rintro e w10 ⟨A10, c10, rfl, hb10, kr⟩
        have KD := Lib.hid kr
        replace S := Lib.hid (S.out.step hb10)
        clear hb10 kr
        go_wp2_with (fail)
        refine (KD.out _ _ _ (Below.refl _ _) S.out.M).mono ?_
        rintro e w11 ⟨rfl, hb11⟩
        replace S := Lib.hid (S.out.step hb11)
        clear hb11 KD
        go_wp2_with (fail)
        refine (c_law30_awake _).mono ?_
        rintro e w12 ⟨rfl, hb12⟩
        go_wp2_with (fail)
        go_ret
        exact RetV.bool rfl (S.out.below.trans (hb12.mono S.out.below.size))
end Go.Proofs.Ytjhndilflcigiaa
