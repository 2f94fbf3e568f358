/-
  The walks of the reference's reader: numbers, texts, an error noted.
-/
import Derived.Test.YtjhndilflcigiaaDoorQb14
import Derived.Test.YtjhndilflcigiaaDoorRows
import Derived.WalkKit
import Derived.WalkSpells
import Derived.WalkLawsBesides
import Derived.Lib.Hide
import Derived.Deep.QuietTactic
import Derived.BigQuiet
import Derived.Maps.AppendAt
import Derived.WalkSmall
import Derived.ProofKit
import Derived.OpenShut
import Derived.JoinedCond
import Derived.Deep.Slices
import Derived.Deep.Fields
import Derived.Carry
import Derived.Deep.AppendSrc
import Derived.Lib.AppendStr
import Derived.Laws.BytesArg
import Derived.Test.YtjhndilflcigiaaDoorProg
import Derived.Shelf.Spec.TrailingZeros
import Derived.RangeFuncNested
import Derived.RangeFuncBound
import Derived.RangeFuncCalls
import Derived.RangeFuncLeaves
import Derived.Shelf.Abstract
import Derived.Shelf.RegionOpen
import Derived.OwnWalkIn
import Derived.TacticsInMore
import Derived.LoopNIn
import Derived.LoopIn
import Derived.Test.YtjhndilflcigiaaDoorTie
import Derived.Lib.LaidTab
import Derived.LaidMore
import Derived.SevenTiedAt
import Derived.Test.YtjhndilflcigiaaDoorCards
import Derived.Laws.Tables
import Derived.Laws.Rows
import Derived.Maps.Own
import Derived.Deep.CutBlock
import Derived.Deep.DeepCutAuto
import Derived.ChangeKeysEq
import Derived.Laws.StructEq
import Derived.Laws.CopyOwn
import Derived.Outline
import Derived.IntWalk
import Derived.Lib.EndianBits
import Derived.Lib.AppendZeros
import Derived.WalkMore
import Derived.StillTail
import Derived.Deep.Quiet
namespace Go.Proofs.YtjhndilflcigiaaDoor
open Go.RowKit

/-- next's end. -/
def RetNx (s : List UInt8) (most : Int) (w : World) (e : Ending) (w' : World) : Prop :=
  e = .returned (.tuple #[.int .i64 (nVal s most), .int .i64 (nLen s most), .int .i64 (nErr s most)]) ∧ w = w'
theorem RetNx.bad {s : List UInt8} {most : Int} {w : World} {e : Int} (h : nErr s most = e) (h0 : e ≠ 0) : RetNx s most w (.returned (.tuple #[.int .i64 0, .int .i64 0, .int .i64 e])) w := by
  refine ⟨?_, rfl⟩
  rw [nVal_bad (by omega), nLen_bad (by omega), h]; rfl

set_option maxHeartbeats 1000000 in
set_option maxRecDepth 4000 in
theorem c_ref01_next (s : List UInt8) (most : Int) (w : World) (hs : s.length ≤ 4294967296) : Calls Tryd.prog 117 #[.string (str s), .int .i64 most] w (RetNx s most w) := by
  go_enter Tryd.func117, Tryd.ntmps117
  go_wp2_with (fail)
  go_loop [7] (fun n => ∃ k acc : Nat, Hid (Peek s k acc) ∧ k ≤ 6 ∧ k ≤ s.length ∧ n = .int .i64 k) (fun n => 6 - (intOf n).toNat)
  case atStart => exact ⟨0, 0, Peek.start _, by omega, by omega, rfl⟩
  case round =>
    obtain ⟨k, acc, hp, hk6, hkl, rfl⟩ := hrel
    by_cases hgo : k < 6 ∧ ∃ h : k < s.length, 128 ≤ s[k].toNat
    · obtain ⟨hlt, hl, hc⟩ := hgo
      have hp2 := Lib.hid (hp.out.next hlt hl hc)
      have h1 : decide ((k : Int) < 6) = true := by simp; omega
      have h2 : decide (k < s.length) = true := by simp; omega
      have h3 : decide (s[k].toNat < 128) = false := by simp; omega
      clear hp
      go_wp2_with (fail)
      go_round
      case rel => exact ⟨k + 1, _, hp2.out, by omega, by omega, by go_num⟩
      case measure => simp [intOf]; omega
    · by_cases h6 : k = 6
      · subst h6
        have he : Hid (nErr s most = 3) := by show _ = _; rw [nErr_def, hp.out.full]; rfl
        clear hgo
        go_wp2_with (fail)
        go_ret3
        exact RetNx.bad he.out (by omega)
      · have hlt : k < 6 := by omega
        have h1 : decide ((k : Int) < 6) = true := by simp; omega
        have h1' : decide ((k : Int) = 6) = false := by simp; omega
        by_cases hl : k = s.length
        · have he : Hid (nErr s most = 2) := by show _ = _; rw [nErr_def, hp.out.short hlt hl]; rfl
          subst hl
          clear hgo
          go_wp2_with (fail)
          go_ret3
          exact RetNx.bad he.out (by omega)
        · have hl : k < s.length := by omega
          have hc : s[k].toNat < 128 := by
            rcases Nat.lt_or_ge s[k].toNat 128 with h | h
            · exact h
            · exact absurd ⟨hlt, hl, h⟩ hgo
          have h2 : decide (k < s.length) = true := by simp; omega
          have h3 : decide (s[k].toNat < 128) = true := by simp; omega
          have h2' : decide (k = s.length) = false := by simp; omega
          clear hgo
          by_cases hz : s[k].toNat = 0 ∧ 0 < k
          · have he : Hid (nErr s most = 3) := by show _ = _; rw [nErr_def, hp.out.zero hlt hl hz.1 hz.2]; rfl
            have h4 : decide (0 < k) = true := by simp; omega
            have h5 : ((s[k].toNat : Int) == 0) = true := by simp; omega
            clear hz
            go_wp2_with (fail)
            go_ret3
            exact RetNx.bad he.out (by omega)
          · obtain ⟨hE, hV, hK⟩ := hp.out.done hlt hl hc (by omega)
            have he : Hid (nErr s most = if 1099511627776 < nxV 6 s ∨ most < (nxV 6 s : Int) then 4 else 0) := by show _ = _; rw [nErr_def, hE]; rfl
            have HK := Lib.hid hK
            clear hE hV hK
            have hdn := fun m (h1 : m < k + 1) (h2 : m < s.length) => downV_step hp.out hlt hl hc h1 h2
            have hz2 : (decide (0 < k) && ((s[k].toNat : Int) == 0)) = false := by
              rw [Bool.and_eq_false_iff]; simp; omega
            have Hdn := Lib.hid hdn
            clear hdn
            by_cases hz3 : 0 < k
            all_goals
              have hz4 : 0 < k → ((s[k].toNat : Int) == 0) = false := by intro h; simp; omega
              first | have hz5 := hz4 hz3 | skip
              first | (have h4 : decide (0 < k) = true := by simp; omega) | (have h4 : decide (0 < k) = false := by simp; omega)
              clear hz2 hz4 hz hz3 h3
              go_wp2_with (fail)
              go_loop [8, 9] (fun v i => ∃ m : Nat, m ≤ k + 1 ∧ i = .int .i64 ((m : Int) - 1) ∧ v = .int .i64 (downV s k m)) (fun _ i => (intOf i + 1).toNat)
              case atStart => exact ⟨k + 1, by omega, by go_num, by rw [downV_start]; rfl⟩
              case round =>
                obtain ⟨m, hm, hi, rfl⟩ := hrel
                have hdl := downV_lt s k m (by omega)
                rcases m with _ | m
                · have hi0 := hi.trans (show Value.int .i64 (((0 : Nat) : Int) - 1) = .int .i64 (-1) from rfl)
                  subst hi0
                  rw [downV_end]
                  clear hi
                  by_cases hlong : 1099511627776 < nxV 6 s ∨ most < (nxV 6 s : Int)
                  · have he4 := Lib.hid (he.out.trans (if_pos hlong))
                    by_cases hl1 : 1099511627776 < nxV 6 s
                    all_goals
                      first
                        | (have hl2 : decide (1099511627776 < (nxV 6 s : Int)) = true := by simp; omega)
                        | ((have hl2 : decide (1099511627776 < (nxV 6 s : Int)) = false := by simp; omega); (have hl3 : decide (most < (nxV 6 s : Int)) = true := by simp; omega))
                      clear hlong hl1 he
                      go_wp2_with (fail)
                      go_ret3
                      exact RetNx.bad he4.out (by omega)
                  · have he0 := Lib.hid (he.out.trans (if_neg hlong))
                    have hl2 : decide (1099511627776 < (nxV 6 s : Int)) = false := by simp; omega
                    have hl3 : decide (most < (nxV 6 s : Int)) = false := by simp; omega
                    clear hlong he
                    go_wp2_with (fail)
                    go_ret3
                    refine ⟨?_, rfl⟩
                    rw [nVal_ok he0.out, nLen_ok he0.out, he0.out, HK.out]; rfl
                · have hi0 := hi.trans (show Value.int .i64 (((m + 1 : Nat) : Int) - 1) = .int .i64 (m : Int) by congr 1; omega)
                  subst hi0
                  clear hi
                  have hml : m < s.length := by omega
                  have hd := Hdn.out m hm hml
                  have hm8 : s[m].toNat % 128 < 128 := Nat.mod_lt _ (by omega)
                  have Hd := Lib.hid hd
                  clear hd
                  go_wp2_with (fail)
                  go_round
                  case rel => exact ⟨m, by omega, rfl, by rw [← Hd.out]; go_num⟩
                  case measure => simp [intOf]
theorem drop_take_all {α : Type} (l : List α) (n : Nat) : (l.drop n).take (l.length - n) = l.drop n := List.take_of_length_le (by rw [List.length_drop]; omega)
set_option maxHeartbeats 400000 in
theorem c_ref01_Fail (h : Nat) (st : Rd) (e : Int) (w : World) (r : RdR w h st) : Calls Tryd.prog 65 #[.pointer (some ⟨h, 0, none⟩), .int .i64 e] w (fun x w' => x = .returned (.tuple #[]) ∧ RdR w' h (rdF st e) ∧ Kept (some h) w.heap.size w w') := by
  have c1 : w.cell? ⟨h, 1, none⟩ = some (.int .i64 st.e) := r.1.cell rfl
  have f1 := r.1.frozen 1
  by_cases h0 : st.e = 0
  · have hb : (st.e == 0) = true := by simpa using h0
    rw [rdF_ok h0]
    clear h0
    go_enter Tryd.func65, Tryd.ntmps65
    go_wp2_with (fail)
    go_end0
    exact ⟨rfl, ⟨by simpa using r.1.store 1 (.int .i64 e), r.2⟩, (Kept.refl _ _ _).setCell (q := ⟨h, 1, none⟩) (.inr rfl) _⟩
  · have hb : (st.e == 0) = false := by simpa using h0
    rw [rdF_err h0]
    clear h0
    go_enter Tryd.func65, Tryd.ntmps65
    go_wp2_with (fail)
    go_end0
    exact ⟨rfl, r, Kept.refl _ _ _⟩
set_option maxHeartbeats 400000 in
theorem c_ref01_RNum (h : Nat) (st : Rd) (most : Int) (w : World) (r : RdR w h st) : Calls Tryd.prog 52 #[.pointer (some ⟨h, 0, none⟩), .int .i64 most] w (RetR h (rdN' st most) w (.int .i64 (rdN st most))) := by
  have c0 : w.cell? ⟨h, 0, none⟩ = some (.string (str st.s)) := r.1.cell rfl
  have c1 : w.cell? ⟨h, 1, none⟩ = some (.int .i64 st.e) := r.1.cell rfl
  have f1 := r.1.frozen 1
  have f0 := r.1.frozen 0
  by_cases h0 : st.e = 0
  · have hb : (st.e != 0) = false := by simpa using h0
    have hn : rdN st most = nVal st.s most := by unfold rdN; rw [if_pos h0]
    have hn' : rdN' st most = ⟨st.s.drop (nLen st.s most), nErr st.s most⟩ := by unfold rdN'; rw [if_pos h0]
    have hle := nLen_le st.s most
    have hln := r.2
    rw [hn, hn']
    have R := Lib.hid r
    clear h0 hn hn' r
    go_enter Tryd.func52, Tryd.ntmps52
    go_wp2_with (go_at_call 117; refine (c_ref01_next st.s most _ hln).mono ?_; rintro e w1 ⟨rfl, rfl⟩)
    go_ret
    refine ⟨rfl, ⟨?_, by simp; omega⟩, ((Kept.refl _ _ _).setCell (q := ⟨h, 1, none⟩) (.inr rfl) _).setCell (q := ⟨h, 0, none⟩) (.inr rfl) _⟩
    have := (R.out.1.store 1 (.int .i64 (nErr st.s most))).store 0 (.string (str (st.s.drop (nLen st.s most))))
    simpa [drop_take_all] using this
  · have hb : (st.e != 0) = true := by simpa using h0
    rw [(rdN_err h0).1, (rdN_err h0).2]
    clear h0
    go_enter Tryd.func52, Tryd.ntmps52
    go_wp2_with (fail)
    go_ret
    exact ⟨rfl, r, Kept.refl _ _ _⟩
set_option maxHeartbeats 400000 in
theorem c_ref01_RStr (h : Nat) (st : Rd) (most : Int) (w : World) (r : RdR w h st) : Calls Tryd.prog 188 #[.pointer (some ⟨h, 0, none⟩), .int .i64 most] w (RetR h (rdS' st most) w (.string (str (rdS st most)))) := by
  have c0 : w.cell? ⟨h, 0, none⟩ = some (.string (str st.s)) := r.1.cell rfl
  have c1 : w.cell? ⟨h, 1, none⟩ = some (.int .i64 st.e) := r.1.cell rfl
  have f1 := r.1.frozen 1
  have f0 := r.1.frozen 0
  have hln := r.2
  by_cases h0 : st.e = 0
  case neg =>
    have hb : (st.e != 0) = true := by simpa using h0
    rw [(rdS_err h0).1, (rdS_err h0).2]
    clear h0
    go_enter Tryd.func188, Tryd.ntmps188
    go_wp2_with (fail)
    go_ret
    exact ⟨rfl, r, Kept.refl _ _ _⟩
  have hb : (st.e != 0) = false := by simpa using h0
  have H0 := Lib.hid h0
  clear h0
  obtain ⟨er, her⟩ : ∃ er, er = nErr st.s most := ⟨_, rfl⟩
  by_cases he : er = 0
  case neg =>
    have h1 : rdS st most = [] := by unfold rdS tErr; rw [if_neg]; intro k; rw [← her, if_neg he] at k; exact he k.2
    have h2 : rdS' st most = ⟨st.s, er⟩ := by unfold rdS' tErr; rw [if_pos H0.out, ← her, if_neg he, if_neg he]
    have hbad : nErr st.s most ≠ 0 := by rw [← her]; exact he
    rw [h1, h2]
    have hne : (er != 0) = true := by simpa using he
    have hne2 : (er == 0) = false := by simpa using he
    have Hv := Lib.hid (nVal_bad hbad)
    have Hl := Lib.hid (nLen_bad hbad)
    have Her := Lib.hid her
    clear h1 h2 he hbad her
    go_enter Tryd.func188, Tryd.ntmps188
    go_wp2_with (go_at_call 117; refine (c_ref01_next st.s most _ hln).mono ?_; rintro e w1 ⟨rfl, rfl⟩; rw [Hv.out, Hl.out, ← Her.out])
    go_ret
    exact ⟨rfl, ⟨by simpa using r.1.store 1 (.int .i64 er), hln⟩, (Kept.refl _ _ _).setCell (q := ⟨h, 1, none⟩) (.inr rfl) _⟩
  have hn0 : nErr st.s most = 0 := her.symm.trans he
  have hv := nVal_ok hn0
  have hl := nLen_ok hn0
  obtain ⟨n, hn⟩ : ∃ n : Nat, n = nxV 6 st.s := ⟨_, rfl⟩
  obtain ⟨k, hk⟩ : ∃ k : Nat, k = nxK 6 st.s := ⟨_, rfl⟩
  rw [← hn] at hv
  rw [← hk] at hl
  have hn40 : n ≤ 1099511627776 := by rw [hn]; exact (nErr_ok hn0).2.1
  have hkl : k ≤ st.s.length := by rw [hk]; exact nxK_le 6 _
  by_cases hlong : n ≤ st.s.length - k
  case neg =>
    have ht : tErr st.s most = 2 := by unfold tErr; rw [if_pos hn0, ← hn, ← hk, if_neg hlong]
    have h1 : rdS st most = [] := by unfold rdS; rw [if_neg]; intro k; rw [ht] at k; exact absurd k.2 (by decide)
    have h2 : rdS' st most = ⟨st.s, 2⟩ := by unfold rdS'; rw [if_pos H0.out, if_neg (by rw [ht]; decide), ht]
    rw [h1, h2]
    have hgt : (st.s.length : Int) - (k : Int) < (n : Int) := by omega
    have Hv := Lib.hid hv
    have Hl := Lib.hid hl
    have Hn0 := Lib.hid hn0
    clear h1 h2 ht hlong hn hk hv hl hn0 her he
    go_enter Tryd.func188, Tryd.ntmps188
    go_wp2_with (go_at_call 117; refine (c_ref01_next st.s most _ hln).mono ?_; rintro e w1 ⟨rfl, rfl⟩; rw [Hv.out, Hl.out, Hn0.out])
    go_ret
    exact ⟨rfl, ⟨by simpa using r.1.store 1 (.int .i64 2), hln⟩, (Kept.refl _ _ _).setCell (q := ⟨h, 1, none⟩) (.inr rfl) _⟩
  have ht : tErr st.s most = 0 := by unfold tErr; rw [if_pos hn0, ← hn, ← hk, if_pos hlong]
  have h1 : rdS st most = (st.s.drop k).take n := by unfold rdS; rw [if_pos ⟨H0.out, ht⟩, ← hn, ← hk]
  have h2 : rdS' st most = ⟨st.s.drop (k + n), 0⟩ := by unfold rdS'; rw [if_pos H0.out, if_pos ht, ← hn, ← hk]
  have hgt : ¬ (st.s.length : Int) - (k : Int) < (n : Int) := by omega
  have hle : k + n ≤ st.s.length := by omega
  rw [h1, h2]
  have Hv := Lib.hid hv
  have Hl := Lib.hid hl
  have Hn0 := Lib.hid hn0
  have R := Lib.hid r
  clear h1 h2 ht hlong hn hk hv hl hn0 her he r
  go_enter Tryd.func188, Tryd.ntmps188
  go_wp2_with (go_at_call 117; refine (c_ref01_next st.s most _ hln).mono ?_; rintro e w1 ⟨rfl, rfl⟩; rw [Hv.out, Hl.out, Hn0.out])
  go_ret
  refine ⟨?_, ⟨?_, by simp; omega⟩, (Kept.refl _ _ _).setCell (q := ⟨h, 0, none⟩) (.inr rfl) _⟩
  · show Ending.returned (Value.string _) = _
    congr 2
    have : k + n - k = n := by omega
    simp [this]
  · have := R.out.1.store 0 (.string (str (st.s.drop (k + n))))
    simpa [drop_take_all, H0.out] using this
end Go.Proofs.YtjhndilflcigiaaDoor
