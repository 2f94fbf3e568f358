/-
  Lemmas (walks and plain laws), in one text.
-/
import Derived.Test.YtiedkcijjfmhaaaGreatDoorSr2
import Derived.Test.YtiedkcijjfmhaaaGreatDoorSr7
import Derived.Test.YtiedkcijjfmhaaaGreatDoorSr8
namespace Go.Proofs.YtiedkcijjfmhaaaGreatDoor
open Go.RowKit

structure Deed where
  kind : Int
  n : Int
  dev : Int
  id : Int
  e : Edit
  f : List Node
  mask : Nat
  p : Patch
  keep : List Int
  text : List UInt8
deriving DecidableEq
abbrev dz : Deed := ⟨0, 0, 0, 0, ez, [], 0, pz, [], []⟩
/-! What a kind has. -/
def dE (k : Int) : Bool := decide (k = 1)
def dN (k : Int) : Bool := decide (k = 2 ∨ (7 ≤ k ∧ k ≤ 10))
def dD (k : Int) : Bool := decide (3 ≤ k ∧ k ≤ 6)
def dF (k : Int) : Bool := decide (k = 3)
def dW (k : Int) : Bool := decide (k = 5)
def dK (k : Int) : Bool := decide (k = 11)
def dT (k : Int) : Bool := decide (k = 12)
/-- The act of which only that is left which its kind has. -/
def Deed.only (o : Deed) : Deed :=
  ⟨o.kind, if dN o.kind then o.n else 0, if dD o.kind then o.dev else 0, if dW o.kind then o.id else 0, if dE o.kind then o.e else ez,
   if dF o.kind then o.f else [], if dF o.kind then o.mask else 0, if dW o.kind then o.p else pz, if dK o.kind then o.keep else [], if dT o.kind then o.text else []⟩
def Deed.may (o : Deed) : Bool :=
  decide (1 ≤ o.kind ∧ o.kind ≤ 12) && ((!dE o.kind || decide (o.e.code = 0)) && ((!dN o.kind || decide (0 ≤ o.n ∧ o.n ≤ 1099511627776)) && ((!dD o.kind || decide (0 ≤ o.dev ∧ o.dev ≤ 5)) &&
    ((!dF o.kind || decide (check o.f = 0 ∧ o.mask < 512)) && ((!dW o.kind || decide (1 ≤ o.id ∧ o.id ≤ 1073741823 ∧ o.p.code = 0)) &&
      ((!dK o.kind || (decide (o.keep.length ≤ 40) && o.keep.all fun x => decide (0 ≤ x ∧ x ≤ 2))) && (!dT o.kind || decide (o.text.length ≤ 4096))))))))
def Deed.ok (o : Deed) : Bool := o.may && decide (o.only = o)
/-- An act's bytes behind its kind. -/
def deedT (o : Deed) : List UInt8 :=
  (if dE o.kind then editB o.e else []) ++ ((if dN o.kind then num o.n else []) ++ ((if dD o.kind then num o.dev else []) ++ ((if dF o.kind then putB o.f ++ num o.mask else []) ++
    ((if dW o.kind then num o.id ++ patchB o.p else []) ++ ((if dK o.kind then num o.keep.length ++ o.keep.flatMap num else []) ++ (if dT o.kind then strB o.text else []))))))
def deedB (o : Deed) : List UInt8 := num o.kind ++ deedT o
/-- A script's bytes. -/
def scriptB (l : List Deed) : List UInt8 := num l.length ++ l.flatMap deedB
def Deed.mayAll (l : List Deed) : Bool := decide (l.length ≤ 400) && l.all Deed.ok
/-! What is read as an act. -/
def rdInts (most : Int) : Nat → Rd → List Int
  | 0, _ => []
  | k + 1, st => rdN st most :: rdInts most k (rdN' st most)
def rdInts' (most : Int) : Nat → Rd → Rd
  | 0, st => st
  | k + 1, st => rdInts' most k (rdN' st most)
def ddK (st : Rd) : Int := rdN st 12
def ddA (st : Rd) : Rd := rdAb' st 12
def ddB (st : Rd) : Rd := rdN' (ddA st) 5
def ddF (st : Rd) : Rd := rdPred' (ddB st)
def ddW (st : Rd) : Rd := rdAb' (ddB st) 1073741823
def ddL (st : Rd) : Rd := rdN' (ddA st) 40
def ddC (st : Rd) : Nat := (rdN (ddA st) 40).toNat
@[irreducible] def rdDeed' (st : Rd) : Rd :=
  if ddK st = 1 then rdEdit' (ddA st) else if dN (ddK st) then rdN' (ddA st) 1099511627776
  else if ddK st = 3 then rdN' (ddF st) 511 else if ddK st = 5 then rdPatch' (ddW st) else if dD (ddK st) then ddB st
  else if ddK st = 11 then rdInts' 2 (ddC st) (ddL st) else if ddK st = 12 then rdS' (ddA st) 4096 else ddA st
@[irreducible] def rdDeed (st : Rd) : Deed :=
  if ddK st = 1 then { dz with kind := 1, e := rdEdit (ddA st) } else if dN (ddK st) then { dz with kind := ddK st, n := rdN (ddA st) 1099511627776 }
  else if ddK st = 3 then { dz with kind := 3, dev := rdN (ddA st) 5, f := rdPred (ddB st), mask := (rdN (ddF st) 511).toNat }
  else if ddK st = 5 then { dz with kind := 5, dev := rdN (ddA st) 5, id := rdN (ddB st) 1073741823, p := rdPatch (ddW st) } else if dD (ddK st) then { dz with kind := ddK st, dev := rdN (ddA st) 5 }
  else if ddK st = 11 then { dz with kind := 11, keep := rdInts 2 (ddC st) (ddL st) } else if ddK st = 12 then { dz with kind := 12, text := rdS (ddA st) 4096 } else { dz with kind := ddK st }
theorem dd_1 {st : Rd} (h : ddK st = 1) : rdDeed' st = rdEdit' (ddA st) ∧ rdDeed st = { dz with kind := 1, e := rdEdit (ddA st) } := by
  unfold rdDeed' rdDeed; simp [h]
theorem dd_N {st : Rd} (h : dN (ddK st) = true) : rdDeed' st = rdN' (ddA st) 1099511627776 ∧ rdDeed st = { dz with kind := ddK st, n := rdN (ddA st) 1099511627776 } := by
  have h1 : ddK st ≠ 1 := by intro h1; rw [h1] at h; exact absurd h (by decide)
  unfold rdDeed' rdDeed; simp [h, h1]
theorem dd_3 {st : Rd} (h : ddK st = 3) : rdDeed' st = rdN' (ddF st) 511 ∧ rdDeed st = { dz with kind := 3, dev := rdN (ddA st) 5, f := rdPred (ddB st), mask := (rdN (ddF st) 511).toNat } := by
  unfold rdDeed' rdDeed; simp [h, dN]
theorem dd_5 {st : Rd} (h : ddK st = 5) : rdDeed' st = rdPatch' (ddW st) ∧ rdDeed st = { dz with kind := 5, dev := rdN (ddA st) 5, id := rdN (ddB st) 1073741823, p := rdPatch (ddW st) } := by
  unfold rdDeed' rdDeed; simp [h, dN]
theorem dd_D {st : Rd} (h : ddK st = 4 ∨ ddK st = 6) : rdDeed' st = ddB st ∧ rdDeed st = { dz with kind := ddK st, dev := rdN (ddA st) 5 } := by
  unfold rdDeed' rdDeed
  rcases h with h | h <;> simp [h, dN, dD]
theorem dd_11 {st : Rd} (h : ddK st = 11) : rdDeed' st = rdInts' 2 (ddC st) (ddL st) ∧ rdDeed st = { dz with kind := 11, keep := rdInts 2 (ddC st) (ddL st) } := by
  unfold rdDeed' rdDeed; simp [h, dN, dD]
theorem dd_12 {st : Rd} (h : ddK st = 12) : rdDeed' st = rdS' (ddA st) 4096 ∧ rdDeed st = { dz with kind := 12, text := rdS (ddA st) 4096 } := by
  unfold rdDeed' rdDeed; simp [h, dN, dD]
theorem dd_0 {st : Rd} (h : ddK st = 0) : rdDeed' st = ddA st ∧ (ddA st).e ≠ 0 := by
  refine ⟨?_, ?_⟩
  · unfold rdDeed'; simp [h, dN, dD]
  · unfold ddA; rw [rdAb'_zero h]; exact rdF_bad _ (by decide)
theorem ddK_cases (st : Rd) : ddK st = 0 ∨ ddK st = 1 ∨ dN (ddK st) = true ∨ ddK st = 3 ∨ (ddK st = 4 ∨ ddK st = 6) ∨ ddK st = 5 ∨ ddK st = 11 ∨ ddK st = 12 := by
  have := rdN_bd st 12
  have h : 0 ≤ ddK st ∧ ddK st ≤ 12 := by unfold ddK; omega
  unfold dN
  simp only [decide_eq_true_eq]
  omega
theorem rdInts_len (most : Int) : ∀ k st, (rdInts most k st).length = k
  | 0, _ => rfl
  | k + 1, st => by rw [rdInts, List.length_cons, rdInts_len]
theorem rdInts_snoc (most : Int) : ∀ k st, rdInts most (k + 1) st = rdInts most k st ++ [rdN (rdInts' most k st) most] ∧ rdInts' most (k + 1) st = rdN' (rdInts' most k st) most
  | 0, st => ⟨rfl, rfl⟩
  | k + 1, st => by
    obtain ⟨a, b⟩ := rdInts_snoc most k (rdN' st most)
    refine ⟨?_, ?_⟩
    · rw [rdInts, a]; rfl
    · rw [rdInts', b]; rfl
theorem rdDeed'_err {st : Rd} (h : st.e ≠ 0) : rdDeed' st = st := by
  have h0 : ddK st = 0 := (rdN_err h).1
  rw [(dd_0 h0).1]
  exact rdAb'_bad h
theorem Deed.may_iff {o : Deed} : o.may = true ↔ (1 ≤ o.kind ∧ o.kind ≤ 12) ∧ (dE o.kind = true → o.e.code = 0) ∧ (dN o.kind = true → 0 ≤ o.n ∧ o.n ≤ 1099511627776) ∧ (dD o.kind = true → 0 ≤ o.dev ∧ o.dev ≤ 5) ∧
    (dF o.kind = true → check o.f = 0 ∧ o.mask < 512) ∧ (dW o.kind = true → 1 ≤ o.id ∧ o.id ≤ 1073741823 ∧ o.p.code = 0) ∧ (dK o.kind = true → o.keep.length ≤ 40 ∧ ∀ x ∈ o.keep, 0 ≤ x ∧ x ≤ 2) ∧ (dT o.kind = true → o.text.length ≤ 4096) := by
  have imp : ∀ (a : Bool) (q : Bool), ((!a || q) = true) ↔ (a = true → q = true) := by intro a q; cases a <;> simp
  unfold Deed.may
  simp only [Bool.and_eq_true, imp, decide_eq_true_eq, List.all_eq_true]
theorem Deed.ok_iff {o : Deed} : o.ok = true ↔ o.may = true ∧ o.only = o := by unfold Deed.ok; simp only [Bool.and_eq_true, decide_eq_true_eq]
/-! Scripts. -/
def rdDeeds : Nat → Rd → List Deed
  | 0, _ => []
  | k + 1, st => if st.e = 0 then rdDeed st :: rdDeeds k (rdDeed' st) else []
def rdDeeds' : Nat → Rd → Rd
  | 0, st => st
  | k + 1, st => if st.e = 0 then rdDeeds' k (rdDeed' st) else st
theorem rdDeeds'_bad {st : Rd} (h : st.e ≠ 0) : ∀ k, rdDeeds' k st = st
  | 0 => rfl
  | k + 1 => by unfold rdDeeds'; rw [if_neg h]
theorem rdDeeds'_ok {st : Rd} (h : st.e = 0) (k : Nat) : rdDeeds' (k + 1) st = rdDeeds' k (rdDeed' st) := by rw [rdDeeds', if_pos h]
theorem rdDeeds_ok {st : Rd} (h : st.e = 0) (k : Nat) : rdDeeds (k + 1) st = rdDeed st :: rdDeeds k (rdDeed' st) := by rw [rdDeeds, if_pos h]
def scN (s : List UInt8) : Nat := (rdN ⟨s, 0⟩ 400).toNat
def scS (s : List UInt8) : Rd := rdDeeds' (scN s) (rdN' ⟨s, 0⟩ 400)
def scL (s : List UInt8) : List Deed := rdDeeds (scN s) (rdN' ⟨s, 0⟩ 400)
def rdScriptE (s : List UInt8) : Int := rdEnd (scS s)
def rdScript (s : List UInt8) : List Deed := if rdScriptE s = 0 then scL s else []
theorem rdEnd_zero {st : Rd} (h : rdEnd st = 0) : st.e = 0 ∧ st.s = [] := by
  unfold rdEnd at h
  split at h
  · cases h
  · rename_i h'
    refine ⟨h, ?_⟩
    rcases Classical.em (st.s = []) with hs | hs
    · exact hs
    · exact absurd ⟨h, hs⟩ h'
end Go.Proofs.YtiedkcijjfmhaaaGreatDoor
namespace Go.Proofs.YtiedkcijjfmhaaaGreatDoor
open Go.RowKit

set_option maxHeartbeats 1000000 in
theorem c_edit_hasG (k : Int) (w : World) (h1 : 0 ≤ k) (h2 : k ≤ 7) : Calls Tryz.prog 52 #[.int .i64 k, .int .i64 1] w (RetV w (.bool (hasG k))) := by
  rcases kind8 h1 h2 with rfl | rfl | rfl | rfl | rfl | rfl | rfl | rfl
  all_goals
    go_enter Tryz.func52, Tryz.ntmps52
    go_wp2
    go_ret
    exact RetV.bool (by decide) (Below.refl _ _)
set_option maxHeartbeats 1000000 in
theorem c_edit_hasI (k : Int) (w : World) (h1 : 0 ≤ k) (h2 : k ≤ 7) : Calls Tryz.prog 52 #[.int .i64 k, .int .i64 2] w (RetV w (.bool (hasI k))) := by
  rcases kind8 h1 h2 with rfl | rfl | rfl | rfl | rfl | rfl | rfl | rfl
  all_goals
    go_enter Tryz.func52, Tryz.ntmps52
    go_wp2
    go_ret
    exact RetV.bool (by decide) (Below.refl _ _)
set_option maxHeartbeats 1000000 in
theorem c_edit_hasP (k : Int) (w : World) (h1 : 0 ≤ k) (h2 : k ≤ 7) : Calls Tryz.prog 52 #[.int .i64 k, .int .i64 4] w (RetV w (.bool (hasP k))) := by
  rcases kind8 h1 h2 with rfl | rfl | rfl | rfl | rfl | rfl | rfl | rfl
  all_goals
    go_enter Tryz.func52, Tryz.ntmps52
    go_wp2
    go_ret
    exact RetV.bool (by decide) (Below.refl _ _)
/-- What is asked for: 1 a group, 2 an ID, 4 a patch. -/
def hasW (k x : Int) : Bool := if x = 1 then hasG k else if x = 2 then hasI k else hasP k
theorem c_edit_has (k x : Int) (w : World) (h1 : 0 ≤ k) (h2 : k ≤ 7) (hx : x = 1 ∨ x = 2 ∨ x = 4) : Calls Tryz.prog 52 #[.int .i64 k, .int .i64 x] w (RetV w (.bool (hasW k x))) := by
  rcases hx with rfl | rfl | rfl
  · exact c_edit_hasG k w h1 h2
  · exact c_edit_hasI k w h1 h2
  · exact c_edit_hasP k w h1 h2
set_option maxHeartbeats 1000000 in
theorem c_ref19_group (k : Int) (w : World) (h1 : 0 ≤ k) (h2 : k ≤ 7) : Calls Tryz.prog 64 #[.int .i64 k] w (RetV w (.bool (hasG k))) := by
  rcases kind8 h1 h2 with rfl | rfl | rfl | rfl | rfl | rfl | rfl | rfl
  all_goals
    go_enter Tryz.func64, Tryz.ntmps64
    go_wp2
    go_ret
    exact RetV.bool (by decide) (Below.refl _ _)
set_option maxHeartbeats 1000000 in
theorem c_ref19_id (k : Int) (w : World) (h1 : 0 ≤ k) (h2 : k ≤ 7) : Calls Tryz.prog 65 #[.int .i64 k] w (RetV w (.bool (hasI k))) := by
  rcases kind8 h1 h2 with rfl | rfl | rfl | rfl | rfl | rfl | rfl | rfl
  all_goals
    go_enter Tryz.func65, Tryz.ntmps65
    go_wp2
    go_ret
    exact RetV.bool (by decide) (Below.refl _ _)
set_option maxHeartbeats 1000000 in
theorem c_ref19_patch (k : Int) (w : World) (h1 : 0 ≤ k) (h2 : k ≤ 7) : Calls Tryz.prog 66 #[.int .i64 k] w (RetV w (.bool (hasP k))) := by
  rcases kind8 h1 h2 with rfl | rfl | rfl | rfl | rfl | rfl | rfl | rfl
  all_goals
    go_enter Tryz.func66, Tryz.ntmps66
    go_wp2
    go_ret
    exact RetV.bool (by decide) (Below.refl _ _)
end Go.Proofs.YtiedkcijjfmhaaaGreatDoor
namespace Go.Proofs.YtiedkcijjfmhaaaGreatDoor
open Go.RowKit

set_option maxHeartbeats 1000000 in
theorem c_cardwire_above (p : Option Nat) (st : Rd) (most : Int) (w : World) (h : RdP w p st) : Calls Tryz.prog 58 #[ptr p, .int .i64 most] w (RetP p (rdAb' st most) w (.int .i64 (rdN st most))) := by
  by_cases h0 : rdN st most = 0
  · rw [rdAb'_zero h0]
    have k : (rdN st most == 0) = true := by simpa using h0
    clear h0
    go_enter Tryz.func58, Tryz.ntmps58
    go_wp2_with (fail)
    refine (c_octet_RNum p st most _ h).mono ?_
    rintro e w1 ⟨rfl, hr1, hk1⟩
    have hz1 := hk1.size
    go_wp2_with (fail)
    refine (c_octet_Fail p (rdN' st most) 3 _ hr1).mono ?_
    rintro e w2 ⟨rfl, hr2, hk2⟩
    have hz2 := hk2.size
    go_wp2_with (fail)
    go_ret
    exact ⟨rfl, hr2, (by repeat (first | exact Kept.refl _ _ _ | refine Kept.drew ?_ | refine Kept.alloc ?_ (by first | omega | (simp; done) | (simp; omega)) _ | refine Kept.setCell ?_ (by first | (right; rfl) | (left; first | omega | (simp; done) | (simp; omega))) _ | refine Kept.then_kept ?_ (by assumption) (by first | omega | (simp; done) | (simp; omega)) | refine Kept.then_below ?_ (by assumption) (by first | omega | (simp; done) | (simp; omega)) | refine Kept.low ?_ (by assumption)))⟩
  · rw [rdAb'_pos h0]
    have k : (rdN st most == 0) = false := by simpa using h0
    clear h0
    go_enter Tryz.func58, Tryz.ntmps58
    go_wp2_with (fail)
    refine (c_octet_RNum p st most _ h).mono ?_
    rintro e w1 ⟨rfl, hr1, hk1⟩
    have hz1 := hk1.size
    go_wp2_with (fail)
    go_ret
    exact ⟨rfl, hr1, (by repeat (first | exact Kept.refl _ _ _ | refine Kept.drew ?_ | refine Kept.alloc ?_ (by first | omega | (simp; done) | (simp; omega)) _ | refine Kept.setCell ?_ (by first | (right; rfl) | (left; first | omega | (simp; done) | (simp; omega))) _ | refine Kept.then_kept ?_ (by assumption) (by first | omega | (simp; done) | (simp; omega)) | refine Kept.then_below ?_ (by assumption) (by first | omega | (simp; done) | (simp; omega)) | refine Kept.low ?_ (by assumption)))⟩
set_option maxHeartbeats 1000000 in
theorem c_cardwire_labels (p : Option Nat) (st : Rd) (w : World) (h : RdP w p st) : Calls Tryz.prog 60 #[ptr p] w (RetP p (rdN' st 65535) w (.int .u32 (rdN st 65535).toNat)) := by
  have hb := rdN_bd st 65535
  go_enter Tryz.func60, Tryz.ntmps60
  go_wp2_with (fail)
  refine (c_octet_RNum p st 65535 _ h).mono ?_
  rintro e w1 ⟨rfl, hr1, hk1⟩
  have hz1 := hk1.size
  go_wp2_with (fail)
  go_ret
  have hc : ((rdN st 65535).toNat : Int) = rdN st 65535 := by omega
  rw [hc]
  exact ⟨rfl, hr1, (by repeat (first | exact Kept.refl _ _ _ | refine Kept.drew ?_ | refine Kept.alloc ?_ (by first | omega | (simp; done) | (simp; omega)) _ | refine Kept.setCell ?_ (by first | (right; rfl) | (left; first | omega | (simp; done) | (simp; omega))) _ | refine Kept.then_kept ?_ (by assumption) (by first | omega | (simp; done) | (simp; omega)) | refine Kept.then_below ?_ (by assumption) (by first | omega | (simp; done) | (simp; omega)) | refine Kept.low ?_ (by assumption)))⟩
set_option maxHeartbeats 1000000 in
theorem c_ref08_above (h : Nat) (st : Rd) (most : Int) (w : World) (r : RdR w h st) : Calls Tryz.prog 88 #[.pointer (some ⟨h, 0, none⟩), .int .i64 most] w (RetR h (rdAb' st most) w (.int .i64 (rdN st most))) := by
  by_cases he : (rdN' st most).e = 0
  · have ke : ((rdN' st most).e == 0) = true := by simpa using he
    by_cases h0 : rdN st most = 0
    · rw [rdAb'_zero h0]
      have k : (rdN st most == 0) = true := by simpa using h0
      clear h0 he
      go_enter Tryz.func88, Tryz.ntmps88
      go_wp2_with (fail)
      refine (c_ref01_RNum h st most _ r).mono ?_
      rintro e w1 ⟨rfl, hr1, hk1⟩
      have hz1 := hk1.size
      have hc := hr1.1.cell (i := 1) rfl
      go_wp2_with (fail)
      refine (c_ref01_Fail h (rdN' st most) 3 _ hr1).mono ?_
      rintro e w2 ⟨rfl, hr2, hk2⟩
      have hz2 := hk2.size
      go_wp2_with (fail)
      go_ret
      exact ⟨rfl, hr2, (by repeat (first | exact Kept.refl _ _ _ | refine Kept.drew ?_ | refine Kept.alloc ?_ (by first | omega | (simp; done) | (simp; omega)) _ | refine Kept.setCell ?_ (by first | (right; rfl) | (left; first | omega | (simp; done) | (simp; omega))) _ | refine Kept.then_kept ?_ (by assumption) (by first | omega | (simp; done) | (simp; omega)) | refine Kept.then_below ?_ (by assumption) (by first | omega | (simp; done) | (simp; omega)) | refine Kept.low ?_ (by assumption)))⟩
    · rw [rdAb'_pos h0]
      have k : (rdN st most == 0) = false := by simpa using h0
      clear h0 he
      go_enter Tryz.func88, Tryz.ntmps88
      go_wp2_with (fail)
      refine (c_ref01_RNum h st most _ r).mono ?_
      rintro e w1 ⟨rfl, hr1, hk1⟩
      have hz1 := hk1.size
      have hc := hr1.1.cell (i := 1) rfl
      go_wp2_with (fail)
      go_ret
      exact ⟨rfl, hr1, (by repeat (first | exact Kept.refl _ _ _ | refine Kept.drew ?_ | refine Kept.alloc ?_ (by first | omega | (simp; done) | (simp; omega)) _ | refine Kept.setCell ?_ (by first | (right; rfl) | (left; first | omega | (simp; done) | (simp; omega))) _ | refine Kept.then_kept ?_ (by assumption) (by first | omega | (simp; done) | (simp; omega)) | refine Kept.then_below ?_ (by assumption) (by first | omega | (simp; done) | (simp; omega)) | refine Kept.low ?_ (by assumption)))⟩
  · have ke : ((rdN' st most).e == 0) = false := by simpa using he
    rw [rdAb'_zero (rdN_err' he), rdF_err he]
    clear he
    go_enter Tryz.func88, Tryz.ntmps88
    go_wp2_with (fail)
    refine (c_ref01_RNum h st most _ r).mono ?_
    rintro e w1 ⟨rfl, hr1, hk1⟩
    have hz1 := hk1.size
    have hc := hr1.1.cell (i := 1) rfl
    go_wp2_with (fail)
    go_ret
    exact ⟨rfl, hr1, (by repeat (first | exact Kept.refl _ _ _ | refine Kept.drew ?_ | refine Kept.alloc ?_ (by first | omega | (simp; done) | (simp; omega)) _ | refine Kept.setCell ?_ (by first | (right; rfl) | (left; first | omega | (simp; done) | (simp; omega))) _ | refine Kept.then_kept ?_ (by assumption) (by first | omega | (simp; done) | (simp; omega)) | refine Kept.then_below ?_ (by assumption) (by first | omega | (simp; done) | (simp; omega)) | refine Kept.low ?_ (by assumption)))⟩

/-! One field, by the closure. -/
theorem farr_put {f : List Val} {k : Nat} (h : k < f.length) (x : Val) : putAt (farr f) (k * 3) [.int .i64 x.kind, .int .i64 x.n, .string (str x.s)] = farr (f.set k x) := by
  have hs := farr_size f
  have hs' := farr_size (f.set k x)
  rw [List.length_set] at hs'
  apply Array.ext_getElem?
  intro i
  by_cases hi : i < f.length * 3
  · obtain ⟨q, r, hr, rfl⟩ : ∃ q r, r < 3 ∧ i = q * 3 + r := ⟨i / 3, i % 3, by omega, by omega⟩
    have hq : q < f.length := by omega
    obtain ⟨a0, a1, a2⟩ := farr_get (f := f.set k x) (k := q) (by rw [List.length_set]; exact hq)
    obtain ⟨b0, b1, b2⟩ := farr_get (f := f) (k := q) hq
    by_cases hk : q = k
    · subst hk
      have hp : (putAt (farr f) (q * 3) [.int .i64 x.kind, .int .i64 x.n, .string (str x.s)])[q * 3 + r]? = ([.int .i64 x.kind, .int .i64 x.n, .string (str x.s)] : List Value)[r]? := putAt_in _ _ _ r (by rw [hs]; simp; omega) (by simpa using hr)
      rw [hp]
      simp only [List.getElem_set_self] at a0 a1 a2
      obtain rfl | rfl | rfl : r = 0 ∨ r = 1 ∨ r = 2 := by omega
      · rw [Nat.add_zero, a0]; rfl
      · rw [a1]; rfl
      · rw [a2]; rfl
    · rw [putAt_far _ _ _ _ (by simp; omega)]
      rw [List.getElem_set_ne (fun e => hk e.symm)] at a0 a1 a2
      obtain rfl | rfl | rfl : r = 0 ∨ r = 1 ∨ r = 2 := by omega
      · rw [Nat.add_zero, a0, b0]
      · rw [a1, b1]
      · rw [a2, b2]
  · rw [Array.getElem?_eq_none (by rw [putAt_size, hs]; omega), Array.getElem?_eq_none (by rw [hs']; omega)]
/-- One field was read: the reader, the fields; the worlds on the way. -/
def RetOne (b : Bool) (p : Option Nat) (st : Rd) (f : List Val) (k bo : Nat) (w : World) (e : Ending) (w' : World) : Prop :=
  e = .returned (.tuple #[]) ∧ RdP w' p (fldS b st) ∧ Blk w' bo (farr (f.set k (rdVal st))) ∧ ∃ w1 w2, Kept p w.heap.size w w1 ∧ Kept (some bo) w1.heap.size w1 w2 ∧ Kept p w2.heap.size w2 w'
theorem farr_row {f : List Val} {w : World} {g : Nat} (h : Blk w g (farr f)) {k : Nat} (hk : k < f.length) : w.cell? ⟨g, k * 3, none⟩ = some (.int .i64 f[k].kind) := h.cell (farr_get hk).1
set_option maxHeartbeats 2000000 in
set_option maxRecDepth 4000 in
theorem c_fields_one (b : Bool) (p : Option Nat) (st : Rd) (f : List Val) (k bp bn bo : Nat) (w : World) (hf : f.length = 8) (hk : k < 8) (hr : RdP w p st) (hp : Blk w bp #[ptr p]) (hn : Blk w bn #[.bool b]) (ho : Blk w bo (farr f))
    (h1 : ∀ g, p = some g → g < bp) (h2 : bp < bn) (h3 : bn < bo) :
    Calls Tryz.prog 82 #[.int .i64 k, .pointer (some ⟨bp, 0, none⟩), .pointer (some ⟨bo, 0, none⟩), .pointer (some ⟨bn, 0, none⟩)] w (RetOne b p st f k bo w) := by
  have d1 : p ≠ some bp := fun e => by have := h1 _ e; omega
  have d2 : p ≠ some bn := fun e => by have := h1 _ e; omega
  have d3 : p ≠ some bo := fun e => by have := h1 _ e; omega
  have c0 := hp.cell (i := 0) rfl
  have HF := Lib.hid hf
  have hfs : (f.set k (rdVal st)).length = 8 := by rw [List.length_set]; exact hf
  have HS := Lib.hid hfs
  have hkf : k < f.length := by omega
  have HX := Lib.hid (show (f.set k (rdVal st))[k]'(by rw [List.length_set]; exact hkf) = rdVal st from List.getElem_set_self ..)
  clear hfs hf
  cases b
  case true =>
    have Fz := Lib.hid (fldS_true st)
    go_enter Tryz.func82, Tryz.ntmps82
    go_wp2_with (fail)
    refine (c_cardwire_Value p st _ hr).mono ?_
    rintro e w1 ⟨rfl, hr1, hk1⟩
    have hp1 := hp.kept hk1 hp.lt d1
    have hn1 := hn.kept hk1 hn.lt d2
    have O1 := Lib.hid (ho.kept hk1 ho.lt d3)
    unfold Val.val
    go_wp2_with (with_reducible refine stS 36 (.tmp 8) (.tmp 7) rfl rfl ?_)
    refine Stop.mk (wpList_storeAt rfl _ _ _ rfl bo (k * 3) _ rfl rfl _ O1.out strV rfl (by rw [farr_size, HF.out]; simp; omega) (by simp [Value.oneCell']) ?_)
    intro w2 hb2 hk2
    rw [farr_put (by have := HF.out; omega)] at hb2
    have O2 := Lib.hid hb2
    have hz2 := hk2.size
    have cn := (hn1.kept hk2 hn1.lt (by simp; omega)).cell (i := 0) rfl
    have hr2 : RdP w2 p (rdVal' st) := hr1.kept hk2 (fun g h hg hh => by injection hh with hh; have := h1 g hg; omega)
    clear hb2
    go_wp2_with (fail)
    go_end0
    exact ⟨rfl, by rw [Fz.out]; exact hr2, O2.out, w1, w2, hk1, hk2, Kept.refl _ _ _⟩
  case false =>
    by_cases hv : (rdVal st).kind = 0
    · have Fz := Lib.hid (fldS_zero hv)
      have kv : ((rdVal st).kind == 0) = true := by simpa using hv
      clear hv
      go_enter Tryz.func82, Tryz.ntmps82
      go_wp2_with (fail)
      refine (c_cardwire_Value p st _ hr).mono ?_
      rintro e w1 ⟨rfl, hr1, hk1⟩
      have hp1 := hp.kept hk1 hp.lt d1
      have hn1 := hn.kept hk1 hn.lt d2
      have O1 := Lib.hid (ho.kept hk1 ho.lt d3)
      unfold Val.val
      go_wp2_with (with_reducible refine stS 36 (.tmp 8) (.tmp 7) rfl rfl ?_)
      refine Stop.mk (wpList_storeAt rfl _ _ _ rfl bo (k * 3) _ rfl rfl _ O1.out strV rfl (by rw [farr_size, HF.out]; simp; omega) (by simp [Value.oneCell']) ?_)
      intro w2 hb2 hk2
      rw [farr_put (by have := HF.out; omega)] at hb2
      have O2 := Lib.hid hb2
      have hz2 := hk2.size
      have cn := (hn1.kept hk2 hn1.lt (by simp; omega)).cell (i := 0) rfl
      have cp := (hp1.kept hk2 hp1.lt (by simp; omega)).cell (i := 0) rfl
      have cv := farr_row hb2 (k := k) (by rw [HS.out]; exact hk)
      rw [HX.out] at cv
      have hr2 : RdP w2 p (rdVal' st) := hr1.kept hk2 (fun g h hg hh => by injection hh with hh; have := h1 g hg; omega)
      clear hb2
      go_wp2_with (fail)
      refine (c_octet_Fail p (rdVal' st) 3 _ hr2).mono ?_
      rintro e w3 ⟨rfl, hr3, hk3⟩
      have O3 := Lib.hid (O2.out.kept hk3 O2.out.lt d3)
      go_wp2_with (fail)
      go_end0
      exact ⟨rfl, by rw [Fz.out]; exact hr3, O3.out, w1, w2, hk1, hk2, hk3⟩
    · have Fz := Lib.hid (fldS_pos (b := false) hv)
      have kv : ((rdVal st).kind == 0) = false := by simpa using hv
      clear hv
      go_enter Tryz.func82, Tryz.ntmps82
      go_wp2_with (fail)
      refine (c_cardwire_Value p st _ hr).mono ?_
      rintro e w1 ⟨rfl, hr1, hk1⟩
      have hp1 := hp.kept hk1 hp.lt d1
      have hn1 := hn.kept hk1 hn.lt d2
      have O1 := Lib.hid (ho.kept hk1 ho.lt d3)
      unfold Val.val
      go_wp2_with (with_reducible refine stS 36 (.tmp 8) (.tmp 7) rfl rfl ?_)
      refine Stop.mk (wpList_storeAt rfl _ _ _ rfl bo (k * 3) _ rfl rfl _ O1.out strV rfl (by rw [farr_size, HF.out]; simp; omega) (by simp [Value.oneCell']) ?_)
      intro w2 hb2 hk2
      rw [farr_put (by have := HF.out; omega)] at hb2
      have O2 := Lib.hid hb2
      have hz2 := hk2.size
      have cn := (hn1.kept hk2 hn1.lt (by simp; omega)).cell (i := 0) rfl
      have cp := (hp1.kept hk2 hp1.lt (by simp; omega)).cell (i := 0) rfl
      have cv := farr_row hb2 (k := k) (by rw [HS.out]; exact hk)
      rw [HX.out] at cv
      have hr2 : RdP w2 p (rdVal' st) := hr1.kept hk2 (fun g h hg hh => by injection hh with hh; have := h1 g hg; omega)
      clear hb2
      go_wp2_with (fail)
      go_end0
      exact ⟨rfl, by rw [Fz.out]; exact hr2, O2.out, w1, w2, hk1, hk2, Kept.refl _ _ _⟩
end Go.Proofs.YtiedkcijjfmhaaaGreatDoor
namespace Go.Proofs.YtiedkcijjfmhaaaGreatDoor
open Go.RowKit

theorem Blk.alloc {w : World} {g : Nat} {cs : Array Value} (h : Blk w g cs) (o : Obj) : Blk (w.alloc o) g cs := h.below ((Below.refl _ _).alloc (Nat.le_refl _) o) h.lt
theorem farr_one (f : List Val) : ∀ v ∈ (farr f).toList, v.oneCell' = true := by
  intro v hv
  unfold farr at hv
  simp only [List.mem_flatMap] at hv
  obtain ⟨x, -, hx⟩ := hv
  simp only [Val.cells, List.mem_cons, List.not_mem_nil, or_false] at hx
  rcases hx with rfl | rfl | rfl <;> rfl
theorem farr_zero : farr f8z = #[.int .i64 0, .int .i64 0, .string (str []), .int .i64 0, .int .i64 0, .string (str []), .int .i64 0, .int .i64 0, .string (str []), .int .i64 0, .int .i64 0, .string (str []), .int .i64 0, .int .i64 0, .string (str []), .int .i64 0, .int .i64 0, .string (str []), .int .i64 0, .int .i64 0, .string (str []), .int .i64 0, .int .i64 0, .string (str [])] := by unfold farr; rfl
theorem farr_ones (f : List Val) : ((farr f).all fun x => x.oneCell') = true := by
  rw [Array.all_eq_true]
  exact fun i hi => farr_one f _ (Array.getElem_mem_toList hi)
/-- What stands when k of the mask's fields have been read. -/
structure FldAt (w : World) (p : Option Nat) (b : Bool) (S : Rd) (F : List Val) (m : Nat) (A7 : Option Addr) (c7 : Nat) (k : Nat) (st : Rd) (f : List Val) (wr : World) : Prop where
  len : f.length = 8
  eS : rdFs' b ((bitsTo m 8).drop k) st = S
  eF : rdFv b ((bitsTo m 8).drop k) st f = F
  rd : RdP wr p st
  P : Blk wr w.heap.size #[ptr p]
  N : Blk wr (w.heap.size + 1) #[.bool b]
  R : ∃ z, z.size = 24 ∧ Blk wr (w.heap.size + 2) z
  O : Blk wr (w.heap.size + 3) (farr f)
  own : wr.ownsRow (w.heap.size + 4) 3 1 (.slice A7 (idx8 m).length c7) (idx8 m).length ((idx8 m).flatMap ic)
  kept : Kept p w.heap.size w wr
theorem FldAt.next {w : World} {p : Option Nat} {b : Bool} {S : Rd} {F : List Val} {m : Nat} {A7 : Option Addr} {c7 k : Nat} {st : Rd} {f : List Val} {wr w' : World} {e : Ending} (hp : ∀ g, p = some g → g < w.heap.size) (h : FldAt w p b S F m A7 c7 k st f wr)
    {n : Nat} (hk : k < (bitsTo m 8).length) (hn : n = (bitsTo m 8)[k]) (h1 : RetOne b p st f n (w.heap.size + 3) wr e w') : FldAt w p b S F m A7 c7 (k + 1) (fldS b st) (f.set n (rdVal st)) w' := by
  obtain ⟨-, hr, ho, w1, w2, k1, k2, k3⟩ := h1
  have hS := h.eS
  have hF := h.eF
  rw [List.drop_eq_getElem_cons hk, ← hn] at hS hF
  have ne : ∀ g, w.heap.size ≤ g → p ≠ some g := fun g hg e => by have := hp g e; omega
  obtain ⟨z, hz, hR⟩ := h.R
  have z1 := k1.size
  have z2 := k2.size
  have z3 := k3.size
  have zw := h.kept.size
  have tr : ∀ {g : Nat} {cs : Array Value}, Blk wr g cs → w.heap.size ≤ g → g ≠ w.heap.size + 3 → Blk w' g cs := fun hb hg hne => by
    have b1 := hb.kept k1 hb.lt (ne _ hg)
    have b2 := b1.kept k2 b1.lt (fun e => hne (by injection e with e; exact e.symm))
    exact b2.kept k3 b2.lt (ne _ hg)
  refine ⟨by rw [List.length_set]; exact h.len, hS, hF, hr, tr h.P (Nat.le_refl _) (by omega), tr h.N (by omega) (by omega), ⟨z, hz, tr hR (by omega) (by omega)⟩, ho, ?_, ?_⟩
  · have o1 := own_kept h.own k1 (fun g hg => by have := hp g hg; omega)
    have o2 := own_kept o1 k2 (fun g hg => by injection hg with hg; omega)
    exact own_kept o2 k3 (fun g hg => by have := hp g hg; omega)
  · exact ((h.kept.trans (k1.mono zw)).trans (k2.one (by omega) (.inl (by omega)))).trans (k3.mono (by omega))
set_option maxHeartbeats 4000000 in
set_option maxRecDepth 4000 in
theorem c_cardwire_fields (p : Option Nat) (st : Rd) (m : Nat) (b : Bool) (w : World) (hm : m < 4294967296) (hT : Tab w) (hr : RdP w p st) :
    Calls Tryz.prog 61 #[ptr p, .int .u32 m, .bool b] w (RetP p (rdFs' b (bitsTo m 8) st) w (.agg (farr (rdFv b (bitsTo m 8) st f8z)))) := by
  have hpl := fun g (hg : p = some g) => hr.lt hg
  obtain ⟨S, hS⟩ : ∃ S, S = rdFs' b (bitsTo m 8) st := ⟨_, rfl⟩
  obtain ⟨F, hF⟩ : ∃ F, F = rdFv b (bitsTo m 8) st f8z := ⟨_, rfl⟩
  rw [← hS, ← hF]
  have hS0 := Lib.hid hS
  have hF0 := Lib.hid hF
  have IB := Lib.hid (idx8_bits m)
  have hl8 := idx8_len m
  clear hS hF
  go_enter Tryz.func61, Tryz.ntmps61
  go_wp2_with (go_at_call 81; refine (c_mask_Fields m hm _ (hT.below (by repeat (first | exact Below.refl _ _ | refine Below.drew ?_ | refine Below.alloc ?_ (by first | omega | (simp; done) | (simp; omega)) _ | refine Below.setCell ?_ (by first | omega | (simp; done) | (simp; omega)) _ | refine Below.trans ?_ (Below.mono (by assumption) (by first | omega | (simp; done) | (simp; omega))))))).mono ?_; rintro e w7 ⟨v7, rfl, own7, hb7⟩; have hbw : Below w.heap.size w w7 := (by repeat (first | exact Below.refl _ _ | refine Below.drew ?_ | refine Below.alloc ?_ (by first | omega | (simp; done) | (simp; omega)) _ | refine Below.setCell ?_ (by first | omega | (simp; done) | (simp; omega)) _ | refine Below.trans ?_ (Below.mono (by assumption) (by first | omega | (simp; done) | (simp; omega))))); have P7 := Lib.hid (((((Blk.new w _ _).alloc _).alloc _).alloc _).below hb7 (by simp; omega)); have N7 := Lib.hid ((((Blk.new _ _ _).alloc _).alloc _).below hb7 (by simp)); have R7 := Lib.hid (((Blk.new _ _ _).alloc _).below hb7 (by simp)); have O7 := Lib.hid ((Blk.new _ _ _).below hb7 (by simp)); have OW := Lib.hid own7; clear own7; obtain ⟨A7, c7, rfl, -⟩ := own_form OW.out)
  simp only [World.size_alloc] at OW
  go_loopw [10, 15] (fun _ i wr => ∃ (k : Nat) (st' : Rd) (f' : List Val), k ≤ (idx8 m).length ∧ i = .int .i64 k ∧ FldAt w p b S F m A7 c7 k st' f' wr)
    (fun _ i _ => (idx8 m).length - (intOf i).toNat)
  case atStart => exact ⟨0, st, f8z, by omega, rfl, rfl, by rw [List.drop_zero]; exact hS0.out.symm, by rw [List.drop_zero]; exact hF0.out.symm, hr.up hbw hpl, P7.out, by simpa using N7.out, ⟨_, rfl, by simpa using R7.out⟩, by rw [farr_zero]; simpa using O7.out, OW.out, .of_below hbw⟩
  case round =>
    clear P7 N7 R7 O7 OW hbw hb7
    obtain ⟨k, st', f', hk, rfl, I⟩ := hrel
    have IH := Lib.hid I
    have hwz := I.kept.size
    clear I
    by_cases hlt : k < (idx8 m).length
    · obtain ⟨A', c', he, in'⟩ := In.of_own ic_len IH.out.own (by omega)
      simp only [Value.slice.injEq, true_and] at he
      obtain ⟨rfl, rfl⟩ := he
      obtain ⟨bl, off, rfl, hbb, hrow⟩ := in'.at hlt
      have hc0 := hrow k hlt 0 _ rfl
      have hlt' : k < (bitsTo m 8).length := by rw [IB.out] at hlt; simpa using hlt
      obtain ⟨n, hn⟩ : ∃ n, n = (bitsTo m 8)[k] := ⟨_, rfl⟩
      have hn8 : n < 8 := by rw [hn]; exact bitsTo_bd (List.getElem_mem hlt')
      have hin : (idx8 m)[k] = (n : Int) := by simp [IB.out, hn]
      rw [hin] at hc0
      simp only [Nat.mul_one, Nat.add_zero] at hc0
      have HN := Lib.hid hn
      clear hn hin hrow in'
      go_wp2_with (fail)
      refine (c_fields_one b p st' f' n w.heap.size (w.heap.size + 1) (w.heap.size + 3) _ IH.out.len hn8 IH.out.rd IH.out.P IH.out.N IH.out.O hpl (by omega) (by omega)).mono ?_
      intro e w8 hone
      have I8 := Lib.hid (IH.out.next hpl hlt' HN.out hone)
      obtain ⟨rfl, -⟩ := hone
      go_wp2_with (fail)
      go_roundw
      case rel => exact ⟨k + 1, _, _, by omega, by go_num, I8.out⟩
      case measure => simp [intOf]; omega
    · have hge : (bitsTo m 8).length ≤ k := by rw [IB.out] at hlt; simpa using hlt
      obtain ⟨z, hz, hR⟩ := IH.out.R
      have Rz := Lib.hid hR
      have Zz := Lib.hid hz
      clear hR hz
      go_wp2_with (with_reducible refine stop_load 37 (.tmp 7) rfl rfl ?_)
      refine Stop.mk (wpList_loadB rfl _ _ rfl (w.heap.size + 3) rfl (farr f') IH.out.O strF (by rw [farr_size, IH.out.len]) ?_)
      go_wp2_with (with_reducible refine stS 37 (.tmp 6) (.tmp 23) rfl rfl ?_)
      refine Stop.mk (wsB rfl _ _ _ rfl (w.heap.size + 2) _ rfl rfl _ Rz.out strF (by rw [farr_size, IH.out.len]) (by rw [farr_size, IH.out.len, Zz.out]) (farr_ones f') ?_)
      intro w9 hb9 hk9
      have B9 := Lib.hid hb9
      clear hb9
      go_wp2_with (fail)
      have hS := IH.out.eS
      have hF := IH.out.eF
      rw [List.drop_of_length_le hge] at hS hF
      refine bodyPost_ret (results_B rfl rfl B9.out strF (by rw [farr_size, IH.out.len])) rfl ⟨?_, ?_, ?_⟩
      · rw [← hF]; rfl
      · rw [← hS]; exact IH.out.rd.own (b := w.heap.size + 2) hk9 (fun g hg => by have := hpl g hg; omega)
      · exact IH.out.kept.trans (hk9.one hwz (.inl (by omega)))
end Go.Proofs.YtiedkcijjfmhaaaGreatDoor
namespace Go.Proofs.YtiedkcijjfmhaaaGreatDoor
open Go.RowKit

theorem putAt_app (hd tl : List Value) (j : Nat) (vs : List Value) (h : j + vs.length ≤ tl.length) : putAt (hd ++ tl).toArray (hd.length + j) vs = (hd ++ (putAt tl.toArray j vs).toList).toArray := by
  apply Array.ext_getElem?
  intro i
  have e : (hd ++ (putAt tl.toArray j vs).toList).toArray[i]? = (hd ++ (putAt tl.toArray j vs).toList)[i]? := by simp only [List.getElem?_toArray]
  rw [e]
  clear e
  by_cases hi : i < hd.length
  · rw [putAt_far _ _ _ _ (.inl (by omega)), List.getElem?_append_left hi, List.getElem?_toArray, List.getElem?_append_left hi]
  · obtain ⟨q, rfl⟩ : ∃ q, i = hd.length + q := ⟨i - hd.length, by omega⟩
    rw [List.getElem?_append_right (by omega), Nat.add_sub_cancel_left, Array.getElem?_toList]
    by_cases h1 : q < j ∨ j + vs.length ≤ q
    · rw [putAt_far _ _ _ _ (by omega), putAt_far _ _ _ _ h1, List.getElem?_toArray, List.getElem?_append_right (by omega), Nat.add_sub_cancel_left, List.getElem?_toArray]
    · obtain ⟨r, rfl⟩ : ∃ r, q = j + r := ⟨q - j, by omega⟩
      rw [← Nat.add_assoc, putAt_in _ _ _ _ (by simp; omega) (by omega), putAt_in _ _ _ _ (by simp; omega) (by omega)]
theorem farr_list (f : List Val) : (farr f).toList = f.flatMap Val.cells := by unfold farr; rfl
theorem farr_all {f g : List Val} (h : f.length = g.length) : putAt (farr f) 0 (farr g).toList = farr g := by
  have h1 := farr_size f
  have h2 := farr_size g
  apply Array.ext_getElem?
  intro i
  by_cases hi : i < g.length * 3
  · have := putAt_in (farr g).toList (farr f) 0 i (by rw [Array.length_toList]; omega) (by rw [Array.length_toList]; omega)
    rw [Nat.zero_add] at this
    rw [this, Array.getElem?_toList]
  · rw [Array.getElem?_eq_none (by rw [putAt_size]; omega), Array.getElem?_eq_none (by omega)]
theorem flat_size (f : List Val) : (f.flatMap Val.cells).length = f.length * 3 := flat_length val_len f
section
variable {a b : Int} {l m : Nat} {f g : List Val}
theorem Card.put0 (v : Int) : (Card.arr ⟨a, b, l, f⟩).setIfInBounds 0 (.int .i64 v) = Card.arr ⟨v, b, l, f⟩ := by unfold Card.arr; simp
theorem Card.put1 (v : Int) : (Card.arr ⟨a, b, l, f⟩).setIfInBounds 1 (.int .i64 v) = Card.arr ⟨a, v, l, f⟩ := by unfold Card.arr; simp
theorem Card.put2 (v : Nat) : (Card.arr ⟨a, b, l, f⟩).setIfInBounds 2 (.int .u32 v) = Card.arr ⟨a, b, v, f⟩ := by unfold Card.arr; simp
theorem Card.putF (h : f.length = g.length) : putAt (Card.arr ⟨a, b, l, f⟩) 3 (farr g).toList = Card.arr ⟨a, b, l, g⟩ := by
  have e := putAt_app [.int .i64 a, .int .i64 b, .int .u32 l] (f.flatMap Val.cells) 0 (farr g).toList (by rw [farr_list, flat_size, flat_size]; omega)
  have e2 := farr_all h
  unfold farr at e2
  unfold Card.arr
  refine e.trans ?_
  unfold farr
  rw [e2]
theorem Card.putV {k : Nat} (h : k < f.length) (x : Val) : putAt (Card.arr ⟨a, b, l, f⟩) (3 + k * 3) [.int .i64 x.kind, .int .i64 x.n, .string (str x.s)] = Card.arr ⟨a, b, l, f.set k x⟩ := by
  have e := putAt_app [.int .i64 a, .int .i64 b, .int .u32 l] (f.flatMap Val.cells) (k * 3) [.int .i64 x.kind, .int .i64 x.n, .string (str x.s)] (by rw [flat_size]; simp; omega)
  have e2 := farr_put h x
  unfold farr at e2
  unfold Card.arr
  refine e.trans ?_
  rw [e2]
theorem Patch.put0 (v : Nat) : (Patch.arr ⟨m, l, f⟩).setIfInBounds 0 (.int .u32 v) = Patch.arr ⟨v, l, f⟩ := by unfold Patch.arr; simp
theorem Patch.put1 (v : Nat) : (Patch.arr ⟨m, l, f⟩).setIfInBounds 1 (.int .u32 v) = Patch.arr ⟨m, v, f⟩ := by unfold Patch.arr; simp
theorem Patch.putF (h : f.length = g.length) : putAt (Patch.arr ⟨m, l, f⟩) 2 (farr g).toList = Patch.arr ⟨m, l, g⟩ := by
  have e := putAt_app [.int .u32 m, .int .u32 l] (f.flatMap Val.cells) 0 (farr g).toList (by rw [farr_list, flat_size, flat_size]; omega)
  have e2 := farr_all h
  unfold farr at e2
  unfold Patch.arr
  refine e.trans ?_
  unfold farr
  rw [e2]
theorem Patch.putV {k : Nat} (h : k < f.length) (x : Val) : putAt (Patch.arr ⟨m, l, f⟩) (2 + k * 3) [.int .i64 x.kind, .int .i64 x.n, .string (str x.s)] = Patch.arr ⟨m, l, f.set k x⟩ := by
  have e := putAt_app [.int .u32 m, .int .u32 l] (f.flatMap Val.cells) (k * 3) [.int .i64 x.kind, .int .i64 x.n, .string (str x.s)] (by rw [flat_size]; simp; omega)
  have e2 := farr_put h x
  unfold farr at e2
  unfold Patch.arr
  refine e.trans ?_
  rw [e2]
end
theorem Card.arr_one (c : Card) : ∀ v ∈ c.arr.toList, v.oneCell' = true := by
  intro v hv
  unfold Card.arr at hv
  rw [List.mem_append] at hv
  rcases hv with hv | hv
  · simp only [List.mem_cons, List.not_mem_nil, or_false] at hv
    rcases hv with rfl | rfl | rfl <;> rfl
  · exact farr_one c.f v (by rw [farr_list]; exact hv)
theorem Patch.arr_one (c : Patch) : ∀ v ∈ c.arr.toList, v.oneCell' = true := by
  intro v hv
  unfold Patch.arr at hv
  rw [List.mem_append] at hv
  rcases hv with hv | hv
  · simp only [List.mem_cons, List.not_mem_nil, or_false] at hv
    rcases hv with rfl | rfl <;> rfl
  · exact farr_one c.f v (by rw [farr_list]; exact hv)
theorem Card.arr_ones (c : Card) : (c.arr.all fun x => x.oneCell') = true := by
  rw [Array.all_eq_true]
  exact fun i hi => Card.arr_one c _ (Array.getElem_mem_toList hi)
theorem Patch.arr_ones (c : Patch) : (c.arr.all fun x => x.oneCell') = true := by
  rw [Array.all_eq_true]
  exact fun i hi => Patch.arr_one c _ (Array.getElem_mem_toList hi)
/-- The table's block is no reader's. -/
theorem RdP.tab {w : World} {p : Option Nat} {st : Rd} (h : RdP w p st) (hT : Tab w) : p ≠ some 0 := by
  rintro rfl
  obtain ⟨A, c, B, pos, ha, -⟩ := h.at
  have h0 := ha.1.cell (i := 0) rfl
  have h1 := hT 0 (by decide)
  rw [h1] at h0
  simp at h0
end Go.Proofs.YtiedkcijjfmhaaaGreatDoor
namespace Go.Proofs.YtiedkcijjfmhaaaGreatDoor
open Go.RowKit

set_option maxHeartbeats 8000000 in
set_option maxRecDepth 4000 in
theorem c_cardwire_Patch (p : Option Nat) (st : Rd) (w : World) (hT : Tab w) (hr : RdP w p st) : Calls Tryz.prog 27 #[ptr p] w (RetP p (rdPatch' st) w (.agg (rdPatch st).arr)) := by
  have hpl := fun g (hg : p = some g) => hr.lt hg
  have ht := hr.tab hT
  have hdef := rdPatch'_def st
  have hM := (ptM_bd st).1
  have hM1 := (ptM_bd st).2
  have hb511 := rdN_bd st 511
  have hfl := ptF_len st
  have HFL := Lib.hid hfl
  obtain ⟨S, hS⟩ : ∃ S, S = rdPatch' st := ⟨_, rfl⟩
  obtain ⟨M, hMm⟩ : ∃ M, M = ptM st := ⟨_, rfl⟩
  obtain ⟨L, hL⟩ : ∃ L, L = ptL st := ⟨_, rfl⟩
  rw [← hMm] at hM hM1
  have hM2 : M < 4294967296 := by omega
  have HM := Lib.hid hM
  have HMM := Lib.hid hMm
  have HL := Lib.hid hL
  have HS := Lib.hid hS
  rw [← hS, ← hMm] at hdef
  have HD0 := Lib.hid hdef
  have HF := Lib.hid (show ptF st = rdFv true (bitsTo M 8) (ptB st) f8z by rw [hMm]; rfl)
  clear hL hMm hM hfl hS hdef
  cases he : (S.e != 0)
  all_goals
    cases h8 : M.testBit 8
  · rw [← HS.out]
    go_enter Tryz.func27, Tryz.ntmps27
    go_wp2_with (fail)
    refine (c_cardwire_above p st 511 _ (hr.below ((Below.refl _ _).alloc (Nat.le_refl _) _))).mono ?_
    rintro e w1 ⟨rfl, hr1, hk1⟩
    rw [← HM.out]
    have hz1 := hk1.size
    simp only [World.size_alloc] at hz1
    have kw1 : Kept p w.heap.size w w1 := (by repeat (first | exact Kept.refl _ _ _ | refine Kept.drew ?_ | refine Kept.alloc ?_ (by first | omega | (simp; done) | (simp; omega)) _ | refine Kept.setCell ?_ (by first | (right; rfl) | (left; first | omega | (simp; done) | (simp; omega))) _ | refine Kept.then_kept ?_ (by assumption) (by first | omega | (simp; done) | (simp; omega)) | refine Kept.then_below ?_ (by assumption) (by first | omega | (simp; done) | (simp; omega)) | refine Kept.low ?_ (by assumption)))
    have R1 := Lib.hid ((Blk.new w _ _).kept hk1 (by simp) (ne_of_lt hpl (Nat.le_refl _)))
    go_wp2_with (with_reducible refine stS 39 (.tmp 3) (.tmp 7) rfl rfl ?_)
    refine Stop.mk (wsB rfl _ _ _ rfl w1.heap.size _ rfl rfl _ (Blk.new _ _ _) strP rfl rfl (by simp [Value.oneCell']) ?_)
    intro w2 hb2 hk2
    have B2 := Lib.hid (show Blk w2 w1.heap.size (Patch.arr ⟨M, 0, f8z⟩) by unfold Patch.arr; exact hb2)
    clear hb2
    have R2 := Lib.hid ((R1.out.alloc _).kept hk2 (by simp; omega) (by simp; omega))
    have hz2 := hk2.size
    simp only [World.size_alloc] at hz2
    have kw2 : Kept p w.heap.size w w2 := (kw1.alloc (by omega) _).trans (hk2.one (by simp; omega) (.inl (by omega)))
    have hr2 : RdP w2 p (ptA st) := (hr1.below ((Below.refl _ _).alloc (Nat.le_refl _) _)).own (b := w1.heap.size) hk2 (fun g hg => by have := hpl g hg; omega)
    have q20 := B2.out.cell (Patch.arr_head _).1
    go_wp2_with (fail)
    refine (c_mask_Labels M hM2 _).mono ?_
    rintro e w3 ⟨rfl, hb3⟩
    have hz3 := hb3.size
    have B3 := Lib.hid (B2.out.below hb3 B2.out.lt)
    have R3 := Lib.hid (R2.out.below hb3 R2.out.lt)
    have hr3 : RdP w3 p (ptA st) := hr2.below hb3
    have kw3 : Kept p w.heap.size w w3 := kw2.then_below hb3 (by omega)
    have q30 := B3.out.cell (Patch.arr_head _).1
    clear q20
    obtain ⟨t1, t2⟩ := ptB_no (st := st) (by rw [← HMM.out]; exact h8)
    have T2 := Lib.hid (HL.out.trans t2)
    have HD := Lib.hid (show S = rdFs' true (bitsTo M 8) (ptA st) by rw [← t1]; exact HD0.out)
    have HF1 := Lib.hid (show ptF st = rdFv true (bitsTo M 8) (ptA st) f8z by rw [← t1]; exact HF.out)
    have C6 := Lib.hid (show Blk w3 w1.heap.size (Patch.arr ⟨M, L, f8z⟩) by rw [T2.out]; exact B3.out)
    clear t1 t2
    go_wp2_with (fail)
    refine (c_cardwire_fields p (ptA st) M true _ hM2 (hT.kept kw3 ht) hr3).mono ?_
    rintro e w8 ⟨rfl, hr8, hk8⟩
    have hz8 := hk8.size
    have kw8 : Kept p w.heap.size w w8 := kw3.trans (hk8.mono (by omega))
    have R8 := Lib.hid (R3.out.kept hk8 (by omega) (ne_of_lt hpl (by omega)))
    have B8 := Lib.hid (C6.out.kept hk8 (by omega) (ne_of_lt hpl (by omega)))
    rw [← HD.out] at hr8
    rw [← HF1.out]
    go_wp2_with (with_reducible refine stS 37 (.tmp 18) (.tmp 17) rfl rfl ?_)
    refine Stop.mk (wpList_storeAt rfl _ _ _ rfl w1.heap.size 2 (farr (ptF st)) rfl rfl _ B8.out strF (by rw [farr_size, HFL.out]) (by rw [Patch.arr_size, farr_size, HFL.out]; simp) (farr_one _) ?_)
    intro w9 hb9 hk9
    rw [Patch.putF (by rw [HFL.out]; rfl)] at hb9
    have B9 := Lib.hid hb9
    clear hb9
    have hz9 := hk9.size
    have kw9 : Kept p w.heap.size w w9 := kw8.trans (hk9.one (by omega) (.inl (by omega)))
    have R9 := Lib.hid (R8.out.kept hk9 (by omega) (by simp; omega))
    have hr9 : RdP w9 p S := hr8.own (b := w1.heap.size) hk9 (fun g hg => by have := hpl g hg; omega)
    go_wp2_with (fail)
    refine (c_octet_Err p S _ hr9).mono ?_
    rintro e w10 ⟨rfl, hr10, hk10⟩
    have hz10 := hk10.size
    have kw10 : Kept p w.heap.size w w10 := kw9.trans (hk10.mono (by omega))
    have B10 := Lib.hid (B9.out.kept hk10 (by omega) (ne_of_lt hpl (by omega)))
    have R10 := Lib.hid (R9.out.kept hk10 (by omega) (ne_of_lt hpl (by omega)))
    go_wp2_with (with_reducible refine stop_load 39 (.tmp 3) rfl rfl ?_)
    refine Stop.mk (wpList_loadB rfl _ _ rfl w1.heap.size rfl _ B10.out strP (by rw [Patch.arr_size, HFL.out]) ?_)
    go_wp2_with (with_reducible refine stS 39 (.tmp 2) (.tmp 23) rfl rfl ?_)
    refine Stop.mk (wsB rfl _ _ _ rfl w.heap.size _ rfl rfl _ R10.out strP (by rw [Patch.arr_size, HFL.out]) (by rw [Patch.arr_size, HFL.out]; rfl) (Patch.arr_ones _) ?_)
    intro w11 hb11 hk11
    have hE : S.e = 0 := by simpa using he
    have hv : rdPatch st = ptPatch st := rdPatch_ok (by rw [← HS.out]; exact hE)
    have B11 := Lib.hid hb11
    clear hb11
    go_wp2_with (fail)
    exact bodyPost_ret (results_B rfl rfl B11.out strP (by rw [Patch.arr_size, HFL.out])) rfl ⟨by rw [hv, HL.out, HMM.out]; rfl, hr10.own (b := w.heap.size) hk11 hpl, kw10.trans (hk11.one (by omega) (.inl (Nat.le_refl _)))⟩
  · rw [← HS.out]
    go_enter Tryz.func27, Tryz.ntmps27
    go_wp2_with (fail)
    refine (c_cardwire_above p st 511 _ (hr.below ((Below.refl _ _).alloc (Nat.le_refl _) _))).mono ?_
    rintro e w1 ⟨rfl, hr1, hk1⟩
    rw [← HM.out]
    have hz1 := hk1.size
    simp only [World.size_alloc] at hz1
    have kw1 : Kept p w.heap.size w w1 := (by repeat (first | exact Kept.refl _ _ _ | refine Kept.drew ?_ | refine Kept.alloc ?_ (by first | omega | (simp; done) | (simp; omega)) _ | refine Kept.setCell ?_ (by first | (right; rfl) | (left; first | omega | (simp; done) | (simp; omega))) _ | refine Kept.then_kept ?_ (by assumption) (by first | omega | (simp; done) | (simp; omega)) | refine Kept.then_below ?_ (by assumption) (by first | omega | (simp; done) | (simp; omega)) | refine Kept.low ?_ (by assumption)))
    have R1 := Lib.hid ((Blk.new w _ _).kept hk1 (by simp) (ne_of_lt hpl (Nat.le_refl _)))
    go_wp2_with (with_reducible refine stS 39 (.tmp 3) (.tmp 7) rfl rfl ?_)
    refine Stop.mk (wsB rfl _ _ _ rfl w1.heap.size _ rfl rfl _ (Blk.new _ _ _) strP rfl rfl (by simp [Value.oneCell']) ?_)
    intro w2 hb2 hk2
    have B2 := Lib.hid (show Blk w2 w1.heap.size (Patch.arr ⟨M, 0, f8z⟩) by unfold Patch.arr; exact hb2)
    clear hb2
    have R2 := Lib.hid ((R1.out.alloc _).kept hk2 (by simp; omega) (by simp; omega))
    have hz2 := hk2.size
    simp only [World.size_alloc] at hz2
    have kw2 : Kept p w.heap.size w w2 := (kw1.alloc (by omega) _).trans (hk2.one (by simp; omega) (.inl (by omega)))
    have hr2 : RdP w2 p (ptA st) := (hr1.below ((Below.refl _ _).alloc (Nat.le_refl _) _)).own (b := w1.heap.size) hk2 (fun g hg => by have := hpl g hg; omega)
    have q20 := B2.out.cell (Patch.arr_head _).1
    go_wp2_with (fail)
    refine (c_mask_Labels M hM2 _).mono ?_
    rintro e w3 ⟨rfl, hb3⟩
    have hz3 := hb3.size
    have B3 := Lib.hid (B2.out.below hb3 B2.out.lt)
    have R3 := Lib.hid (R2.out.below hb3 R2.out.lt)
    have hr3 : RdP w3 p (ptA st) := hr2.below hb3
    have kw3 : Kept p w.heap.size w w3 := kw2.then_below hb3 (by omega)
    have q30 := B3.out.cell (Patch.arr_head _).1
    clear q20
    obtain ⟨t1, t2⟩ := ptB_yes (st := st) (by rw [← HMM.out]; exact h8)
    have T2 := Lib.hid (HL.out.trans t2)
    have HD := Lib.hid (show S = rdFs' true (bitsTo M 8) (rdN' (ptA st) 65535) by rw [← t1]; exact HD0.out)
    have HF1 := Lib.hid (show ptF st = rdFv true (bitsTo M 8) (rdN' (ptA st) 65535) f8z by rw [← t1]; exact HF.out)
    clear t1 t2
    go_wp2_with (fail)
    refine (c_cardwire_labels p (ptA st) _ hr3).mono ?_
    rintro e w4 ⟨rfl, hr4, hk4⟩
    rw [← T2.out]
    have hz4 := hk4.size
    have kw4 : Kept p w.heap.size w w4 := kw3.trans (hk4.mono (by omega))
    have B4 := B3.out.kept hk4 (by omega) (ne_of_lt hpl (by omega))
    have R4 := Lib.hid (R3.out.kept hk4 (by omega) (ne_of_lt hpl (by omega)))
    have q41 := B4.cell (Patch.arr_head _).2
    have f41 := B4.frozen 1
    have C5 := Lib.hid (show Blk (w4.setCell ⟨w1.heap.size, 1, none⟩ (.int .u32 L)) w1.heap.size (Patch.arr ⟨M, L, f8z⟩) by have := B4.store 1 (.int .u32 L); rw [Patch.put1] at this; exact this)
    have q50 := C5.out.cell (Patch.arr_head _).1
    clear B4 q30
    go_wp2_with (fail)
    have R5 := Lib.hid (R4.out.far (q := ⟨w1.heap.size, 1, none⟩) (by simp; omega) (.int .u32 L))
    have hr5 : RdP (w4.setCell ⟨w1.heap.size, 1, none⟩ (.int .u32 L)) p (rdN' (ptA st) 65535) := RdP.own (b := w1.heap.size) hr4 (by repeat (first | exact Kept.refl _ _ _ | refine Kept.drew ?_ | refine Kept.alloc ?_ (by first | omega | (simp; done) | (simp; omega)) _ | refine Kept.setCell ?_ (by first | (right; rfl) | (left; first | omega | (simp; done) | (simp; omega))) _ | refine Kept.then_kept ?_ (by assumption) (by first | omega | (simp; done) | (simp; omega)) | refine Kept.then_below ?_ (by assumption) (by first | omega | (simp; done) | (simp; omega)) | refine Kept.low ?_ (by assumption))) (fun g hg => by have := hpl g hg; omega)
    have kw5 : Kept p w.heap.size w (w4.setCell ⟨w1.heap.size, 1, none⟩ (.int .u32 L)) := kw4.setCell (.inl (by simp; omega)) _
    obtain ⟨w5, hw5⟩ : ∃ w5, w5 = w4.setCell ⟨w1.heap.size, 1, none⟩ (.int .u32 L) := ⟨_, rfl⟩
    have hz5 : w5.heap.size = w4.heap.size := by rw [hw5]; simp [World.setCell]
    rw [← hw5] at C5 R5 hr5 kw5 q50 ⊢
    clear hw5 q41 f41
    have C6 := C5
    refine (c_cardwire_fields p (rdN' (ptA st) 65535) M true _ hM2 (hT.kept kw5 ht) hr5).mono ?_
    rintro e w8 ⟨rfl, hr8, hk8⟩
    have hz8 := hk8.size
    have kw8 : Kept p w.heap.size w w8 := kw5.trans (hk8.mono (by omega))
    have R8 := Lib.hid (R5.out.kept hk8 (by omega) (ne_of_lt hpl (by omega)))
    have B8 := Lib.hid (C6.out.kept hk8 (by omega) (ne_of_lt hpl (by omega)))
    rw [← HD.out] at hr8
    rw [← HF1.out]
    go_wp2_with (with_reducible refine stS 37 (.tmp 18) (.tmp 17) rfl rfl ?_)
    refine Stop.mk (wpList_storeAt rfl _ _ _ rfl w1.heap.size 2 (farr (ptF st)) rfl rfl _ B8.out strF (by rw [farr_size, HFL.out]) (by rw [Patch.arr_size, farr_size, HFL.out]; simp) (farr_one _) ?_)
    intro w9 hb9 hk9
    rw [Patch.putF (by rw [HFL.out]; rfl)] at hb9
    have B9 := Lib.hid hb9
    clear hb9
    have hz9 := hk9.size
    have kw9 : Kept p w.heap.size w w9 := kw8.trans (hk9.one (by omega) (.inl (by omega)))
    have R9 := Lib.hid (R8.out.kept hk9 (by omega) (by simp; omega))
    have hr9 : RdP w9 p S := hr8.own (b := w1.heap.size) hk9 (fun g hg => by have := hpl g hg; omega)
    go_wp2_with (fail)
    refine (c_octet_Err p S _ hr9).mono ?_
    rintro e w10 ⟨rfl, hr10, hk10⟩
    have hz10 := hk10.size
    have kw10 : Kept p w.heap.size w w10 := kw9.trans (hk10.mono (by omega))
    have B10 := Lib.hid (B9.out.kept hk10 (by omega) (ne_of_lt hpl (by omega)))
    have R10 := Lib.hid (R9.out.kept hk10 (by omega) (ne_of_lt hpl (by omega)))
    go_wp2_with (with_reducible refine stop_load 39 (.tmp 3) rfl rfl ?_)
    refine Stop.mk (wpList_loadB rfl _ _ rfl w1.heap.size rfl _ B10.out strP (by rw [Patch.arr_size, HFL.out]) ?_)
    go_wp2_with (with_reducible refine stS 39 (.tmp 2) (.tmp 23) rfl rfl ?_)
    refine Stop.mk (wsB rfl _ _ _ rfl w.heap.size _ rfl rfl _ R10.out strP (by rw [Patch.arr_size, HFL.out]) (by rw [Patch.arr_size, HFL.out]; rfl) (Patch.arr_ones _) ?_)
    intro w11 hb11 hk11
    have hE : S.e = 0 := by simpa using he
    have hv : rdPatch st = ptPatch st := rdPatch_ok (by rw [← HS.out]; exact hE)
    have B11 := Lib.hid hb11
    clear hb11
    go_wp2_with (fail)
    exact bodyPost_ret (results_B rfl rfl B11.out strP (by rw [Patch.arr_size, HFL.out])) rfl ⟨by rw [hv, HL.out, HMM.out]; rfl, hr10.own (b := w.heap.size) hk11 hpl, kw10.trans (hk11.one (by omega) (.inl (Nat.le_refl _)))⟩
  · rw [← HS.out]
    go_enter Tryz.func27, Tryz.ntmps27
    go_wp2_with (fail)
    refine (c_cardwire_above p st 511 _ (hr.below ((Below.refl _ _).alloc (Nat.le_refl _) _))).mono ?_
    rintro e w1 ⟨rfl, hr1, hk1⟩
    rw [← HM.out]
    have hz1 := hk1.size
    simp only [World.size_alloc] at hz1
    have kw1 : Kept p w.heap.size w w1 := (by repeat (first | exact Kept.refl _ _ _ | refine Kept.drew ?_ | refine Kept.alloc ?_ (by first | omega | (simp; done) | (simp; omega)) _ | refine Kept.setCell ?_ (by first | (right; rfl) | (left; first | omega | (simp; done) | (simp; omega))) _ | refine Kept.then_kept ?_ (by assumption) (by first | omega | (simp; done) | (simp; omega)) | refine Kept.then_below ?_ (by assumption) (by first | omega | (simp; done) | (simp; omega)) | refine Kept.low ?_ (by assumption)))
    have R1 := Lib.hid ((Blk.new w _ _).kept hk1 (by simp) (ne_of_lt hpl (Nat.le_refl _)))
    go_wp2_with (with_reducible refine stS 39 (.tmp 3) (.tmp 7) rfl rfl ?_)
    refine Stop.mk (wsB rfl _ _ _ rfl w1.heap.size _ rfl rfl _ (Blk.new _ _ _) strP rfl rfl (by simp [Value.oneCell']) ?_)
    intro w2 hb2 hk2
    have B2 := Lib.hid (show Blk w2 w1.heap.size (Patch.arr ⟨M, 0, f8z⟩) by unfold Patch.arr; exact hb2)
    clear hb2
    have R2 := Lib.hid ((R1.out.alloc _).kept hk2 (by simp; omega) (by simp; omega))
    have hz2 := hk2.size
    simp only [World.size_alloc] at hz2
    have kw2 : Kept p w.heap.size w w2 := (kw1.alloc (by omega) _).trans (hk2.one (by simp; omega) (.inl (by omega)))
    have hr2 : RdP w2 p (ptA st) := (hr1.below ((Below.refl _ _).alloc (Nat.le_refl _) _)).own (b := w1.heap.size) hk2 (fun g hg => by have := hpl g hg; omega)
    have q20 := B2.out.cell (Patch.arr_head _).1
    go_wp2_with (fail)
    refine (c_mask_Labels M hM2 _).mono ?_
    rintro e w3 ⟨rfl, hb3⟩
    have hz3 := hb3.size
    have B3 := Lib.hid (B2.out.below hb3 B2.out.lt)
    have R3 := Lib.hid (R2.out.below hb3 R2.out.lt)
    have hr3 : RdP w3 p (ptA st) := hr2.below hb3
    have kw3 : Kept p w.heap.size w w3 := kw2.then_below hb3 (by omega)
    have q30 := B3.out.cell (Patch.arr_head _).1
    clear q20
    obtain ⟨t1, t2⟩ := ptB_no (st := st) (by rw [← HMM.out]; exact h8)
    have T2 := Lib.hid (HL.out.trans t2)
    have HD := Lib.hid (show S = rdFs' true (bitsTo M 8) (ptA st) by rw [← t1]; exact HD0.out)
    have HF1 := Lib.hid (show ptF st = rdFv true (bitsTo M 8) (ptA st) f8z by rw [← t1]; exact HF.out)
    have C6 := Lib.hid (show Blk w3 w1.heap.size (Patch.arr ⟨M, L, f8z⟩) by rw [T2.out]; exact B3.out)
    clear t1 t2
    go_wp2_with (fail)
    refine (c_cardwire_fields p (ptA st) M true _ hM2 (hT.kept kw3 ht) hr3).mono ?_
    rintro e w8 ⟨rfl, hr8, hk8⟩
    have hz8 := hk8.size
    have kw8 : Kept p w.heap.size w w8 := kw3.trans (hk8.mono (by omega))
    have R8 := Lib.hid (R3.out.kept hk8 (by omega) (ne_of_lt hpl (by omega)))
    have B8 := Lib.hid (C6.out.kept hk8 (by omega) (ne_of_lt hpl (by omega)))
    rw [← HD.out] at hr8
    rw [← HF1.out]
    go_wp2_with (with_reducible refine stS 37 (.tmp 18) (.tmp 17) rfl rfl ?_)
    refine Stop.mk (wpList_storeAt rfl _ _ _ rfl w1.heap.size 2 (farr (ptF st)) rfl rfl _ B8.out strF (by rw [farr_size, HFL.out]) (by rw [Patch.arr_size, farr_size, HFL.out]; simp) (farr_one _) ?_)
    intro w9 hb9 hk9
    rw [Patch.putF (by rw [HFL.out]; rfl)] at hb9
    have B9 := Lib.hid hb9
    clear hb9
    have hz9 := hk9.size
    have kw9 : Kept p w.heap.size w w9 := kw8.trans (hk9.one (by omega) (.inl (by omega)))
    have R9 := Lib.hid (R8.out.kept hk9 (by omega) (by simp; omega))
    have hr9 : RdP w9 p S := hr8.own (b := w1.heap.size) hk9 (fun g hg => by have := hpl g hg; omega)
    go_wp2_with (fail)
    refine (c_octet_Err p S _ hr9).mono ?_
    rintro e w10 ⟨rfl, hr10, hk10⟩
    have hz10 := hk10.size
    have kw10 : Kept p w.heap.size w w10 := kw9.trans (hk10.mono (by omega))
    have B10 := Lib.hid (B9.out.kept hk10 (by omega) (ne_of_lt hpl (by omega)))
    have R10 := Lib.hid (R9.out.kept hk10 (by omega) (ne_of_lt hpl (by omega)))
    go_wp2_with (with_reducible refine stS 39 (.tmp 2) (.tmp 22) rfl rfl ?_)
    refine Stop.mk (wsB rfl _ _ _ rfl w.heap.size _ rfl rfl _ R10.out strP rfl rfl (by simp [Value.oneCell']) ?_)
    intro w11 hb11 hk11
    have hE : S.e ≠ 0 := by simpa using he
    have hv : rdPatch st = pz := rdPatch_bad (by rw [← HS.out]; exact hE)
    have B11 := Lib.hid (show Blk w11 w.heap.size pz.arr by unfold Patch.arr; exact hb11)
    clear hb11
    go_wp2_with (fail)
    exact bodyPost_ret (results_B rfl rfl B11.out strP (by unfold Patch.arr; rfl)) rfl ⟨by rw [hv], hr10.own (b := w.heap.size) hk11 hpl, kw10.trans (hk11.one (by omega) (.inl (Nat.le_refl _)))⟩
  · rw [← HS.out]
    go_enter Tryz.func27, Tryz.ntmps27
    go_wp2_with (fail)
    refine (c_cardwire_above p st 511 _ (hr.below ((Below.refl _ _).alloc (Nat.le_refl _) _))).mono ?_
    rintro e w1 ⟨rfl, hr1, hk1⟩
    rw [← HM.out]
    have hz1 := hk1.size
    simp only [World.size_alloc] at hz1
    have kw1 : Kept p w.heap.size w w1 := (by repeat (first | exact Kept.refl _ _ _ | refine Kept.drew ?_ | refine Kept.alloc ?_ (by first | omega | (simp; done) | (simp; omega)) _ | refine Kept.setCell ?_ (by first | (right; rfl) | (left; first | omega | (simp; done) | (simp; omega))) _ | refine Kept.then_kept ?_ (by assumption) (by first | omega | (simp; done) | (simp; omega)) | refine Kept.then_below ?_ (by assumption) (by first | omega | (simp; done) | (simp; omega)) | refine Kept.low ?_ (by assumption)))
    have R1 := Lib.hid ((Blk.new w _ _).kept hk1 (by simp) (ne_of_lt hpl (Nat.le_refl _)))
    go_wp2_with (with_reducible refine stS 39 (.tmp 3) (.tmp 7) rfl rfl ?_)
    refine Stop.mk (wsB rfl _ _ _ rfl w1.heap.size _ rfl rfl _ (Blk.new _ _ _) strP rfl rfl (by simp [Value.oneCell']) ?_)
    intro w2 hb2 hk2
    have B2 := Lib.hid (show Blk w2 w1.heap.size (Patch.arr ⟨M, 0, f8z⟩) by unfold Patch.arr; exact hb2)
    clear hb2
    have R2 := Lib.hid ((R1.out.alloc _).kept hk2 (by simp; omega) (by simp; omega))
    have hz2 := hk2.size
    simp only [World.size_alloc] at hz2
    have kw2 : Kept p w.heap.size w w2 := (kw1.alloc (by omega) _).trans (hk2.one (by simp; omega) (.inl (by omega)))
    have hr2 : RdP w2 p (ptA st) := (hr1.below ((Below.refl _ _).alloc (Nat.le_refl _) _)).own (b := w1.heap.size) hk2 (fun g hg => by have := hpl g hg; omega)
    have q20 := B2.out.cell (Patch.arr_head _).1
    go_wp2_with (fail)
    refine (c_mask_Labels M hM2 _).mono ?_
    rintro e w3 ⟨rfl, hb3⟩
    have hz3 := hb3.size
    have B3 := Lib.hid (B2.out.below hb3 B2.out.lt)
    have R3 := Lib.hid (R2.out.below hb3 R2.out.lt)
    have hr3 : RdP w3 p (ptA st) := hr2.below hb3
    have kw3 : Kept p w.heap.size w w3 := kw2.then_below hb3 (by omega)
    have q30 := B3.out.cell (Patch.arr_head _).1
    clear q20
    obtain ⟨t1, t2⟩ := ptB_yes (st := st) (by rw [← HMM.out]; exact h8)
    have T2 := Lib.hid (HL.out.trans t2)
    have HD := Lib.hid (show S = rdFs' true (bitsTo M 8) (rdN' (ptA st) 65535) by rw [← t1]; exact HD0.out)
    have HF1 := Lib.hid (show ptF st = rdFv true (bitsTo M 8) (rdN' (ptA st) 65535) f8z by rw [← t1]; exact HF.out)
    clear t1 t2
    go_wp2_with (fail)
    refine (c_cardwire_labels p (ptA st) _ hr3).mono ?_
    rintro e w4 ⟨rfl, hr4, hk4⟩
    rw [← T2.out]
    have hz4 := hk4.size
    have kw4 : Kept p w.heap.size w w4 := kw3.trans (hk4.mono (by omega))
    have B4 := B3.out.kept hk4 (by omega) (ne_of_lt hpl (by omega))
    have R4 := Lib.hid (R3.out.kept hk4 (by omega) (ne_of_lt hpl (by omega)))
    have q41 := B4.cell (Patch.arr_head _).2
    have f41 := B4.frozen 1
    have C5 := Lib.hid (show Blk (w4.setCell ⟨w1.heap.size, 1, none⟩ (.int .u32 L)) w1.heap.size (Patch.arr ⟨M, L, f8z⟩) by have := B4.store 1 (.int .u32 L); rw [Patch.put1] at this; exact this)
    have q50 := C5.out.cell (Patch.arr_head _).1
    clear B4 q30
    go_wp2_with (fail)
    have R5 := Lib.hid (R4.out.far (q := ⟨w1.heap.size, 1, none⟩) (by simp; omega) (.int .u32 L))
    have hr5 : RdP (w4.setCell ⟨w1.heap.size, 1, none⟩ (.int .u32 L)) p (rdN' (ptA st) 65535) := RdP.own (b := w1.heap.size) hr4 (by repeat (first | exact Kept.refl _ _ _ | refine Kept.drew ?_ | refine Kept.alloc ?_ (by first | omega | (simp; done) | (simp; omega)) _ | refine Kept.setCell ?_ (by first | (right; rfl) | (left; first | omega | (simp; done) | (simp; omega))) _ | refine Kept.then_kept ?_ (by assumption) (by first | omega | (simp; done) | (simp; omega)) | refine Kept.then_below ?_ (by assumption) (by first | omega | (simp; done) | (simp; omega)) | refine Kept.low ?_ (by assumption))) (fun g hg => by have := hpl g hg; omega)
    have kw5 : Kept p w.heap.size w (w4.setCell ⟨w1.heap.size, 1, none⟩ (.int .u32 L)) := kw4.setCell (.inl (by simp; omega)) _
    obtain ⟨w5, hw5⟩ : ∃ w5, w5 = w4.setCell ⟨w1.heap.size, 1, none⟩ (.int .u32 L) := ⟨_, rfl⟩
    have hz5 : w5.heap.size = w4.heap.size := by rw [hw5]; simp [World.setCell]
    rw [← hw5] at C5 R5 hr5 kw5 q50 ⊢
    clear hw5 q41 f41
    have C6 := C5
    refine (c_cardwire_fields p (rdN' (ptA st) 65535) M true _ hM2 (hT.kept kw5 ht) hr5).mono ?_
    rintro e w8 ⟨rfl, hr8, hk8⟩
    have hz8 := hk8.size
    have kw8 : Kept p w.heap.size w w8 := kw5.trans (hk8.mono (by omega))
    have R8 := Lib.hid (R5.out.kept hk8 (by omega) (ne_of_lt hpl (by omega)))
    have B8 := Lib.hid (C6.out.kept hk8 (by omega) (ne_of_lt hpl (by omega)))
    rw [← HD.out] at hr8
    rw [← HF1.out]
    go_wp2_with (with_reducible refine stS 37 (.tmp 18) (.tmp 17) rfl rfl ?_)
    refine Stop.mk (wpList_storeAt rfl _ _ _ rfl w1.heap.size 2 (farr (ptF st)) rfl rfl _ B8.out strF (by rw [farr_size, HFL.out]) (by rw [Patch.arr_size, farr_size, HFL.out]; simp) (farr_one _) ?_)
    intro w9 hb9 hk9
    rw [Patch.putF (by rw [HFL.out]; rfl)] at hb9
    have B9 := Lib.hid hb9
    clear hb9
    have hz9 := hk9.size
    have kw9 : Kept p w.heap.size w w9 := kw8.trans (hk9.one (by omega) (.inl (by omega)))
    have R9 := Lib.hid (R8.out.kept hk9 (by omega) (by simp; omega))
    have hr9 : RdP w9 p S := hr8.own (b := w1.heap.size) hk9 (fun g hg => by have := hpl g hg; omega)
    go_wp2_with (fail)
    refine (c_octet_Err p S _ hr9).mono ?_
    rintro e w10 ⟨rfl, hr10, hk10⟩
    have hz10 := hk10.size
    have kw10 : Kept p w.heap.size w w10 := kw9.trans (hk10.mono (by omega))
    have B10 := Lib.hid (B9.out.kept hk10 (by omega) (ne_of_lt hpl (by omega)))
    have R10 := Lib.hid (R9.out.kept hk10 (by omega) (ne_of_lt hpl (by omega)))
    go_wp2_with (with_reducible refine stS 39 (.tmp 2) (.tmp 22) rfl rfl ?_)
    refine Stop.mk (wsB rfl _ _ _ rfl w.heap.size _ rfl rfl _ R10.out strP rfl rfl (by simp [Value.oneCell']) ?_)
    intro w11 hb11 hk11
    have hE : S.e ≠ 0 := by simpa using he
    have hv : rdPatch st = pz := rdPatch_bad (by rw [← HS.out]; exact hE)
    have B11 := Lib.hid (show Blk w11 w.heap.size pz.arr by unfold Patch.arr; exact hb11)
    clear hb11
    go_wp2_with (fail)
    exact bodyPost_ret (results_B rfl rfl B11.out strP (by unfold Patch.arr; rfl)) rfl ⟨by rw [hv], hr10.own (b := w.heap.size) hk11 hpl, kw10.trans (hk11.one (by omega) (.inl (Nat.le_refl _)))⟩
end Go.Proofs.YtiedkcijjfmhaaaGreatDoor
namespace Go.Proofs.YtiedkcijjfmhaaaGreatDoor
open Go.RowKit

theorem rdEnd_bad {st : Rd} (h : st.e ≠ 0) : rdEnd st = st.e := by unfold rdEnd; rw [if_neg (fun x => h x.1)]
theorem rdEnd_left {st : Rd} (h : st.e = 0) (hs : st.s ≠ []) : rdEnd st = 3 := by unfold rdEnd; rw [if_pos ⟨h, hs⟩]
theorem rdEnd_ok {st : Rd} (hs : st.s = []) : rdEnd st = st.e := by unfold rdEnd; rw [if_neg (fun x => x.2 hs)]
set_option maxHeartbeats 400000 in
theorem c_octet_End (p : Option Nat) (st : Rd) (w : World) (h : RdP w p st) : Calls Tryz.prog 13 #[ptr p] w (RetV w (.int .i64 (rdEnd st))) := by
  rcases p with _ | g
  · have hs := h.nil
    subst hs
    rw [ptr_none]
    go_enter Tryz.func13, Tryz.ntmps13
    go_wp2_with (fail)
    go_ret
    exact RetV.of rfl (by repeat (first | exact Below.refl _ _ | refine Below.drew ?_ | refine Below.alloc ?_ (by first | omega | (simp; done) | (simp; omega)) _ | refine Below.setCell ?_ (by first | omega | (simp; done) | (simp; omega)) _ | refine Below.trans ?_ (Below.mono (by assumption) (by first | omega | (simp; done) | (simp; omega)))))
  · obtain ⟨A, c, B, pos, ha, hs⟩ := h.at
    have c2 : w.cell? ⟨g, 2, none⟩ = some (.int .i64 st.e) := ha.1.cell rfl
    have H := Lib.hid h
    clear h ha hs
    rw [ptr_some]
    by_cases he : st.e = 0
    · have k : (st.e == 0) = true := by simpa using he
      by_cases hl : st.s = []
      · rw [rdEnd_ok hl]
        have HL := Lib.hid (show st.s.length = 0 by rw [hl]; rfl)
        clear he hl
        go_enter Tryz.func13, Tryz.ntmps13
        go_wp2_with (fail)
        refine (c_octet_Left' (some g) st _ H.out).mono ?_
        rintro e w1 ⟨rfl, hb1⟩
        have c3 : w1.cell? ⟨g, 2, none⟩ = some (.int .i64 st.e) := by rw [hb1.cell (H.out.lt rfl)]; exact c2
        rw [HL.out]
        clear c2
        go_wp2_with (fail)
        go_ret
        exact RetV.of rfl (by repeat (first | exact Below.refl _ _ | refine Below.drew ?_ | refine Below.alloc ?_ (by first | omega | (simp; done) | (simp; omega)) _ | refine Below.setCell ?_ (by first | omega | (simp; done) | (simp; omega)) _ | refine Below.trans ?_ (Below.mono (by assumption) (by first | omega | (simp; done) | (simp; omega)))))
      · rw [rdEnd_left he hl]
        have hp : 0 < st.s.length := List.length_pos_iff.2 hl
        have HP := Lib.hid hp
        clear he hl hp
        go_enter Tryz.func13, Tryz.ntmps13
        go_wp2_with (fail)
        refine (c_octet_Left' (some g) st _ H.out).mono ?_
        rintro e w1 ⟨rfl, hb1⟩
        have k2 : decide (0 < (st.s.length : Int)) = true := by have := HP.out; simp; omega
        go_wp2_with (fail)
        go_ret
        exact RetV.of rfl (by repeat (first | exact Below.refl _ _ | refine Below.drew ?_ | refine Below.alloc ?_ (by first | omega | (simp; done) | (simp; omega)) _ | refine Below.setCell ?_ (by first | omega | (simp; done) | (simp; omega)) _ | refine Below.trans ?_ (Below.mono (by assumption) (by first | omega | (simp; done) | (simp; omega)))))
    · rw [rdEnd_bad he]
      have k : (st.e == 0) = false := by simpa using he
      clear he
      go_enter Tryz.func13, Tryz.ntmps13
      go_wp2_with (fail)
      go_ret
      exact RetV.of rfl (by repeat (first | exact Below.refl _ _ | refine Below.drew ?_ | refine Below.alloc ?_ (by first | omega | (simp; done) | (simp; omega)) _ | refine Below.setCell ?_ (by first | omega | (simp; done) | (simp; omega)) _ | refine Below.trans ?_ (Below.mono (by assumption) (by first | omega | (simp; done) | (simp; omega)))))
set_option maxHeartbeats 400000 in
theorem c_ref01_End (h : Nat) (st : Rd) (w : World) (r : RdR w h st) : Calls Tryz.prog 16 #[.pointer (some ⟨h, 0, none⟩)] w (RetV w (.int .i64 (rdEnd st))) := by
  have c0 : w.cell? ⟨h, 0, none⟩ = some (.string (str st.s)) := r.1.cell rfl
  have c1 : w.cell? ⟨h, 1, none⟩ = some (.int .i64 st.e) := r.1.cell rfl
  clear r
  by_cases he : st.e = 0
  · have k : (st.e == 0) = true := by simpa using he
    by_cases hl : st.s = []
    · rw [rdEnd_ok hl]
      rw [hl] at c0
      clear he hl
      go_enter Tryz.func16, Tryz.ntmps16
      go_wp2_with (fail)
      go_ret
      exact RetV.of rfl (by repeat (first | exact Below.refl _ _ | refine Below.drew ?_ | refine Below.alloc ?_ (by first | omega | (simp; done) | (simp; omega)) _ | refine Below.setCell ?_ (by first | omega | (simp; done) | (simp; omega)) _ | refine Below.trans ?_ (Below.mono (by assumption) (by first | omega | (simp; done) | (simp; omega)))))
    · rw [rdEnd_left he hl]
      have k2 : st.s.isEmpty = false := by simpa using hl
      clear he hl
      go_enter Tryz.func16, Tryz.ntmps16
      go_wp2_with (fail)
      all_goals
        go_ret
        exact RetV.of rfl (by repeat (first | exact Below.refl _ _ | refine Below.drew ?_ | refine Below.alloc ?_ (by first | omega | (simp; done) | (simp; omega)) _ | refine Below.setCell ?_ (by first | omega | (simp; done) | (simp; omega)) _ | refine Below.trans ?_ (Below.mono (by assumption) (by first | omega | (simp; done) | (simp; omega)))))
  · rw [rdEnd_bad he]
    have k : (st.e == 0) = false := by simpa using he
    clear he
    go_enter Tryz.func16, Tryz.ntmps16
    go_wp2_with (fail)
    go_ret
    exact RetV.of rfl (by repeat (first | exact Below.refl _ _ | refine Below.drew ?_ | refine Below.alloc ?_ (by first | omega | (simp; done) | (simp; omega)) _ | refine Below.setCell ?_ (by first | omega | (simp; done) | (simp; omega)) _ | refine Below.trans ?_ (Below.mono (by assumption) (by first | omega | (simp; done) | (simp; omega)))))
end Go.Proofs.YtiedkcijjfmhaaaGreatDoor
