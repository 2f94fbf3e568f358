/-
  Lemmas (walks and plain laws), in one text.
-/
import Derived.Test.YtfgjhgecmelccaaLw3
import Derived.WalkKit
import Derived.WalkSpells
import Derived.WalkLawsBesides
import Derived.Lib.Hide
import Derived.Deep.QuietTactic
import Derived.BigQuiet
import Derived.Maps.AppendAt
import Derived.WalkSmall
import Derived.StillTail
import Derived.RangeFuncNested
import Derived.RangeFuncCalls
import Derived.OrdersIn
import Derived.ControlIn
import Derived.Test.YtfgjhgecmelccaaProg
import Derived.Deep.CutBlock
import Derived.Deep.DeepCutAuto
import Derived.Deep.AppendSrc
import Derived.Lib.AppendStr
import Derived.Laws.BytesArg
import Derived.WalkMore
import Derived.ScopeJumps
import Derived.Lib.Bytealg
import Derived.Laws.Externs
import Derived.Laws.IdiomStrings
import Derived.Outline
import Derived.IntWalk
import Derived.Laws.Tables
import Derived.Laws.Rows
import Derived.ChangeKeysEq
import Derived.Laws.StructEq
import Derived.RangeFuncBound
import Derived.RangeFuncLeaves
import Derived.OwnWalkIn
import Derived.LoopIn
import Derived.Shelf.Abstract
import Derived.Test.YtfgjhgecmelccaaRows
import Derived.ProofKit
import Derived.OpenShut
import Derived.JoinedCond
import Derived.Deep.Slices
import Derived.Deep.Fields
import Derived.Carry
namespace Go.Proofs.Ytfgjhgecmelccaa

structure Wd where
  kind : Int
  n : Int
  pos : Int
  s : List UInt8
deriving DecidableEq
def run (lo hi : Nat) : List UInt8 → Nat
  | [] => 0
  | c :: s => if lo ≤ c.toNat ∧ c.toNat ≤ hi then run lo hi s + 1 else 0
/-- How many bytes a text in quotes has; i of them, its first quote among them, lie ahead. -/
def qt : List UInt8 → Nat → Nat
  | [], _ => 0
  | [c], i => if c = 34 then i + 1 else 0
  | c :: d :: s, i => if c = 34 then i + 1 else if c = 92 then qt s (i + 2) else qt (d :: s) (i + 1)
def sign (c : UInt8) : Bool := c = 40 || c = 41 || c = 61 || c = 60 || c = 62 || c = 126
structure Fst where
  kind : Int
  n : Int
  s : List UInt8
  len : Nat
/-- The word that a text begins with. -/
def fst : List UInt8 → Option Fst
  | [] => none
  | c :: r =>
    if 97 ≤ c.toNat ∧ c.toNat ≤ 122 then some ⟨1, 0, (c :: r).take (run 97 122 (c :: r)), run 97 122 (c :: r)⟩
    else if 48 ≤ c.toNat ∧ c.toNat ≤ 57 then (intR ((c :: r).take (run 48 57 (c :: r))) 1099511627776).map fun (v : Nat) => (⟨2, (v : Int), [], run 48 57 (c :: r)⟩ : Fst)
    else if c = 34 then (if qt r 1 = 0 then none else match unquote ((c :: r).take (qt r 1)) with
      | none => none
      | some u => if u.length ≤ 24 then some ⟨3, 0, u, qt r 1⟩ else none)
    else if sign c then some ⟨4, 0, [c], 1⟩ else none
/-- The words of a text whose first byte stands at a place, and the place of what is wrong. -/
def lexF : Nat → List UInt8 → Nat → List Wd × Option Nat
  | 0, _, _ => ([], none)
  | _ + 1, [], _ => ([], none)
  | f + 1, c :: r, p =>
    if c = 32 then lexF f r (p + 1)
    else match fst (c :: r) with
      | none => ([], some p)
      | some x => (⟨x.kind, x.n, p, x.s⟩ :: (lexF f ((c :: r).drop x.len) (p + x.len)).1, (lexF f ((c :: r).drop x.len) (p + x.len)).2)

theorem run_le (lo hi : Nat) : ∀ s, run lo hi s ≤ s.length
  | [] => by simp [run]
  | c :: s => by
    have := run_le lo hi s
    unfold run; split <;> simp; omega
theorem run_take (lo hi : Nat) : ∀ s : List UInt8, ∀ c ∈ s.take (run lo hi s), lo ≤ c.toNat ∧ c.toNat ≤ hi
  | [] => by simp [run]
  | c :: s => by
    intro d hd
    unfold run at hd
    split at hd
    · rename_i h
      rw [List.take_succ_cons] at hd
      rcases List.mem_cons.1 hd with rfl | hd
      · exact h
      · exact run_take lo hi s d hd
    · simp at hd
theorem qt_le : ∀ (k : Nat) (s : List UInt8) (i : Nat), s.length ≤ k → qt s i ≤ i + s.length
  | _, [], i, _ => by simp [qt]
  | _, [c], i, _ => by unfold qt; split <;> simp
  | 0, c :: d :: s, i, h => by simp at h
  | k + 1, c :: d :: s, i, h => by
    have h1 := qt_le k s (i + 2) (by simp at h; omega)
    have h2 := qt_le k (d :: s) (i + 1) (by simp at h ⊢; omega)
    unfold qt
    split
    · simp
    · split
      · simp; omega
      · simp at h2 ⊢; omega
theorem qt_plain {c : UInt8} (h1 : c ≠ 34) (h2 : c ≠ 92) (s : List UInt8) (hs : s ≠ []) (i : Nat) : qt (c :: s) i = qt s (i + 1) := by
  cases s with
  | nil => exact absurd rfl hs
  | cons d s => rw [qt, if_neg h1, if_neg h2]
theorem qt_esc (d : UInt8) (s : List UInt8) (i : Nat) : qt (92 :: d :: s) i = qt s (i + 2) := by rw [qt, if_neg (by decide), if_pos rfl]
theorem qt_end (s : List UInt8) (i : Nat) : qt (34 :: s) i = i + 1 := by
  cases s with
  | nil => rw [qt, if_pos rfl]
  | cons d s => rw [qt, if_pos rfl]
/-- What a word is. -/
def Wd.may (kind n : Int) (s : List UInt8) : Prop :=
  (kind = 1 ∧ n = 0 ∧ s ≠ [] ∧ ∀ c ∈ s, 97 ≤ c.toNat ∧ c.toNat ≤ 122) ∨ (kind = 2 ∧ s = [] ∧ 0 ≤ n ∧ n ≤ 1099511627776) ∨ (kind = 3 ∧ n = 0 ∧ s.length ≤ 24) ∨ (kind = 4 ∧ n = 0 ∧ ∃ c, s = [c] ∧ sign c = true)
def wText (kind n : Int) (s : List UInt8) : List UInt8 := if kind = 2 then tens n.toNat else if kind = 3 then quote s else s
theorem fst_may {s : List UInt8} {x : Fst} (h : fst s = some x) : Wd.may x.kind x.n x.s ∧ 0 < x.len ∧ x.len ≤ s.length := by
  cases s with
  | nil => cases h
  | cons c r =>
    rw [fst] at h
    split at h
    · rename_i hc
      injection h with h
      subst h
      have h1 := run_le 97 122 (c :: r)
      have h2 : 0 < run 97 122 (c :: r) := by rw [run, if_pos hc]; omega
      refine ⟨.inl ⟨rfl, rfl, ?_, run_take 97 122 (c :: r)⟩, h2, h1⟩
      intro h0
      have := congrArg List.length h0
      rw [List.length_take] at this
      simp only [List.length_nil] at this
      omega
    · split at h
      · rename_i hc
        obtain ⟨v, hv, rfl⟩ := Option.map_eq_some_iff.1 h
        obtain ⟨_, h3, _⟩ := tens_intR hv
        have h1 := run_le 48 57 (c :: r)
        have h2 : 0 < run 48 57 (c :: r) := by rw [run, if_pos hc]; omega
        exact ⟨.inr (.inl ⟨rfl, rfl, by simp only; omega, by simp only; omega⟩), h2, h1⟩
      · split at h
        · split at h
          · cases h
          · rename_i h0
            cases hu : unquote ((c :: r).take (qt r 1)) with
            | none => rw [hu] at h; cases h
            | some u =>
              rw [hu] at h
              simp only at h
              split at h
              · rename_i hl
                injection h with h
                subst h
                have := qt_le r.length r 1 (Nat.le_refl _)
                exact ⟨.inr (.inr (.inl ⟨rfl, rfl, hl⟩)), by simp only; omega, by simp only [List.length_cons]; omega⟩
              · cases h
        · split at h
          · rename_i hc
            injection h with h
            subst h
            exact ⟨.inr (.inr (.inr ⟨rfl, rfl, c, rfl, hc⟩)), by simp, by simp⟩
          · cases h
/-! Words put one behind the other. -/
def Wd.text (w : Wd) : List UInt8 := wText w.kind w.n w.s
theorem lexF_more : ∀ f s p, s.length ≤ f → lexF f s p = lexF s.length s p := by
  intro f
  induction f using Nat.strongRecOn with
  | _ f ih =>
    intro s p h
    cases s with
    | nil => cases f <;> rfl
    | cons c r =>
      cases f with
      | zero => simp at h
      | succ f =>
        rw [List.length_cons, lexF, lexF]
        split
        · exact ih f (by omega) r (p + 1) (by simpa using h)
        · cases hx : fst (c :: r) with
          | none => rfl
          | some x =>
            obtain ⟨_, h1, h2⟩ := fst_may hx
            simp only
            have hl : ((c :: r).drop x.len).length ≤ r.length := by rw [List.length_drop, List.length_cons]; omega
            rw [ih f (by omega) _ _ (by simp at h; omega)]
            by_cases hrf : r.length < f + 1
            · rw [ih r.length hrf ((c :: r).drop x.len) (p + x.len) hl]
            · simp at h; omega
end Go.Proofs.Ytfgjhgecmelccaa
namespace Go.Proofs.Ytfgjhgecmelccaa
open Go.RowKit

theorem run_at (lo hi : Nat) {s : List UInt8} {k : Nat} (h : k < s.length) : run lo hi (s.drop k) = if lo ≤ s[k].toNat ∧ s[k].toNat ≤ hi then run lo hi (s.drop (k + 1)) + 1 else 0 := by
  rw [List.drop_eq_getElem_cons h, run]
set_option maxHeartbeats 1000000 in
theorem c_lex_run (s : List UInt8) (lo hi : Nat) (w : World) (hs : s.length ≤ 1000000) : Calls Try.prog 26 #[.string (str s), .int .u8 lo, .int .u8 hi] w (RetV w (.int .i64 (run lo hi s : Nat))) := by
  go_enter Try.func26, Try.ntmps26
  go_wp2_with (fail)
  go_loop [7] (fun i => ∃ k : Nat, k ≤ s.length ∧ i = .int .i64 k ∧ Hid (k + run lo hi (s.drop k) = run lo hi s)) (fun i => s.length - (intOf i).toNat)
  case atStart => exact ⟨0, by omega, rfl, by show _ = _; simp⟩
  case round =>
    obtain ⟨k, hk, rfl, H⟩ := hrel
    by_cases hlt : k < s.length
    · have R := run_at lo hi hlt
      have d1 : decide (k < s.length) = true := by simpa using hlt
      by_cases h1 : lo ≤ s[k].toNat
      · have d2 : decide (lo ≤ s[k].toNat) = true := by simpa using h1
        by_cases h2 : s[k].toNat ≤ hi
        · have d3 : decide (s[k].toNat ≤ hi) = true := by simpa using h2
          rw [if_pos ⟨h1, h2⟩] at R
          have H2 := Lib.hid (show k + 1 + run lo hi (s.drop (k + 1)) = run lo hi s by rw [← H.out, R]; omega)
          clear R h1 h2 H
          go_wp2_with (fail)
          go_round
          case rel => exact ⟨k + 1, by omega, by go_num, H2.out⟩
          case measure => simp [intOf]; omega
        · have d3 : decide (s[k].toNat ≤ hi) = false := by simpa using h2
          rw [if_neg (fun h => h2 h.2)] at R
          have H2 := Lib.hid (show run lo hi s = k by rw [← H.out, R]; omega)
          clear R h1 h2 H
          go_wp2_with (fail)
          go_ret
          exact RetV.int (by rw [H2.out]) (Below.refl _ _)
      · have d2 : decide (lo ≤ s[k].toNat) = false := by simpa using h1
        rw [if_neg (fun h => h1 h.1)] at R
        have H2 := Lib.hid (show run lo hi s = k by rw [← H.out, R]; omega)
        clear R h1 H
        go_wp2_with (fail)
        go_ret
        exact RetV.int (by rw [H2.out]) (Below.refl _ _)
    · have d1 : decide (k < s.length) = false := by simpa using hlt
      have H2 := Lib.hid (show run lo hi s = k by rw [← H.out, List.drop_eq_nil_of_le (by omega), run]; omega)
      clear hlt H
      go_wp2_with (fail)
      go_ret
      exact RetV.int (by rw [H2.out]) (Below.refl _ _)
theorem qt_none (k : Nat) : qt [] k = 0 := by rw [qt]
theorem qt_34 {c : UInt8} {r : List UInt8} (h : c.toNat = 34) (k : Nat) : qt (c :: r) k = k + 1 := by
  have : c = 34 := UInt8.toNat_inj.1 h
  rw [this]; exact qt_end r k
theorem qt_92 {c : UInt8} {r : List UInt8} (h : c.toNat = 92) (k : Nat) : qt (c :: r) k = qt (r.drop 1) (k + 2) := by
  have : c = 92 := UInt8.toNat_inj.1 h
  rw [this]
  cases r with
  | nil => rw [qt, if_neg (by decide), List.drop_nil, qt_none]
  | cons d r => rw [qt_esc]; rfl
theorem qt_other {c : UInt8} {r : List UInt8} (h1 : c.toNat ≠ 34) (h2 : c.toNat ≠ 92) (k : Nat) : qt (c :: r) k = qt r (k + 1) := by
  have n1 : c ≠ 34 := fun e => h1 (by rw [e]; rfl)
  have n2 : c ≠ 92 := fun e => h2 (by rw [e]; rfl)
  cases r with
  | nil =>
    rw [qt_none]
    unfold qt
    rw [if_neg n1]
  | cons d r => exact qt_plain n1 n2 _ (by simp) k
theorem qt_at {s : List UInt8} {k : Nat} (h : k < s.length) : qt (s.drop k) k = if s[k].toNat = 34 then k + 1 else if s[k].toNat = 92 then qt (s.drop (k + 2)) (k + 2) else qt (s.drop (k + 1)) (k + 1) := by
  rw [List.drop_eq_getElem_cons h]
  split
  · next h1 => exact qt_34 h1 k
  · next h1 =>
    split
    · next h2 => rw [qt_92 h2, List.drop_drop]
    · next h2 => exact qt_other h1 h2 k
set_option maxHeartbeats 2000000 in
theorem c_lex_quoted (s : List UInt8) (w : World) (hs : s.length ≤ 1000000) : Calls Try.prog 28 #[.string (str s)] w (RetV w (.int .i64 (qt (s.drop 1) 1 : Nat))) := by
  go_enter Try.func28, Try.ntmps28
  go_wp2_with (fail)
  refine wp_scope_jumps 0 (fun a' w' => w' = w ∧ ∃ (k : Nat) (u1 u2 u4 u5 u6 u7 u8 u9 u10 u11 u12 u13 u14 u15 u16 u17 u18 u19 u20 u21 u22 u23 u24 : Value), a' = { tmps := #[.string (str s), u1, u2, .int .i64 k, u4, u5, u6, u7, u8, u9, u10, u11, u12, u13, u14, u15, u16, u17, u18, u19, u20, u21, u22, u23, u24], defers := [] } ∧ Hid (qt (s.drop k) k = qt (s.drop 1) 1) ∧ k ≤ s.length + 1) (fun a' _ => s.length + 1 - (intOf (a'.tmps.getD 3 undef)).toNat) rfl ?_ ?_
  · go_wp2_with (fail)
    go_step3
    by_cases hlt : 1 < s.length
    · have d1 : decide ((s.length : Int) ≤ 1) = false := by rw [decide_eq_false_iff_not]; omega
      have Q := qt_at hlt
      by_cases g1 : s[1].toNat = 34
      · have j1 : ((s[1].toNat : Int) == 34) = true := by rw [beq_iff_eq]; omega
        rw [if_pos g1] at Q
        have H2 := Lib.hid ((show qt (s.drop 1) 1 = qt (s.drop 1) 1 from rfl).symm.trans Q)
        clear Q g1
        go_wp2_with (fail)
        simp only [Exit.jump]
        go_ret
        exact RetV.int (by first | (rw [H2.out]; rfl) | (rw [← List.drop_one, H2.out]; rfl)) (Below.refl _ _)
      · have j1 : ((s[1].toNat : Int) == 34) = false := by rw [beq_eq_false_iff_ne]; omega
        rw [if_neg g1] at Q
        by_cases g2 : s[1].toNat = 92
        · have j2 : ((s[1].toNat : Int) == 92) = true := by rw [beq_iff_eq]; omega
          rw [if_pos g2] at Q
          have H2 := Lib.hid (Q.symm.trans (show qt (s.drop 1) 1 = qt (s.drop 1) 1 from rfl))
          clear Q g1 g2
          go_wp2_with (fail)
          go_step3
          exact ⟨rfl, rfl, 3, _, _, _, _, _, _, _, _, _, _, _, _, _, _, _, _, _, _, _, _, _, _, _, rfl, H2.out, by omega⟩
        · have j2 : ((s[1].toNat : Int) == 92) = false := by rw [beq_eq_false_iff_ne]; omega
          rw [if_neg g2] at Q
          have H2 := Lib.hid (Q.symm.trans (show qt (s.drop 1) 1 = qt (s.drop 1) 1 from rfl))
          clear Q g1 g2
          go_wp2_with (fail)
          go_step3
          exact ⟨rfl, rfl, 2, _, _, _, _, _, _, _, _, _, _, _, _, _, _, _, _, _, _, _, _, _, _, _, rfl, H2.out, by omega⟩
    · have d1 : decide ((s.length : Int) ≤ 1) = true := by rw [decide_eq_true_iff]; omega
      have H2 := Lib.hid (show qt (s.drop 1) 1 = 0 by rw [List.drop_eq_nil_of_le (by omega), qt_none])
      clear hlt
      go_wp2_with (fail)
      simp only [Exit.jump]
      go_ret
      exact RetV.int (by first | (rw [H2.out]; rfl) | (rw [← List.drop_one, H2.out]; rfl)) (Below.refl _ _)
  · rintro a' w' ⟨rfl, k, u1, u2, u4, u5, u6, u7, u8, u9, u10, u11, u12, u13, u14, u15, u16, u17, u18, u19, u20, u21, u22, u23, u24, rfl, H, hk⟩
    by_cases hlt : k < s.length
    · have d1 : decide (s.length ≤ k) = false := by simpa using hlt
      have Q := qt_at hlt
      by_cases g1 : s[k].toNat = 34
      · have j1 : ((s[k].toNat : Int) == 34) = true := by rw [beq_iff_eq]; omega
        rw [if_pos g1] at Q
        have H2 := Lib.hid ((H.out).symm.trans Q)
        clear Q g1
        go_wp2_with (fail)
        simp only [Exit.jump]
        go_ret
        exact RetV.int (by first | (rw [H2.out]; rfl) | (rw [← List.drop_one, H2.out]; rfl)) (Below.refl _ _)
      · have j1 : ((s[k].toNat : Int) == 34) = false := by rw [beq_eq_false_iff_ne]; omega
        rw [if_neg g1] at Q
        by_cases g2 : s[k].toNat = 92
        · have j2 : ((s[k].toNat : Int) == 92) = true := by rw [beq_iff_eq]; omega
          rw [if_pos g2] at Q
          have H2 := Lib.hid (Q.symm.trans (H.out))
          clear Q g1 g2
          go_wp2_with (fail)
          go_step3
          try rw [show (k : Int) + 1 + 1 = ((k + 2 : Nat) : Int) by omega]
          try rw [show (k : Int) + 2 = ((k + 2 : Nat) : Int) by omega]
          exact ⟨rfl, ⟨rfl, k + 2, _, _, _, _, _, _, _, _, _, _, _, _, _, _, _, _, _, _, _, _, _, _, _, rfl, H2.out, by omega⟩, by simp [intOf]; omega⟩
        · have j2 : ((s[k].toNat : Int) == 92) = false := by rw [beq_eq_false_iff_ne]; omega
          rw [if_neg g2] at Q
          have H2 := Lib.hid (Q.symm.trans (H.out))
          clear Q g1 g2
          go_wp2_with (fail)
          go_step3
          try rw [show (k : Int) + 1 = ((k + 1 : Nat) : Int) by omega]
          exact ⟨rfl, ⟨rfl, k + 1, _, _, _, _, _, _, _, _, _, _, _, _, _, _, _, _, _, _, _, _, _, _, _, rfl, H2.out, by omega⟩, by simp [intOf]; omega⟩
    · have d1 : decide (s.length ≤ k) = true := by simpa using hlt
      have H2 := Lib.hid (show qt (s.drop 1) 1 = 0 by rw [← H.out]; rw [List.drop_eq_nil_of_le (by omega), qt_none])
      clear hlt
      go_wp2_with (fail)
      simp only [Exit.jump]
      go_ret
      exact RetV.int (by first | (rw [H2.out]; rfl) | (rw [← List.drop_one, H2.out]; rfl)) (Below.refl _ _)
end Go.Proofs.Ytfgjhgecmelccaa
namespace Go.Proofs.Ytfgjhgecmelccaa
open Go.RowKit

set_option maxHeartbeats 1000000 in
set_option maxRecDepth 100000 in
theorem c_stringslite_IndexByte (s : ByteArray) (c : Int) (w : World) : Calls Try.prog 52 #[.string s, .int .u8 c] w (fun e w' => e = .returned (.int .i64 (Lib.indexByte s.data.toList c.toNat.toUInt8)) ∧ w' = w) := by
  go_enter Try.func52, Try.ntmps52
  go_wp2_with (fail)
  rw [run_callFunc_extern Try.func72 (by kernel_rfl) (by kernel_rfl) (by kernel_rfl) (e := Extern.BytealgIndexByte.indexByte) (by kernel_rfl), Lib.run_indexByteString]
  simp only [Result.andThen]
  rw [Oper.upon_value]
  go_wp2_with (fail)
  go_ret
  exact ⟨rfl, rfl⟩
set_option maxHeartbeats 1000000 in
theorem c_strings_IndexByte (s : ByteArray) (c : Int) (w : World) : Calls Try.prog 30 #[.string s, .int .u8 c] w (fun e w' => e = .returned (.int .i64 (Lib.indexByte s.data.toList c.toNat.toUInt8)) ∧ w' = w) := by
  go_enter Try.func30, Try.ntmps30
  go_wp2_with (fail)
  refine (c_stringslite_IndexByte s c _).mono ?_
  rintro e w1 ⟨rfl, rfl⟩
  go_wp2_with (fail)
  go_ret
  exact ⟨rfl, rfl⟩
theorem sign_index (c : UInt8) : (decide (0 ≤ Lib.indexByte [40, 41, 61, 60, 62, 126] c)) = sign c := by
  have : ∀ n : Fin 256, (decide (0 ≤ Lib.indexByte [40, 41, 61, 60, 62, 126] (UInt8.ofNat n.val))) = sign (UInt8.ofNat n.val) := by decide +kernel
  have h := this ⟨c.toNat, c.toNat_lt⟩
  simpa using h
set_option maxHeartbeats 1000000 in
theorem c_ref09_sign (c : UInt8) (w : World) : Calls Try.prog 35 #[.int .u8 c.toNat] w (RetV w (.bool (sign c))) := by
  have hs : sign c = ((((((c.toNat == 40 || c.toNat == 41) || c.toNat == 61) || c.toNat == 60) || c.toNat == 62) || c.toNat == 126)) := by
    have : ∀ n : Fin 256, sign (UInt8.ofNat n.val) = ((((((n.val == 40 || n.val == 41) || n.val == 61) || n.val == 60) || n.val == 62) || n.val == 126)) := by decide +kernel
    have h := this ⟨c.toNat, c.toNat_lt⟩
    simpa using h
  have HS := Lib.hid hs
  obtain ⟨m, hm⟩ : ∃ m, m = c.toNat := ⟨_, rfl⟩
  have HM := Lib.hid hm
  rw [← hm]
  clear hs hm
  go_enter Try.func35, Try.ntmps35
  go_wp2_with (fail)
  all_goals
    go_ret
    refine RetV.bool ?_ (by repeat (first | exact Below.refl _ _ | refine Below.drew ?_ | refine Below.alloc ?_ (by first | omega | (simp; done) | (simp; omega)) _ | refine Below.setCell ?_ (by first | omega | (simp; done) | (simp; omega)) _ | refine Below.trans ?_ (Below.mono (by assumption) (by first | omega | (simp; done) | (simp; omega)))))
    rw [HS.out, ← HM.out]
    rw [Bool.eq_iff_iff]
    simp_all <;> omega
set_option maxHeartbeats 1000000 in
theorem c_ref09_run (s : List UInt8) (p lo hi : Nat) (w : World) (hs : s.length ≤ 1000000) (hp : p ≤ s.length) : Calls Try.prog 31 #[.string (str s), .int .i64 p, .int .u8 lo, .int .u8 hi] w (RetV w (.int .i64 ((p + run lo hi (s.drop p) : Nat) : Int))) := by
  obtain ⟨R0, hR0⟩ : ∃ r, r = p + run lo hi (s.drop p) := ⟨_, rfl⟩
  rw [← hR0]
  have HR0 := Lib.hid hR0
  clear hR0
  go_enter Try.func31, Try.ntmps31
  go_wp2_with (fail)
  go_loop [1] (fun i => ∃ k : Nat, k ≤ s.length ∧ i = .int .i64 k ∧ Hid (k + run lo hi (s.drop k) = R0)) (fun i => s.length - (intOf i).toNat)
  case atStart => exact ⟨p, hp, rfl, HR0.out.symm⟩
  case round =>
    obtain ⟨k, hk, rfl, H⟩ := hrel
    by_cases hlt : k < s.length
    · have R := run_at lo hi hlt
      have d1 : decide (k < s.length) = true := by simpa using hlt
      by_cases h1 : lo ≤ s[k].toNat
      · have d2 : decide (lo ≤ s[k].toNat) = true := by simpa using h1
        by_cases h2 : s[k].toNat ≤ hi
        · have d3 : decide (s[k].toNat ≤ hi) = true := by simpa using h2
          rw [if_pos ⟨h1, h2⟩] at R
          have H2 := Lib.hid (show k + 1 + run lo hi (s.drop (k + 1)) = R0 by rw [← H.out, R]; omega)
          clear R h1 h2 H
          go_wp2_with (fail)
          go_round
          case rel => exact ⟨k + 1, by omega, by go_num, H2.out⟩
          case measure => simp [intOf]; omega
        · have d3 : decide (s[k].toNat ≤ hi) = false := by simpa using h2
          rw [if_neg (fun h => h2 h.2)] at R
          have H2 := Lib.hid (show R0 = k by rw [← H.out, R]; omega)
          clear R h1 h2 H
          go_wp2_with (fail)
          go_ret
          exact RetV.int (by rw [H2.out]) (Below.refl _ _)
      · have d2 : decide (lo ≤ s[k].toNat) = false := by simpa using h1
        rw [if_neg (fun h => h1 h.1)] at R
        have H2 := Lib.hid (show R0 = k by rw [← H.out, R]; omega)
        clear R h1 H
        go_wp2_with (fail)
        go_ret
        exact RetV.int (by rw [H2.out]) (Below.refl _ _)
    · have d1 : decide (k < s.length) = false := by simpa using hlt
      have H2 := Lib.hid (show R0 = k by rw [← H.out, List.drop_eq_nil_of_le (by omega), run]; omega)
      clear hlt H
      go_wp2_with (fail)
      go_ret
      exact RetV.int (by rw [H2.out]) (Below.refl _ _)
set_option maxHeartbeats 1000000 in
theorem c_ref09_quote (s : List UInt8) (p : Nat) (w : World) (hs : s.length ≤ 1000000) (hp : p ≤ s.length) : Calls Try.prog 33 #[.string (str s), .int .i64 p] w (RetV w (.int .i64 (qt (s.drop (p + 1)) (p + 1) : Nat))) := by
  obtain ⟨R0, hR0⟩ : ∃ r, r = qt (s.drop (p + 1)) (p + 1) := ⟨_, rfl⟩
  rw [← hR0]
  have HR0 := Lib.hid hR0
  clear hR0
  go_enter Try.func33, Try.ntmps33
  go_wp2_with (fail)
  go_loop [5] (fun i => ∃ k : Nat, k ≤ s.length + 2 ∧ i = .int .i64 k ∧ Hid (qt (s.drop k) k = R0)) (fun i => s.length + 2 - (intOf i).toNat)
  case atStart => exact ⟨p + 1, by omega, by go_num, HR0.out.symm⟩
  case round =>
    obtain ⟨k, hk, rfl, H⟩ := hrel
    by_cases hlt : k < s.length
    · have d1 : decide (k < s.length) = true := by simpa using hlt
      have Q := qt_at hlt
      by_cases g1 : s[k].toNat = 34
      · have j1 : ((s[k].toNat : Int) == 34) = true := by rw [beq_iff_eq]; omega
        rw [if_pos g1] at Q
        have H2 := Lib.hid (H.out.symm.trans Q)
        clear Q g1 H
        go_wp2_with (fail)
        go_ret
        exact RetV.int (by rw [H2.out]; rfl) (Below.refl _ _)
      · have j1 : ((s[k].toNat : Int) == 34) = false := by rw [beq_eq_false_iff_ne]; omega
        rw [if_neg g1] at Q
        by_cases g2 : s[k].toNat = 92
        · have j2 : ((s[k].toNat : Int) == 92) = true := by rw [beq_iff_eq]; omega
          rw [if_pos g2] at Q
          have H2 := Lib.hid (Q.symm.trans H.out)
          clear Q g1 g2 H
          go_wp2_with (fail)
          go_round
          case rel => exact ⟨k + 2, by omega, by go_num, H2.out⟩
          case measure => simp [intOf]; omega
        · have j2 : ((s[k].toNat : Int) == 92) = false := by rw [beq_eq_false_iff_ne]; omega
          rw [if_neg g2] at Q
          have H2 := Lib.hid (Q.symm.trans H.out)
          clear Q g1 g2 H
          go_wp2_with (fail)
          go_round
          case rel => exact ⟨k + 1, by omega, by go_num, H2.out⟩
          case measure => simp [intOf]; omega
    · have d1 : decide (k < s.length) = false := by simpa using hlt
      have H2 := Lib.hid (show R0 = 0 by rw [← H.out, List.drop_eq_nil_of_le (by omega), qt_none])
      clear hlt H
      go_wp2_with (fail)
      go_ret
      exact RetV.int (by rw [H2.out]; rfl) (Below.refl _ _)
end Go.Proofs.Ytfgjhgecmelccaa
namespace Go.Proofs.Ytfgjhgecmelccaa
open Go.RowKit

/-- The bytes of a text, in a block of the call's own. -/
structure Laid (w w' : World) (A : Option Addr) (c : Nat) (l : List UInt8) : Prop where
  pos : A = some ⟨w.heap.size, 0, none⟩
  below : Below w.heap.size w w'
  size : w'.heap.size = w.heap.size + 1
  reads : InB w' A c l
theorem run_str_bytes {P : Program} (w : World) {src dst e : TypeId} (hs : P.underlying src = some .string) (hd : P.underlying dst = some (.slice e)) (he : P.underlying e = some (.int .u8)) (l : List UInt8) (hl : l.length ≤ 4294967296) :
    ∃ A c w', (convert src dst (.string (str l))).run P w = .ok (.slice A l.length c) w' ∧ Laid w w' A c l := by
  have h := run_bytes_of_string (P := P) w src dst e (str l) hs hd he
  have hge := grownCap_ge w (str l).size 0 e
  have hcm := grownCap_le_maxLen w (str l).size 0 e (by rw [str_size]; unfold maxLen; omega)
  rw [str_size] at h hge hcm
  refine ⟨_, _, _, h, rfl, ((Below.refl _ _).drew).alloc (Nat.le_refl _) _, World.size_alloc _ _, hge, by unfold maxLen at hcm; omega, hl, .inr ⟨w.heap.size, 0, rfl, by rw [World.size_alloc]; exact Nat.lt_succ_self _, ?_⟩⟩
  intro i hi j u hu
  have hj : j < 1 := (List.getElem?_eq_some_iff.1 hu).1
  have h0 : j = 0 := by omega
  subst h0
  have hb := bytesRow_at (str l) (grownCap w l.length 0 e) i (by show i < l.toArray.size; simpa using hi)
  have hc := cell_of_row (w.drew.alloc (.cells (bytesRow (str l) (grownCap w l.length 0 e)) e ((bytesRow (str l) (grownCap w l.length 0 e)).size, (bytesRow (str l) (grownCap w l.length 0 e)).size + 1))) w.heap.size (0 + i * 1 + 0) _ _ _ (heap_alloc_new w.drew _)
  rw [hc, show 0 + i * 1 + 0 = i by omega, hb]
  simp only [bc, List.getElem?_cons_zero, Option.some.injEq] at hu
  rw [← hu]
  rfl
theorem wpList_strbytes {P : Program} {w : World} {ops : Array Oper} {rest : List Oper} {o : Oper} {a : Act} {Q : Exit → Act → World → Prop} (hgd : o.guard = none) (src dst : TypeId) (x : Operand) (ho : o.op = .convert src dst x)
    {e : TypeId} (hs : P.underlying src = some .string) (hd : P.underlying dst = some (.slice e)) (he : P.underlying e = some (.int .u8)) (l : List UInt8) (hx : a.eval x = .string (str l)) (hl : l.length ≤ 4294967296)
    (h : ∀ A c w', Laid w w' A c l → wpList P ops Q rest (a.put o.dst (.slice A l.length c)) w') : wpList P ops Q (o :: rest) a w := by
  refine wpList_plain hgd fun K hK => ?_
  obtain ⟨A, c, w', hrun, hl'⟩ := run_str_bytes (P := P) w hs hd he l hl
  unfold Oper.wp execOp
  simp only [ho, hx, hrun, Sem.run_bind, Sem.run_pure, Result.andThen_ok]
  exact hK _ _ (h A c w' hl')
theorem stop_conv {P : Program} {w : World} {ops : Array Oper} {rest : List Oper} {o : Oper} {a : Act} {Q : Exit → Act → World → Prop} (src dst : TypeId) (x : Operand) (_ : o.guard = none) (_ : o.op = .convert src dst x) (h : Stop (wpList P ops Q (o :: rest) a w)) : wpList P ops Q (o :: rest) a w := h
end Go.Proofs.Ytfgjhgecmelccaa
