/-
  Lemmas (walks and plain laws), in one text.
-/
import Derived.Test.YtjhndilflcigiaaPe2
import Derived.Test.YtjhndilflcigiaaRows
import Derived.WalkKit
import Derived.WalkSpells
import Derived.WalkLawsBesides
import Derived.Lib.Hide
import Derived.Deep.QuietTactic
import Derived.BigQuiet
import Derived.Maps.AppendAt
import Derived.WalkSmall
import Derived.ProofKit
import Derived.OpenShut
import Derived.JoinedCond
import Derived.Deep.Slices
import Derived.Deep.Fields
import Derived.Carry
import Derived.Deep.AppendSrc
import Derived.Lib.AppendStr
import Derived.Laws.BytesArg
import Derived.Test.YtjhndilflcigiaaProg
import Derived.Deep.CutBlock
import Derived.Deep.DeepCutAuto
import Derived.WalkMore
import Derived.ScopeJumps
import Derived.Lib.Bytealg
import Derived.Laws.Externs
import Derived.Laws.IdiomStrings
import Derived.Outline
import Derived.IntWalk
import Derived.StillTail
import Derived.Laws.Tables
import Derived.Laws.Rows
import Derived.ChangeKeysEq
import Derived.Laws.StructEq
namespace Go.Proofs.Ytjhndilflcigiaa

structure Wd where
  kind : Int
  n : Int
  pos : Int
  s : List UInt8
deriving DecidableEq
def run (lo hi : Nat) : List UInt8 → Nat
  | [] => 0
  | c :: s => if lo ≤ c.toNat ∧ c.toNat ≤ hi then run lo hi s + 1 else 0
/-- How many bytes a text in quotes has; i of them, its first quote among them, lie ahead. -/
def qt : List UInt8 → Nat → Nat
  | [], _ => 0
  | [c], i => if c = 34 then i + 1 else 0
  | c :: d :: s, i => if c = 34 then i + 1 else if c = 92 then qt s (i + 2) else qt (d :: s) (i + 1)
def sign (c : UInt8) : Bool := c = 40 || c = 41 || c = 61 || c = 60 || c = 62 || c = 126
structure Fst where
  kind : Int
  n : Int
  s : List UInt8
  len : Nat
/-- The word that a text begins with. -/
def fst : List UInt8 → Option Fst
  | [] => none
  | c :: r =>
    if 97 ≤ c.toNat ∧ c.toNat ≤ 122 then some ⟨1, 0, (c :: r).take (run 97 122 (c :: r)), run 97 122 (c :: r)⟩
    else if 48 ≤ c.toNat ∧ c.toNat ≤ 57 then (intR ((c :: r).take (run 48 57 (c :: r))) 1099511627776).map fun (v : Nat) => (⟨2, (v : Int), [], run 48 57 (c :: r)⟩ : Fst)
    else if c = 34 then (if qt r 1 = 0 then none else match unquote ((c :: r).take (qt r 1)) with
      | none => none
      | some u => if u.length ≤ 24 then some ⟨3, 0, u, qt r 1⟩ else none)
    else if sign c then some ⟨4, 0, [c], 1⟩ else none
/-- The words of a text whose first byte stands at a place, and the place of what is wrong. -/
def lexF : Nat → List UInt8 → Nat → List Wd × Option Nat
  | 0, _, _ => ([], none)
  | _ + 1, [], _ => ([], none)
  | f + 1, c :: r, p =>
    if c = 32 then lexF f r (p + 1)
    else match fst (c :: r) with
      | none => ([], some p)
      | some x => (⟨x.kind, x.n, p, x.s⟩ :: (lexF f ((c :: r).drop x.len) (p + x.len)).1, (lexF f ((c :: r).drop x.len) (p + x.len)).2)

theorem run_le (lo hi : Nat) : ∀ s, run lo hi s ≤ s.length
  | [] => by simp [run]
  | c :: s => by
    have := run_le lo hi s
    unfold run; split <;> simp; omega
theorem run_take (lo hi : Nat) : ∀ s : List UInt8, ∀ c ∈ s.take (run lo hi s), lo ≤ c.toNat ∧ c.toNat ≤ hi
  | [] => by simp [run]
  | c :: s => by
    intro d hd
    unfold run at hd
    split at hd
    · rename_i h
      rw [List.take_succ_cons] at hd
      rcases List.mem_cons.1 hd with rfl | hd
      · exact h
      · exact run_take lo hi s d hd
    · simp at hd
theorem run_all (lo hi : Nat) : ∀ (s r : List UInt8), (∀ c ∈ s, lo ≤ c.toNat ∧ c.toNat ≤ hi) → (∀ c, r.head? = some c → ¬ (lo ≤ c.toNat ∧ c.toNat ≤ hi)) → run lo hi (s ++ r) = s.length
  | [], [], _, _ => rfl
  | [], c :: r, _, h => by
    rw [List.nil_append, run, if_neg (h c rfl)]; rfl
  | c :: s, r, h, hr => by
    rw [List.cons_append, run, if_pos (h c (List.mem_cons_self ..)), run_all lo hi s r (fun d hd => h d (List.mem_cons_of_mem _ hd)) hr]; rfl
theorem qt_le : ∀ (k : Nat) (s : List UInt8) (i : Nat), s.length ≤ k → qt s i ≤ i + s.length
  | _, [], i, _ => by simp [qt]
  | _, [c], i, _ => by unfold qt; split <;> simp
  | 0, c :: d :: s, i, h => by simp at h
  | k + 1, c :: d :: s, i, h => by
    have h1 := qt_le k s (i + 2) (by simp at h; omega)
    have h2 := qt_le k (d :: s) (i + 1) (by simp at h ⊢; omega)
    unfold qt
    split
    · simp
    · split
      · simp; omega
      · simp at h2 ⊢; omega
theorem qt_plain {c : UInt8} (h1 : c ≠ 34) (h2 : c ≠ 92) (s : List UInt8) (hs : s ≠ []) (i : Nat) : qt (c :: s) i = qt s (i + 1) := by
  cases s with
  | nil => exact absurd rfl hs
  | cons d s => rw [qt, if_neg h1, if_neg h2]
theorem qt_esc (d : UInt8) (s : List UInt8) (i : Nat) : qt (92 :: d :: s) i = qt s (i + 2) := by rw [qt, if_neg (by decide), if_pos rfl]
theorem qt_end (s : List UInt8) (i : Nat) : qt (34 :: s) i = i + 1 := by
  cases s with
  | nil => rw [qt, if_pos rfl]
  | cons d s => rw [qt, if_pos rfl]
theorem hexD_ne {n : Nat} (h : n < 16) : hexD n ≠ 34 ∧ hexD n ≠ 92 := by
  have e := hexV_D h
  constructor
  · intro h0
    rw [h0] at e
    have : hexV 34 = 16 := by decide
    omega
  · intro h0
    rw [h0] at e
    have : hexV 92 = 16 := by decide
    omega
theorem qt_quC (c : UInt8) (s : List UInt8) (hs : s ≠ []) (i : Nat) : qt (quC c ++ s) i = qt s (i + (quC c).length) := by
  have hc := c.toNat_lt
  unfold quC
  split
  · obtain ⟨a1, a2⟩ := hexD_ne (n := c.toNat / 16) (by omega)
    obtain ⟨b1, b2⟩ := hexD_ne (n := c.toNat % 16) (Nat.mod_lt _ (by omega))
    simp only [List.cons_append, List.nil_append, List.length_cons, List.length_nil]
    rw [qt_esc, qt_plain a1 a2 _ (by simp), qt_plain b1 b2 _ hs]
  · split
    · simp only [List.cons_append, List.nil_append, List.length_cons, List.length_nil]
      rw [qt_esc]
    · rename_i h1 h2
      simp only [List.cons_append, List.nil_append, List.length_cons, List.length_nil]
      rw [qt_plain (fun h => h2 (.inl h)) (fun h => h2 (.inr h)) _ hs]
theorem qt_quote : ∀ (s r : List UInt8) (i : Nat), qt (s.flatMap quC ++ 34 :: r) i = i + (s.flatMap quC).length + 1
  | [], r, i => by simp [qt_end]
  | c :: s, r, i => by
    rw [List.flatMap_cons, List.append_assoc, qt_quC c _ (by simp), qt_quote s r, List.length_append]; omega

/-- What a word is. -/
def Wd.may (kind n : Int) (s : List UInt8) : Prop :=
  (kind = 1 ∧ n = 0 ∧ s ≠ [] ∧ ∀ c ∈ s, 97 ≤ c.toNat ∧ c.toNat ≤ 122) ∨ (kind = 2 ∧ s = [] ∧ 0 ≤ n ∧ n ≤ 1099511627776) ∨ (kind = 3 ∧ n = 0 ∧ s.length ≤ 24) ∨ (kind = 4 ∧ n = 0 ∧ ∃ c, s = [c] ∧ sign c = true)
def wText (kind n : Int) (s : List UInt8) : List UInt8 := if kind = 2 then tens n.toNat else if kind = 3 then quote s else s
def Apart (r : List UInt8) : Prop := ∀ c, r.head? = some c → c = 32
theorem sign_not {c : UInt8} (h : sign c = true) : ¬ (97 ≤ c.toNat ∧ c.toNat ≤ 122) ∧ ¬ (48 ≤ c.toNat ∧ c.toNat ≤ 57) ∧ c ≠ 34 ∧ c ≠ 32 := by
  unfold sign at h
  simp only [Bool.or_eq_true, decide_eq_true_eq] at h
  rcases h with ((((rfl | rfl) | rfl) | rfl) | rfl) | rfl <;> decide
/-- A word's text, with nothing or a blank behind it, begins with that word. -/
theorem fst_text {kind n : Int} {s r : List UInt8} (h : Wd.may kind n s) (hr : Apart r) : fst (wText kind n s ++ r) = some ⟨kind, n, s, (wText kind n s).length⟩ ∧ 0 < (wText kind n s).length ∧ (wText kind n s ++ r).head? ≠ some 32 := by
  rcases h with ⟨rfl, rfl, hs, hc⟩ | ⟨rfl, rfl, h0, h1⟩ | ⟨rfl, rfl, hl⟩ | ⟨rfl, rfl, c, rfl, hc⟩
  · unfold wText
    rw [if_neg (by decide), if_neg (by decide)]
    have hrun := run_all 97 122 s r hc (fun c h => by rw [hr c h]; decide)
    cases s with
    | nil => exact absurd rfl hs
    | cons c s =>
      have hcc := hc c (List.mem_cons_self ..)
      rw [List.cons_append] at hrun ⊢
      rw [fst, if_pos hcc, hrun]
      refine ⟨?_, by simp, ?_⟩
      · have : (c :: (s ++ r)).take (c :: s).length = c :: s := by rw [← List.cons_append]; exact List.take_left
        rw [this]
      · intro h
        simp only [List.head?_cons, Option.some.injEq] at h
        subst h
        exact absurd hcc (by decide)
  · unfold wText
    rw [if_pos rfl]
    have hd := tens_digits n.toNat
    have hrun := run_all 48 57 (tens n.toNat) r hd (fun c h => by rw [hr c h]; decide)
    have hne := tens_ne n.toNat
    have hint := intR_tens (n := n.toNat) (most := 1099511627776) (by omega) (by omega)
    cases ht : tens n.toNat with
    | nil => exact absurd ht hne
    | cons c t =>
      rw [ht] at hd hrun hint
      have hcc := hd c (List.mem_cons_self ..)
      rw [List.cons_append] at hrun ⊢
      rw [fst, if_neg (by omega), if_pos hcc, hrun]
      have : (c :: (t ++ r)).take (c :: t).length = c :: t := by rw [← List.cons_append]; exact List.take_left
      rw [this, hint]
      refine ⟨?_, by simp, ?_⟩
      · simp only [Option.map_some]
        rw [Int.toNat_of_nonneg h0]
      · intro h
        simp only [List.head?_cons, Option.some.injEq] at h
        subst h
        exact absurd hcc (by decide)
  · unfold wText
    rw [if_neg (by decide), if_pos rfl]
    have hq := qt_quote s r 1
    have hlen : (quote s).length = 1 + (s.flatMap quC).length + 1 := by unfold quote; simp; omega
    have e : quote s ++ r = 34 :: (s.flatMap quC ++ 34 :: r) := by unfold quote; simp
    rw [e, fst, if_neg (by decide), if_neg (by decide), if_pos rfl, hq, if_neg (by omega), ← e, ← hlen, List.take_left, unquote_quote]
    simp only
    rw [if_pos hl]
    refine ⟨rfl, by omega, by rw [e]; simp⟩
  · unfold wText
    rw [if_neg (by decide), if_neg (by decide)]
    obtain ⟨h1, h2, h3, h4⟩ := sign_not hc
    rw [List.cons_append, fst, if_neg h1, if_neg h2, if_neg h3, if_pos hc]
    exact ⟨rfl, by simp, by simpa using h4⟩
theorem fst_may {s : List UInt8} {x : Fst} (h : fst s = some x) : Wd.may x.kind x.n x.s ∧ 0 < x.len ∧ x.len ≤ s.length := by
  cases s with
  | nil => cases h
  | cons c r =>
    rw [fst] at h
    split at h
    · rename_i hc
      injection h with h
      subst h
      have h1 := run_le 97 122 (c :: r)
      have h2 : 0 < run 97 122 (c :: r) := by rw [run, if_pos hc]; omega
      refine ⟨.inl ⟨rfl, rfl, ?_, run_take 97 122 (c :: r)⟩, h2, h1⟩
      intro h0
      have := congrArg List.length h0
      rw [List.length_take] at this
      simp only [List.length_nil] at this
      omega
    · split at h
      · rename_i hc
        obtain ⟨v, hv, rfl⟩ := Option.map_eq_some_iff.1 h
        obtain ⟨_, h3, _⟩ := tens_intR hv
        have h1 := run_le 48 57 (c :: r)
        have h2 : 0 < run 48 57 (c :: r) := by rw [run, if_pos hc]; omega
        exact ⟨.inr (.inl ⟨rfl, rfl, by simp only; omega, by simp only; omega⟩), h2, h1⟩
      · split at h
        · split at h
          · cases h
          · rename_i h0
            cases hu : unquote ((c :: r).take (qt r 1)) with
            | none => rw [hu] at h; cases h
            | some u =>
              rw [hu] at h
              simp only at h
              split at h
              · rename_i hl
                injection h with h
                subst h
                have := qt_le r.length r 1 (Nat.le_refl _)
                exact ⟨.inr (.inr (.inl ⟨rfl, rfl, hl⟩)), by simp only; omega, by simp only [List.length_cons]; omega⟩
              · cases h
        · split at h
          · rename_i hc
            injection h with h
            subst h
            exact ⟨.inr (.inr (.inr ⟨rfl, rfl, c, rfl, hc⟩)), by simp, by simp⟩
          · cases h
theorem lexF_may : ∀ f s p, ∀ w ∈ (lexF f s p).1, Wd.may w.kind w.n w.s
  | 0, _, _, w, h => by simp [lexF] at h
  | f + 1, [], p, w, h => by simp [lexF] at h
  | f + 1, c :: r, p, w, h => by
    rw [lexF] at h
    split at h
    · exact lexF_may f r (p + 1) w h
    · cases hx : fst (c :: r) with
      | none => rw [hx] at h; simp at h
      | some x =>
        rw [hx] at h
        simp only at h
        rcases List.mem_cons.1 h with rfl | h
        · exact (fst_may hx).1
        · exact lexF_may f _ _ w h
/-! Words put one behind the other. -/
def Wd.text (w : Wd) : List UInt8 := wText w.kind w.n w.s
def gap (p : Nat) : List UInt8 := if p = 0 then [] else [32]
def joinW : Nat → List Wd → List UInt8
  | _, [] => []
  | p, w :: l => gap p ++ (w.text ++ joinW (p + (gap p).length + w.text.length) l)
def wantW : Nat → List Wd → List Wd
  | _, [] => []
  | p, w :: l => ⟨w.kind, w.n, p + (gap p).length, w.s⟩ :: wantW (p + (gap p).length + w.text.length) l
theorem joinW_apart (p : Nat) (hp : 0 < p) (l : List Wd) : Apart (joinW p l) := by
  intro c h
  cases l with
  | nil => simp [joinW] at h
  | cons w l =>
    rw [joinW, gap, if_neg (by omega)] at h
    simpa using h.symm
theorem lexF_more : ∀ f s p, s.length ≤ f → lexF f s p = lexF s.length s p := by
  intro f
  induction f using Nat.strongRecOn with
  | _ f ih =>
    intro s p h
    cases s with
    | nil => cases f <;> rfl
    | cons c r =>
      cases f with
      | zero => simp at h
      | succ f =>
        rw [List.length_cons, lexF, lexF]
        split
        · exact ih f (by omega) r (p + 1) (by simpa using h)
        · cases hx : fst (c :: r) with
          | none => rfl
          | some x =>
            obtain ⟨_, h1, h2⟩ := fst_may hx
            simp only
            have hl : ((c :: r).drop x.len).length ≤ r.length := by rw [List.length_drop, List.length_cons]; omega
            rw [ih f (by omega) _ _ (by simp at h; omega)]
            by_cases hrf : r.length < f + 1
            · rw [ih r.length hrf ((c :: r).drop x.len) (p + x.len) hl]
            · simp at h; omega
theorem lexF_word {f : Nat} {w : Wd} (h : Wd.may w.kind w.n w.s) {r : List UInt8} (hr : Apart r) (p : Nat) (hf : (w.text ++ r).length ≤ f) :
    lexF f (w.text ++ r) p = (⟨w.kind, w.n, p, w.s⟩ :: (lexF r.length r (p + w.text.length)).1, (lexF r.length r (p + w.text.length)).2) := by
  obtain ⟨h1, h2, h3⟩ := fst_text h hr
  have hw : w.text = wText w.kind w.n w.s := rfl
  rw [← hw] at h1 h2 h3
  rw [lexF_more f _ p hf]
  cases ht : w.text ++ r with
  | nil =>
    have := congrArg List.length ht
    rw [List.length_append, List.length_nil] at this
    omega
  | cons c t =>
    rw [ht] at h1 h3
    rw [List.length_cons, lexF, if_neg (fun h => h3 (by rw [h]; rfl)), h1]
    simp only
    rw [← ht, List.drop_left, lexF_more t.length r _ (by
      have := congrArg List.length ht
      rw [List.length_append, List.length_cons] at this
      omega)]
theorem lexF_gap (f p : Nat) (s : List UInt8) (h : (gap p ++ s).length ≤ f) : lexF f (gap p ++ s) p = lexF s.length s (p + (gap p).length) := by
  rw [lexF_more f _ p h]
  unfold gap
  split
  · rfl
  · rw [List.singleton_append, List.length_cons, lexF, if_pos rfl]; rfl
/-- Words that are put one behind the other are those words again. -/
theorem lexF_join : ∀ (l : List Wd) (p : Nat), (∀ w ∈ l, Wd.may w.kind w.n w.s) → lexF (joinW p l).length (joinW p l) p = (wantW p l, none)
  | [], p, _ => by simp [joinW, wantW, lexF]
  | w :: l, p, h => by
    have hw := h w (List.mem_cons_self ..)
    have hpos : 0 < w.text.length := (fst_text (r := []) hw (by intro c h; simp at h)).2.1
    rw [joinW, wantW, lexF_gap _ p _ (Nat.le_refl _), lexF_word hw (joinW_apart _ (by omega) l) _ (Nat.le_refl _), lexF_join l _ (fun x hx => h x (List.mem_cons_of_mem _ hx))]
    simp
end Go.Proofs.Ytjhndilflcigiaa
namespace Go.Proofs.Ytjhndilflcigiaa
open Go.RowKit

theorem run_at (lo hi : Nat) {s : List UInt8} {k : Nat} (h : k < s.length) : run lo hi (s.drop k) = if lo ≤ s[k].toNat ∧ s[k].toNat ≤ hi then run lo hi (s.drop (k + 1)) + 1 else 0 := by
  rw [List.drop_eq_getElem_cons h, run]
set_option maxHeartbeats 1000000 in
theorem c_lex_run (s : List UInt8) (lo hi : Nat) (w : World) (hs : s.length ≤ 1000000) : Calls Try.prog 62 #[.string (str s), .int .u8 lo, .int .u8 hi] w (RetV w (.int .i64 (run lo hi s : Nat))) := by
  go_enter Try.func62, Try.ntmps62
  go_wp2_with (fail)
  go_loop [7] (fun i => ∃ k : Nat, k ≤ s.length ∧ i = .int .i64 k ∧ Hid (k + run lo hi (s.drop k) = run lo hi s)) (fun i => s.length - (intOf i).toNat)
  case atStart => exact ⟨0, by omega, rfl, by show _ = _; simp⟩
  case round =>
    obtain ⟨k, hk, rfl, H⟩ := hrel
    by_cases hlt : k < s.length
    · have R := run_at lo hi hlt
      have d1 : decide (k < s.length) = true := by simpa using hlt
      by_cases h1 : lo ≤ s[k].toNat
      · have d2 : decide (lo ≤ s[k].toNat) = true := by simpa using h1
        by_cases h2 : s[k].toNat ≤ hi
        · have d3 : decide (s[k].toNat ≤ hi) = true := by simpa using h2
          rw [if_pos ⟨h1, h2⟩] at R
          have H2 := Lib.hid (show k + 1 + run lo hi (s.drop (k + 1)) = run lo hi s by rw [← H.out, R]; omega)
          clear R h1 h2 H
          go_wp2_with (fail)
          go_round
          case rel => exact ⟨k + 1, by omega, by go_num, H2.out⟩
          case measure => simp [intOf]; omega
        · have d3 : decide (s[k].toNat ≤ hi) = false := by simpa using h2
          rw [if_neg (fun h => h2 h.2)] at R
          have H2 := Lib.hid (show run lo hi s = k by rw [← H.out, R]; omega)
          clear R h1 h2 H
          go_wp2_with (fail)
          go_ret
          exact RetV.int (by rw [H2.out]) (Below.refl _ _)
      · have d2 : decide (lo ≤ s[k].toNat) = false := by simpa using h1
        rw [if_neg (fun h => h1 h.1)] at R
        have H2 := Lib.hid (show run lo hi s = k by rw [← H.out, R]; omega)
        clear R h1 H
        go_wp2_with (fail)
        go_ret
        exact RetV.int (by rw [H2.out]) (Below.refl _ _)
    · have d1 : decide (k < s.length) = false := by simpa using hlt
      have H2 := Lib.hid (show run lo hi s = k by rw [← H.out, List.drop_eq_nil_of_le (by omega), run]; omega)
      clear hlt H
      go_wp2_with (fail)
      go_ret
      exact RetV.int (by rw [H2.out]) (Below.refl _ _)
theorem qt_none (k : Nat) : qt [] k = 0 := by rw [qt]
theorem qt_34 {c : UInt8} {r : List UInt8} (h : c.toNat = 34) (k : Nat) : qt (c :: r) k = k + 1 := by
  have : c = 34 := UInt8.toNat_inj.1 h
  rw [this]; exact qt_end r k
theorem qt_92 {c : UInt8} {r : List UInt8} (h : c.toNat = 92) (k : Nat) : qt (c :: r) k = qt (r.drop 1) (k + 2) := by
  have : c = 92 := UInt8.toNat_inj.1 h
  rw [this]
  cases r with
  | nil => rw [qt, if_neg (by decide), List.drop_nil, qt_none]
  | cons d r => rw [qt_esc]; rfl
theorem qt_other {c : UInt8} {r : List UInt8} (h1 : c.toNat ≠ 34) (h2 : c.toNat ≠ 92) (k : Nat) : qt (c :: r) k = qt r (k + 1) := by
  have n1 : c ≠ 34 := fun e => h1 (by rw [e]; rfl)
  have n2 : c ≠ 92 := fun e => h2 (by rw [e]; rfl)
  cases r with
  | nil =>
    rw [qt_none]
    unfold qt
    rw [if_neg n1]
  | cons d r => exact qt_plain n1 n2 _ (by simp) k
theorem qt_at {s : List UInt8} {k : Nat} (h : k < s.length) : qt (s.drop k) k = if s[k].toNat = 34 then k + 1 else if s[k].toNat = 92 then qt (s.drop (k + 2)) (k + 2) else qt (s.drop (k + 1)) (k + 1) := by
  rw [List.drop_eq_getElem_cons h]
  split
  · next h1 => exact qt_34 h1 k
  · next h1 =>
    split
    · next h2 => rw [qt_92 h2, List.drop_drop]
    · next h2 => exact qt_other h1 h2 k
set_option maxHeartbeats 2000000 in
theorem c_lex_quoted (s : List UInt8) (w : World) (hs : s.length ≤ 1000000) : Calls Try.prog 64 #[.string (str s)] w (RetV w (.int .i64 (qt (s.drop 1) 1 : Nat))) := by
  go_enter Try.func64, Try.ntmps64
  go_wp2_with (fail)
  refine wp_scope_jumps 0 (fun a' w' => w' = w ∧ ∃ (k : Nat) (u1 u2 u4 u5 u6 u7 u8 u9 u10 u11 u12 u13 u14 u15 u16 u17 u18 u19 u20 u21 u22 u23 u24 : Value), a' = { tmps := #[.string (str s), u1, u2, .int .i64 k, u4, u5, u6, u7, u8, u9, u10, u11, u12, u13, u14, u15, u16, u17, u18, u19, u20, u21, u22, u23, u24], defers := [] } ∧ Hid (qt (s.drop k) k = qt (s.drop 1) 1) ∧ k ≤ s.length + 1) (fun a' _ => s.length + 1 - (intOf (a'.tmps.getD 3 undef)).toNat) rfl ?_ ?_
  · go_wp2_with (fail)
    go_step3
    by_cases hlt : 1 < s.length
    · have d1 : decide ((s.length : Int) ≤ 1) = false := by rw [decide_eq_false_iff_not]; omega
      have Q := qt_at hlt
      by_cases g1 : s[1].toNat = 34
      · have j1 : ((s[1].toNat : Int) == 34) = true := by rw [beq_iff_eq]; omega
        rw [if_pos g1] at Q
        have H2 := Lib.hid ((show qt (s.drop 1) 1 = qt (s.drop 1) 1 from rfl).symm.trans Q)
        clear Q g1
        go_wp2_with (fail)
        simp only [Exit.jump]
        go_ret
        exact RetV.int (by first | (rw [H2.out]; rfl) | (rw [← List.drop_one, H2.out]; rfl)) (Below.refl _ _)
      · have j1 : ((s[1].toNat : Int) == 34) = false := by rw [beq_eq_false_iff_ne]; omega
        rw [if_neg g1] at Q
        by_cases g2 : s[1].toNat = 92
        · have j2 : ((s[1].toNat : Int) == 92) = true := by rw [beq_iff_eq]; omega
          rw [if_pos g2] at Q
          have H2 := Lib.hid (Q.symm.trans (show qt (s.drop 1) 1 = qt (s.drop 1) 1 from rfl))
          clear Q g1 g2
          go_wp2_with (fail)
          go_step3
          exact ⟨rfl, rfl, 3, _, _, _, _, _, _, _, _, _, _, _, _, _, _, _, _, _, _, _, _, _, _, _, rfl, H2.out, by omega⟩
        · have j2 : ((s[1].toNat : Int) == 92) = false := by rw [beq_eq_false_iff_ne]; omega
          rw [if_neg g2] at Q
          have H2 := Lib.hid (Q.symm.trans (show qt (s.drop 1) 1 = qt (s.drop 1) 1 from rfl))
          clear Q g1 g2
          go_wp2_with (fail)
          go_step3
          exact ⟨rfl, rfl, 2, _, _, _, _, _, _, _, _, _, _, _, _, _, _, _, _, _, _, _, _, _, _, _, rfl, H2.out, by omega⟩
    · have d1 : decide ((s.length : Int) ≤ 1) = true := by rw [decide_eq_true_iff]; omega
      have H2 := Lib.hid (show qt (s.drop 1) 1 = 0 by rw [List.drop_eq_nil_of_le (by omega), qt_none])
      clear hlt
      go_wp2_with (fail)
      simp only [Exit.jump]
      go_ret
      exact RetV.int (by first | (rw [H2.out]; rfl) | (rw [← List.drop_one, H2.out]; rfl)) (Below.refl _ _)
  · rintro a' w' ⟨rfl, k, u1, u2, u4, u5, u6, u7, u8, u9, u10, u11, u12, u13, u14, u15, u16, u17, u18, u19, u20, u21, u22, u23, u24, rfl, H, hk⟩
    by_cases hlt : k < s.length
    · have d1 : decide (s.length ≤ k) = false := by simpa using hlt
      have Q := qt_at hlt
      by_cases g1 : s[k].toNat = 34
      · have j1 : ((s[k].toNat : Int) == 34) = true := by rw [beq_iff_eq]; omega
        rw [if_pos g1] at Q
        have H2 := Lib.hid ((H.out).symm.trans Q)
        clear Q g1
        go_wp2_with (fail)
        simp only [Exit.jump]
        go_ret
        exact RetV.int (by first | (rw [H2.out]; rfl) | (rw [← List.drop_one, H2.out]; rfl)) (Below.refl _ _)
      · have j1 : ((s[k].toNat : Int) == 34) = false := by rw [beq_eq_false_iff_ne]; omega
        rw [if_neg g1] at Q
        by_cases g2 : s[k].toNat = 92
        · have j2 : ((s[k].toNat : Int) == 92) = true := by rw [beq_iff_eq]; omega
          rw [if_pos g2] at Q
          have H2 := Lib.hid (Q.symm.trans (H.out))
          clear Q g1 g2
          go_wp2_with (fail)
          go_step3
          try rw [show (k : Int) + 1 + 1 = ((k + 2 : Nat) : Int) by omega]
          try rw [show (k : Int) + 2 = ((k + 2 : Nat) : Int) by omega]
          exact ⟨rfl, ⟨rfl, k + 2, _, _, _, _, _, _, _, _, _, _, _, _, _, _, _, _, _, _, _, _, _, _, _, rfl, H2.out, by omega⟩, by simp [intOf]; omega⟩
        · have j2 : ((s[k].toNat : Int) == 92) = false := by rw [beq_eq_false_iff_ne]; omega
          rw [if_neg g2] at Q
          have H2 := Lib.hid (Q.symm.trans (H.out))
          clear Q g1 g2
          go_wp2_with (fail)
          go_step3
          try rw [show (k : Int) + 1 = ((k + 1 : Nat) : Int) by omega]
          exact ⟨rfl, ⟨rfl, k + 1, _, _, _, _, _, _, _, _, _, _, _, _, _, _, _, _, _, _, _, _, _, _, _, rfl, H2.out, by omega⟩, by simp [intOf]; omega⟩
    · have d1 : decide (s.length ≤ k) = true := by simpa using hlt
      have H2 := Lib.hid (show qt (s.drop 1) 1 = 0 by rw [← H.out]; rw [List.drop_eq_nil_of_le (by omega), qt_none])
      clear hlt
      go_wp2_with (fail)
      simp only [Exit.jump]
      go_ret
      exact RetV.int (by first | (rw [H2.out]; rfl) | (rw [← List.drop_one, H2.out]; rfl)) (Below.refl _ _)
end Go.Proofs.Ytjhndilflcigiaa
