/-
  Lemmas (walks and plain laws), in one text.
-/
import Derived.Test.YtfgjhgecmelccaaLw2
import Derived.WalkKit
import Derived.WalkSpells
import Derived.WalkLawsBesides
import Derived.Lib.Hide
import Derived.Deep.QuietTactic
import Derived.BigQuiet
import Derived.Maps.AppendAt
import Derived.WalkSmall
import Derived.StillTail
import Derived.RangeFuncNested
import Derived.RangeFuncCalls
import Derived.OrdersIn
import Derived.ControlIn
import Derived.Test.YtfgjhgecmelccaaProg
import Derived.Deep.CutBlock
import Derived.Deep.DeepCutAuto
import Derived.Deep.AppendSrc
import Derived.Lib.AppendStr
import Derived.Laws.BytesArg
import Derived.WalkMore
import Derived.ScopeJumps
import Derived.Lib.Bytealg
import Derived.Laws.Externs
import Derived.Laws.IdiomStrings
import Derived.Outline
import Derived.IntWalk
import Derived.Laws.Tables
import Derived.Laws.Rows
import Derived.ChangeKeysEq
import Derived.Laws.StructEq
import Derived.RangeFuncBound
import Derived.RangeFuncLeaves
import Derived.OwnWalkIn
import Derived.LoopIn
import Derived.Shelf.Abstract
import Derived.Test.YtfgjhgecmelccaaRows
import Derived.ProofKit
import Derived.OpenShut
import Derived.JoinedCond
import Derived.Deep.Slices
import Derived.Deep.Fields
import Derived.Carry
namespace Go.Proofs.Ytfgjhgecmelccaa
open Go.RowKit

/-- An iterator that hands over N things in a known order; q: the block that it writes. -/
def IdxSeq (F : Fence) (n : Nat) (P : Program) (g : Nat) (lb : Array Value) (encs : Nat → Array Value) (Kp : World → World → Prop) (q : Option Nat) (N : Nat) (T : World → Prop) : Prop :=
  ∀ (l : Nat) (J : Nat → World → Prop) (W : World), (∀ k A B, J k A → A.grownBy B q → J k B) →
    (∀ k W1, k < N → J k W1 → YieldAt F (n - 1) P l (encs k) W1 fun e W' => e = .returned (.bool true) ∧ J (k + 1) W' ∧ Kp W1 W') →
    T W → J 0 W → CallsIn F n P g (#[.func (.yield l) #[] #[]] ++ lb) W fun e W' => (∃ v, e = .returned v) ∧ J N W'
/-- What a round's body owes. -/
def roundOwes (B : Nat) (Kp : World → World → Prop) (I : Nat → World → Prop) (k : Nat) (W : World) : Exit → Act → World → Prop
  | .normal, _, W' => KeepsFrom B W W' ∧ Kp W W' ∧ I (k + 1) W'
  | _, _, _ => False
theorem grownBy_same {A B : World} {q : Option Nat} (h : A.grownBy B q) {k : Nat} {o : Obj} (hk : A.heap[k]? = some o) (hq : q ≠ some k) : B.heap[k]? = some o :=
  (h.block k (Array.getElem?_eq_some_iff.1 hk).1 (fun e => hq e.symm)).trans hk
theorem wpIn_rangeFunc_idx {F : Fence} {n : Nat} {P : Program} {g : Operand} {ps : Array Tmp} {assign body : Code} {Q : Exit → Act → World → Prop} {a : Act} {w : World}
    (hro : F.round = none) (h1 : 1 ≤ n) {gf : Nat} {lb : Array Value} (hg : a.eval g = .func (.func gf) #[] lb) (hFg : F.fn gf) (eg : ∀ args w, (callFunc gf args).run P w = .ok (.enter gf args) w)
    {encs : Nat → Array Value} {Kp : World → World → Prop} {q : Option Nat} {N : Nat} {T : World → Prop} (hseq : IdxSeq F (n - 1) P gf lb encs Kp q N T) (hq : ∀ k, q = some k → k < w.heap.size)
    (hT : ∀ W', Below w.heap.size w W' → T W')
    (hKt : ∀ {A B C : World}, Kp A B → Kp B C → Kp A C) (hKb : ∀ (W : World) (l : Nat) (o o' : Obj), w.heap.size ≤ l → W.heap[l]? = some o → o.isCells = false → o.isWalk = false → Kp W (W.putObj l o')) (hps : ∀ x, (encs x).size = ps.size)
    (I : Nat → World → Prop) (hIq : ∀ k A B, I k A → A.grownBy B q → I k B) (hI : OwnFrom w.heap.size I) (h0 : I 0 w) (Ax : Nat → Act → World → Prop) (hAx : ∀ x a', OwnFrom w.heap.size (fun (_ : Unit) W => Ax x a' W))
    (hassign : ∀ (l k : Nat) (W : World) (K : Act → World → Prop), k < N → I k W → (∀ a' W', KeepsFrom w.heap.size W W' → Kp W W' → I k W' → Ax k a' W' → K a' W') →
      assign.wpIn (F.inRound l) (n - 1 - 1) P (Exit.then K (fun _ _ _ => False)) { tmps := (ps.zip (encs k)).foldl (fun t (p, v) => t.setIfInBounds p v) a.tmps, defers := [] } W)
    (hbody : ∀ (l k : Nat) (a' : Act) (W : World), k < N → w.heap.size ≤ l → I k W → Ax k a' W → body.wpIn (F.inRound l) (n - 1 - 1) P (roundOwes w.heap.size Kp I k W) a' W)
    (hdone : ∀ (D : Nat) (W : World), w.heap.size ≤ D → I N W → W.heap[D]? = some (.deferred (some [])) → Q .normal { a with defers := { target := .collected D, args := #[] } :: a.defers } W) :
    (Code.rangeFunc g ps assign body).wpIn F n P Q a w := by
  refine wpIn_rangeFunc ?_
  intro fn hfn
  rw [hro]
  obtain ⟨rec, hrec⟩ : ∃ rec : LoopState → Option Code → Loop, rec = fun st pe => { state := st, pending := pe, fn, tmps := a.tmps, params := ps, assign, body, defers := w.heap.size } := ⟨_, rfl⟩
  obtain ⟨W1, hW1⟩ : ∃ W1, (w.alloc (.deferred (some []))).alloc (.loop (rec .ready none)) = W1 := ⟨_, rfl⟩
  have hL1 : W1.heap[w.heap.size + 1]? = some (.loop (rec .ready none)) := by
    rw [← hW1]; have := World.alloc_heap_new (w.alloc (.deferred (some []))) (.loop (rec .ready none)); rwa [World.size_alloc] at this
  have hK1 : W1.heap[w.heap.size]? = some (.deferred (some [])) := by
    rw [← hW1]; exact (Below.heap_alloc _ _ _ (by simp)).trans (World.alloc_heap_new w _)
  have hI1 : I 0 W1 := by rw [← hW1]; exact hI.alloc _ (hI.alloc _ h0)
  have hb1 : Below w.heap.size w W1 := by
    rw [← hW1]; exact ((Below.refl _ w).alloc (Nat.le_refl _) _).alloc (by simp) _
  have hql : q ≠ some (w.heap.size + 1) := fun e => by have := hq _ e; omega
  have hqD : q ≠ some w.heap.size := fun e => by have := hq _ e; omega
  refine ⟨w.heap.size + 1, [{ target := .collected w.heap.size, args := #[] }], W1, { target := .fn (.func gf) lb, args := #[.func (.yield (w.heap.size + 1)) #[] #[]] }, W1, gf,
    #[.func (.yield (w.heap.size + 1)) #[] #[]] ++ lb, W1, ?_, ?_, ?_, ?_, fun _ => h1, ?_⟩
  · rw [← hW1, hrec]; exact run_enterLoop_outer _ _ _ _ _
  · simp only [resolve, hg]
    simp [go_sem]
  · intro f' hf'; simp [Target.leads] at hf'; subst hf'; exact hFg
  · simp [invoke, go_sem, eg]
  · refine (hseq (w.heap.size + 1)
      (fun k W => I k W ∧ W.heap[w.heap.size + 1]? = some (.loop (rec .ready none)) ∧ W.heap[w.heap.size]? = some (.deferred (some [])))
      W1 (fun k A B hs hg' => ⟨hIq k A B hs.1 hg', grownBy_same hg' hs.2.1 hql, grownBy_same hg' hs.2.2 hqD⟩) ?_ (hT _ hb1) ⟨hI1, hL1, hK1⟩).mono ?_
    · rintro k W hkN ⟨hi, hl, hk⟩
      have hlt : w.heap.size + 1 < W.heap.size := (Array.getElem?_eq_some_iff.1 hl).1
      have hy := run_yield (P := P) (args := encs k) hl (by rw [hrec]; exact hps k)
      rw [hrec] at hy
      refine ⟨fn, _, assign, body, hy, roundIn_of_wpIn hfn (hassign _ k W _ hkN hi ?_)⟩
      clear hy
      intro a' Wa hkfa hkpa hia hax
      replace hl := hkfa.same _ _ (by omega) hl rfl
      replace hk := hkfa.same _ _ (Nat.le_refl _) hk rfl
      replace hlt : w.heap.size + 1 < Wa.heap.size := (Array.getElem?_eq_some_iff.1 hl).1
      refine ⟨_, run_beginRound hl (by rw [hrec]), ?_⟩
      have hl2 : (Wa.putObj (w.heap.size + 1) (.loop { rec .ready none with state := .busy })).heap[w.heap.size + 1]? = some (.loop { rec .ready none with state := .busy }) := World.putObj_heap_same hlt
      have hk2 : (Wa.putObj (w.heap.size + 1) (.loop { rec .ready none with state := .busy })).heap[w.heap.size]? = some (.deferred (some [])) := (World.putObj_heap_other (by omega)).trans hk
      have hw2 : Kp Wa (Wa.putObj (w.heap.size + 1) (.loop { rec .ready none with state := .busy })) := hKb _ _ _ _ (by omega) hl rfl rfl
      refine wpIn_mono (hbody _ k a' _ hkN (by omega) (hI.putObj _ hia (by omega) hl rfl) ((hAx k a').putObj (s := ()) _ hax (by omega) hl rfl)) ?_
      rintro e a3 W3 hp
      cases e with
      | normal =>
        obtain ⟨hk3, hkp3, hi3⟩ := hp
        have hl3 := hk3.same _ _ (by omega) hl2 rfl
        have hr := run_endRound (P := P) none hl3
        rw [hrec] at hr
        refine ⟨_, _, hr, rfl, ⟨hI.putObj _ hi3 (by omega) hl3 rfl, ?_, (World.putObj_heap_other (by omega)).trans (hk3.same _ _ (Nat.le_refl _) hk2 rfl)⟩, hKt hkpa (hKt (hKt hw2 hkp3) (hKb _ _ _ _ (by omega) hl3 rfl rfl))⟩
        rw [hrec]; exact World.putObj_heap_same (Array.getElem?_eq_some_iff.1 hl3).1
      | ret => exact hp.elim
      | exit id => exact hp.elim
      | goto t => exact hp.elim
      | panic ch => exact hp.elim
      | outgrown => exact hp.elim
    · rintro e W2 ⟨⟨v, rfl⟩, hi, hl, hk⟩
      exact ⟨none, _, by have := run_endLoop (P := P) hl (by rw [hrec]; simp); rw [hrec] at this; exact this, hdone _ _ (Nat.le_refl _) (hI.putObj _ hi (by omega) hl rfl) ((World.putObj_heap_other (by omega)).trans hk)⟩
end Go.Proofs.Ytfgjhgecmelccaa
namespace Go.Proofs.Ytfgjhgecmelccaa
open Go.RowKit

def bc (b : UInt8) : List Value := [.int .u8 b.toNat]
theorem bc_len (b : UInt8) : (bc b).length = 1 := rfl
/-- A slice of bytes. -/
abbrev InB := In 1 bc

theorem RetV.str {w w' : World} {a b : List UInt8} (h : a = b) (hb : Below w.heap.size w w') : RetV w (.string (str b)) (.returned (.string (str a))) w' := ⟨by rw [h], hb⟩

theorem RetS.of {α : Type} {k : Nat} {cs : α → List Value} {et : TypeId} {w w' : World} {l l' : List α} {v : Value} {b : Nat} (h : w'.ownsRow b et k v l'.length (l'.flatMap cs)) (hb : w.heap.size ≤ b) (e : l' = l) (hB : Below w.heap.size w w') :
    RetS k cs et w l (.returned v) w' := ⟨v, rfl, by subst e; exact own_base h hb, hB⟩

/-! Numbers and texts as bytes. -/
def numF : Nat → Nat → List UInt8
  | 0, v => [UInt8.ofNat v]
  | f + 1, v => if v < 128 then [UInt8.ofNat v] else UInt8.ofNat (v % 128 + 128) :: numF f (v / 128)
def clampN (n : Int) : Nat := (min (max n 0) 1099511627776).toNat
@[irreducible] def num (n : Int) : List UInt8 := numF 6 (clampN n)
section
variable {P : Program} (w : World)
theorem Src.go {A : Option Addr} {m size c : Nat} {news : List Value} {tx e' : TypeId} (hk : P.underlying tx = some (.slice e')) (h : Src w A m size news) (h1 : ∀ u ∈ news, u.oneCell' = true) : Go.Src P size tx (.slice A m c) m news w := by
  rcases A with _ | ad
  · have hm : m = 0 := by
      rcases Nat.eq_zero_or_pos m with h0 | h0
      · exact h0
      · obtain ⟨ad, hh, _⟩ := h.2 h0; cases hh
    subst hm
    have hnil : news = [] := List.eq_nil_of_length_eq_zero (by simpa using h.1)
    subst hnil
    exact Go.Src.ofNil w hk c
  · refine Go.Src.ofSlice w hk ad m c news h.1 (fun j u hu => ?_) h1
    rcases Nat.eq_zero_or_pos m with h0 | h0
    · subst h0
      have hnil : news = [] := List.eq_nil_of_length_eq_zero (by simpa using h.1)
      subst hnil; simp at hu
    · obtain ⟨ad', hh, hc⟩ := h.2 h0
      injection hh with hh; subst hh; exact hc j u hu
theorem Src.first {A : Option Addr} {m size c : Nat} {news : List Value} (h : Src w A m size news) : (Builtin.firstCells size m (.slice A m c)).run P w.drew = .ok news.toArray w.drew := by
  rcases A with _ | ad
  · have hm : m = 0 := by
      rcases Nat.eq_zero_or_pos m with h0 | h0
      · exact h0
      · obtain ⟨ad, hh, _⟩ := h.2 h0; cases hh
    subst hm
    have hnil : news = [] := List.eq_nil_of_length_eq_zero (by simpa using h.1)
    subst hnil
    exact run_firstCells_none w.drew size 0 0 c
  · refine run_firstCells_some w.drew size m ad m c news h.1 (fun j u hu => ?_)
    rcases Nat.eq_zero_or_pos m with h0 | h0
    · subst h0
      have hnil : news = [] := List.eq_nil_of_length_eq_zero (by simpa using h.1)
      subst hnil; simp at hu
    · obtain ⟨ad', hh, hc⟩ := h.2 h0
      injection hh with hh; subst hh; exact hc j u hu
/-- A slice that is full, or a call's own. -/
def Held (w : World) (base : Nat) (e : TypeId) (size : Nat) (v : Value) (n : Nat) (xs : List Value) : Prop :=
  w.ownsRow base e size v n xs ∨ ∃ A, v = .slice A n n ∧ Src w A n size xs
end
section
variable {w w' : World} {base : Nat} {e : TypeId} {size n : Nat} {v : Value} {xs : List Value}
theorem Src.below {A : Option Addr} (h : Src w A n size xs) (hb : Below w.heap.size w w') : Src w' A n size xs := by
  refine ⟨h.1, fun hm => ?_⟩
  obtain ⟨ad, rfl, hc⟩ := h.2 hm
  refine ⟨ad, rfl, fun j u hu => ?_⟩
  have h1 := hc j u hu
  rw [hb.cell (World.block_lt_of_cell? _ _ h1)]
  exact h1
theorem Held.below (h : Held w base e size v n xs) (hb : Below w.heap.size w w') : Held w' base e size v n xs := by
  rcases h with h | ⟨A, rfl, h⟩
  · exact .inl (own_below h hb)
  · exact .inr ⟨A, rfl, h.below hb⟩
end
/-! Bytes as texts. -/
section
variable {P : Program} (w : World)
theorem conv_str {src dst e : TypeId} (hs : P.underlying src = some (.slice e)) (he : P.underlying e = some (.int .u8)) (hd : P.underlying dst = some .string) {A : Option Addr} {c : Nat} {l : List UInt8} (h : InB w A c l) :
    (convert src dst (.slice A l.length c)).run P w = .ok (.string (str l)) w := by
  rcases A with _ | ad
  · have : l = [] := by
      rcases h.2.2.2 with h | ⟨b, off, hh, _⟩
      · exact h
      · cases hh
    subst this
    exact run_convert_bytes_nil w src e hs he _ _ dst hd
  · refine run_convert_bytes_back w src dst e ad c l hs he hd (fun j hj => ?_)
    obtain ⟨b, off, hA, _, hrow⟩ := h.at hj
    injection hA with hA
    subst hA
    have := hrow j hj 0 _ rfl
    rw [add_lit']
    simpa using this
theorem conv_one {src dst e : TypeId} (hs : P.underlying src = some (.slice e)) (he : P.underlying e = some (.int .u8)) (hd : P.underlying dst = some .string) (x : Int) :
    (convert src dst (.slice (some ⟨w.heap.size, 0, none⟩) 1 1)).run P (w.alloc (.cells #[.int .u8 x] e)) = .ok (.string (str [UInt8.ofNat x.toNat])) (w.alloc (.cells #[.int .u8 x] e)) := by
  refine run_convert_bytes_arg _ src e hs he w.heap.size 0 1 1 [x] rfl (fun i hi => ?_) dst hd
  have : i = 0 := by omega
  subst this
  simp [World.cell?_alloc_new]
end
end Go.Proofs.Ytfgjhgecmelccaa
namespace Go.Proofs.Ytfgjhgecmelccaa
open Go.RowKit

theorem elemB : Elem Try.prog 42 5 1 1 := Elem.mk' Try.underlying42 (z := .int .u8 0) (by kernel_rfl) rfl (by omega) (by omega)

end Go.Proofs.Ytfgjhgecmelccaa
namespace Go.Proofs.Ytfgjhgecmelccaa

/-! Numbers. -/
def tens (n : Nat) : List UInt8 := if n < 10 then [UInt8.ofNat (48 + n)] else tens (n / 10) ++ [UInt8.ofNat (48 + n % 10)]
def intF : Nat → List UInt8 → Option Nat
  | n, [] => some n
  | n, c :: s => if 48 ≤ c.toNat ∧ c.toNat ≤ 57 then intF (10 * n + (c.toNat - 48)) s else none
def intR (s : List UInt8) (most : Int) : Option Nat :=
  if s = [] ∨ 13 < s.length ∨ (1 < s.length ∧ s.head? = some 48) then none else match intF 0 s with
    | none => none
    | some n => if most < (n : Int) ∨ 1099511627776 < n then none else some n
theorem tens_lt {n : Nat} (h : n < 10) : tens n = [UInt8.ofNat (48 + n)] := by unfold tens; rw [if_pos h]
theorem tens_ge {n : Nat} (h : ¬ n < 10) : tens n = tens (n / 10) ++ [UInt8.ofNat (48 + n % 10)] := by rw [tens, if_neg h]
theorem intF_append : ∀ (a b : List UInt8) (n : Nat), intF n (a ++ b) = (intF n a).bind fun m => intF m b
  | [], b, n => rfl
  | c :: a, b, n => by
    simp only [List.cons_append, intF]
    split
    · exact intF_append a b _
    · rfl
theorem tens_len (n k : Nat) (h : n < 10 ^ k) (hk : 1 ≤ k) : (tens n).length ≤ k := by
  induction k generalizing n with
  | zero => omega
  | succ k ih =>
    by_cases h10 : n < 10
    · rw [tens_lt h10]; simp
    · rw [tens_ge h10, List.length_append]
      have hk1 : 1 ≤ k := by
        rcases Nat.eq_zero_or_pos k with h0 | h0
        · subst h0; omega
        · exact h0
      have := ih (n / 10) (Nat.div_lt_of_lt_mul (by rw [Nat.pow_succ, Nat.mul_comm] at h; exact h)) hk1
      simp; omega
theorem snoc_or {α : Type} (l : List α) : l = [] ∨ ∃ r t, l = r ++ [t] := by
  rcases List.eq_nil_or_concat l with h | ⟨r, t, h⟩
  · exact .inl h
  · exact .inr ⟨r, t, by rw [h, List.concat_eq_append]⟩
theorem tens_intF (k : Nat) : ∀ (s : List UInt8) (n : Nat), s.length = k → s ≠ [] → (1 < s.length → s.head? ≠ some 48) → intF 0 s = some n → s = tens n ∧ (s.head? ≠ some 48 → 0 < n) := by
  induction k with
  | zero => intro s n hl hne; exact absurd (List.eq_nil_of_length_eq_zero hl) hne
  | succ k ih =>
    intro s n hl hne hh hs
    rcases snoc_or s with rfl | ⟨r, t, rfl⟩
    · exact absurd rfl hne
    · rw [intF_append] at hs
      cases hr : intF 0 r with
      | none => rw [hr] at hs; cases hs
      | some m =>
        rw [hr] at hs
        simp only [Option.bind_some, intF] at hs
        split at hs
        · rename_i ht
          injection hs with hs
          have ht2 : t = UInt8.ofNat (48 + (t.toNat - 48)) := by
            rw [show 48 + (t.toNat - 48) = t.toNat by omega]; simp
          by_cases hr0 : r = []
          · subst hr0
            simp only [intF, Option.some.injEq] at hr
            subst hr
            have hn : n = t.toNat - 48 := by omega
            subst hn
            refine ⟨by rw [tens_lt (by omega), ← ht2]; rfl, fun h => ?_⟩
            rcases Nat.eq_zero_or_pos (t.toNat - 48) with h0 | h0
            · exfalso; apply h
              have : t.toNat = 48 := by omega
              have h48 : t = 48 := by rw [ht2, this]; rfl
              rw [h48]; rfl
            · exact h0
          · have hrl : r.length = k := by simpa using hl
            have hrp : 0 < r.length := by
              rcases Nat.eq_zero_or_pos r.length with h0 | h0
              · exact absurd (List.eq_nil_of_length_eq_zero h0) hr0
              · exact h0
            have hhr : (r ++ [t]).head? = r.head? := by
              cases r with
              | nil => exact absurd rfl hr0
              | cons c r => rfl
            have hh' := hh (by simp; omega)
            rw [hhr] at hh'
            obtain ⟨h1, h2⟩ := ih r m hrl hr0 (fun _ => hh') hr
            have hm := h2 hh'
            refine ⟨?_, fun _ => by omega⟩
            rw [tens_ge (by omega), show n / 10 = m by omega, show n % 10 = t.toNat - 48 by omega, ← h1, ← ht2]
        · cases hs
/-- What is read as a number is its text. -/
theorem tens_intR {s : List UInt8} {most : Int} {n : Nat} (h : intR s most = some n) : s = tens n ∧ n ≤ 1099511627776 ∧ (n : Int) ≤ most := by
  unfold intR at h
  split at h
  · cases h
  · rename_i h1
    cases hi : intF 0 s with
    | none => rw [hi] at h; cases h
    | some m =>
      rw [hi] at h
      simp only at h
      split at h
      · cases h
      · injection h with h
        subst h
        refine ⟨(tens_intF s.length s m rfl (fun e => h1 (.inl e)) (fun hl e => h1 (.inr (.inr ⟨hl, e⟩))) hi).1, by omega, by omega⟩

/-! Texts in quotes. -/
def hexD (n : Nat) : UInt8 := if n < 10 then UInt8.ofNat (48 + n) else UInt8.ofNat (87 + n)
def hexV (c : UInt8) : Nat := if 48 ≤ c.toNat ∧ c.toNat ≤ 57 then c.toNat - 48 else if 97 ≤ c.toNat ∧ c.toNat ≤ 102 then c.toNat - 87 else 16
def quC (c : UInt8) : List UInt8 := if c.toNat < 32 ∨ 126 < c.toNat then [92, 120, hexD (c.toNat / 16), hexD (c.toNat % 16)] else if c = 34 ∨ c = 92 then [92, c] else [c]
def quote (s : List UInt8) : List UInt8 := 34 :: (s.flatMap quC ++ [34])
/-- What stands between quotes. -/
def unq : List UInt8 → Option (List UInt8)
  | [] => some []
  | [c] => if c.toNat < 32 ∨ 126 < c.toNat ∨ c = 34 ∨ c = 92 then none else some [c]
  | c :: d :: s =>
    if c.toNat < 32 ∨ 126 < c.toNat ∨ c = 34 then none
    else if c ≠ 92 then (unq (d :: s)).map (c :: ·)
    else if d = 34 ∨ d = 92 then (unq s).map (d :: ·)
    else match s with
      | a :: b :: r => if d ≠ 120 ∨ 15 < hexV a ∨ 15 < hexV b ∨ (32 ≤ 16 * hexV a + hexV b ∧ 16 * hexV a + hexV b ≤ 126) then none else (unq r).map (UInt8.ofNat (16 * hexV a + hexV b) :: ·)
      | _ => none
def unquote (t : List UInt8) : Option (List UInt8) := if t.length < 2 ∨ t.head? ≠ some 34 ∨ t.getLast? ≠ some 34 then none else unq (t.drop 1).dropLast
theorem hexV_D {n : Nat} (h : n < 16) : hexV (hexD n) = n := by
  unfold hexV hexD
  have h1 : ∀ k, k < 256 → (UInt8.ofNat k).toNat = k := fun k hk => by simp; omega
  by_cases h10 : n < 10
  · simp only [if_pos h10, h1 (48 + n) (by omega)]
    rw [if_pos (by omega)]; omega
  · simp only [if_neg h10, h1 (87 + n) (by omega)]
    rw [if_neg (by omega), if_pos (by omega)]; omega
theorem hexD_V {c : UInt8} (h : ¬ 15 < hexV c) : hexD (hexV c) = c := by
  unfold hexV at *
  by_cases h1 : 48 ≤ c.toNat ∧ c.toNat ≤ 57
  · rw [if_pos h1]
    unfold hexD
    rw [if_pos (by omega), show 48 + (c.toNat - 48) = c.toNat by omega]; simp
  · rw [if_neg h1] at h ⊢
    by_cases h2 : 97 ≤ c.toNat ∧ c.toNat ≤ 102
    · rw [if_pos h2]
      unfold hexD
      rw [if_neg (by omega), show 87 + (c.toNat - 87) = c.toNat by omega]; simp
    · rw [if_neg h2] at h; omega
theorem unq_one (c : UInt8) : unq [c] = if c.toNat < 32 ∨ 126 < c.toNat ∨ c = 34 ∨ c = 92 then none else some [c] := by rw [unq.eq_def]
theorem unq_two (c d : UInt8) (s : List UInt8) : unq (c :: d :: s) = if c.toNat < 32 ∨ 126 < c.toNat ∨ c = 34 then none
    else if c ≠ 92 then (unq (d :: s)).map (c :: ·)
    else if d = 34 ∨ d = 92 then (unq s).map (d :: ·)
    else match s with
      | a :: b :: r => if d ≠ 120 ∨ 15 < hexV a ∨ 15 < hexV b ∨ (32 ≤ 16 * hexV a + hexV b ∧ 16 * hexV a + hexV b ≤ 126) then none else (unq r).map (UInt8.ofNat (16 * hexV a + hexV b) :: ·)
      | _ => none := by rw [unq.eq_def]
theorem unq_cons {c : UInt8} (hc : ¬ (c.toNat < 32 ∨ 126 < c.toNat ∨ c = 34)) (h92 : c ≠ 92) (s : List UInt8) : unq (c :: s) = (unq s).map (c :: ·) := by
  cases s with
  | nil => 
    rw [unq_one, if_neg (by
      rintro (h | h | h | h)
      · exact hc (.inl h)
      · exact hc (.inr (.inl h))
      · exact hc (.inr (.inr h))
      · exact h92 h)]
    rfl
  | cons d s => rw [unq_two, if_neg hc, if_pos h92]
theorem unq_esc {d : UInt8} (hd : d = 34 ∨ d = 92) (s : List UInt8) : unq (92 :: d :: s) = (unq s).map (d :: ·) := by
  rw [unq_two, if_neg (by decide), if_neg (by simp), if_pos hd]
theorem unq_hex {a b : UInt8} (s : List UInt8) (h : ¬ (15 < hexV a ∨ 15 < hexV b ∨ (32 ≤ 16 * hexV a + hexV b ∧ 16 * hexV a + hexV b ≤ 126))) :
    unq (92 :: 120 :: a :: b :: s) = (unq s).map (UInt8.ofNat (16 * hexV a + hexV b) :: ·) := by
  rw [unq_two, if_neg (by decide), if_neg (by simp), if_neg (by decide)]
  exact if_neg (fun h1 => h1.elim (fun h2 => h2 rfl) h)
/-- A text is read of its quotes. -/
theorem unq_quote : ∀ s : List UInt8, unq (s.flatMap quC) = some s
  | [] => rfl
  | c :: s => by
    have ih := unq_quote s
    have hc := c.toNat_lt
    rw [List.flatMap_cons]
    rw [quC]
    by_cases h1 : c.toNat < 32 ∨ 126 < c.toNat
    · rw [if_pos h1]
      have ha := hexV_D (n := c.toNat / 16) (by omega)
      have hb := hexV_D (n := c.toNat % 16) (Nat.mod_lt _ (by omega))
      have he : 16 * (c.toNat / 16) + c.toNat % 16 = c.toNat := Nat.div_add_mod _ _
      simp only [List.cons_append, List.nil_append]
      rw [unq_hex _ (by rw [ha, hb, he]; omega), ha, hb, he, ih]
      simp
    · rw [if_neg h1]
      by_cases h2 : c = 34 ∨ c = 92
      · rw [if_pos h2]
        simp only [List.cons_append, List.nil_append]
        rw [unq_esc h2, ih]; rfl
      · rw [if_neg h2]
        simp only [List.cons_append, List.nil_append]
        rw [unq_cons (by rintro (h | h | h); · exact h1 (.inl h)
                         · exact h1 (.inr h)
                         · exact h2 (.inl h)) (fun h => h2 (.inr h)), ih]; rfl
/-- What is read of quotes has just that text. -/
theorem quote_unq (k : Nat) : ∀ (t : List UInt8) (u : List UInt8), t.length ≤ k → unq t = some u → u.flatMap quC = t := by
  induction k with
  | zero =>
    intro t u hl h
    have : t = [] := List.eq_nil_of_length_eq_zero (by omega)
    subst this
    simp only [unq, Option.some.injEq] at h
    subst h; rfl
  | succ k ih =>
    intro t u hl h
    match t, hl, h with
    | [], _, h =>
      simp only [unq, Option.some.injEq] at h
      subst h; rfl
    | [c], _, h =>
      rw [unq_one] at h
      split at h
      · cases h
      · rename_i hc
        injection h with h
        subst h
        simp only [List.flatMap_cons, List.flatMap_nil, List.append_nil, quC]
        rw [if_neg (by rintro (h | h); · exact hc (.inl h)
                       · exact hc (.inr (.inl h))), if_neg (by rintro (h | h); · exact hc (.inr (.inr (.inl h)))
                                                               · exact hc (.inr (.inr (.inr h))))]
    | c :: d :: s, hl, h =>
      rw [unq_two] at h
      split at h
      · cases h
      · rename_i hc
        split at h
        · rename_i h92
          obtain ⟨u', hu', rfl⟩ := Option.map_eq_some_iff.1 h
          have := ih (d :: s) u' (by simp at hl ⊢; omega) hu'
          rw [List.flatMap_cons, this, quC, if_neg (by rintro (h | h); · exact hc (.inl h)
                                                       · exact hc (.inr (.inl h))), if_neg (by rintro (h | h); · exact hc (.inr (.inr h))
                                                                                               · exact h92 h)]
          rfl
        · rename_i h92
          have h92 : c = 92 := by simpa using h92
          subst h92
          split at h
          · rename_i hd
            obtain ⟨u', hu', rfl⟩ := Option.map_eq_some_iff.1 h
            have := ih s u' (by simp at hl; omega) hu'
            rw [List.flatMap_cons, this, quC, if_neg (by rcases hd with rfl | rfl <;> decide), if_pos hd]
            rfl
          · match s, hl, h with
            | a :: b :: r, hl, h =>
              simp only at h
              split at h
              · cases h
              · rename_i hx
                obtain ⟨u', hu', rfl⟩ := Option.map_eq_some_iff.1 h
                have := ih r u' (by simp at hl; omega) hu'
                have hd : d = 120 := Decidable.byContradiction fun e => hx (.inl e)
                have ha : ¬ 15 < hexV a := fun e => hx (.inr (.inl e))
                have hb : ¬ 15 < hexV b := fun e => hx (.inr (.inr (.inl e)))
                have hab : ¬ (32 ≤ 16 * hexV a + hexV b ∧ 16 * hexV a + hexV b ≤ 126) := fun e => hx (.inr (.inr (.inr e)))
                have hn : (UInt8.ofNat (16 * hexV a + hexV b)).toNat = 16 * hexV a + hexV b := by simp; omega
                rw [List.flatMap_cons, this, quC, hn, if_pos (by omega), show (16 * hexV a + hexV b) / 16 = hexV a by omega, show (16 * hexV a + hexV b) % 16 = hexV b by omega, hexD_V ha, hexD_V hb, hd]
                rfl
            | [_], _, h => cases h
            | [], _, h => cases h
theorem unquote_quote (s : List UInt8) : unquote (quote s) = some s := by
  unfold unquote quote
  rw [if_neg]
  · rw [List.drop_one, List.tail_cons, List.dropLast_concat]
    exact unq_quote s
  · rintro (h | h | h)
    · simp at h; omega
    · simp at h
    · apply h
      rw [show (34 : UInt8) :: (s.flatMap quC ++ [34]) = ((34 : UInt8) :: s.flatMap quC) ++ [34] by simp, List.getLast?_concat]
theorem quote_unquote {t u : List UInt8} (h : unquote t = some u) : quote u = t := by
  unfold unquote at h
  split at h
  · cases h
  · rename_i hc
    have h2 : 2 ≤ t.length := by
      rcases Nat.lt_or_ge t.length 2 with h | h
      · exact absurd (.inl h) hc
      · exact h
    have hh : t.head? = some 34 := Decidable.byContradiction fun e => hc (.inr (.inl e))
    have hl : t.getLast? = some 34 := Decidable.byContradiction fun e => hc (.inr (.inr e))
    have hq := quote_unq _ _ _ (Nat.le_refl _) h
    unfold quote
    rw [hq]
    match t, h2, hh, hl with
    | c :: d :: s, _, hh, hl =>
      simp only [List.head?_cons, Option.some.injEq] at hh
      subst hh
      rw [List.drop_one, List.tail_cons]
      have hl' : (d :: s).getLast? = some 34 := by simpa using hl
      congr 1
      have hne : d :: s ≠ [] := by simp
      have := List.dropLast_concat_getLast hne
      rw [List.getLast?_eq_some_getLast hne] at hl'
      injection hl' with hl'
      rw [hl'] at this
      exact this
end Go.Proofs.Ytfgjhgecmelccaa
