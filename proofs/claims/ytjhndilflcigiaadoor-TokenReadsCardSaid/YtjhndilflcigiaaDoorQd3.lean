/-
  Lemmas (walks and plain laws), in one text.
-/
import Derived.Test.YtjhndilflcigiaaDoorQd2
import Derived.Test.YtjhndilflcigiaaDoorRows
import Derived.WalkKit
import Derived.WalkSpells
import Derived.WalkLawsBesides
import Derived.Lib.Hide
import Derived.Deep.QuietTactic
import Derived.BigQuiet
import Derived.Maps.AppendAt
import Derived.WalkSmall
import Derived.ProofKit
import Derived.OpenShut
import Derived.JoinedCond
import Derived.Deep.Slices
import Derived.Deep.Fields
import Derived.Carry
import Derived.Shelf.Strings.Builder1
import Derived.Shelf.Strings.Builder2
import Derived.Shelf.Strings.OnBuilder
import Derived.Shelf.Strings.BuilderF
import Derived.Shelf.Strings.BuilderK
import Derived.Shelf.Strings.Builder2Cap
import Derived.Shelf.Strconv.Itoa0
import Derived.Shelf.Strconv.Itoa1
import Derived.Shelf.LaysM
import Derived.Shelf.Strconv.Itoa2
import Derived.Shelf.Strconv.Itoa3
import Derived.Ground.Names2Prog
import Derived.Shelf.Slices.Clone
import Derived.Shelf.Slices.SearchI
import Derived.Ground.SlgnProg
import Derived.Shelf.SlicesE.Clone
import Derived.Test.YtjhndilflcigiaaDoorProg
import Derived.Deep.AppendSrc
import Derived.Lib.AppendStr
import Derived.Laws.BytesArg
import Derived.Lib.AppendIntMem
import Derived.Lib.ItoaLen
import Derived.Test.YtjhndilflcigiaaDoorTie
import Derived.Lib.LaidTab
import Derived.LaidMore
import Derived.Stop.LaidErr
import Derived.SevenTiedAt
import Derived.Test.YtjhndilflcigiaaDoorCards
import Derived.Deep.CutBlock
import Derived.Deep.DeepCutAuto
import Derived.Laws.Tables
import Derived.Laws.Rows
import Derived.Shelf.Spec.TrailingZeros
import Derived.RangeFuncNested
import Derived.RangeFuncBound
import Derived.RangeFuncCalls
import Derived.RangeFuncLeaves
import Derived.Shelf.Abstract
import Derived.Shelf.RegionOpen
import Derived.OwnWalkIn
import Derived.TacticsInMore
import Derived.LoopNIn
import Derived.LoopIn
import Derived.ChangeKeysEq
import Derived.Laws.StructEq
import Derived.Laws.CopyOwn
import Derived.Outline
import Derived.IntWalk
import Derived.Lib.EndianBits
import Derived.StillTail
namespace Go.Proofs.YtjhndilflcigiaaDoor
open Go.RowKit

/-- What is left, and the first error. -/
structure Rd where
  s : List UInt8
  e : Int
deriving DecidableEq

/-! A number off bytes: its error, its value, how many bytes it has. -/
def nxE : Nat → Bool → List UInt8 → Int
  | 0, _, _ => 3
  | _ + 1, _, [] => 2
  | f + 1, first, c :: s => if 128 ≤ c.toNat then nxE f false s else if c.toNat = 0 ∧ first = false then 3 else 0
def nxV : Nat → List UInt8 → Nat
  | 0, _ => 0
  | _ + 1, [] => 0
  | f + 1, c :: s => if 128 ≤ c.toNat then c.toNat % 128 + 128 * nxV f s else c.toNat
def nxK : Nat → List UInt8 → Nat
  | 0, _ => 0
  | _ + 1, [] => 0
  | f + 1, c :: s => if 128 ≤ c.toNat then nxK f s + 1 else 1
@[irreducible] def nErr (s : List UInt8) (most : Int) : Int := if nxE 6 true s = 0 then (if 1099511627776 < nxV 6 s ∨ most < (nxV 6 s : Int) then 4 else 0) else nxE 6 true s
theorem nErr_def (s : List UInt8) (most : Int) : nErr s most = if nxE 6 true s = 0 then (if 1099511627776 < nxV 6 s ∨ most < (nxV 6 s : Int) then 4 else 0) else nxE 6 true s := by unfold nErr; rfl
@[irreducible] def nVal (s : List UInt8) (most : Int) : Int := if nErr s most = 0 then (nxV 6 s : Int) else 0
@[irreducible] def nLen (s : List UInt8) (most : Int) : Nat := if nErr s most = 0 then nxK 6 s else 0
theorem nVal_ok {s : List UInt8} {most : Int} (h : nErr s most = 0) : nVal s most = nxV 6 s := by unfold nVal; rw [if_pos h]
theorem nVal_bad {s : List UInt8} {most : Int} (h : nErr s most ≠ 0) : nVal s most = 0 := by unfold nVal; rw [if_neg h]
theorem nLen_ok {s : List UInt8} {most : Int} (h : nErr s most = 0) : nLen s most = nxK 6 s := by unfold nLen; rw [if_pos h]
theorem nLen_bad {s : List UInt8} {most : Int} (h : nErr s most ≠ 0) : nLen s most = 0 := by unfold nLen; rw [if_neg h]
theorem nxK_le : ∀ f s, nxK f s ≤ s.length
  | 0, s => by simp [nxK]
  | f + 1, [] => by simp [nxK]
  | f + 1, c :: s => by
    have := nxK_le f s
    unfold nxK; split <;> simp <;> omega
theorem nLen_le (s : List UInt8) (most : Int) : nLen s most ≤ s.length := by
  have := nxK_le 6 s
  unfold nLen; split <;> omega
theorem nxV_lt : ∀ f s, nxV f s < 128 ^ f
  | 0, s => by simp [nxV]
  | f + 1, [] => by unfold nxV; exact Nat.pow_pos (by omega)
  | f + 1, c :: s => by
    have := nxV_lt f s
    have hp : 1 ≤ 128 ^ f := Nat.pow_pos (by omega)
    unfold nxV
    rw [Nat.pow_succ]
    split
    · have : c.toNat % 128 < 128 := Nat.mod_lt _ (by omega)
      omega
    · omega
/-! What the readers' calls answer, and what is left then. -/
def rdN (st : Rd) (most : Int) : Int := if st.e = 0 then nVal st.s most else 0
def rdN' (st : Rd) (most : Int) : Rd := if st.e = 0 then ⟨st.s.drop (nLen st.s most), nErr st.s most⟩ else st
def tErr (s : List UInt8) (most : Int) : Int := if nErr s most = 0 then (if nxV 6 s ≤ s.length - nxK 6 s then 0 else 2) else nErr s most
def rdS (st : Rd) (most : Int) : List UInt8 := if st.e = 0 ∧ tErr st.s most = 0 then (st.s.drop (nxK 6 st.s)).take (nxV 6 st.s) else []
def rdS' (st : Rd) (most : Int) : Rd := if st.e = 0 then (if tErr st.s most = 0 then ⟨st.s.drop (nxK 6 st.s + nxV 6 st.s), 0⟩ else ⟨st.s, tErr st.s most⟩) else st
def rdF (st : Rd) (e : Int) : Rd := if st.e = 0 then ⟨st.s, e⟩ else st
theorem rdN_err {st : Rd} {most : Int} (h : st.e ≠ 0) : rdN st most = 0 ∧ rdN' st most = st := by unfold rdN rdN'; rw [if_neg h, if_neg h]; exact ⟨rfl, rfl⟩
theorem rdN_err' {st : Rd} {most : Int} (h : (rdN' st most).e ≠ 0) : rdN st most = 0 := by
  unfold rdN
  split
  · rename_i h0
    unfold rdN' at h
    rw [if_pos h0] at h
    exact nVal_bad h
  · rfl
theorem rdF_err {st : Rd} {e : Int} (h : st.e ≠ 0) : rdF st e = st := by unfold rdF; rw [if_neg h]
theorem rdF_ok {st : Rd} {e : Int} (h : st.e = 0) : rdF st e = ⟨st.s, e⟩ := by unfold rdF; rw [if_pos h]


/-! A number's bytes are read as it. -/
/-! What is read as a number has just a number's bytes. -/
/-! How the loops over a number's bytes go. -/
def Peek (s : List UInt8) (k acc : Nat) : Prop :=
  k ≤ 6 ∧ k ≤ s.length ∧ acc < 128 ^ k ∧ nxE 6 true s = nxE (6 - k) (decide (k = 0)) (s.drop k) ∧ nxV 6 s = acc + 128 ^ k * nxV (6 - k) (s.drop k) ∧ nxK 6 s = k + nxK (6 - k) (s.drop k) ∧
    ∀ j c, j < k → s[j]? = some c → 128 ≤ c.toNat
section
variable {s : List UInt8} {k acc : Nat}
theorem Peek.start (s : List UInt8) : Peek s 0 0 := ⟨by omega, by omega, by simp, by simp, by simp, by simp, fun j c h => by omega⟩
theorem Peek.next (h : Peek s k acc) (hk : k < 6) (hl : k < s.length) (hc : 128 ≤ s[k].toNat) : Peek s (k + 1) (acc + s[k].toNat % 128 * 128 ^ k) := by
  obtain ⟨_, _, h3, h4, h5, h6, h7⟩ := h
  rw [List.drop_eq_getElem_cons hl, show 6 - k = (6 - (k + 1)) + 1 by omega] at h4 h5 h6
  rw [nxE, if_pos hc] at h4
  rw [nxV, if_pos hc] at h5
  rw [nxK, if_pos hc] at h6
  have hm : s[k].toNat % 128 < 128 := Nat.mod_lt _ (by omega)
  refine ⟨by omega, by omega, ?_, ?_, ?_, by omega, ?_⟩
  · rw [Nat.pow_succ]
    have : s[k].toNat % 128 * 128 ^ k ≤ 127 * 128 ^ k := Nat.mul_le_mul_right _ (by omega)
    omega
  · rw [h4]; simp
  · rw [h5, Nat.mul_add, Nat.pow_succ, Nat.mul_comm (128 ^ k) (s[k].toNat % 128), Nat.mul_assoc]; omega
  · intro j c hj hjc
    rcases Nat.lt_or_ge j k with hlt | hge
    · exact h7 j c hlt hjc
    · obtain rfl : j = k := by omega
      rw [List.getElem?_eq_getElem hl] at hjc
      injection hjc with hjc
      rw [← hjc]; exact hc
theorem Peek.full (h : Peek s 6 acc) : nxE 6 true s = 3 := by rw [h.2.2.2.1]; rfl
theorem Peek.short (h : Peek s k acc) (hk : k < 6) (hl : k = s.length) : nxE 6 true s = 2 := by
  rw [h.2.2.2.1, hl, List.drop_length, show 6 - s.length = (5 - s.length) + 1 by omega, nxE]
theorem Peek.zero (h : Peek s k acc) (hk : k < 6) (hl : k < s.length) (hc : s[k].toNat = 0) (h0 : 0 < k) : nxE 6 true s = 3 := by
  rw [h.2.2.2.1, List.drop_eq_getElem_cons hl, show 6 - k = (6 - (k + 1)) + 1 by omega, nxE, if_neg (by omega), if_pos ⟨hc, by simp; omega⟩]
theorem Peek.done (h : Peek s k acc) (hk : k < 6) (hl : k < s.length) (hc : s[k].toNat < 128) (h0 : s[k].toNat ≠ 0 ∨ k = 0) : nxE 6 true s = 0 ∧ nxV 6 s = acc + s[k].toNat * 128 ^ k ∧ nxK 6 s = k + 1 := by
  obtain ⟨_, _, h3, h4, h5, h6, h7⟩ := h
  rw [List.drop_eq_getElem_cons hl, show 6 - k = (6 - (k + 1)) + 1 by omega] at h4 h5 h6
  rw [nxE, if_neg (by omega)] at h4
  rw [nxV, if_neg (by omega)] at h5
  rw [nxK, if_neg (by omega)] at h6
  refine ⟨?_, by rw [h5, Nat.mul_comm], h6⟩
  rw [h4, if_neg]
  rintro ⟨h1, h2⟩
  rcases h0 with h0 | h0
  · exact h0 h1
  · simp [h0] at h2
/-- The reference's second loop: the bytes from m to n, the last one first. -/
def downV (s : List UInt8) (n m : Nat) : Nat := if m = n + 1 then 0 else nxV (6 - m) (s.drop m)
theorem downV_step {n : Nat} (h : Peek s n acc) (hn : n < 6) (hl : n < s.length) (hc : s[n].toNat < 128) {m : Nat} (hm : m < n + 1) (hml : m < s.length) : downV s n (m + 1) * 128 + s[m].toNat % 128 = downV s n m := by
  unfold downV
  rw [if_neg (show ¬ m = n + 1 by omega), List.drop_eq_getElem_cons hml, show 6 - m = (6 - (m + 1)) + 1 by omega, nxV]
  by_cases h1 : m = n
  · subst h1
    rw [if_pos rfl, if_neg (by omega)]; omega
  · rw [if_neg (by omega), if_pos (h.2.2.2.2.2.2 m s[m] (by omega) (List.getElem?_eq_getElem hml))]; omega
theorem downV_start (s : List UInt8) (n : Nat) : downV s n (n + 1) = 0 := by unfold downV; rw [if_pos rfl]
theorem downV_end (s : List UInt8) (n : Nat) : downV s n 0 = nxV 6 s := by unfold downV; rw [if_neg (by omega)]; simp
theorem downV_lt (s : List UInt8) (n m : Nat) (h : m ≤ 6) : downV s n m < 4398046511104 := by
  unfold downV
  split
  · omega
  · have := nxV_lt (6 - m) (s.drop m)
    have : 128 ^ (6 - m) ≤ 128 ^ 6 := Nat.pow_le_pow_right (by omega) (by omega)
    omega
end
end Go.Proofs.YtjhndilflcigiaaDoor
namespace Go.Proofs.YtjhndilflcigiaaDoor
open Go.RowKit

theorem elemB : Elem Tryd.prog 33 5 1 1 := Elem.mk' Tryd.underlying33 (z := .int .u8 0) (by kernel_rfl) rfl (by omega) (by omega)

end Go.Proofs.YtjhndilflcigiaaDoor
namespace Go.Proofs.YtjhndilflcigiaaDoor
open Go.RowKit

/-- A value off bytes, and what the reader is then. -/
def rdVal' (st : Rd) : Rd := if rdN st 2 = 1 then rdN' (rdN' st 2) 1099511627776 else if rdN st 2 = 2 then rdS' (rdN' st 2) 24 else rdN' st 2
def rdVal (st : Rd) : Val := if (rdVal' st).e = 0 then ⟨rdN st 2, if rdN st 2 = 1 then rdN (rdN' st 2) 1099511627776 else 0, if rdN st 2 = 2 then rdS (rdN' st 2) 24 else []⟩ else ⟨0, 0, []⟩
/-! A number that is not 0. -/
def rdAb' (st : Rd) (most : Int) : Rd := if rdN st most = 0 then rdF (rdN' st most) 3 else rdN' st most
theorem rdAb'_zero {st : Rd} {most : Int} (h : rdN st most = 0) : rdAb' st most = rdF (rdN' st most) 3 := by unfold rdAb'; rw [if_pos h]
theorem rdAb'_pos {st : Rd} {most : Int} (h : rdN st most ≠ 0) : rdAb' st most = rdN' st most := by unfold rdAb'; rw [if_neg h]
theorem rdAb'_bad {st : Rd} {most : Int} (h : st.e ≠ 0) : rdAb' st most = st := by rw [rdAb'_zero (rdN_err h).1, (rdN_err h).2, rdF_err h]
end Go.Proofs.YtjhndilflcigiaaDoor
namespace Go.Proofs.YtjhndilflcigiaaDoor
open Go.RowKit

structure Tok where
  dev : Int
  epoch : Int
  seq : Int
  cursor : Int
deriving DecidableEq
abbrev tz : Tok := ⟨0, 0, 0, 0⟩
abbrev Tok.arr (t : Tok) : Array Value := #[.int .i64 t.dev, .int .i64 t.epoch, .int .i64 t.seq, .int .i64 t.cursor]
def Tok.ok (t : Tok) : Bool := decide (0 ≤ t.dev ∧ t.dev ≤ 5 ∧ 1 ≤ t.epoch ∧ t.epoch ≤ 1099511627776 ∧ 0 ≤ t.seq ∧ t.seq ≤ 1099511627776 ∧ 0 ≤ t.cursor ∧ t.cursor ≤ 1073741824)
theorem Tok.ok_iff {t : Tok} : t.ok = true ↔ (0 ≤ t.dev ∧ t.dev ≤ 5 ∧ 1 ≤ t.epoch ∧ t.epoch ≤ 1099511627776 ∧ 0 ≤ t.seq ∧ t.seq ≤ 1099511627776 ∧ 0 ≤ t.cursor ∧ t.cursor ≤ 1073741824) := by unfold Tok.ok; exact decide_eq_true_iff
def tkA (st : Rd) : Rd := rdN' st 5
def tkB (st : Rd) : Rd := rdAb' (tkA st) 1099511627776
def tkC (st : Rd) : Rd := rdN' (tkB st) 1099511627776
@[irreducible] def rdTok' (st : Rd) : Rd := rdN' (tkC st) 1073741824
def tkTok (st : Rd) : Tok := ⟨rdN st 5, rdN (tkA st) 1099511627776, rdN (tkB st) 1099511627776, rdN (tkC st) 1073741824⟩
@[irreducible] def rdTok (st : Rd) : Tok := if (rdTok' st).e = 0 then tkTok st else tz
theorem rdTok'_def (st : Rd) : rdTok' st = rdN' (tkC st) 1073741824 := by unfold rdTok'; rfl
theorem rdTok_ok {st : Rd} (h : (rdTok' st).e = 0) : rdTok st = tkTok st := by unfold rdTok; rw [if_pos h]
theorem rdTok_bad {st : Rd} (h : (rdTok' st).e ≠ 0) : rdTok st = tz := by unfold rdTok; rw [if_neg h]
theorem rdTok_err {st : Rd} (h : st.e ≠ 0) : rdTok st = tz ∧ rdTok' st = st := by
  have h1 : tkA st = st := (rdN_err h).2
  have h2 : tkB st = st := by unfold tkB; rw [h1]; exact rdAb'_bad h
  have h3 : tkC st = st := by unfold tkC; rw [h2]; exact (rdN_err h).2
  have h4 : rdTok' st = st := by rw [rdTok'_def, h3]; exact (rdN_err h).2
  exact ⟨rdTok_bad (by rw [h4]; exact h), h4⟩
end Go.Proofs.YtjhndilflcigiaaDoor
namespace Go.Proofs.YtjhndilflcigiaaDoor
open Go.RowKit

/-! Worlds in which, below a block number, one block alone may have turned. -/
structure Kept (p : Option Nat) (B : Nat) (w w' : World) : Prop where
  os : w'.os = w.os
  tape : w'.tape = w.tape
  output : w'.output = w.output
  size : w.heap.size ≤ w'.heap.size
  block : ∀ k, k < B → p ≠ some k → w'.heap[k]? = w.heap[k]?
section
variable {p : Option Nat} {B B' : Nat} {a b c w w' : World}
theorem Kept.refl (p : Option Nat) (B : Nat) (w : World) : Kept p B w w := ⟨rfl, rfl, rfl, Nat.le_refl _, fun _ _ _ => rfl⟩
theorem Kept.of_below (h : Below B w w') : Kept p B w w' := ⟨h.os, h.tape, h.output, h.size, fun k hk _ => h.block k hk⟩
theorem Kept.trans (h : Kept p B a b) (k : Kept p B b c) : Kept p B a c := ⟨k.os.trans h.os, k.tape.trans h.tape, k.output.trans h.output, Nat.le_trans h.size k.size, fun i hi hp => (k.block i hi hp).trans (h.block i hi hp)⟩
theorem Kept.mono (h : Kept p B w w') (hB : B' ≤ B) : Kept p B' w w' := ⟨h.os, h.tape, h.output, h.size, fun k hk hp => h.block k (by omega) hp⟩
theorem Kept.below (h : Kept p B w w') (hB : B' ≤ B) (hp : ∀ g, p = some g → B' ≤ g) : Below B' w w' := ⟨h.os, h.tape, h.output, h.size, fun k hk => h.block k (by omega) (fun e => by have := hp k e; omega)⟩
theorem Kept.alloc (h : Kept p B a w) (hB : B ≤ w.heap.size) (o : Obj) : Kept p B a (w.alloc o) := h.trans (.of_below ((Below.refl _ _).alloc hB o))
theorem Kept.drew (h : Kept p B a w) : Kept p B a w.drew := ⟨h.os, h.tape, h.output, h.size, h.block⟩
theorem Kept.setCell (h : Kept p B a w) {q : Addr} (hq : B ≤ q.block ∨ p = some q.block) (u : Value) : Kept p B a (w.setCell q u) :=
  h.trans ⟨rfl, rfl, rfl, by simp [World.setCell], fun k hk hp => Below.heap_setCell _ _ _ _ (fun e => by
    subst e
    rcases hq with h | h
    · omega
    · exact hp h)⟩
theorem Kept.then_below (h : Kept p B a w) (k : Below w.heap.size w w') (hB : B ≤ w.heap.size) : Kept p B a w' := h.trans (.of_below (k.mono hB))
theorem Kept.then_kept (h : Kept p B a w) (k : Kept p w.heap.size w w') (hB : B ≤ w.heap.size) : Kept p B a w' := h.trans (k.mono hB)
theorem Kept.cell (h : Kept p B w w') {q : Addr} (hq : q.block < B) (hp : p ≠ some q.block) : w'.cell? q = w.cell? q := World.cell?_of_block (w := w) (h.block q.block hq hp)
theorem own_kept {base : Nat} {e : TypeId} {size n : Nat} {v : Value} {xs : List Value} (h : w.ownsRow base e size v n xs) (k : Kept p w.heap.size w w') (hp : ∀ g, p = some g → g < base) : w'.ownsRow base e size v n xs := by
  obtain ⟨h1, h2⟩ := h
  refine ⟨h1, ?_⟩
  rcases h2 with h2 | ⟨g, cap, cur, hv, hg, hh, r⟩
  · exact .inl h2
  · exact .inr ⟨g, cap, cur, hv, hg, by rw [k.block g (by
      rcases Nat.lt_or_ge g w.heap.size with hlt | hge
      · exact hlt
      · rw [Array.getElem?_eq_none hge] at hh; cases hh) (fun e => by have := hp g e; omega)]; exact hh, r⟩
end

/-! A block that is known whole. -/
def Blk (w : World) (g : Nat) (cs : Array Value) : Prop := ∃ t, w.heap[g]? = some (.cells cs t (0, 0))
section
variable {w w' : World} {g : Nat} {cs : Array Value}
theorem Blk.lt (h : Blk w g cs) : g < w.heap.size := by
  obtain ⟨t, h⟩ := h
  rcases Nat.lt_or_ge g w.heap.size with hlt | hge
  · exact hlt
  · rw [Array.getElem?_eq_none hge] at h; cases h
theorem Blk.cell (h : Blk w g cs) {i : Nat} {v : Value} (hv : cs[i]? = some v) : w.cell? ⟨g, i, none⟩ = some v := by
  obtain ⟨t, h⟩ := h
  simp [World.cell?, h, hv]
theorem Blk.frozen (h : Blk w g cs) (i : Nat) : w.frozen? ⟨g, i, none⟩ = false := by
  obtain ⟨t, h⟩ := h
  simp [World.frozen?, h]
theorem Blk.new (w : World) (t : TypeId) (cs : Array Value) : Blk (w.alloc (.cells cs t)) w.heap.size cs := ⟨t, heap_alloc_new w _⟩
theorem Blk.kept {p : Option Nat} {B : Nat} (h : Blk w g cs) (k : Kept p B w w') (hg : g < B) (hp : p ≠ some g) : Blk w' g cs := by
  obtain ⟨t, h⟩ := h
  exact ⟨t, (k.block g hg hp).trans h⟩
theorem Blk.below {B : Nat} (h : Blk w g cs) (k : Below B w w') (hg : g < B) : Blk w' g cs := by
  obtain ⟨t, h⟩ := h
  exact ⟨t, (k.block g hg).trans h⟩
theorem Blk.store (h : Blk w g cs) (i : Nat) (u : Value) : Blk (w.setCell ⟨g, i, none⟩ u) g (cs.setIfInBounds i u) := by
  obtain ⟨t, h⟩ := h
  exact ⟨t, by simp [World.setCell, Array.getElem?_modify, h]⟩
theorem Blk.far (h : Blk w g cs) {q : Addr} (hq : g ≠ q.block) (u : Value) : Blk (w.setCell q u) g cs := by
  obtain ⟨t, h⟩ := h
  exact ⟨t, (Below.heap_setCell w q u g hq).trans h⟩
end

/-! The readers in memory. -/
/-- The program's reader at block g: the bytes B, the place, the error. -/
def RdA (w : World) (g : Nat) (A : Option Addr) (c : Nat) (B : List UInt8) (pos : Nat) (e : Int) : Prop :=
  Blk w g #[.slice A B.length c, .int .i64 pos, .int .i64 e] ∧ pos ≤ B.length ∧ B.length ≤ c ∧ c ≤ 9223372036854775807 ∧ B.length ≤ 4294967296 ∧ (B = [] ∨ ∃ b off, A = some ⟨b, off, none⟩ ∧ b < g ∧ Row 1 bc w b off B)
/-- The program's reader; none: the nil one. -/
def RdP (w : World) (p : Option Nat) (st : Rd) : Prop :=
  (p = none ∧ st = ⟨[], 1⟩) ∨ ∃ g A c B pos, p = some g ∧ RdA w g A c B pos st.e ∧ st.s = B.drop pos
/-- The reference's reader at block h. -/
def RdR (w : World) (h : Nat) (st : Rd) : Prop := Blk w h #[.string (str st.s), .int .i64 st.e] ∧ st.s.length ≤ 4294967296
def ptr (p : Option Nat) : Value := .pointer (p.map fun g => ⟨g, 0, none⟩)
theorem ptr_none : ptr none = .pointer none := rfl
theorem ptr_some (g : Nat) : ptr (some g) = .pointer (some ⟨g, 0, none⟩) := rfl
section
variable {w w' : World} {g h : Nat} {A : Option Addr} {c pos : Nat} {B : List UInt8} {e : Int} {p q : Option Nat} {st st' : Rd}
theorem RdA.kept (r : RdA w g A c B pos e) (k : Kept q w.heap.size w w') (hq : ∀ h, q = some h → g < h) : RdA w' g A c B pos e := by
  obtain ⟨h1, h2, h3, h4, h5, h6⟩ := r
  refine ⟨h1.kept k h1.lt (fun e => by have := hq g e; omega), h2, h3, h4, h5, h6.imp id fun ⟨b, off, hA, hb, hr⟩ => ⟨b, off, hA, hb, ?_⟩⟩
  have := h1.lt
  exact hr.keep fun o => k.cell (by show b < _; omega) (fun e => by have := hq b e; omega)
theorem RdA.store1 (r : RdA w g A c B pos e) (pos' : Nat) (hp : pos' ≤ B.length) : RdA (w.setCell ⟨g, 1, none⟩ (.int .i64 pos')) g A c B pos' e := by
  obtain ⟨h1, h2, h3, h4, h5, h6⟩ := r
  refine ⟨by simpa using h1.store 1 (.int .i64 pos'), hp, h3, h4, h5, h6.imp id fun ⟨b, off, hA, hb, hr⟩ => ⟨b, off, hA, hb, ?_⟩⟩
  exact hr.keep fun o => World.cell?_setCell_other _ _ _ _ (fun e => by injection e; omega)
theorem RdA.store2 (r : RdA w g A c B pos e) (e' : Int) : RdA (w.setCell ⟨g, 2, none⟩ (.int .i64 e')) g A c B pos e' := by
  obtain ⟨h1, h2, h3, h4, h5, h6⟩ := r
  refine ⟨by simpa using h1.store 2 (.int .i64 e'), h2, h3, h4, h5, h6.imp id fun ⟨b, off, hA, hb, hr⟩ => ⟨b, off, hA, hb, ?_⟩⟩
  exact hr.keep fun o => World.cell?_setCell_other _ _ _ _ (fun e => by injection e; omega)
theorem RdP.kept (r : RdP w p st) (k : Kept q w.heap.size w w') (hq : ∀ g h, p = some g → q = some h → g < h) : RdP w' p st :=
  r.imp id fun ⟨g, A, c, B, pos, hp, ha, hs⟩ => ⟨g, A, c, B, pos, hp, ha.kept k (fun h => hq g h hp), hs⟩
theorem RdP.below (r : RdP w p st) (k : Below w.heap.size w w') : RdP w' p st := r.kept (q := none) (.of_below k) (fun _ _ _ h => by cases h)
theorem RdP.lt (r : RdP w p st) (hg : p = some g) : g < w.heap.size := by
  rcases r with ⟨rfl, _⟩ | ⟨g', A, c, B, pos, hp, ha, _⟩
  · cases hg
  · rw [hp] at hg; injection hg with hg; subst hg; exact ha.1.lt
theorem RdR.kept (r : RdR w h st) (k : Kept q w.heap.size w w') (hq : q ≠ some h) : RdR w' h st := ⟨r.1.kept k r.1.lt hq, r.2⟩
theorem RdR.below (r : RdR w h st) (k : Below w.heap.size w w') : RdR w' h st := r.kept (q := none) (.of_below k) (by simp)
theorem RdR.lt (r : RdR w h st) : h < w.heap.size := r.1.lt
theorem RdP.len (r : RdP w p st) : st.s.length ≤ 4294967296 := by
  rcases r with ⟨rfl, rfl⟩ | ⟨g, A, c, B, pos, hp, ha, hs⟩
  · simp
  · rw [hs]; have := ha.2.2.2.2.1; simp; omega
end

/-! The ends of the readers' calls. -/
/-- The call hands back v, the program's reader is then st'; nothing else below the heap's end has turned. -/
def RetP (p : Option Nat) (st' : Rd) (w : World) (v : Value) (e : Ending) (w' : World) : Prop := e = .returned v ∧ RdP w' p st' ∧ Kept p w.heap.size w w'
/-- So the reference's. -/
def RetR (h : Nat) (st' : Rd) (w : World) (v : Value) (e : Ending) (w' : World) : Prop := e = .returned v ∧ RdR w' h st' ∧ Kept (some h) w.heap.size w w'
/-- A reader of a copy of bytes. -/
def RetNew (w : World) (l : List UInt8) (e : Ending) (w' : World) : Prop := ∃ g, e = .returned (ptr (some g)) ∧ w.heap.size ≤ g ∧ RdP w' (some g) ⟨l, 0⟩ ∧ Below w.heap.size w w'
end Go.Proofs.YtjhndilflcigiaaDoor
namespace Go.Proofs.YtjhndilflcigiaaDoor
open Go.RowKit

/-- The type ty is a struct or an array of n cells. -/
structure Str (P : Program) (ty : TypeId) (n : Nat) : Prop where
  desc : ∃ d, P.underlying ty = some d ∧ (match d with | .struct _ | .array _ _ => true | _ => false) = true
  size : (P.info? ty).map (·.size) = some n
section
variable {P : Program} {w : World}
theorem Kept.one {g : Nat} {w' : World} (h : Kept (some g) w.heap.size w w') {p : Option Nat} {B : Nat} (hB : B ≤ w.heap.size) (hg : B ≤ g ∨ p = some g) : Kept p B w w' :=
  ⟨h.os, h.tape, h.output, h.size, fun k hk hp => h.block k (by omega) (fun e => by
    injection e with e; subst e
    rcases hg with hg | hg
    · omega
    · exact hp hg)⟩
theorem Kept.oneB {g B : Nat} {w' : World} (h : Kept (some g) w.heap.size w w') (hB : B ≤ w.heap.size) (hg : B ≤ g) : Below B w w' := h.below hB (fun k hk => by injection hk with hk; omega)
theorem wpList_loadB {ops : Array Oper} {rest : List Oper} {o : Oper} {a : Act} {Q : Exit → Act → World → Prop} (hgd : o.guard = none) (ty : TypeId) (x : Operand) (ho : o.op = .load ty x)
    (g : Nat) (hx : a.eval x = .pointer (some ⟨g, 0, none⟩)) (cs : Array Value) (hb : Blk w g cs) {n : Nat} (S : Str P ty n) (hn : cs.size = n)
    (h : wpList P ops Q rest (a.put o.dst (.agg cs)) w) : wpList P ops Q (o :: rest) a w := by
  obtain ⟨d, h1, h2⟩ := S.desc
  obtain ⟨t, hb⟩ := hb
  exact wpList_load_row hgd ty x ho g hx t cs (0, 0) d hb h1 (by cases d <;> first | rfl | (simp at h2)) (by rw [S.size, hn]) h
theorem Blk.row {g : Nat} {cs : Array Value} (hb : Blk w g cs) (cells : Array Value) : Blk (w.setRow g cells) g cells ∧ Kept (some g) w.heap.size w (w.setRow g cells) := by
  have hlt := hb.lt
  obtain ⟨t, hb⟩ := hb
  exact ⟨⟨t, setRow_heap w g _ _ t _ hb⟩, ⟨rfl, rfl, rfl, by simp [World.setRow], fun k hk hp => setRow_other w g k _ (fun e => hp (by rw [e]))⟩⟩
theorem wpList_storeB {ops : Array Oper} {rest : List Oper} {o : Oper} {a : Act} {Q : Exit → Act → World → Prop} (hgd : o.guard = none) (ty : TypeId) (x y : Operand) (ho : o.op = .store ty x y)
    (g : Nat) (cells : Array Value) (hx : a.eval x = .pointer (some ⟨g, 0, none⟩)) (hy : a.eval y = .agg cells) (old : Array Value) (hb : Blk w g old) {n : Nat} (S : Str P ty n) (hn : cells.size = n)
    (hold : old.size = cells.size) (h1 : cells.all (·.oneCell') = true)
    (h : ∀ w', Blk w' g cells → Kept (some g) w.heap.size w w' → wpList P ops Q rest (a.put o.dst undef) w') : wpList P ops Q (o :: rest) a w := by
  obtain ⟨k1, k2⟩ := hb.row cells
  obtain ⟨t, hb⟩ := hb
  exact wpList_store_row hgd ty x y ho g cells hx hy t old hb (by rw [S.size, hn]) hold h1 (h _ k1 k2)
/-- The walk stands still at a read, at a store of a value of type ty. -/
theorem stop_load {ops : Array Oper} {rest : List Oper} {o : Oper} {a : Act} {Q : Exit → Act → World → Prop} (ty : TypeId) (x : Operand) (_ : o.guard = none) (_ : o.op = .load ty x) (h : Stop (wpList P ops Q (o :: rest) a w)) : wpList P ops Q (o :: rest) a w := h
theorem stop_store {ops : Array Oper} {rest : List Oper} {o : Oper} {a : Act} {Q : Exit → Act → World → Prop} (ty : TypeId) (x y : Operand) (_ : o.guard = none) (_ : o.op = .store ty x y) (h : Stop (wpList P ops Q (o :: rest) a w)) : wpList P ops Q (o :: rest) a w := h
theorem results_B {fn : Func} {p : Tmp} {ty : TypeId} (h : fn.results = #[.cell p ty]) {tmps : Array Value} {g : Nat} {cs : Array Value} (hp : tmps.getD p undef = .pointer (some ⟨g, 0, none⟩)) (hb : Blk w g cs) {n : Nat} (S : Str P ty n) (hn : cs.size = n) :
    (results fn tmps).run P w = .ok (.agg cs) w := by
  obtain ⟨d, h1, h2⟩ := S.desc
  obtain ⟨t, hb⟩ := hb
  exact results_cell_row h tmps w g t cs (0, 0) d hp hb h1 (by cases d <;> first | rfl | (simp at h2)) (by rw [S.size, hn])
end
end Go.Proofs.YtjhndilflcigiaaDoor
namespace Go.Proofs.YtjhndilflcigiaaDoor
open Go.RowKit

/-- A world behind the making of one block, in which that block is as it was made. -/
def At (w w' : World) (cs : Array Value) : Prop := Below w.heap.size w w' ∧ Blk w' w.heap.size cs
theorem At.new (w : World) (t : TypeId) (cs : Array Value) : At w (w.alloc (.cells cs t)) cs := ⟨(Below.refl _ _).alloc (Nat.le_refl _) _, Blk.new _ _ _⟩
theorem At.step {w w1 w2 : World} {cs : Array Value} (h : At w w1 cs) (hb : Below w1.heap.size w1 w2) : At w w2 cs := ⟨h.1.trans (hb.mono h.1.size), h.2.below hb h.2.lt⟩
theorem At.alloc {w w1 : World} {cs : Array Value} (h : At w w1 cs) (o : Obj) : At w (w1.alloc o) cs := h.step ((Below.refl _ _).alloc (Nat.le_refl _) o)
end Go.Proofs.YtjhndilflcigiaaDoor
namespace Go.Proofs.YtjhndilflcigiaaDoor
open Go.RowKit

/-- A world behind the making of two blocks, in which they are as they were made. -/
def At2 (w w' : World) (cs ds : Array Value) : Prop := Below w.heap.size w w' ∧ Blk w' w.heap.size cs ∧ Blk w' (w.heap.size + 1) ds
theorem At2.new (w : World) (s t : TypeId) (cs ds : Array Value) : At2 w ((w.alloc (.cells cs s)).alloc (.cells ds t)) cs ds := by
  have h := (At.new w s cs).alloc (.cells ds t)
  refine ⟨h.1, h.2, ?_⟩
  have := Blk.new (w.alloc (.cells cs s)) t ds
  simpa using this
theorem At2.step {w w1 w2 : World} {cs ds : Array Value} (h : At2 w w1 cs ds) (hb : Below w1.heap.size w1 w2) : At2 w w2 cs ds := ⟨h.1.trans (hb.mono h.1.size), h.2.1.below hb h.2.1.lt, h.2.2.below hb h.2.2.lt⟩
end Go.Proofs.YtjhndilflcigiaaDoor
namespace Go.Proofs.YtjhndilflcigiaaDoor
open Go.RowKit

theorem fresh_below {w w' : World} {o : Obj} (hk : Kept (some w.heap.size) (w.alloc o).heap.size (w.alloc o) w') : Below w.heap.size w w' := ((Below.refl _ _).alloc (Nat.le_refl _) _).trans (hk.oneB (by simp) (Nat.le_refl _))
/-- The first block of a call's own is made. -/
theorem At.go {P : Program} {ops : Array Oper} {l : List Oper} {a : Act} {Q : Exit → Act → World → Prop} {t : TypeId} {w : World} {cs : Array Value} (h : ∀ w', At w w' cs → w'.heap.size = w.heap.size + 1 → wpList P ops Q l a w') :
    wpList P ops Q l a (w.alloc (.cells cs t)) := h _ (At.new w t cs) (by simp)
theorem At.as {w w' : World} {cs ds : Array Value} (h : At w w' cs) (e : cs = ds) : At w w' ds := e ▸ h
theorem At.kept {w w1 w2 : World} {cs : Array Value} (h : At w w1 cs) {q : Nat} (hq : w.heap.size < q) (k : Kept (some q) w1.heap.size w1 w2) : At w w2 cs :=
  ⟨h.1.trans (k.oneB h.1.size (by omega)), h.2.kept k h.2.lt (fun e => by injection e with e; omega)⟩
theorem At.lt {w w' : World} {cs : Array Value} (h : At w w' cs) : w.heap.size < w'.heap.size := h.2.lt
end Go.Proofs.YtjhndilflcigiaaDoor
