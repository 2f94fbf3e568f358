/-
  Lemmas (walks and plain laws), in one text.
-/
import Derived.Test.YtjhndilflcigiaaPb3
import Derived.Test.YtjhndilflcigiaaRows
import Derived.WalkKit
import Derived.WalkSpells
import Derived.WalkLawsBesides
import Derived.Lib.Hide
import Derived.Deep.QuietTactic
import Derived.BigQuiet
import Derived.Maps.AppendAt
import Derived.WalkSmall
import Derived.ProofKit
import Derived.OpenShut
import Derived.JoinedCond
import Derived.Deep.Slices
import Derived.Deep.Fields
import Derived.Carry
import Derived.Test.YtjhndilflcigiaaProg
import Derived.Deep.CutBlock
import Derived.Deep.DeepCutAuto
import Derived.Deep.AppendSrc
import Derived.Lib.AppendStr
import Derived.Laws.BytesArg
import Derived.Laws.CopyOwn
import Derived.Outline
import Derived.IntWalk
import Derived.Lib.EndianBits
import Derived.Laws.Tables
import Derived.Laws.Rows
import Derived.Shelf.Spec.TrailingZeros
import Derived.StillTail
import Derived.Lib.AppendZeros
import Derived.Deep.Quiet
import Derived.ChangeKeysEq
import Derived.Laws.StructEq
import Derived.Laws.LoneSync
namespace Go.Proofs.Ytjhndilflcigiaa
open Go.RowKit

set_option maxHeartbeats 400000 in
theorem c_pred_Check (l : List Node) (A : Option Addr) (c : Nat) (w : World) (h : InN w A c l) (hs : ∀ x ∈ l, x.v.s.length ≤ 9223372036854775807) :
    Calls Try.prog 69 #[.slice A l.length c] w (RetV w (.int .i64 (check l))) := by
  have hL := h.1
  have hC := h.2.1
  have hS := h.2.2.1
  have hdb := (depth_bd l).1
  have Hs := Lib.hid hs
  clear hs
  go_enter Try.func69, Try.ntmps69
  go_wp2_with (first
    | (go_at_call 96; refine (c_pred_End l A c 0 _ h).mono ?_; rintro e w1 ⟨rfl, hb1⟩)
    | (go_at_call 97; refine (c_ContainsFuncN l A c _ (h.below hb1) Hs.out).mono ?_; rintro e w2 ⟨rfl, hb2⟩)
    | (go_at_call 100; refine (c_pred_Depth l A c _ ((h.below hb1).below hb2)).mono ?_; rintro e w3 ⟨rfl, hb3⟩))
  all_goals (go_ret; (try have hz1 := hb1.size); (try have hz2 := hb2.size); refine RetV.int ?_ (by repeat (first | exact Below.refl _ _ | refine Below.drew ?_ | refine Below.alloc ?_ (by first | omega | (simp; done) | (simp; omega)) _ | refine Below.setCell ?_ (by first | omega | (simp; done) | (simp; omega)) _ | refine Below.trans ?_ (Below.mono (by assumption) (by first | omega | (simp; done) | (simp; omega))))); (simp_all [check] <;> first | omega | (intros; omega) | decide | grind))
end Go.Proofs.Ytjhndilflcigiaa
namespace Go.Proofs.Ytjhndilflcigiaa
open Go.RowKit

def named (op : Int) : Bool := decide (3 ≤ op) && decide (op ≤ 9)
def valued (op : Int) : Bool := decide (6 ≤ op) && decide (op ≤ 9)
/-- A node's bytes, a filter's bytes. -/
def nodeB (x : Node) : List UInt8 := num x.op ++ ((if named x.op then num x.n else []) ++ (if valued x.op then valB x.v else []))
@[irreducible] def putB (l : List Node) : List UInt8 := if check l = 0 then num l.length ++ l.flatMap nodeB else []
end Go.Proofs.Ytjhndilflcigiaa
namespace Go.Proofs.Ytjhndilflcigiaa
open Go.RowKit

/-- What is left, and the first error. -/
structure Rd where
  s : List UInt8
  e : Int
deriving DecidableEq

/-! A number off bytes: its error, its value, how many bytes it has. -/
def nxE : Nat → Bool → List UInt8 → Int
  | 0, _, _ => 3
  | _ + 1, _, [] => 2
  | f + 1, first, c :: s => if 128 ≤ c.toNat then nxE f false s else if c.toNat = 0 ∧ first = false then 3 else 0
def nxV : Nat → List UInt8 → Nat
  | 0, _ => 0
  | _ + 1, [] => 0
  | f + 1, c :: s => if 128 ≤ c.toNat then c.toNat % 128 + 128 * nxV f s else c.toNat
def nxK : Nat → List UInt8 → Nat
  | 0, _ => 0
  | _ + 1, [] => 0
  | f + 1, c :: s => if 128 ≤ c.toNat then nxK f s + 1 else 1
@[irreducible] def nErr (s : List UInt8) (most : Int) : Int := if nxE 6 true s = 0 then (if 1099511627776 < nxV 6 s ∨ most < (nxV 6 s : Int) then 4 else 0) else nxE 6 true s
@[irreducible] def nVal (s : List UInt8) (most : Int) : Int := if nErr s most = 0 then (nxV 6 s : Int) else 0
@[irreducible] def nLen (s : List UInt8) (most : Int) : Nat := if nErr s most = 0 then nxK 6 s else 0
/-! What the readers' calls answer, and what is left then. -/
def rdN (st : Rd) (most : Int) : Int := if st.e = 0 then nVal st.s most else 0
def rdN' (st : Rd) (most : Int) : Rd := if st.e = 0 then ⟨st.s.drop (nLen st.s most), nErr st.s most⟩ else st
def tErr (s : List UInt8) (most : Int) : Int := if nErr s most = 0 then (if nxV 6 s ≤ s.length - nxK 6 s then 0 else 2) else nErr s most
def rdS (st : Rd) (most : Int) : List UInt8 := if st.e = 0 ∧ tErr st.s most = 0 then (st.s.drop (nxK 6 st.s)).take (nxV 6 st.s) else []
def rdS' (st : Rd) (most : Int) : Rd := if st.e = 0 then (if tErr st.s most = 0 then ⟨st.s.drop (nxK 6 st.s + nxV 6 st.s), 0⟩ else ⟨st.s, tErr st.s most⟩) else st
def rdF (st : Rd) (e : Int) : Rd := if st.e = 0 then ⟨st.s, e⟩ else st
/-! A number's bytes are read as it. -/
/-! What is read as a number has just a number's bytes. -/
/-! How the loops over a number's bytes go. -/
def Peek (s : List UInt8) (k acc : Nat) : Prop :=
  k ≤ 6 ∧ k ≤ s.length ∧ acc < 128 ^ k ∧ nxE 6 true s = nxE (6 - k) (decide (k = 0)) (s.drop k) ∧ nxV 6 s = acc + 128 ^ k * nxV (6 - k) (s.drop k) ∧ nxK 6 s = k + nxK (6 - k) (s.drop k) ∧
    ∀ j c, j < k → s[j]? = some c → 128 ≤ c.toNat
section
variable {s : List UInt8} {k acc : Nat}
theorem Peek.next (h : Peek s k acc) (hk : k < 6) (hl : k < s.length) (hc : 128 ≤ s[k].toNat) : Peek s (k + 1) (acc + s[k].toNat % 128 * 128 ^ k) := by
  obtain ⟨_, _, h3, h4, h5, h6, h7⟩ := h
  rw [List.drop_eq_getElem_cons hl, show 6 - k = (6 - (k + 1)) + 1 by omega] at h4 h5 h6
  rw [nxE, if_pos hc] at h4
  rw [nxV, if_pos hc] at h5
  rw [nxK, if_pos hc] at h6
  have hm : s[k].toNat % 128 < 128 := Nat.mod_lt _ (by omega)
  refine ⟨by omega, by omega, ?_, ?_, ?_, by omega, ?_⟩
  · rw [Nat.pow_succ]
    have : s[k].toNat % 128 * 128 ^ k ≤ 127 * 128 ^ k := Nat.mul_le_mul_right _ (by omega)
    omega
  · rw [h4]; simp
  · rw [h5, Nat.mul_add, Nat.pow_succ, Nat.mul_comm (128 ^ k) (s[k].toNat % 128), Nat.mul_assoc]; omega
  · intro j c hj hjc
    rcases Nat.lt_or_ge j k with hlt | hge
    · exact h7 j c hlt hjc
    · obtain rfl : j = k := by omega
      rw [List.getElem?_eq_getElem hl] at hjc
      injection hjc with hjc
      rw [← hjc]; exact hc
theorem Peek.full (h : Peek s 6 acc) : nxE 6 true s = 3 := by rw [h.2.2.2.1]; rfl
theorem Peek.zero (h : Peek s k acc) (hk : k < 6) (hl : k < s.length) (hc : s[k].toNat = 0) (h0 : 0 < k) : nxE 6 true s = 3 := by
  rw [h.2.2.2.1, List.drop_eq_getElem_cons hl, show 6 - k = (6 - (k + 1)) + 1 by omega, nxE, if_neg (by omega), if_pos ⟨hc, by simp; omega⟩]
theorem Peek.done (h : Peek s k acc) (hk : k < 6) (hl : k < s.length) (hc : s[k].toNat < 128) (h0 : s[k].toNat ≠ 0 ∨ k = 0) : nxE 6 true s = 0 ∧ nxV 6 s = acc + s[k].toNat * 128 ^ k ∧ nxK 6 s = k + 1 := by
  obtain ⟨_, _, h3, h4, h5, h6, h7⟩ := h
  rw [List.drop_eq_getElem_cons hl, show 6 - k = (6 - (k + 1)) + 1 by omega] at h4 h5 h6
  rw [nxE, if_neg (by omega)] at h4
  rw [nxV, if_neg (by omega)] at h5
  rw [nxK, if_neg (by omega)] at h6
  refine ⟨?_, by rw [h5, Nat.mul_comm], h6⟩
  rw [h4, if_neg]
  rintro ⟨h1, h2⟩
  rcases h0 with h0 | h0
  · exact h0 h1
  · simp [h0] at h2
end
end Go.Proofs.Ytjhndilflcigiaa
namespace Go.Proofs.Ytjhndilflcigiaa
open Go.RowKit

/-! Worlds in which, below a block number, one block alone may have turned. -/
structure Kept (p : Option Nat) (B : Nat) (w w' : World) : Prop where
  os : w'.os = w.os
  tape : w'.tape = w.tape
  output : w'.output = w.output
  size : w.heap.size ≤ w'.heap.size
  block : ∀ k, k < B → p ≠ some k → w'.heap[k]? = w.heap[k]?
section
variable {p : Option Nat} {B B' : Nat} {a b c w w' : World}
theorem Kept.refl (p : Option Nat) (B : Nat) (w : World) : Kept p B w w := ⟨rfl, rfl, rfl, Nat.le_refl _, fun _ _ _ => rfl⟩
theorem Kept.of_below (h : Below B w w') : Kept p B w w' := ⟨h.os, h.tape, h.output, h.size, fun k hk _ => h.block k hk⟩
theorem Kept.trans (h : Kept p B a b) (k : Kept p B b c) : Kept p B a c := ⟨k.os.trans h.os, k.tape.trans h.tape, k.output.trans h.output, Nat.le_trans h.size k.size, fun i hi hp => (k.block i hi hp).trans (h.block i hi hp)⟩
theorem Kept.mono (h : Kept p B w w') (hB : B' ≤ B) : Kept p B' w w' := ⟨h.os, h.tape, h.output, h.size, fun k hk hp => h.block k (by omega) hp⟩
theorem Kept.below (h : Kept p B w w') (hB : B' ≤ B) (hp : ∀ g, p = some g → B' ≤ g) : Below B' w w' := ⟨h.os, h.tape, h.output, h.size, fun k hk => h.block k (by omega) (fun e => by have := hp k e; omega)⟩
theorem Kept.alloc (h : Kept p B a w) (hB : B ≤ w.heap.size) (o : Obj) : Kept p B a (w.alloc o) := h.trans (.of_below ((Below.refl _ _).alloc hB o))
theorem Kept.drew (h : Kept p B a w) : Kept p B a w.drew := ⟨h.os, h.tape, h.output, h.size, h.block⟩
theorem Kept.setCell (h : Kept p B a w) {q : Addr} (hq : B ≤ q.block ∨ p = some q.block) (u : Value) : Kept p B a (w.setCell q u) :=
  h.trans ⟨rfl, rfl, rfl, by simp [World.setCell], fun k hk hp => Below.heap_setCell _ _ _ _ (fun e => by
    subst e
    rcases hq with h | h
    · omega
    · exact hp h)⟩
theorem Kept.then_below (h : Kept p B a w) (k : Below w.heap.size w w') (hB : B ≤ w.heap.size) : Kept p B a w' := h.trans (.of_below (k.mono hB))
theorem Kept.then_kept (h : Kept p B a w) (k : Kept p w.heap.size w w') (hB : B ≤ w.heap.size) : Kept p B a w' := h.trans (k.mono hB)
theorem Kept.cell (h : Kept p B w w') {q : Addr} (hq : q.block < B) (hp : p ≠ some q.block) : w'.cell? q = w.cell? q := World.cell?_of_block (w := w) (h.block q.block hq hp)
theorem own_kept {base : Nat} {e : TypeId} {size n : Nat} {v : Value} {xs : List Value} (h : w.ownsRow base e size v n xs) (k : Kept p w.heap.size w w') (hp : ∀ g, p = some g → g < base) : w'.ownsRow base e size v n xs := by
  obtain ⟨h1, h2⟩ := h
  refine ⟨h1, ?_⟩
  rcases h2 with h2 | ⟨g, cap, cur, hv, hg, hh, r⟩
  · exact .inl h2
  · exact .inr ⟨g, cap, cur, hv, hg, by rw [k.block g (by
      rcases Nat.lt_or_ge g w.heap.size with hlt | hge
      · exact hlt
      · rw [Array.getElem?_eq_none hge] at hh; cases hh) (fun e => by have := hp g e; omega)]; exact hh, r⟩
end

/-! A block that is known whole. -/
def Blk (w : World) (g : Nat) (cs : Array Value) : Prop := ∃ t, w.heap[g]? = some (.cells cs t (0, 0))
section
variable {w w' : World} {g : Nat} {cs : Array Value}
theorem Blk.lt (h : Blk w g cs) : g < w.heap.size := by
  obtain ⟨t, h⟩ := h
  rcases Nat.lt_or_ge g w.heap.size with hlt | hge
  · exact hlt
  · rw [Array.getElem?_eq_none hge] at h; cases h
theorem Blk.cell (h : Blk w g cs) {i : Nat} {v : Value} (hv : cs[i]? = some v) : w.cell? ⟨g, i, none⟩ = some v := by
  obtain ⟨t, h⟩ := h
  simp [World.cell?, h, hv]
theorem Blk.frozen (h : Blk w g cs) (i : Nat) : w.frozen? ⟨g, i, none⟩ = false := by
  obtain ⟨t, h⟩ := h
  simp [World.frozen?, h]
theorem Blk.new (w : World) (t : TypeId) (cs : Array Value) : Blk (w.alloc (.cells cs t)) w.heap.size cs := ⟨t, heap_alloc_new w _⟩
theorem Blk.kept {p : Option Nat} {B : Nat} (h : Blk w g cs) (k : Kept p B w w') (hg : g < B) (hp : p ≠ some g) : Blk w' g cs := by
  obtain ⟨t, h⟩ := h
  exact ⟨t, (k.block g hg hp).trans h⟩
theorem Blk.below {B : Nat} (h : Blk w g cs) (k : Below B w w') (hg : g < B) : Blk w' g cs := by
  obtain ⟨t, h⟩ := h
  exact ⟨t, (k.block g hg).trans h⟩
theorem Blk.store (h : Blk w g cs) (i : Nat) (u : Value) : Blk (w.setCell ⟨g, i, none⟩ u) g (cs.setIfInBounds i u) := by
  obtain ⟨t, h⟩ := h
  exact ⟨t, by simp [World.setCell, Array.getElem?_modify, h]⟩
theorem Blk.far (h : Blk w g cs) {q : Addr} (hq : g ≠ q.block) (u : Value) : Blk (w.setCell q u) g cs := by
  obtain ⟨t, h⟩ := h
  exact ⟨t, (Below.heap_setCell w q u g hq).trans h⟩
end

/-! The readers in memory. -/
/-- The program's reader at block g: the bytes B, the place, the error. -/
def RdA (w : World) (g : Nat) (A : Option Addr) (c : Nat) (B : List UInt8) (pos : Nat) (e : Int) : Prop :=
  Blk w g #[.slice A B.length c, .int .i64 pos, .int .i64 e] ∧ pos ≤ B.length ∧ B.length ≤ c ∧ c ≤ 9223372036854775807 ∧ B.length ≤ 4294967296 ∧ (B = [] ∨ ∃ b off, A = some ⟨b, off, none⟩ ∧ b < g ∧ Row 1 bc w b off B)
/-- The program's reader; none: the nil one. -/
def RdP (w : World) (p : Option Nat) (st : Rd) : Prop :=
  (p = none ∧ st = ⟨[], 1⟩) ∨ ∃ g A c B pos, p = some g ∧ RdA w g A c B pos st.e ∧ st.s = B.drop pos
/-- The reference's reader at block h. -/
def RdR (w : World) (h : Nat) (st : Rd) : Prop := Blk w h #[.string (str st.s), .int .i64 st.e] ∧ st.s.length ≤ 4294967296
section
variable {w w' : World} {g h : Nat} {A : Option Addr} {c pos : Nat} {B : List UInt8} {e : Int} {p q : Option Nat} {st st' : Rd}
theorem RdA.kept (r : RdA w g A c B pos e) (k : Kept q w.heap.size w w') (hq : ∀ h, q = some h → g < h) : RdA w' g A c B pos e := by
  obtain ⟨h1, h2, h3, h4, h5, h6⟩ := r
  refine ⟨h1.kept k h1.lt (fun e => by have := hq g e; omega), h2, h3, h4, h5, h6.imp id fun ⟨b, off, hA, hb, hr⟩ => ⟨b, off, hA, hb, ?_⟩⟩
  have := h1.lt
  exact hr.keep fun o => k.cell (by show b < _; omega) (fun e => by have := hq b e; omega)
theorem RdA.store2 (r : RdA w g A c B pos e) (e' : Int) : RdA (w.setCell ⟨g, 2, none⟩ (.int .i64 e')) g A c B pos e' := by
  obtain ⟨h1, h2, h3, h4, h5, h6⟩ := r
  refine ⟨by simpa using h1.store 2 (.int .i64 e'), h2, h3, h4, h5, h6.imp id fun ⟨b, off, hA, hb, hr⟩ => ⟨b, off, hA, hb, ?_⟩⟩
  exact hr.keep fun o => World.cell?_setCell_other _ _ _ _ (fun e => by injection e; omega)
theorem RdP.kept (r : RdP w p st) (k : Kept q w.heap.size w w') (hq : ∀ g h, p = some g → q = some h → g < h) : RdP w' p st :=
  r.imp id fun ⟨g, A, c, B, pos, hp, ha, hs⟩ => ⟨g, A, c, B, pos, hp, ha.kept k (fun h => hq g h hp), hs⟩
theorem RdP.below (r : RdP w p st) (k : Below w.heap.size w w') : RdP w' p st := r.kept (q := none) (.of_below k) (fun _ _ _ h => by cases h)
theorem RdP.lt (r : RdP w p st) (hg : p = some g) : g < w.heap.size := by
  rcases r with ⟨rfl, _⟩ | ⟨g', A, c, B, pos, hp, ha, _⟩
  · cases hg
  · rw [hp] at hg; injection hg with hg; subst hg; exact ha.1.lt
theorem RdR.kept (r : RdR w h st) (k : Kept q w.heap.size w w') (hq : q ≠ some h) : RdR w' h st := ⟨r.1.kept k r.1.lt hq, r.2⟩
theorem RdR.below (r : RdR w h st) (k : Below w.heap.size w w') : RdR w' h st := r.kept (q := none) (.of_below k) (by simp)
theorem RdR.lt (r : RdR w h st) : h < w.heap.size := r.1.lt
theorem RdP.len (r : RdP w p st) : st.s.length ≤ 4294967296 := by
  rcases r with ⟨rfl, rfl⟩ | ⟨g, A, c, B, pos, hp, ha, hs⟩
  · simp
  · rw [hs]; have := ha.2.2.2.2.1; simp; omega
end

/-! The ends of the readers' calls. -/
/-- The call hands back v, the program's reader is then st'; nothing else below the heap's end has turned. -/
def RetP (p : Option Nat) (st' : Rd) (w : World) (v : Value) (e : Ending) (w' : World) : Prop := e = .returned v ∧ RdP w' p st' ∧ Kept p w.heap.size w w'
end Go.Proofs.Ytjhndilflcigiaa
namespace Go.Proofs.Ytjhndilflcigiaa
open Go.RowKit

theorem RdP.nil {w : World} {st : Rd} (h : RdP w none st) : st = ⟨[], 1⟩ := by
  rcases h with ⟨_, h⟩ | ⟨g, _, _, _, _, h, _⟩
  · exact h
  · cases h
theorem RdP.at {w : World} {g : Nat} {st : Rd} (h : RdP w (some g) st) : ∃ A c B pos, RdA w g A c B pos st.e ∧ st.s = B.drop pos := by
  rcases h with ⟨h, _⟩ | ⟨g', A, c, B, pos, h, ha, hs⟩
  · cases h
  · injection h with h; subst h; exact ⟨A, c, B, pos, ha, hs⟩
theorem RdP.mk {w : World} {g : Nat} {A : Option Addr} {c : Nat} {B : List UInt8} {pos : Nat} {st : Rd} (ha : RdA w g A c B pos st.e) (hs : st.s = B.drop pos) : RdP w (some g) st := .inr ⟨g, A, c, B, pos, rfl, ha, hs⟩
theorem RdP.nilmk (w : World) : RdP w none ⟨[], 1⟩ := .inl ⟨rfl, rfl⟩
theorem RetP.nil {w w' : World} {st' : Rd} {v : Value} (h : st' = ⟨[], 1⟩) (hb : Below w.heap.size w w') : RetP none st' w v (.returned v) w' := by subst h; exact ⟨rfl, RdP.nilmk _, .of_below hb⟩
theorem RetP.same {w w' : World} {p : Option Nat} {st : Rd} {v : Value} (h : RdP w p st) (hb : Below w.heap.size w w') : RetP p st w v (.returned v) w' := ⟨rfl, h.below hb, .of_below hb⟩

/-- The nil reader, or the one at g. -/
theorem RdA.fail {w : World} {g : Nat} {A : Option Addr} {c : Nat} {B : List UInt8} {pos : Nat} {st : Rd} {e : Int} (ha : RdA w g A c B pos st.e) (hs : st.s = B.drop pos) : RdP (w.setCell ⟨g, 2, none⟩ (.int .i64 e)) (some g) ⟨st.s, e⟩ ∧ Kept (some g) w.heap.size w (w.setCell ⟨g, 2, none⟩ (.int .i64 e)) :=
  ⟨RdP.mk (ha.store2 e) hs, (Kept.refl _ _ _).setCell (q := ⟨g, 2, none⟩) (.inr rfl) _⟩
theorem RdA.in {w : World} {g : Nat} {A : Option Addr} {c : Nat} {B : List UInt8} {pos : Nat} {e : Int} (ha : RdA w g A c B pos e) : InB w A c B :=
  ⟨ha.2.2.1, ha.2.2.2.1, ha.2.2.2.2.1, ha.2.2.2.2.2.imp id fun ⟨b, off, hA, hb, hr⟩ => ⟨b, off, hA, by have := ha.1.lt; omega, hr⟩⟩
end Go.Proofs.Ytjhndilflcigiaa
namespace Go.Proofs.Ytjhndilflcigiaa
open Go.RowKit

/-- A value off bytes, and what the reader is then. -/
def rdVal' (st : Rd) : Rd := if rdN st 2 = 1 then rdN' (rdN' st 2) 1099511627776 else if rdN st 2 = 2 then rdS' (rdN' st 2) 24 else rdN' st 2
def rdVal (st : Rd) : Val := if (rdVal' st).e = 0 then ⟨rdN st 2, if rdN st 2 = 1 then rdN (rdN' st 2) 1099511627776 else 0, if rdN st 2 = 2 then rdS (rdN' st 2) 24 else []⟩ else ⟨0, 0, []⟩
/-! A number that is not 0. -/
end Go.Proofs.Ytjhndilflcigiaa
namespace Go.Proofs.Ytjhndilflcigiaa
open Go.RowKit

theorem RdP.own {w w' : World} {p : Option Nat} {st : Rd} {b : Nat} (r : RdP w p st) (k : Kept (some b) w.heap.size w w') (hb : ∀ g, p = some g → g < b) : RdP w' p st :=
  r.kept k (fun g h hg hh => by injection hh with hh; subst hh; exact hb g hg)
theorem RdP.up {w w' : World} {p : Option Nat} {st : Rd} {B : Nat} (r : RdP w p st) (k : Below B w w') (hb : ∀ g, p = some g → g < B) : RdP w' p st := by
  rcases r with ⟨rfl, hs⟩ | ⟨g, A, c, L, pos, rfl, ⟨h1, h2, h3, h4, h5, h6⟩, hs⟩
  · exact .inl ⟨rfl, hs⟩
  · have hg := hb g rfl
    exact .inr ⟨g, A, c, L, pos, rfl, ⟨h1.below k hg, h2, h3, h4, h5, h6.imp id fun ⟨b, off, hA, hbg, hr⟩ => ⟨b, off, hA, hbg, hr.belowB k (by omega)⟩⟩, hs⟩
theorem RdR.up {w w' : World} {h : Nat} {st : Rd} {B : Nat} (r : RdR w h st) (k : Below B w w') (hb : h < B) : RdR w' h st := ⟨r.1.below k hb, r.2⟩
end Go.Proofs.Ytjhndilflcigiaa
namespace Go.Proofs.Ytjhndilflcigiaa
open Go.RowKit

def belowOf (op : Int) : Int := if op = 3 ∨ op = 4 then 16 else 8
def ndA (st : Rd) : Rd := if rdN st 12 = 0 then rdF (rdN' st 12) 3 else rdN' st 12
def ndN (st : Rd) : Int := if named (rdN st 12) then rdN (ndA st) (belowOf (rdN st 12) - 1) else 0
def ndB (st : Rd) : Rd := if named (rdN st 12) then rdN' (ndA st) (belowOf (rdN st 12) - 1) else ndA st
def ndV (st : Rd) : Val := if valued (rdN st 12) then rdVal (ndB st) else ⟨0, 0, []⟩
def ndC (st : Rd) : Rd := if valued (rdN st 12) then rdVal' (ndB st) else ndB st
def ndNode (st : Rd) : Node := ⟨rdN st 12, ndN st, ndV st⟩
def ndD (st : Rd) : Rd := if valued (rdN st 12) ∧ (ndNode st).ok = false then rdF (ndC st) 3 else ndC st
def rdNodes : Nat → Rd → List Node
  | 0, _ => []
  | k + 1, st => if st.e = 0 then ndNode st :: rdNodes k (ndD st) else []
def rdNodes' : Nat → Rd → Rd
  | 0, st => st
  | k + 1, st => if st.e = 0 then rdNodes' k (ndD st) else st
def pdA (st : Rd) : Rd := if rdN st 31 = 0 then rdF (rdN' st 31) 3 else rdN' st 31
def pdL (st : Rd) : List Node := rdNodes (rdN st 31).toNat (pdA st)
def pdS (st : Rd) : Rd := rdNodes' (rdN st 31).toNat (pdA st)
@[irreducible] def rdPred (st : Rd) : List Node := if (pdS st).e = 0 ∧ check (pdL st) = 0 then pdL st else []
@[irreducible] def rdPred' (st : Rd) : Rd := if (pdS st).e = 0 then (if check (pdL st) = 0 then pdS st else if check (pdL st) = 5 then ⟨(pdS st).s, 5⟩ else ⟨(pdS st).s, 3⟩) else pdS st

theorem Kept.low {p : Option Nat} {B : Nat} {a w w' : World} (h : Kept p B a w) (k : Below B w w') : Kept p B a w' := h.trans (.of_below k)
/-! The ends of the calls that read a slice. -/
end Go.Proofs.Ytjhndilflcigiaa
namespace Go.Proofs.Ytjhndilflcigiaa
open Go.RowKit

structure Rep where
  kind : Int
  dev : Int
  req : Int
  code : Int
  id : Int
  ver : Int
  seq : Int
  epoch : Int
  f : List Node
  mask : Nat
deriving DecidableEq
abbrev rz : Rep := ⟨0, 0, 0, 0, 0, 0, 0, 0, [], 0⟩
/-- An answer's cells; the filter lies elsewhere. -/
abbrev Rep.arr (a : Rep) (A : Option Addr) (c : Nat) : Array Value := #[.int .i64 a.kind, .int .i64 a.dev, .int .i64 a.req, .int .i64 a.code, .int .i64 a.id, .int .i64 a.ver, .int .i64 a.seq, .int .i64 a.epoch, .slice A a.f.length c, .int .u32 a.mask]
def Rep.base (a : Rep) : Bool := decide (2 ≤ a.kind ∧ a.kind ≤ 4 ∧ 0 ≤ a.dev ∧ a.dev < 6 ∧ 1 ≤ a.req ∧ a.req ≤ 1099511627776 ∧ 0 ≤ a.code ∧ a.code ≤ 16)
def Rep.seqOk (a : Rep) : Bool := if a.code = 0 then decide (0 ≤ a.seq ∧ a.seq ≤ 1099511627776) else decide (a.seq = 0)
def Rep.isPut (a : Rep) : Bool := decide (a.code = 0 ∧ a.kind = 2)
def Rep.isSub (a : Rep) : Bool := decide (a.code = 0 ∧ a.kind = 3)
def Rep.putOk (a : Rep) : Bool := if a.isPut then decide (1 ≤ a.id ∧ a.id ≤ 1073741823 ∧ 1 ≤ a.ver ∧ a.ver ≤ 1099511627776) else decide (a.id = 0 ∧ a.ver = 0)
def Rep.subOk (a : Rep) : Bool := if a.isSub then decide (1 ≤ a.epoch ∧ a.epoch ≤ 1099511627776 ∧ check a.f = 0 ∧ a.mask < 512) else decide (a.epoch = 0 ∧ a.f = [] ∧ a.mask = 0)
def Rep.ok (a : Rep) : Bool := a.base && (a.seqOk && (a.putOk && a.subOk))
theorem Rep.base_iff {a : Rep} : a.base = true ↔ (2 ≤ a.kind ∧ a.kind ≤ 4 ∧ 0 ≤ a.dev ∧ a.dev < 6 ∧ 1 ≤ a.req ∧ a.req ≤ 1099511627776 ∧ 0 ≤ a.code ∧ a.code ≤ 16) := by unfold Rep.base; exact decide_eq_true_iff
/-! A number that is not less than another one. -/
/-! What is read as an answer. -/
end Go.Proofs.Ytjhndilflcigiaa
namespace Go.Proofs.Ytjhndilflcigiaa
open Go.ChangeShapes Go.WideShapes Go.ChangeAt Go.RowKit Go.Deep
open Go.ChangeMaps (open_string shut_string)

theorem list10 {α : Type} {l : List α} (h : l.length = 10) : ∃ a b c d e f g i j k, l = [a, b, c, d, e, f, g, i, j, k] := by
  match l, h with
  | [a, b, c, d, e, f, g, i, j, k], _ => exact ⟨a, b, c, d, e, f, g, i, j, k, rfl⟩
section
variable {H : Type} {enc : TypeId × Value → H} {w : World} {base : Nat} {spare : Nat → Bool} {held : Bool}
theorem c_reply : Try.prog.cellsOf 47 = 10 := by kernel_rfl
theorem c_errno : Try.prog.cellsOf 24 = 1 := by kernel_rfl
theorem c_nodes : Try.prog.cellsOf 44 = 1 := by kernel_rfl
theorem c_uint32 : Try.prog.cellsOf 45 = 1 := by kernel_rfl
theorem u32_rng {n : Int} (h : (Lit.int .u32 n).wf = true) : 0 ≤ n ∧ n < 4294967296 := by
  have := (show 0 ≤ n ∧ n ≤ 4294967295 by simpa [Lit.wf, IntKind.min, IntKind.max, IntKind.signed, IntKind.bits] using h)
  omega
theorem open_reply {fuel : Nat} {cs : List Value} {x : DataW H × List MemPlace} (h : DataW.trod enc Try.prog w 0 spare held fuel 47 cs = some x) :
    ∃ (a : Rep) (A : Option Addr) (c : Nat), cs = (a.arr A c).toList ∧ a.f.length ≤ c ∧ c ≤ 9223372036854775807 ∧ (a.f = [] ∨ ∃ b off, A = some ⟨b, off, none⟩ ∧ b < w.heap.size ∧ Row 5 Node.cells w b off a.f) ∧ (∀ v ∈ a.f, v.wf) ∧ a.mask < 4294967296 := by
  obtain ⟨xs, n, _, _, hl, hxl, hf⟩ := DataW.trod_struct Try.underlying47 h
  rw [c_reply] at hl
  obtain ⟨q0, q1, q2, q3, q4, q5, q6, q7, q8, q9, rfl⟩ := list10 hl
  obtain ⟨x0, x1, x2, x3, x4, x5, x6, x7, x8, x9, rfl⟩ := list10 (show xs.length = 10 from hxl)
  have h0 := hf 0
  have h1 := hf 1
  have h2 := hf 2
  have h3 := hf 3
  have h4 := hf 4
  have h5 := hf 5
  have h6 := hf 6
  have h7 := hf 7
  have h8 := hf 8
  have h9 := hf 9
  simp [c_int, c_errno, c_nodes, c_uint32] at h0 h1 h2 h3 h4 h5 h6 h7 h8 h9
  obtain ⟨a0, e0, -, -⟩ := DataW.trod_int Try.underlying3 h0
  obtain ⟨a1, e1, -, -⟩ := DataW.trod_int Try.underlying3 h1
  obtain ⟨a2, e2, -, -⟩ := DataW.trod_int Try.underlying3 h2
  obtain ⟨a3, e3, -, -⟩ := DataW.trod_int Try.underlying24 h3
  obtain ⟨a4, e4, -, -⟩ := DataW.trod_int Try.underlying3 h4
  obtain ⟨a5, e5, -, -⟩ := DataW.trod_int Try.underlying3 h5
  obtain ⟨a6, e6, -, -⟩ := DataW.trod_int Try.underlying3 h6
  obtain ⟨a7, e7, -, -⟩ := DataW.trod_int Try.underlying3 h7
  obtain ⟨A, c, l, e8, k1, k2, k3, k4, -⟩ := open_nodes h8
  obtain ⟨a9, e9, -, w9⟩ := DataW.trod_int Try.underlying45 h9
  have hr := u32_rng w9
  simp at e0 e1 e2 e3 e4 e5 e6 e7 e8 e9
  subst e0 e1 e2 e3 e4 e5 e6 e7 e8 e9
  exact ⟨⟨a0, a1, a2, a3, a4, a5, a6, a7, l, a9.toNat⟩, A, c, by simp [Int.toNat_of_nonneg hr.1], k1, k2, k3, k4, by show a9.toNat < _; omega⟩
end
end Go.Proofs.Ytjhndilflcigiaa
namespace Go.Proofs.Ytjhndilflcigiaa
open Go.RowKit

/-- The type ty is a struct or an array of n cells. -/
structure Str (P : Program) (ty : TypeId) (n : Nat) : Prop where
  desc : ∃ d, P.underlying ty = some d ∧ (match d with | .struct _ | .array _ _ => true | _ => false) = true
  size : (P.info? ty).map (·.size) = some n
section
variable {P : Program} {w : World}
theorem Kept.one {g : Nat} {w' : World} (h : Kept (some g) w.heap.size w w') {p : Option Nat} {B : Nat} (hB : B ≤ w.heap.size) (hg : B ≤ g ∨ p = some g) : Kept p B w w' :=
  ⟨h.os, h.tape, h.output, h.size, fun k hk hp => h.block k (by omega) (fun e => by
    injection e with e; subst e
    rcases hg with hg | hg
    · omega
    · exact hp hg)⟩
theorem Kept.oneB {g B : Nat} {w' : World} (h : Kept (some g) w.heap.size w w') (hB : B ≤ w.heap.size) (hg : B ≤ g) : Below B w w' := h.below hB (fun k hk => by injection hk with hk; omega)
theorem wpList_loadB {ops : Array Oper} {rest : List Oper} {o : Oper} {a : Act} {Q : Exit → Act → World → Prop} (hgd : o.guard = none) (ty : TypeId) (x : Operand) (ho : o.op = .load ty x)
    (g : Nat) (hx : a.eval x = .pointer (some ⟨g, 0, none⟩)) (cs : Array Value) (hb : Blk w g cs) {n : Nat} (S : Str P ty n) (hn : cs.size = n)
    (h : wpList P ops Q rest (a.put o.dst (.agg cs)) w) : wpList P ops Q (o :: rest) a w := by
  obtain ⟨d, h1, h2⟩ := S.desc
  obtain ⟨t, hb⟩ := hb
  exact wpList_load_row hgd ty x ho g hx t cs (0, 0) d hb h1 (by cases d <;> first | rfl | (simp at h2)) (by rw [S.size, hn]) h
theorem Blk.row {g : Nat} {cs : Array Value} (hb : Blk w g cs) (cells : Array Value) : Blk (w.setRow g cells) g cells ∧ Kept (some g) w.heap.size w (w.setRow g cells) := by
  have hlt := hb.lt
  obtain ⟨t, hb⟩ := hb
  exact ⟨⟨t, setRow_heap w g _ _ t _ hb⟩, ⟨rfl, rfl, rfl, by simp [World.setRow], fun k hk hp => setRow_other w g k _ (fun e => hp (by rw [e]))⟩⟩
theorem wpList_storeB {ops : Array Oper} {rest : List Oper} {o : Oper} {a : Act} {Q : Exit → Act → World → Prop} (hgd : o.guard = none) (ty : TypeId) (x y : Operand) (ho : o.op = .store ty x y)
    (g : Nat) (cells : Array Value) (hx : a.eval x = .pointer (some ⟨g, 0, none⟩)) (hy : a.eval y = .agg cells) (old : Array Value) (hb : Blk w g old) {n : Nat} (S : Str P ty n) (hn : cells.size = n)
    (hold : old.size = cells.size) (h1 : cells.all (·.oneCell') = true)
    (h : ∀ w', Blk w' g cells → Kept (some g) w.heap.size w w' → wpList P ops Q rest (a.put o.dst undef) w') : wpList P ops Q (o :: rest) a w := by
  obtain ⟨k1, k2⟩ := hb.row cells
  obtain ⟨t, hb⟩ := hb
  exact wpList_store_row hgd ty x y ho g cells hx hy t old hb (by rw [S.size, hn]) hold h1 (h _ k1 k2)
/-- The walk stands still at a read, at a store of a value of type ty. -/
theorem stop_load {ops : Array Oper} {rest : List Oper} {o : Oper} {a : Act} {Q : Exit → Act → World → Prop} (ty : TypeId) (x : Operand) (_ : o.guard = none) (_ : o.op = .load ty x) (h : Stop (wpList P ops Q (o :: rest) a w)) : wpList P ops Q (o :: rest) a w := h
theorem stop_store {ops : Array Oper} {rest : List Oper} {o : Oper} {a : Act} {Q : Exit → Act → World → Prop} (ty : TypeId) (x y : Operand) (_ : o.guard = none) (_ : o.op = .store ty x y) (h : Stop (wpList P ops Q (o :: rest) a w)) : wpList P ops Q (o :: rest) a w := h
theorem results_B {fn : Func} {p : Tmp} {ty : TypeId} (h : fn.results = #[.cell p ty]) {tmps : Array Value} {g : Nat} {cs : Array Value} (hp : tmps.getD p undef = .pointer (some ⟨g, 0, none⟩)) (hb : Blk w g cs) {n : Nat} (S : Str P ty n) (hn : cs.size = n) :
    (results fn tmps).run P w = .ok (.agg cs) w := by
  obtain ⟨d, h1, h2⟩ := S.desc
  obtain ⟨t, hb⟩ := hb
  exact results_cell_row h tmps w g t cs (0, 0) d hp hb h1 (by cases d <;> first | rfl | (simp at h2)) (by rw [S.size, hn])
end
end Go.Proofs.Ytjhndilflcigiaa
