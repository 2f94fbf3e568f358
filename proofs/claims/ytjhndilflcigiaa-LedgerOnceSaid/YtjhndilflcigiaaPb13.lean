/-
  Lemmas (walks and plain laws), in one text.
-/
import Derived.Test.YtjhndilflcigiaaPb12
import Derived.Test.YtjhndilflcigiaaRows
import Derived.WalkKit
import Derived.WalkSpells
import Derived.WalkLawsBesides
import Derived.Lib.Hide
import Derived.Deep.QuietTactic
import Derived.BigQuiet
import Derived.Maps.AppendAt
import Derived.WalkSmall
import Derived.ProofKit
import Derived.OpenShut
import Derived.JoinedCond
import Derived.Deep.Slices
import Derived.Deep.Fields
import Derived.Carry
import Derived.Test.YtjhndilflcigiaaProg
import Derived.Deep.CutBlock
import Derived.Deep.DeepCutAuto
import Derived.Deep.AppendSrc
import Derived.Lib.AppendStr
import Derived.Laws.BytesArg
import Derived.Laws.CopyOwn
import Derived.Outline
import Derived.IntWalk
import Derived.Lib.EndianBits
import Derived.Laws.Tables
import Derived.Laws.Rows
import Derived.Shelf.Spec.TrailingZeros
import Derived.StillTail
import Derived.Lib.AppendZeros
import Derived.Deep.Quiet
import Derived.ChangeKeysEq
import Derived.Laws.StructEq
import Derived.Laws.LoneSync
namespace Go.Proofs.Ytjhndilflcigiaa
open Go.ChangeShapes Go.WideShapes Go.ChangeAt Go.RowKit Go.Deep
open Go.ChangeMaps (open_string shut_string)

section
variable {H : Type} {enc : TypeId × Value → H} {w : World} {spare : Nat → Bool} {held : Bool}
theorem c_act : Try.prog.cellsOf 50 = 11 := by kernel_rfl
/-- What the form says of a filter that came in. -/
def FltRaw (w : World) (A : Option Addr) (c : Nat) (f : List Node) : Prop := f.length ≤ c ∧ c ≤ 9223372036854775807 ∧ (f = [] ∨ ∃ b off, A = some ⟨b, off, none⟩ ∧ b < w.heap.size ∧ Row 5 Node.cells w b off f) ∧ ∀ v ∈ f, v.wf
theorem Flt.of {A : Option Addr} {c : Nat} {f : List Node} (h : FltRaw w A c f) : Flt w A c f := by
  obtain ⟨h1, h2, h3, h4⟩ := h
  refine ⟨fun w' hb => ?_, fun hl => ?_, fun hl x hx => ?_⟩
  · by_cases h100 : 100 < f.length
    · have : large f = true := by unfold large; simp [h100]
      rw [this]
      exact c_law10_Large_long f.length A c w' h100 h1 h2
    · have hin : InN w A c f := ⟨h1, h2, by omega, h3⟩
      exact c_law10_Large f A c w' (hin.below hb) (fun x hx => (h4 x hx).2.2.2.2)
  · have := (large_short hl).1
    exact ⟨h1, h2, by omega, h3⟩
  · have := (large_short hl).2 x hx
    omega
theorem open_act {fuel : Nat} {cs : List Value} {x : DataW H × List MemPlace} (h : DataW.trod enc Try.prog w 0 spare held fuel 50 cs = some x) :
    ∃ v : DL, cs = DL.cells v ∧ FltRaw w v.2.1 v.2.2 v.1.a.f ∧ v.1.a.mask < 4294967296 := by
  obtain ⟨xs, n, _, _, hl, hxl, hf⟩ := DataW.trod_struct Try.underlying50 h
  rw [c_act] at hl
  have h0 := hf 0
  have h1 := hf 1
  obtain ⟨x0, x1, rfl⟩ : ∃ a b, xs = [a, b] := by
    match xs, (show xs.length = 2 from hxl) with
    | [a, b], _ => exact ⟨a, b, rfl⟩
  simp [c_int, c_reply] at h0 h1
  obtain ⟨a0, e0, -, -⟩ := DataW.trod_int Try.underlying3 h0
  obtain ⟨a, A, c, e1, k1, k2, k3, k4, k5⟩ := open_reply h1
  refine ⟨(⟨a0, a⟩, A, c), ?_, ⟨k1, k2, k3, k4⟩, k5⟩
  cases cs with
  | nil => simp at hl
  | cons q0 r =>
    simp only [List.length_cons] at hl
    simp only [List.take_succ_cons, List.take_zero, List.cons.injEq, and_true, List.tail_cons] at e0 e1
    rw [List.take_of_length_le (by omega)] at e1
    unfold DL.cells
    rw [e0, e1]
    rfl
theorem open_acts {fuel : Nat} {cs : List Value} {x : DataW H × List MemPlace} (h : DataW.trod enc Try.prog w 0 spare held fuel 41 cs = some x) :
    ∃ (A : Option Addr) (c : Nat) (l : List DL), cs = [.slice A l.length c] ∧ InD w A c l := by
  rcases open_slice Try.underlying41 h with ⟨rfl, rfl⟩ | ⟨a, len, cap, m, n, D, Pl, rfl, hb, hl, hm, hmm, hx, hi⟩
  · exact ⟨none, 0, [], rfl, by simp, by omega, .inl rfl, (fun _ h => by cases h), (fun _ h => by cases h)⟩
  · have hlm : len ≤ m := by rw [hmm]; split <;> omega
    have hq : ∀ i, i < len → ∃ v : DL, (∀ j u, (DL.cells v)[j]? = some u → w.cell? (a.add (i * 11 + j)) = some u) ∧ FltRaw w v.2.1 v.2.2 v.1.a.f ∧ v.1.a.mask < 4294967296 := by
      intro i hil
      obtain ⟨cs', hc, ht⟩ := hi i (by omega)
      rw [c_act] at hc
      obtain ⟨v, rfl, hv, hm⟩ := open_act ht
      obtain ⟨_, hcl, hat⟩ := World.cells?_some hc
      refine ⟨v, fun j u hu => ?_, hv, hm⟩
      have hj : j < 11 := by rw [← DL.cells_len v]; exact (List.getElem?_eq_some_iff.1 hu).1
      have h1 := hat j hj
      rw [Go.Deep.add_add] at h1
      rw [h1]; exact hu
    obtain ⟨l, hll, hq⟩ := list_of len hq
    refine ⟨some a, cap, l, by rw [hll], by omega, by unfold maxLen at hm; omega, ?_, fun v hv => ?_, fun v hv => ?_⟩
    · rcases Nat.eq_zero_or_pos len with h0 | h0
      · exact .inl (List.eq_nil_of_length_eq_zero (by omega))
      · right
        have h1 := (hq 0 (by omega)).1 0 _ rfl
        have hsp := cell_spot h1
        have hlt := World.block_lt_of_cell? w _ h1
        obtain ⟨ab, ao, asp⟩ := a
        simp [Addr.add] at hsp hlt
        subst hsp
        refine ⟨ab, ao, rfl, hlt, fun i hi j u hu => ?_⟩
        have := (hq i hi).1 j u hu
        rw [add_lit'] at this
        rw [Nat.add_assoc]; exact this
    · obtain ⟨i, hi, rfl⟩ := List.getElem_of_mem hv
      exact Flt.of (hq i hi).2.1
    · obtain ⟨i, hi, rfl⟩ := List.getElem_of_mem hv
      exact (hq i hi).2.2
end
end Go.Proofs.Ytjhndilflcigiaa
namespace Go.Proofs.Ytjhndilflcigiaa
open Go.RowKit

/-- An answer, and where its filter lies. -/
abbrev OA := Rep × Option Addr × Nat
def OA.cells (x : OA) : List Value := (x.1.arr x.2.1 x.2.2).toList
theorem OA.cells_len (x : OA) : (OA.cells x).length = 10 := rfl
abbrev zo : OA := (rz, none, 0)
@[irreducible] def laArr (l : List OA) : Array Value := (l.flatMap OA.cells).toArray
theorem la_size (l : List OA) : (laArr l).size = l.length * 10 := by unfold laArr; rw [List.size_toArray, flat_length OA.cells_len]
theorem la_get {l : List OA} {k : Nat} (h : k < l.length) (j : Nat) (hj : j < 10) : (laArr l)[k * 10 + j]? = (OA.cells l[k])[j]? := by
  unfold laArr; rw [List.getElem?_toArray]; exact flat_get OA.cells_len l k h j hj
theorem la_put {l : List OA} {k : Nat} (_hk : k < l.length) (x : OA) : putAt (laArr l) (k * 10) (x.1.arr x.2.1 x.2.2).toList = laArr (l.set k x) := by
  have hs := la_size l
  have hs2 := la_size (l.set k x)
  rw [List.length_set] at hs2
  have hlen : (x.1.arr x.2.1 x.2.2).toList.length = 10 := rfl
  apply Array.ext_getElem?
  intro i
  by_cases hi : i < l.length * 10
  · have hq : i / 10 < l.length := by omega
    have hr : i % 10 < 10 := Nat.mod_lt _ (by omega)
    have hir : i / 10 * 10 + i % 10 = i := by omega
    have e1 := la_get hq (i % 10) hr
    have e2 := la_get (l := l.set k x) (k := i / 10) (by rw [List.length_set]; exact hq) (i % 10) hr
    rw [hir] at e1 e2
    rw [e2]
    by_cases hqk : i / 10 = k
    · rw [List.getElem_set, if_pos hqk.symm]
      have h3 := putAt_in (x.1.arr x.2.1 x.2.2).toList (laArr l) (k * 10) (i % 10) (by rw [hlen, hs]; omega) (by rw [hlen]; omega)
      rwa [show k * 10 + i % 10 = i by omega] at h3
    · rw [List.getElem_set, if_neg (fun e => hqk e.symm), putAt_far _ _ _ _ (by rw [hlen]; omega), e1]
  · rw [Array.getElem?_eq_none (by rw [putAt_size, hs]; omega), Array.getElem?_eq_none (by rw [hs2]; omega)]
theorem la_part {l : List OA} {k : Nat} (h : k < l.length) {w : World} {g : Nat} (hb : Blk w g (laArr l)) (j : Nat) (u : Value) (hu : (l[k].1.arr l[k].2.1 l[k].2.2)[j]? = some u) : w.cell? ⟨g, k * 10 + j, none⟩ = some u := by
  refine hb.cell ?_
  have hj : j < 10 := (Array.getElem?_eq_some_iff.1 hu).1
  rw [la_get h j hj]
  unfold OA.cells
  simpa using hu
theorem strA6 : Str Try.prog 48 60 := ⟨⟨_, Try.underlying48, rfl⟩, by kernel_rfl⟩
theorem rowAt_set {l : List LRow} {k : Nat} (hk : k < l.length) (x : LRow) (j : Nat) : rowAt (l.set k x) j = if j = k then x else rowAt l j := by
  unfold rowAt
  simp only [Int.toNat_natCast, List.getD_eq_getElem?_getD]
  by_cases h : j = k
  · subst h; rw [if_pos rfl, List.getElem?_set_self hk]; rfl
  · rw [if_neg h, List.getElem?_set_ne (fun e => h e.symm)]
/-- What an answer of the array has to do with its row. -/
def RowFits (o : Rep) (r : LRow) : Prop := o = r.a ∧ r.last = o.req ∧ (o.req = 0 ∨ (1 ≤ o.req ∧ o.req ≤ 1099511627776))
/-- The ledger and the last answers. -/
structure LO (w wr : World) (g q : Nat) (lg : List LR) (ls : List OA) : Prop where
  below : Below w.heap.size w wr
  og : w.heap.size ≤ g
  L : Lg wr g lg
  gq : g < q
  Q : Blk wr q (laArr ls)
  len : ls.length = 6
  inn : ∀ x ∈ ls, InN w x.2.1 x.2.2 x.1.f
  row : ∀ k (h : k < ls.length), RowFits ls[k].1 (rowAt (rowsOf lg) k)
  pos : ∀ x ∈ rowsOf lg, 0 ≤ x.ep
  fit : ∀ x ∈ rowsOf lg, x.a.f.length ≤ 1000000
  off : ∀ x ∈ lg, OffF q x
section
variable {w wr w1 w2 : World} {g q : Nat} {lg lg' : List LR} {ls : List OA}
theorem LO.step (h : LO w wr g q lg ls) (hb : Below wr.heap.size wr w1) : LO w w1 g q lg ls :=
  ⟨h.below.trans (hb.mono h.below.size), h.og, h.L.below hb, h.gq, h.Q.below hb h.Q.lt, h.len, h.inn, h.row, h.pos, h.fit, h.off⟩
theorem LO.rows6 (h : LO w wr g q lg ls) : (rowsOf lg).length = 6 := by unfold rowsOf; rw [List.length_map]; exact h.L.1
/-- The ledger turned, its rows fit as they did. -/
theorem LO.turn (h : LO w wr g q lg ls) (hk : Kept (some g) wr.heap.size wr w1) (hL : Lg w1 g lg') (hr : ∀ k : Nat, (rowAt (rowsOf lg') k).a = (rowAt (rowsOf lg) k).a ∧ (rowAt (rowsOf lg') k).last = (rowAt (rowsOf lg) k).last)
    (hp : ∀ x ∈ rowsOf lg', 0 ≤ x.ep) (hf : ∀ x ∈ rowsOf lg', x.a.f.length ≤ 1000000) (ho : ∀ x ∈ lg', OffF q x) : LO w w1 g q lg' ls :=
  ⟨h.below.trans (hk.oneB h.below.size h.og), h.og, hL, h.gq, h.Q.kept hk h.Q.lt (fun e => by injection e with e; have := h.gq; omega), h.len, h.inn, fun k hk => by
    obtain ⟨a1, a2, a3⟩ := h.row k hk
    obtain ⟨b1, b2⟩ := hr k
    exact ⟨by rw [b1, a1], by rw [b2, a2], a3⟩, hp, hf, ho⟩
theorem LO.raise (h : LO w wr g q lg ls) {d : Int} (hk : Kept (some g) wr.heap.size wr w1) (hL : Lg w1 g lg') (r2 : rowsOf lg' = raiseL (rowsOf lg) d) (ho : ∀ x ∈ lg', OffF q x) : LO w w1 g q lg' ls := by
  refine h.turn hk hL (fun k => ?_) (by rw [r2]; exact raiseL_all (fun x => 0 ≤ x.ep) h.pos (by have := rowAt_mem (d := d) (fun x => 0 ≤ x.ep) h.pos (by simp); simp only at this ⊢; omega))
    (by rw [r2]; exact raiseL_all (fun x => x.a.f.length ≤ 1000000) h.fit (rowAt_mem (fun x => x.a.f.length ≤ 1000000) h.fit (by simp))) ho
  rw [r2]
  unfold raiseL
  split
  · next ho =>
    unfold raiseOk at ho
    have ho := of_decide_eq_true ho
    obtain ⟨d', rfl⟩ : ∃ d' : Nat, d = d' := ⟨d.toNat, by omega⟩
    rw [Int.toNat_natCast, rowAt_set (by rw [h.rows6]; omega)]
    split
    · next e => subst e; exact ⟨rfl, rfl⟩
    · exact ⟨rfl, rfl⟩
  · exact ⟨rfl, rfl⟩
theorem LO.noteNo (h : LO w wr g q lg ls) {a : Rep} (hk : Kept (some g) wr.heap.size wr w1) (hL : Lg w1 g lg') (r2 : rowsOf lg' = noteL (rowsOf lg) a) (hno : noteOk (rowsOf lg) a = false) (ho : ∀ x ∈ lg', OffF q x) : LO w w1 g q lg' ls := by
  have e : rowsOf lg' = rowsOf lg := by rw [r2]; unfold noteL; rw [hno]; rfl
  exact h.turn hk hL (fun k => by rw [e]; exact ⟨rfl, rfl⟩) (by rw [e]; exact h.pos) (by rw [e]; exact h.fit) ho
theorem note_dev {l : List LRow} {a : Rep} (h : noteOk l a = true) : 0 ≤ a.dev ∧ a.dev < 6 ∧ 1 ≤ a.req ∧ a.req ≤ 1099511627776 ∧ (rowAt l a.dev).last < a.req := by
  have h0 : askE l a.dev a.req = 0 := by unfold noteOk at h; simpa using (Bool.and_eq_true_iff.1 h).1
  unfold askE at h0
  by_cases hb : askBad a.dev a.req
  · rw [if_pos hb] at h0; cases h0
  · rw [if_neg hb] at h0
    unfold askBad at hb
    by_cases h1 : a.req < (rowAt l a.dev).last
    · rw [if_pos h1] at h0; cases h0
    · rw [if_neg h1] at h0
      by_cases h2 : a.req = (rowAt l a.dev).last
      · rw [if_pos h2] at h0; cases h0
      · omega
theorem LO.noteYes (h : LO w wr g q lg ls) {a : Rep} {A : Option Addr} {c k : Nat} (ha : InN w A c a.f) (hfl : a.f.length ≤ 1000000) (hk : Kept (some g) wr.heap.size wr w1) (_hL : Lg w1 g lg') (r2 : rowsOf lg' = noteL (rowsOf lg) a) (hy : noteOk (rowsOf lg) a = true) (hd : a.dev = k)
    (ho : ∀ x ∈ lg', OffF q x) (hb2 : Below w.heap.size w1 w2) (hL2 : Lg w2 g lg') (hq : Blk w2 q (laArr (ls.set k (a, A, c)))) : LO w w2 g q lg' (ls.set k (a, A, c)) := by
  obtain ⟨d0, d6, r1, rm, -⟩ := note_dev hy
  have h1 := h.below.trans (hk.oneB h.below.size h.og)
  refine ⟨h1.trans hb2, h.og, hL2, h.gq, hq, by rw [List.length_set]; exact h.len, fun x hx => ?_, fun j hj => ?_, ?_, ?_, ho⟩
  · rcases List.mem_or_eq_of_mem_set hx with hx | rfl
    · exact h.inn x hx
    · exact ha
  · have e : rowsOf lg' = (rowsOf lg).set k ⟨a.req, (rowAt (rowsOf lg) a.dev).ep, a⟩ := by rw [r2]; unfold noteL; rw [if_pos hy, hd, Int.toNat_natCast]
    rw [e, rowAt_set (by rw [h.rows6]; omega), List.getElem_set]
    by_cases hjk : j = k
    · rw [if_pos hjk.symm, if_pos hjk]; exact ⟨rfl, rfl, .inr ⟨r1, rm⟩⟩
    · rw [if_neg (fun e => hjk e.symm), if_neg hjk]; exact h.row j (by rw [List.length_set] at hj; exact hj)
  · rw [r2]; exact noteL_all (fun x => 0 ≤ x.ep) h.pos (rowAt_mem (fun x => 0 ≤ x.ep) h.pos (by simp))
  · rw [r2]; exact noteL_all (fun x => x.a.f.length ≤ 1000000) h.fit hfl
theorem LO.ask (h : LO w wr g q lg ls) {k : Nat} (hk : k < ls.length) (h0 : ls[k].1.req ≠ 0) : askE (rowsOf lg) k ls[k].1.req = 7 ∧ askA (rowsOf lg) k ls[k].1.req = ls[k].1 := by
  obtain ⟨e1, e2, e3⟩ := h.row k hk
  have hl := h.len
  have hb : ¬ askBad k ls[k].1.req := by unfold askBad; omega
  unfold askE askA
  rw [if_neg hb, if_neg hb, if_neg (by omega), if_pos e2.symm, if_pos e2.symm]
  exact ⟨rfl, e1.symm⟩
/-- The array is stored into: the ledger stands. -/
theorem Lg.far {w w' : World} {g q : Nat} {l : List LR} (h : Lg w g l) (hk : Kept (some q) w.heap.size w w') (hg : g ≠ q) (ho : ∀ x ∈ l, OffF q x) : Lg w' g l :=
  ⟨h.1, h.2.1.kept hk h.2.1.lt (fun e => by injection e with e; exact hg e.symm), fun x hx => ⟨(h.2.2 x hx).1.off_store (ho x hx) hk, (h.2.2 x hx).2⟩⟩
end
end Go.Proofs.Ytjhndilflcigiaa
