/-
  Lemmas (walks and plain laws), in one text.
-/
import Derived.Test.YtjhndilflcigiaaDoorQd5
import Derived.Test.YtjhndilflcigiaaDoorRows
import Derived.WalkKit
import Derived.WalkSpells
import Derived.WalkLawsBesides
import Derived.Lib.Hide
import Derived.Deep.QuietTactic
import Derived.BigQuiet
import Derived.Maps.AppendAt
import Derived.WalkSmall
import Derived.ProofKit
import Derived.OpenShut
import Derived.JoinedCond
import Derived.Deep.Slices
import Derived.Deep.Fields
import Derived.Carry
import Derived.Shelf.Strings.Builder1
import Derived.Shelf.Strings.Builder2
import Derived.Shelf.Strings.OnBuilder
import Derived.Shelf.Strings.BuilderF
import Derived.Shelf.Strings.BuilderK
import Derived.Shelf.Strings.Builder2Cap
import Derived.Shelf.Strconv.Itoa0
import Derived.Shelf.Strconv.Itoa1
import Derived.Shelf.LaysM
import Derived.Shelf.Strconv.Itoa2
import Derived.Shelf.Strconv.Itoa3
import Derived.Ground.Names2Prog
import Derived.Shelf.Slices.Clone
import Derived.Shelf.Slices.SearchI
import Derived.Ground.SlgnProg
import Derived.Shelf.SlicesE.Clone
import Derived.Test.YtjhndilflcigiaaDoorProg
import Derived.Deep.AppendSrc
import Derived.Lib.AppendStr
import Derived.Laws.BytesArg
import Derived.Lib.AppendIntMem
import Derived.Lib.ItoaLen
import Derived.Test.YtjhndilflcigiaaDoorTie
import Derived.Lib.LaidTab
import Derived.LaidMore
import Derived.Stop.LaidErr
import Derived.SevenTiedAt
import Derived.Test.YtjhndilflcigiaaDoorCards
import Derived.Deep.CutBlock
import Derived.Deep.DeepCutAuto
import Derived.Laws.Tables
import Derived.Laws.Rows
import Derived.Shelf.Spec.TrailingZeros
import Derived.RangeFuncNested
import Derived.RangeFuncBound
import Derived.RangeFuncCalls
import Derived.RangeFuncLeaves
import Derived.Shelf.Abstract
import Derived.Shelf.RegionOpen
import Derived.OwnWalkIn
import Derived.TacticsInMore
import Derived.LoopNIn
import Derived.LoopIn
import Derived.ChangeKeysEq
import Derived.Laws.StructEq
import Derived.Laws.CopyOwn
import Derived.Outline
import Derived.IntWalk
import Derived.Lib.EndianBits
import Derived.StillTail
namespace Go.Proofs.YtjhndilflcigiaaDoor
open Go.RowKit

/-- next's end. -/
def RetNx (s : List UInt8) (most : Int) (w : World) (e : Ending) (w' : World) : Prop :=
  e = .returned (.tuple #[.int .i64 (nVal s most), .int .i64 (nLen s most), .int .i64 (nErr s most)]) ∧ w = w'
theorem RetNx.bad {s : List UInt8} {most : Int} {w : World} {e : Int} (h : nErr s most = e) (h0 : e ≠ 0) : RetNx s most w (.returned (.tuple #[.int .i64 0, .int .i64 0, .int .i64 e])) w := by
  refine ⟨?_, rfl⟩
  rw [nVal_bad (by omega), nLen_bad (by omega), h]; rfl

set_option maxHeartbeats 1000000 in
set_option maxRecDepth 4000 in
theorem c_ref01_next (s : List UInt8) (most : Int) (w : World) (hs : s.length ≤ 4294967296) : Calls Tryd.prog 117 #[.string (str s), .int .i64 most] w (RetNx s most w) := by
  go_enter Tryd.func117, Tryd.ntmps117
  go_wp2_with (fail)
  go_loop [7] (fun n => ∃ k acc : Nat, Hid (Peek s k acc) ∧ k ≤ 6 ∧ k ≤ s.length ∧ n = .int .i64 k) (fun n => 6 - (intOf n).toNat)
  case atStart => exact ⟨0, 0, Peek.start _, by omega, by omega, rfl⟩
  case round =>
    obtain ⟨k, acc, hp, hk6, hkl, rfl⟩ := hrel
    by_cases hgo : k < 6 ∧ ∃ h : k < s.length, 128 ≤ s[k].toNat
    · obtain ⟨hlt, hl, hc⟩ := hgo
      have hp2 := Lib.hid (hp.out.next hlt hl hc)
      have h1 : decide ((k : Int) < 6) = true := by simp; omega
      have h2 : decide (k < s.length) = true := by simp; omega
      have h3 : decide (s[k].toNat < 128) = false := by simp; omega
      clear hp
      go_wp2_with (fail)
      go_round
      case rel => exact ⟨k + 1, _, hp2.out, by omega, by omega, by go_num⟩
      case measure => simp [intOf]; omega
    · by_cases h6 : k = 6
      · subst h6
        have he : Hid (nErr s most = 3) := by show _ = _; rw [nErr_def, hp.out.full]; rfl
        clear hgo
        go_wp2_with (fail)
        go_ret3
        exact RetNx.bad he.out (by omega)
      · have hlt : k < 6 := by omega
        have h1 : decide ((k : Int) < 6) = true := by simp; omega
        have h1' : decide ((k : Int) = 6) = false := by simp; omega
        by_cases hl : k = s.length
        · have he : Hid (nErr s most = 2) := by show _ = _; rw [nErr_def, hp.out.short hlt hl]; rfl
          subst hl
          clear hgo
          go_wp2_with (fail)
          go_ret3
          exact RetNx.bad he.out (by omega)
        · have hl : k < s.length := by omega
          have hc : s[k].toNat < 128 := by
            rcases Nat.lt_or_ge s[k].toNat 128 with h | h
            · exact h
            · exact absurd ⟨hlt, hl, h⟩ hgo
          have h2 : decide (k < s.length) = true := by simp; omega
          have h3 : decide (s[k].toNat < 128) = true := by simp; omega
          have h2' : decide (k = s.length) = false := by simp; omega
          clear hgo
          by_cases hz : s[k].toNat = 0 ∧ 0 < k
          · have he : Hid (nErr s most = 3) := by show _ = _; rw [nErr_def, hp.out.zero hlt hl hz.1 hz.2]; rfl
            have h4 : decide (0 < k) = true := by simp; omega
            have h5 : ((s[k].toNat : Int) == 0) = true := by simp; omega
            clear hz
            go_wp2_with (fail)
            go_ret3
            exact RetNx.bad he.out (by omega)
          · obtain ⟨hE, hV, hK⟩ := hp.out.done hlt hl hc (by omega)
            have he : Hid (nErr s most = if 1099511627776 < nxV 6 s ∨ most < (nxV 6 s : Int) then 4 else 0) := by show _ = _; rw [nErr_def, hE]; rfl
            have HK := Lib.hid hK
            clear hE hV hK
            have hdn := fun m (h1 : m < k + 1) (h2 : m < s.length) => downV_step hp.out hlt hl hc h1 h2
            have hz2 : (decide (0 < k) && ((s[k].toNat : Int) == 0)) = false := by
              rw [Bool.and_eq_false_iff]; simp; omega
            have Hdn := Lib.hid hdn
            clear hdn
            by_cases hz3 : 0 < k
            all_goals
              have hz4 : 0 < k → ((s[k].toNat : Int) == 0) = false := by intro h; simp; omega
              first | have hz5 := hz4 hz3 | skip
              first | (have h4 : decide (0 < k) = true := by simp; omega) | (have h4 : decide (0 < k) = false := by simp; omega)
              clear hz2 hz4 hz hz3 h3
              go_wp2_with (fail)
              go_loop [8, 9] (fun v i => ∃ m : Nat, m ≤ k + 1 ∧ i = .int .i64 ((m : Int) - 1) ∧ v = .int .i64 (downV s k m)) (fun _ i => (intOf i + 1).toNat)
              case atStart => exact ⟨k + 1, by omega, by go_num, by rw [downV_start]; rfl⟩
              case round =>
                obtain ⟨m, hm, hi, rfl⟩ := hrel
                have hdl := downV_lt s k m (by omega)
                rcases m with _ | m
                · have hi0 := hi.trans (show Value.int .i64 (((0 : Nat) : Int) - 1) = .int .i64 (-1) from rfl)
                  subst hi0
                  rw [downV_end]
                  clear hi
                  by_cases hlong : 1099511627776 < nxV 6 s ∨ most < (nxV 6 s : Int)
                  · have he4 := Lib.hid (he.out.trans (if_pos hlong))
                    by_cases hl1 : 1099511627776 < nxV 6 s
                    all_goals
                      first
                        | (have hl2 : decide (1099511627776 < (nxV 6 s : Int)) = true := by simp; omega)
                        | ((have hl2 : decide (1099511627776 < (nxV 6 s : Int)) = false := by simp; omega); (have hl3 : decide (most < (nxV 6 s : Int)) = true := by simp; omega))
                      clear hlong hl1 he
                      go_wp2_with (fail)
                      go_ret3
                      exact RetNx.bad he4.out (by omega)
                  · have he0 := Lib.hid (he.out.trans (if_neg hlong))
                    have hl2 : decide (1099511627776 < (nxV 6 s : Int)) = false := by simp; omega
                    have hl3 : decide (most < (nxV 6 s : Int)) = false := by simp; omega
                    clear hlong he
                    go_wp2_with (fail)
                    go_ret3
                    refine ⟨?_, rfl⟩
                    rw [nVal_ok he0.out, nLen_ok he0.out, he0.out, HK.out]; rfl
                · have hi0 := hi.trans (show Value.int .i64 (((m + 1 : Nat) : Int) - 1) = .int .i64 (m : Int) by congr 1; omega)
                  subst hi0
                  clear hi
                  have hml : m < s.length := by omega
                  have hd := Hdn.out m hm hml
                  have hm8 : s[m].toNat % 128 < 128 := Nat.mod_lt _ (by omega)
                  have Hd := Lib.hid hd
                  clear hd
                  go_wp2_with (fail)
                  go_round
                  case rel => exact ⟨m, by omega, rfl, by rw [← Hd.out]; go_num⟩
                  case measure => simp [intOf]
theorem drop_take_all {α : Type} (l : List α) (n : Nat) : (l.drop n).take (l.length - n) = l.drop n := List.take_of_length_le (by rw [List.length_drop]; omega)
set_option maxHeartbeats 400000 in
theorem c_ref01_Fail (h : Nat) (st : Rd) (e : Int) (w : World) (r : RdR w h st) : Calls Tryd.prog 65 #[.pointer (some ⟨h, 0, none⟩), .int .i64 e] w (fun x w' => x = .returned (.tuple #[]) ∧ RdR w' h (rdF st e) ∧ Kept (some h) w.heap.size w w') := by
  have c1 : w.cell? ⟨h, 1, none⟩ = some (.int .i64 st.e) := r.1.cell rfl
  have f1 := r.1.frozen 1
  by_cases h0 : st.e = 0
  · have hb : (st.e == 0) = true := by simpa using h0
    rw [rdF_ok h0]
    clear h0
    go_enter Tryd.func65, Tryd.ntmps65
    go_wp2_with (fail)
    go_end0
    exact ⟨rfl, ⟨by simpa using r.1.store 1 (.int .i64 e), r.2⟩, (Kept.refl _ _ _).setCell (q := ⟨h, 1, none⟩) (.inr rfl) _⟩
  · have hb : (st.e == 0) = false := by simpa using h0
    rw [rdF_err h0]
    clear h0
    go_enter Tryd.func65, Tryd.ntmps65
    go_wp2_with (fail)
    go_end0
    exact ⟨rfl, r, Kept.refl _ _ _⟩
set_option maxHeartbeats 400000 in
theorem c_ref01_RNum (h : Nat) (st : Rd) (most : Int) (w : World) (r : RdR w h st) : Calls Tryd.prog 52 #[.pointer (some ⟨h, 0, none⟩), .int .i64 most] w (RetR h (rdN' st most) w (.int .i64 (rdN st most))) := by
  have c0 : w.cell? ⟨h, 0, none⟩ = some (.string (str st.s)) := r.1.cell rfl
  have c1 : w.cell? ⟨h, 1, none⟩ = some (.int .i64 st.e) := r.1.cell rfl
  have f1 := r.1.frozen 1
  have f0 := r.1.frozen 0
  by_cases h0 : st.e = 0
  · have hb : (st.e != 0) = false := by simpa using h0
    have hn : rdN st most = nVal st.s most := by unfold rdN; rw [if_pos h0]
    have hn' : rdN' st most = ⟨st.s.drop (nLen st.s most), nErr st.s most⟩ := by unfold rdN'; rw [if_pos h0]
    have hle := nLen_le st.s most
    have hln := r.2
    rw [hn, hn']
    have R := Lib.hid r
    clear h0 hn hn' r
    go_enter Tryd.func52, Tryd.ntmps52
    go_wp2_with (go_at_call 117; refine (c_ref01_next st.s most _ hln).mono ?_; rintro e w1 ⟨rfl, rfl⟩)
    go_ret
    refine ⟨rfl, ⟨?_, by simp; omega⟩, ((Kept.refl _ _ _).setCell (q := ⟨h, 1, none⟩) (.inr rfl) _).setCell (q := ⟨h, 0, none⟩) (.inr rfl) _⟩
    have := (R.out.1.store 1 (.int .i64 (nErr st.s most))).store 0 (.string (str (st.s.drop (nLen st.s most))))
    simpa [drop_take_all] using this
  · have hb : (st.e != 0) = true := by simpa using h0
    rw [(rdN_err h0).1, (rdN_err h0).2]
    clear h0
    go_enter Tryd.func52, Tryd.ntmps52
    go_wp2_with (fail)
    go_ret
    exact ⟨rfl, r, Kept.refl _ _ _⟩
end Go.Proofs.YtjhndilflcigiaaDoor
namespace Go.Proofs.YtjhndilflcigiaaDoor
open Go.RowKit

theorem Blk.three {w : World} {g : Nat} {a b c : Value} (h : Blk w g #[a, b, c]) : w.cell? ⟨g, 0, none⟩ = some a ∧ w.cell? ⟨g, 1, none⟩ = some b ∧ w.cell? ⟨g, 2, none⟩ = some c ∧ ∀ i, w.frozen? ⟨g, i, none⟩ = false :=
  ⟨h.cell rfl, h.cell rfl, h.cell rfl, fun i => h.frozen i⟩
theorem RdP.own {w w' : World} {p : Option Nat} {st : Rd} {b : Nat} (r : RdP w p st) (k : Kept (some b) w.heap.size w w') (hb : ∀ g, p = some g → g < b) : RdP w' p st :=
  r.kept k (fun g h hg hh => by injection hh with hh; subst hh; exact hb g hg)
theorem RdP.up {w w' : World} {p : Option Nat} {st : Rd} {B : Nat} (r : RdP w p st) (k : Below B w w') (hb : ∀ g, p = some g → g < B) : RdP w' p st := by
  rcases r with ⟨rfl, hs⟩ | ⟨g, A, c, L, pos, rfl, ⟨h1, h2, h3, h4, h5, h6⟩, hs⟩
  · exact .inl ⟨rfl, hs⟩
  · have hg := hb g rfl
    exact .inr ⟨g, A, c, L, pos, rfl, ⟨h1.below k hg, h2, h3, h4, h5, h6.imp id fun ⟨b, off, hA, hbg, hr⟩ => ⟨b, off, hA, hbg, hr.belowB k (by omega)⟩⟩, hs⟩
theorem RdR.up {w w' : World} {h : Nat} {st : Rd} {B : Nat} (r : RdR w h st) (k : Below B w w') (hb : h < B) : RdR w' h st := ⟨r.1.below k hb, r.2⟩
end Go.Proofs.YtjhndilflcigiaaDoor
namespace Go.Proofs.YtjhndilflcigiaaDoor
open Go.RowKit

/-! The values of fields. -/
def fldS (b : Bool) (st : Rd) : Rd := if b = false ∧ (rdVal st).kind = 0 then rdF (rdVal' st) 3 else rdVal' st
theorem fldS_true (st : Rd) : fldS true st = rdVal' st := by unfold fldS; rw [if_neg (by simp)]
def rdFs' (b : Bool) : List Nat → Rd → Rd
  | [], st => st
  | _ :: l, st => rdFs' b l (fldS b st)
def rdFv (b : Bool) : List Nat → Rd → List Val → List Val
  | [], _, f => f
  | k :: l, st, f => rdFv b l (fldS b st) (f.set k (rdVal st))
/-! The fields of a mask, from one on. -/
def bitsFrom (m k : Nat) : List Nat := (List.range' k (8 - k)).filter m.testBit
theorem bitsFrom_yes {m k : Nat} (hk : k < 8) (h : m.testBit k = true) : bitsFrom m k = k :: bitsFrom m (k + 1) := by
  unfold bitsFrom
  rw [show 8 - k = (8 - (k + 1)) + 1 by omega, List.range'_succ, List.filter_cons_of_pos h]
theorem bitsFrom_no {m k : Nat} (hk : k < 8) (h : m.testBit k = false) : bitsFrom m k = bitsFrom m (k + 1) := by
  unfold bitsFrom
  rw [show 8 - k = (8 - (k + 1)) + 1 by omega, List.range'_succ, List.filter_cons_of_neg (by simp [h])]
/-! Cards. -/
def cdA (st : Rd) : Rd := rdAb' st 1073741823
def cdB (st : Rd) : Rd := rdAb' (cdA st) 1099511627776
def cdC (st : Rd) : Rd := rdN' (cdB st) 65535
def cdD (st : Rd) : Rd := rdN' (cdC st) 255
def cdM (st : Rd) : Nat := (rdN (cdC st) 255).toNat
def cdF (st : Rd) : List Val := rdFv false (bitsTo (cdM st) 8) (cdD st) f8z
@[irreducible] def rdCard' (st : Rd) : Rd := rdFs' false (bitsTo (cdM st) 8) (cdD st)
def cdCard (st : Rd) : Card := ⟨rdN st 1073741823, rdN (cdA st) 1099511627776, (rdN (cdB st) 65535).toNat, cdF st⟩
@[irreducible] def rdCard (st : Rd) : Card := if (rdCard' st).e = 0 then cdCard st else cz
end Go.Proofs.YtjhndilflcigiaaDoor
namespace Go.Proofs.YtjhndilflcigiaaDoor
open Go.RowKit

/-! One field, by the closure. -/
/-- One field was read: the reader, the fields; the worlds on the way. -/
def RetOne (b : Bool) (p : Option Nat) (st : Rd) (f : List Val) (k bo : Nat) (w : World) (e : Ending) (w' : World) : Prop :=
  e = .returned (.tuple #[]) ∧ RdP w' p (fldS b st) ∧ Blk w' bo (farr (f.set k (rdVal st))) ∧ ∃ w1 w2, Kept p w.heap.size w w1 ∧ Kept (some bo) w1.heap.size w1 w2 ∧ Kept p w2.heap.size w2 w'
end Go.Proofs.YtjhndilflcigiaaDoor
namespace Go.Proofs.YtjhndilflcigiaaDoor
open Go.RowKit

theorem Blk.alloc {w : World} {g : Nat} {cs : Array Value} (h : Blk w g cs) (o : Obj) : Blk (w.alloc o) g cs := h.below ((Below.refl _ _).alloc (Nat.le_refl _) o) h.lt
/-- What stands when k of the mask's fields have been read. -/
structure FldAt (w : World) (p : Option Nat) (b : Bool) (S : Rd) (F : List Val) (m : Nat) (A7 : Option Addr) (c7 : Nat) (k : Nat) (st : Rd) (f : List Val) (wr : World) : Prop where
  len : f.length = 8
  eS : rdFs' b ((bitsTo m 8).drop k) st = S
  eF : rdFv b ((bitsTo m 8).drop k) st f = F
  rd : RdP wr p st
  P : Blk wr w.heap.size #[ptr p]
  N : Blk wr (w.heap.size + 1) #[.bool b]
  R : ∃ z, z.size = 24 ∧ Blk wr (w.heap.size + 2) z
  O : Blk wr (w.heap.size + 3) (farr f)
  own : wr.ownsRow (w.heap.size + 4) 3 1 (.slice A7 (idx8 m).length c7) (idx8 m).length ((idx8 m).flatMap ic)
  kept : Kept p w.heap.size w wr
theorem FldAt.next {w : World} {p : Option Nat} {b : Bool} {S : Rd} {F : List Val} {m : Nat} {A7 : Option Addr} {c7 k : Nat} {st : Rd} {f : List Val} {wr w' : World} {e : Ending} (hp : ∀ g, p = some g → g < w.heap.size) (h : FldAt w p b S F m A7 c7 k st f wr)
    {n : Nat} (hk : k < (bitsTo m 8).length) (hn : n = (bitsTo m 8)[k]) (h1 : RetOne b p st f n (w.heap.size + 3) wr e w') : FldAt w p b S F m A7 c7 (k + 1) (fldS b st) (f.set n (rdVal st)) w' := by
  obtain ⟨-, hr, ho, w1, w2, k1, k2, k3⟩ := h1
  have hS := h.eS
  have hF := h.eF
  rw [List.drop_eq_getElem_cons hk, ← hn] at hS hF
  have ne : ∀ g, w.heap.size ≤ g → p ≠ some g := fun g hg e => by have := hp g e; omega
  obtain ⟨z, hz, hR⟩ := h.R
  have z1 := k1.size
  have z2 := k2.size
  have z3 := k3.size
  have zw := h.kept.size
  have tr : ∀ {g : Nat} {cs : Array Value}, Blk wr g cs → w.heap.size ≤ g → g ≠ w.heap.size + 3 → Blk w' g cs := fun hb hg hne => by
    have b1 := hb.kept k1 hb.lt (ne _ hg)
    have b2 := b1.kept k2 b1.lt (fun e => hne (by injection e with e; exact e.symm))
    exact b2.kept k3 b2.lt (ne _ hg)
  refine ⟨by rw [List.length_set]; exact h.len, hS, hF, hr, tr h.P (Nat.le_refl _) (by omega), tr h.N (by omega) (by omega), ⟨z, hz, tr hR (by omega) (by omega)⟩, ho, ?_, ?_⟩
  · have o1 := own_kept h.own k1 (fun g hg => by have := hp g hg; omega)
    have o2 := own_kept o1 k2 (fun g hg => by injection hg with hg; omega)
    exact own_kept o2 k3 (fun g hg => by have := hp g hg; omega)
  · exact ((h.kept.trans (k1.mono zw)).trans (k2.one (by omega) (.inl (by omega)))).trans (k3.mono (by omega))
end Go.Proofs.YtjhndilflcigiaaDoor
namespace Go.Proofs.YtjhndilflcigiaaDoor
open Go.RowKit

section
variable {a b : Int} {l m : Nat} {f g : List Val}
theorem Card.put0 (v : Int) : (Card.arr ⟨a, b, l, f⟩).setIfInBounds 0 (.int .i64 v) = Card.arr ⟨v, b, l, f⟩ := by unfold Card.arr; simp
theorem Card.put1 (v : Int) : (Card.arr ⟨a, b, l, f⟩).setIfInBounds 1 (.int .i64 v) = Card.arr ⟨a, v, l, f⟩ := by unfold Card.arr; simp
theorem Patch.put0 (v : Nat) : (Patch.arr ⟨m, l, f⟩).setIfInBounds 0 (.int .u32 v) = Patch.arr ⟨v, l, f⟩ := by unfold Patch.arr; simp
theorem Patch.put1 (v : Nat) : (Patch.arr ⟨m, l, f⟩).setIfInBounds 1 (.int .u32 v) = Patch.arr ⟨m, v, f⟩ := by unfold Patch.arr; simp
end
end Go.Proofs.YtjhndilflcigiaaDoor
namespace Go.Proofs.YtjhndilflcigiaaDoor
open Go.RowKit

/-! Patches. -/
def ptM (st : Rd) : Nat := (rdN st 511).toNat
def ptA (st : Rd) : Rd := rdAb' st 511
def ptL (st : Rd) : Nat := if (ptM st).testBit 8 then (rdN (ptA st) 65535).toNat else 0
def ptB (st : Rd) : Rd := if (ptM st).testBit 8 then rdN' (ptA st) 65535 else ptA st
def ptF (st : Rd) : List Val := rdFv true (bitsTo (ptM st) 8) (ptB st) f8z
@[irreducible] def rdPatch' (st : Rd) : Rd := rdFs' true (bitsTo (ptM st) 8) (ptB st)
def ptPatch (st : Rd) : Patch := ⟨ptM st, ptL st, ptF st⟩
@[irreducible] def rdPatch (st : Rd) : Patch := if (rdPatch' st).e = 0 then ptPatch st else pz
/-! Edits. -/
abbrev ez : Edit := ⟨0, 0, 0, pz⟩
def edK (st : Rd) : Int := rdN st 7
def edA (st : Rd) : Rd := rdAb' st 7
def edG (st : Rd) : Int := if hasG (edK st) then rdN (edA st) 15 else 0
def edB (st : Rd) : Rd := if hasG (edK st) then rdN' (edA st) 15 else edA st
def edI (st : Rd) : Int := if hasI (edK st) then rdN (edB st) 1073741823 else 0
def edC (st : Rd) : Rd := if hasI (edK st) then rdAb' (edB st) 1073741823 else edB st
def edP (st : Rd) : Patch := if hasP (edK st) then rdPatch (edC st) else pz
@[irreducible] def rdEdit' (st : Rd) : Rd := if hasP (edK st) then (if (rdPatch (edC st)).code = 0 then rdPatch' (edC st) else rdF (rdPatch' (edC st)) 3) else edC st
def edEdit (st : Rd) : Edit := ⟨edK st, edI st, edG st, edP st⟩
@[irreducible] def rdEdit (st : Rd) : Edit := if (rdEdit' st).e = 0 then edEdit st else ez
end Go.Proofs.YtjhndilflcigiaaDoor
namespace Go.Proofs.YtjhndilflcigiaaDoor
open Go.RowKit

/-- What stands when the fields below k have been read. -/
structure PatAt (w : World) (h : Nat) (S : Rd) (F : List Val) (m L : Nat) (k : Nat) (st : Rd) (f : List Val) (wr : World) : Prop where
  len : f.length = 8
  eS : rdFs' true (bitsFrom m k) st = S
  eF : rdFv true (bitsFrom m k) st f = F
  rd : RdR wr h st
  R : ∃ z, z.size = 26 ∧ Blk wr w.heap.size z
  C : Blk wr (w.heap.size + 1) (Patch.arr ⟨m, L, f⟩)
  kept : Kept (some h) w.heap.size w wr
section
variable {w wr w' : World} {h : Nat} {S : Rd} {F : List Val} {m L k : Nat} {st : Rd} {f : List Val}
theorem PatAt.no (I : PatAt w h S F m L k st f wr) (hk : k < 8) (hb : m.testBit k = false) (hw : Below wr.heap.size wr w') : PatAt w h S F m L (k + 1) st f w' := by
  have e := bitsFrom_no hk hb
  obtain ⟨z, hz, hR⟩ := I.R
  exact ⟨I.len, by rw [← e]; exact I.eS, by rw [← e]; exact I.eF, I.rd.below hw, ⟨z, hz, hR.below hw hR.lt⟩, I.C.below hw I.C.lt, I.kept.then_below hw I.kept.size⟩
theorem PatAt.one (I : PatAt w h S F m L k st f wr) (hh : h < w.heap.size) (hk : k < 8) (hb : m.testBit k = true) {w1 w2 : World} (k0 : Below wr.heap.size wr w1) (k1 : Kept (some h) w1.heap.size w1 w2) (k2 : Kept (some (w.heap.size + 1)) w2.heap.size w2 w')
    (hr : RdR w' h (rdVal' st)) (hC : Blk w' (w.heap.size + 1) (Patch.arr ⟨m, L, f.set k (rdVal st)⟩)) : PatAt w h S F m L (k + 1) (rdVal' st) (f.set k (rdVal st)) w' := by
  have e := bitsFrom_yes hk hb
  obtain ⟨z, hz, hR⟩ := I.R
  have hS := I.eS
  have hF := I.eF
  rw [e, rdFs', fldS_true] at hS
  rw [e, rdFv, fldS_true] at hF
  have z0 := k0.size
  have z1 := k1.size
  have zw := I.kept.size
  have zl := hR.lt
  have b1 := hR.below k0 hR.lt
  have b2 := b1.kept k1 b1.lt (by simp; omega)
  refine ⟨by rw [List.length_set]; exact I.len, hS, hF, hr, ⟨z, hz, b2.kept k2 b2.lt (by simp)⟩, hC, ?_⟩
  exact ((I.kept.then_below k0 zw).trans (k1.mono (by omega))).trans (k2.one (by omega) (.inl (by omega)))
end
end Go.Proofs.YtjhndilflcigiaaDoor
/-! Era -/
namespace Go.Proofs.YtjhndilflcigiaaDoor
open Go.RowKit

section
variable {k i g : Int} {p q : Patch}
theorem Edit.put1 (v : Int) : (Edit.arr ⟨k, i, g, p⟩).setIfInBounds 1 (.int .i64 v) = Edit.arr ⟨k, v, g, p⟩ := by unfold Edit.arr; simp
end
end Go.Proofs.YtjhndilflcigiaaDoor
/-! W19h1 -/
namespace Go.Proofs.YtjhndilflcigiaaDoor
open Go.RowKit

end Go.Proofs.YtjhndilflcigiaaDoor
/-! W19h2 -/
namespace Go.Proofs.YtjhndilflcigiaaDoor
open Go.RowKit

end Go.Proofs.YtjhndilflcigiaaDoor
/-! W19h3 -/
namespace Go.Proofs.YtjhndilflcigiaaDoor
open Go.RowKit

end Go.Proofs.YtjhndilflcigiaaDoor
/-! W19k -/
namespace Go.Proofs.YtjhndilflcigiaaDoor
open Go.RowKit

end Go.Proofs.YtjhndilflcigiaaDoor
/-! W19i -/
namespace Go.Proofs.YtjhndilflcigiaaDoor
open Go.RowKit

set_option maxHeartbeats 1000000 in
theorem c_ref19_Above (h : Nat) (st : Rd) (most : Int) (w : World) (r : RdR w h st) : Calls Tryd.prog 53 #[.pointer (some ⟨h, 0, none⟩), .int .i64 most] w (RetR h (rdAb' st most) w (.int .i64 (rdN st most))) := by
  by_cases he : (rdN' st most).e = 0
  · have ke : ((rdN' st most).e == 0) = true := by simpa using he
    by_cases h0 : rdN st most = 0
    · rw [rdAb'_zero h0]
      have k : (rdN st most == 0) = true := by simpa using h0
      clear h0 he
      go_enter Tryd.func53, Tryd.ntmps53
      go_wp2_with (fail)
      refine (c_ref01_RNum h st most _ r).mono ?_
      rintro e w1 ⟨rfl, hr1, hk1⟩
      have hz1 := hk1.size
      have hc := hr1.1.cell (i := 1) rfl
      go_wp2_with (fail)
      refine (c_ref01_Fail h (rdN' st most) 3 _ hr1).mono ?_
      rintro e w2 ⟨rfl, hr2, hk2⟩
      have hz2 := hk2.size
      go_wp2_with (fail)
      go_ret
      exact ⟨rfl, hr2, (by repeat (first | exact Kept.refl _ _ _ | refine Kept.drew ?_ | refine Kept.alloc ?_ (by first | omega | (simp; done) | (simp; omega)) _ | refine Kept.setCell ?_ (by first | (right; rfl) | (left; first | omega | (simp; done) | (simp; omega))) _ | refine Kept.then_kept ?_ (by assumption) (by first | omega | (simp; done) | (simp; omega)) | refine Kept.then_below ?_ (by assumption) (by first | omega | (simp; done) | (simp; omega)) | refine Kept.low ?_ (by assumption)))⟩
    · rw [rdAb'_pos h0]
      have k : (rdN st most == 0) = false := by simpa using h0
      clear h0 he
      go_enter Tryd.func53, Tryd.ntmps53
      go_wp2_with (fail)
      refine (c_ref01_RNum h st most _ r).mono ?_
      rintro e w1 ⟨rfl, hr1, hk1⟩
      have hz1 := hk1.size
      have hc := hr1.1.cell (i := 1) rfl
      go_wp2_with (fail)
      go_ret
      exact ⟨rfl, hr1, (by repeat (first | exact Kept.refl _ _ _ | refine Kept.drew ?_ | refine Kept.alloc ?_ (by first | omega | (simp; done) | (simp; omega)) _ | refine Kept.setCell ?_ (by first | (right; rfl) | (left; first | omega | (simp; done) | (simp; omega))) _ | refine Kept.then_kept ?_ (by assumption) (by first | omega | (simp; done) | (simp; omega)) | refine Kept.then_below ?_ (by assumption) (by first | omega | (simp; done) | (simp; omega)) | refine Kept.low ?_ (by assumption)))⟩
  · have ke : ((rdN' st most).e == 0) = false := by simpa using he
    rw [rdAb'_zero (rdN_err' he), rdF_err he]
    clear he
    go_enter Tryd.func53, Tryd.ntmps53
    go_wp2_with (fail)
    refine (c_ref01_RNum h st most _ r).mono ?_
    rintro e w1 ⟨rfl, hr1, hk1⟩
    have hz1 := hk1.size
    have hc := hr1.1.cell (i := 1) rfl
    go_wp2_with (fail)
    go_ret
    exact ⟨rfl, hr1, (by repeat (first | exact Kept.refl _ _ _ | refine Kept.drew ?_ | refine Kept.alloc ?_ (by first | omega | (simp; done) | (simp; omega)) _ | refine Kept.setCell ?_ (by first | (right; rfl) | (left; first | omega | (simp; done) | (simp; omega))) _ | refine Kept.then_kept ?_ (by assumption) (by first | omega | (simp; done) | (simp; omega)) | refine Kept.then_below ?_ (by assumption) (by first | omega | (simp; done) | (simp; omega)) | refine Kept.low ?_ (by assumption)))⟩

end Go.Proofs.YtjhndilflcigiaaDoor
/-! W19j -/
namespace Go.Proofs.YtjhndilflcigiaaDoor
open Go.RowKit

end Go.Proofs.YtjhndilflcigiaaDoor
namespace Go.Proofs.YtjhndilflcigiaaDoor
open Go.RowKit

set_option maxHeartbeats 400000 in
theorem c_octet_Err' (p : Option Nat) (st : Rd) (w : World) (h : RdP w p st) : Calls Tryd.prog 19 #[ptr p] w (RetV w (.int .i64 st.e)) := by
  rcases p with _ | g
  · have hs := h.nil
    subst hs
    rw [ptr_none]
    go_enter Tryd.func19, Tryd.ntmps19
    go_wp2_with (fail)
    go_ret
    exact RetV.of rfl (by repeat (first | exact Below.refl _ _ | refine Below.drew ?_ | refine Below.alloc ?_ (by first | omega | (simp; done) | (simp; omega)) _ | refine Below.setCell ?_ (by first | omega | (simp; done) | (simp; omega)) _ | refine Below.trans ?_ (Below.mono (by assumption) (by first | omega | (simp; done) | (simp; omega)))))
  · obtain ⟨A, c, B, pos, ha, hs⟩ := h.at
    have c2 : w.cell? ⟨g, 2, none⟩ = some (.int .i64 st.e) := ha.1.cell rfl
    have Hs := Lib.hid hs
    clear hs
    rw [ptr_some]
    go_enter Tryd.func19, Tryd.ntmps19
    go_wp2_with (fail)
    go_ret
    exact RetV.of rfl (by repeat (first | exact Below.refl _ _ | refine Below.drew ?_ | refine Below.alloc ?_ (by first | omega | (simp; done) | (simp; omega)) _ | refine Below.setCell ?_ (by first | omega | (simp; done) | (simp; omega)) _ | refine Below.trans ?_ (Below.mono (by assumption) (by first | omega | (simp; done) | (simp; omega)))))
set_option maxHeartbeats 400000 in
theorem c_octet_Left' (p : Option Nat) (st : Rd) (w : World) (h : RdP w p st) : Calls Tryd.prog 20 #[ptr p] w (RetV w (.int .i64 st.s.length)) := by
  rcases p with _ | g
  · have hs := h.nil
    subst hs
    rw [ptr_none]
    go_enter Tryd.func20, Tryd.ntmps20
    go_wp2_with (fail)
    go_ret
    exact RetV.of rfl (by repeat (first | exact Below.refl _ _ | refine Below.drew ?_ | refine Below.alloc ?_ (by first | omega | (simp; done) | (simp; omega)) _ | refine Below.setCell ?_ (by first | omega | (simp; done) | (simp; omega)) _ | refine Below.trans ?_ (Below.mono (by assumption) (by first | omega | (simp; done) | (simp; omega)))))
  · obtain ⟨A, c, B, pos, ha, hs⟩ := h.at
    have c0 : w.cell? ⟨g, 0, none⟩ = some (.slice A B.length c) := ha.1.cell rfl
    have c1 : w.cell? ⟨g, 1, none⟩ = some (.int .i64 pos) := ha.1.cell rfl
    have hL := ha.2.1
    have hC := ha.2.2.1
    have hC' := ha.2.2.2.1
    have hS := ha.2.2.2.2.1
    have hgl := ha.1.lt
    have hw : IntKind.i64.wrap ((B.length : Int) - (pos : Int)) = (st.s.length : Int) := by rw [IntWalk.i64_in _ (by omega), hs, List.length_drop]; omega
    have Hs := Lib.hid hs
    have Ha := Lib.hid ha
    clear hs ha
    rw [ptr_some]
    go_enter Tryd.func20, Tryd.ntmps20
    go_wp2_with (fail)
    refine wp_region_grow (by kernel_rfl) (by kernel_rfl) ?_
    repeat (quiet_step ((first | (fail))))
    refine wpQuiet_nil ?_
    intro w2 hb2
    go_wp2_with (fail)
    go_ret
    exact RetV.of rfl (by repeat (first | exact Below.refl _ _ | refine Below.drew ?_ | refine Below.alloc ?_ (by first | omega | (simp; done) | (simp; omega)) _ | refine Below.setCell ?_ (by first | omega | (simp; done) | (simp; omega)) _ | refine Below.trans ?_ (Below.mono (by assumption) (by first | omega | (simp; done) | (simp; omega)))))
end Go.Proofs.YtjhndilflcigiaaDoor
