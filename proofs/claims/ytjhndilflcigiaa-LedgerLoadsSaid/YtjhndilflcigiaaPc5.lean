/-
  Lemmas (walks and plain laws), in one text.
-/
import Derived.Test.YtjhndilflcigiaaPc4
import Derived.Test.YtjhndilflcigiaaRows
import Derived.WalkKit
import Derived.WalkSpells
import Derived.WalkLawsBesides
import Derived.Lib.Hide
import Derived.Deep.QuietTactic
import Derived.BigQuiet
import Derived.Maps.AppendAt
import Derived.WalkSmall
import Derived.ProofKit
import Derived.OpenShut
import Derived.JoinedCond
import Derived.Deep.Slices
import Derived.Deep.Fields
import Derived.Carry
import Derived.Test.YtjhndilflcigiaaProg
import Derived.Deep.CutBlock
import Derived.Deep.DeepCutAuto
import Derived.Deep.AppendSrc
import Derived.Lib.AppendStr
import Derived.Laws.BytesArg
import Derived.Laws.CopyOwn
import Derived.Outline
import Derived.IntWalk
import Derived.Lib.EndianBits
import Derived.Laws.Tables
import Derived.Laws.Rows
import Derived.Shelf.Spec.TrailingZeros
import Derived.StillTail
import Derived.Lib.AppendZeros
import Derived.Deep.Quiet
import Derived.ChangeKeysEq
import Derived.Laws.StructEq
import Derived.Laws.LoneSync
namespace Go.Proofs.Ytjhndilflcigiaa
open Go.RowKit

set_option maxHeartbeats 1000000 in
theorem c_ref10_Depth (n : Nat) : ∀ (l : List Node) (A : Option Addr) (c : Nat) (w : World), l.length ≤ n → InN w A c l →
    Calls Try.prog 104 #[.slice A l.length c] w (RetV w (.int .i64 (depth l))) := by
  induction n with
  | zero =>
    intro l A c w hn h
    have h0 : l.length = 0 := by omega
    have H : Hid (depth l = 0) := by have := List.eq_nil_of_length_eq_zero h0; subst this; rfl
    go_enter Try.func104, Try.ntmps104
    go_wp2_with (fail)
    go_ret
    exact RetV.int H.out.symm (Below.refl _ _)
  | succ n ih =>
    intro l A c w hn h
    have IH := Lib.hid ih
    clear ih
    have hL := h.1
    have hC := h.2.1
    have hS := h.2.2.1
    by_cases h0 : l.length = 0
    · have H : Hid (depth l = 0) := by have := List.eq_nil_of_length_eq_zero h0; subst this; rfl
      go_enter Try.func104, Try.ntmps104
      go_wp2_with (fail)
      go_ret
      exact RetV.int H.out.symm (Below.refl _ _)
    have hl0 : ((l.length : Int) == 0) = false := by simpa using h0
    by_cases h1 : endAt l 0 = l.length
    case neg =>
      have H : Hid (depth l = 0) := by unfold Hid depth; rw [if_pos (.inr h1)]
      have hne : ((endAt l 0 : Int) != (l.length : Int)) = true := by simpa using h1
      go_enter Try.func104, Try.ntmps104
      go_wp2_with (go_at_call 103; refine (c_ref10_End l A c 0 _ h).mono ?_; rintro e w1 ⟨rfl, hb1⟩)
      go_ret
      exact RetV.int H.out.symm (by repeat (first | exact Below.refl _ _ | refine Below.drew ?_ | refine Below.alloc ?_ (by first | omega | (simp; done) | (simp; omega)) _ | refine Below.setCell ?_ (by first | omega | (simp; done) | (simp; omega)) _ | refine Below.trans ?_ (Below.mono (by assumption) (by first | omega | (simp; done) | (simp; omega)))))
    obtain ⟨d, ht⟩ := tree_of_end (by rintro rfl; simp at h0) h1
    have hlt : 0 < l.length := by omega
    have hdt := depth_tree ht
    obtain ⟨x, r, d', hl, htr, hd⟩ := ht.head
    have hx : l[0] = x := by subst hl; rfl
    have hr : l.drop 1 = r := by subst hl; rfl
    rw [← hx, ← hr] at htr
    obtain ⟨hc1, hc2, hc3⟩ := cut_trees htr
    have hdc := depth_cut htr 0 (by omega)
    have hne : ((endAt l 0 : Int) != (l.length : Int)) = false := by simpa using h1
    obtain ⟨ks, hks⟩ : ∃ ks, cut (parts l[0].op).toNat (l.drop (0 + 1)) = ks := ⟨_, rfl⟩
    have hks' : cut (parts l[0].op).toNat (l.drop 1) = ks := hks
    rw [hks'] at hc1 hc2 hc3 hdc
    have hkl : ∀ k ∈ ks, k.length ≤ n := by
      intro k hk
      have := flatten_len ks k hk
      have h2 := congrArg List.length hc2
      simp only [List.append_nil, List.length_drop] at h2
      omega
    have HD : Hid (depth l = (ks.map depth).foldl max 0 + 1) := by
      show _ = _
      rw [hdt, hdc, hd]; omega
    have Hks := Lib.hid hks
    have Hkl := Lib.hid hkl
    have htr0 := Lib.hid htr
    have hp2 := parts_bd l[0].op
    have hkl2 : ks.length ≤ 2 := by omega
    have hpos : ∀ k, 0 ≤ depth k := fun k => (depth_bd k).1
    have hbd : ∀ k ∈ ks, depth k ≤ 4294967296 := by
      intro k hk
      have h3 := (depth_bd k).2
      have h4 := flatten_len ks k hk
      have h2 := congrArg List.length hc2
      simp only [List.append_nil, List.length_drop] at h2
      omega
    have Hpos := Lib.hid hpos
    have Hbd := Lib.hid hbd
    clear h1 ht hdt hl htr hd hx hr hc1 hc2 hc3 hdc hks hks' hkl hp2 hpos hbd
    go_enter Try.func104, Try.ntmps104
    go_wp2_with (go_at_call 103; refine (c_ref10_End l A c 0 _ h).mono ?_; rintro e w1 ⟨rfl, hb1⟩)
    refine (c_ref10_Kids l 0 A c _ (h.below hb1) hlt _ _ htr0.out).mono ?_
    rintro e w2 ⟨os, hos, ⟨v, rfl, own, hb2⟩, hin⟩
    rw [Hks.out] at hos
    have hol : os.length = ks.length := by rw [← hos]; simp
    obtain ⟨Av, cv, rfl, hv1, hv2⟩ := own_form own
    have Hb2 := Lib.hid hb2
    have Own := Lib.hid own
    have Hin := Lib.hid hin
    have Hos := Lib.hid hos
    have hbw : Below w.heap.size w w2 := by refine Below.trans hb1 (hb2.mono hb1.size)
    have Hbw := Lib.hid hbw
    have hol2 : os.length ≤ 2 := by omega
    have Hol := Lib.hid hol
    clear hb1 hb2 own hin hos hol hbw
    go_wp2_with (fail)
    go_loopw [4, 5] (fun m i wr => ∃ (k : Nat) (dm : Int), k ≤ os.length ∧ i = .int .i64 k ∧ m = .int .i64 dm ∧ 0 ≤ dm ∧ dm ≤ 4294967296 ∧ Hid (((ks.take k).map depth).foldl max 0 = dm) ∧ Below w2.heap.size w2 wr)
      (fun _ i _ => os.length - (intOf i).toNat)
    case atStart => exact ⟨0, 0, by omega, rfl, rfl, by omega, by omega, rfl, Below.refl _ _⟩
    case round =>
      obtain ⟨k, dm, hk, rfl, rfl, hd0, hd1, HM, hbl⟩ := hrel
      have hbz := hbl.size
      by_cases hlt2 : k < os.length
      · have hlk : k < ks.length := by have := Hol.out; omega
        have hkk : (os[k]).2.2 = ks[k] := by
          have := Hos.out
          subst this
          simp
        obtain ⟨g, cg, he, hg1, hg2, hg3, hg4⟩ := own_form' Own.out (by omega)
        have hAv : Av = some ⟨g, 0, none⟩ := by simp only [Value.slice.injEq] at he; exact he.1
        subst hAv
        have hcell : wr.cell? ⟨g, k, none⟩ = some (.slice os[k].1 os[k].2.2.length os[k].2.1) := by
          have h1 := Own.out.cells (g := g) rfl k
          rw [add_lit] at h1
          rw [hbl.cell (p := ⟨g, k, none⟩) hg4]
          refine h1 _ ?_
          have := flat_get (k := 1) (cs := Kid.cells) (fun _ => rfl) os k hlt2 0 (by omega)
          rw [Nat.mul_one, Nat.add_zero] at this
          rw [this]; rfl
        have hin := Hin.out os[k] (List.getElem_mem hlt2)
        have hle : (os[k]).2.2.length ≤ n := by rw [hkk]; exact Hkl.out _ (List.getElem_mem hlk)
        have hm2 : depth (os[k]).2.2 = depth ks[k] := by rw [hkk]
        have hpk := Hpos.out ks[k]
        have hbk := Hbd.out ks[k] (List.getElem_mem hlk)
        have Hm2 := Lib.hid hm2
        have Hin2 := Lib.hid (hin.below hbl)
        clear hin hkk hm2 he
        go_wp2_with (go_at_call 104; refine (IH.out _ _ _ _ hle Hin2.out).mono ?_; rintro e w3 ⟨rfl, hb3⟩; rw [Hm2.out])
        go_roundw
        case rel =>
          refine ⟨k + 1, _, by omega, by go_num, rfl, by omega, by omega, ?_, (by repeat (first | exact Below.refl _ _ | refine Below.drew ?_ | refine Below.alloc ?_ (by first | omega | (simp; done) | (simp; omega)) _ | refine Below.setCell ?_ (by first | omega | (simp; done) | (simp; omega)) _ | refine Below.trans ?_ (Below.mono (by assumption) (by first | omega | (simp; done) | (simp; omega)))))⟩
          show _ = _
          rw [List.take_succ_eq_append_getElem hlk, List.map_append, List.foldl_append, HM.out]
          rfl
        case measure => simp [intOf]; omega
      · have HM2 : Hid ((ks.map depth).foldl max 0 = dm) := by
          have h1 := HM.out
          rw [List.take_of_length_le (by have := Hol.out; omega)] at h1
          exact h1
        clear HM
        go_wp2_with (fail)
        go_ret
        refine RetV.int ?_ (Below.trans Hbw.out (hbl.mono Hbw.out.size))
        rw [HD.out, HM2.out]
set_option maxHeartbeats 1000000 in
theorem c_ref10_Check (l : List Node) (A : Option Addr) (c : Nat) (w : World) (h : InN w A c l) (hs : ∀ x ∈ l, x.v.s.length ≤ 9223372036854775807) :
    Calls Try.prog 74 #[.slice A l.length c] w (RetV w (.int .i64 (check l))) := by
  have hL := h.1
  have hC := h.2.1
  have hS := h.2.2.1
  have Hs := Lib.hid hs
  clear hs
  by_cases h31 : 31 < l.length
  · have H : Hid (check l = 4) := by unfold Hid check; rw [if_pos h31]
    go_enter Try.func74, Try.ntmps74
    go_wp2_with (fail)
    go_ret
    exact RetV.int H.out.symm (Below.refl _ _)
  have h31b : decide (31 < (l.length : Int)) = false := by simp; omega
  have hlt31 : l.length ≤ 31 := by omega
  have HC : Hid (check l = if (l.any fun x => !x.ok) = true then 1 else if l.length = 0 ∨ endAt l 0 ≠ l.length then 1 else if 8 < depth l then 5 else 0) := by
    unfold Hid check
    rw [if_neg h31]
    by_cases h1 : l.length = 0 ∨ endAt l 0 ≠ l.length <;> by_cases h2 : (l.any fun x => !x.ok) = true <;> simp only [h1, h2, if_true, if_false, ite_self]
  clear h31
  go_enter Try.func74, Try.ntmps74
  go_wp2_with (fail)
  go_loopw [3] (fun i wr => ∃ k : Nat, k ≤ l.length ∧ i = .int .i64 k ∧ Hid (((l.take k).any fun x => !x.ok) = false) ∧ Below w.heap.size w wr) (fun i _ => l.length - (intOf i).toNat)
  case atStart => exact ⟨0, by omega, rfl, by simp [Hid], Below.refl _ _⟩
  case round =>
    obtain ⟨k, hk, rfl, H, hbl⟩ := hrel
    have hbz := hbl.size
    by_cases hlt : k < l.length
    · obtain ⟨b, off, rfl, hb, hrow⟩ := h.at hlt
      obtain ⟨e0, e1, e2, e3, e4⟩ := (hrow.below hbl hb).node hlt rfl
      have hs1 := Hs.out l[k] (List.getElem_mem hlt)
      clear h
      cases hok : l[k].ok
      · have H1 : Hid (check l = 1) := by
          unfold Hid
          rw [HC.out, if_pos]
          rw [List.any_eq_true]
          exact ⟨l[k], List.getElem_mem hlt, by simp [hok]⟩
        go_wp2_with (go_at_call 102; refine (c_ref10_Node l[k] _ hs1).mono ?_; rintro e w1 ⟨rfl, hb1⟩)
        go_ret
        exact RetV.int H1.out.symm (by repeat (first | exact Below.refl _ _ | refine Below.drew ?_ | refine Below.alloc ?_ (by first | omega | (simp; done) | (simp; omega)) _ | refine Below.setCell ?_ (by first | omega | (simp; done) | (simp; omega)) _ | refine Below.trans ?_ (Below.mono (by assumption) (by first | omega | (simp; done) | (simp; omega)))))
      · go_wp2_with (go_at_call 102; refine (c_ref10_Node l[k] _ hs1).mono ?_; rintro e w1 ⟨rfl, hb1⟩)
        go_roundw
        case rel =>
          refine ⟨k + 1, by omega, by go_num, ?_, (by repeat (first | exact Below.refl _ _ | refine Below.drew ?_ | refine Below.alloc ?_ (by first | omega | (simp; done) | (simp; omega)) _ | refine Below.setCell ?_ (by first | omega | (simp; done) | (simp; omega)) _ | refine Below.trans ?_ (Below.mono (by assumption) (by first | omega | (simp; done) | (simp; omega)))))⟩
          show List.any _ _ = false
          rw [List.take_succ_eq_append_getElem hlt, List.any_append, H.out]
          simp [hok]
        case measure => simp [intOf]; omega
    · have HC2 : Hid (check l = if l.length = 0 ∨ endAt l 0 ≠ l.length then 1 else if 8 < depth l then 5 else 0) := by
        have h1 := H.out
        rw [List.take_of_length_le (by omega)] at h1
        unfold Hid
        rw [HC.out, h1]; simp
      clear H HC
      go_wp2_with (first
        | (go_at_call 103; refine (c_ref10_End l A c 0 _ (h.below hbl)).mono ?_; rintro e w1 ⟨rfl, hb1⟩)
        | (go_at_call 104; refine (c_ref10_Depth l.length l A c _ (Nat.le_refl _) ((h.below hbl).below hb1)).mono ?_; rintro e w3 ⟨rfl, hb3⟩))
      all_goals (go_ret; (try have hz1 := hb1.size); refine RetV.int ?_ (by repeat (first | exact Below.refl _ _ | refine Below.drew ?_ | refine Below.alloc ?_ (by first | omega | (simp; done) | (simp; omega)) _ | refine Below.setCell ?_ (by first | omega | (simp; done) | (simp; omega)) _ | refine Below.trans ?_ (Below.mono (by assumption) (by first | omega | (simp; done) | (simp; omega))))); have HC3 := HC2.out; (try simp only [ne_eq] at *); (simp_all [] <;> first | omega | (intros; omega) | decide | grind))
end Go.Proofs.Ytjhndilflcigiaa
namespace Go.Proofs.Ytjhndilflcigiaa
open Go.RowKit

def named (op : Int) : Bool := decide (3 ≤ op) && decide (op ≤ 9)
def valued (op : Int) : Bool := decide (6 ≤ op) && decide (op ≤ 9)
/-- A node's bytes, a filter's bytes. -/
def nodeB (x : Node) : List UInt8 := num x.op ++ ((if named x.op then num x.n else []) ++ (if valued x.op then valB x.v else []))
@[irreducible] def putB (l : List Node) : List UInt8 := if check l = 0 then num l.length ++ l.flatMap nodeB else []
end Go.Proofs.Ytjhndilflcigiaa
namespace Go.Proofs.Ytjhndilflcigiaa
open Go.RowKit

/-- What is left, and the first error. -/
structure Rd where
  s : List UInt8
  e : Int
deriving DecidableEq

/-! A number off bytes: its error, its value, how many bytes it has. -/
def nxE : Nat → Bool → List UInt8 → Int
  | 0, _, _ => 3
  | _ + 1, _, [] => 2
  | f + 1, first, c :: s => if 128 ≤ c.toNat then nxE f false s else if c.toNat = 0 ∧ first = false then 3 else 0
def nxV : Nat → List UInt8 → Nat
  | 0, _ => 0
  | _ + 1, [] => 0
  | f + 1, c :: s => if 128 ≤ c.toNat then c.toNat % 128 + 128 * nxV f s else c.toNat
def nxK : Nat → List UInt8 → Nat
  | 0, _ => 0
  | _ + 1, [] => 0
  | f + 1, c :: s => if 128 ≤ c.toNat then nxK f s + 1 else 1
@[irreducible] def nErr (s : List UInt8) (most : Int) : Int := if nxE 6 true s = 0 then (if 1099511627776 < nxV 6 s ∨ most < (nxV 6 s : Int) then 4 else 0) else nxE 6 true s
@[irreducible] def nVal (s : List UInt8) (most : Int) : Int := if nErr s most = 0 then (nxV 6 s : Int) else 0
@[irreducible] def nLen (s : List UInt8) (most : Int) : Nat := if nErr s most = 0 then nxK 6 s else 0
/-! What the readers' calls answer, and what is left then. -/
def rdN (st : Rd) (most : Int) : Int := if st.e = 0 then nVal st.s most else 0
def rdN' (st : Rd) (most : Int) : Rd := if st.e = 0 then ⟨st.s.drop (nLen st.s most), nErr st.s most⟩ else st
def tErr (s : List UInt8) (most : Int) : Int := if nErr s most = 0 then (if nxV 6 s ≤ s.length - nxK 6 s then 0 else 2) else nErr s most
def rdS (st : Rd) (most : Int) : List UInt8 := if st.e = 0 ∧ tErr st.s most = 0 then (st.s.drop (nxK 6 st.s)).take (nxV 6 st.s) else []
def rdS' (st : Rd) (most : Int) : Rd := if st.e = 0 then (if tErr st.s most = 0 then ⟨st.s.drop (nxK 6 st.s + nxV 6 st.s), 0⟩ else ⟨st.s, tErr st.s most⟩) else st
def rdF (st : Rd) (e : Int) : Rd := if st.e = 0 then ⟨st.s, e⟩ else st
/-! A number's bytes are read as it. -/
/-! What is read as a number has just a number's bytes. -/
/-! How the loops over a number's bytes go. -/
def Peek (s : List UInt8) (k acc : Nat) : Prop :=
  k ≤ 6 ∧ k ≤ s.length ∧ acc < 128 ^ k ∧ nxE 6 true s = nxE (6 - k) (decide (k = 0)) (s.drop k) ∧ nxV 6 s = acc + 128 ^ k * nxV (6 - k) (s.drop k) ∧ nxK 6 s = k + nxK (6 - k) (s.drop k) ∧
    ∀ j c, j < k → s[j]? = some c → 128 ≤ c.toNat
section
variable {s : List UInt8} {k acc : Nat}
theorem Peek.full (h : Peek s 6 acc) : nxE 6 true s = 3 := by rw [h.2.2.2.1]; rfl
theorem Peek.zero (h : Peek s k acc) (hk : k < 6) (hl : k < s.length) (hc : s[k].toNat = 0) (h0 : 0 < k) : nxE 6 true s = 3 := by
  rw [h.2.2.2.1, List.drop_eq_getElem_cons hl, show 6 - k = (6 - (k + 1)) + 1 by omega, nxE, if_neg (by omega), if_pos ⟨hc, by simp; omega⟩]
theorem Peek.done (h : Peek s k acc) (hk : k < 6) (hl : k < s.length) (hc : s[k].toNat < 128) (h0 : s[k].toNat ≠ 0 ∨ k = 0) : nxE 6 true s = 0 ∧ nxV 6 s = acc + s[k].toNat * 128 ^ k ∧ nxK 6 s = k + 1 := by
  obtain ⟨_, _, h3, h4, h5, h6, h7⟩ := h
  rw [List.drop_eq_getElem_cons hl, show 6 - k = (6 - (k + 1)) + 1 by omega] at h4 h5 h6
  rw [nxE, if_neg (by omega)] at h4
  rw [nxV, if_neg (by omega)] at h5
  rw [nxK, if_neg (by omega)] at h6
  refine ⟨?_, by rw [h5, Nat.mul_comm], h6⟩
  rw [h4, if_neg]
  rintro ⟨h1, h2⟩
  rcases h0 with h0 | h0
  · exact h0 h1
  · simp [h0] at h2
end
end Go.Proofs.Ytjhndilflcigiaa
namespace Go.Proofs.Ytjhndilflcigiaa
open Go.RowKit

/-! Worlds in which, below a block number, one block alone may have turned. -/
structure Kept (p : Option Nat) (B : Nat) (w w' : World) : Prop where
  os : w'.os = w.os
  tape : w'.tape = w.tape
  output : w'.output = w.output
  size : w.heap.size ≤ w'.heap.size
  block : ∀ k, k < B → p ≠ some k → w'.heap[k]? = w.heap[k]?
section
variable {p : Option Nat} {B B' : Nat} {a b c w w' : World}
theorem Kept.refl (p : Option Nat) (B : Nat) (w : World) : Kept p B w w := ⟨rfl, rfl, rfl, Nat.le_refl _, fun _ _ _ => rfl⟩
theorem Kept.of_below (h : Below B w w') : Kept p B w w' := ⟨h.os, h.tape, h.output, h.size, fun k hk _ => h.block k hk⟩
theorem Kept.trans (h : Kept p B a b) (k : Kept p B b c) : Kept p B a c := ⟨k.os.trans h.os, k.tape.trans h.tape, k.output.trans h.output, Nat.le_trans h.size k.size, fun i hi hp => (k.block i hi hp).trans (h.block i hi hp)⟩
theorem Kept.mono (h : Kept p B w w') (hB : B' ≤ B) : Kept p B' w w' := ⟨h.os, h.tape, h.output, h.size, fun k hk hp => h.block k (by omega) hp⟩
theorem Kept.below (h : Kept p B w w') (hB : B' ≤ B) (hp : ∀ g, p = some g → B' ≤ g) : Below B' w w' := ⟨h.os, h.tape, h.output, h.size, fun k hk => h.block k (by omega) (fun e => by have := hp k e; omega)⟩
theorem Kept.alloc (h : Kept p B a w) (hB : B ≤ w.heap.size) (o : Obj) : Kept p B a (w.alloc o) := h.trans (.of_below ((Below.refl _ _).alloc hB o))
theorem Kept.drew (h : Kept p B a w) : Kept p B a w.drew := ⟨h.os, h.tape, h.output, h.size, h.block⟩
theorem Kept.setCell (h : Kept p B a w) {q : Addr} (hq : B ≤ q.block ∨ p = some q.block) (u : Value) : Kept p B a (w.setCell q u) :=
  h.trans ⟨rfl, rfl, rfl, by simp [World.setCell], fun k hk hp => Below.heap_setCell _ _ _ _ (fun e => by
    subst e
    rcases hq with h | h
    · omega
    · exact hp h)⟩
theorem Kept.then_below (h : Kept p B a w) (k : Below w.heap.size w w') (hB : B ≤ w.heap.size) : Kept p B a w' := h.trans (.of_below (k.mono hB))
theorem Kept.then_kept (h : Kept p B a w) (k : Kept p w.heap.size w w') (hB : B ≤ w.heap.size) : Kept p B a w' := h.trans (k.mono hB)
theorem Kept.cell (h : Kept p B w w') {q : Addr} (hq : q.block < B) (hp : p ≠ some q.block) : w'.cell? q = w.cell? q := World.cell?_of_block (w := w) (h.block q.block hq hp)
theorem own_kept {base : Nat} {e : TypeId} {size n : Nat} {v : Value} {xs : List Value} (h : w.ownsRow base e size v n xs) (k : Kept p w.heap.size w w') (hp : ∀ g, p = some g → g < base) : w'.ownsRow base e size v n xs := by
  obtain ⟨h1, h2⟩ := h
  refine ⟨h1, ?_⟩
  rcases h2 with h2 | ⟨g, cap, cur, hv, hg, hh, r⟩
  · exact .inl h2
  · exact .inr ⟨g, cap, cur, hv, hg, by rw [k.block g (by
      rcases Nat.lt_or_ge g w.heap.size with hlt | hge
      · exact hlt
      · rw [Array.getElem?_eq_none hge] at hh; cases hh) (fun e => by have := hp g e; omega)]; exact hh, r⟩
end

/-! A block that is known whole. -/
def Blk (w : World) (g : Nat) (cs : Array Value) : Prop := ∃ t, w.heap[g]? = some (.cells cs t (0, 0))
section
variable {w w' : World} {g : Nat} {cs : Array Value}
theorem Blk.lt (h : Blk w g cs) : g < w.heap.size := by
  obtain ⟨t, h⟩ := h
  rcases Nat.lt_or_ge g w.heap.size with hlt | hge
  · exact hlt
  · rw [Array.getElem?_eq_none hge] at h; cases h
theorem Blk.cell (h : Blk w g cs) {i : Nat} {v : Value} (hv : cs[i]? = some v) : w.cell? ⟨g, i, none⟩ = some v := by
  obtain ⟨t, h⟩ := h
  simp [World.cell?, h, hv]
theorem Blk.frozen (h : Blk w g cs) (i : Nat) : w.frozen? ⟨g, i, none⟩ = false := by
  obtain ⟨t, h⟩ := h
  simp [World.frozen?, h]
theorem Blk.new (w : World) (t : TypeId) (cs : Array Value) : Blk (w.alloc (.cells cs t)) w.heap.size cs := ⟨t, heap_alloc_new w _⟩
theorem Blk.kept {p : Option Nat} {B : Nat} (h : Blk w g cs) (k : Kept p B w w') (hg : g < B) (hp : p ≠ some g) : Blk w' g cs := by
  obtain ⟨t, h⟩ := h
  exact ⟨t, (k.block g hg hp).trans h⟩
theorem Blk.below {B : Nat} (h : Blk w g cs) (k : Below B w w') (hg : g < B) : Blk w' g cs := by
  obtain ⟨t, h⟩ := h
  exact ⟨t, (k.block g hg).trans h⟩
theorem Blk.store (h : Blk w g cs) (i : Nat) (u : Value) : Blk (w.setCell ⟨g, i, none⟩ u) g (cs.setIfInBounds i u) := by
  obtain ⟨t, h⟩ := h
  exact ⟨t, by simp [World.setCell, Array.getElem?_modify, h]⟩
theorem Blk.far (h : Blk w g cs) {q : Addr} (hq : g ≠ q.block) (u : Value) : Blk (w.setCell q u) g cs := by
  obtain ⟨t, h⟩ := h
  exact ⟨t, (Below.heap_setCell w q u g hq).trans h⟩
end

/-! The readers in memory. -/
/-- The program's reader at block g: the bytes B, the place, the error. -/
def RdA (w : World) (g : Nat) (A : Option Addr) (c : Nat) (B : List UInt8) (pos : Nat) (e : Int) : Prop :=
  Blk w g #[.slice A B.length c, .int .i64 pos, .int .i64 e] ∧ pos ≤ B.length ∧ B.length ≤ c ∧ c ≤ 9223372036854775807 ∧ B.length ≤ 4294967296 ∧ (B = [] ∨ ∃ b off, A = some ⟨b, off, none⟩ ∧ b < g ∧ Row 1 bc w b off B)
/-- The program's reader; none: the nil one. -/
def RdP (w : World) (p : Option Nat) (st : Rd) : Prop :=
  (p = none ∧ st = ⟨[], 1⟩) ∨ ∃ g A c B pos, p = some g ∧ RdA w g A c B pos st.e ∧ st.s = B.drop pos
/-- The reference's reader at block h. -/
def RdR (w : World) (h : Nat) (st : Rd) : Prop := Blk w h #[.string (str st.s), .int .i64 st.e] ∧ st.s.length ≤ 4294967296
section
variable {w w' : World} {g h : Nat} {A : Option Addr} {c pos : Nat} {B : List UInt8} {e : Int} {p q : Option Nat} {st st' : Rd}
theorem RdA.kept (r : RdA w g A c B pos e) (k : Kept q w.heap.size w w') (hq : ∀ h, q = some h → g < h) : RdA w' g A c B pos e := by
  obtain ⟨h1, h2, h3, h4, h5, h6⟩ := r
  refine ⟨h1.kept k h1.lt (fun e => by have := hq g e; omega), h2, h3, h4, h5, h6.imp id fun ⟨b, off, hA, hb, hr⟩ => ⟨b, off, hA, hb, ?_⟩⟩
  have := h1.lt
  exact hr.keep fun o => k.cell (by show b < _; omega) (fun e => by have := hq b e; omega)
theorem RdA.store2 (r : RdA w g A c B pos e) (e' : Int) : RdA (w.setCell ⟨g, 2, none⟩ (.int .i64 e')) g A c B pos e' := by
  obtain ⟨h1, h2, h3, h4, h5, h6⟩ := r
  refine ⟨by simpa using h1.store 2 (.int .i64 e'), h2, h3, h4, h5, h6.imp id fun ⟨b, off, hA, hb, hr⟩ => ⟨b, off, hA, hb, ?_⟩⟩
  exact hr.keep fun o => World.cell?_setCell_other _ _ _ _ (fun e => by injection e; omega)
theorem RdP.kept (r : RdP w p st) (k : Kept q w.heap.size w w') (hq : ∀ g h, p = some g → q = some h → g < h) : RdP w' p st :=
  r.imp id fun ⟨g, A, c, B, pos, hp, ha, hs⟩ => ⟨g, A, c, B, pos, hp, ha.kept k (fun h => hq g h hp), hs⟩
theorem RdP.below (r : RdP w p st) (k : Below w.heap.size w w') : RdP w' p st := r.kept (q := none) (.of_below k) (fun _ _ _ h => by cases h)
theorem RdP.lt (r : RdP w p st) (hg : p = some g) : g < w.heap.size := by
  rcases r with ⟨rfl, _⟩ | ⟨g', A, c, B, pos, hp, ha, _⟩
  · cases hg
  · rw [hp] at hg; injection hg with hg; subst hg; exact ha.1.lt
theorem RdR.kept (r : RdR w h st) (k : Kept q w.heap.size w w') (hq : q ≠ some h) : RdR w' h st := ⟨r.1.kept k r.1.lt hq, r.2⟩
theorem RdR.below (r : RdR w h st) (k : Below w.heap.size w w') : RdR w' h st := r.kept (q := none) (.of_below k) (by simp)
theorem RdR.lt (r : RdR w h st) : h < w.heap.size := r.1.lt
theorem RdP.len (r : RdP w p st) : st.s.length ≤ 4294967296 := by
  rcases r with ⟨rfl, rfl⟩ | ⟨g, A, c, B, pos, hp, ha, hs⟩
  · simp
  · rw [hs]; have := ha.2.2.2.2.1; simp; omega
end

/-! The ends of the readers' calls. -/
/-- The call hands back v, the program's reader is then st'; nothing else below the heap's end has turned. -/
def RetP (p : Option Nat) (st' : Rd) (w : World) (v : Value) (e : Ending) (w' : World) : Prop := e = .returned v ∧ RdP w' p st' ∧ Kept p w.heap.size w w'
end Go.Proofs.Ytjhndilflcigiaa
namespace Go.Proofs.Ytjhndilflcigiaa
open Go.RowKit

theorem RdP.nil {w : World} {st : Rd} (h : RdP w none st) : st = ⟨[], 1⟩ := by
  rcases h with ⟨_, h⟩ | ⟨g, _, _, _, _, h, _⟩
  · exact h
  · cases h
theorem RdP.at {w : World} {g : Nat} {st : Rd} (h : RdP w (some g) st) : ∃ A c B pos, RdA w g A c B pos st.e ∧ st.s = B.drop pos := by
  rcases h with ⟨h, _⟩ | ⟨g', A, c, B, pos, h, ha, hs⟩
  · cases h
  · injection h with h; subst h; exact ⟨A, c, B, pos, ha, hs⟩
theorem RdP.mk {w : World} {g : Nat} {A : Option Addr} {c : Nat} {B : List UInt8} {pos : Nat} {st : Rd} (ha : RdA w g A c B pos st.e) (hs : st.s = B.drop pos) : RdP w (some g) st := .inr ⟨g, A, c, B, pos, rfl, ha, hs⟩
theorem RdP.nilmk (w : World) : RdP w none ⟨[], 1⟩ := .inl ⟨rfl, rfl⟩
theorem RetP.nil {w w' : World} {st' : Rd} {v : Value} (h : st' = ⟨[], 1⟩) (hb : Below w.heap.size w w') : RetP none st' w v (.returned v) w' := by subst h; exact ⟨rfl, RdP.nilmk _, .of_below hb⟩
theorem RetP.same {w w' : World} {p : Option Nat} {st : Rd} {v : Value} (h : RdP w p st) (hb : Below w.heap.size w w') : RetP p st w v (.returned v) w' := ⟨rfl, h.below hb, .of_below hb⟩

/-- The nil reader, or the one at g. -/
theorem RdA.fail {w : World} {g : Nat} {A : Option Addr} {c : Nat} {B : List UInt8} {pos : Nat} {st : Rd} {e : Int} (ha : RdA w g A c B pos st.e) (hs : st.s = B.drop pos) : RdP (w.setCell ⟨g, 2, none⟩ (.int .i64 e)) (some g) ⟨st.s, e⟩ ∧ Kept (some g) w.heap.size w (w.setCell ⟨g, 2, none⟩ (.int .i64 e)) :=
  ⟨RdP.mk (ha.store2 e) hs, (Kept.refl _ _ _).setCell (q := ⟨g, 2, none⟩) (.inr rfl) _⟩
theorem RdA.in {w : World} {g : Nat} {A : Option Addr} {c : Nat} {B : List UInt8} {pos : Nat} {e : Int} (ha : RdA w g A c B pos e) : InB w A c B :=
  ⟨ha.2.2.1, ha.2.2.2.1, ha.2.2.2.2.1, ha.2.2.2.2.2.imp id fun ⟨b, off, hA, hb, hr⟩ => ⟨b, off, hA, by have := ha.1.lt; omega, hr⟩⟩
end Go.Proofs.Ytjhndilflcigiaa
namespace Go.Proofs.Ytjhndilflcigiaa
open Go.RowKit

/-- A value off bytes, and what the reader is then. -/
def rdVal' (st : Rd) : Rd := if rdN st 2 = 1 then rdN' (rdN' st 2) 1099511627776 else if rdN st 2 = 2 then rdS' (rdN' st 2) 24 else rdN' st 2
def rdVal (st : Rd) : Val := if (rdVal' st).e = 0 then ⟨rdN st 2, if rdN st 2 = 1 then rdN (rdN' st 2) 1099511627776 else 0, if rdN st 2 = 2 then rdS (rdN' st 2) 24 else []⟩ else ⟨0, 0, []⟩
/-! A number that is not 0. -/
end Go.Proofs.Ytjhndilflcigiaa
namespace Go.Proofs.Ytjhndilflcigiaa
open Go.RowKit

theorem RdP.own {w w' : World} {p : Option Nat} {st : Rd} {b : Nat} (r : RdP w p st) (k : Kept (some b) w.heap.size w w') (hb : ∀ g, p = some g → g < b) : RdP w' p st :=
  r.kept k (fun g h hg hh => by injection hh with hh; subst hh; exact hb g hg)
theorem RdP.up {w w' : World} {p : Option Nat} {st : Rd} {B : Nat} (r : RdP w p st) (k : Below B w w') (hb : ∀ g, p = some g → g < B) : RdP w' p st := by
  rcases r with ⟨rfl, hs⟩ | ⟨g, A, c, L, pos, rfl, ⟨h1, h2, h3, h4, h5, h6⟩, hs⟩
  · exact .inl ⟨rfl, hs⟩
  · have hg := hb g rfl
    exact .inr ⟨g, A, c, L, pos, rfl, ⟨h1.below k hg, h2, h3, h4, h5, h6.imp id fun ⟨b, off, hA, hbg, hr⟩ => ⟨b, off, hA, hbg, hr.belowB k (by omega)⟩⟩, hs⟩
theorem RdR.up {w w' : World} {h : Nat} {st : Rd} {B : Nat} (r : RdR w h st) (k : Below B w w') (hb : h < B) : RdR w' h st := ⟨r.1.below k hb, r.2⟩
end Go.Proofs.Ytjhndilflcigiaa
namespace Go.Proofs.Ytjhndilflcigiaa
open Go.RowKit

def belowOf (op : Int) : Int := if op = 3 ∨ op = 4 then 16 else 8
def ndA (st : Rd) : Rd := if rdN st 12 = 0 then rdF (rdN' st 12) 3 else rdN' st 12
def ndN (st : Rd) : Int := if named (rdN st 12) then rdN (ndA st) (belowOf (rdN st 12) - 1) else 0
def ndB (st : Rd) : Rd := if named (rdN st 12) then rdN' (ndA st) (belowOf (rdN st 12) - 1) else ndA st
def ndV (st : Rd) : Val := if valued (rdN st 12) then rdVal (ndB st) else ⟨0, 0, []⟩
def ndC (st : Rd) : Rd := if valued (rdN st 12) then rdVal' (ndB st) else ndB st
def ndNode (st : Rd) : Node := ⟨rdN st 12, ndN st, ndV st⟩
def ndD (st : Rd) : Rd := if valued (rdN st 12) ∧ (ndNode st).ok = false then rdF (ndC st) 3 else ndC st
def rdNodes : Nat → Rd → List Node
  | 0, _ => []
  | k + 1, st => if st.e = 0 then ndNode st :: rdNodes k (ndD st) else []
def rdNodes' : Nat → Rd → Rd
  | 0, st => st
  | k + 1, st => if st.e = 0 then rdNodes' k (ndD st) else st
def pdA (st : Rd) : Rd := if rdN st 31 = 0 then rdF (rdN' st 31) 3 else rdN' st 31
def pdL (st : Rd) : List Node := rdNodes (rdN st 31).toNat (pdA st)
def pdS (st : Rd) : Rd := rdNodes' (rdN st 31).toNat (pdA st)
@[irreducible] def rdPred (st : Rd) : List Node := if (pdS st).e = 0 ∧ check (pdL st) = 0 then pdL st else []
@[irreducible] def rdPred' (st : Rd) : Rd := if (pdS st).e = 0 then (if check (pdL st) = 0 then pdS st else if check (pdL st) = 5 then ⟨(pdS st).s, 5⟩ else ⟨(pdS st).s, 3⟩) else pdS st

theorem Kept.low {p : Option Nat} {B : Nat} {a w w' : World} (h : Kept p B a w) (k : Below B w w') : Kept p B a w' := h.trans (.of_below k)
/-! The ends of the calls that read a slice. -/
end Go.Proofs.Ytjhndilflcigiaa
