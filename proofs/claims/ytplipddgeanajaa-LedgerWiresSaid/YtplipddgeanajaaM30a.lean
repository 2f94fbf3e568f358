/-
  At, Rep, W30a, W30b, W30c, W30d, W30e, in one text (merge.py).
-/
import Derived.Test.YtplipddgeanajaaStr
import Derived.Test.YtplipddgeanajaaRpl
import Derived.Test.YtplipddgeanajaaRv
import Derived.Test.YtplipddgeanajaaW10d
import Derived.Test.YtplipddgeanajaaW10e
import Derived.Test.YtplipddgeanajaaW03m
import Derived.Test.YtplipddgeanajaaW16a
import Derived.Test.YtplipddgeanajaaRel
import Derived.IntWalk
import Derived.Test.YtplipddgeanajaaW10h
import Derived.Test.YtplipddgeanajaaW10l
/-! At -/
namespace Go.Proofs.Ytplipddgeanajaa
open Go.RowKit

/-- A world behind the making of one block, in which that block is as it was made. -/
def At (w w' : World) (cs : Array Value) : Prop := Below w.heap.size w w' ∧ Blk w' w.heap.size cs
theorem At.new (w : World) (t : TypeId) (cs : Array Value) : At w (w.alloc (.cells cs t)) cs := ⟨(Below.refl _ _).alloc (Nat.le_refl _) _, Blk.new _ _ _⟩
theorem At.step {w w1 w2 : World} {cs : Array Value} (h : At w w1 cs) (hb : Below w1.heap.size w1 w2) : At w w2 cs := ⟨h.1.trans (hb.mono h.1.size), h.2.below hb h.2.lt⟩
theorem At.alloc {w w1 : World} {cs : Array Value} (h : At w w1 cs) (o : Obj) : At w (w1.alloc o) cs := h.step ((Below.refl _ _).alloc (Nat.le_refl _) o)
end Go.Proofs.Ytplipddgeanajaa
/-! Rep -/
namespace Go.Proofs.Ytplipddgeanajaa
open Go.RowKit

structure Rep where
  kind : Int
  dev : Int
  req : Int
  code : Int
  id : Int
  ver : Int
  seq : Int
  epoch : Int
  f : List Node
  mask : Nat
deriving DecidableEq
abbrev rz : Rep := ⟨0, 0, 0, 0, 0, 0, 0, 0, [], 0⟩
/-- An answer's cells; the filter lies elsewhere. -/
abbrev Rep.arr (a : Rep) (A : Option Addr) (c : Nat) : Array Value := #[.int .i64 a.kind, .int .i64 a.dev, .int .i64 a.req, .int .i64 a.code, .int .i64 a.id, .int .i64 a.ver, .int .i64 a.seq, .int .i64 a.epoch, .slice A a.f.length c, .int .u32 a.mask]
def Rep.base (a : Rep) : Bool := decide (2 ≤ a.kind ∧ a.kind ≤ 4 ∧ 0 ≤ a.dev ∧ a.dev < 6 ∧ 1 ≤ a.req ∧ a.req ≤ 1099511627776 ∧ 0 ≤ a.code ∧ a.code ≤ 16)
def Rep.seqOk (a : Rep) : Bool := if a.code = 0 then decide (0 ≤ a.seq ∧ a.seq ≤ 1099511627776) else decide (a.seq = 0)
def Rep.isPut (a : Rep) : Bool := decide (a.code = 0 ∧ a.kind = 2)
def Rep.isSub (a : Rep) : Bool := decide (a.code = 0 ∧ a.kind = 3)
def Rep.putOk (a : Rep) : Bool := if a.isPut then decide (1 ≤ a.id ∧ a.id ≤ 1073741823 ∧ 1 ≤ a.ver ∧ a.ver ≤ 1099511627776) else decide (a.id = 0 ∧ a.ver = 0)
def Rep.subOk (a : Rep) : Bool := if a.isSub then decide (1 ≤ a.epoch ∧ a.epoch ≤ 1099511627776 ∧ check a.f = 0 ∧ a.mask < 512) else decide (a.epoch = 0 ∧ a.f = [] ∧ a.mask = 0)
def Rep.ok (a : Rep) : Bool := a.base && (a.seqOk && (a.putOk && a.subOk))
theorem Rep.ok_iff {a : Rep} : a.ok = true ↔ a.base = true ∧ a.seqOk = true ∧ a.putOk = true ∧ a.subOk = true := by unfold Rep.ok; simp only [Bool.and_eq_true]
theorem Rep.base_iff {a : Rep} : a.base = true ↔ (2 ≤ a.kind ∧ a.kind ≤ 4 ∧ 0 ≤ a.dev ∧ a.dev < 6 ∧ 1 ≤ a.req ∧ a.req ≤ 1099511627776 ∧ 0 ≤ a.code ∧ a.code ≤ 16) := by unfold Rep.base; exact decide_eq_true_iff
def repB (a : Rep) : List UInt8 := if a.ok then num a.kind ++ (num a.dev ++ (num a.req ++ (num a.code ++ (if a.code = 0 then num a.seq ++ ((if a.kind = 2 then num a.id ++ num a.ver else []) ++ (if a.kind = 3 then num a.epoch ++ (putB a.f ++ num a.mask) else [])) else [])))) else []
theorem repB_bad {a : Rep} (h : a.ok = false) : repB a = [] := by unfold repB; rw [h]; rfl
theorem repB_ok {a : Rep} (h : a.ok = true) : repB a = num a.kind ++ (num a.dev ++ (num a.req ++ (num a.code ++ (if a.code = 0 then num a.seq ++ ((if a.kind = 2 then num a.id ++ num a.ver else []) ++ (if a.kind = 3 then num a.epoch ++ (putB a.f ++ num a.mask) else [])) else [])))) := by unfold repB; rw [if_pos h]
theorem repB_err {a : Rep} (h : a.ok = true) (hc : a.code ≠ 0) : repB a = num a.kind ++ (num a.dev ++ (num a.req ++ num a.code)) := by rw [repB_ok h, if_neg hc]; simp
theorem repB_put {a : Rep} (h : a.ok = true) (hc : a.code = 0) (hk : a.kind = 2) : repB a = num a.kind ++ (num a.dev ++ (num a.req ++ (num a.code ++ (num a.seq ++ (num a.id ++ num a.ver))))) := by rw [repB_ok h, if_pos hc, if_pos hk, if_neg (by omega)]; simp
theorem repB_sub {a : Rep} (h : a.ok = true) (hc : a.code = 0) (hk : a.kind = 3) : repB a = num a.kind ++ (num a.dev ++ (num a.req ++ (num a.code ++ (num a.seq ++ (num a.epoch ++ (putB a.f ++ num a.mask)))))) := by rw [repB_ok h, if_pos hc, if_neg (by omega), if_pos hk]; simp
theorem repB_leave {a : Rep} (h : a.ok = true) (hc : a.code = 0) (hk : a.kind = 4) : repB a = num a.kind ++ (num a.dev ++ (num a.req ++ (num a.code ++ num a.seq))) := by rw [repB_ok h, if_pos hc, if_neg (by omega), if_neg (by omega)]; simp
theorem repB_len (a : Rep) : (repB a).length ≤ 2000 := by
  have h1 := (num_len a.kind).2
  have h2 := (num_len a.dev).2
  have h3 := (num_len a.req).2
  have h4 := (num_len a.code).2
  have h5 := (num_len a.seq).2
  have h6 := (num_len a.id).2
  have h7 := (num_len a.ver).2
  have h8 := (num_len a.epoch).2
  have h9 := (num_len (a.mask : Int)).2
  have h10 := putB_len a.f
  unfold repB
  split
  · split
    · split <;> split <;> simp <;> omega
    · simp; omega
  · simp
/-! A number that is not less than another one. -/
def rdLe' (st : Rd) (least most : Int) : Rd := if rdN st most < least then rdF (rdN' st most) 3 else rdN' st most
theorem rdLe'_low {st : Rd} {least most : Int} (h : rdN st most < least) : rdLe' st least most = rdF (rdN' st most) 3 := by unfold rdLe'; rw [if_pos h]
theorem rdLe'_high {st : Rd} {least most : Int} (h : least ≤ rdN st most) : rdLe' st least most = rdN' st most := by unfold rdLe'; rw [if_neg (by omega)]
theorem rdLe'_err {st : Rd} {least most : Int} (h : st.e ≠ 0) : rdLe' st least most = st := by
  unfold rdLe'; rw [(rdN_err h).2, rdF_err h]; split <;> rfl
theorem rdLe'_one (st : Rd) (most : Int) : rdLe' st 1 most = rdAb' st most := by
  have := (rdN_bd st most).1
  unfold rdLe' rdAb'
  by_cases h : rdN st most = 0
  · rw [if_pos (by omega), if_pos h]
  · rw [if_neg (by omega), if_neg h]
theorem rdLe'_len (st : Rd) (least most : Int) : (rdLe' st least most).s.length ≤ st.s.length := by
  have := rdN'_len st most
  unfold rdLe'; split
  · rw [rdF_s]; exact this
  · exact this
theorem rdLe_num {n least most : Int} (r : List UInt8) (h0 : 0 ≤ n) (hl : least ≤ n) (h1 : n ≤ 1099511627776) (h : n ≤ most) : rdN ⟨num n ++ r, 0⟩ most = n ∧ rdLe' ⟨num n ++ r, 0⟩ least most = ⟨r, 0⟩ := by
  obtain ⟨a, b⟩ := rdN_num (n := n) (most := most) r h0 h1 h
  exact ⟨a, by rw [rdLe'_high (by rw [a]; omega), b]⟩
theorem rdLe_took {st : Rd} {least most : Int} (h : (rdLe' st least most).e = 0) : st.e = 0 ∧ st.s = num (rdN st most) ++ (rdLe' st least most).s ∧ least ≤ rdN st most ∧ rdN st most ≤ most := by
  by_cases h0 : rdN st most < least
  · rw [rdLe'_low h0] at h
    exact absurd h (rdF_bad _ (by decide))
  · rw [rdLe'_high (by omega)] at h ⊢
    obtain ⟨e, u, e1, e2, e3⟩ := rdN_took h
    exact ⟨e, by rw [e1, e2], by omega, e3⟩
/-! What is read as an answer. -/
def reA (st : Rd) : Rd := rdLe' st 2 4
def reB (st : Rd) : Rd := rdN' (reA st) 5
def reC (st : Rd) : Rd := rdAb' (reB st) 1099511627776
def reD (st : Rd) : Rd := rdN' (reC st) 16
def reE (st : Rd) : Rd := rdN' (reD st) 1099511627776
def reK (st : Rd) : Int := rdN st 4
def reCode (st : Rd) : Int := rdN (reC st) 16
def reP1 (st : Rd) : Rd := rdAb' (reE st) 1073741823
def reP2 (st : Rd) : Rd := rdAb' (reP1 st) 1099511627776
def reS1 (st : Rd) : Rd := rdAb' (reE st) 1099511627776
def reS2 (st : Rd) : Rd := rdPred' (reS1 st)
def reS3 (st : Rd) : Rd := rdN' (reS2 st) 511
def rdRep' (st : Rd) : Rd := if reCode st = 0 then (if reK st = 2 then reP2 st else if reK st = 3 then reS3 st else reE st) else reD st
def rdRepRaw (st : Rd) : Rep :=
  if reCode st = 0 then
    (if reK st = 2 then ⟨reK st, rdN (reA st) 5, rdN (reB st) 1099511627776, 0, rdN (reE st) 1073741823, rdN (reP1 st) 1099511627776, rdN (reD st) 1099511627776, 0, [], 0⟩
     else if reK st = 3 then ⟨reK st, rdN (reA st) 5, rdN (reB st) 1099511627776, 0, 0, 0, rdN (reD st) 1099511627776, rdN (reE st) 1099511627776, rdPred (reS1 st), (rdN (reS2 st) 511).toNat⟩
     else ⟨reK st, rdN (reA st) 5, rdN (reB st) 1099511627776, 0, 0, 0, rdN (reD st) 1099511627776, 0, [], 0⟩)
  else ⟨reK st, rdN (reA st) 5, rdN (reB st) 1099511627776, reCode st, 0, 0, 0, 0, [], 0⟩
def rdRep (st : Rd) : Rep := if (rdRep' st).e = 0 then rdRepRaw st else rz
theorem rdRep_ok {st : Rd} (h : (rdRep' st).e = 0) : rdRep st = rdRepRaw st := by unfold rdRep; rw [if_pos h]
theorem rdRep_bad {st : Rd} (h : (rdRep' st).e ≠ 0) : rdRep st = rz := by unfold rdRep; rw [if_neg h]
theorem re_put {st : Rd} (hc : reCode st = 0) (hk : reK st = 2) : rdRep' st = reP2 st ∧ rdRepRaw st = ⟨2, rdN (reA st) 5, rdN (reB st) 1099511627776, 0, rdN (reE st) 1073741823, rdN (reP1 st) 1099511627776, rdN (reD st) 1099511627776, 0, [], 0⟩ := by
  unfold rdRep' rdRepRaw; rw [if_pos hc, if_pos hk, if_pos hc, if_pos hk, hk]; exact ⟨rfl, rfl⟩
theorem re_sub {st : Rd} (hc : reCode st = 0) (hk : reK st = 3) : rdRep' st = reS3 st ∧ rdRepRaw st = ⟨3, rdN (reA st) 5, rdN (reB st) 1099511627776, 0, 0, 0, rdN (reD st) 1099511627776, rdN (reE st) 1099511627776, rdPred (reS1 st), (rdN (reS2 st) 511).toNat⟩ := by
  unfold rdRep' rdRepRaw; rw [if_pos hc, if_neg (by omega), if_pos hk, if_pos hc, if_neg (by omega), if_pos hk, hk]; exact ⟨rfl, rfl⟩
theorem re_else {st : Rd} (hc : reCode st = 0) (h2 : reK st ≠ 2) (h3 : reK st ≠ 3) : rdRep' st = reE st ∧ rdRepRaw st = ⟨reK st, rdN (reA st) 5, rdN (reB st) 1099511627776, 0, 0, 0, rdN (reD st) 1099511627776, 0, [], 0⟩ := by
  unfold rdRep' rdRepRaw; rw [if_pos hc, if_neg h2, if_neg h3, if_pos hc, if_neg h2, if_neg h3]; exact ⟨rfl, rfl⟩
theorem re_err {st : Rd} (hc : reCode st ≠ 0) : rdRep' st = reD st ∧ rdRepRaw st = ⟨reK st, rdN (reA st) 5, rdN (reB st) 1099511627776, reCode st, 0, 0, 0, 0, [], 0⟩ := by
  unfold rdRep' rdRepRaw; rw [if_neg hc, if_neg hc]; exact ⟨rfl, rfl⟩
/-- In a state of error nothing more is read. -/
theorem reD_err {st : Rd} (h : (reD st).e ≠ 0) : rdRep' st = reD st ∧ rdRep st = rz := by
  have e1 : reE st = reD st := (rdN_err h).2
  have e2 : rdRep' st = reD st := by
    unfold rdRep'
    split
    · split
      · unfold reP2 reP1; rw [e1, rdAb'_bad h, rdAb'_bad h]
      · split
        · unfold reS3 reS2 reS1; rw [e1, rdAb'_bad h, (rdPred_err h).2, (rdN_err h).2]
        · exact e1
    · rfl
  exact ⟨e2, rdRep_bad (by rw [e2]; exact h)⟩
theorem rdRep_err {st : Rd} (h : st.e ≠ 0) : rdRep st = rz ∧ rdRep' st = st := by
  have h1 : reA st = st := rdLe'_err h
  have h2 : reB st = st := by unfold reB; rw [h1]; exact (rdN_err h).2
  have h3 : reC st = st := by unfold reC; rw [h2]; exact rdAb'_bad h
  have h4 : reD st = st := by unfold reD; rw [h3]; exact (rdN_err h).2
  obtain ⟨a, b⟩ := reD_err (st := st) (by rw [h4]; exact h)
  exact ⟨b, by rw [a, h4]⟩
theorem rdRep'_len (st : Rd) : (rdRep' st).s.length ≤ st.s.length := by
  have h1 : (reA st).s.length ≤ st.s.length := rdLe'_len st 2 4
  have h2 : (reB st).s.length ≤ (reA st).s.length := rdN'_len (reA st) 5
  have h3 : (reC st).s.length ≤ (reB st).s.length := rdAb'_len (reB st) 1099511627776
  have h4 : (reD st).s.length ≤ (reC st).s.length := rdN'_len (reC st) 16
  have h5 : (reE st).s.length ≤ (reD st).s.length := rdN'_len (reD st) 1099511627776
  have h6 : (reP1 st).s.length ≤ (reE st).s.length := rdAb'_len (reE st) 1073741823
  have h7 : (reP2 st).s.length ≤ (reP1 st).s.length := rdAb'_len (reP1 st) 1099511627776
  have h8 : (reS1 st).s.length ≤ (reE st).s.length := rdAb'_len (reE st) 1099511627776
  have h9 : (reS2 st).s.length ≤ (reS1 st).s.length := rdPred'_len (reS1 st)
  have h10 : (reS3 st).s.length ≤ (reS2 st).s.length := rdN'_len (reS2 st) 511
  unfold rdRep'
  split
  · split
    · omega
    · split <;> omega
  · omega
/-- An answer that may be is read of its bytes. -/
theorem rdRep_put {a : Rep} (h : a.ok = true) (r : List UInt8) : rdRep ⟨repB a ++ r, 0⟩ = a ∧ rdRep' ⟨repB a ++ r, 0⟩ = ⟨r, 0⟩ := by
  obtain ⟨hb, hs, hp, hu⟩ := Rep.ok_iff.1 h
  obtain ⟨k1, k2, d1, d2, q1, q2, c1, c2⟩ := Rep.base_iff.1 hb
  obtain ⟨t, ht⟩ : ∃ t, t = (if a.code = 0 then num a.seq ++ ((if a.kind = 2 then num a.id ++ num a.ver else []) ++ (if a.kind = 3 then num a.epoch ++ (putB a.f ++ num a.mask) else [])) else []) ++ r := ⟨_, rfl⟩
  have e : repB a ++ r = num a.kind ++ (num a.dev ++ (num a.req ++ (num a.code ++ t))) := by rw [repB_ok h, ht]; simp
  obtain ⟨p1, s1⟩ := rdLe_num (n := a.kind) (least := 2) (most := 4) (num a.dev ++ (num a.req ++ (num a.code ++ t))) (by omega) k1 (by omega) k2
  obtain ⟨p2, s2⟩ := rdN_num (n := a.dev) (most := 5) (num a.req ++ (num a.code ++ t)) d1 (by omega) (by omega)
  obtain ⟨p3, s3⟩ := rdAb_num (n := a.req) (most := 1099511627776) (num a.code ++ t) q1 q2 q2
  obtain ⟨p4, s4⟩ := rdN_num (n := a.code) (most := 16) t c1 (by omega) c2
  obtain ⟨st, hst⟩ : ∃ st : Rd, st = ⟨repB a ++ r, 0⟩ := ⟨_, rfl⟩
  rw [← hst]
  rw [e] at hst
  have hA : reA st = ⟨num a.dev ++ (num a.req ++ (num a.code ++ t)), 0⟩ := by unfold reA; rw [hst, s1]
  have hB : reB st = ⟨num a.req ++ (num a.code ++ t), 0⟩ := by unfold reB; rw [hA, s2]
  have hC : reC st = ⟨num a.code ++ t, 0⟩ := by unfold reC; rw [hB, s3]
  have hD : reD st = ⟨t, 0⟩ := by unfold reD; rw [hC, s4]
  have hK : reK st = a.kind := by unfold reK; rw [hst, p1]
  have hCo : reCode st = a.code := by unfold reCode; rw [hC, p4]
  rw [← hA] at p2
  rw [← hB] at p3
  by_cases h0 : a.code = 0
  · have hseq : 0 ≤ a.seq ∧ a.seq ≤ 1099511627776 := by unfold Rep.seqOk at hs; rw [if_pos h0] at hs; simpa using hs
    rw [if_pos h0, List.append_assoc] at ht
    obtain ⟨p5, s5⟩ := rdN_num (n := a.seq) (most := 1099511627776) ((if a.kind = 2 then num a.id ++ num a.ver else []) ++ (if a.kind = 3 then num a.epoch ++ (putB a.f ++ num a.mask) else []) ++ r) hseq.1 hseq.2 hseq.2
    rw [← ht] at p5 s5
    have hE : reE st = ⟨(if a.kind = 2 then num a.id ++ num a.ver else []) ++ (if a.kind = 3 then num a.epoch ++ (putB a.f ++ num a.mask) else []) ++ r, 0⟩ := by unfold reE; rw [hD, s5]
    rw [← hD] at p5
    have hcases : a.kind = 2 ∨ a.kind = 3 ∨ a.kind = 4 := by omega
    rcases hcases with hk | hk | hk
    · have i1 : a.isPut = true := by unfold Rep.isPut; simp [h0, hk]
      have i2 : a.isSub = false := by unfold Rep.isSub; simp [hk]
      obtain ⟨b1, b2, b3, b4⟩ : 1 ≤ a.id ∧ a.id ≤ 1073741823 ∧ 1 ≤ a.ver ∧ a.ver ≤ 1099511627776 := by unfold Rep.putOk at hp; rw [i1] at hp; simpa using hp
      obtain ⟨z1, z2, z3⟩ : a.epoch = 0 ∧ a.f = [] ∧ a.mask = 0 := by unfold Rep.subOk at hu; rw [i2] at hu; simpa using hu
      rw [if_pos hk, if_neg (by omega), List.append_nil, List.append_assoc] at hE
      obtain ⟨p6, s6⟩ := rdAb_num (n := a.id) (most := 1073741823) (num a.ver ++ r) b1 (by omega) b2
      obtain ⟨p7, s7⟩ := rdAb_num (n := a.ver) (most := 1099511627776) r b3 b4 b4
      rw [← hE] at p6
      have hP1 : reP1 st = ⟨num a.ver ++ r, 0⟩ := by unfold reP1; rw [hE, s6]
      have hP2 : reP2 st = ⟨r, 0⟩ := by unfold reP2; rw [hP1, s7]
      rw [← hP1] at p7
      obtain ⟨w1, w2⟩ := re_put (st := st) (by rw [hCo, h0]) (by rw [hK, hk])
      refine ⟨?_, by rw [w1, hP2]⟩
      rw [rdRep_ok (by rw [w1, hP2]), w2, p2, p3, p5, p6, p7]
      obtain ⟨kind, dev, req, code, id, ver, seq, epoch, f, mask⟩ := a
      simp only at hk h0 z1 z2 z3
      subst hk h0 z1 z2 z3
      rfl
    · have i1 : a.isPut = false := by unfold Rep.isPut; simp [hk]
      have i2 : a.isSub = true := by unfold Rep.isSub; simp [h0, hk]
      obtain ⟨z1, z2⟩ : a.id = 0 ∧ a.ver = 0 := by unfold Rep.putOk at hp; rw [i1] at hp; simpa using hp
      obtain ⟨b1, b2, b3, b4⟩ : 1 ≤ a.epoch ∧ a.epoch ≤ 1099511627776 ∧ check a.f = 0 ∧ a.mask < 512 := by unfold Rep.subOk at hu; rw [i2] at hu; simpa using hu
      rw [if_neg (by omega), if_pos hk, List.nil_append, List.append_assoc, List.append_assoc] at hE
      obtain ⟨p6, s6⟩ := rdAb_num (n := a.epoch) (most := 1099511627776) (putB a.f ++ (num a.mask ++ r)) b1 b2 b2
      obtain ⟨p7, s7⟩ := rdPred_put b3 (num a.mask ++ r)
      obtain ⟨p8, s8⟩ := rdN_num (n := (a.mask : Int)) (most := 511) r (by omega) (by omega) (by omega)
      rw [← hE] at p6
      have hS1 : reS1 st = ⟨putB a.f ++ (num a.mask ++ r), 0⟩ := by unfold reS1; rw [hE, s6]
      have hS2 : reS2 st = ⟨num a.mask ++ r, 0⟩ := by unfold reS2; rw [hS1, s7]
      have hS3 : reS3 st = ⟨r, 0⟩ := by unfold reS3; rw [hS2, s8]
      rw [← hS1] at p7
      rw [← hS2] at p8
      obtain ⟨w1, w2⟩ := re_sub (st := st) (by rw [hCo, h0]) (by rw [hK, hk])
      refine ⟨?_, by rw [w1, hS3]⟩
      rw [rdRep_ok (by rw [w1, hS3]), w2, p2, p3, p5, p6, p7, p8, Int.toNat_natCast]
      obtain ⟨kind, dev, req, code, id, ver, seq, epoch, f, mask⟩ := a
      simp only at hk h0 z1 z2
      subst hk h0 z1 z2
      rfl
    · have i1 : a.isPut = false := by unfold Rep.isPut; simp [hk]
      have i2 : a.isSub = false := by unfold Rep.isSub; simp [hk]
      obtain ⟨z1, z2⟩ : a.id = 0 ∧ a.ver = 0 := by unfold Rep.putOk at hp; rw [i1] at hp; simpa using hp
      obtain ⟨z3, z4, z5⟩ : a.epoch = 0 ∧ a.f = [] ∧ a.mask = 0 := by unfold Rep.subOk at hu; rw [i2] at hu; simpa using hu
      rw [if_neg (by omega), if_neg (by omega), List.nil_append, List.nil_append] at hE
      obtain ⟨w1, w2⟩ := re_else (st := st) (by rw [hCo, h0]) (by rw [hK]; omega) (by rw [hK]; omega)
      refine ⟨?_, by rw [w1, hE]⟩
      rw [rdRep_ok (by rw [w1, hE]), w2, p2, p3, p5, hK]
      obtain ⟨kind, dev, req, code, id, ver, seq, epoch, f, mask⟩ := a
      simp only at h0 z1 z2 z3 z4 z5
      subst h0 z1 z2 z3 z4 z5
      rfl
  · have i1 : a.isPut = false := by unfold Rep.isPut; simp [h0]
    have i2 : a.isSub = false := by unfold Rep.isSub; simp [h0]
    have hseq : a.seq = 0 := by unfold Rep.seqOk at hs; rw [if_neg h0] at hs; simpa using hs
    obtain ⟨z1, z2⟩ : a.id = 0 ∧ a.ver = 0 := by unfold Rep.putOk at hp; rw [i1] at hp; simpa using hp
    obtain ⟨z3, z4, z5⟩ : a.epoch = 0 ∧ a.f = [] ∧ a.mask = 0 := by unfold Rep.subOk at hu; rw [i2] at hu; simpa using hu
    rw [if_neg h0, List.nil_append] at ht
    obtain ⟨w1, w2⟩ := re_err (st := st) (by rw [hCo]; exact h0)
    refine ⟨?_, by rw [w1, hD, ht]⟩
    rw [rdRep_ok (by rw [w1, hD]), w2, p2, p3, hK, hCo]
    obtain ⟨kind, dev, req, code, id, ver, seq, epoch, f, mask⟩ := a
    simp only at hseq z1 z2 z3 z4 z5
    subst hseq z1 z2 z3 z4 z5
    rfl
end Go.Proofs.Ytplipddgeanajaa
/-! W30a -/
namespace Go.Proofs.Ytplipddgeanajaa
open Go.RowKit

def withinB (n a b : Int) (must : Bool) : Bool := if must then decide (a ≤ n ∧ n ≤ b) else decide (n = 0)
set_option maxHeartbeats 400000 in
theorem c_ledger_within (n a b : Int) (must : Bool) (w : World) : Calls Try.prog 34 #[.int .i64 n, .int .i64 a, .int .i64 b, .bool must] w (fun e w' => e = .returned (.bool (withinB n a b must)) ∧ w = w') := by
  cases must
  · go_enter Try.func34, Try.ntmps34
    go_wp2
    go_ret
    exact ⟨by simp [withinB]; rw [Bool.eq_iff_iff]; simp, rfl⟩
  · go_enter Try.func34, Try.ntmps34
    go_wp2
    all_goals
      go_ret
      refine ⟨?_, rfl⟩
      simp_all [withinB] <;> (try (intros; omega)) <;> (try omega)
theorem At.rep {w w' : World} {a : Rep} {A : Option Addr} {c : Nat} (h : At w w' (a.arr A c)) :
    w'.cell? ⟨w.heap.size, 0, none⟩ = some (.int .i64 a.kind) ∧ w'.cell? ⟨w.heap.size, 1, none⟩ = some (.int .i64 a.dev) ∧ w'.cell? ⟨w.heap.size, 2, none⟩ = some (.int .i64 a.req) ∧ w'.cell? ⟨w.heap.size, 3, none⟩ = some (.int .i64 a.code) ∧
    w'.cell? ⟨w.heap.size, 4, none⟩ = some (.int .i64 a.id) ∧ w'.cell? ⟨w.heap.size, 5, none⟩ = some (.int .i64 a.ver) ∧ w'.cell? ⟨w.heap.size, 6, none⟩ = some (.int .i64 a.seq) ∧ w'.cell? ⟨w.heap.size, 7, none⟩ = some (.int .i64 a.epoch) ∧
    w'.cell? ⟨w.heap.size, 8, none⟩ = some (.slice A a.f.length c) ∧ w'.cell? ⟨w.heap.size, 9, none⟩ = some (.int .u32 a.mask) :=
  ⟨h.2.cell rfl, h.2.cell rfl, h.2.cell rfl, h.2.cell rfl, h.2.cell rfl, h.2.cell rfl, h.2.cell rfl, h.2.cell rfl, h.2.cell rfl, h.2.cell rfl⟩
theorem Rep.base_no {a : Rep} (h : a.base = false) : ¬ (2 ≤ a.kind ∧ a.kind ≤ 4 ∧ 0 ≤ a.dev ∧ a.dev < 6 ∧ 1 ≤ a.req ∧ a.req ≤ 1099511627776 ∧ 0 ≤ a.code ∧ a.code ≤ 16) := fun h' => by rw [Rep.base_iff.2 h'] at h; cases h
theorem Rep.ok_no {a : Rep} (h : a.base = false) : a.ok = false := by unfold Rep.ok; rw [h]; rfl
set_option maxHeartbeats 1000000 in
set_option maxRecDepth 4000 in
theorem ledger_Check_no (a : Rep) (A : Option Addr) (c : Nat) (w : World) (hb : a.base = false) : Calls Try.prog 11 #[.agg (a.arr A c)] w (RetV w (.bool a.ok)) := by
  rw [Rep.ok_no hb]
  have HB := Lib.hid (Rep.base_no hb)
  have BC := Lib.hid (At.new w 37 (a.arr A c))
  obtain ⟨q0, q1, q2, q3, -, -, -, -, -, -⟩ := BC.out.rep
  clear hb
  go_enter Try.func11, Try.ntmps11
  go_wp2_with (fail)
  all_goals first
    | (go_ret; exact RetV.bool rfl BC.out.1)
    | (exfalso; have := HB.out; simp_all)
theorem Rep.ok_with {a : Rep} (h : a.base = true) : a.ok = (withinB a.seq 0 1099511627776 (decide (a.code = 0)) && (withinB a.id 1 1073741823 a.isPut && (withinB a.ver 1 1099511627776 a.isPut && (withinB a.epoch 1 1099511627776 a.isSub &&
    (if a.isSub then decide (check a.f = 0) && decide (a.mask ≤ 511) else decide (a.f.length = 0) && decide (a.mask = 0)))))) := by
  unfold Rep.ok Rep.seqOk Rep.putOk Rep.subOk withinB
  rw [h, Bool.true_and]
  have e1 : a.mask < 512 ↔ a.mask ≤ 511 := by omega
  have e2 : a.f = [] ↔ a.f.length = 0 := by simp
  rw [Bool.eq_iff_iff]
  by_cases hc : a.code = 0 <;> cases hp : a.isPut <;> cases hs : a.isSub <;> simp [hc, e1] <;> grind
theorem beq_zero (n : Nat) : ((n : Int) == 0) = decide (n = 0) := by rw [Bool.eq_iff_iff]; simp
theorem beq_dec (n : Int) : (n == 0) = decide (n = 0) := by rw [Bool.eq_iff_iff]; simp
set_option maxHeartbeats 4000000 in
set_option maxRecDepth 4000 in
theorem ledger_Check_yes (a : Rep) (A : Option Addr) (c : Nat) (w : World) (h : InN w A c a.f) (hs : ∀ x ∈ a.f, x.v.s.length ≤ 4294967000) (hm : a.mask < 4294967296) (hb : a.base = true) : Calls Try.prog 11 #[.agg (a.arr A c)] w (RetV w (.bool a.ok)) := by
  rw [Rep.ok_with hb]
  obtain ⟨b1, b2, b3, b4, b5, b6, b7, b8⟩ := Rep.base_iff.1 hb
  have k1 : decide (a.kind < 2) = false := by simpa using b1
  have k2 : decide (4 < a.kind) = false := by simpa using b2
  have k3 : decide (a.dev < 0) = false := by simpa using b3
  have k4 : decide (6 ≤ a.dev) = false := by simpa using b4
  have k5 : decide (a.req < 1) = false := by simpa using b5
  have k6 : decide (1099511627776 < a.req) = false := by simpa using b6
  have k7 : decide (a.code < 0) = false := by simpa using b7
  have k8 : decide (16 < a.code) = false := by simpa using b8
  have HI := Lib.hid h
  have Hs := Lib.hid hs
  have BC := Lib.hid (At.new w 37 (a.arr A c))
  obtain ⟨q0, q1, q2, q3, q4, q5, q6, q7, q8, q9⟩ := BC.out.rep
  obtain ⟨V, hV⟩ : ∃ V, V = a.ok := ⟨_, rfl⟩
  have hcs : (a.code ≠ 0) ∨ (a.code = 0 ∧ a.kind = 2) ∨ (a.code = 0 ∧ a.kind = 3) ∨ (a.code = 0 ∧ a.kind = 4) := by omega
  clear hb b1 b2 b3 b4 b5 b6 b7 b8 h hs hV
  rcases hcs with h0 | ⟨h0, h1⟩ | ⟨h0, h1⟩ | ⟨h0, h1⟩
  · have j0 : (a.code == 0) = false := by simpa using h0
    have i1 : a.isPut = false := by unfold Rep.isPut; simp [h0]
    have i2 : a.isSub = false := by unfold Rep.isSub; simp [h0]
    have i0 : decide (a.code = 0) = false := by simp [h0]
    rw [i0, i1, i2]
    clear h0 i0 i1 i2
    go_enter Try.func11, Try.ntmps11
    go_wp2_with (fail)
    refine wp_region_grow (by kernel_rfl) (by kernel_rfl) ?_
    repeat (quiet_step ((first | (fail))))
    refine wpQuiet_nil ?_
    intro w2 hb2
    replace BC := Lib.hid (BC.out.step hb2)
    replace HI := Lib.hid (HI.out.below BC.out.1)
    clear q0 q1 q2 q3 q4 q5 q6 q7 q8 q9
    obtain ⟨q0, q1, q2, q3, q4, q5, q6, q7, q8, q9⟩ := BC.out.rep
    go_wp2_with (first
      | (go_at_call 34; refine (c_ledger_within _ _ _ _ _).mono ?_; rintro e w1 ⟨rfl, rfl⟩))
    all_goals
      go_ret
      refine RetV.bool ?_ BC.out.1
      simp_all [beq_dec]
  · have j0 : (a.code == 0) = true := by simpa using h0
    have i1 : a.isPut = true := by unfold Rep.isPut; simp [h0, h1]
    have i2 : a.isSub = false := by unfold Rep.isSub; simp [h1]
    have i0 : decide (a.code = 0) = true := by simp [h0]
    have j2 : (a.kind == 2) = true := by simpa using h1
    have j3 : (a.kind == 3) = false := by simp [h1]
    rw [i0, i1, i2]
    clear h0 i0 i1 i2 h1
    go_enter Try.func11, Try.ntmps11
    go_wp2_with (fail)
    refine wp_region_grow (by kernel_rfl) (by kernel_rfl) ?_
    repeat (quiet_step ((first | (fail))))
    refine wpQuiet_nil ?_
    intro w2 hb2
    replace BC := Lib.hid (BC.out.step hb2)
    replace HI := Lib.hid (HI.out.below BC.out.1)
    clear q0 q1 q2 q3 q4 q5 q6 q7 q8 q9
    obtain ⟨q0, q1, q2, q3, q4, q5, q6, q7, q8, q9⟩ := BC.out.rep
    go_wp2_with (first
      | (go_at_call 34; refine (c_ledger_within _ _ _ _ _).mono ?_; rintro e w1 ⟨rfl, rfl⟩))
    all_goals
      go_ret
      refine RetV.bool ?_ BC.out.1
      simp_all [beq_dec]
  · have j0 : (a.code == 0) = true := by simpa using h0
    have i1 : a.isPut = false := by unfold Rep.isPut; simp [h1]
    have i2 : a.isSub = true := by unfold Rep.isSub; simp [h0, h1]
    have i0 : decide (a.code = 0) = true := by simp [h0]
    have j2 : (a.kind == 2) = false := by simp [h1]
    have j3 : (a.kind == 3) = true := by simpa using h1
    rw [i0, i1, i2]
    clear h0 i0 i1 i2 h1
    go_enter Try.func11, Try.ntmps11
    go_wp2_with (fail)
    refine wp_region_grow (by kernel_rfl) (by kernel_rfl) ?_
    repeat (quiet_step ((first | (fail))))
    refine wpQuiet_nil ?_
    intro w2 hb2
    replace BC := Lib.hid (BC.out.step hb2)
    replace HI := Lib.hid (HI.out.below BC.out.1)
    clear q0 q1 q2 q3 q4 q5 q6 q7 q8 q9
    obtain ⟨q0, q1, q2, q3, q4, q5, q6, q7, q8, q9⟩ := BC.out.rep
    go_wp2_with (first
      | (go_at_call 34; refine (c_ledger_within _ _ _ _ _).mono ?_; rintro e w1 ⟨rfl, rfl⟩)
      | (go_at_call 35; refine (c_pred_Check a.f A c _ HI.out (fun x hx => by have := Hs.out x hx; omega)).mono ?_; rintro e w3 ⟨rfl, hb3⟩; replace BC := Lib.hid (BC.out.step hb3); clear q0 q1 q2 q3 q4 q5 q6 q7 q8 q9; obtain ⟨q0, q1, q2, q3, q4, q5, q6, q7, q8, q9⟩ := BC.out.rep)
      | (go_at_call 36; refine (c_mask_Check a.mask hm _).mono ?_; rintro e w4 ⟨rfl, hb4⟩; replace BC := Lib.hid (BC.out.step hb4); clear q0 q1 q2 q3 q4 q5 q6 q7 q8 q9; obtain ⟨q0, q1, q2, q3, q4, q5, q6, q7, q8, q9⟩ := BC.out.rep))
    all_goals
      go_ret
      refine RetV.bool ?_ BC.out.1
      simp_all [beq_dec]
  · have j0 : (a.code == 0) = true := by simpa using h0
    have i1 : a.isPut = false := by unfold Rep.isPut; simp [h1]
    have i2 : a.isSub = false := by unfold Rep.isSub; simp [h1]
    have i0 : decide (a.code = 0) = true := by simp [h0]
    have j2 : (a.kind == 2) = false := by simp [h1]
    have j3 : (a.kind == 3) = false := by simp [h1]
    rw [i0, i1, i2]
    clear h0 i0 i1 i2 h1
    go_enter Try.func11, Try.ntmps11
    go_wp2_with (fail)
    refine wp_region_grow (by kernel_rfl) (by kernel_rfl) ?_
    repeat (quiet_step ((first | (fail))))
    refine wpQuiet_nil ?_
    intro w2 hb2
    replace BC := Lib.hid (BC.out.step hb2)
    replace HI := Lib.hid (HI.out.below BC.out.1)
    clear q0 q1 q2 q3 q4 q5 q6 q7 q8 q9
    obtain ⟨q0, q1, q2, q3, q4, q5, q6, q7, q8, q9⟩ := BC.out.rep
    go_wp2_with (first
      | (go_at_call 34; refine (c_ledger_within _ _ _ _ _).mono ?_; rintro e w1 ⟨rfl, rfl⟩))
    all_goals
      go_ret
      refine RetV.bool ?_ BC.out.1
      simp_all [beq_dec]
theorem c_ledger_Check (a : Rep) (A : Option Addr) (c : Nat) (w : World) (h : InN w A c a.f) (hs : ∀ x ∈ a.f, x.v.s.length ≤ 4294967000) (hm : a.mask < 4294967296) : Calls Try.prog 11 #[.agg (a.arr A c)] w (RetV w (.bool a.ok)) := by
  cases hb : a.base
  · exact ledger_Check_no a A c w hb
  · exact ledger_Check_yes a A c w h hs hm hb
end Go.Proofs.Ytplipddgeanajaa
/-! W30b -/
namespace Go.Proofs.Ytplipddgeanajaa
open Go.RowKit

set_option maxHeartbeats 1000000 in
set_option maxRecDepth 4000 in
theorem ref30_Check_no (a : Rep) (A : Option Addr) (c : Nat) (w : World) (hb : a.base = false) : Calls Try.prog 12 #[.agg (a.arr A c)] w (RetV w (.bool a.ok)) := by
  rw [Rep.ok_no hb]
  have HB := Lib.hid (Rep.base_no hb)
  have BC := Lib.hid (At.new w 37 (a.arr A c))
  obtain ⟨q0, q1, q2, q3, -, -, -, -, -, -⟩ := BC.out.rep
  clear hb
  go_enter Try.func12, Try.ntmps12
  go_wp2_with (fail)
  all_goals first
    | (go_ret; exact RetV.bool rfl BC.out.1)
    | (exfalso; have := HB.out; simp_all)
set_option maxHeartbeats 4000000 in
set_option maxRecDepth 4000 in
theorem ref30_Check_yes (a : Rep) (A : Option Addr) (c : Nat) (w : World) (h : InN w A c a.f) (hs : ∀ x ∈ a.f, x.v.s.length ≤ 4294967000) (_hm : a.mask < 4294967296) (hb : a.base = true) : Calls Try.prog 12 #[.agg (a.arr A c)] w (RetV w (.bool a.ok)) := by
  rw [Rep.ok_with hb]
  obtain ⟨b1, b2, b3, b4, b5, b6, b7, b8⟩ := Rep.base_iff.1 hb
  have k1 : decide (a.kind < 2) = false := by simpa using b1
  have k2 : decide (4 < a.kind) = false := by simpa using b2
  have k3 : decide (a.dev < 0) = false := by simpa using b3
  have k4 : decide (6 ≤ a.dev) = false := by simpa using b4
  have k5 : decide (a.req < 1) = false := by simpa using b5
  have k6 : decide (1099511627776 < a.req) = false := by simpa using b6
  have k7 : decide (a.code < 0) = false := by simpa using b7
  have k8 : decide (16 < a.code) = false := by simpa using b8
  have HI := Lib.hid h
  have Hs := Lib.hid hs
  have BC := Lib.hid (At.new w 37 (a.arr A c))
  obtain ⟨q0, q1, q2, q3, q4, q5, q6, q7, q8, q9⟩ := BC.out.rep
  obtain ⟨V, hV⟩ : ∃ V, V = a.ok := ⟨_, rfl⟩
  have hcs : (a.code ≠ 0) ∨ (a.code = 0 ∧ a.kind = 2) ∨ (a.code = 0 ∧ a.kind = 3) ∨ (a.code = 0 ∧ a.kind = 4) := by omega
  clear hb b1 b2 b3 b4 b5 b6 b7 b8 h hs hV
  rcases hcs with h0 | ⟨h0, h1⟩ | ⟨h0, h1⟩ | ⟨h0, h1⟩
  · have j0 : (a.code == 0) = false := by simpa using h0
    have i1 : a.isPut = false := by unfold Rep.isPut; simp [h0]
    have i2 : a.isSub = false := by unfold Rep.isSub; simp [h0]
    have i0 : decide (a.code = 0) = false := by simp [h0]
    rw [i0, i1, i2]
    clear h0 i0 i1 i2
    go_enter Try.func12, Try.ntmps12
    go_wp2_with (fail)
    refine wp_region_grow (by kernel_rfl) (by kernel_rfl) ?_
    repeat (quiet_step ((first | (fail))))
    refine wpQuiet_nil ?_
    intro w2 hb2
    replace BC := Lib.hid (BC.out.step hb2)
    replace HI := Lib.hid (HI.out.below BC.out.1)
    clear q0 q1 q2 q3 q4 q5 q6 q7 q8 q9
    obtain ⟨q0, q1, q2, q3, q4, q5, q6, q7, q8, q9⟩ := BC.out.rep
    go_wp2_with (fail)
    all_goals
      go_ret
      refine RetV.bool ?_ BC.out.1
      simp_all [beq_dec, withinB] <;> (try omega)
  · have j0 : (a.code == 0) = true := by simpa using h0
    have i1 : a.isPut = true := by unfold Rep.isPut; simp [h0, h1]
    have i2 : a.isSub = false := by unfold Rep.isSub; simp [h1]
    have i0 : decide (a.code = 0) = true := by simp [h0]
    have j2 : (a.kind == 2) = true := by simpa using h1
    have j3 : (a.kind == 3) = false := by simp [h1]
    rw [i0, i1, i2]
    clear h0 i0 i1 i2 h1
    go_enter Try.func12, Try.ntmps12
    go_wp2_with (fail)
    refine wp_region_grow (by kernel_rfl) (by kernel_rfl) ?_
    repeat (quiet_step ((first | (fail))))
    refine wpQuiet_nil ?_
    intro w2 hb2
    replace BC := Lib.hid (BC.out.step hb2)
    replace HI := Lib.hid (HI.out.below BC.out.1)
    clear q0 q1 q2 q3 q4 q5 q6 q7 q8 q9
    obtain ⟨q0, q1, q2, q3, q4, q5, q6, q7, q8, q9⟩ := BC.out.rep
    go_wp2_with (fail)
    all_goals
      go_ret
      refine RetV.bool ?_ BC.out.1
      simp_all [beq_dec, withinB] <;> (try omega)
  · have j0 : (a.code == 0) = true := by simpa using h0
    have i1 : a.isPut = false := by unfold Rep.isPut; simp [h1]
    have i2 : a.isSub = true := by unfold Rep.isSub; simp [h0, h1]
    have i0 : decide (a.code = 0) = true := by simp [h0]
    have j2 : (a.kind == 2) = false := by simp [h1]
    have j3 : (a.kind == 3) = true := by simpa using h1
    rw [i0, i1, i2]
    clear h0 i0 i1 i2 h1
    go_enter Try.func12, Try.ntmps12
    go_wp2_with (fail)
    refine wp_region_grow (by kernel_rfl) (by kernel_rfl) ?_
    repeat (quiet_step ((first | (fail))))
    refine wpQuiet_nil ?_
    intro w2 hb2
    replace BC := Lib.hid (BC.out.step hb2)
    replace HI := Lib.hid (HI.out.below BC.out.1)
    clear q0 q1 q2 q3 q4 q5 q6 q7 q8 q9
    obtain ⟨q0, q1, q2, q3, q4, q5, q6, q7, q8, q9⟩ := BC.out.rep
    go_wp2_with (first
      | (go_at_call 37; refine (c_ref10_Check a.f A c _ HI.out (fun x hx => by have := Hs.out x hx; omega)).mono ?_; rintro e w3 ⟨rfl, hb3⟩; replace BC := Lib.hid (BC.out.step hb3); clear q0 q1 q2 q3 q4 q5 q6 q7 q8 q9; obtain ⟨q0, q1, q2, q3, q4, q5, q6, q7, q8, q9⟩ := BC.out.rep)
      | (go_at_call 38; refine (c_ref05_Check a.mask _).mono ?_; rintro e w4 ⟨rfl, hb4⟩; replace BC := Lib.hid (BC.out.step hb4); clear q0 q1 q2 q3 q4 q5 q6 q7 q8 q9; obtain ⟨q0, q1, q2, q3, q4, q5, q6, q7, q8, q9⟩ := BC.out.rep))
    all_goals
      go_ret
      refine RetV.bool ?_ BC.out.1
      simp_all [beq_dec, withinB] <;> (try omega)
  · have j0 : (a.code == 0) = true := by simpa using h0
    have i1 : a.isPut = false := by unfold Rep.isPut; simp [h1]
    have i2 : a.isSub = false := by unfold Rep.isSub; simp [h1]
    have i0 : decide (a.code = 0) = true := by simp [h0]
    have j2 : (a.kind == 2) = false := by simp [h1]
    have j3 : (a.kind == 3) = false := by simp [h1]
    rw [i0, i1, i2]
    clear h0 i0 i1 i2 h1
    go_enter Try.func12, Try.ntmps12
    go_wp2_with (fail)
    refine wp_region_grow (by kernel_rfl) (by kernel_rfl) ?_
    repeat (quiet_step ((first | (fail))))
    refine wpQuiet_nil ?_
    intro w2 hb2
    replace BC := Lib.hid (BC.out.step hb2)
    replace HI := Lib.hid (HI.out.below BC.out.1)
    clear q0 q1 q2 q3 q4 q5 q6 q7 q8 q9
    obtain ⟨q0, q1, q2, q3, q4, q5, q6, q7, q8, q9⟩ := BC.out.rep
    go_wp2_with (fail)
    all_goals
      go_ret
      refine RetV.bool ?_ BC.out.1
      simp_all [beq_dec, withinB] <;> (try omega)
theorem c_ref30_Check (a : Rep) (A : Option Addr) (c : Nat) (w : World) (h : InN w A c a.f) (hs : ∀ x ∈ a.f, x.v.s.length ≤ 4294967000) (hm : a.mask < 4294967296) : Calls Try.prog 12 #[.agg (a.arr A c)] w (RetV w (.bool a.ok)) := by
  cases hb : a.base
  · exact ref30_Check_no a A c w hb
  · exact ref30_Check_yes a A c w h hs hm hb
end Go.Proofs.Ytplipddgeanajaa
/-! W30c -/
namespace Go.Proofs.Ytplipddgeanajaa
open Go.RowKit

theorem strRp : Str Try.prog 37 10 := ⟨⟨_, Try.underlying37, rfl⟩, by kernel_rfl⟩
/-- A slice of a call's own, as a property. -/
def Sp.own {α : Type} (B : Nat) (e : TypeId) (k : Nat) (cs : α → List Value) (l : List α) : Sp := ⟨fun v w => w.ownsRow B e k v l.length (l.flatMap cs), fun _ _ _ h hb => own_below h hb⟩
theorem Sp.own_holds {α : Type} (B : Nat) (e : TypeId) (k : Nat) (cs : α → List Value) (l : List α) (v : Value) (w : World) : (Sp.own B e k cs l).holds v w = w.ownsRow B e k v l.length (l.flatMap cs) := rfl
/-- The first k of an answer's numbers. -/
def pre4 (a : Rep) (k : Nat) : List UInt8 := (([a.kind, a.dev, a.req, a.code] : List Int).take k).flatMap num
theorem pre4_all (a : Rep) : pre4 a 4 = num a.kind ++ (num a.dev ++ (num a.req ++ num a.code)) := by simp [pre4]
set_option maxHeartbeats 4000000 in
set_option maxRecDepth 4000 in
theorem c_ledger_Put (b : List UInt8) (B : Option Addr) (cb : Nat) (a : Rep) (A : Option Addr) (c : Nat) (w : World) (hb : InB w B cb b) (hbl : b.length ≤ 900000) (h : InN w A c a.f) (hs : ∀ x ∈ a.f, x.v.s.length ≤ 4294967000) (hm : a.mask < 4294967296) :
    Calls Try.prog 13 #[.slice B b.length cb, .agg (a.arr A c)] w (RetS 1 bc 5 w (b ++ repB a)) := by
  have hL' := hb.1
  have hC' := hb.2.1
  have Hs := Lib.hid hs
  have HI := Lib.hid h
  have HB := Lib.hid hb
  have B0 := Lib.hid (At.new w 37 (a.arr A c))
  clear hs h hb
  cases hok : a.ok
  case false =>
    have H : Hid (b = b ++ repB a) := by show _ = _; rw [repB_bad hok, List.append_nil]
    go_enter Try.func13, Try.ntmps13
    go_wp2_with (with_reducible refine stop_load 37 (.tmp 3) rfl rfl ?_)
    refine Stop.mk (wpList_loadB rfl _ _ rfl w.heap.size rfl _ B0.out.2 strRp rfl ?_)
    go_wp2_with (fail)
    refine (c_ledger_Check a A c _ (HI.out.below B0.out.1) Hs.out hm).mono ?_
    rintro e w1 ⟨rfl, hb1⟩
    replace B0 := Lib.hid (B0.out.step hb1)
    go_wp2_with (fail)
    refine (c_Clone_b b B cb _ (HB.out.below B0.out.1)).mono ?_
    rintro e w2 ⟨v2, rfl, own2, hb2⟩
    go_wp2_with (fail)
    go_ret
    exact RetS.of own2 B0.out.1.size H.out (B0.out.1.trans (hb2.mono B0.out.1.size))
  case true =>
    have Hok := Lib.hid hok
    have ix0 : ∀ w, (Instr.index 82 (.agg #[.int .i64 a.kind, .int .i64 a.dev, .int .i64 a.req, .int .i64 a.code]) (.int .i64 0)).run Try.prog w = .ok (.int .i64 a.kind) w := fun _ => by kernel_rfl
    have ix1 : ∀ w, (Instr.index 82 (.agg #[.int .i64 a.kind, .int .i64 a.dev, .int .i64 a.req, .int .i64 a.code]) (.int .i64 1)).run Try.prog w = .ok (.int .i64 a.dev) w := fun _ => by kernel_rfl
    have ix2 : ∀ w, (Instr.index 82 (.agg #[.int .i64 a.kind, .int .i64 a.dev, .int .i64 a.req, .int .i64 a.code]) (.int .i64 2)).run Try.prog w = .ok (.int .i64 a.req) w := fun _ => by kernel_rfl
    have ix3 : ∀ w, (Instr.index 82 (.agg #[.int .i64 a.kind, .int .i64 a.dev, .int .i64 a.req, .int .i64 a.code]) (.int .i64 3)).run Try.prog w = .ok (.int .i64 a.code) w := fun _ => by kernel_rfl
    go_enter Try.func13, Try.ntmps13
    go_wp2_with (with_reducible refine stop_load 37 (.tmp 3) rfl rfl ?_)
    refine Stop.mk (wpList_loadB rfl _ _ rfl w.heap.size rfl _ B0.out.2 strRp rfl ?_)
    go_wp2_with (fail)
    refine (c_ledger_Check a A c _ (HI.out.below B0.out.1) Hs.out hm).mono ?_
    rintro e w1 ⟨rfl, hb1⟩
    replace B0 := Lib.hid (B0.out.step hb1)
    obtain ⟨q0, q1, q2, q3, -, -, -, -, -, -⟩ := B0.out.rep
    clear hb1
    go_wp2_with (fail)
    clear q0 q1 q2 q3
    have H0 := Lib.hid (HB.out.below B0.out.1)
    go_loopw [0, 6, 21] (fun v _ i wr => ∃ (k : Nat) (acc : List UInt8) (A1 : Option Addr) (c1 : Nat), k ≤ 4 ∧ i = .int .i64 k ∧ v = .slice A1 acc.length c1 ∧ acc.length ≤ b.length + 7 * k ∧ InB wr A1 c1 acc ∧ Hid (0 < k → wr.ownsRow w.heap.size 5 1 v acc.length (acc.flatMap bc)) ∧ Hid (acc = b ++ pre4 a k) ∧ Hid (At w wr (a.arr A c)))
      (fun _ _ i _ => 4 - (intOf i).toNat)
    case atStart => exact ⟨0, b, B, cb, by omega, rfl, rfl, by omega, H0.out, fun h => absurd h (by omega), by show _ = _; simp [pre4], B0.out⟩
    case round =>
      obtain ⟨k, acc, A1, c1, hk, rfl, rfl, hac, in1, O, N, BR⟩ := hrel
      have hbz := BR.out.1.size
      clear B0 H0
      have hcs : k = 0 ∨ k = 1 ∨ k = 2 ∨ k = 3 ∨ k = 4 := by omega
      clear hk
      rcases hcs with rfl | rfl | rfl | rfl | rfl
      · have hn := (num_len a.kind).2
        go_wp2_with (go_at_call 26; refine (c_octet_Num acc A1 c1 _ _ in1).mono ?_; rintro e w3 ⟨v3, rfl, own3, hb3⟩)
        obtain ⟨A3, c3, rfl, in3⟩ := In.of_own bc_len own3 (by simp only [List.length_append]; omega)
        have O3 := Lib.hid (own_base own3 hbz)
        have B3 := Lib.hid (BR.out.step hb3)
        have L3 : (acc ++ num a.kind).length ≤ b.length + 7 * 1 := by rw [List.length_append]; omega
        have N3 : Hid (acc ++ num a.kind = b ++ pre4 a 1) := by show _ = _; rw [N.out]; simp [pre4]
        clear own3 hb3 O N BR
        go_roundw
        case rel => exact ⟨1, acc ++ num a.kind, A3, c3, by omega, rfl, by first | rfl | (rw [List.length_append]), L3, in3, fun _ => by first | exact O3.out | simpa using O3.out, N3, B3⟩
        case measure => simp [intOf]
      · have hn := (num_len a.dev).2
        go_wp2_with (go_at_call 26; refine (c_octet_Num acc A1 c1 _ _ in1).mono ?_; rintro e w3 ⟨v3, rfl, own3, hb3⟩)
        obtain ⟨A3, c3, rfl, in3⟩ := In.of_own bc_len own3 (by simp only [List.length_append]; omega)
        have O3 := Lib.hid (own_base own3 hbz)
        have B3 := Lib.hid (BR.out.step hb3)
        have L3 : (acc ++ num a.dev).length ≤ b.length + 7 * 2 := by rw [List.length_append]; omega
        have N3 : Hid (acc ++ num a.dev = b ++ pre4 a 2) := by show _ = _; rw [N.out]; simp [pre4]
        clear own3 hb3 O N BR
        go_roundw
        case rel => exact ⟨2, acc ++ num a.dev, A3, c3, by omega, rfl, by first | rfl | (rw [List.length_append]), L3, in3, fun _ => by first | exact O3.out | simpa using O3.out, N3, B3⟩
        case measure => simp [intOf]
      · have hn := (num_len a.req).2
        go_wp2_with (go_at_call 26; refine (c_octet_Num acc A1 c1 _ _ in1).mono ?_; rintro e w3 ⟨v3, rfl, own3, hb3⟩)
        obtain ⟨A3, c3, rfl, in3⟩ := In.of_own bc_len own3 (by simp only [List.length_append]; omega)
        have O3 := Lib.hid (own_base own3 hbz)
        have B3 := Lib.hid (BR.out.step hb3)
        have L3 : (acc ++ num a.req).length ≤ b.length + 7 * 3 := by rw [List.length_append]; omega
        have N3 : Hid (acc ++ num a.req = b ++ pre4 a 3) := by show _ = _; rw [N.out]; simp [pre4]
        clear own3 hb3 O N BR
        go_roundw
        case rel => exact ⟨3, acc ++ num a.req, A3, c3, by omega, rfl, by first | rfl | (rw [List.length_append]), L3, in3, fun _ => by first | exact O3.out | simpa using O3.out, N3, B3⟩
        case measure => simp [intOf]
      · have hn := (num_len a.code).2
        go_wp2_with (go_at_call 26; refine (c_octet_Num acc A1 c1 _ _ in1).mono ?_; rintro e w3 ⟨v3, rfl, own3, hb3⟩)
        obtain ⟨A3, c3, rfl, in3⟩ := In.of_own bc_len own3 (by simp only [List.length_append]; omega)
        have O3 := Lib.hid (own_base own3 hbz)
        have B3 := Lib.hid (BR.out.step hb3)
        have L3 : (acc ++ num a.code).length ≤ b.length + 7 * 4 := by rw [List.length_append]; omega
        have N3 : Hid (acc ++ num a.code = b ++ pre4 a 4) := by show _ = _; rw [N.out]; simp [pre4]
        clear own3 hb3 O N BR
        go_roundw
        case rel => exact ⟨4, acc ++ num a.code, A3, c3, by omega, rfl, by first | rfl | (rw [List.length_append]), L3, in3, fun _ => by first | exact O3.out | simpa using O3.out, N3, B3⟩
        case measure => simp [intOf]
      · have O4 := Lib.hid (O.out (by omega))
        have N4 := Lib.hid (N.out.trans (by rw [pre4_all]))
        obtain ⟨hb0, -, -, -⟩ := Rep.ok_iff.1 Hok.out
        have hkb := Rep.base_iff.1 hb0
        have hk4 : 2 ≤ a.kind ∧ a.kind ≤ 4 := ⟨hkb.1, hkb.2.1⟩
        have hnq := (num_len a.seq).2
        have hni := (num_len a.id).2
        have hnv := (num_len a.ver).2
        have hne := (num_len a.epoch).2
        have hnm := (num_len (a.mask : Int)).2
        have hnp := putB_len a.f
        obtain ⟨q0, q1, q2, q3, q4, q5, q6, q7, q8, q9⟩ := BR.out.rep
        clear hb0 hkb O N ix0 ix1 ix2 ix3
        have hcs : a.code ≠ 0 ∨ (a.code = 0 ∧ a.kind = 2) ∨ (a.code = 0 ∧ a.kind = 3) ∨ (a.code = 0 ∧ a.kind = 4) := by omega
        clear hk4
        rcases hcs with h0 | ⟨h0, h1⟩ | ⟨h0, h1⟩ | ⟨h0, h1⟩
        · have j0 : (a.code != 0) = true := by simpa using h0
          have H : Hid (acc = b ++ repB a) := by show _ = _; rw [N4.out, repB_err Hok.out h0]
          clear h0
          go_wp2_with (fail)
          go_ret
          exact RetS.of O4.out (Nat.le_refl _) H.out BR.out.1
        · have j0 : (a.code != 0) = false := by simpa using h0
          have j2 : (a.kind == 2) = true := by simpa using h1
          obtain ⟨l1, hl1⟩ : ∃ l1, l1 = acc ++ num a.seq := ⟨_, rfl⟩
          have hl1n : l1.length ≤ b.length + 35 := by rw [hl1]; simp only [List.length_append]; omega
          have L1 := Lib.hid hl1
          clear hl1
          go_wp2_with (go_at_call 26; refine (c_octet_Num acc A1 c1 _ _ in1).mono ?_; rintro e w3 ⟨v3, rfl, own3, hb3⟩; replace BR := Lib.hid (BR.out.step hb3); clear q0 q1 q2 q3 q4 q5 q6 q7 q8 q9; obtain ⟨q0, q1, q2, q3, q4, q5, q6, q7, q8, q9⟩ := BR.out.rep)
          rw [← L1.out] at own3
          have OB := Lib.hid (own_base own3 hbz)
          clear own3 hb3
          have Bw := Lib.hid BR.out.2
          have hbw := BR.out.1.size
          obtain ⟨l2, hl2⟩ : ∃ l2, l2 = l1 ++ num a.id := ⟨_, rfl⟩
          obtain ⟨l3, hl3⟩ : ∃ l3, l3 = l2 ++ num a.ver := ⟨_, rfl⟩
          have hl2n : l2.length ≤ b.length + 42 := by rw [hl2]; simp only [List.length_append]; omega
          have hl3n : l3.length ≤ b.length + 49 := by rw [hl3]; simp only [List.length_append]; omega
          have L2 := Lib.hid hl2
          have L3 := Lib.hid hl3
          have H : Hid (l3 = b ++ repB a) := by show _ = _; rw [hl3, hl2, L1.out, N4.out, repB_put Hok.out h0 h1]; simp
          clear hl2 hl3 h0 h1 q0 q1 q2 q3 q4 q5 q6 q7 q8 q9
          refine wp_region_rel [Sp.own w.heap.size 5 1 bc l1, Sp.eq (.pointer (some ⟨w.heap.size, 4, none⟩)), Sp.eq (.int .i64 a.id), Sp.own w.heap.size 5 1 bc l2, Sp.eq (.pointer (some ⟨w.heap.size, 5, none⟩)), Sp.eq (.int .i64 a.ver), Sp.own w.heap.size 5 1 bc l3, Sp.own w.heap.size 5 1 bc l3] 61 (by kernel_rfl) (by kernel_rfl) rfl rfl ?_ ?_
          · refine ⟨?_, ?_, ?_, ?_, ?_, ?_, ?_, ?_, trivial⟩
            all_goals (intro u w2 hb2 hd; simp [Deps, Region.binds, Sp.own_holds, Sp.eq_holds] at hd; simp only [putDeps, dstOf, Region.binds])
            case refine_1 =>
              go_wp2_with (fail); exact RelEnd.mk rfl (Below.refl _ _) (own_below OB.out hb2)
            case refine_2 =>
              go_wp2_with (fail); exact RelEnd.mk rfl (Below.refl _ _) rfl
            case refine_3 =>
              have q := (Bw.out.below hb2 Bw.out.lt).cell (show (a.arr A c)[4]? = _ from rfl)
              go_wp2_with (fail); exact RelEnd.mk rfl (Below.refl _ _) rfl
            case refine_4 =>
              have hx := hd.1
              obtain ⟨A4, c4, e4, in4⟩ := In.of_own bc_len hx (by omega)
              go_wp2_with (go_at_call 26; refine (c_octet_Num l1 A4 c4 _ _ in4).mono ?_; rintro e w3 ⟨v3, rfl, own3, hb3⟩)
              rw [← L2.out] at own3
              exact RelEnd.mk rfl hb3 (own_base own3 (Nat.le_trans hbw hb2.size))
            case refine_5 =>
              go_wp2_with (fail); exact RelEnd.mk rfl (Below.refl _ _) rfl
            case refine_6 =>
              have q := (Bw.out.below hb2 Bw.out.lt).cell (show (a.arr A c)[5]? = _ from rfl)
              go_wp2_with (fail); exact RelEnd.mk rfl (Below.refl _ _) rfl
            case refine_7 =>
              have hx := hd.1
              obtain ⟨A4, c4, e4, in4⟩ := In.of_own bc_len hx (by omega)
              go_wp2_with (go_at_call 26; refine (c_octet_Num l2 A4 c4 _ _ in4).mono ?_; rintro e w3 ⟨v3, rfl, own3, hb3⟩)
              rw [← L3.out] at own3
              exact RelEnd.mk rfl hb3 (own_base own3 (Nat.le_trans hbw hb2.size))
            case refine_8 =>
              go_wp2_with (fail); exact RelEnd.mk rfl (Below.refl _ _) hd.1
          · intro u w2 hb2 hold
            simp only [RelHold, Sp.eq_holds, Sp.own_holds] at hold
            obtain ⟨-, -, -, -, -, -, -, hE, -⟩ := hold
            simp only [putAll, Act.put, Nat.reduceAdd, List.setIfInBounds_toArray, List.set_cons_zero, List.set_cons_succ]
            obtain ⟨A5, c5, e5, -⟩ := In.of_own bc_len hE (by omega)
            have B5 := Lib.hid (BR.out.step hb2)
            have OE := Lib.hid hE
            rw [e5] at OE ⊢
            clear hE e5
            go_wp2_with (fail)
            go_ret
            exact RetS.of OE.out (Nat.le_refl _) H.out B5.out.1
        · have j0 : (a.code != 0) = false := by simpa using h0
          have j2 : (a.kind == 2) = false := by simp [h1]
          have j3 : (a.kind == 3) = true := by simpa using h1
          obtain ⟨l1, hl1⟩ : ∃ l1, l1 = acc ++ num a.seq := ⟨_, rfl⟩
          have hl1n : l1.length ≤ b.length + 35 := by rw [hl1]; simp only [List.length_append]; omega
          have L1 := Lib.hid hl1
          clear hl1
          go_wp2_with (go_at_call 26; refine (c_octet_Num acc A1 c1 _ _ in1).mono ?_; rintro e w3 ⟨v3, rfl, own3, hb3⟩; replace BR := Lib.hid (BR.out.step hb3); clear q0 q1 q2 q3 q4 q5 q6 q7 q8 q9; obtain ⟨q0, q1, q2, q3, q4, q5, q6, q7, q8, q9⟩ := BR.out.rep)
          rw [← L1.out] at own3
          have OB := Lib.hid (own_base own3 hbz)
          clear own3 hb3
          have Bw := Lib.hid BR.out.2
          have hbw := BR.out.1.size
          have HIw := Lib.hid (HI.out.below BR.out.1)
          obtain ⟨l2, hl2⟩ : ∃ l2, l2 = l1 ++ num a.epoch := ⟨_, rfl⟩
          obtain ⟨l3, hl3⟩ : ∃ l3, l3 = l2 ++ putB a.f := ⟨_, rfl⟩
          obtain ⟨l4, hl4⟩ : ∃ l4, l4 = l3 ++ num a.mask := ⟨_, rfl⟩
          have hl2n : l2.length ≤ b.length + 42 := by rw [hl2]; simp only [List.length_append]; omega
          have hl3n : l3.length ≤ b.length + 1661 := by rw [hl3]; simp only [List.length_append]; omega
          have hl4n : l4.length ≤ b.length + 1668 := by rw [hl4]; simp only [List.length_append]; omega
          have L2 := Lib.hid hl2
          have L3 := Lib.hid hl3
          have L4 := Lib.hid hl4
          have H : Hid (l4 = b ++ repB a) := by show _ = _; rw [hl4, hl3, hl2, L1.out, N4.out, repB_sub Hok.out h0 h1]; simp
          clear hl2 hl3 hl4 h0 h1 q0 q1 q2 q3 q4 q5 q6 q7 q8 q9
          refine wp_region_rel [Sp.own w.heap.size 5 1 bc l1, Sp.eq (.pointer (some ⟨w.heap.size, 7, none⟩)), Sp.eq (.int .i64 a.epoch), Sp.own w.heap.size 5 1 bc l2, Sp.eq (.pointer (some ⟨w.heap.size, 8, none⟩)), Sp.eq (.slice A a.f.length c), Sp.own w.heap.size 5 1 bc l3, Sp.eq (.pointer (some ⟨w.heap.size, 9, none⟩)), Sp.eq (.int .u32 a.mask), Sp.eq (.int .i64 a.mask), Sp.own w.heap.size 5 1 bc l4, Sp.own w.heap.size 5 1 bc l4] 61 (by kernel_rfl) (by kernel_rfl) rfl rfl ?_ ?_
          · refine ⟨?_, ?_, ?_, ?_, ?_, ?_, ?_, ?_, ?_, ?_, ?_, ?_, trivial⟩
            all_goals (intro u w2 hb2 hd; simp [Deps, Region.binds, Sp.own_holds, Sp.eq_holds] at hd; simp only [putDeps, dstOf, Region.binds])
            case refine_1 =>
              go_wp2_with (fail); exact RelEnd.mk rfl (Below.refl _ _) (own_below OB.out hb2)
            case refine_2 =>
              go_wp2_with (fail); exact RelEnd.mk rfl (Below.refl _ _) rfl
            case refine_3 =>
              have q := (Bw.out.below hb2 Bw.out.lt).cell (show (a.arr A c)[7]? = _ from rfl)
              go_wp2_with (fail); exact RelEnd.mk rfl (Below.refl _ _) rfl
            case refine_4 =>
              have hx := hd.1
              obtain ⟨A4, c4, e4, in4⟩ := In.of_own bc_len hx (by omega)
              go_wp2_with (go_at_call 26; refine (c_octet_Num l1 A4 c4 _ _ in4).mono ?_; rintro e w3 ⟨v3, rfl, own3, hb3⟩)
              rw [← L2.out] at own3
              exact RelEnd.mk rfl hb3 (own_base own3 (Nat.le_trans hbw hb2.size))
            case refine_5 =>
              go_wp2_with (fail); exact RelEnd.mk rfl (Below.refl _ _) rfl
            case refine_6 =>
              have q := (Bw.out.below hb2 Bw.out.lt).cell (show (a.arr A c)[8]? = _ from rfl)
              go_wp2_with (fail); exact RelEnd.mk rfl (Below.refl _ _) rfl
            case refine_7 =>
              have hx := hd.1
              obtain ⟨A4, c4, e4, in4⟩ := In.of_own bc_len hx (by omega)
              go_wp2_with (go_at_call 39; refine (c_predwire_Put l2 A4 c4 a.f A c _ in4 (HIw.out.below hb2) (by omega) Hs.out).mono ?_; rintro e w3 ⟨v3, rfl, own3, hb3⟩)
              rw [← L3.out] at own3
              exact RelEnd.mk rfl hb3 (own_base own3 (Nat.le_trans hbw hb2.size))
            case refine_8 =>
              go_wp2_with (fail); exact RelEnd.mk rfl (Below.refl _ _) rfl
            case refine_9 =>
              have q := (Bw.out.below hb2 Bw.out.lt).cell (show (a.arr A c)[9]? = _ from rfl)
              go_wp2_with (fail); exact RelEnd.mk rfl (Below.refl _ _) rfl
            case refine_10 =>
              go_wp2_with (fail); exact RelEnd.mk rfl (Below.refl _ _) rfl
            case refine_11 =>
              have hx := hd.1
              obtain ⟨A4, c4, e4, in4⟩ := In.of_own bc_len hx (by omega)
              go_wp2_with (go_at_call 26; refine (c_octet_Num l3 A4 c4 _ _ in4).mono ?_; rintro e w3 ⟨v3, rfl, own3, hb3⟩)
              rw [← L4.out] at own3
              exact RelEnd.mk rfl hb3 (own_base own3 (Nat.le_trans hbw hb2.size))
            case refine_12 =>
              go_wp2_with (fail); exact RelEnd.mk rfl (Below.refl _ _) hd.1
          · intro u w2 hb2 hold
            simp only [RelHold, Sp.eq_holds, Sp.own_holds] at hold
            obtain ⟨-, -, -, -, -, -, -, -, -, -, -, hE, -⟩ := hold
            simp only [putAll, Act.put, Nat.reduceAdd, List.setIfInBounds_toArray, List.set_cons_zero, List.set_cons_succ]
            obtain ⟨A5, c5, e5, -⟩ := In.of_own bc_len hE (by omega)
            have B5 := Lib.hid (BR.out.step hb2)
            have OE := Lib.hid hE
            rw [e5] at OE ⊢
            clear hE e5
            go_wp2_with (fail)
            go_ret
            exact RetS.of OE.out (Nat.le_refl _) H.out B5.out.1
        · have j0 : (a.code != 0) = false := by simpa using h0
          have j2 : (a.kind == 2) = false := by simp [h1]
          have j3 : (a.kind == 3) = false := by simp [h1]
          have hfin : Hid (acc ++ num a.seq = b ++ repB a) := by show _ = _; rw [N4.out, repB_leave Hok.out h0 h1]; simp
          obtain ⟨l1, hl1⟩ : ∃ l1, l1 = acc ++ num a.seq := ⟨_, rfl⟩
          have hl1n : l1.length ≤ b.length + 35 := by rw [hl1]; simp only [List.length_append]; omega
          have L1 := Lib.hid hl1
          clear hl1
          go_wp2_with (go_at_call 26; refine (c_octet_Num acc A1 c1 _ _ in1).mono ?_; rintro e w3 ⟨v3, rfl, own3, hb3⟩; replace BR := Lib.hid (BR.out.step hb3); clear q0 q1 q2 q3 q4 q5 q6 q7 q8 q9; obtain ⟨q0, q1, q2, q3, q4, q5, q6, q7, q8, q9⟩ := BR.out.rep)
          rw [← L1.out] at own3
          have OB := Lib.hid (own_base own3 hbz)
          clear own3 hb3
          obtain ⟨A5, c5, rfl, -⟩ := own_form OB.out
          have H : Hid (l1 = b ++ repB a) := by show _ = _; rw [L1.out, hfin.out]
          clear h0 h1
          go_wp2_with (fail)
          go_ret
          exact RetS.of OB.out (Nat.le_refl _) H.out BR.out.1
end Go.Proofs.Ytplipddgeanajaa
/-! W30d -/
namespace Go.Proofs.Ytplipddgeanajaa
open Go.RowKit

set_option maxHeartbeats 4000000 in
set_option maxRecDepth 4000 in
theorem c_ref30_Put (a : Rep) (A : Option Addr) (c : Nat) (w : World) (h : InN w A c a.f) (hs : ∀ x ∈ a.f, x.v.s.length ≤ 4294967000) (hm : a.mask < 4294967296) :
    Calls Try.prog 14 #[.agg (a.arr A c)] w (RetV w (.string (str (repB a)))) := by
  have Hs := Lib.hid hs
  have HI := Lib.hid h
  have B0 := Lib.hid (At.new w 37 (a.arr A c))
  clear hs h
  cases hok : a.ok
  case false =>
    have H : Hid (([] : List UInt8) = repB a) := by show _ = _; rw [repB_bad hok]
    go_enter Try.func14, Try.ntmps14
    go_wp2_with (with_reducible refine stop_load 37 (.tmp 1) rfl rfl ?_)
    refine Stop.mk (wpList_loadB rfl _ _ rfl w.heap.size rfl _ B0.out.2 strRp rfl ?_)
    go_wp2_with (fail)
    refine (c_ref30_Check a A c _ (HI.out.below B0.out.1) Hs.out hm).mono ?_
    rintro e w1 ⟨rfl, hb1⟩
    replace B0 := Lib.hid (B0.out.step hb1)
    go_wp2_with (fail)
    go_ret
    exact RetV.str H.out B0.out.1
  case true =>
    have Hok := Lib.hid hok
    obtain ⟨hb0, -, -, -⟩ := Rep.ok_iff.1 hok
    have hkb := Rep.base_iff.1 hb0
    have hcs : a.code ≠ 0 ∨ (a.code = 0 ∧ a.kind = 2) ∨ (a.code = 0 ∧ a.kind = 3) ∨ (a.code = 0 ∧ a.kind = 4) := by omega
    have hn0 := (num_len a.kind).2
    have hn1 := (num_len a.dev).2
    have hn2 := (num_len a.req).2
    have hn3 := (num_len a.code).2
    have hnq := (num_len a.seq).2
    have hni := (num_len a.id).2
    have hnv := (num_len a.ver).2
    have hne := (num_len a.epoch).2
    have hnm := (num_len (a.mask : Int)).2
    have hnp := putB_len a.f
    clear hb0 hkb
    go_enter Try.func14, Try.ntmps14
    go_wp2_with (with_reducible refine stop_load 37 (.tmp 1) rfl rfl ?_)
    refine Stop.mk (wpList_loadB rfl _ _ rfl w.heap.size rfl _ B0.out.2 strRp rfl ?_)
    go_wp2_with (fail)
    refine (c_ref30_Check a A c _ (HI.out.below B0.out.1) Hs.out hm).mono ?_
    rintro e w1 ⟨rfl, hb2⟩
    replace B0 := Lib.hid (B0.out.step hb2)
    obtain ⟨q0, q1, q2, q3, q4, q5, q6, q7, q8, q9⟩ := B0.out.rep
    have hlt := B0.out.2.lt
    clear hb2
    have b0 : ¬ 9223372036854775807 < (num a.kind).length + (num a.dev).length := (by omega); have b1 : ¬ 9223372036854775807 < (num a.kind).length + (num a.dev).length + (num a.req).length := (by omega); have b2 : ¬ 9223372036854775807 < (num a.kind).length + ((num a.dev).length + (num a.req).length) := (by omega); have b3 : ¬ 9223372036854775807 < (num a.kind).length + (num a.dev).length + (num a.req).length + (num a.code).length := (by omega); have b4 : ¬ 9223372036854775807 < (num a.kind).length + ((num a.dev).length + (num a.req).length) + (num a.code).length := (by omega); have b5 : ¬ 9223372036854775807 < (num a.kind).length + ((num a.dev).length + ((num a.req).length + (num a.code).length)) := (by omega)
    go_wp2_with (fail)
    refine wp_region_grow (by kernel_rfl) (by kernel_rfl) ?_
    repeat (quiet_step ((first | (go_at_call 29; exact quiet_grow (c_ref01_Num _ _)) | (go_at_call 40; exact quiet_grow (c_ref16_Put a.f A c _ ((HI.out.below B0.out.1).grow _) Hs.out)))))
    refine wpQuiet_nil ?_
    clear b0 b1 b2 b3 b4 b5
    intro w2 hb2
    replace B0 := Lib.hid (B0.out.step hb2); clear q0 q1 q2 q3 q4 q5 q6 q7 q8 q9 hb2; obtain ⟨q0, q1, q2, q3, q4, q5, q6, q7, q8, q9⟩ := B0.out.rep; have hlt := B0.out.2.lt
    rcases hcs with h0 | ⟨h0, h1⟩ | ⟨h0, h1⟩ | ⟨h0, h1⟩
    · have j0 : (a.code != 0) = true := by simpa using h0
      have H : Hid (repB a = num a.kind ++ (num a.dev ++ (num a.req ++ num a.code))) := repB_err Hok.out h0
      clear h0
      go_wp2_with (fail)
      go_ret
      exact RetV.str (by first | (rw [H.out]; done) | (rw [H.out]; simp)) B0.out.1
    · have j0 : (a.code != 0) = false := by simpa using h0
      have j2 : (a.kind == 2) = true := by simpa using h1
      have j3 : (a.kind == 3) = false := by simp [h1]
      have H : Hid (repB a = _) := repB_put Hok.out h0 h1
      clear h0 h1
      have b0 : ¬ 9223372036854775807 < (num a.kind).length + (num a.dev).length + (num a.req).length + (num a.code).length + (num a.seq).length := (by omega); have b1 : ¬ 9223372036854775807 < (num a.kind).length + ((num a.dev).length + ((num a.req).length + (num a.code).length)) + (num a.seq).length := (by omega); have b2 : ¬ 9223372036854775807 < (num a.kind).length + ((num a.dev).length + ((num a.req).length + ((num a.code).length + (num a.seq).length))) := (by omega)
      go_wp2_with (go_at_call 29; refine (c_ref01_Num _ _).mono ?_; rintro e w3 ⟨rfl, hb2⟩; replace B0 := Lib.hid (B0.out.step hb2); clear q0 q1 q2 q3 q4 q5 q6 q7 q8 q9 hb2; obtain ⟨q0, q1, q2, q3, q4, q5, q6, q7, q8, q9⟩ := B0.out.rep; have hlt := B0.out.2.lt)
      clear b0 b1 b2
      have b0 : ¬ 9223372036854775807 < (num a.kind).length + (num a.dev).length + (num a.req).length + (num a.code).length + (num a.seq).length + (num a.id).length := (by omega); have b1 : ¬ 9223372036854775807 < (num a.kind).length + ((num a.dev).length + ((num a.req).length + ((num a.code).length + (num a.seq).length))) + (num a.id).length := (by omega); have b2 : ¬ 9223372036854775807 < (num a.kind).length + ((num a.dev).length + ((num a.req).length + ((num a.code).length + ((num a.seq).length + (num a.id).length)))) := (by omega); have b3 : ¬ 9223372036854775807 < (num a.kind).length + (num a.dev).length + (num a.req).length + (num a.code).length + (num a.seq).length + (num a.id).length + (num a.ver).length := (by omega); have b4 : ¬ 9223372036854775807 < (num a.kind).length + ((num a.dev).length + ((num a.req).length + ((num a.code).length + ((num a.seq).length + (num a.id).length)))) + (num a.ver).length := (by omega); have b5 : ¬ 9223372036854775807 < (num a.kind).length + ((num a.dev).length + ((num a.req).length + ((num a.code).length + ((num a.seq).length + ((num a.id).length + (num a.ver).length))))) := (by omega)
      refine wp_region_grow (by kernel_rfl) (by kernel_rfl) ?_
      repeat (quiet_step ((first | (go_at_call 29; exact quiet_grow (c_ref01_Num _ _)) | (go_at_call 40; exact quiet_grow (c_ref16_Put a.f A c _ ((HI.out.below B0.out.1).grow _) Hs.out)))))
      refine wpQuiet_nil ?_
      intro w4 hb2
      replace B0 := Lib.hid (B0.out.step hb2); clear q0 q1 q2 q3 q4 q5 q6 q7 q8 q9 hb2; obtain ⟨q0, q1, q2, q3, q4, q5, q6, q7, q8, q9⟩ := B0.out.rep; have hlt := B0.out.2.lt
      go_wp2_with (fail)
      go_ret
      exact RetV.str (by first | (rw [H.out]; done) | (rw [H.out]; simp)) B0.out.1
    · have j0 : (a.code != 0) = false := by simpa using h0
      have j2 : (a.kind == 2) = false := by simp [h1]
      have j3 : (a.kind == 3) = true := by simpa using h1
      have H : Hid (repB a = _) := repB_sub Hok.out h0 h1
      clear h0 h1
      have b0 : ¬ 9223372036854775807 < (num a.kind).length + (num a.dev).length + (num a.req).length + (num a.code).length + (num a.seq).length := (by omega); have b1 : ¬ 9223372036854775807 < (num a.kind).length + ((num a.dev).length + ((num a.req).length + (num a.code).length)) + (num a.seq).length := (by omega); have b2 : ¬ 9223372036854775807 < (num a.kind).length + ((num a.dev).length + ((num a.req).length + ((num a.code).length + (num a.seq).length))) := (by omega)
      go_wp2_with (go_at_call 29; refine (c_ref01_Num _ _).mono ?_; rintro e w3 ⟨rfl, hb2⟩; replace B0 := Lib.hid (B0.out.step hb2); clear q0 q1 q2 q3 q4 q5 q6 q7 q8 q9 hb2; obtain ⟨q0, q1, q2, q3, q4, q5, q6, q7, q8, q9⟩ := B0.out.rep; have hlt := B0.out.2.lt)
      clear b0 b1 b2
      have b0 : ¬ 9223372036854775807 < (num a.kind).length + (num a.dev).length + (num a.req).length + (num a.code).length + (num a.seq).length + (num a.epoch).length := (by omega); have b1 : ¬ 9223372036854775807 < (num a.kind).length + ((num a.dev).length + ((num a.req).length + ((num a.code).length + (num a.seq).length))) + (num a.epoch).length := (by omega); have b2 : ¬ 9223372036854775807 < (num a.kind).length + ((num a.dev).length + ((num a.req).length + ((num a.code).length + ((num a.seq).length + (num a.epoch).length)))) := (by omega); have b3 : ¬ 9223372036854775807 < (num a.kind).length + (num a.dev).length + (num a.req).length + (num a.code).length + (num a.seq).length + (num a.epoch).length + (putB a.f).length := (by omega); have b4 : ¬ 9223372036854775807 < (num a.kind).length + ((num a.dev).length + ((num a.req).length + ((num a.code).length + ((num a.seq).length + (num a.epoch).length)))) + (putB a.f).length := (by omega); have b5 : ¬ 9223372036854775807 < (num a.kind).length + ((num a.dev).length + ((num a.req).length + ((num a.code).length + ((num a.seq).length + ((num a.epoch).length + (putB a.f).length))))) := (by omega); have b6 : ¬ 9223372036854775807 < (num a.kind).length + (num a.dev).length + (num a.req).length + (num a.code).length + (num a.seq).length + (num a.epoch).length + (putB a.f).length + (num (a.mask : Int)).length := (by omega); have b7 : ¬ 9223372036854775807 < (num a.kind).length + ((num a.dev).length + ((num a.req).length + ((num a.code).length + ((num a.seq).length + ((num a.epoch).length + (putB a.f).length))))) + (num (a.mask : Int)).length := (by omega); have b8 : ¬ 9223372036854775807 < (num a.kind).length + ((num a.dev).length + ((num a.req).length + ((num a.code).length + ((num a.seq).length + ((num a.epoch).length + ((putB a.f).length + (num (a.mask : Int)).length)))))) := (by omega)
      have kw : IntKind.i64.wrap (a.mask : Int) = a.mask := IntWalk.i64_in _ (by omega)
      refine wp_region_grow (by kernel_rfl) (by kernel_rfl) ?_
      repeat (quiet_step ((first | (go_at_call 29; exact quiet_grow (c_ref01_Num _ _)) | (go_at_call 40; exact quiet_grow (c_ref16_Put a.f A c _ ((HI.out.below B0.out.1).grow _) Hs.out)))))
      refine wpQuiet_nil ?_
      intro w4 hb2
      replace B0 := Lib.hid (B0.out.step hb2); clear q0 q1 q2 q3 q4 q5 q6 q7 q8 q9 hb2; obtain ⟨q0, q1, q2, q3, q4, q5, q6, q7, q8, q9⟩ := B0.out.rep; have hlt := B0.out.2.lt
      go_wp2_with (fail)
      go_ret
      exact RetV.str (by first | (rw [H.out]; done) | (rw [H.out]; simp)) B0.out.1
    · have j0 : (a.code != 0) = false := by simpa using h0
      have j2 : (a.kind == 2) = false := by simp [h1]
      have j3 : (a.kind == 3) = false := by simp [h1]
      have H : Hid (repB a = _) := repB_leave Hok.out h0 h1
      clear h0 h1
      have b0 : ¬ 9223372036854775807 < (num a.kind).length + (num a.dev).length + (num a.req).length + (num a.code).length + (num a.seq).length := (by omega); have b1 : ¬ 9223372036854775807 < (num a.kind).length + ((num a.dev).length + ((num a.req).length + (num a.code).length)) + (num a.seq).length := (by omega); have b2 : ¬ 9223372036854775807 < (num a.kind).length + ((num a.dev).length + ((num a.req).length + ((num a.code).length + (num a.seq).length))) := (by omega)
      go_wp2_with (go_at_call 29; refine (c_ref01_Num _ _).mono ?_; rintro e w3 ⟨rfl, hb2⟩; replace B0 := Lib.hid (B0.out.step hb2); clear q0 q1 q2 q3 q4 q5 q6 q7 q8 q9 hb2; obtain ⟨q0, q1, q2, q3, q4, q5, q6, q7, q8, q9⟩ := B0.out.rep; have hlt := B0.out.2.lt)
      go_ret
      exact RetV.str (by first | (rw [H.out]; done) | (rw [H.out]; simp)) B0.out.1
end Go.Proofs.Ytplipddgeanajaa
/-! W30e -/
namespace Go.Proofs.Ytplipddgeanajaa
open Go.RowKit

/-- A world behind the making of two blocks, in which they are as they were made. -/
def At2 (w w' : World) (cs ds : Array Value) : Prop := Below w.heap.size w w' ∧ Blk w' w.heap.size cs ∧ Blk w' (w.heap.size + 1) ds
theorem At2.new (w : World) (s t : TypeId) (cs ds : Array Value) : At2 w ((w.alloc (.cells cs s)).alloc (.cells ds t)) cs ds := by
  have h := (At.new w s cs).alloc (.cells ds t)
  refine ⟨h.1, h.2, ?_⟩
  have := Blk.new (w.alloc (.cells cs s)) t ds
  simpa using this
theorem At2.step {w w1 w2 : World} {cs ds : Array Value} (h : At2 w w1 cs ds) (hb : Below w1.heap.size w1 w2) : At2 w w2 cs ds := ⟨h.1.trans (hb.mono h.1.size), h.2.1.below hb h.2.1.lt, h.2.2.below hb h.2.2.lt⟩
theorem rep_cells {w : World} {g : Nat} {a : Rep} {A : Option Addr} {c : Nat} (h : Blk w g (a.arr A c)) :
    w.cell? ⟨g, 0, none⟩ = some (.int .i64 a.kind) ∧ w.cell? ⟨g, 1, none⟩ = some (.int .i64 a.dev) ∧ w.cell? ⟨g, 2, none⟩ = some (.int .i64 a.req) ∧ w.cell? ⟨g, 3, none⟩ = some (.int .i64 a.code) ∧
    w.cell? ⟨g, 4, none⟩ = some (.int .i64 a.id) ∧ w.cell? ⟨g, 5, none⟩ = some (.int .i64 a.ver) ∧ w.cell? ⟨g, 6, none⟩ = some (.int .i64 a.seq) ∧ w.cell? ⟨g, 7, none⟩ = some (.int .i64 a.epoch) ∧
    w.cell? ⟨g, 8, none⟩ = some (.slice A a.f.length c) ∧ w.cell? ⟨g, 9, none⟩ = some (.int .u32 a.mask) :=
  ⟨h.cell rfl, h.cell rfl, h.cell rfl, h.cell rfl, h.cell rfl, h.cell rfl, h.cell rfl, h.cell rfl, h.cell rfl, h.cell rfl⟩
theorem rep_eq {a b : Rep} : decide (a = b) = ((a.kind == b.kind) && ((a.dev == b.dev) && ((a.req == b.req) && ((a.code == b.code) && ((a.id == b.id) && ((a.ver == b.ver) && ((a.seq == b.seq) && ((a.epoch == b.epoch) && (decide (a.f = b.f) && ((a.mask : Int) == (b.mask : Int))))))))))) := by
  rw [Bool.eq_iff_iff]
  obtain ⟨a0, a1, a2, a3, a4, a5, a6, a7, a8, a9⟩ := a
  obtain ⟨b0, b1, b2, b3, b4, b5, b6, b7, b8, b9⟩ := b
  simp only [decide_eq_true_eq, Rep.mk.injEq, Bool.and_eq_true, beq_iff_eq, Int.natCast_inj]
set_option maxHeartbeats 4000000 in
set_option maxRecDepth 4000 in
theorem c_ledger_Same (a b : Rep) (A B : Option Addr) (c d : Nat) (w : World) (ha : InN w A c a.f) (hb : InN w B d b.f) :
    Calls Try.prog 15 #[.agg (a.arr A c), .agg (b.arr B d)] w (RetV w (.bool (decide (a = b)))) := by
  have B0 := Lib.hid (At2.new w 37 37 (a.arr A c) (b.arr B d))
  obtain ⟨p0, p1, p2, p3, p4, p5, p6, p7, p8, p9⟩ := rep_cells B0.out.2.1; obtain ⟨q0, q1, q2, q3, q4, q5, q6, q7, q8, q9⟩ := rep_cells B0.out.2.2
  have HA := Lib.hid ha
  have HB := Lib.hid hb
  have E := Lib.hid (rep_eq (a := a) (b := b))
  clear ha hb
  by_cases hf : a.f = b.f
  · have F := Lib.hid (show decide (a.f = b.f) = true by simpa using hf)
    have C := Lib.hid ((cmpL_zero a.f b.f).2 hf)
    clear hf
    go_enter Try.func15, Try.ntmps15
    go_wp2_with (go_at_call 41; refine (c_pred_Compare a.f b.f A B c d _ (HA.out.below B0.out.1) (HB.out.below B0.out.1)).mono ?_; rintro e w1 ⟨rfl, hb1⟩; rw [C.out]; replace B0 := Lib.hid (B0.out.step hb1); clear p0 p1 p2 p3 p4 p5 p6 p7 p8 p9 q0 q1 q2 q3 q4 q5 q6 q7 q8 q9 hb1; obtain ⟨p0, p1, p2, p3, p4, p5, p6, p7, p8, p9⟩ := rep_cells B0.out.2.1; obtain ⟨q0, q1, q2, q3, q4, q5, q6, q7, q8, q9⟩ := rep_cells B0.out.2.2)
    all_goals
      go_ret
      refine RetV.bool ?_ B0.out.1
      rw [E.out, F.out]
      simp [*]
  · have E2 := Lib.hid (show decide (a = b) = false by simp only [decide_eq_false_iff_not]; intro h; exact hf (by rw [h]))
    have k : (cmpL a.f b.f != 0) = true := by simp only [bne_iff_ne, ne_eq, cmpL_zero]; exact hf
    clear hf
    go_enter Try.func15, Try.ntmps15
    go_wp2_with (go_at_call 41; refine (c_pred_Compare a.f b.f A B c d _ (HA.out.below B0.out.1) (HB.out.below B0.out.1)).mono ?_; rintro e w1 ⟨rfl, hb1⟩; replace B0 := Lib.hid (B0.out.step hb1); clear p0 p1 p2 p3 p4 p5 p6 p7 p8 p9 q0 q1 q2 q3 q4 q5 q6 q7 q8 q9 hb1; obtain ⟨p0, p1, p2, p3, p4, p5, p6, p7, p8, p9⟩ := rep_cells B0.out.2.1; obtain ⟨q0, q1, q2, q3, q4, q5, q6, q7, q8, q9⟩ := rep_cells B0.out.2.2)
    go_ret
    refine RetV.bool ?_ B0.out.1
    rw [E2.out]
set_option maxHeartbeats 4000000 in
set_option maxRecDepth 4000 in
theorem c_ref30_Same (a b : Rep) (A B : Option Addr) (c d : Nat) (w : World) (ha : InN w A c a.f) (hb : InN w B d b.f) :
    Calls Try.prog 16 #[.agg (a.arr A c), .agg (b.arr B d)] w (RetV w (.bool (decide (a = b)))) := by
  have B0 := Lib.hid (At2.new w 37 37 (a.arr A c) (b.arr B d))
  obtain ⟨p0, p1, p2, p3, p4, p5, p6, p7, p8, p9⟩ := rep_cells B0.out.2.1; obtain ⟨q0, q1, q2, q3, q4, q5, q6, q7, q8, q9⟩ := rep_cells B0.out.2.2
  have HA := Lib.hid ha
  have HB := Lib.hid hb
  have E := Lib.hid (rep_eq (a := a) (b := b))
  clear ha hb
  go_enter Try.func16, Try.ntmps16
  go_wp2_with (go_at_call 42; refine (c_ref10_Same a.f b.f A B c d _ (HA.out.below B0.out.1) (HB.out.below B0.out.1)).mono ?_; rintro e w1 ⟨rfl, hb1⟩; replace B0 := Lib.hid (B0.out.step hb1); clear p0 p1 p2 p3 p4 p5 p6 p7 p8 p9 q0 q1 q2 q3 q4 q5 q6 q7 q8 q9 hb1; obtain ⟨p0, p1, p2, p3, p4, p5, p6, p7, p8, p9⟩ := rep_cells B0.out.2.1; obtain ⟨q0, q1, q2, q3, q4, q5, q6, q7, q8, q9⟩ := rep_cells B0.out.2.2)
  all_goals
    go_ret
    refine RetV.bool ?_ B0.out.1
    rw [E.out]
    simp [*]
set_option maxHeartbeats 1000000 in
theorem c_ledger_above (p : Option Nat) (st : Rd) (least most : Int) (w : World) (r : RdP w p st) : Calls Try.prog 43 #[ptr p, .int .i64 least, .int .i64 most] w (RetP p (rdLe' st least most) w (.int .i64 (rdN st most))) := by
  by_cases h0 : rdN st most < least
  · rw [rdLe'_low h0]
    have k : decide (rdN st most < least) = true := by simpa using h0
    clear h0
    go_enter Try.func43, Try.ntmps43
    go_wp2_with (fail)
    refine (c_octet_RNum p st most _ r).mono ?_
    rintro e w1 ⟨rfl, hr1, hk1⟩
    have hz1 := hk1.size
    go_wp2_with (fail)
    refine (c_octet_Fail p _ 3 _ hr1).mono ?_
    rintro e w2 ⟨rfl, hr2, hk2⟩
    have hz2 := hk2.size
    go_wp2_with (fail)
    go_ret
    exact ⟨rfl, hr2, (by repeat (first | exact Kept.refl _ _ _ | refine Kept.drew ?_ | refine Kept.alloc ?_ (by first | omega | (simp; done) | (simp; omega)) _ | refine Kept.setCell ?_ (by first | (right; rfl) | (left; first | omega | (simp; done) | (simp; omega))) _ | refine Kept.then_kept ?_ (by assumption) (by first | omega | (simp; done) | (simp; omega)) | refine Kept.then_below ?_ (by assumption) (by first | omega | (simp; done) | (simp; omega)) | refine Kept.low ?_ (by assumption)))⟩
  · rw [rdLe'_high (by omega)]
    have k : decide (rdN st most < least) = false := by simpa using h0
    clear h0
    go_enter Try.func43, Try.ntmps43
    go_wp2_with (fail)
    refine (c_octet_RNum p st most _ r).mono ?_
    rintro e w1 ⟨rfl, hr1, hk1⟩
    have hz1 := hk1.size
    go_wp2_with (fail)
    go_ret
    exact ⟨rfl, hr1, (by repeat (first | exact Kept.refl _ _ _ | refine Kept.drew ?_ | refine Kept.alloc ?_ (by first | omega | (simp; done) | (simp; omega)) _ | refine Kept.setCell ?_ (by first | (right; rfl) | (left; first | omega | (simp; done) | (simp; omega))) _ | refine Kept.then_kept ?_ (by assumption) (by first | omega | (simp; done) | (simp; omega)) | refine Kept.then_below ?_ (by assumption) (by first | omega | (simp; done) | (simp; omega)) | refine Kept.low ?_ (by assumption)))⟩
end Go.Proofs.Ytplipddgeanajaa
