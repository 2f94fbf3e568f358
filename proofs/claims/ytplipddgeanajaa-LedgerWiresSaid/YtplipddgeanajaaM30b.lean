/-
  Env, W19v, W30f, W30g, Relt, Relf, W30h, W30i, W30j, W30k, in one text (merge.py).
-/
import Derived.Test.YtplipddgeanajaaStr
import Derived.Test.YtplipddgeanajaaW01e
import Derived.Test.YtplipddgeanajaaRv
import Derived.Test.YtplipddgeanajaaM30a
import Derived.Test.YtplipddgeanajaaW16c
import Derived.Test.YtplipddgeanajaaW16d
import Derived.Test.YtplipddgeanajaaRel
import Derived.Test.YtplipddgeanajaaW10g
import Derived.Test.YtplipddgeanajaaAgg
/-! Env -/
namespace Go.Proofs.Ytplipddgeanajaa
open Go.RowKit

/-- Blocks from number B on, each known whole, no two the same. -/
def Blks (w : World) (B : Nat) : List (Nat × Array Value) → Prop
  | [] => True
  | x :: r => (Blk w x.1 x.2 ∧ B ≤ x.1 ∧ ∀ y ∈ r, y.1 ≠ x.1) ∧ Blks w B r
section
variable {w w' : World} {B : Nat} {l : List (Nat × Array Value)}
theorem Blks.kept {q : Option Nat} (h : Blks w B l) (k : Kept q w.heap.size w w') (hq : ∀ g, q = some g → g < B) : Blks w' B l := by
  induction l with
  | nil => trivial
  | cons x r ih =>
    obtain ⟨⟨h1, h2, h3⟩, h4⟩ := h
    exact ⟨⟨h1.kept k h1.lt (fun e => by have := hq _ e; omega), h2, h3⟩, ih h4⟩
theorem Blks.far {q : Nat} (h : Blks w B l) (k : Kept (some q) w.heap.size w w') (hq : ∀ y ∈ l, y.1 ≠ q) : Blks w' B l := by
  induction l with
  | nil => trivial
  | cons x r ih =>
    obtain ⟨⟨h1, h2, h3⟩, h4⟩ := h
    exact ⟨⟨h1.kept k h1.lt (fun e => by injection e with e; exact hq x (List.mem_cons_self ..) e.symm), h2, h3⟩, ih h4 (fun y hy => hq y (List.mem_cons_of_mem _ hy))⟩
theorem Blks.lt (h : Blks w B l) : ∀ y ∈ l, y.1 < w.heap.size := by
  induction l with
  | nil => intro y hy; cases hy
  | cons x r ih =>
    intro y hy
    rcases List.mem_cons.1 hy with rfl | hy
    · exact h.1.1.lt
    · exact ih h.2 y hy
end
theorem kept_set (w : World) (g off : Nat) (v : Value) : Kept (some g) w.heap.size w (w.setCell ⟨g, off, none⟩ v) := (Kept.refl (some g) _ w).setCell (q := ⟨g, off, none⟩) (.inr rfl) v
/-- The program's reader, and blocks of the call's own. -/
structure EnvP (p : Option Nat) (S : Rd) (w w' : World) (l : List (Nat × Array Value)) : Prop where
  low : ∀ g, p = some g → g < w.heap.size
  kept : Kept p w.heap.size w w'
  rd : RdP w' p S
  blks : Blks w' w.heap.size l
section
variable {p : Option Nat} {S S' : Rd} {w w1 w2 : World} {l : List (Nat × Array Value)} {g g0 : Nat} {cs c0 cs' : Array Value}
theorem EnvP.start (r : RdP w p S) : EnvP p S w w [] := ⟨fun _ hg => r.lt hg, Kept.refl _ _ _, r, trivial⟩
theorem EnvP.size (h : EnvP p S w w1 l) : w.heap.size ≤ w1.heap.size := h.kept.size
theorem EnvP.call (h : EnvP p S w w1 l) (r : RdP w2 p S') (k : Kept p w1.heap.size w1 w2) : EnvP p S' w w2 l :=
  ⟨h.low, h.kept.then_kept k h.size, r, h.blks.kept k h.low⟩
theorem EnvP.below (h : EnvP p S w w1 l) (k : Below w1.heap.size w1 w2) : EnvP p S w w2 l :=
  ⟨h.low, h.kept.then_below k h.size, h.rd.below k, h.blks.kept (q := none) (.of_below k) (fun _ e => by cases e)⟩
theorem EnvP.alloc (h : EnvP p S w w1 l) (t : TypeId) (cs : Array Value) : EnvP p S w (w1.alloc (.cells cs t)) ((w1.heap.size, cs) :: l) := by
  have h' := h.below ((Below.refl _ _).alloc (Nat.le_refl _) (.cells cs t))
  exact ⟨h.low, h'.kept, h'.rd, ⟨Blk.new _ _ _, h.size, fun y hy => by have := h.blks.lt y hy; simp only; omega⟩, h'.blks⟩
theorem EnvP.own (h : EnvP p S w w1 l) (hg : w.heap.size ≤ g) (k : Kept (some g) w1.heap.size w1 w2) : Kept p w.heap.size w w2 ∧ RdP w2 p S :=
  ⟨h.kept.trans (k.one h.size (.inl hg)), h.rd.kept k (fun a b ha hb => by injection hb with hb; have := h.low a ha; omega)⟩
theorem EnvP.put0 (h : EnvP p S w w1 ((g, cs) :: l)) (b : Blk w2 g cs') (k : Kept (some g) w1.heap.size w1 w2) : EnvP p S w w2 ((g, cs') :: l) := by
  obtain ⟨⟨h1, h2, h3⟩, h4⟩ := h.blks
  obtain ⟨a, r⟩ := h.own h2 k
  exact ⟨h.low, a, r, ⟨b, h2, h3⟩, h4.far k h3⟩
theorem EnvP.put1 (h : EnvP p S w w1 ((g0, c0) :: (g, cs) :: l)) (b : Blk w2 g cs') (k : Kept (some g) w1.heap.size w1 w2) : EnvP p S w w2 ((g0, c0) :: (g, cs') :: l) := by
  obtain ⟨⟨a1, a2, a3⟩, ⟨h1, h2, h3⟩, h4⟩ := h.blks
  obtain ⟨a, r⟩ := h.own h2 k
  have hne := a3 (g, cs) (List.mem_cons_self ..)
  refine ⟨h.low, a, r, ⟨a1.kept k a1.lt (fun e => by injection e with e; exact hne e), a2, fun y hy => ?_⟩, ⟨b, h2, h3⟩, h4.far k h3⟩
  rcases List.mem_cons.1 hy with rfl | hy
  · exact hne
  · exact a3 y (List.mem_cons_of_mem _ hy)
theorem EnvP.b0 (h : EnvP p S w w1 ((g, cs) :: l)) : Blk w1 g cs := h.blks.1.1
theorem EnvP.b1 (h : EnvP p S w w1 ((g0, c0) :: (g, cs) :: l)) : Blk w1 g cs := h.blks.2.1.1
theorem EnvP.store0 (h : EnvP p S w w1 ((g, cs) :: l)) (off : Nat) (v : Value) : EnvP p S w (w1.setCell ⟨g, off, none⟩ v) ((g, cs.setIfInBounds off v) :: l) := h.put0 (h.b0.store off v) (kept_set w1 g off v)
theorem EnvP.store1 (h : EnvP p S w w1 ((g0, c0) :: (g, cs) :: l)) (off : Nat) (v : Value) : EnvP p S w (w1.setCell ⟨g, off, none⟩ v) ((g0, c0) :: (g, cs.setIfInBounds off v) :: l) := h.put1 (h.b1.store off v) (kept_set w1 g off v)
theorem EnvP.as (h : EnvP p S w w1 ((g, cs) :: l)) (e : cs = cs') : EnvP p S w w1 ((g, cs') :: l) := e ▸ h
theorem EnvP.state (h : EnvP p S w w1 l) (e : S = S') : EnvP p S' w w1 l := e ▸ h
end
/-- The reference's reader, and blocks of the call's own. -/
structure EnvR (p : Nat) (S : Rd) (w w' : World) (l : List (Nat × Array Value)) : Prop where
  low : p < w.heap.size
  kept : Kept (some p) w.heap.size w w'
  rd : RdR w' p S
  blks : Blks w' w.heap.size l
section
variable {p : Nat} {S S' : Rd} {w w1 w2 : World} {l : List (Nat × Array Value)} {g g0 : Nat} {cs c0 cs' : Array Value}
theorem EnvR.start (r : RdR w p S) : EnvR p S w w [] := ⟨r.lt, Kept.refl _ _ _, r, trivial⟩
theorem EnvR.size (h : EnvR p S w w1 l) : w.heap.size ≤ w1.heap.size := h.kept.size
theorem EnvR.call (h : EnvR p S w w1 l) (r : RdR w2 p S') (k : Kept (some p) w1.heap.size w1 w2) : EnvR p S' w w2 l :=
  ⟨h.low, h.kept.then_kept k h.size, r, h.blks.kept k (fun g e => by injection e with e; have := h.low; omega)⟩
theorem EnvR.below (h : EnvR p S w w1 l) (k : Below w1.heap.size w1 w2) : EnvR p S w w2 l :=
  ⟨h.low, h.kept.then_below k h.size, h.rd.below k, h.blks.kept (q := none) (.of_below k) (fun _ e => by cases e)⟩
theorem EnvR.alloc (h : EnvR p S w w1 l) (t : TypeId) (cs : Array Value) : EnvR p S w (w1.alloc (.cells cs t)) ((w1.heap.size, cs) :: l) := by
  have h' := h.below ((Below.refl _ _).alloc (Nat.le_refl _) (.cells cs t))
  exact ⟨h.low, h'.kept, h'.rd, ⟨Blk.new _ _ _, h.size, fun y hy => by have := h.blks.lt y hy; simp only; omega⟩, h'.blks⟩
theorem EnvR.own (h : EnvR p S w w1 l) (hg : w.heap.size ≤ g) (k : Kept (some g) w1.heap.size w1 w2) : Kept (some p) w.heap.size w w2 ∧ RdR w2 p S :=
  ⟨h.kept.trans (k.one h.size (.inl hg)), h.rd.kept k (fun e => by injection e with e; have := h.low; omega)⟩
theorem EnvR.put0 (h : EnvR p S w w1 ((g, cs) :: l)) (b : Blk w2 g cs') (k : Kept (some g) w1.heap.size w1 w2) : EnvR p S w w2 ((g, cs') :: l) := by
  obtain ⟨⟨h1, h2, h3⟩, h4⟩ := h.blks
  obtain ⟨a, r⟩ := h.own h2 k
  exact ⟨h.low, a, r, ⟨b, h2, h3⟩, h4.far k h3⟩
theorem EnvR.put1 (h : EnvR p S w w1 ((g0, c0) :: (g, cs) :: l)) (b : Blk w2 g cs') (k : Kept (some g) w1.heap.size w1 w2) : EnvR p S w w2 ((g0, c0) :: (g, cs') :: l) := by
  obtain ⟨⟨a1, a2, a3⟩, ⟨h1, h2, h3⟩, h4⟩ := h.blks
  obtain ⟨a, r⟩ := h.own h2 k
  have hne := a3 (g, cs) (List.mem_cons_self ..)
  refine ⟨h.low, a, r, ⟨a1.kept k a1.lt (fun e => by injection e with e; exact hne e), a2, fun y hy => ?_⟩, ⟨b, h2, h3⟩, h4.far k h3⟩
  rcases List.mem_cons.1 hy with rfl | hy
  · exact hne
  · exact a3 y (List.mem_cons_of_mem _ hy)
theorem EnvR.b0 (h : EnvR p S w w1 ((g, cs) :: l)) : Blk w1 g cs := h.blks.1.1
theorem EnvR.b1 (h : EnvR p S w w1 ((g0, c0) :: (g, cs) :: l)) : Blk w1 g cs := h.blks.2.1.1
theorem EnvR.store0 (h : EnvR p S w w1 ((g, cs) :: l)) (off : Nat) (v : Value) : EnvR p S w (w1.setCell ⟨g, off, none⟩ v) ((g, cs.setIfInBounds off v) :: l) := h.put0 (h.b0.store off v) (kept_set w1 g off v)
theorem EnvR.store1 (h : EnvR p S w w1 ((g0, c0) :: (g, cs) :: l)) (off : Nat) (v : Value) : EnvR p S w (w1.setCell ⟨g, off, none⟩ v) ((g0, c0) :: (g, cs.setIfInBounds off v) :: l) := h.put1 (h.b1.store off v) (kept_set w1 g off v)
theorem EnvR.as (h : EnvR p S w w1 ((g, cs) :: l)) (e : cs = cs') : EnvR p S w w1 ((g, cs') :: l) := e ▸ h
theorem EnvR.state (h : EnvR p S w w1 l) (e : S = S') : EnvR p S' w w1 l := e ▸ h
end
end Go.Proofs.Ytplipddgeanajaa
/-! W19v -/
namespace Go.Proofs.Ytplipddgeanajaa
open Go.RowKit

set_option maxHeartbeats 1000000 in
theorem c_ref19_Above (h : Nat) (st : Rd) (most : Int) (w : World) (r : RdR w h st) : Calls Try.prog 48 #[.pointer (some ⟨h, 0, none⟩), .int .i64 most] w (RetR h (rdAb' st most) w (.int .i64 (rdN st most))) := by
  by_cases he : (rdN' st most).e = 0
  · have ke : ((rdN' st most).e == 0) = true := by simpa using he
    by_cases h0 : rdN st most = 0
    · rw [rdAb'_zero h0]
      have k : (rdN st most == 0) = true := by simpa using h0
      clear h0 he
      go_enter Try.func48, Try.ntmps48
      go_wp2_with (fail)
      refine (c_ref01_RNum h st most _ r).mono ?_
      rintro e w1 ⟨rfl, hr1, hk1⟩
      have hz1 := hk1.size
      have hc := hr1.1.cell (i := 1) rfl
      go_wp2_with (fail)
      refine (c_ref01_Fail h (rdN' st most) 3 _ hr1).mono ?_
      rintro e w2 ⟨rfl, hr2, hk2⟩
      have hz2 := hk2.size
      go_wp2_with (fail)
      go_ret
      exact ⟨rfl, hr2, (by repeat (first | exact Kept.refl _ _ _ | refine Kept.drew ?_ | refine Kept.alloc ?_ (by first | omega | (simp; done) | (simp; omega)) _ | refine Kept.setCell ?_ (by first | (right; rfl) | (left; first | omega | (simp; done) | (simp; omega))) _ | refine Kept.then_kept ?_ (by assumption) (by first | omega | (simp; done) | (simp; omega)) | refine Kept.then_below ?_ (by assumption) (by first | omega | (simp; done) | (simp; omega)) | refine Kept.low ?_ (by assumption)))⟩
    · rw [rdAb'_pos h0]
      have k : (rdN st most == 0) = false := by simpa using h0
      clear h0 he
      go_enter Try.func48, Try.ntmps48
      go_wp2_with (fail)
      refine (c_ref01_RNum h st most _ r).mono ?_
      rintro e w1 ⟨rfl, hr1, hk1⟩
      have hz1 := hk1.size
      have hc := hr1.1.cell (i := 1) rfl
      go_wp2_with (fail)
      go_ret
      exact ⟨rfl, hr1, (by repeat (first | exact Kept.refl _ _ _ | refine Kept.drew ?_ | refine Kept.alloc ?_ (by first | omega | (simp; done) | (simp; omega)) _ | refine Kept.setCell ?_ (by first | (right; rfl) | (left; first | omega | (simp; done) | (simp; omega))) _ | refine Kept.then_kept ?_ (by assumption) (by first | omega | (simp; done) | (simp; omega)) | refine Kept.then_below ?_ (by assumption) (by first | omega | (simp; done) | (simp; omega)) | refine Kept.low ?_ (by assumption)))⟩
  · have ke : ((rdN' st most).e == 0) = false := by simpa using he
    rw [rdAb'_zero (rdN_err' he), rdF_err he]
    clear he
    go_enter Try.func48, Try.ntmps48
    go_wp2_with (fail)
    refine (c_ref01_RNum h st most _ r).mono ?_
    rintro e w1 ⟨rfl, hr1, hk1⟩
    have hz1 := hk1.size
    have hc := hr1.1.cell (i := 1) rfl
    go_wp2_with (fail)
    go_ret
    exact ⟨rfl, hr1, (by repeat (first | exact Kept.refl _ _ _ | refine Kept.drew ?_ | refine Kept.alloc ?_ (by first | omega | (simp; done) | (simp; omega)) _ | refine Kept.setCell ?_ (by first | (right; rfl) | (left; first | omega | (simp; done) | (simp; omega))) _ | refine Kept.then_kept ?_ (by assumption) (by first | omega | (simp; done) | (simp; omega)) | refine Kept.then_below ?_ (by assumption) (by first | omega | (simp; done) | (simp; omega)) | refine Kept.low ?_ (by assumption)))⟩
end Go.Proofs.Ytplipddgeanajaa
/-! W30f -/
namespace Go.Proofs.Ytplipddgeanajaa
open Go.RowKit

/-- The end of a call that reads an answer. -/
def RetPA (p : Option Nat) (st' : Rd) (w : World) (a : Rep) (e : Ending) (w' : World) : Prop :=
  ∃ A c, e = .returned (.agg (a.arr A c)) ∧ w'.ownsRow w.heap.size 74 5 (.slice A a.f.length c) a.f.length (a.f.flatMap Node.cells) ∧ RdP w' p st' ∧ Kept p w.heap.size w w'
def RetRA (p : Nat) (st' : Rd) (w : World) (a : Rep) (e : Ending) (w' : World) : Prop :=
  ∃ A c, e = .returned (.agg (a.arr A c)) ∧ w'.ownsRow w.heap.size 74 5 (.slice A a.f.length c) a.f.length (a.f.flatMap Node.cells) ∧ RdR w' p st' ∧ Kept (some p) w.heap.size w w'
theorem u32_id {n : Int} (h0 : 0 ≤ n) (h1 : n < 4294967296) : IntKind.u32.wrap n = n := by simp [IntKind.wrap, IntKind.signed, IntKind.bits]; omega
set_option maxHeartbeats 4000000 in
set_option maxRecDepth 4000 in
theorem ledger_Read_err1 (p : Option Nat) (st : Rd) (w : World) (hr : RdP w p st) (hc : reCode st ≠ 0) (he : (rdRep' st).e = 0) : Calls Try.prog 18 #[ptr p] w (RetPA p (rdRep' st) w (rdRep st)) := by
  obtain ⟨x1, x2⟩ := re_err hc
  rw [rdRep_ok he, x2, x1]
  rw [x1] at he
  clear x1 x2
  obtain ⟨K, hK⟩ : ∃ K, K = reK st := ⟨_, rfl⟩
  obtain ⟨D, hD⟩ : ∃ K, K = rdN (reA st) 5 := ⟨_, rfl⟩
  obtain ⟨R, hR⟩ : ∃ K, K = rdN (reB st) 1099511627776 := ⟨_, rfl⟩
  obtain ⟨C, hC⟩ : ∃ K, K = reCode st := ⟨_, rfl⟩
  have je : ((reD st).e != 0) = false := by simpa using he
  have jc : (C == 0) = false := by rw [hC]; simpa using hc
  have HK := Lib.hid (show K = rdN st 4 from hK)
  have HD := Lib.hid (show D = rdN (reA st) 5 from hD)
  have HR := Lib.hid (show R = rdN (reB st) 1099511627776 from hR)
  have HC := Lib.hid (show C = rdN (reC st) 16 from hC)
  rw [← hK, ← hD, ← hR, ← hC]
  clear hK hD hR hC hc he
  have E := Lib.hid ((EnvP.start hr).alloc 37 (Rep.arr rz none 0))
  clear hr
  go_enter Try.func18, Try.ntmps18
  go_wp2_with (fail)
  refine (c_ledger_above p st 2 4 _ E.out.rd).mono ?_
  rintro e w1 ⟨rfl, hr, hk⟩
  rw [← HK.out]
  replace E := Lib.hid ((E.out.call hr hk).state (show _ = reA st from rfl))
  clear hr hk
  go_wp2_with (with_reducible refine stop_store 37 (.tmp 3) (.tmp 6) rfl rfl ?_)
  refine Stop.mk (wpList_storeB rfl _ _ _ rfl w1.heap.size _ rfl rfl _ (Blk.new _ _ _) strRp rfl rfl (by simp [Value.oneCell']) ?_)
  intro w2 hb2 hk2
  replace E := Lib.hid (((E.out.alloc 37 (Rep.arr rz none 0)).put0 hb2 hk2).as (show _ = Rep.arr ⟨K, 0, 0, 0, 0, 0, 0, 0, [], 0⟩ none 0 from rfl))
  clear hb2 hk2
  have HG0 := Lib.hid (show w1.heap.size < w2.heap.size from E.out.b0.lt)
  obtain ⟨G1, hG1⟩ : ∃ g, g = w1.heap.size := ⟨_, rfl⟩
  rw [← hG1] at E HG0 ⊢
  clear hG1
  go_wp2_with (fail)
  refine (c_octet_RNum p _ 5 _ E.out.rd).mono ?_
  rintro e w3 ⟨rfl, hr, hk⟩
  rw [← HD.out]
  replace E := Lib.hid ((E.out.call hr hk).state (show _ = reB st from rfl))
  clear hr hk
  obtain ⟨u0, u1, u2, u3, u4, u5, u6, u7, u8, u9⟩ := rep_cells E.out.b0
  have ff := fun i => E.out.b0.frozen i
  go_wp2_with (fail)
  clear u0 u1 u2 u3 u4 u5 u6 u7 u8 u9 ff
  replace E := Lib.hid ((E.out.store0 1 (.int .i64 D)).as (show _ = Rep.arr ⟨K, D, 0, 0, 0, 0, 0, 0, [], 0⟩ none 0 from rfl))
  refine (c_ledger_above p _ 1 1099511627776 _ E.out.rd).mono ?_
  rintro e w4 ⟨rfl, hr, hk⟩
  rw [← HR.out]
  replace E := Lib.hid ((E.out.call hr hk).state (show _ = reC st from rdLe'_one _ _))
  clear hr hk
  obtain ⟨u0, u1, u2, u3, u4, u5, u6, u7, u8, u9⟩ := rep_cells E.out.b0
  have ff := fun i => E.out.b0.frozen i
  go_wp2_with (fail)
  clear u0 u1 u2 u3 u4 u5 u6 u7 u8 u9 ff
  replace E := Lib.hid ((E.out.store0 2 (.int .i64 R)).as (show _ = Rep.arr ⟨K, D, R, 0, 0, 0, 0, 0, [], 0⟩ none 0 from rfl))
  refine (c_octet_RNum p _ 16 _ E.out.rd).mono ?_
  rintro e w5 ⟨rfl, hr, hk⟩
  rw [← HC.out]
  replace E := Lib.hid ((E.out.call hr hk).state (show _ = reD st from rfl))
  clear hr hk
  obtain ⟨u0, u1, u2, u3, u4, u5, u6, u7, u8, u9⟩ := rep_cells E.out.b0
  have ff := fun i => E.out.b0.frozen i
  go_wp2_with (fail)
  clear u0 u1 u2 u3 u4 u5 u6 u7 u8 u9 ff
  replace E := Lib.hid ((E.out.store0 3 (.int .i64 C)).as (show _ = Rep.arr ⟨K, D, R, C, 0, 0, 0, 0, [], 0⟩ none 0 from rfl))
  refine (c_octet_Err p _ _ E.out.rd).mono ?_
  rintro e w6 ⟨rfl, hr, hk⟩
  replace E := Lib.hid ((E.out.call hr hk).state (show _ = reD st from rfl))
  clear hr hk
  go_wp2_with (with_reducible refine stop_load 37 (.tmp 3) rfl rfl ?_)
  refine Stop.mk (wpList_loadB rfl _ _ rfl G1 rfl _ E.out.b0 strRp rfl ?_)
  go_wp2_with (with_reducible refine stop_store 37 (.tmp 2) (.tmp 48) rfl rfl ?_)
  refine Stop.mk (wpList_storeB rfl _ _ _ rfl w.heap.size _ rfl rfl _ E.out.b1 strRp rfl rfl (by simp [Value.oneCell']) ?_)
  intro w99 hb99 hk99
  replace E := Lib.hid (E.out.put1 hb99 hk99)
  clear hk99
  go_wp2_with (fail)
  exact bodyPost_ret (results_B rfl rfl hb99 strRp rfl) rfl ⟨none, 0, rfl, World.ownsRow_nil _ _ _ _, E.out.rd, E.out.kept⟩
set_option maxHeartbeats 4000000 in
set_option maxRecDepth 4000 in
theorem ledger_Read_err0 (p : Option Nat) (st : Rd) (w : World) (hr : RdP w p st) (hc : reCode st ≠ 0) (he : (rdRep' st).e ≠ 0) : Calls Try.prog 18 #[ptr p] w (RetPA p (rdRep' st) w (rdRep st)) := by
  obtain ⟨x1, x2⟩ := re_err hc
  rw [rdRep_bad he, x1]
  rw [x1] at he
  clear x1 x2
  obtain ⟨K, hK⟩ : ∃ K, K = reK st := ⟨_, rfl⟩
  obtain ⟨D, hD⟩ : ∃ K, K = rdN (reA st) 5 := ⟨_, rfl⟩
  obtain ⟨R, hR⟩ : ∃ K, K = rdN (reB st) 1099511627776 := ⟨_, rfl⟩
  obtain ⟨C, hC⟩ : ∃ K, K = reCode st := ⟨_, rfl⟩
  have je : ((reD st).e != 0) = true := by simpa using he
  have jc : (C == 0) = false := by rw [hC]; simpa using hc
  have HK := Lib.hid (show K = rdN st 4 from hK)
  have HD := Lib.hid (show D = rdN (reA st) 5 from hD)
  have HR := Lib.hid (show R = rdN (reB st) 1099511627776 from hR)
  have HC := Lib.hid (show C = rdN (reC st) 16 from hC)
  clear hK hD hR hC hc he
  have E := Lib.hid ((EnvP.start hr).alloc 37 (Rep.arr rz none 0))
  clear hr
  go_enter Try.func18, Try.ntmps18
  go_wp2_with (fail)
  refine (c_ledger_above p st 2 4 _ E.out.rd).mono ?_
  rintro e w1 ⟨rfl, hr, hk⟩
  rw [← HK.out]
  replace E := Lib.hid ((E.out.call hr hk).state (show _ = reA st from rfl))
  clear hr hk
  go_wp2_with (with_reducible refine stop_store 37 (.tmp 3) (.tmp 6) rfl rfl ?_)
  refine Stop.mk (wpList_storeB rfl _ _ _ rfl w1.heap.size _ rfl rfl _ (Blk.new _ _ _) strRp rfl rfl (by simp [Value.oneCell']) ?_)
  intro w2 hb2 hk2
  replace E := Lib.hid (((E.out.alloc 37 (Rep.arr rz none 0)).put0 hb2 hk2).as (show _ = Rep.arr ⟨K, 0, 0, 0, 0, 0, 0, 0, [], 0⟩ none 0 from rfl))
  clear hb2 hk2
  have HG0 := Lib.hid (show w1.heap.size < w2.heap.size from E.out.b0.lt)
  obtain ⟨G1, hG1⟩ : ∃ g, g = w1.heap.size := ⟨_, rfl⟩
  rw [← hG1] at E HG0 ⊢
  clear hG1
  go_wp2_with (fail)
  refine (c_octet_RNum p _ 5 _ E.out.rd).mono ?_
  rintro e w3 ⟨rfl, hr, hk⟩
  rw [← HD.out]
  replace E := Lib.hid ((E.out.call hr hk).state (show _ = reB st from rfl))
  clear hr hk
  obtain ⟨u0, u1, u2, u3, u4, u5, u6, u7, u8, u9⟩ := rep_cells E.out.b0
  have ff := fun i => E.out.b0.frozen i
  go_wp2_with (fail)
  clear u0 u1 u2 u3 u4 u5 u6 u7 u8 u9 ff
  replace E := Lib.hid ((E.out.store0 1 (.int .i64 D)).as (show _ = Rep.arr ⟨K, D, 0, 0, 0, 0, 0, 0, [], 0⟩ none 0 from rfl))
  refine (c_ledger_above p _ 1 1099511627776 _ E.out.rd).mono ?_
  rintro e w4 ⟨rfl, hr, hk⟩
  rw [← HR.out]
  replace E := Lib.hid ((E.out.call hr hk).state (show _ = reC st from rdLe'_one _ _))
  clear hr hk
  obtain ⟨u0, u1, u2, u3, u4, u5, u6, u7, u8, u9⟩ := rep_cells E.out.b0
  have ff := fun i => E.out.b0.frozen i
  go_wp2_with (fail)
  clear u0 u1 u2 u3 u4 u5 u6 u7 u8 u9 ff
  replace E := Lib.hid ((E.out.store0 2 (.int .i64 R)).as (show _ = Rep.arr ⟨K, D, R, 0, 0, 0, 0, 0, [], 0⟩ none 0 from rfl))
  refine (c_octet_RNum p _ 16 _ E.out.rd).mono ?_
  rintro e w5 ⟨rfl, hr, hk⟩
  rw [← HC.out]
  replace E := Lib.hid ((E.out.call hr hk).state (show _ = reD st from rfl))
  clear hr hk
  obtain ⟨u0, u1, u2, u3, u4, u5, u6, u7, u8, u9⟩ := rep_cells E.out.b0
  have ff := fun i => E.out.b0.frozen i
  go_wp2_with (fail)
  clear u0 u1 u2 u3 u4 u5 u6 u7 u8 u9 ff
  replace E := Lib.hid ((E.out.store0 3 (.int .i64 C)).as (show _ = Rep.arr ⟨K, D, R, C, 0, 0, 0, 0, [], 0⟩ none 0 from rfl))
  refine (c_octet_Err p _ _ E.out.rd).mono ?_
  rintro e w6 ⟨rfl, hr, hk⟩
  replace E := Lib.hid ((E.out.call hr hk).state (show _ = reD st from rfl))
  clear hr hk
  go_wp2_with (with_reducible refine stop_store 37 (.tmp 2) (.tmp 47) rfl rfl ?_)
  refine Stop.mk (wpList_storeB rfl _ _ _ rfl w.heap.size _ rfl rfl _ E.out.b1 strRp rfl rfl (by simp [Value.oneCell']) ?_)
  intro w99 hb99 hk99
  replace E := Lib.hid (E.out.put1 hb99 hk99)
  clear hk99
  go_wp2_with (fail)
  exact bodyPost_ret (results_B rfl rfl hb99 strRp rfl) rfl ⟨none, 0, rfl, World.ownsRow_nil _ _ _ _, E.out.rd, E.out.kept⟩
set_option maxHeartbeats 4000000 in
set_option maxRecDepth 4000 in
theorem ledger_Read_put1 (p : Option Nat) (st : Rd) (w : World) (hr : RdP w p st) (hc : reCode st = 0) (hk : reK st = 2) (he : (rdRep' st).e = 0) : Calls Try.prog 18 #[ptr p] w (RetPA p (rdRep' st) w (rdRep st)) := by
  obtain ⟨x1, x2⟩ := re_put hc hk
  rw [rdRep_ok he, x2, x1]
  rw [x1] at he
  clear x1 x2
  obtain ⟨K, hK⟩ : ∃ K, K = reK st := ⟨_, rfl⟩
  obtain ⟨D, hD⟩ : ∃ K, K = rdN (reA st) 5 := ⟨_, rfl⟩
  obtain ⟨R, hR⟩ : ∃ K, K = rdN (reB st) 1099511627776 := ⟨_, rfl⟩
  obtain ⟨C, hC⟩ : ∃ K, K = reCode st := ⟨_, rfl⟩
  obtain ⟨Q, hQ⟩ : ∃ K, K = rdN (reD st) 1099511627776 := ⟨_, rfl⟩
  obtain ⟨I, hI⟩ : ∃ K, K = rdN (reE st) 1073741823 := ⟨_, rfl⟩
  obtain ⟨V, hV⟩ : ∃ K, K = rdN (reP1 st) 1099511627776 := ⟨_, rfl⟩
  have je : ((reP2 st).e != 0) = false := by simpa using he
  have jc : (C == 0) = true := by rw [hC]; simpa using hc
  have j2 : (K == 2) = true := by rw [hK]; simpa using hk
  have j3 : (K == 3) = false := by rw [hK, hk]; rfl
  have HK := Lib.hid (show K = rdN st 4 from hK)
  have HD := Lib.hid (show D = rdN (reA st) 5 from hD)
  have HR := Lib.hid (show R = rdN (reB st) 1099511627776 from hR)
  have HC := Lib.hid (show C = rdN (reC st) 16 from hC)
  have HQ := Lib.hid (show Q = rdN (reD st) 1099511627776 from hQ)
  have HI := Lib.hid (show I = rdN (reE st) 1073741823 from hI)
  have HV := Lib.hid (show V = rdN (reP1 st) 1099511627776 from hV)
  rw [← hD, ← hR, ← hQ, ← hI, ← hV]
  have HC0 := Lib.hid (hC.trans hc)
  have HK0 := Lib.hid (hK.trans hk)
  clear hK hD hR hC hQ hI hV hc he hk
  have E := Lib.hid ((EnvP.start hr).alloc 37 (Rep.arr rz none 0))
  clear hr
  go_enter Try.func18, Try.ntmps18
  go_wp2_with (fail)
  refine (c_ledger_above p st 2 4 _ E.out.rd).mono ?_
  rintro e w1 ⟨rfl, hr, hk⟩
  rw [← HK.out]
  replace E := Lib.hid ((E.out.call hr hk).state (show _ = reA st from rfl))
  clear hr hk
  go_wp2_with (with_reducible refine stop_store 37 (.tmp 3) (.tmp 6) rfl rfl ?_)
  refine Stop.mk (wpList_storeB rfl _ _ _ rfl w1.heap.size _ rfl rfl _ (Blk.new _ _ _) strRp rfl rfl (by simp [Value.oneCell']) ?_)
  intro w2 hb2 hk2
  replace E := Lib.hid (((E.out.alloc 37 (Rep.arr rz none 0)).put0 hb2 hk2).as (show _ = Rep.arr ⟨K, 0, 0, 0, 0, 0, 0, 0, [], 0⟩ none 0 from rfl))
  clear hb2 hk2
  have HG0 := Lib.hid (show w1.heap.size < w2.heap.size from E.out.b0.lt)
  obtain ⟨G1, hG1⟩ : ∃ g, g = w1.heap.size := ⟨_, rfl⟩
  rw [← hG1] at E HG0 ⊢
  clear hG1
  go_wp2_with (fail)
  refine (c_octet_RNum p _ 5 _ E.out.rd).mono ?_
  rintro e w3 ⟨rfl, hr, hk⟩
  rw [← HD.out]
  replace E := Lib.hid ((E.out.call hr hk).state (show _ = reB st from rfl))
  clear hr hk
  obtain ⟨u0, u1, u2, u3, u4, u5, u6, u7, u8, u9⟩ := rep_cells E.out.b0
  have ff := fun i => E.out.b0.frozen i
  go_wp2_with (fail)
  clear u0 u1 u2 u3 u4 u5 u6 u7 u8 u9 ff
  replace E := Lib.hid ((E.out.store0 1 (.int .i64 D)).as (show _ = Rep.arr ⟨K, D, 0, 0, 0, 0, 0, 0, [], 0⟩ none 0 from rfl))
  refine (c_ledger_above p _ 1 1099511627776 _ E.out.rd).mono ?_
  rintro e w4 ⟨rfl, hr, hk⟩
  rw [← HR.out]
  replace E := Lib.hid ((E.out.call hr hk).state (show _ = reC st from rdLe'_one _ _))
  clear hr hk
  obtain ⟨u0, u1, u2, u3, u4, u5, u6, u7, u8, u9⟩ := rep_cells E.out.b0
  have ff := fun i => E.out.b0.frozen i
  go_wp2_with (fail)
  clear u0 u1 u2 u3 u4 u5 u6 u7 u8 u9 ff
  replace E := Lib.hid ((E.out.store0 2 (.int .i64 R)).as (show _ = Rep.arr ⟨K, D, R, 0, 0, 0, 0, 0, [], 0⟩ none 0 from rfl))
  refine (c_octet_RNum p _ 16 _ E.out.rd).mono ?_
  rintro e w5 ⟨rfl, hr, hk⟩
  rw [← HC.out]
  replace E := Lib.hid ((E.out.call hr hk).state (show _ = reD st from rfl))
  clear hr hk
  obtain ⟨u0, u1, u2, u3, u4, u5, u6, u7, u8, u9⟩ := rep_cells E.out.b0
  have ff := fun i => E.out.b0.frozen i
  go_wp2_with (fail)
  clear u0 u1 u2 u3 u4 u5 u6 u7 u8 u9 ff
  replace E := Lib.hid ((E.out.store0 3 (.int .i64 C)).as (show _ = Rep.arr ⟨K, D, R, C, 0, 0, 0, 0, [], 0⟩ none 0 from rfl))
  refine (c_octet_RNum p _ 1099511627776 _ E.out.rd).mono ?_
  rintro e w6 ⟨rfl, hr, hk⟩
  rw [← HQ.out]
  replace E := Lib.hid ((E.out.call hr hk).state (show _ = reE st from rfl))
  clear hr hk
  obtain ⟨u0, u1, u2, u3, u4, u5, u6, u7, u8, u9⟩ := rep_cells E.out.b0
  have ff := fun i => E.out.b0.frozen i
  go_wp2_with (fail)
  clear u0 u1 u2 u3 u4 u5 u6 u7 u8 u9 ff
  replace E := Lib.hid ((E.out.store0 6 (.int .i64 Q)).as (show _ = Rep.arr ⟨K, D, R, C, 0, 0, Q, 0, [], 0⟩ none 0 from rfl))
  refine (c_ledger_above p _ 1 1073741823 _ E.out.rd).mono ?_
  rintro e w7 ⟨rfl, hr, hk⟩
  rw [← HI.out]
  replace E := Lib.hid ((E.out.call hr hk).state (show _ = reP1 st from rdLe'_one _ _))
  clear hr hk
  obtain ⟨u0, u1, u2, u3, u4, u5, u6, u7, u8, u9⟩ := rep_cells E.out.b0
  have ff := fun i => E.out.b0.frozen i
  go_wp2_with (fail)
  clear u0 u1 u2 u3 u4 u5 u6 u7 u8 u9 ff
  replace E := Lib.hid ((E.out.store0 4 (.int .i64 I)).as (show _ = Rep.arr ⟨K, D, R, C, I, 0, Q, 0, [], 0⟩ none 0 from rfl))
  refine (c_ledger_above p _ 1 1099511627776 _ E.out.rd).mono ?_
  rintro e w8 ⟨rfl, hr, hk⟩
  rw [← HV.out]
  replace E := Lib.hid ((E.out.call hr hk).state (show _ = reP2 st from rdLe'_one _ _))
  clear hr hk
  obtain ⟨u0, u1, u2, u3, u4, u5, u6, u7, u8, u9⟩ := rep_cells E.out.b0
  have ff := fun i => E.out.b0.frozen i
  go_wp2_with (fail)
  clear u0 u1 u2 u3 u4 u5 u6 u7 u8 u9 ff
  replace E := Lib.hid ((E.out.store0 5 (.int .i64 V)).as (show _ = Rep.arr ⟨K, D, R, C, I, V, Q, 0, [], 0⟩ none 0 from rfl))
  refine (c_octet_Err p _ _ E.out.rd).mono ?_
  rintro e w9 ⟨rfl, hr, hk⟩
  replace E := Lib.hid ((E.out.call hr hk).state (show _ = reP2 st from rfl))
  clear hr hk
  go_wp2_with (with_reducible refine stop_load 37 (.tmp 3) rfl rfl ?_)
  refine Stop.mk (wpList_loadB rfl _ _ rfl G1 rfl _ E.out.b0 strRp rfl ?_)
  go_wp2_with (with_reducible refine stop_store 37 (.tmp 2) (.tmp 48) rfl rfl ?_)
  refine Stop.mk (wpList_storeB rfl _ _ _ rfl w.heap.size _ rfl rfl _ E.out.b1 strRp rfl rfl (by simp [Value.oneCell']) ?_)
  intro w99 hb99 hk99
  replace E := Lib.hid (E.out.put1 hb99 hk99)
  clear hk99
  go_wp2_with (fail)
  have hC0 := HC0.out; have hK0 := HK0.out; subst hC0 hK0
  exact bodyPost_ret (results_B rfl rfl hb99 strRp rfl) rfl ⟨none, 0, rfl, World.ownsRow_nil _ _ _ _, E.out.rd, E.out.kept⟩
set_option maxHeartbeats 4000000 in
set_option maxRecDepth 4000 in
theorem ledger_Read_put0 (p : Option Nat) (st : Rd) (w : World) (hr : RdP w p st) (hc : reCode st = 0) (hk : reK st = 2) (he : (rdRep' st).e ≠ 0) : Calls Try.prog 18 #[ptr p] w (RetPA p (rdRep' st) w (rdRep st)) := by
  obtain ⟨x1, x2⟩ := re_put hc hk
  rw [rdRep_bad he, x1]
  rw [x1] at he
  clear x1 x2
  obtain ⟨K, hK⟩ : ∃ K, K = reK st := ⟨_, rfl⟩
  obtain ⟨D, hD⟩ : ∃ K, K = rdN (reA st) 5 := ⟨_, rfl⟩
  obtain ⟨R, hR⟩ : ∃ K, K = rdN (reB st) 1099511627776 := ⟨_, rfl⟩
  obtain ⟨C, hC⟩ : ∃ K, K = reCode st := ⟨_, rfl⟩
  obtain ⟨Q, hQ⟩ : ∃ K, K = rdN (reD st) 1099511627776 := ⟨_, rfl⟩
  obtain ⟨I, hI⟩ : ∃ K, K = rdN (reE st) 1073741823 := ⟨_, rfl⟩
  obtain ⟨V, hV⟩ : ∃ K, K = rdN (reP1 st) 1099511627776 := ⟨_, rfl⟩
  have je : ((reP2 st).e != 0) = true := by simpa using he
  have jc : (C == 0) = true := by rw [hC]; simpa using hc
  have j2 : (K == 2) = true := by rw [hK]; simpa using hk
  have j3 : (K == 3) = false := by rw [hK, hk]; rfl
  have HK := Lib.hid (show K = rdN st 4 from hK)
  have HD := Lib.hid (show D = rdN (reA st) 5 from hD)
  have HR := Lib.hid (show R = rdN (reB st) 1099511627776 from hR)
  have HC := Lib.hid (show C = rdN (reC st) 16 from hC)
  have HQ := Lib.hid (show Q = rdN (reD st) 1099511627776 from hQ)
  have HI := Lib.hid (show I = rdN (reE st) 1073741823 from hI)
  have HV := Lib.hid (show V = rdN (reP1 st) 1099511627776 from hV)
  clear hK hD hR hC hQ hI hV hc he hk
  have E := Lib.hid ((EnvP.start hr).alloc 37 (Rep.arr rz none 0))
  clear hr
  go_enter Try.func18, Try.ntmps18
  go_wp2_with (fail)
  refine (c_ledger_above p st 2 4 _ E.out.rd).mono ?_
  rintro e w1 ⟨rfl, hr, hk⟩
  rw [← HK.out]
  replace E := Lib.hid ((E.out.call hr hk).state (show _ = reA st from rfl))
  clear hr hk
  go_wp2_with (with_reducible refine stop_store 37 (.tmp 3) (.tmp 6) rfl rfl ?_)
  refine Stop.mk (wpList_storeB rfl _ _ _ rfl w1.heap.size _ rfl rfl _ (Blk.new _ _ _) strRp rfl rfl (by simp [Value.oneCell']) ?_)
  intro w2 hb2 hk2
  replace E := Lib.hid (((E.out.alloc 37 (Rep.arr rz none 0)).put0 hb2 hk2).as (show _ = Rep.arr ⟨K, 0, 0, 0, 0, 0, 0, 0, [], 0⟩ none 0 from rfl))
  clear hb2 hk2
  have HG0 := Lib.hid (show w1.heap.size < w2.heap.size from E.out.b0.lt)
  obtain ⟨G1, hG1⟩ : ∃ g, g = w1.heap.size := ⟨_, rfl⟩
  rw [← hG1] at E HG0 ⊢
  clear hG1
  go_wp2_with (fail)
  refine (c_octet_RNum p _ 5 _ E.out.rd).mono ?_
  rintro e w3 ⟨rfl, hr, hk⟩
  rw [← HD.out]
  replace E := Lib.hid ((E.out.call hr hk).state (show _ = reB st from rfl))
  clear hr hk
  obtain ⟨u0, u1, u2, u3, u4, u5, u6, u7, u8, u9⟩ := rep_cells E.out.b0
  have ff := fun i => E.out.b0.frozen i
  go_wp2_with (fail)
  clear u0 u1 u2 u3 u4 u5 u6 u7 u8 u9 ff
  replace E := Lib.hid ((E.out.store0 1 (.int .i64 D)).as (show _ = Rep.arr ⟨K, D, 0, 0, 0, 0, 0, 0, [], 0⟩ none 0 from rfl))
  refine (c_ledger_above p _ 1 1099511627776 _ E.out.rd).mono ?_
  rintro e w4 ⟨rfl, hr, hk⟩
  rw [← HR.out]
  replace E := Lib.hid ((E.out.call hr hk).state (show _ = reC st from rdLe'_one _ _))
  clear hr hk
  obtain ⟨u0, u1, u2, u3, u4, u5, u6, u7, u8, u9⟩ := rep_cells E.out.b0
  have ff := fun i => E.out.b0.frozen i
  go_wp2_with (fail)
  clear u0 u1 u2 u3 u4 u5 u6 u7 u8 u9 ff
  replace E := Lib.hid ((E.out.store0 2 (.int .i64 R)).as (show _ = Rep.arr ⟨K, D, R, 0, 0, 0, 0, 0, [], 0⟩ none 0 from rfl))
  refine (c_octet_RNum p _ 16 _ E.out.rd).mono ?_
  rintro e w5 ⟨rfl, hr, hk⟩
  rw [← HC.out]
  replace E := Lib.hid ((E.out.call hr hk).state (show _ = reD st from rfl))
  clear hr hk
  obtain ⟨u0, u1, u2, u3, u4, u5, u6, u7, u8, u9⟩ := rep_cells E.out.b0
  have ff := fun i => E.out.b0.frozen i
  go_wp2_with (fail)
  clear u0 u1 u2 u3 u4 u5 u6 u7 u8 u9 ff
  replace E := Lib.hid ((E.out.store0 3 (.int .i64 C)).as (show _ = Rep.arr ⟨K, D, R, C, 0, 0, 0, 0, [], 0⟩ none 0 from rfl))
  refine (c_octet_RNum p _ 1099511627776 _ E.out.rd).mono ?_
  rintro e w6 ⟨rfl, hr, hk⟩
  rw [← HQ.out]
  replace E := Lib.hid ((E.out.call hr hk).state (show _ = reE st from rfl))
  clear hr hk
  obtain ⟨u0, u1, u2, u3, u4, u5, u6, u7, u8, u9⟩ := rep_cells E.out.b0
  have ff := fun i => E.out.b0.frozen i
  go_wp2_with (fail)
  clear u0 u1 u2 u3 u4 u5 u6 u7 u8 u9 ff
  replace E := Lib.hid ((E.out.store0 6 (.int .i64 Q)).as (show _ = Rep.arr ⟨K, D, R, C, 0, 0, Q, 0, [], 0⟩ none 0 from rfl))
  refine (c_ledger_above p _ 1 1073741823 _ E.out.rd).mono ?_
  rintro e w7 ⟨rfl, hr, hk⟩
  rw [← HI.out]
  replace E := Lib.hid ((E.out.call hr hk).state (show _ = reP1 st from rdLe'_one _ _))
  clear hr hk
  obtain ⟨u0, u1, u2, u3, u4, u5, u6, u7, u8, u9⟩ := rep_cells E.out.b0
  have ff := fun i => E.out.b0.frozen i
  go_wp2_with (fail)
  clear u0 u1 u2 u3 u4 u5 u6 u7 u8 u9 ff
  replace E := Lib.hid ((E.out.store0 4 (.int .i64 I)).as (show _ = Rep.arr ⟨K, D, R, C, I, 0, Q, 0, [], 0⟩ none 0 from rfl))
  refine (c_ledger_above p _ 1 1099511627776 _ E.out.rd).mono ?_
  rintro e w8 ⟨rfl, hr, hk⟩
  rw [← HV.out]
  replace E := Lib.hid ((E.out.call hr hk).state (show _ = reP2 st from rdLe'_one _ _))
  clear hr hk
  obtain ⟨u0, u1, u2, u3, u4, u5, u6, u7, u8, u9⟩ := rep_cells E.out.b0
  have ff := fun i => E.out.b0.frozen i
  go_wp2_with (fail)
  clear u0 u1 u2 u3 u4 u5 u6 u7 u8 u9 ff
  replace E := Lib.hid ((E.out.store0 5 (.int .i64 V)).as (show _ = Rep.arr ⟨K, D, R, C, I, V, Q, 0, [], 0⟩ none 0 from rfl))
  refine (c_octet_Err p _ _ E.out.rd).mono ?_
  rintro e w9 ⟨rfl, hr, hk⟩
  replace E := Lib.hid ((E.out.call hr hk).state (show _ = reP2 st from rfl))
  clear hr hk
  go_wp2_with (with_reducible refine stop_store 37 (.tmp 2) (.tmp 47) rfl rfl ?_)
  refine Stop.mk (wpList_storeB rfl _ _ _ rfl w.heap.size _ rfl rfl _ E.out.b1 strRp rfl rfl (by simp [Value.oneCell']) ?_)
  intro w99 hb99 hk99
  replace E := Lib.hid (E.out.put1 hb99 hk99)
  clear hk99
  go_wp2_with (fail)
  exact bodyPost_ret (results_B rfl rfl hb99 strRp rfl) rfl ⟨none, 0, rfl, World.ownsRow_nil _ _ _ _, E.out.rd, E.out.kept⟩
set_option maxHeartbeats 4000000 in
set_option maxRecDepth 4000 in
theorem ledger_Read_sub1 (p : Option Nat) (st : Rd) (w : World) (hr : RdP w p st) (hc : reCode st = 0) (hk : reK st = 3) (he : (rdRep' st).e = 0) : Calls Try.prog 18 #[ptr p] w (RetPA p (rdRep' st) w (rdRep st)) := by
  obtain ⟨x1, x2⟩ := re_sub hc hk
  rw [rdRep_ok he, x2, x1]
  rw [x1] at he
  clear x1 x2
  obtain ⟨K, hK⟩ : ∃ K, K = reK st := ⟨_, rfl⟩
  obtain ⟨D, hD⟩ : ∃ K, K = rdN (reA st) 5 := ⟨_, rfl⟩
  obtain ⟨R, hR⟩ : ∃ K, K = rdN (reB st) 1099511627776 := ⟨_, rfl⟩
  obtain ⟨C, hC⟩ : ∃ K, K = reCode st := ⟨_, rfl⟩
  obtain ⟨Q, hQ⟩ : ∃ K, K = rdN (reD st) 1099511627776 := ⟨_, rfl⟩
  obtain ⟨Y, hY⟩ : ∃ K, K = rdN (reE st) 1099511627776 := ⟨_, rfl⟩
  obtain ⟨F, hF⟩ : ∃ K, K = rdPred (reS1 st) := ⟨_, rfl⟩
  obtain ⟨M, hM⟩ : ∃ K, K = (rdN (reS2 st) 511).toNat := ⟨_, rfl⟩
  have je : ((reS3 st).e != 0) = false := by simpa using he
  have jc : (C == 0) = true := by rw [hC]; simpa using hc
  have j2 : (K == 2) = false := by rw [hK, hk]; rfl
  have j3 : (K == 3) = true := by rw [hK]; simpa using hk
  have mb := rdN_bd (reS2 st) 511
  have km : IntKind.u32.wrap (rdN (reS2 st) 511) = ((M : Nat) : Int) := by rw [hM, u32_id (by omega) (by omega)]; omega
  have HK := Lib.hid (show K = rdN st 4 from hK)
  have HD := Lib.hid (show D = rdN (reA st) 5 from hD)
  have HR := Lib.hid (show R = rdN (reB st) 1099511627776 from hR)
  have HC := Lib.hid (show C = rdN (reC st) 16 from hC)
  have HQ := Lib.hid (show Q = rdN (reD st) 1099511627776 from hQ)
  have HY := Lib.hid (show Y = rdN (reE st) 1099511627776 from hY)
  have HF := Lib.hid (show F = rdPred (reS1 st) from hF)
  rw [← hD, ← hR, ← hQ, ← hY, ← hF, ← hM]
  have HC0 := Lib.hid (hC.trans hc)
  have HK0 := Lib.hid (hK.trans hk)
  clear hK hD hR hC hQ hY hF hM hc he hk mb
  have E := Lib.hid ((EnvP.start hr).alloc 37 (Rep.arr rz none 0))
  clear hr
  go_enter Try.func18, Try.ntmps18
  go_wp2_with (fail)
  refine (c_ledger_above p st 2 4 _ E.out.rd).mono ?_
  rintro e w1 ⟨rfl, hr, hk⟩
  rw [← HK.out]
  replace E := Lib.hid ((E.out.call hr hk).state (show _ = reA st from rfl))
  clear hr hk
  go_wp2_with (with_reducible refine stop_store 37 (.tmp 3) (.tmp 6) rfl rfl ?_)
  refine Stop.mk (wpList_storeB rfl _ _ _ rfl w1.heap.size _ rfl rfl _ (Blk.new _ _ _) strRp rfl rfl (by simp [Value.oneCell']) ?_)
  intro w2 hb2 hk2
  replace E := Lib.hid (((E.out.alloc 37 (Rep.arr rz none 0)).put0 hb2 hk2).as (show _ = Rep.arr ⟨K, 0, 0, 0, 0, 0, 0, 0, [], 0⟩ none 0 from rfl))
  clear hb2 hk2
  have HG0 := Lib.hid (show w1.heap.size < w2.heap.size from E.out.b0.lt)
  obtain ⟨G1, hG1⟩ : ∃ g, g = w1.heap.size := ⟨_, rfl⟩
  rw [← hG1] at E HG0 ⊢
  clear hG1
  go_wp2_with (fail)
  refine (c_octet_RNum p _ 5 _ E.out.rd).mono ?_
  rintro e w3 ⟨rfl, hr, hk⟩
  rw [← HD.out]
  replace E := Lib.hid ((E.out.call hr hk).state (show _ = reB st from rfl))
  clear hr hk
  obtain ⟨u0, u1, u2, u3, u4, u5, u6, u7, u8, u9⟩ := rep_cells E.out.b0
  have ff := fun i => E.out.b0.frozen i
  go_wp2_with (fail)
  clear u0 u1 u2 u3 u4 u5 u6 u7 u8 u9 ff
  replace E := Lib.hid ((E.out.store0 1 (.int .i64 D)).as (show _ = Rep.arr ⟨K, D, 0, 0, 0, 0, 0, 0, [], 0⟩ none 0 from rfl))
  refine (c_ledger_above p _ 1 1099511627776 _ E.out.rd).mono ?_
  rintro e w4 ⟨rfl, hr, hk⟩
  rw [← HR.out]
  replace E := Lib.hid ((E.out.call hr hk).state (show _ = reC st from rdLe'_one _ _))
  clear hr hk
  obtain ⟨u0, u1, u2, u3, u4, u5, u6, u7, u8, u9⟩ := rep_cells E.out.b0
  have ff := fun i => E.out.b0.frozen i
  go_wp2_with (fail)
  clear u0 u1 u2 u3 u4 u5 u6 u7 u8 u9 ff
  replace E := Lib.hid ((E.out.store0 2 (.int .i64 R)).as (show _ = Rep.arr ⟨K, D, R, 0, 0, 0, 0, 0, [], 0⟩ none 0 from rfl))
  refine (c_octet_RNum p _ 16 _ E.out.rd).mono ?_
  rintro e w5 ⟨rfl, hr, hk⟩
  rw [← HC.out]
  replace E := Lib.hid ((E.out.call hr hk).state (show _ = reD st from rfl))
  clear hr hk
  obtain ⟨u0, u1, u2, u3, u4, u5, u6, u7, u8, u9⟩ := rep_cells E.out.b0
  have ff := fun i => E.out.b0.frozen i
  go_wp2_with (fail)
  clear u0 u1 u2 u3 u4 u5 u6 u7 u8 u9 ff
  replace E := Lib.hid ((E.out.store0 3 (.int .i64 C)).as (show _ = Rep.arr ⟨K, D, R, C, 0, 0, 0, 0, [], 0⟩ none 0 from rfl))
  refine (c_octet_RNum p _ 1099511627776 _ E.out.rd).mono ?_
  rintro e w6 ⟨rfl, hr, hk⟩
  rw [← HQ.out]
  replace E := Lib.hid ((E.out.call hr hk).state (show _ = reE st from rfl))
  clear hr hk
  obtain ⟨u0, u1, u2, u3, u4, u5, u6, u7, u8, u9⟩ := rep_cells E.out.b0
  have ff := fun i => E.out.b0.frozen i
  go_wp2_with (fail)
  clear u0 u1 u2 u3 u4 u5 u6 u7 u8 u9 ff
  replace E := Lib.hid ((E.out.store0 6 (.int .i64 Q)).as (show _ = Rep.arr ⟨K, D, R, C, 0, 0, Q, 0, [], 0⟩ none 0 from rfl))
  refine (c_ledger_above p _ 1 1099511627776 _ E.out.rd).mono ?_
  rintro e w7 ⟨rfl, hr, hk⟩
  rw [← HY.out]
  replace E := Lib.hid ((E.out.call hr hk).state (show _ = reS1 st from rdLe'_one _ _))
  clear hr hk
  obtain ⟨u0, u1, u2, u3, u4, u5, u6, u7, u8, u9⟩ := rep_cells E.out.b0
  have ff := fun i => E.out.b0.frozen i
  go_wp2_with (fail)
  clear u0 u1 u2 u3 u4 u5 u6 u7 u8 u9 ff
  replace E := Lib.hid ((E.out.store0 7 (.int .i64 Y)).as (show _ = Rep.arr ⟨K, D, R, C, 0, 0, Q, Y, [], 0⟩ none 0 from rfl))
  refine (c_predwire_Read p _ _ E.out.rd).mono ?_
  rintro e w8 ⟨v8, rfl, own, hr, hk⟩
  rw [← HF.out] at own
  obtain ⟨A, c, rfl, -⟩ := own_form own
  have HO := Lib.hid (show w.heap.size < w7.heap.size from by have := E.out.b1.lt; simpa [World.setCell] using this)
  have HG := Lib.hid (show G1 < w7.heap.size from by have := E.out.b0.lt; simpa [World.setCell] using this)
  have O := Lib.hid (show World.ownsRow w8 w7.heap.size 74 5 (.slice A F.length c) F.length (F.flatMap Node.cells) from by simpa [World.setCell] using own)
  clear own
  replace E := Lib.hid ((E.out.call hr hk).state (show _ = reS2 st from rfl))
  clear hr hk
  obtain ⟨u0, u1, u2, u3, u4, u5, u6, u7, u8, u9⟩ := rep_cells E.out.b0
  have ff := fun i => E.out.b0.frozen i
  go_wp2_with (fail)
  clear u0 u1 u2 u3 u4 u5 u6 u7 u8 u9 ff
  replace O := Lib.hid (own_kept O.out (kept_set w8 G1 8 (.slice A F.length c)) (fun g hg => by injection hg with hg; have := HG.out; omega))
  replace E := Lib.hid ((E.out.store0 8 (.slice A F.length c)).as (show _ = Rep.arr ⟨K, D, R, C, 0, 0, Q, Y, F, 0⟩ A c from rfl))
  refine (c_octet_RNum p _ 511 _ E.out.rd).mono ?_
  rintro e w9 ⟨rfl, hr, hk⟩
  replace O := Lib.hid (own_kept O.out hk (fun g hg => by have := E.out.low g hg; have := HO.out; omega))
  replace E := Lib.hid ((E.out.call hr hk).state (show _ = reS3 st from rfl))
  clear hr hk
  obtain ⟨u0, u1, u2, u3, u4, u5, u6, u7, u8, u9⟩ := rep_cells E.out.b0
  have ff := fun i => E.out.b0.frozen i
  go_wp2_with (fail)
  clear u0 u1 u2 u3 u4 u5 u6 u7 u8 u9 ff
  replace O := Lib.hid (own_kept O.out (kept_set w9 G1 9 (.int .u32 M)) (fun g hg => by injection hg with hg; have := HG.out; omega))
  replace E := Lib.hid ((E.out.store0 9 (.int .u32 M)).as (show _ = Rep.arr ⟨K, D, R, C, 0, 0, Q, Y, F, M⟩ A c from rfl))
  refine (c_octet_Err p _ _ E.out.rd).mono ?_
  rintro e w10 ⟨rfl, hr, hk⟩
  replace O := Lib.hid (own_kept O.out hk (fun g hg => by have := E.out.low g hg; have := HO.out; omega))
  replace E := Lib.hid ((E.out.call hr hk).state (show _ = reS3 st from rfl))
  clear hr hk
  go_wp2_with (with_reducible refine stop_load 37 (.tmp 3) rfl rfl ?_)
  refine Stop.mk (wpList_loadB rfl _ _ rfl G1 rfl _ E.out.b0 strRp rfl ?_)
  go_wp2_with (with_reducible refine stop_store 37 (.tmp 2) (.tmp 48) rfl rfl ?_)
  refine Stop.mk (wpList_storeB rfl _ _ _ rfl w.heap.size _ rfl rfl _ E.out.b1 strRp rfl rfl (by simp [Value.oneCell']) ?_)
  intro w99 hb99 hk99
  replace O := Lib.hid (own_kept O.out hk99 (fun g hg => by injection hg with hg; have := HO.out; omega))
  replace E := Lib.hid (E.out.put1 hb99 hk99)
  clear hk99
  go_wp2_with (fail)
  have hC0 := HC0.out; have hK0 := HK0.out; subst hC0 hK0
  exact bodyPost_ret (results_B rfl rfl hb99 strRp rfl) rfl ⟨A, c, rfl, own_base O.out (Nat.le_of_lt HO.out), E.out.rd, E.out.kept⟩
set_option maxHeartbeats 4000000 in
set_option maxRecDepth 4000 in
theorem ledger_Read_sub0 (p : Option Nat) (st : Rd) (w : World) (hr : RdP w p st) (hc : reCode st = 0) (hk : reK st = 3) (he : (rdRep' st).e ≠ 0) : Calls Try.prog 18 #[ptr p] w (RetPA p (rdRep' st) w (rdRep st)) := by
  obtain ⟨x1, x2⟩ := re_sub hc hk
  rw [rdRep_bad he, x1]
  rw [x1] at he
  clear x1 x2
  obtain ⟨K, hK⟩ : ∃ K, K = reK st := ⟨_, rfl⟩
  obtain ⟨D, hD⟩ : ∃ K, K = rdN (reA st) 5 := ⟨_, rfl⟩
  obtain ⟨R, hR⟩ : ∃ K, K = rdN (reB st) 1099511627776 := ⟨_, rfl⟩
  obtain ⟨C, hC⟩ : ∃ K, K = reCode st := ⟨_, rfl⟩
  obtain ⟨Q, hQ⟩ : ∃ K, K = rdN (reD st) 1099511627776 := ⟨_, rfl⟩
  obtain ⟨Y, hY⟩ : ∃ K, K = rdN (reE st) 1099511627776 := ⟨_, rfl⟩
  obtain ⟨F, hF⟩ : ∃ K, K = rdPred (reS1 st) := ⟨_, rfl⟩
  obtain ⟨M, hM⟩ : ∃ K, K = (rdN (reS2 st) 511).toNat := ⟨_, rfl⟩
  have je : ((reS3 st).e != 0) = true := by simpa using he
  have jc : (C == 0) = true := by rw [hC]; simpa using hc
  have j2 : (K == 2) = false := by rw [hK, hk]; rfl
  have j3 : (K == 3) = true := by rw [hK]; simpa using hk
  have mb := rdN_bd (reS2 st) 511
  have km : IntKind.u32.wrap (rdN (reS2 st) 511) = ((M : Nat) : Int) := by rw [hM, u32_id (by omega) (by omega)]; omega
  have HK := Lib.hid (show K = rdN st 4 from hK)
  have HD := Lib.hid (show D = rdN (reA st) 5 from hD)
  have HR := Lib.hid (show R = rdN (reB st) 1099511627776 from hR)
  have HC := Lib.hid (show C = rdN (reC st) 16 from hC)
  have HQ := Lib.hid (show Q = rdN (reD st) 1099511627776 from hQ)
  have HY := Lib.hid (show Y = rdN (reE st) 1099511627776 from hY)
  have HF := Lib.hid (show F = rdPred (reS1 st) from hF)
  clear hK hD hR hC hQ hY hF hM hc he hk mb
  have E := Lib.hid ((EnvP.start hr).alloc 37 (Rep.arr rz none 0))
  clear hr
  go_enter Try.func18, Try.ntmps18
  go_wp2_with (fail)
  refine (c_ledger_above p st 2 4 _ E.out.rd).mono ?_
  rintro e w1 ⟨rfl, hr, hk⟩
  rw [← HK.out]
  replace E := Lib.hid ((E.out.call hr hk).state (show _ = reA st from rfl))
  clear hr hk
  go_wp2_with (with_reducible refine stop_store 37 (.tmp 3) (.tmp 6) rfl rfl ?_)
  refine Stop.mk (wpList_storeB rfl _ _ _ rfl w1.heap.size _ rfl rfl _ (Blk.new _ _ _) strRp rfl rfl (by simp [Value.oneCell']) ?_)
  intro w2 hb2 hk2
  replace E := Lib.hid (((E.out.alloc 37 (Rep.arr rz none 0)).put0 hb2 hk2).as (show _ = Rep.arr ⟨K, 0, 0, 0, 0, 0, 0, 0, [], 0⟩ none 0 from rfl))
  clear hb2 hk2
  have HG0 := Lib.hid (show w1.heap.size < w2.heap.size from E.out.b0.lt)
  obtain ⟨G1, hG1⟩ : ∃ g, g = w1.heap.size := ⟨_, rfl⟩
  rw [← hG1] at E HG0 ⊢
  clear hG1
  go_wp2_with (fail)
  refine (c_octet_RNum p _ 5 _ E.out.rd).mono ?_
  rintro e w3 ⟨rfl, hr, hk⟩
  rw [← HD.out]
  replace E := Lib.hid ((E.out.call hr hk).state (show _ = reB st from rfl))
  clear hr hk
  obtain ⟨u0, u1, u2, u3, u4, u5, u6, u7, u8, u9⟩ := rep_cells E.out.b0
  have ff := fun i => E.out.b0.frozen i
  go_wp2_with (fail)
  clear u0 u1 u2 u3 u4 u5 u6 u7 u8 u9 ff
  replace E := Lib.hid ((E.out.store0 1 (.int .i64 D)).as (show _ = Rep.arr ⟨K, D, 0, 0, 0, 0, 0, 0, [], 0⟩ none 0 from rfl))
  refine (c_ledger_above p _ 1 1099511627776 _ E.out.rd).mono ?_
  rintro e w4 ⟨rfl, hr, hk⟩
  rw [← HR.out]
  replace E := Lib.hid ((E.out.call hr hk).state (show _ = reC st from rdLe'_one _ _))
  clear hr hk
  obtain ⟨u0, u1, u2, u3, u4, u5, u6, u7, u8, u9⟩ := rep_cells E.out.b0
  have ff := fun i => E.out.b0.frozen i
  go_wp2_with (fail)
  clear u0 u1 u2 u3 u4 u5 u6 u7 u8 u9 ff
  replace E := Lib.hid ((E.out.store0 2 (.int .i64 R)).as (show _ = Rep.arr ⟨K, D, R, 0, 0, 0, 0, 0, [], 0⟩ none 0 from rfl))
  refine (c_octet_RNum p _ 16 _ E.out.rd).mono ?_
  rintro e w5 ⟨rfl, hr, hk⟩
  rw [← HC.out]
  replace E := Lib.hid ((E.out.call hr hk).state (show _ = reD st from rfl))
  clear hr hk
  obtain ⟨u0, u1, u2, u3, u4, u5, u6, u7, u8, u9⟩ := rep_cells E.out.b0
  have ff := fun i => E.out.b0.frozen i
  go_wp2_with (fail)
  clear u0 u1 u2 u3 u4 u5 u6 u7 u8 u9 ff
  replace E := Lib.hid ((E.out.store0 3 (.int .i64 C)).as (show _ = Rep.arr ⟨K, D, R, C, 0, 0, 0, 0, [], 0⟩ none 0 from rfl))
  refine (c_octet_RNum p _ 1099511627776 _ E.out.rd).mono ?_
  rintro e w6 ⟨rfl, hr, hk⟩
  rw [← HQ.out]
  replace E := Lib.hid ((E.out.call hr hk).state (show _ = reE st from rfl))
  clear hr hk
  obtain ⟨u0, u1, u2, u3, u4, u5, u6, u7, u8, u9⟩ := rep_cells E.out.b0
  have ff := fun i => E.out.b0.frozen i
  go_wp2_with (fail)
  clear u0 u1 u2 u3 u4 u5 u6 u7 u8 u9 ff
  replace E := Lib.hid ((E.out.store0 6 (.int .i64 Q)).as (show _ = Rep.arr ⟨K, D, R, C, 0, 0, Q, 0, [], 0⟩ none 0 from rfl))
  refine (c_ledger_above p _ 1 1099511627776 _ E.out.rd).mono ?_
  rintro e w7 ⟨rfl, hr, hk⟩
  rw [← HY.out]
  replace E := Lib.hid ((E.out.call hr hk).state (show _ = reS1 st from rdLe'_one _ _))
  clear hr hk
  obtain ⟨u0, u1, u2, u3, u4, u5, u6, u7, u8, u9⟩ := rep_cells E.out.b0
  have ff := fun i => E.out.b0.frozen i
  go_wp2_with (fail)
  clear u0 u1 u2 u3 u4 u5 u6 u7 u8 u9 ff
  replace E := Lib.hid ((E.out.store0 7 (.int .i64 Y)).as (show _ = Rep.arr ⟨K, D, R, C, 0, 0, Q, Y, [], 0⟩ none 0 from rfl))
  refine (c_predwire_Read p _ _ E.out.rd).mono ?_
  rintro e w8 ⟨v8, rfl, own, hr, hk⟩
  rw [← HF.out] at own
  obtain ⟨A, c, rfl, -⟩ := own_form own
  have HO := Lib.hid (show w.heap.size < w7.heap.size from by have := E.out.b1.lt; simpa [World.setCell] using this)
  have HG := Lib.hid (show G1 < w7.heap.size from by have := E.out.b0.lt; simpa [World.setCell] using this)
  have O := Lib.hid (show World.ownsRow w8 w7.heap.size 74 5 (.slice A F.length c) F.length (F.flatMap Node.cells) from by simpa [World.setCell] using own)
  clear own
  replace E := Lib.hid ((E.out.call hr hk).state (show _ = reS2 st from rfl))
  clear hr hk
  obtain ⟨u0, u1, u2, u3, u4, u5, u6, u7, u8, u9⟩ := rep_cells E.out.b0
  have ff := fun i => E.out.b0.frozen i
  go_wp2_with (fail)
  clear u0 u1 u2 u3 u4 u5 u6 u7 u8 u9 ff
  replace O := Lib.hid (own_kept O.out (kept_set w8 G1 8 (.slice A F.length c)) (fun g hg => by injection hg with hg; have := HG.out; omega))
  replace E := Lib.hid ((E.out.store0 8 (.slice A F.length c)).as (show _ = Rep.arr ⟨K, D, R, C, 0, 0, Q, Y, F, 0⟩ A c from rfl))
  refine (c_octet_RNum p _ 511 _ E.out.rd).mono ?_
  rintro e w9 ⟨rfl, hr, hk⟩
  replace O := Lib.hid (own_kept O.out hk (fun g hg => by have := E.out.low g hg; have := HO.out; omega))
  replace E := Lib.hid ((E.out.call hr hk).state (show _ = reS3 st from rfl))
  clear hr hk
  obtain ⟨u0, u1, u2, u3, u4, u5, u6, u7, u8, u9⟩ := rep_cells E.out.b0
  have ff := fun i => E.out.b0.frozen i
  go_wp2_with (fail)
  clear u0 u1 u2 u3 u4 u5 u6 u7 u8 u9 ff
  replace O := Lib.hid (own_kept O.out (kept_set w9 G1 9 (.int .u32 M)) (fun g hg => by injection hg with hg; have := HG.out; omega))
  replace E := Lib.hid ((E.out.store0 9 (.int .u32 M)).as (show _ = Rep.arr ⟨K, D, R, C, 0, 0, Q, Y, F, M⟩ A c from rfl))
  refine (c_octet_Err p _ _ E.out.rd).mono ?_
  rintro e w10 ⟨rfl, hr, hk⟩
  replace O := Lib.hid (own_kept O.out hk (fun g hg => by have := E.out.low g hg; have := HO.out; omega))
  replace E := Lib.hid ((E.out.call hr hk).state (show _ = reS3 st from rfl))
  clear hr hk
  go_wp2_with (with_reducible refine stop_store 37 (.tmp 2) (.tmp 47) rfl rfl ?_)
  refine Stop.mk (wpList_storeB rfl _ _ _ rfl w.heap.size _ rfl rfl _ E.out.b1 strRp rfl rfl (by simp [Value.oneCell']) ?_)
  intro w99 hb99 hk99
  replace E := Lib.hid (E.out.put1 hb99 hk99)
  clear hk99
  go_wp2_with (fail)
  exact bodyPost_ret (results_B rfl rfl hb99 strRp rfl) rfl ⟨none, 0, rfl, World.ownsRow_nil _ _ _ _, E.out.rd, E.out.kept⟩
set_option maxHeartbeats 4000000 in
set_option maxRecDepth 4000 in
theorem ledger_Read_else1 (p : Option Nat) (st : Rd) (w : World) (hr : RdP w p st) (hc : reCode st = 0) (hk2 : reK st ≠ 2) (hk3 : reK st ≠ 3) (he : (rdRep' st).e = 0) : Calls Try.prog 18 #[ptr p] w (RetPA p (rdRep' st) w (rdRep st)) := by
  obtain ⟨x1, x2⟩ := re_else hc hk2 hk3
  rw [rdRep_ok he, x2, x1]
  rw [x1] at he
  clear x1 x2
  obtain ⟨K, hK⟩ : ∃ K, K = reK st := ⟨_, rfl⟩
  obtain ⟨D, hD⟩ : ∃ K, K = rdN (reA st) 5 := ⟨_, rfl⟩
  obtain ⟨R, hR⟩ : ∃ K, K = rdN (reB st) 1099511627776 := ⟨_, rfl⟩
  obtain ⟨C, hC⟩ : ∃ K, K = reCode st := ⟨_, rfl⟩
  obtain ⟨Q, hQ⟩ : ∃ K, K = rdN (reD st) 1099511627776 := ⟨_, rfl⟩
  have je : ((reE st).e != 0) = false := by simpa using he
  have jc : (C == 0) = true := by rw [hC]; simpa using hc
  have j2 : (K == 2) = false := by rw [hK]; simpa using hk2
  have j3 : (K == 3) = false := by rw [hK]; simpa using hk3
  have HK := Lib.hid (show K = rdN st 4 from hK)
  have HD := Lib.hid (show D = rdN (reA st) 5 from hD)
  have HR := Lib.hid (show R = rdN (reB st) 1099511627776 from hR)
  have HC := Lib.hid (show C = rdN (reC st) 16 from hC)
  have HQ := Lib.hid (show Q = rdN (reD st) 1099511627776 from hQ)
  rw [← hK, ← hD, ← hR, ← hQ]
  have HC0 := Lib.hid (hC.trans hc)
  clear hK hD hR hC hQ hc he hk2 hk3
  have E := Lib.hid ((EnvP.start hr).alloc 37 (Rep.arr rz none 0))
  clear hr
  go_enter Try.func18, Try.ntmps18
  go_wp2_with (fail)
  refine (c_ledger_above p st 2 4 _ E.out.rd).mono ?_
  rintro e w1 ⟨rfl, hr, hk⟩
  rw [← HK.out]
  replace E := Lib.hid ((E.out.call hr hk).state (show _ = reA st from rfl))
  clear hr hk
  go_wp2_with (with_reducible refine stop_store 37 (.tmp 3) (.tmp 6) rfl rfl ?_)
  refine Stop.mk (wpList_storeB rfl _ _ _ rfl w1.heap.size _ rfl rfl _ (Blk.new _ _ _) strRp rfl rfl (by simp [Value.oneCell']) ?_)
  intro w2 hb2 hk2
  replace E := Lib.hid (((E.out.alloc 37 (Rep.arr rz none 0)).put0 hb2 hk2).as (show _ = Rep.arr ⟨K, 0, 0, 0, 0, 0, 0, 0, [], 0⟩ none 0 from rfl))
  clear hb2 hk2
  have HG0 := Lib.hid (show w1.heap.size < w2.heap.size from E.out.b0.lt)
  obtain ⟨G1, hG1⟩ : ∃ g, g = w1.heap.size := ⟨_, rfl⟩
  rw [← hG1] at E HG0 ⊢
  clear hG1
  go_wp2_with (fail)
  refine (c_octet_RNum p _ 5 _ E.out.rd).mono ?_
  rintro e w3 ⟨rfl, hr, hk⟩
  rw [← HD.out]
  replace E := Lib.hid ((E.out.call hr hk).state (show _ = reB st from rfl))
  clear hr hk
  obtain ⟨u0, u1, u2, u3, u4, u5, u6, u7, u8, u9⟩ := rep_cells E.out.b0
  have ff := fun i => E.out.b0.frozen i
  go_wp2_with (fail)
  clear u0 u1 u2 u3 u4 u5 u6 u7 u8 u9 ff
  replace E := Lib.hid ((E.out.store0 1 (.int .i64 D)).as (show _ = Rep.arr ⟨K, D, 0, 0, 0, 0, 0, 0, [], 0⟩ none 0 from rfl))
  refine (c_ledger_above p _ 1 1099511627776 _ E.out.rd).mono ?_
  rintro e w4 ⟨rfl, hr, hk⟩
  rw [← HR.out]
  replace E := Lib.hid ((E.out.call hr hk).state (show _ = reC st from rdLe'_one _ _))
  clear hr hk
  obtain ⟨u0, u1, u2, u3, u4, u5, u6, u7, u8, u9⟩ := rep_cells E.out.b0
  have ff := fun i => E.out.b0.frozen i
  go_wp2_with (fail)
  clear u0 u1 u2 u3 u4 u5 u6 u7 u8 u9 ff
  replace E := Lib.hid ((E.out.store0 2 (.int .i64 R)).as (show _ = Rep.arr ⟨K, D, R, 0, 0, 0, 0, 0, [], 0⟩ none 0 from rfl))
  refine (c_octet_RNum p _ 16 _ E.out.rd).mono ?_
  rintro e w5 ⟨rfl, hr, hk⟩
  rw [← HC.out]
  replace E := Lib.hid ((E.out.call hr hk).state (show _ = reD st from rfl))
  clear hr hk
  obtain ⟨u0, u1, u2, u3, u4, u5, u6, u7, u8, u9⟩ := rep_cells E.out.b0
  have ff := fun i => E.out.b0.frozen i
  go_wp2_with (fail)
  clear u0 u1 u2 u3 u4 u5 u6 u7 u8 u9 ff
  replace E := Lib.hid ((E.out.store0 3 (.int .i64 C)).as (show _ = Rep.arr ⟨K, D, R, C, 0, 0, 0, 0, [], 0⟩ none 0 from rfl))
  refine (c_octet_RNum p _ 1099511627776 _ E.out.rd).mono ?_
  rintro e w6 ⟨rfl, hr, hk⟩
  rw [← HQ.out]
  replace E := Lib.hid ((E.out.call hr hk).state (show _ = reE st from rfl))
  clear hr hk
  obtain ⟨u0, u1, u2, u3, u4, u5, u6, u7, u8, u9⟩ := rep_cells E.out.b0
  have ff := fun i => E.out.b0.frozen i
  go_wp2_with (fail)
  clear u0 u1 u2 u3 u4 u5 u6 u7 u8 u9 ff
  replace E := Lib.hid ((E.out.store0 6 (.int .i64 Q)).as (show _ = Rep.arr ⟨K, D, R, C, 0, 0, Q, 0, [], 0⟩ none 0 from rfl))
  refine (c_octet_Err p _ _ E.out.rd).mono ?_
  rintro e w7 ⟨rfl, hr, hk⟩
  replace E := Lib.hid ((E.out.call hr hk).state (show _ = reE st from rfl))
  clear hr hk
  go_wp2_with (with_reducible refine stop_load 37 (.tmp 3) rfl rfl ?_)
  refine Stop.mk (wpList_loadB rfl _ _ rfl G1 rfl _ E.out.b0 strRp rfl ?_)
  go_wp2_with (with_reducible refine stop_store 37 (.tmp 2) (.tmp 48) rfl rfl ?_)
  refine Stop.mk (wpList_storeB rfl _ _ _ rfl w.heap.size _ rfl rfl _ E.out.b1 strRp rfl rfl (by simp [Value.oneCell']) ?_)
  intro w99 hb99 hk99
  replace E := Lib.hid (E.out.put1 hb99 hk99)
  clear hk99
  go_wp2_with (fail)
  have hC0 := HC0.out; subst hC0
  exact bodyPost_ret (results_B rfl rfl hb99 strRp rfl) rfl ⟨none, 0, rfl, World.ownsRow_nil _ _ _ _, E.out.rd, E.out.kept⟩
set_option maxHeartbeats 4000000 in
set_option maxRecDepth 4000 in
theorem ledger_Read_else0 (p : Option Nat) (st : Rd) (w : World) (hr : RdP w p st) (hc : reCode st = 0) (hk2 : reK st ≠ 2) (hk3 : reK st ≠ 3) (he : (rdRep' st).e ≠ 0) : Calls Try.prog 18 #[ptr p] w (RetPA p (rdRep' st) w (rdRep st)) := by
  obtain ⟨x1, x2⟩ := re_else hc hk2 hk3
  rw [rdRep_bad he, x1]
  rw [x1] at he
  clear x1 x2
  obtain ⟨K, hK⟩ : ∃ K, K = reK st := ⟨_, rfl⟩
  obtain ⟨D, hD⟩ : ∃ K, K = rdN (reA st) 5 := ⟨_, rfl⟩
  obtain ⟨R, hR⟩ : ∃ K, K = rdN (reB st) 1099511627776 := ⟨_, rfl⟩
  obtain ⟨C, hC⟩ : ∃ K, K = reCode st := ⟨_, rfl⟩
  obtain ⟨Q, hQ⟩ : ∃ K, K = rdN (reD st) 1099511627776 := ⟨_, rfl⟩
  have je : ((reE st).e != 0) = true := by simpa using he
  have jc : (C == 0) = true := by rw [hC]; simpa using hc
  have j2 : (K == 2) = false := by rw [hK]; simpa using hk2
  have j3 : (K == 3) = false := by rw [hK]; simpa using hk3
  have HK := Lib.hid (show K = rdN st 4 from hK)
  have HD := Lib.hid (show D = rdN (reA st) 5 from hD)
  have HR := Lib.hid (show R = rdN (reB st) 1099511627776 from hR)
  have HC := Lib.hid (show C = rdN (reC st) 16 from hC)
  have HQ := Lib.hid (show Q = rdN (reD st) 1099511627776 from hQ)
  clear hK hD hR hC hQ hc he hk2 hk3
  have E := Lib.hid ((EnvP.start hr).alloc 37 (Rep.arr rz none 0))
  clear hr
  go_enter Try.func18, Try.ntmps18
  go_wp2_with (fail)
  refine (c_ledger_above p st 2 4 _ E.out.rd).mono ?_
  rintro e w1 ⟨rfl, hr, hk⟩
  rw [← HK.out]
  replace E := Lib.hid ((E.out.call hr hk).state (show _ = reA st from rfl))
  clear hr hk
  go_wp2_with (with_reducible refine stop_store 37 (.tmp 3) (.tmp 6) rfl rfl ?_)
  refine Stop.mk (wpList_storeB rfl _ _ _ rfl w1.heap.size _ rfl rfl _ (Blk.new _ _ _) strRp rfl rfl (by simp [Value.oneCell']) ?_)
  intro w2 hb2 hk2
  replace E := Lib.hid (((E.out.alloc 37 (Rep.arr rz none 0)).put0 hb2 hk2).as (show _ = Rep.arr ⟨K, 0, 0, 0, 0, 0, 0, 0, [], 0⟩ none 0 from rfl))
  clear hb2 hk2
  have HG0 := Lib.hid (show w1.heap.size < w2.heap.size from E.out.b0.lt)
  obtain ⟨G1, hG1⟩ : ∃ g, g = w1.heap.size := ⟨_, rfl⟩
  rw [← hG1] at E HG0 ⊢
  clear hG1
  go_wp2_with (fail)
  refine (c_octet_RNum p _ 5 _ E.out.rd).mono ?_
  rintro e w3 ⟨rfl, hr, hk⟩
  rw [← HD.out]
  replace E := Lib.hid ((E.out.call hr hk).state (show _ = reB st from rfl))
  clear hr hk
  obtain ⟨u0, u1, u2, u3, u4, u5, u6, u7, u8, u9⟩ := rep_cells E.out.b0
  have ff := fun i => E.out.b0.frozen i
  go_wp2_with (fail)
  clear u0 u1 u2 u3 u4 u5 u6 u7 u8 u9 ff
  replace E := Lib.hid ((E.out.store0 1 (.int .i64 D)).as (show _ = Rep.arr ⟨K, D, 0, 0, 0, 0, 0, 0, [], 0⟩ none 0 from rfl))
  refine (c_ledger_above p _ 1 1099511627776 _ E.out.rd).mono ?_
  rintro e w4 ⟨rfl, hr, hk⟩
  rw [← HR.out]
  replace E := Lib.hid ((E.out.call hr hk).state (show _ = reC st from rdLe'_one _ _))
  clear hr hk
  obtain ⟨u0, u1, u2, u3, u4, u5, u6, u7, u8, u9⟩ := rep_cells E.out.b0
  have ff := fun i => E.out.b0.frozen i
  go_wp2_with (fail)
  clear u0 u1 u2 u3 u4 u5 u6 u7 u8 u9 ff
  replace E := Lib.hid ((E.out.store0 2 (.int .i64 R)).as (show _ = Rep.arr ⟨K, D, R, 0, 0, 0, 0, 0, [], 0⟩ none 0 from rfl))
  refine (c_octet_RNum p _ 16 _ E.out.rd).mono ?_
  rintro e w5 ⟨rfl, hr, hk⟩
  rw [← HC.out]
  replace E := Lib.hid ((E.out.call hr hk).state (show _ = reD st from rfl))
  clear hr hk
  obtain ⟨u0, u1, u2, u3, u4, u5, u6, u7, u8, u9⟩ := rep_cells E.out.b0
  have ff := fun i => E.out.b0.frozen i
  go_wp2_with (fail)
  clear u0 u1 u2 u3 u4 u5 u6 u7 u8 u9 ff
  replace E := Lib.hid ((E.out.store0 3 (.int .i64 C)).as (show _ = Rep.arr ⟨K, D, R, C, 0, 0, 0, 0, [], 0⟩ none 0 from rfl))
  refine (c_octet_RNum p _ 1099511627776 _ E.out.rd).mono ?_
  rintro e w6 ⟨rfl, hr, hk⟩
  rw [← HQ.out]
  replace E := Lib.hid ((E.out.call hr hk).state (show _ = reE st from rfl))
  clear hr hk
  obtain ⟨u0, u1, u2, u3, u4, u5, u6, u7, u8, u9⟩ := rep_cells E.out.b0
  have ff := fun i => E.out.b0.frozen i
  go_wp2_with (fail)
  clear u0 u1 u2 u3 u4 u5 u6 u7 u8 u9 ff
  replace E := Lib.hid ((E.out.store0 6 (.int .i64 Q)).as (show _ = Rep.arr ⟨K, D, R, C, 0, 0, Q, 0, [], 0⟩ none 0 from rfl))
  refine (c_octet_Err p _ _ E.out.rd).mono ?_
  rintro e w7 ⟨rfl, hr, hk⟩
  replace E := Lib.hid ((E.out.call hr hk).state (show _ = reE st from rfl))
  clear hr hk
  go_wp2_with (with_reducible refine stop_store 37 (.tmp 2) (.tmp 47) rfl rfl ?_)
  refine Stop.mk (wpList_storeB rfl _ _ _ rfl w.heap.size _ rfl rfl _ E.out.b1 strRp rfl rfl (by simp [Value.oneCell']) ?_)
  intro w99 hb99 hk99
  replace E := Lib.hid (E.out.put1 hb99 hk99)
  clear hk99
  go_wp2_with (fail)
  exact bodyPost_ret (results_B rfl rfl hb99 strRp rfl) rfl ⟨none, 0, rfl, World.ownsRow_nil _ _ _ _, E.out.rd, E.out.kept⟩
theorem c_ledger_Read (p : Option Nat) (st : Rd) (w : World) (hr : RdP w p st) : Calls Try.prog 18 #[ptr p] w (RetPA p (rdRep' st) w (rdRep st)) := by
  by_cases he : (rdRep' st).e = 0
  · by_cases hc : reCode st = 0
    · by_cases h2 : reK st = 2
      · exact ledger_Read_put1 p st w hr hc h2 he
      · by_cases h3 : reK st = 3
        · exact ledger_Read_sub1 p st w hr hc h3 he
        · exact ledger_Read_else1 p st w hr hc h2 h3 he
    · exact ledger_Read_err1 p st w hr hc he
  · by_cases hc : reCode st = 0
    · by_cases h2 : reK st = 2
      · exact ledger_Read_put0 p st w hr hc h2 he
      · by_cases h3 : reK st = 3
        · exact ledger_Read_sub0 p st w hr hc h3 he
        · exact ledger_Read_else0 p st w hr hc h2 h3 he
    · exact ledger_Read_err0 p st w hr hc he
end Go.Proofs.Ytplipddgeanajaa
/-! W30g -/
namespace Go.Proofs.Ytplipddgeanajaa
open Go.RowKit

set_option maxHeartbeats 4000000 in
set_option maxRecDepth 4000 in
theorem ref30_Read_A (p : Nat) (st : Rd) (w : World) (hr : RdR w p st) (h1 : (rdN' st 4).e ≠ 0) (hd : (reD st).e ≠ 0) : Calls Try.prog 19 #[.pointer (some ⟨p, 0, none⟩)] w (RetRA p (rdRep' st) w (rdRep st)) := by
  obtain ⟨x1, x2⟩ := reD_err hd
  rw [x2, x1]
  clear x1 x2
  obtain ⟨K, hK⟩ : ∃ K, K = reK st := ⟨_, rfl⟩
  obtain ⟨D, hD⟩ : ∃ K, K = rdN (reA st) 5 := ⟨_, rfl⟩
  obtain ⟨R, hR⟩ : ∃ K, K = rdN (reB st) 1099511627776 := ⟨_, rfl⟩
  obtain ⟨C, hC⟩ : ∃ K, K = reCode st := ⟨_, rfl⟩
  have je : ((reD st).e != 0) = true := by simpa using hd
  have HK := Lib.hid (show K = rdN st 4 from hK)
  have HD := Lib.hid (show D = rdN (reA st) 5 from hD)
  have HR := Lib.hid (show R = rdN (reB st) 1099511627776 from hR)
  have HC := Lib.hid (show C = rdN (reC st) 16 from hC)
  have k1 : ((rdN' st 4).e == 0) = false := by simpa using h1
  have RA := Lib.hid (show rdN' st 4 = reA st by unfold reA; rw [rdLe'_low (by have := rdN_err' h1; omega), rdF_err h1])
  have j7 : ((reD st).e == 0) = false := by simpa using hd
  clear hK hD hR hC h1 hd
  have E := Lib.hid ((EnvR.start hr).alloc 37 (Rep.arr rz none 0))
  clear hr
  go_enter Try.func19, Try.ntmps19
  go_wp2_with (fail)
  refine (c_ref01_RNum p st 4 _ E.out.rd).mono ?_
  rintro e w1 ⟨rfl, hr, hk⟩
  rw [← HK.out]
  replace E := Lib.hid ((E.out.call hr hk).state (show _ = rdN' st 4 from rfl))
  clear hr hk
  go_wp2_with (with_reducible refine stop_store 37 (.tmp 3) (.tmp 6) rfl rfl ?_)
  refine Stop.mk (wpList_storeB rfl _ _ _ rfl w1.heap.size _ rfl rfl _ (Blk.new _ _ _) strRp rfl rfl (by simp [Value.oneCell']) ?_)
  intro w2 hb2 hk2
  replace E := Lib.hid (((E.out.alloc 37 (Rep.arr rz none 0)).put0 hb2 hk2).as (show _ = Rep.arr ⟨K, 0, 0, 0, 0, 0, 0, 0, [], 0⟩ none 0 from rfl))
  clear hb2 hk2
  have HG0 := Lib.hid (show w1.heap.size < w2.heap.size from E.out.b0.lt)
  obtain ⟨G1, hG1⟩ : ∃ g, g = w1.heap.size := ⟨_, rfl⟩
  rw [← hG1] at E HG0 ⊢
  clear hG1
  have hpg : ¬ p = G1 := by have := E.out.low; have := E.out.blks.1.2.1; omega
  have hgp : ¬ G1 = p := fun e => hpg e.symm
  obtain ⟨u0, u1, u2, u3, u4, u5, u6, u7, u8, u9⟩ := rep_cells E.out.b0
  have ff := fun i => E.out.b0.frozen i
  have uc := E.out.rd.1.cell (i := 1) rfl
  go_wp2_with (fail)
  clear u0 u1 u2 u3 u4 u5 u6 u7 u8 u9 ff uc
  replace E := Lib.hid (E.out.state RA.out)
  refine (c_ref01_RNum p _ 5 _ E.out.rd).mono ?_
  rintro e w3 ⟨rfl, hr, hk⟩
  rw [← HD.out]
  replace E := Lib.hid ((E.out.call hr hk).state (show _ = reB st from rfl))
  clear hr hk
  obtain ⟨u0, u1, u2, u3, u4, u5, u6, u7, u8, u9⟩ := rep_cells E.out.b0
  have ff := fun i => E.out.b0.frozen i
  have uc := E.out.rd.1.cell (i := 1) rfl
  go_wp2_with (fail)
  clear u0 u1 u2 u3 u4 u5 u6 u7 u8 u9 ff uc
  replace E := Lib.hid ((E.out.store0 1 (.int .i64 D)).as (show _ = Rep.arr ⟨K, D, 0, 0, 0, 0, 0, 0, [], 0⟩ none 0 from rfl))
  refine (c_ref19_Above p _ 1099511627776 _ E.out.rd).mono ?_
  rintro e w4 ⟨rfl, hr, hk⟩
  rw [← HR.out]
  replace E := Lib.hid ((E.out.call hr hk).state (show _ = reC st from rfl))
  clear hr hk
  obtain ⟨u0, u1, u2, u3, u4, u5, u6, u7, u8, u9⟩ := rep_cells E.out.b0
  have ff := fun i => E.out.b0.frozen i
  have uc := E.out.rd.1.cell (i := 1) rfl
  go_wp2_with (fail)
  clear u0 u1 u2 u3 u4 u5 u6 u7 u8 u9 ff uc
  replace E := Lib.hid ((E.out.store0 2 (.int .i64 R)).as (show _ = Rep.arr ⟨K, D, R, 0, 0, 0, 0, 0, [], 0⟩ none 0 from rfl))
  refine (c_ref01_RNum p _ 16 _ E.out.rd).mono ?_
  rintro e w5 ⟨rfl, hr, hk⟩
  rw [← HC.out]
  replace E := Lib.hid ((E.out.call hr hk).state (show _ = reD st from rfl))
  clear hr hk
  obtain ⟨u0, u1, u2, u3, u4, u5, u6, u7, u8, u9⟩ := rep_cells E.out.b0
  have ff := fun i => E.out.b0.frozen i
  have uc := E.out.rd.1.cell (i := 1) rfl
  go_wp2_with (with_reducible refine stop_store 37 (.tmp 2) (.tmp 68) rfl rfl ?_)
  clear u0 u1 u2 u3 u4 u5 u6 u7 u8 u9 ff uc
  replace E := Lib.hid ((E.out.store0 3 (.int .i64 C)).as (show _ = Rep.arr ⟨K, D, R, C, 0, 0, 0, 0, [], 0⟩ none 0 from rfl))
  refine Stop.mk (wpList_storeB rfl _ _ _ rfl w.heap.size _ rfl rfl _ E.out.b1 strRp rfl rfl (by simp [Value.oneCell']) ?_)
  intro w99 hb99 hk99
  replace E := Lib.hid (E.out.put1 hb99 hk99)
  clear hk99
  go_wp2_with (fail)
  exact bodyPost_ret (results_B rfl rfl hb99 strRp rfl) rfl ⟨none, 0, rfl, World.ownsRow_nil _ _ _ _, E.out.rd, E.out.kept⟩
set_option maxHeartbeats 4000000 in
set_option maxRecDepth 4000 in
theorem ref30_Read_B (p : Nat) (st : Rd) (w : World) (hr : RdR w p st) (h1 : (rdN' st 4).e = 0) (hk2' : rdN st 4 < 2) (hd : (reD st).e ≠ 0) : Calls Try.prog 19 #[.pointer (some ⟨p, 0, none⟩)] w (RetRA p (rdRep' st) w (rdRep st)) := by
  obtain ⟨x1, x2⟩ := reD_err hd
  rw [x2, x1]
  clear x1 x2
  obtain ⟨K, hK⟩ : ∃ K, K = reK st := ⟨_, rfl⟩
  obtain ⟨D, hD⟩ : ∃ K, K = rdN (reA st) 5 := ⟨_, rfl⟩
  obtain ⟨R, hR⟩ : ∃ K, K = rdN (reB st) 1099511627776 := ⟨_, rfl⟩
  obtain ⟨C, hC⟩ : ∃ K, K = reCode st := ⟨_, rfl⟩
  have je : ((reD st).e != 0) = true := by simpa using hd
  have HK := Lib.hid (show K = rdN st 4 from hK)
  have HD := Lib.hid (show D = rdN (reA st) 5 from hD)
  have HR := Lib.hid (show R = rdN (reB st) 1099511627776 from hR)
  have HC := Lib.hid (show C = rdN (reC st) 16 from hC)
  have k1 : ((rdN' st 4).e == 0) = true := by simpa using h1
  have k2 : decide (K < 2) = true := by rw [HK.out]; simpa using hk2'
  have RA := Lib.hid (show rdF (rdN' st 4) 3 = reA st by unfold reA; rw [rdLe'_low hk2'])
  have j7 : ((reD st).e == 0) = false := by simpa using hd
  clear hK hD hR hC h1 hd hk2'
  have E := Lib.hid ((EnvR.start hr).alloc 37 (Rep.arr rz none 0))
  clear hr
  go_enter Try.func19, Try.ntmps19
  go_wp2_with (fail)
  refine (c_ref01_RNum p st 4 _ E.out.rd).mono ?_
  rintro e w1 ⟨rfl, hr, hk⟩
  rw [← HK.out]
  replace E := Lib.hid ((E.out.call hr hk).state (show _ = rdN' st 4 from rfl))
  clear hr hk
  go_wp2_with (with_reducible refine stop_store 37 (.tmp 3) (.tmp 6) rfl rfl ?_)
  refine Stop.mk (wpList_storeB rfl _ _ _ rfl w1.heap.size _ rfl rfl _ (Blk.new _ _ _) strRp rfl rfl (by simp [Value.oneCell']) ?_)
  intro w2 hb2 hk2
  replace E := Lib.hid (((E.out.alloc 37 (Rep.arr rz none 0)).put0 hb2 hk2).as (show _ = Rep.arr ⟨K, 0, 0, 0, 0, 0, 0, 0, [], 0⟩ none 0 from rfl))
  clear hb2 hk2
  have HG0 := Lib.hid (show w1.heap.size < w2.heap.size from E.out.b0.lt)
  obtain ⟨G1, hG1⟩ : ∃ g, g = w1.heap.size := ⟨_, rfl⟩
  rw [← hG1] at E HG0 ⊢
  clear hG1
  have hpg : ¬ p = G1 := by have := E.out.low; have := E.out.blks.1.2.1; omega
  have hgp : ¬ G1 = p := fun e => hpg e.symm
  obtain ⟨u0, u1, u2, u3, u4, u5, u6, u7, u8, u9⟩ := rep_cells E.out.b0
  have ff := fun i => E.out.b0.frozen i
  have uc := E.out.rd.1.cell (i := 1) rfl
  go_wp2_with (fail)
  clear u0 u1 u2 u3 u4 u5 u6 u7 u8 u9 ff uc
  refine (c_ref01_Fail p _ 3 _ E.out.rd).mono ?_
  rintro e w3 ⟨rfl, hr, hk⟩
  replace E := Lib.hid ((E.out.call hr hk).state (show _ = reA st from RA.out))
  clear hr hk
  go_wp2_with (fail)
  refine (c_ref01_RNum p _ 5 _ E.out.rd).mono ?_
  rintro e w4 ⟨rfl, hr, hk⟩
  rw [← HD.out]
  replace E := Lib.hid ((E.out.call hr hk).state (show _ = reB st from rfl))
  clear hr hk
  obtain ⟨u0, u1, u2, u3, u4, u5, u6, u7, u8, u9⟩ := rep_cells E.out.b0
  have ff := fun i => E.out.b0.frozen i
  have uc := E.out.rd.1.cell (i := 1) rfl
  go_wp2_with (fail)
  clear u0 u1 u2 u3 u4 u5 u6 u7 u8 u9 ff uc
  replace E := Lib.hid ((E.out.store0 1 (.int .i64 D)).as (show _ = Rep.arr ⟨K, D, 0, 0, 0, 0, 0, 0, [], 0⟩ none 0 from rfl))
  refine (c_ref19_Above p _ 1099511627776 _ E.out.rd).mono ?_
  rintro e w5 ⟨rfl, hr, hk⟩
  rw [← HR.out]
  replace E := Lib.hid ((E.out.call hr hk).state (show _ = reC st from rfl))
  clear hr hk
  obtain ⟨u0, u1, u2, u3, u4, u5, u6, u7, u8, u9⟩ := rep_cells E.out.b0
  have ff := fun i => E.out.b0.frozen i
  have uc := E.out.rd.1.cell (i := 1) rfl
  go_wp2_with (fail)
  clear u0 u1 u2 u3 u4 u5 u6 u7 u8 u9 ff uc
  replace E := Lib.hid ((E.out.store0 2 (.int .i64 R)).as (show _ = Rep.arr ⟨K, D, R, 0, 0, 0, 0, 0, [], 0⟩ none 0 from rfl))
  refine (c_ref01_RNum p _ 16 _ E.out.rd).mono ?_
  rintro e w6 ⟨rfl, hr, hk⟩
  rw [← HC.out]
  replace E := Lib.hid ((E.out.call hr hk).state (show _ = reD st from rfl))
  clear hr hk
  obtain ⟨u0, u1, u2, u3, u4, u5, u6, u7, u8, u9⟩ := rep_cells E.out.b0
  have ff := fun i => E.out.b0.frozen i
  have uc := E.out.rd.1.cell (i := 1) rfl
  go_wp2_with (with_reducible refine stop_store 37 (.tmp 2) (.tmp 68) rfl rfl ?_)
  clear u0 u1 u2 u3 u4 u5 u6 u7 u8 u9 ff uc
  replace E := Lib.hid ((E.out.store0 3 (.int .i64 C)).as (show _ = Rep.arr ⟨K, D, R, C, 0, 0, 0, 0, [], 0⟩ none 0 from rfl))
  refine Stop.mk (wpList_storeB rfl _ _ _ rfl w.heap.size _ rfl rfl _ E.out.b1 strRp rfl rfl (by simp [Value.oneCell']) ?_)
  intro w99 hb99 hk99
  replace E := Lib.hid (E.out.put1 hb99 hk99)
  clear hk99
  go_wp2_with (fail)
  exact bodyPost_ret (results_B rfl rfl hb99 strRp rfl) rfl ⟨none, 0, rfl, World.ownsRow_nil _ _ _ _, E.out.rd, E.out.kept⟩
set_option maxHeartbeats 4000000 in
set_option maxRecDepth 4000 in
theorem ref30_Read_D (p : Nat) (st : Rd) (w : World) (hr : RdR w p st) (h1 : (rdN' st 4).e = 0) (hk2' : 2 ≤ rdN st 4) (hd : (reD st).e ≠ 0) : Calls Try.prog 19 #[.pointer (some ⟨p, 0, none⟩)] w (RetRA p (rdRep' st) w (rdRep st)) := by
  obtain ⟨x1, x2⟩ := reD_err hd
  rw [x2, x1]
  clear x1 x2
  obtain ⟨K, hK⟩ : ∃ K, K = reK st := ⟨_, rfl⟩
  obtain ⟨D, hD⟩ : ∃ K, K = rdN (reA st) 5 := ⟨_, rfl⟩
  obtain ⟨R, hR⟩ : ∃ K, K = rdN (reB st) 1099511627776 := ⟨_, rfl⟩
  obtain ⟨C, hC⟩ : ∃ K, K = reCode st := ⟨_, rfl⟩
  have je : ((reD st).e != 0) = true := by simpa using hd
  have HK := Lib.hid (show K = rdN st 4 from hK)
  have HD := Lib.hid (show D = rdN (reA st) 5 from hD)
  have HR := Lib.hid (show R = rdN (reB st) 1099511627776 from hR)
  have HC := Lib.hid (show C = rdN (reC st) 16 from hC)
  have k1 : ((rdN' st 4).e == 0) = true := by simpa using h1
  have k2 : decide (K < 2) = false := by rw [HK.out]; simpa using hk2'
  have RA := Lib.hid (show rdN' st 4 = reA st by unfold reA; rw [rdLe'_high hk2'])
  have j7 : ((reD st).e == 0) = false := by simpa using hd
  clear hK hD hR hC h1 hd hk2'
  have E := Lib.hid ((EnvR.start hr).alloc 37 (Rep.arr rz none 0))
  clear hr
  go_enter Try.func19, Try.ntmps19
  go_wp2_with (fail)
  refine (c_ref01_RNum p st 4 _ E.out.rd).mono ?_
  rintro e w1 ⟨rfl, hr, hk⟩
  rw [← HK.out]
  replace E := Lib.hid ((E.out.call hr hk).state (show _ = rdN' st 4 from rfl))
  clear hr hk
  go_wp2_with (with_reducible refine stop_store 37 (.tmp 3) (.tmp 6) rfl rfl ?_)
  refine Stop.mk (wpList_storeB rfl _ _ _ rfl w1.heap.size _ rfl rfl _ (Blk.new _ _ _) strRp rfl rfl (by simp [Value.oneCell']) ?_)
  intro w2 hb2 hk2
  replace E := Lib.hid (((E.out.alloc 37 (Rep.arr rz none 0)).put0 hb2 hk2).as (show _ = Rep.arr ⟨K, 0, 0, 0, 0, 0, 0, 0, [], 0⟩ none 0 from rfl))
  clear hb2 hk2
  have HG0 := Lib.hid (show w1.heap.size < w2.heap.size from E.out.b0.lt)
  obtain ⟨G1, hG1⟩ : ∃ g, g = w1.heap.size := ⟨_, rfl⟩
  rw [← hG1] at E HG0 ⊢
  clear hG1
  have hpg : ¬ p = G1 := by have := E.out.low; have := E.out.blks.1.2.1; omega
  have hgp : ¬ G1 = p := fun e => hpg e.symm
  obtain ⟨u0, u1, u2, u3, u4, u5, u6, u7, u8, u9⟩ := rep_cells E.out.b0
  have ff := fun i => E.out.b0.frozen i
  have uc := E.out.rd.1.cell (i := 1) rfl
  go_wp2_with (fail)
  clear u0 u1 u2 u3 u4 u5 u6 u7 u8 u9 ff uc
  replace E := Lib.hid (E.out.state RA.out)
  refine (c_ref01_RNum p _ 5 _ E.out.rd).mono ?_
  rintro e w3 ⟨rfl, hr, hk⟩
  rw [← HD.out]
  replace E := Lib.hid ((E.out.call hr hk).state (show _ = reB st from rfl))
  clear hr hk
  obtain ⟨u0, u1, u2, u3, u4, u5, u6, u7, u8, u9⟩ := rep_cells E.out.b0
  have ff := fun i => E.out.b0.frozen i
  have uc := E.out.rd.1.cell (i := 1) rfl
  go_wp2_with (fail)
  clear u0 u1 u2 u3 u4 u5 u6 u7 u8 u9 ff uc
  replace E := Lib.hid ((E.out.store0 1 (.int .i64 D)).as (show _ = Rep.arr ⟨K, D, 0, 0, 0, 0, 0, 0, [], 0⟩ none 0 from rfl))
  refine (c_ref19_Above p _ 1099511627776 _ E.out.rd).mono ?_
  rintro e w4 ⟨rfl, hr, hk⟩
  rw [← HR.out]
  replace E := Lib.hid ((E.out.call hr hk).state (show _ = reC st from rfl))
  clear hr hk
  obtain ⟨u0, u1, u2, u3, u4, u5, u6, u7, u8, u9⟩ := rep_cells E.out.b0
  have ff := fun i => E.out.b0.frozen i
  have uc := E.out.rd.1.cell (i := 1) rfl
  go_wp2_with (fail)
  clear u0 u1 u2 u3 u4 u5 u6 u7 u8 u9 ff uc
  replace E := Lib.hid ((E.out.store0 2 (.int .i64 R)).as (show _ = Rep.arr ⟨K, D, R, 0, 0, 0, 0, 0, [], 0⟩ none 0 from rfl))
  refine (c_ref01_RNum p _ 16 _ E.out.rd).mono ?_
  rintro e w5 ⟨rfl, hr, hk⟩
  rw [← HC.out]
  replace E := Lib.hid ((E.out.call hr hk).state (show _ = reD st from rfl))
  clear hr hk
  obtain ⟨u0, u1, u2, u3, u4, u5, u6, u7, u8, u9⟩ := rep_cells E.out.b0
  have ff := fun i => E.out.b0.frozen i
  have uc := E.out.rd.1.cell (i := 1) rfl
  go_wp2_with (with_reducible refine stop_store 37 (.tmp 2) (.tmp 68) rfl rfl ?_)
  clear u0 u1 u2 u3 u4 u5 u6 u7 u8 u9 ff uc
  replace E := Lib.hid ((E.out.store0 3 (.int .i64 C)).as (show _ = Rep.arr ⟨K, D, R, C, 0, 0, 0, 0, [], 0⟩ none 0 from rfl))
  refine Stop.mk (wpList_storeB rfl _ _ _ rfl w.heap.size _ rfl rfl _ E.out.b1 strRp rfl rfl (by simp [Value.oneCell']) ?_)
  intro w99 hb99 hk99
  replace E := Lib.hid (E.out.put1 hb99 hk99)
  clear hk99
  go_wp2_with (fail)
  exact bodyPost_ret (results_B rfl rfl hb99 strRp rfl) rfl ⟨none, 0, rfl, World.ownsRow_nil _ _ _ _, E.out.rd, E.out.kept⟩
set_option maxHeartbeats 4000000 in
set_option maxRecDepth 4000 in
theorem ref30_Read_C_err1 (p : Nat) (st : Rd) (w : World) (hr : RdR w p st) (hc : reCode st ≠ 0) (hk2' : 2 ≤ rdN st 4) (h1 : (rdN' st 4).e = 0) (hd : (reD st).e = 0) (he : (rdRep' st).e = 0) : Calls Try.prog 19 #[.pointer (some ⟨p, 0, none⟩)] w (RetRA p (rdRep' st) w (rdRep st)) := by
  obtain ⟨x1, x2⟩ := re_err hc
  rw [rdRep_ok he, x2, x1]
  rw [x1] at he
  clear x1 x2
  obtain ⟨K, hK⟩ : ∃ K, K = reK st := ⟨_, rfl⟩
  obtain ⟨D, hD⟩ : ∃ K, K = rdN (reA st) 5 := ⟨_, rfl⟩
  obtain ⟨R, hR⟩ : ∃ K, K = rdN (reB st) 1099511627776 := ⟨_, rfl⟩
  obtain ⟨C, hC⟩ : ∃ K, K = reCode st := ⟨_, rfl⟩
  have je : ((reD st).e != 0) = false := by simpa using he
  have jc : (C == 0) = false := by rw [hC]; simpa using hc
  have HK := Lib.hid (show K = rdN st 4 from hK)
  have HD := Lib.hid (show D = rdN (reA st) 5 from hD)
  have HR := Lib.hid (show R = rdN (reB st) 1099511627776 from hR)
  have HC := Lib.hid (show C = rdN (reC st) 16 from hC)
  rw [← hK, ← hD, ← hR, ← hC]
  have k1 : ((rdN' st 4).e == 0) = true := by simpa using h1
  have k2 : decide (K < 2) = false := by rw [HK.out]; simpa using hk2'
  have RA := Lib.hid (show rdN' st 4 = reA st by unfold reA; rw [rdLe'_high hk2'])
  have j7 : ((reD st).e == 0) = true := by simpa using hd
  clear hK hD hR hC hc he h1 hd hk2'
  have E := Lib.hid ((EnvR.start hr).alloc 37 (Rep.arr rz none 0))
  clear hr
  go_enter Try.func19, Try.ntmps19
  go_wp2_with (fail)
  refine (c_ref01_RNum p st 4 _ E.out.rd).mono ?_
  rintro e w1 ⟨rfl, hr, hk⟩
  rw [← HK.out]
  replace E := Lib.hid ((E.out.call hr hk).state (show _ = rdN' st 4 from rfl))
  clear hr hk
  go_wp2_with (with_reducible refine stop_store 37 (.tmp 3) (.tmp 6) rfl rfl ?_)
  refine Stop.mk (wpList_storeB rfl _ _ _ rfl w1.heap.size _ rfl rfl _ (Blk.new _ _ _) strRp rfl rfl (by simp [Value.oneCell']) ?_)
  intro w2 hb2 hk2
  replace E := Lib.hid (((E.out.alloc 37 (Rep.arr rz none 0)).put0 hb2 hk2).as (show _ = Rep.arr ⟨K, 0, 0, 0, 0, 0, 0, 0, [], 0⟩ none 0 from rfl))
  clear hb2 hk2
  have HG0 := Lib.hid (show w1.heap.size < w2.heap.size from E.out.b0.lt)
  obtain ⟨G1, hG1⟩ : ∃ g, g = w1.heap.size := ⟨_, rfl⟩
  rw [← hG1] at E HG0 ⊢
  clear hG1
  have hpg : ¬ p = G1 := by have := E.out.low; have := E.out.blks.1.2.1; omega
  have hgp : ¬ G1 = p := fun e => hpg e.symm
  obtain ⟨u0, u1, u2, u3, u4, u5, u6, u7, u8, u9⟩ := rep_cells E.out.b0
  have ff := fun i => E.out.b0.frozen i
  have uc := E.out.rd.1.cell (i := 1) rfl
  go_wp2_with (fail)
  clear u0 u1 u2 u3 u4 u5 u6 u7 u8 u9 ff uc
  replace E := Lib.hid (E.out.state RA.out)
  refine (c_ref01_RNum p _ 5 _ E.out.rd).mono ?_
  rintro e w3 ⟨rfl, hr, hk⟩
  rw [← HD.out]
  replace E := Lib.hid ((E.out.call hr hk).state (show _ = reB st from rfl))
  clear hr hk
  obtain ⟨u0, u1, u2, u3, u4, u5, u6, u7, u8, u9⟩ := rep_cells E.out.b0
  have ff := fun i => E.out.b0.frozen i
  have uc := E.out.rd.1.cell (i := 1) rfl
  go_wp2_with (fail)
  clear u0 u1 u2 u3 u4 u5 u6 u7 u8 u9 ff uc
  replace E := Lib.hid ((E.out.store0 1 (.int .i64 D)).as (show _ = Rep.arr ⟨K, D, 0, 0, 0, 0, 0, 0, [], 0⟩ none 0 from rfl))
  refine (c_ref19_Above p _ 1099511627776 _ E.out.rd).mono ?_
  rintro e w4 ⟨rfl, hr, hk⟩
  rw [← HR.out]
  replace E := Lib.hid ((E.out.call hr hk).state (show _ = reC st from rfl))
  clear hr hk
  obtain ⟨u0, u1, u2, u3, u4, u5, u6, u7, u8, u9⟩ := rep_cells E.out.b0
  have ff := fun i => E.out.b0.frozen i
  have uc := E.out.rd.1.cell (i := 1) rfl
  go_wp2_with (fail)
  clear u0 u1 u2 u3 u4 u5 u6 u7 u8 u9 ff uc
  replace E := Lib.hid ((E.out.store0 2 (.int .i64 R)).as (show _ = Rep.arr ⟨K, D, R, 0, 0, 0, 0, 0, [], 0⟩ none 0 from rfl))
  refine (c_ref01_RNum p _ 16 _ E.out.rd).mono ?_
  rintro e w5 ⟨rfl, hr, hk⟩
  rw [← HC.out]
  replace E := Lib.hid ((E.out.call hr hk).state (show _ = reD st from rfl))
  clear hr hk
  obtain ⟨u0, u1, u2, u3, u4, u5, u6, u7, u8, u9⟩ := rep_cells E.out.b0
  have ff := fun i => E.out.b0.frozen i
  have uc := E.out.rd.1.cell (i := 1) rfl
  go_wp2_with (with_reducible refine stop_load 37 (.tmp 3) rfl rfl ?_)
  clear u0 u1 u2 u3 u4 u5 u6 u7 u8 u9 ff uc
  replace E := Lib.hid ((E.out.store0 3 (.int .i64 C)).as (show _ = Rep.arr ⟨K, D, R, C, 0, 0, 0, 0, [], 0⟩ none 0 from rfl))
  refine Stop.mk (wpList_loadB rfl _ _ rfl G1 rfl _ E.out.b0 strRp rfl ?_)
  go_wp2_with (with_reducible refine stop_store 37 (.tmp 2) (.tmp 69) rfl rfl ?_)
  refine Stop.mk (wpList_storeB rfl _ _ _ rfl w.heap.size _ rfl rfl _ E.out.b1 strRp rfl rfl (by simp [Value.oneCell']) ?_)
  intro w99 hb99 hk99
  replace E := Lib.hid (E.out.put1 hb99 hk99)
  clear hk99
  go_wp2_with (fail)
  exact bodyPost_ret (results_B rfl rfl hb99 strRp rfl) rfl ⟨none, 0, rfl, World.ownsRow_nil _ _ _ _, E.out.rd, E.out.kept⟩
set_option maxHeartbeats 4000000 in
set_option maxRecDepth 4000 in
theorem ref30_Read_C_put1 (p : Nat) (st : Rd) (w : World) (hr : RdR w p st) (hc : reCode st = 0) (hk : reK st = 2) (hk2' : 2 ≤ rdN st 4) (h1 : (rdN' st 4).e = 0) (hd : (reD st).e = 0) (he : (rdRep' st).e = 0) : Calls Try.prog 19 #[.pointer (some ⟨p, 0, none⟩)] w (RetRA p (rdRep' st) w (rdRep st)) := by
  obtain ⟨x1, x2⟩ := re_put hc hk
  rw [rdRep_ok he, x2, x1]
  rw [x1] at he
  clear x1 x2
  obtain ⟨K, hK⟩ : ∃ K, K = reK st := ⟨_, rfl⟩
  obtain ⟨D, hD⟩ : ∃ K, K = rdN (reA st) 5 := ⟨_, rfl⟩
  obtain ⟨R, hR⟩ : ∃ K, K = rdN (reB st) 1099511627776 := ⟨_, rfl⟩
  obtain ⟨C, hC⟩ : ∃ K, K = reCode st := ⟨_, rfl⟩
  obtain ⟨Q, hQ⟩ : ∃ K, K = rdN (reD st) 1099511627776 := ⟨_, rfl⟩
  obtain ⟨I, hI⟩ : ∃ K, K = rdN (reE st) 1073741823 := ⟨_, rfl⟩
  obtain ⟨V, hV⟩ : ∃ K, K = rdN (reP1 st) 1099511627776 := ⟨_, rfl⟩
  have je : ((reP2 st).e != 0) = false := by simpa using he
  have jc : (C == 0) = true := by rw [hC]; simpa using hc
  have j2 : (K == 2) = true := by rw [hK]; simpa using hk
  have j3 : (K == 3) = false := by rw [hK, hk]; rfl
  have HK := Lib.hid (show K = rdN st 4 from hK)
  have HD := Lib.hid (show D = rdN (reA st) 5 from hD)
  have HR := Lib.hid (show R = rdN (reB st) 1099511627776 from hR)
  have HC := Lib.hid (show C = rdN (reC st) 16 from hC)
  have HQ := Lib.hid (show Q = rdN (reD st) 1099511627776 from hQ)
  have HI := Lib.hid (show I = rdN (reE st) 1073741823 from hI)
  have HV := Lib.hid (show V = rdN (reP1 st) 1099511627776 from hV)
  rw [← hD, ← hR, ← hQ, ← hI, ← hV]
  have HC0 := Lib.hid (hC.trans hc)
  have HK0 := Lib.hid (hK.trans hk)
  have k1 : ((rdN' st 4).e == 0) = true := by simpa using h1
  have k2 : decide (K < 2) = false := by rw [HK.out]; simpa using hk2'
  have RA := Lib.hid (show rdN' st 4 = reA st by unfold reA; rw [rdLe'_high hk2'])
  have j7 : ((reD st).e == 0) = true := by simpa using hd
  clear hK hD hR hC hQ hI hV hc he hk h1 hd hk2'
  have E := Lib.hid ((EnvR.start hr).alloc 37 (Rep.arr rz none 0))
  clear hr
  go_enter Try.func19, Try.ntmps19
  go_wp2_with (fail)
  refine (c_ref01_RNum p st 4 _ E.out.rd).mono ?_
  rintro e w1 ⟨rfl, hr, hk⟩
  rw [← HK.out]
  replace E := Lib.hid ((E.out.call hr hk).state (show _ = rdN' st 4 from rfl))
  clear hr hk
  go_wp2_with (with_reducible refine stop_store 37 (.tmp 3) (.tmp 6) rfl rfl ?_)
  refine Stop.mk (wpList_storeB rfl _ _ _ rfl w1.heap.size _ rfl rfl _ (Blk.new _ _ _) strRp rfl rfl (by simp [Value.oneCell']) ?_)
  intro w2 hb2 hk2
  replace E := Lib.hid (((E.out.alloc 37 (Rep.arr rz none 0)).put0 hb2 hk2).as (show _ = Rep.arr ⟨K, 0, 0, 0, 0, 0, 0, 0, [], 0⟩ none 0 from rfl))
  clear hb2 hk2
  have HG0 := Lib.hid (show w1.heap.size < w2.heap.size from E.out.b0.lt)
  obtain ⟨G1, hG1⟩ : ∃ g, g = w1.heap.size := ⟨_, rfl⟩
  rw [← hG1] at E HG0 ⊢
  clear hG1
  have hpg : ¬ p = G1 := by have := E.out.low; have := E.out.blks.1.2.1; omega
  have hgp : ¬ G1 = p := fun e => hpg e.symm
  obtain ⟨u0, u1, u2, u3, u4, u5, u6, u7, u8, u9⟩ := rep_cells E.out.b0
  have ff := fun i => E.out.b0.frozen i
  have uc := E.out.rd.1.cell (i := 1) rfl
  go_wp2_with (fail)
  clear u0 u1 u2 u3 u4 u5 u6 u7 u8 u9 ff uc
  replace E := Lib.hid (E.out.state RA.out)
  refine (c_ref01_RNum p _ 5 _ E.out.rd).mono ?_
  rintro e w3 ⟨rfl, hr, hk⟩
  rw [← HD.out]
  replace E := Lib.hid ((E.out.call hr hk).state (show _ = reB st from rfl))
  clear hr hk
  obtain ⟨u0, u1, u2, u3, u4, u5, u6, u7, u8, u9⟩ := rep_cells E.out.b0
  have ff := fun i => E.out.b0.frozen i
  have uc := E.out.rd.1.cell (i := 1) rfl
  go_wp2_with (fail)
  clear u0 u1 u2 u3 u4 u5 u6 u7 u8 u9 ff uc
  replace E := Lib.hid ((E.out.store0 1 (.int .i64 D)).as (show _ = Rep.arr ⟨K, D, 0, 0, 0, 0, 0, 0, [], 0⟩ none 0 from rfl))
  refine (c_ref19_Above p _ 1099511627776 _ E.out.rd).mono ?_
  rintro e w4 ⟨rfl, hr, hk⟩
  rw [← HR.out]
  replace E := Lib.hid ((E.out.call hr hk).state (show _ = reC st from rfl))
  clear hr hk
  obtain ⟨u0, u1, u2, u3, u4, u5, u6, u7, u8, u9⟩ := rep_cells E.out.b0
  have ff := fun i => E.out.b0.frozen i
  have uc := E.out.rd.1.cell (i := 1) rfl
  go_wp2_with (fail)
  clear u0 u1 u2 u3 u4 u5 u6 u7 u8 u9 ff uc
  replace E := Lib.hid ((E.out.store0 2 (.int .i64 R)).as (show _ = Rep.arr ⟨K, D, R, 0, 0, 0, 0, 0, [], 0⟩ none 0 from rfl))
  refine (c_ref01_RNum p _ 16 _ E.out.rd).mono ?_
  rintro e w5 ⟨rfl, hr, hk⟩
  rw [← HC.out]
  replace E := Lib.hid ((E.out.call hr hk).state (show _ = reD st from rfl))
  clear hr hk
  obtain ⟨u0, u1, u2, u3, u4, u5, u6, u7, u8, u9⟩ := rep_cells E.out.b0
  have ff := fun i => E.out.b0.frozen i
  have uc := E.out.rd.1.cell (i := 1) rfl
  go_wp2_with (fail)
  clear u0 u1 u2 u3 u4 u5 u6 u7 u8 u9 ff uc
  replace E := Lib.hid ((E.out.store0 3 (.int .i64 C)).as (show _ = Rep.arr ⟨K, D, R, C, 0, 0, 0, 0, [], 0⟩ none 0 from rfl))
  refine (c_ref01_RNum p _ 1099511627776 _ E.out.rd).mono ?_
  rintro e w6 ⟨rfl, hr, hk⟩
  rw [← HQ.out]
  replace E := Lib.hid ((E.out.call hr hk).state (show _ = reE st from rfl))
  clear hr hk
  obtain ⟨u0, u1, u2, u3, u4, u5, u6, u7, u8, u9⟩ := rep_cells E.out.b0
  have ff := fun i => E.out.b0.frozen i
  have uc := E.out.rd.1.cell (i := 1) rfl
  go_wp2_with (fail)
  clear u0 u1 u2 u3 u4 u5 u6 u7 u8 u9 ff uc
  replace E := Lib.hid ((E.out.store0 6 (.int .i64 Q)).as (show _ = Rep.arr ⟨K, D, R, C, 0, 0, Q, 0, [], 0⟩ none 0 from rfl))
  refine (c_ref19_Above p _ 1073741823 _ E.out.rd).mono ?_
  rintro e w7 ⟨rfl, hr, hk⟩
  rw [← HI.out]
  replace E := Lib.hid ((E.out.call hr hk).state (show _ = reP1 st from rfl))
  clear hr hk
  obtain ⟨u0, u1, u2, u3, u4, u5, u6, u7, u8, u9⟩ := rep_cells E.out.b0
  have ff := fun i => E.out.b0.frozen i
  have uc := E.out.rd.1.cell (i := 1) rfl
  go_wp2_with (fail)
  clear u0 u1 u2 u3 u4 u5 u6 u7 u8 u9 ff uc
  replace E := Lib.hid ((E.out.store0 4 (.int .i64 I)).as (show _ = Rep.arr ⟨K, D, R, C, I, 0, Q, 0, [], 0⟩ none 0 from rfl))
  refine (c_ref19_Above p _ 1099511627776 _ E.out.rd).mono ?_
  rintro e w8 ⟨rfl, hr, hk⟩
  rw [← HV.out]
  replace E := Lib.hid ((E.out.call hr hk).state (show _ = reP2 st from rfl))
  clear hr hk
  obtain ⟨u0, u1, u2, u3, u4, u5, u6, u7, u8, u9⟩ := rep_cells E.out.b0
  have ff := fun i => E.out.b0.frozen i
  have uc := E.out.rd.1.cell (i := 1) rfl
  go_wp2_with (with_reducible refine stop_load 37 (.tmp 3) rfl rfl ?_)
  clear u0 u1 u2 u3 u4 u5 u6 u7 u8 u9 ff uc
  replace E := Lib.hid ((E.out.store0 5 (.int .i64 V)).as (show _ = Rep.arr ⟨K, D, R, C, I, V, Q, 0, [], 0⟩ none 0 from rfl))
  refine Stop.mk (wpList_loadB rfl _ _ rfl G1 rfl _ E.out.b0 strRp rfl ?_)
  go_wp2_with (with_reducible refine stop_store 37 (.tmp 2) (.tmp 69) rfl rfl ?_)
  refine Stop.mk (wpList_storeB rfl _ _ _ rfl w.heap.size _ rfl rfl _ E.out.b1 strRp rfl rfl (by simp [Value.oneCell']) ?_)
  intro w99 hb99 hk99
  replace E := Lib.hid (E.out.put1 hb99 hk99)
  clear hk99
  go_wp2_with (fail)
  have hC0 := HC0.out; have hK0 := HK0.out; subst hC0 hK0
  exact bodyPost_ret (results_B rfl rfl hb99 strRp rfl) rfl ⟨none, 0, rfl, World.ownsRow_nil _ _ _ _, E.out.rd, E.out.kept⟩
set_option maxHeartbeats 4000000 in
set_option maxRecDepth 4000 in
theorem ref30_Read_C_put0 (p : Nat) (st : Rd) (w : World) (hr : RdR w p st) (hc : reCode st = 0) (hk : reK st = 2) (hk2' : 2 ≤ rdN st 4) (h1 : (rdN' st 4).e = 0) (hd : (reD st).e = 0) (he : (rdRep' st).e ≠ 0) : Calls Try.prog 19 #[.pointer (some ⟨p, 0, none⟩)] w (RetRA p (rdRep' st) w (rdRep st)) := by
  obtain ⟨x1, x2⟩ := re_put hc hk
  rw [rdRep_bad he, x1]
  rw [x1] at he
  clear x1 x2
  obtain ⟨K, hK⟩ : ∃ K, K = reK st := ⟨_, rfl⟩
  obtain ⟨D, hD⟩ : ∃ K, K = rdN (reA st) 5 := ⟨_, rfl⟩
  obtain ⟨R, hR⟩ : ∃ K, K = rdN (reB st) 1099511627776 := ⟨_, rfl⟩
  obtain ⟨C, hC⟩ : ∃ K, K = reCode st := ⟨_, rfl⟩
  obtain ⟨Q, hQ⟩ : ∃ K, K = rdN (reD st) 1099511627776 := ⟨_, rfl⟩
  obtain ⟨I, hI⟩ : ∃ K, K = rdN (reE st) 1073741823 := ⟨_, rfl⟩
  obtain ⟨V, hV⟩ : ∃ K, K = rdN (reP1 st) 1099511627776 := ⟨_, rfl⟩
  have je : ((reP2 st).e != 0) = true := by simpa using he
  have jc : (C == 0) = true := by rw [hC]; simpa using hc
  have j2 : (K == 2) = true := by rw [hK]; simpa using hk
  have j3 : (K == 3) = false := by rw [hK, hk]; rfl
  have HK := Lib.hid (show K = rdN st 4 from hK)
  have HD := Lib.hid (show D = rdN (reA st) 5 from hD)
  have HR := Lib.hid (show R = rdN (reB st) 1099511627776 from hR)
  have HC := Lib.hid (show C = rdN (reC st) 16 from hC)
  have HQ := Lib.hid (show Q = rdN (reD st) 1099511627776 from hQ)
  have HI := Lib.hid (show I = rdN (reE st) 1073741823 from hI)
  have HV := Lib.hid (show V = rdN (reP1 st) 1099511627776 from hV)
  have k1 : ((rdN' st 4).e == 0) = true := by simpa using h1
  have k2 : decide (K < 2) = false := by rw [HK.out]; simpa using hk2'
  have RA := Lib.hid (show rdN' st 4 = reA st by unfold reA; rw [rdLe'_high hk2'])
  have j7 : ((reD st).e == 0) = true := by simpa using hd
  clear hK hD hR hC hQ hI hV hc he hk h1 hd hk2'
  have E := Lib.hid ((EnvR.start hr).alloc 37 (Rep.arr rz none 0))
  clear hr
  go_enter Try.func19, Try.ntmps19
  go_wp2_with (fail)
  refine (c_ref01_RNum p st 4 _ E.out.rd).mono ?_
  rintro e w1 ⟨rfl, hr, hk⟩
  rw [← HK.out]
  replace E := Lib.hid ((E.out.call hr hk).state (show _ = rdN' st 4 from rfl))
  clear hr hk
  go_wp2_with (with_reducible refine stop_store 37 (.tmp 3) (.tmp 6) rfl rfl ?_)
  refine Stop.mk (wpList_storeB rfl _ _ _ rfl w1.heap.size _ rfl rfl _ (Blk.new _ _ _) strRp rfl rfl (by simp [Value.oneCell']) ?_)
  intro w2 hb2 hk2
  replace E := Lib.hid (((E.out.alloc 37 (Rep.arr rz none 0)).put0 hb2 hk2).as (show _ = Rep.arr ⟨K, 0, 0, 0, 0, 0, 0, 0, [], 0⟩ none 0 from rfl))
  clear hb2 hk2
  have HG0 := Lib.hid (show w1.heap.size < w2.heap.size from E.out.b0.lt)
  obtain ⟨G1, hG1⟩ : ∃ g, g = w1.heap.size := ⟨_, rfl⟩
  rw [← hG1] at E HG0 ⊢
  clear hG1
  have hpg : ¬ p = G1 := by have := E.out.low; have := E.out.blks.1.2.1; omega
  have hgp : ¬ G1 = p := fun e => hpg e.symm
  obtain ⟨u0, u1, u2, u3, u4, u5, u6, u7, u8, u9⟩ := rep_cells E.out.b0
  have ff := fun i => E.out.b0.frozen i
  have uc := E.out.rd.1.cell (i := 1) rfl
  go_wp2_with (fail)
  clear u0 u1 u2 u3 u4 u5 u6 u7 u8 u9 ff uc
  replace E := Lib.hid (E.out.state RA.out)
  refine (c_ref01_RNum p _ 5 _ E.out.rd).mono ?_
  rintro e w3 ⟨rfl, hr, hk⟩
  rw [← HD.out]
  replace E := Lib.hid ((E.out.call hr hk).state (show _ = reB st from rfl))
  clear hr hk
  obtain ⟨u0, u1, u2, u3, u4, u5, u6, u7, u8, u9⟩ := rep_cells E.out.b0
  have ff := fun i => E.out.b0.frozen i
  have uc := E.out.rd.1.cell (i := 1) rfl
  go_wp2_with (fail)
  clear u0 u1 u2 u3 u4 u5 u6 u7 u8 u9 ff uc
  replace E := Lib.hid ((E.out.store0 1 (.int .i64 D)).as (show _ = Rep.arr ⟨K, D, 0, 0, 0, 0, 0, 0, [], 0⟩ none 0 from rfl))
  refine (c_ref19_Above p _ 1099511627776 _ E.out.rd).mono ?_
  rintro e w4 ⟨rfl, hr, hk⟩
  rw [← HR.out]
  replace E := Lib.hid ((E.out.call hr hk).state (show _ = reC st from rfl))
  clear hr hk
  obtain ⟨u0, u1, u2, u3, u4, u5, u6, u7, u8, u9⟩ := rep_cells E.out.b0
  have ff := fun i => E.out.b0.frozen i
  have uc := E.out.rd.1.cell (i := 1) rfl
  go_wp2_with (fail)
  clear u0 u1 u2 u3 u4 u5 u6 u7 u8 u9 ff uc
  replace E := Lib.hid ((E.out.store0 2 (.int .i64 R)).as (show _ = Rep.arr ⟨K, D, R, 0, 0, 0, 0, 0, [], 0⟩ none 0 from rfl))
  refine (c_ref01_RNum p _ 16 _ E.out.rd).mono ?_
  rintro e w5 ⟨rfl, hr, hk⟩
  rw [← HC.out]
  replace E := Lib.hid ((E.out.call hr hk).state (show _ = reD st from rfl))
  clear hr hk
  obtain ⟨u0, u1, u2, u3, u4, u5, u6, u7, u8, u9⟩ := rep_cells E.out.b0
  have ff := fun i => E.out.b0.frozen i
  have uc := E.out.rd.1.cell (i := 1) rfl
  go_wp2_with (fail)
  clear u0 u1 u2 u3 u4 u5 u6 u7 u8 u9 ff uc
  replace E := Lib.hid ((E.out.store0 3 (.int .i64 C)).as (show _ = Rep.arr ⟨K, D, R, C, 0, 0, 0, 0, [], 0⟩ none 0 from rfl))
  refine (c_ref01_RNum p _ 1099511627776 _ E.out.rd).mono ?_
  rintro e w6 ⟨rfl, hr, hk⟩
  rw [← HQ.out]
  replace E := Lib.hid ((E.out.call hr hk).state (show _ = reE st from rfl))
  clear hr hk
  obtain ⟨u0, u1, u2, u3, u4, u5, u6, u7, u8, u9⟩ := rep_cells E.out.b0
  have ff := fun i => E.out.b0.frozen i
  have uc := E.out.rd.1.cell (i := 1) rfl
  go_wp2_with (fail)
  clear u0 u1 u2 u3 u4 u5 u6 u7 u8 u9 ff uc
  replace E := Lib.hid ((E.out.store0 6 (.int .i64 Q)).as (show _ = Rep.arr ⟨K, D, R, C, 0, 0, Q, 0, [], 0⟩ none 0 from rfl))
  refine (c_ref19_Above p _ 1073741823 _ E.out.rd).mono ?_
  rintro e w7 ⟨rfl, hr, hk⟩
  rw [← HI.out]
  replace E := Lib.hid ((E.out.call hr hk).state (show _ = reP1 st from rfl))
  clear hr hk
  obtain ⟨u0, u1, u2, u3, u4, u5, u6, u7, u8, u9⟩ := rep_cells E.out.b0
  have ff := fun i => E.out.b0.frozen i
  have uc := E.out.rd.1.cell (i := 1) rfl
  go_wp2_with (fail)
  clear u0 u1 u2 u3 u4 u5 u6 u7 u8 u9 ff uc
  replace E := Lib.hid ((E.out.store0 4 (.int .i64 I)).as (show _ = Rep.arr ⟨K, D, R, C, I, 0, Q, 0, [], 0⟩ none 0 from rfl))
  refine (c_ref19_Above p _ 1099511627776 _ E.out.rd).mono ?_
  rintro e w8 ⟨rfl, hr, hk⟩
  rw [← HV.out]
  replace E := Lib.hid ((E.out.call hr hk).state (show _ = reP2 st from rfl))
  clear hr hk
  obtain ⟨u0, u1, u2, u3, u4, u5, u6, u7, u8, u9⟩ := rep_cells E.out.b0
  have ff := fun i => E.out.b0.frozen i
  have uc := E.out.rd.1.cell (i := 1) rfl
  go_wp2_with (with_reducible refine stop_store 37 (.tmp 2) (.tmp 68) rfl rfl ?_)
  clear u0 u1 u2 u3 u4 u5 u6 u7 u8 u9 ff uc
  replace E := Lib.hid ((E.out.store0 5 (.int .i64 V)).as (show _ = Rep.arr ⟨K, D, R, C, I, V, Q, 0, [], 0⟩ none 0 from rfl))
  refine Stop.mk (wpList_storeB rfl _ _ _ rfl w.heap.size _ rfl rfl _ E.out.b1 strRp rfl rfl (by simp [Value.oneCell']) ?_)
  intro w99 hb99 hk99
  replace E := Lib.hid (E.out.put1 hb99 hk99)
  clear hk99
  go_wp2_with (fail)
  exact bodyPost_ret (results_B rfl rfl hb99 strRp rfl) rfl ⟨none, 0, rfl, World.ownsRow_nil _ _ _ _, E.out.rd, E.out.kept⟩
set_option maxHeartbeats 4000000 in
set_option maxRecDepth 4000 in
theorem ref30_Read_C_sub1 (p : Nat) (st : Rd) (w : World) (hr : RdR w p st) (hc : reCode st = 0) (hk : reK st = 3) (hk2' : 2 ≤ rdN st 4) (h1 : (rdN' st 4).e = 0) (hd : (reD st).e = 0) (he : (rdRep' st).e = 0) : Calls Try.prog 19 #[.pointer (some ⟨p, 0, none⟩)] w (RetRA p (rdRep' st) w (rdRep st)) := by
  obtain ⟨x1, x2⟩ := re_sub hc hk
  rw [rdRep_ok he, x2, x1]
  rw [x1] at he
  clear x1 x2
  obtain ⟨K, hK⟩ : ∃ K, K = reK st := ⟨_, rfl⟩
  obtain ⟨D, hD⟩ : ∃ K, K = rdN (reA st) 5 := ⟨_, rfl⟩
  obtain ⟨R, hR⟩ : ∃ K, K = rdN (reB st) 1099511627776 := ⟨_, rfl⟩
  obtain ⟨C, hC⟩ : ∃ K, K = reCode st := ⟨_, rfl⟩
  obtain ⟨Q, hQ⟩ : ∃ K, K = rdN (reD st) 1099511627776 := ⟨_, rfl⟩
  obtain ⟨Y, hY⟩ : ∃ K, K = rdN (reE st) 1099511627776 := ⟨_, rfl⟩
  obtain ⟨F, hF⟩ : ∃ K, K = rdPred (reS1 st) := ⟨_, rfl⟩
  obtain ⟨M, hM⟩ : ∃ K, K = (rdN (reS2 st) 511).toNat := ⟨_, rfl⟩
  have je : ((reS3 st).e != 0) = false := by simpa using he
  have jc : (C == 0) = true := by rw [hC]; simpa using hc
  have j2 : (K == 2) = false := by rw [hK, hk]; rfl
  have j3 : (K == 3) = true := by rw [hK]; simpa using hk
  have mb := rdN_bd (reS2 st) 511
  have km : IntKind.u32.wrap (rdN (reS2 st) 511) = ((M : Nat) : Int) := by rw [hM, u32_id (by omega) (by omega)]; omega
  have HK := Lib.hid (show K = rdN st 4 from hK)
  have HD := Lib.hid (show D = rdN (reA st) 5 from hD)
  have HR := Lib.hid (show R = rdN (reB st) 1099511627776 from hR)
  have HC := Lib.hid (show C = rdN (reC st) 16 from hC)
  have HQ := Lib.hid (show Q = rdN (reD st) 1099511627776 from hQ)
  have HY := Lib.hid (show Y = rdN (reE st) 1099511627776 from hY)
  have HF := Lib.hid (show F = rdPred (reS1 st) from hF)
  rw [← hD, ← hR, ← hQ, ← hY, ← hF, ← hM]
  have HC0 := Lib.hid (hC.trans hc)
  have HK0 := Lib.hid (hK.trans hk)
  have k1 : ((rdN' st 4).e == 0) = true := by simpa using h1
  have k2 : decide (K < 2) = false := by rw [HK.out]; simpa using hk2'
  have RA := Lib.hid (show rdN' st 4 = reA st by unfold reA; rw [rdLe'_high hk2'])
  have j7 : ((reD st).e == 0) = true := by simpa using hd
  clear hK hD hR hC hQ hY hF hM hc he hk mb h1 hd hk2'
  have E := Lib.hid ((EnvR.start hr).alloc 37 (Rep.arr rz none 0))
  clear hr
  go_enter Try.func19, Try.ntmps19
  go_wp2_with (fail)
  refine (c_ref01_RNum p st 4 _ E.out.rd).mono ?_
  rintro e w1 ⟨rfl, hr, hk⟩
  rw [← HK.out]
  replace E := Lib.hid ((E.out.call hr hk).state (show _ = rdN' st 4 from rfl))
  clear hr hk
  go_wp2_with (with_reducible refine stop_store 37 (.tmp 3) (.tmp 6) rfl rfl ?_)
  refine Stop.mk (wpList_storeB rfl _ _ _ rfl w1.heap.size _ rfl rfl _ (Blk.new _ _ _) strRp rfl rfl (by simp [Value.oneCell']) ?_)
  intro w2 hb2 hk2
  replace E := Lib.hid (((E.out.alloc 37 (Rep.arr rz none 0)).put0 hb2 hk2).as (show _ = Rep.arr ⟨K, 0, 0, 0, 0, 0, 0, 0, [], 0⟩ none 0 from rfl))
  clear hb2 hk2
  have HG0 := Lib.hid (show w1.heap.size < w2.heap.size from E.out.b0.lt)
  obtain ⟨G1, hG1⟩ : ∃ g, g = w1.heap.size := ⟨_, rfl⟩
  rw [← hG1] at E HG0 ⊢
  clear hG1
  have hpg : ¬ p = G1 := by have := E.out.low; have := E.out.blks.1.2.1; omega
  have hgp : ¬ G1 = p := fun e => hpg e.symm
  obtain ⟨u0, u1, u2, u3, u4, u5, u6, u7, u8, u9⟩ := rep_cells E.out.b0
  have ff := fun i => E.out.b0.frozen i
  have uc := E.out.rd.1.cell (i := 1) rfl
  go_wp2_with (fail)
  clear u0 u1 u2 u3 u4 u5 u6 u7 u8 u9 ff uc
  replace E := Lib.hid (E.out.state RA.out)
  refine (c_ref01_RNum p _ 5 _ E.out.rd).mono ?_
  rintro e w3 ⟨rfl, hr, hk⟩
  rw [← HD.out]
  replace E := Lib.hid ((E.out.call hr hk).state (show _ = reB st from rfl))
  clear hr hk
  obtain ⟨u0, u1, u2, u3, u4, u5, u6, u7, u8, u9⟩ := rep_cells E.out.b0
  have ff := fun i => E.out.b0.frozen i
  have uc := E.out.rd.1.cell (i := 1) rfl
  go_wp2_with (fail)
  clear u0 u1 u2 u3 u4 u5 u6 u7 u8 u9 ff uc
  replace E := Lib.hid ((E.out.store0 1 (.int .i64 D)).as (show _ = Rep.arr ⟨K, D, 0, 0, 0, 0, 0, 0, [], 0⟩ none 0 from rfl))
  refine (c_ref19_Above p _ 1099511627776 _ E.out.rd).mono ?_
  rintro e w4 ⟨rfl, hr, hk⟩
  rw [← HR.out]
  replace E := Lib.hid ((E.out.call hr hk).state (show _ = reC st from rfl))
  clear hr hk
  obtain ⟨u0, u1, u2, u3, u4, u5, u6, u7, u8, u9⟩ := rep_cells E.out.b0
  have ff := fun i => E.out.b0.frozen i
  have uc := E.out.rd.1.cell (i := 1) rfl
  go_wp2_with (fail)
  clear u0 u1 u2 u3 u4 u5 u6 u7 u8 u9 ff uc
  replace E := Lib.hid ((E.out.store0 2 (.int .i64 R)).as (show _ = Rep.arr ⟨K, D, R, 0, 0, 0, 0, 0, [], 0⟩ none 0 from rfl))
  refine (c_ref01_RNum p _ 16 _ E.out.rd).mono ?_
  rintro e w5 ⟨rfl, hr, hk⟩
  rw [← HC.out]
  replace E := Lib.hid ((E.out.call hr hk).state (show _ = reD st from rfl))
  clear hr hk
  obtain ⟨u0, u1, u2, u3, u4, u5, u6, u7, u8, u9⟩ := rep_cells E.out.b0
  have ff := fun i => E.out.b0.frozen i
  have uc := E.out.rd.1.cell (i := 1) rfl
  go_wp2_with (fail)
  clear u0 u1 u2 u3 u4 u5 u6 u7 u8 u9 ff uc
  replace E := Lib.hid ((E.out.store0 3 (.int .i64 C)).as (show _ = Rep.arr ⟨K, D, R, C, 0, 0, 0, 0, [], 0⟩ none 0 from rfl))
  refine (c_ref01_RNum p _ 1099511627776 _ E.out.rd).mono ?_
  rintro e w6 ⟨rfl, hr, hk⟩
  rw [← HQ.out]
  replace E := Lib.hid ((E.out.call hr hk).state (show _ = reE st from rfl))
  clear hr hk
  obtain ⟨u0, u1, u2, u3, u4, u5, u6, u7, u8, u9⟩ := rep_cells E.out.b0
  have ff := fun i => E.out.b0.frozen i
  have uc := E.out.rd.1.cell (i := 1) rfl
  go_wp2_with (fail)
  clear u0 u1 u2 u3 u4 u5 u6 u7 u8 u9 ff uc
  replace E := Lib.hid ((E.out.store0 6 (.int .i64 Q)).as (show _ = Rep.arr ⟨K, D, R, C, 0, 0, Q, 0, [], 0⟩ none 0 from rfl))
  refine (c_ref19_Above p _ 1099511627776 _ E.out.rd).mono ?_
  rintro e w7 ⟨rfl, hr, hk⟩
  rw [← HY.out]
  replace E := Lib.hid ((E.out.call hr hk).state (show _ = reS1 st from rfl))
  clear hr hk
  obtain ⟨u0, u1, u2, u3, u4, u5, u6, u7, u8, u9⟩ := rep_cells E.out.b0
  have ff := fun i => E.out.b0.frozen i
  have uc := E.out.rd.1.cell (i := 1) rfl
  go_wp2_with (fail)
  clear u0 u1 u2 u3 u4 u5 u6 u7 u8 u9 ff uc
  replace E := Lib.hid ((E.out.store0 7 (.int .i64 Y)).as (show _ = Rep.arr ⟨K, D, R, C, 0, 0, Q, Y, [], 0⟩ none 0 from rfl))
  refine (c_ref16_Read p _ _ E.out.rd).mono ?_
  rintro e w8 ⟨v8, rfl, own, hr, hk⟩
  rw [← HF.out] at own
  obtain ⟨A, c, rfl, -⟩ := own_form own
  have HO := Lib.hid (show w.heap.size < w7.heap.size from by have := E.out.b1.lt; simpa [World.setCell] using this)
  have HG := Lib.hid (show G1 < w7.heap.size from by have := E.out.b0.lt; simpa [World.setCell] using this)
  have O := Lib.hid (show World.ownsRow w8 w7.heap.size 74 5 (.slice A F.length c) F.length (F.flatMap Node.cells) from by simpa [World.setCell] using own)
  clear own
  replace E := Lib.hid ((E.out.call hr hk).state (show _ = reS2 st from rfl))
  clear hr hk
  obtain ⟨u0, u1, u2, u3, u4, u5, u6, u7, u8, u9⟩ := rep_cells E.out.b0
  have ff := fun i => E.out.b0.frozen i
  have uc := E.out.rd.1.cell (i := 1) rfl
  go_wp2_with (fail)
  clear u0 u1 u2 u3 u4 u5 u6 u7 u8 u9 ff uc
  replace O := Lib.hid (own_kept O.out (kept_set w8 G1 8 (.slice A F.length c)) (fun g hg => by injection hg with hg; have := HG.out; omega))
  replace E := Lib.hid ((E.out.store0 8 (.slice A F.length c)).as (show _ = Rep.arr ⟨K, D, R, C, 0, 0, Q, Y, F, 0⟩ A c from rfl))
  refine (c_ref01_RNum p _ 511 _ E.out.rd).mono ?_
  rintro e w9 ⟨rfl, hr, hk⟩
  replace O := Lib.hid (own_kept O.out hk (fun g hg => by injection hg with hg; have := E.out.low; have := HO.out; omega))
  replace E := Lib.hid ((E.out.call hr hk).state (show _ = reS3 st from rfl))
  clear hr hk
  obtain ⟨u0, u1, u2, u3, u4, u5, u6, u7, u8, u9⟩ := rep_cells E.out.b0
  have ff := fun i => E.out.b0.frozen i
  have uc := E.out.rd.1.cell (i := 1) rfl
  go_wp2_with (with_reducible refine stop_load 37 (.tmp 3) rfl rfl ?_)
  clear u0 u1 u2 u3 u4 u5 u6 u7 u8 u9 ff uc
  replace O := Lib.hid (own_kept O.out (kept_set w9 G1 9 (.int .u32 M)) (fun g hg => by injection hg with hg; have := HG.out; omega))
  replace E := Lib.hid ((E.out.store0 9 (.int .u32 M)).as (show _ = Rep.arr ⟨K, D, R, C, 0, 0, Q, Y, F, M⟩ A c from rfl))
  refine Stop.mk (wpList_loadB rfl _ _ rfl G1 rfl _ E.out.b0 strRp rfl ?_)
  go_wp2_with (with_reducible refine stop_store 37 (.tmp 2) (.tmp 69) rfl rfl ?_)
  refine Stop.mk (wpList_storeB rfl _ _ _ rfl w.heap.size _ rfl rfl _ E.out.b1 strRp rfl rfl (by simp [Value.oneCell']) ?_)
  intro w99 hb99 hk99
  replace O := Lib.hid (own_kept O.out hk99 (fun g hg => by injection hg with hg; have := HO.out; omega))
  replace E := Lib.hid (E.out.put1 hb99 hk99)
  clear hk99
  go_wp2_with (fail)
  have hC0 := HC0.out; have hK0 := HK0.out; subst hC0 hK0
  exact bodyPost_ret (results_B rfl rfl hb99 strRp rfl) rfl ⟨A, c, rfl, own_base O.out (Nat.le_of_lt HO.out), E.out.rd, E.out.kept⟩
set_option maxHeartbeats 4000000 in
set_option maxRecDepth 4000 in
theorem ref30_Read_C_sub0 (p : Nat) (st : Rd) (w : World) (hr : RdR w p st) (hc : reCode st = 0) (hk : reK st = 3) (hk2' : 2 ≤ rdN st 4) (h1 : (rdN' st 4).e = 0) (hd : (reD st).e = 0) (he : (rdRep' st).e ≠ 0) : Calls Try.prog 19 #[.pointer (some ⟨p, 0, none⟩)] w (RetRA p (rdRep' st) w (rdRep st)) := by
  obtain ⟨x1, x2⟩ := re_sub hc hk
  rw [rdRep_bad he, x1]
  rw [x1] at he
  clear x1 x2
  obtain ⟨K, hK⟩ : ∃ K, K = reK st := ⟨_, rfl⟩
  obtain ⟨D, hD⟩ : ∃ K, K = rdN (reA st) 5 := ⟨_, rfl⟩
  obtain ⟨R, hR⟩ : ∃ K, K = rdN (reB st) 1099511627776 := ⟨_, rfl⟩
  obtain ⟨C, hC⟩ : ∃ K, K = reCode st := ⟨_, rfl⟩
  obtain ⟨Q, hQ⟩ : ∃ K, K = rdN (reD st) 1099511627776 := ⟨_, rfl⟩
  obtain ⟨Y, hY⟩ : ∃ K, K = rdN (reE st) 1099511627776 := ⟨_, rfl⟩
  obtain ⟨F, hF⟩ : ∃ K, K = rdPred (reS1 st) := ⟨_, rfl⟩
  obtain ⟨M, hM⟩ : ∃ K, K = (rdN (reS2 st) 511).toNat := ⟨_, rfl⟩
  have je : ((reS3 st).e != 0) = true := by simpa using he
  have jc : (C == 0) = true := by rw [hC]; simpa using hc
  have j2 : (K == 2) = false := by rw [hK, hk]; rfl
  have j3 : (K == 3) = true := by rw [hK]; simpa using hk
  have mb := rdN_bd (reS2 st) 511
  have km : IntKind.u32.wrap (rdN (reS2 st) 511) = ((M : Nat) : Int) := by rw [hM, u32_id (by omega) (by omega)]; omega
  have HK := Lib.hid (show K = rdN st 4 from hK)
  have HD := Lib.hid (show D = rdN (reA st) 5 from hD)
  have HR := Lib.hid (show R = rdN (reB st) 1099511627776 from hR)
  have HC := Lib.hid (show C = rdN (reC st) 16 from hC)
  have HQ := Lib.hid (show Q = rdN (reD st) 1099511627776 from hQ)
  have HY := Lib.hid (show Y = rdN (reE st) 1099511627776 from hY)
  have HF := Lib.hid (show F = rdPred (reS1 st) from hF)
  have k1 : ((rdN' st 4).e == 0) = true := by simpa using h1
  have k2 : decide (K < 2) = false := by rw [HK.out]; simpa using hk2'
  have RA := Lib.hid (show rdN' st 4 = reA st by unfold reA; rw [rdLe'_high hk2'])
  have j7 : ((reD st).e == 0) = true := by simpa using hd
  clear hK hD hR hC hQ hY hF hM hc he hk mb h1 hd hk2'
  have E := Lib.hid ((EnvR.start hr).alloc 37 (Rep.arr rz none 0))
  clear hr
  go_enter Try.func19, Try.ntmps19
  go_wp2_with (fail)
  refine (c_ref01_RNum p st 4 _ E.out.rd).mono ?_
  rintro e w1 ⟨rfl, hr, hk⟩
  rw [← HK.out]
  replace E := Lib.hid ((E.out.call hr hk).state (show _ = rdN' st 4 from rfl))
  clear hr hk
  go_wp2_with (with_reducible refine stop_store 37 (.tmp 3) (.tmp 6) rfl rfl ?_)
  refine Stop.mk (wpList_storeB rfl _ _ _ rfl w1.heap.size _ rfl rfl _ (Blk.new _ _ _) strRp rfl rfl (by simp [Value.oneCell']) ?_)
  intro w2 hb2 hk2
  replace E := Lib.hid (((E.out.alloc 37 (Rep.arr rz none 0)).put0 hb2 hk2).as (show _ = Rep.arr ⟨K, 0, 0, 0, 0, 0, 0, 0, [], 0⟩ none 0 from rfl))
  clear hb2 hk2
  have HG0 := Lib.hid (show w1.heap.size < w2.heap.size from E.out.b0.lt)
  obtain ⟨G1, hG1⟩ : ∃ g, g = w1.heap.size := ⟨_, rfl⟩
  rw [← hG1] at E HG0 ⊢
  clear hG1
  have hpg : ¬ p = G1 := by have := E.out.low; have := E.out.blks.1.2.1; omega
  have hgp : ¬ G1 = p := fun e => hpg e.symm
  obtain ⟨u0, u1, u2, u3, u4, u5, u6, u7, u8, u9⟩ := rep_cells E.out.b0
  have ff := fun i => E.out.b0.frozen i
  have uc := E.out.rd.1.cell (i := 1) rfl
  go_wp2_with (fail)
  clear u0 u1 u2 u3 u4 u5 u6 u7 u8 u9 ff uc
  replace E := Lib.hid (E.out.state RA.out)
  refine (c_ref01_RNum p _ 5 _ E.out.rd).mono ?_
  rintro e w3 ⟨rfl, hr, hk⟩
  rw [← HD.out]
  replace E := Lib.hid ((E.out.call hr hk).state (show _ = reB st from rfl))
  clear hr hk
  obtain ⟨u0, u1, u2, u3, u4, u5, u6, u7, u8, u9⟩ := rep_cells E.out.b0
  have ff := fun i => E.out.b0.frozen i
  have uc := E.out.rd.1.cell (i := 1) rfl
  go_wp2_with (fail)
  clear u0 u1 u2 u3 u4 u5 u6 u7 u8 u9 ff uc
  replace E := Lib.hid ((E.out.store0 1 (.int .i64 D)).as (show _ = Rep.arr ⟨K, D, 0, 0, 0, 0, 0, 0, [], 0⟩ none 0 from rfl))
  refine (c_ref19_Above p _ 1099511627776 _ E.out.rd).mono ?_
  rintro e w4 ⟨rfl, hr, hk⟩
  rw [← HR.out]
  replace E := Lib.hid ((E.out.call hr hk).state (show _ = reC st from rfl))
  clear hr hk
  obtain ⟨u0, u1, u2, u3, u4, u5, u6, u7, u8, u9⟩ := rep_cells E.out.b0
  have ff := fun i => E.out.b0.frozen i
  have uc := E.out.rd.1.cell (i := 1) rfl
  go_wp2_with (fail)
  clear u0 u1 u2 u3 u4 u5 u6 u7 u8 u9 ff uc
  replace E := Lib.hid ((E.out.store0 2 (.int .i64 R)).as (show _ = Rep.arr ⟨K, D, R, 0, 0, 0, 0, 0, [], 0⟩ none 0 from rfl))
  refine (c_ref01_RNum p _ 16 _ E.out.rd).mono ?_
  rintro e w5 ⟨rfl, hr, hk⟩
  rw [← HC.out]
  replace E := Lib.hid ((E.out.call hr hk).state (show _ = reD st from rfl))
  clear hr hk
  obtain ⟨u0, u1, u2, u3, u4, u5, u6, u7, u8, u9⟩ := rep_cells E.out.b0
  have ff := fun i => E.out.b0.frozen i
  have uc := E.out.rd.1.cell (i := 1) rfl
  go_wp2_with (fail)
  clear u0 u1 u2 u3 u4 u5 u6 u7 u8 u9 ff uc
  replace E := Lib.hid ((E.out.store0 3 (.int .i64 C)).as (show _ = Rep.arr ⟨K, D, R, C, 0, 0, 0, 0, [], 0⟩ none 0 from rfl))
  refine (c_ref01_RNum p _ 1099511627776 _ E.out.rd).mono ?_
  rintro e w6 ⟨rfl, hr, hk⟩
  rw [← HQ.out]
  replace E := Lib.hid ((E.out.call hr hk).state (show _ = reE st from rfl))
  clear hr hk
  obtain ⟨u0, u1, u2, u3, u4, u5, u6, u7, u8, u9⟩ := rep_cells E.out.b0
  have ff := fun i => E.out.b0.frozen i
  have uc := E.out.rd.1.cell (i := 1) rfl
  go_wp2_with (fail)
  clear u0 u1 u2 u3 u4 u5 u6 u7 u8 u9 ff uc
  replace E := Lib.hid ((E.out.store0 6 (.int .i64 Q)).as (show _ = Rep.arr ⟨K, D, R, C, 0, 0, Q, 0, [], 0⟩ none 0 from rfl))
  refine (c_ref19_Above p _ 1099511627776 _ E.out.rd).mono ?_
  rintro e w7 ⟨rfl, hr, hk⟩
  rw [← HY.out]
  replace E := Lib.hid ((E.out.call hr hk).state (show _ = reS1 st from rfl))
  clear hr hk
  obtain ⟨u0, u1, u2, u3, u4, u5, u6, u7, u8, u9⟩ := rep_cells E.out.b0
  have ff := fun i => E.out.b0.frozen i
  have uc := E.out.rd.1.cell (i := 1) rfl
  go_wp2_with (fail)
  clear u0 u1 u2 u3 u4 u5 u6 u7 u8 u9 ff uc
  replace E := Lib.hid ((E.out.store0 7 (.int .i64 Y)).as (show _ = Rep.arr ⟨K, D, R, C, 0, 0, Q, Y, [], 0⟩ none 0 from rfl))
  refine (c_ref16_Read p _ _ E.out.rd).mono ?_
  rintro e w8 ⟨v8, rfl, own, hr, hk⟩
  rw [← HF.out] at own
  obtain ⟨A, c, rfl, -⟩ := own_form own
  have HO := Lib.hid (show w.heap.size < w7.heap.size from by have := E.out.b1.lt; simpa [World.setCell] using this)
  have HG := Lib.hid (show G1 < w7.heap.size from by have := E.out.b0.lt; simpa [World.setCell] using this)
  have O := Lib.hid (show World.ownsRow w8 w7.heap.size 74 5 (.slice A F.length c) F.length (F.flatMap Node.cells) from by simpa [World.setCell] using own)
  clear own
  replace E := Lib.hid ((E.out.call hr hk).state (show _ = reS2 st from rfl))
  clear hr hk
  obtain ⟨u0, u1, u2, u3, u4, u5, u6, u7, u8, u9⟩ := rep_cells E.out.b0
  have ff := fun i => E.out.b0.frozen i
  have uc := E.out.rd.1.cell (i := 1) rfl
  go_wp2_with (fail)
  clear u0 u1 u2 u3 u4 u5 u6 u7 u8 u9 ff uc
  replace O := Lib.hid (own_kept O.out (kept_set w8 G1 8 (.slice A F.length c)) (fun g hg => by injection hg with hg; have := HG.out; omega))
  replace E := Lib.hid ((E.out.store0 8 (.slice A F.length c)).as (show _ = Rep.arr ⟨K, D, R, C, 0, 0, Q, Y, F, 0⟩ A c from rfl))
  refine (c_ref01_RNum p _ 511 _ E.out.rd).mono ?_
  rintro e w9 ⟨rfl, hr, hk⟩
  replace O := Lib.hid (own_kept O.out hk (fun g hg => by injection hg with hg; have := E.out.low; have := HO.out; omega))
  replace E := Lib.hid ((E.out.call hr hk).state (show _ = reS3 st from rfl))
  clear hr hk
  obtain ⟨u0, u1, u2, u3, u4, u5, u6, u7, u8, u9⟩ := rep_cells E.out.b0
  have ff := fun i => E.out.b0.frozen i
  have uc := E.out.rd.1.cell (i := 1) rfl
  go_wp2_with (with_reducible refine stop_store 37 (.tmp 2) (.tmp 68) rfl rfl ?_)
  clear u0 u1 u2 u3 u4 u5 u6 u7 u8 u9 ff uc
  replace O := Lib.hid (own_kept O.out (kept_set w9 G1 9 (.int .u32 M)) (fun g hg => by injection hg with hg; have := HG.out; omega))
  replace E := Lib.hid ((E.out.store0 9 (.int .u32 M)).as (show _ = Rep.arr ⟨K, D, R, C, 0, 0, Q, Y, F, M⟩ A c from rfl))
  refine Stop.mk (wpList_storeB rfl _ _ _ rfl w.heap.size _ rfl rfl _ E.out.b1 strRp rfl rfl (by simp [Value.oneCell']) ?_)
  intro w99 hb99 hk99
  replace E := Lib.hid (E.out.put1 hb99 hk99)
  clear hk99
  go_wp2_with (fail)
  exact bodyPost_ret (results_B rfl rfl hb99 strRp rfl) rfl ⟨none, 0, rfl, World.ownsRow_nil _ _ _ _, E.out.rd, E.out.kept⟩
set_option maxHeartbeats 4000000 in
set_option maxRecDepth 4000 in
theorem ref30_Read_C_else1 (p : Nat) (st : Rd) (w : World) (hr : RdR w p st) (hc : reCode st = 0) (hk2 : reK st ≠ 2) (hk3 : reK st ≠ 3) (hk2' : 2 ≤ rdN st 4) (h1 : (rdN' st 4).e = 0) (hd : (reD st).e = 0) (he : (rdRep' st).e = 0) : Calls Try.prog 19 #[.pointer (some ⟨p, 0, none⟩)] w (RetRA p (rdRep' st) w (rdRep st)) := by
  obtain ⟨x1, x2⟩ := re_else hc hk2 hk3
  rw [rdRep_ok he, x2, x1]
  rw [x1] at he
  clear x1 x2
  obtain ⟨K, hK⟩ : ∃ K, K = reK st := ⟨_, rfl⟩
  obtain ⟨D, hD⟩ : ∃ K, K = rdN (reA st) 5 := ⟨_, rfl⟩
  obtain ⟨R, hR⟩ : ∃ K, K = rdN (reB st) 1099511627776 := ⟨_, rfl⟩
  obtain ⟨C, hC⟩ : ∃ K, K = reCode st := ⟨_, rfl⟩
  obtain ⟨Q, hQ⟩ : ∃ K, K = rdN (reD st) 1099511627776 := ⟨_, rfl⟩
  have je : ((reE st).e != 0) = false := by simpa using he
  have jc : (C == 0) = true := by rw [hC]; simpa using hc
  have j2 : (K == 2) = false := by rw [hK]; simpa using hk2
  have j3 : (K == 3) = false := by rw [hK]; simpa using hk3
  have HK := Lib.hid (show K = rdN st 4 from hK)
  have HD := Lib.hid (show D = rdN (reA st) 5 from hD)
  have HR := Lib.hid (show R = rdN (reB st) 1099511627776 from hR)
  have HC := Lib.hid (show C = rdN (reC st) 16 from hC)
  have HQ := Lib.hid (show Q = rdN (reD st) 1099511627776 from hQ)
  rw [← hK, ← hD, ← hR, ← hQ]
  have HC0 := Lib.hid (hC.trans hc)
  have k1 : ((rdN' st 4).e == 0) = true := by simpa using h1
  have k2 : decide (K < 2) = false := by rw [HK.out]; simpa using hk2'
  have RA := Lib.hid (show rdN' st 4 = reA st by unfold reA; rw [rdLe'_high hk2'])
  have j7 : ((reD st).e == 0) = true := by simpa using hd
  clear hK hD hR hC hQ hc he hk2 hk3 h1 hd hk2'
  have E := Lib.hid ((EnvR.start hr).alloc 37 (Rep.arr rz none 0))
  clear hr
  go_enter Try.func19, Try.ntmps19
  go_wp2_with (fail)
  refine (c_ref01_RNum p st 4 _ E.out.rd).mono ?_
  rintro e w1 ⟨rfl, hr, hk⟩
  rw [← HK.out]
  replace E := Lib.hid ((E.out.call hr hk).state (show _ = rdN' st 4 from rfl))
  clear hr hk
  go_wp2_with (with_reducible refine stop_store 37 (.tmp 3) (.tmp 6) rfl rfl ?_)
  refine Stop.mk (wpList_storeB rfl _ _ _ rfl w1.heap.size _ rfl rfl _ (Blk.new _ _ _) strRp rfl rfl (by simp [Value.oneCell']) ?_)
  intro w2 hb2 hk2
  replace E := Lib.hid (((E.out.alloc 37 (Rep.arr rz none 0)).put0 hb2 hk2).as (show _ = Rep.arr ⟨K, 0, 0, 0, 0, 0, 0, 0, [], 0⟩ none 0 from rfl))
  clear hb2 hk2
  have HG0 := Lib.hid (show w1.heap.size < w2.heap.size from E.out.b0.lt)
  obtain ⟨G1, hG1⟩ : ∃ g, g = w1.heap.size := ⟨_, rfl⟩
  rw [← hG1] at E HG0 ⊢
  clear hG1
  have hpg : ¬ p = G1 := by have := E.out.low; have := E.out.blks.1.2.1; omega
  have hgp : ¬ G1 = p := fun e => hpg e.symm
  obtain ⟨u0, u1, u2, u3, u4, u5, u6, u7, u8, u9⟩ := rep_cells E.out.b0
  have ff := fun i => E.out.b0.frozen i
  have uc := E.out.rd.1.cell (i := 1) rfl
  go_wp2_with (fail)
  clear u0 u1 u2 u3 u4 u5 u6 u7 u8 u9 ff uc
  replace E := Lib.hid (E.out.state RA.out)
  refine (c_ref01_RNum p _ 5 _ E.out.rd).mono ?_
  rintro e w3 ⟨rfl, hr, hk⟩
  rw [← HD.out]
  replace E := Lib.hid ((E.out.call hr hk).state (show _ = reB st from rfl))
  clear hr hk
  obtain ⟨u0, u1, u2, u3, u4, u5, u6, u7, u8, u9⟩ := rep_cells E.out.b0
  have ff := fun i => E.out.b0.frozen i
  have uc := E.out.rd.1.cell (i := 1) rfl
  go_wp2_with (fail)
  clear u0 u1 u2 u3 u4 u5 u6 u7 u8 u9 ff uc
  replace E := Lib.hid ((E.out.store0 1 (.int .i64 D)).as (show _ = Rep.arr ⟨K, D, 0, 0, 0, 0, 0, 0, [], 0⟩ none 0 from rfl))
  refine (c_ref19_Above p _ 1099511627776 _ E.out.rd).mono ?_
  rintro e w4 ⟨rfl, hr, hk⟩
  rw [← HR.out]
  replace E := Lib.hid ((E.out.call hr hk).state (show _ = reC st from rfl))
  clear hr hk
  obtain ⟨u0, u1, u2, u3, u4, u5, u6, u7, u8, u9⟩ := rep_cells E.out.b0
  have ff := fun i => E.out.b0.frozen i
  have uc := E.out.rd.1.cell (i := 1) rfl
  go_wp2_with (fail)
  clear u0 u1 u2 u3 u4 u5 u6 u7 u8 u9 ff uc
  replace E := Lib.hid ((E.out.store0 2 (.int .i64 R)).as (show _ = Rep.arr ⟨K, D, R, 0, 0, 0, 0, 0, [], 0⟩ none 0 from rfl))
  refine (c_ref01_RNum p _ 16 _ E.out.rd).mono ?_
  rintro e w5 ⟨rfl, hr, hk⟩
  rw [← HC.out]
  replace E := Lib.hid ((E.out.call hr hk).state (show _ = reD st from rfl))
  clear hr hk
  obtain ⟨u0, u1, u2, u3, u4, u5, u6, u7, u8, u9⟩ := rep_cells E.out.b0
  have ff := fun i => E.out.b0.frozen i
  have uc := E.out.rd.1.cell (i := 1) rfl
  go_wp2_with (fail)
  clear u0 u1 u2 u3 u4 u5 u6 u7 u8 u9 ff uc
  replace E := Lib.hid ((E.out.store0 3 (.int .i64 C)).as (show _ = Rep.arr ⟨K, D, R, C, 0, 0, 0, 0, [], 0⟩ none 0 from rfl))
  refine (c_ref01_RNum p _ 1099511627776 _ E.out.rd).mono ?_
  rintro e w6 ⟨rfl, hr, hk⟩
  rw [← HQ.out]
  replace E := Lib.hid ((E.out.call hr hk).state (show _ = reE st from rfl))
  clear hr hk
  obtain ⟨u0, u1, u2, u3, u4, u5, u6, u7, u8, u9⟩ := rep_cells E.out.b0
  have ff := fun i => E.out.b0.frozen i
  have uc := E.out.rd.1.cell (i := 1) rfl
  go_wp2_with (with_reducible refine stop_load 37 (.tmp 3) rfl rfl ?_)
  clear u0 u1 u2 u3 u4 u5 u6 u7 u8 u9 ff uc
  replace E := Lib.hid ((E.out.store0 6 (.int .i64 Q)).as (show _ = Rep.arr ⟨K, D, R, C, 0, 0, Q, 0, [], 0⟩ none 0 from rfl))
  refine Stop.mk (wpList_loadB rfl _ _ rfl G1 rfl _ E.out.b0 strRp rfl ?_)
  go_wp2_with (with_reducible refine stop_store 37 (.tmp 2) (.tmp 69) rfl rfl ?_)
  refine Stop.mk (wpList_storeB rfl _ _ _ rfl w.heap.size _ rfl rfl _ E.out.b1 strRp rfl rfl (by simp [Value.oneCell']) ?_)
  intro w99 hb99 hk99
  replace E := Lib.hid (E.out.put1 hb99 hk99)
  clear hk99
  go_wp2_with (fail)
  have hC0 := HC0.out; subst hC0
  exact bodyPost_ret (results_B rfl rfl hb99 strRp rfl) rfl ⟨none, 0, rfl, World.ownsRow_nil _ _ _ _, E.out.rd, E.out.kept⟩
set_option maxHeartbeats 4000000 in
set_option maxRecDepth 4000 in
theorem ref30_Read_C_else0 (p : Nat) (st : Rd) (w : World) (hr : RdR w p st) (hc : reCode st = 0) (hk2 : reK st ≠ 2) (hk3 : reK st ≠ 3) (hk2' : 2 ≤ rdN st 4) (h1 : (rdN' st 4).e = 0) (hd : (reD st).e = 0) (he : (rdRep' st).e ≠ 0) : Calls Try.prog 19 #[.pointer (some ⟨p, 0, none⟩)] w (RetRA p (rdRep' st) w (rdRep st)) := by
  obtain ⟨x1, x2⟩ := re_else hc hk2 hk3
  rw [rdRep_bad he, x1]
  rw [x1] at he
  clear x1 x2
  obtain ⟨K, hK⟩ : ∃ K, K = reK st := ⟨_, rfl⟩
  obtain ⟨D, hD⟩ : ∃ K, K = rdN (reA st) 5 := ⟨_, rfl⟩
  obtain ⟨R, hR⟩ : ∃ K, K = rdN (reB st) 1099511627776 := ⟨_, rfl⟩
  obtain ⟨C, hC⟩ : ∃ K, K = reCode st := ⟨_, rfl⟩
  obtain ⟨Q, hQ⟩ : ∃ K, K = rdN (reD st) 1099511627776 := ⟨_, rfl⟩
  have je : ((reE st).e != 0) = true := by simpa using he
  have jc : (C == 0) = true := by rw [hC]; simpa using hc
  have j2 : (K == 2) = false := by rw [hK]; simpa using hk2
  have j3 : (K == 3) = false := by rw [hK]; simpa using hk3
  have HK := Lib.hid (show K = rdN st 4 from hK)
  have HD := Lib.hid (show D = rdN (reA st) 5 from hD)
  have HR := Lib.hid (show R = rdN (reB st) 1099511627776 from hR)
  have HC := Lib.hid (show C = rdN (reC st) 16 from hC)
  have HQ := Lib.hid (show Q = rdN (reD st) 1099511627776 from hQ)
  have k1 : ((rdN' st 4).e == 0) = true := by simpa using h1
  have k2 : decide (K < 2) = false := by rw [HK.out]; simpa using hk2'
  have RA := Lib.hid (show rdN' st 4 = reA st by unfold reA; rw [rdLe'_high hk2'])
  have j7 : ((reD st).e == 0) = true := by simpa using hd
  clear hK hD hR hC hQ hc he hk2 hk3 h1 hd hk2'
  have E := Lib.hid ((EnvR.start hr).alloc 37 (Rep.arr rz none 0))
  clear hr
  go_enter Try.func19, Try.ntmps19
  go_wp2_with (fail)
  refine (c_ref01_RNum p st 4 _ E.out.rd).mono ?_
  rintro e w1 ⟨rfl, hr, hk⟩
  rw [← HK.out]
  replace E := Lib.hid ((E.out.call hr hk).state (show _ = rdN' st 4 from rfl))
  clear hr hk
  go_wp2_with (with_reducible refine stop_store 37 (.tmp 3) (.tmp 6) rfl rfl ?_)
  refine Stop.mk (wpList_storeB rfl _ _ _ rfl w1.heap.size _ rfl rfl _ (Blk.new _ _ _) strRp rfl rfl (by simp [Value.oneCell']) ?_)
  intro w2 hb2 hk2
  replace E := Lib.hid (((E.out.alloc 37 (Rep.arr rz none 0)).put0 hb2 hk2).as (show _ = Rep.arr ⟨K, 0, 0, 0, 0, 0, 0, 0, [], 0⟩ none 0 from rfl))
  clear hb2 hk2
  have HG0 := Lib.hid (show w1.heap.size < w2.heap.size from E.out.b0.lt)
  obtain ⟨G1, hG1⟩ : ∃ g, g = w1.heap.size := ⟨_, rfl⟩
  rw [← hG1] at E HG0 ⊢
  clear hG1
  have hpg : ¬ p = G1 := by have := E.out.low; have := E.out.blks.1.2.1; omega
  have hgp : ¬ G1 = p := fun e => hpg e.symm
  obtain ⟨u0, u1, u2, u3, u4, u5, u6, u7, u8, u9⟩ := rep_cells E.out.b0
  have ff := fun i => E.out.b0.frozen i
  have uc := E.out.rd.1.cell (i := 1) rfl
  go_wp2_with (fail)
  clear u0 u1 u2 u3 u4 u5 u6 u7 u8 u9 ff uc
  replace E := Lib.hid (E.out.state RA.out)
  refine (c_ref01_RNum p _ 5 _ E.out.rd).mono ?_
  rintro e w3 ⟨rfl, hr, hk⟩
  rw [← HD.out]
  replace E := Lib.hid ((E.out.call hr hk).state (show _ = reB st from rfl))
  clear hr hk
  obtain ⟨u0, u1, u2, u3, u4, u5, u6, u7, u8, u9⟩ := rep_cells E.out.b0
  have ff := fun i => E.out.b0.frozen i
  have uc := E.out.rd.1.cell (i := 1) rfl
  go_wp2_with (fail)
  clear u0 u1 u2 u3 u4 u5 u6 u7 u8 u9 ff uc
  replace E := Lib.hid ((E.out.store0 1 (.int .i64 D)).as (show _ = Rep.arr ⟨K, D, 0, 0, 0, 0, 0, 0, [], 0⟩ none 0 from rfl))
  refine (c_ref19_Above p _ 1099511627776 _ E.out.rd).mono ?_
  rintro e w4 ⟨rfl, hr, hk⟩
  rw [← HR.out]
  replace E := Lib.hid ((E.out.call hr hk).state (show _ = reC st from rfl))
  clear hr hk
  obtain ⟨u0, u1, u2, u3, u4, u5, u6, u7, u8, u9⟩ := rep_cells E.out.b0
  have ff := fun i => E.out.b0.frozen i
  have uc := E.out.rd.1.cell (i := 1) rfl
  go_wp2_with (fail)
  clear u0 u1 u2 u3 u4 u5 u6 u7 u8 u9 ff uc
  replace E := Lib.hid ((E.out.store0 2 (.int .i64 R)).as (show _ = Rep.arr ⟨K, D, R, 0, 0, 0, 0, 0, [], 0⟩ none 0 from rfl))
  refine (c_ref01_RNum p _ 16 _ E.out.rd).mono ?_
  rintro e w5 ⟨rfl, hr, hk⟩
  rw [← HC.out]
  replace E := Lib.hid ((E.out.call hr hk).state (show _ = reD st from rfl))
  clear hr hk
  obtain ⟨u0, u1, u2, u3, u4, u5, u6, u7, u8, u9⟩ := rep_cells E.out.b0
  have ff := fun i => E.out.b0.frozen i
  have uc := E.out.rd.1.cell (i := 1) rfl
  go_wp2_with (fail)
  clear u0 u1 u2 u3 u4 u5 u6 u7 u8 u9 ff uc
  replace E := Lib.hid ((E.out.store0 3 (.int .i64 C)).as (show _ = Rep.arr ⟨K, D, R, C, 0, 0, 0, 0, [], 0⟩ none 0 from rfl))
  refine (c_ref01_RNum p _ 1099511627776 _ E.out.rd).mono ?_
  rintro e w6 ⟨rfl, hr, hk⟩
  rw [← HQ.out]
  replace E := Lib.hid ((E.out.call hr hk).state (show _ = reE st from rfl))
  clear hr hk
  obtain ⟨u0, u1, u2, u3, u4, u5, u6, u7, u8, u9⟩ := rep_cells E.out.b0
  have ff := fun i => E.out.b0.frozen i
  have uc := E.out.rd.1.cell (i := 1) rfl
  go_wp2_with (with_reducible refine stop_store 37 (.tmp 2) (.tmp 68) rfl rfl ?_)
  clear u0 u1 u2 u3 u4 u5 u6 u7 u8 u9 ff uc
  replace E := Lib.hid ((E.out.store0 6 (.int .i64 Q)).as (show _ = Rep.arr ⟨K, D, R, C, 0, 0, Q, 0, [], 0⟩ none 0 from rfl))
  refine Stop.mk (wpList_storeB rfl _ _ _ rfl w.heap.size _ rfl rfl _ E.out.b1 strRp rfl rfl (by simp [Value.oneCell']) ?_)
  intro w99 hb99 hk99
  replace E := Lib.hid (E.out.put1 hb99 hk99)
  clear hk99
  go_wp2_with (fail)
  exact bodyPost_ret (results_B rfl rfl hb99 strRp rfl) rfl ⟨none, 0, rfl, World.ownsRow_nil _ _ _ _, E.out.rd, E.out.kept⟩
theorem reD_of {st : Rd} (h : (reA st).e ≠ 0) : (reD st).e ≠ 0 := by
  have h2 : reB st = reA st := (rdN_err h).2
  have h3 : reC st = reA st := by unfold reC; rw [h2]; exact rdAb'_bad h
  have h4 : reD st = reA st := by unfold reD; rw [h3]; exact (rdN_err h).2
  rw [h4]; exact h
theorem c_ref30_Read (p : Nat) (st : Rd) (w : World) (hr : RdR w p st) : Calls Try.prog 19 #[.pointer (some ⟨p, 0, none⟩)] w (RetRA p (rdRep' st) w (rdRep st)) := by
  by_cases h1 : (rdN' st 4).e = 0
  · by_cases h2 : 2 ≤ rdN st 4
    · by_cases hd : (reD st).e = 0
      · by_cases hc : reCode st = 0
        · by_cases he : (rdRep' st).e = 0
          · by_cases k2 : reK st = 2
            · exact ref30_Read_C_put1 p st w hr hc k2 h2 h1 hd he
            · by_cases k3 : reK st = 3
              · exact ref30_Read_C_sub1 p st w hr hc k3 h2 h1 hd he
              · exact ref30_Read_C_else1 p st w hr hc k2 k3 h2 h1 hd he
          · by_cases k2 : reK st = 2
            · exact ref30_Read_C_put0 p st w hr hc k2 h2 h1 hd he
            · by_cases k3 : reK st = 3
              · exact ref30_Read_C_sub0 p st w hr hc k3 h2 h1 hd he
              · exact ref30_Read_C_else0 p st w hr hc k2 k3 h2 h1 hd he
        · exact ref30_Read_C_err1 p st w hr hc h2 h1 hd (by rw [(re_err hc).1]; exact hd)
      · exact ref30_Read_D p st w hr h1 h2 hd
    · exact ref30_Read_B p st w hr h1 (by omega) (reD_of (by unfold reA; rw [rdLe'_low (by omega)]; exact rdF_bad _ (by decide)))
  · exact ref30_Read_A p st w hr h1 (reD_of (by unfold reA; rw [rdLe'_low (by have := rdN_err' h1; omega), rdF_err h1]; exact h1))
end Go.Proofs.Ytplipddgeanajaa
/-! Relt -/
namespace Go.Proofs.Ytplipddgeanajaa
open Go.RowKit

def relBt (ops : Array Oper) (N n : Nat) : Bool :=
  (List.range n).all fun i => match ops[i]? with
    | none => false
    | some o =>
      (match o.dst with
        | none => false
        | some d => decide (d < N) && (List.range ops.size).all (fun j => j == i || dstOf ops j != some d)) &&
      (match o.op with
        | .select .. => false
        | _ => true) &&
      o.after.all (fun e => !Region.binds .any e || decide (e.on < i)) &&
      (o.looksAt ops).all (fun t => (List.range ops.size).all fun j => dstOf ops j != some t || o.after.any (fun e => Region.binds .any e && e.on == j) ||
        (match ops[j]? with
          | none => false
          | some oj => oj.after.any (fun e => Region.binds .any e && e.on == i)))
section
variable {ops : Array Oper} {N : Nat}
theorem relBt_spec {n : Nat} (h : relBt ops N n = true) {i : Nat} {o : Oper} (hin : i < n) (ho : ops[i]? = some o) :
    (∃ d, o.dst = some d ∧ d < N ∧ ∀ j, dstOf ops j = some d → j = i) ∧ (∀ cs b, o.op ≠ .select cs b) ∧ (∀ e ∈ o.after, Region.binds .any e = true → e.on < i) ∧
    (∀ t ∈ o.looksAt ops, ∀ j, dstOf ops j = some t → (∃ e ∈ o.after, Region.binds .any e = true ∧ e.on = j) ∨ (∃ oj, ops[j]? = some oj ∧ ∃ e ∈ oj.after, Region.binds .any e = true ∧ e.on = i)) := by
  have hi : i < ops.size := (Array.getElem?_eq_some_iff.1 ho).1
  have hlt : ∀ j t, dstOf ops j = some t → j < ops.size := fun j t hj => by
    rcases Nat.lt_or_ge j ops.size with h | h
    · exact h
    · simp [dstOf, Array.getElem?_eq_none h] at hj
  unfold relBt at h
  rw [List.all_eq_true] at h
  have h1 := h i (List.mem_range.2 hin)
  rw [ho] at h1
  simp only [Bool.and_eq_true] at h1
  obtain ⟨⟨⟨h2, h3⟩, h4⟩, h5⟩ := h1
  refine ⟨?_, ?_, ?_, ?_⟩
  · cases hd : o.dst with
    | none => rw [hd] at h2; cases h2
    | some d =>
      rw [hd] at h2
      simp only [Bool.and_eq_true, decide_eq_true_eq] at h2
      refine ⟨d, rfl, h2.1, fun j hj => ?_⟩
      have := List.all_eq_true.1 h2.2 j (List.mem_range.2 (hlt j d hj))
      simp only [Bool.or_eq_true, beq_iff_eq, bne_iff_ne] at this
      exact this.resolve_right (fun hn => hn hj)
  · intro cs b hs
    rw [hs] at h3
    cases h3
  · intro e he hb
    have := Array.all_eq_true_iff_forall_mem.1 h4 e he
    simpa [hb] using this
  · intro t ht j hj
    have := List.all_eq_true.1 (List.all_eq_true.1 h5 t ht) j (List.mem_range.2 (hlt j t hj))
    simp only [Bool.or_eq_true, bne_iff_ne] at this
    rcases this with (h6 | h6) | h6
    · exact absurd hj h6
    · left
      rw [Array.any_eq_true'] at h6
      obtain ⟨e, he, h7⟩ := h6
      simp only [Bool.and_eq_true, beq_iff_eq] at h7
      exact ⟨e, he, h7.1, h7.2⟩
    · right
      cases hoj : ops[j]? with
      | none => rw [hoj] at h6; cases h6
      | some oj =>
        rw [hoj] at h6
        simp only at h6
        rw [Array.any_eq_true'] at h6
        obtain ⟨e, he, h7⟩ := h6
        simp only [Bool.and_eq_true, beq_iff_eq] at h7
        exact ⟨oj, rfl, e, he, h7.1, h7.2⟩
end
/-- The goals of the operations ahead of place n. -/
def HopT (P : Program) (l : List Oper) (S : List Sp) (a : Act) (w : World) (n : Nat) : Prop :=
  ∀ (i : Nat) (o : Oper), l[i]? = some o → i < n → ∀ (u : Nat → Value) (w1 : World), Below w.heap.size w w1 → Deps S u w1 o.after.toList →
    wpList P l.toArray (RelEnd a.defers o.dst (S.getD i Sp.any) w1) [o] (putDeps l.toArray u o.after.toList a) w1
section
variable {P : Program} {S : List Sp} {a : Act} {w : World} {l : List Oper}
theorem HopT.of {n : Nat} (_hn : n ≤ l.length) (h : RelGoals P l.toArray S a w (l.take n) 0) : HopT P l S a w n := fun i o ho hi u w1 hb hd => by
  have := RelGoals.at (l.take n) 0 h i o (by rw [List.getElem?_take]; simp [hi, ho]) u w1 hb hd
  rw [Nat.zero_add] at this
  exact this
theorem relT_step {Q : Exit → Act → World → Prop} {N : Nat} {n : Nat} (hB : relBt l.toArray N n = true) (ha : a.tmps.size = N) (hop : HopT P l S a w n) {listed : Array Bool} (hsz : listed.size = l.length) {a' : Act} {w' : World} (inv : RelInv l S a w listed a' w') {i : Nat} (hr : i ∈ Region.ready .any l.toArray listed) (hin : i < n) :
    wpOp P l.toArray Q i (RelInv l S a w (listed.setIfInBounds i true)) a' w' := by
  obtain ⟨hun, o, ho, hall⟩ := mem_ready.1 hr
  have hol : l[i]? = some o := by simpa using ho
  obtain ⟨⟨d, hd, hdN, huniq⟩, hsel, _, hlook⟩ := relBt_spec hB hin ho
  obtain ⟨hbel, hdef, hsize, hclosed, hold, u, hu⟩ := inv
  have hil : i < l.length := by
    rcases Nat.lt_or_ge i l.length with h | h
    · exact h
    · simp [List.getElem?_eq_none h] at hol
  have hunf : listed.getD i false = false := by
    have : i < listed.size := by omega
    simpa [this] using hun
  have dst_at : ∀ j t, dstOf l.toArray j = some t → ∃ oj, l[j]? = some oj ∧ oj.dst = some t := fun j t h => by
    unfold dstOf at h
    rw [List.getElem?_toArray] at h
    cases hj : l[j]? with
    | none => rw [hj] at h; cases h
    | some oj => rw [hj] at h; exact ⟨oj, rfl, h⟩
  have dst_of : ∀ j oj t, l[j]? = some oj → oj.dst = some t → dstOf l.toArray j = some t := fun j oj t h h' => by
    unfold dstOf
    rw [List.getElem?_toArray, h]; exact h'
  have hdeps : Deps S u w' o.after.toList := Deps.of _ (fun e he hb => by
    have he' : e ∈ o.after := by simpa using he
    have hl := hall e he' hb
    have hlo := (relBt_spec hB hin ho).2.2.1 e he' hb
    have hlt : e.on < l.length := by omega
    obtain ⟨⟨t, ht, _⟩, _⟩ := relBt_spec hB (i := e.on) (o := l[e.on]) (by omega) (by simp [hlt])
    exact (hu e.on l[e.on] t (by simp [hlt]) ht hl).2)
  have hgoal := hop i o hol hin u w' hbel hdeps
  have hF := putDeps_size (ops := l.toArray) u o.after.toList a
  generalize hFe : putDeps l.toArray u o.after.toList a = F at hgoal hF
  have agree : ∀ t ∈ o.looksAt l.toArray, F.tmps[t]? = a'.tmps[t]? := by
    intro t ht
    by_cases hex : ∃ e ∈ o.after.toList, Region.binds .any e = true ∧ dstOf l.toArray e.on = some t
    · obtain ⟨e, he, hb, hde⟩ := hex
      obtain ⟨oj, hj, hdj⟩ := dst_at _ _ hde
      have hw := (hu e.on oj t hj hdj (hall e (by simpa using he) hb)).1
      obtain ⟨⟨d', hd', hdN', huniq'⟩, _⟩ := relBt_spec hB (i := e.on) (o := oj) (by have := (relBt_spec hB hin ho).2.2.1 e (by simpa using he) hb; omega) (by simpa using hj)
      have : d' = t := by rw [hd'] at hdj; injection hdj
      subst this
      rw [hw, ← hFe]
      exact putDeps_hit u huniq' _ _ (by rw [ha]; exact hdN') ⟨e, he, hb, hde⟩
    · rw [← hFe, putDeps_miss u _ _ (fun e he hb hde => hex ⟨e, he, hb, hde⟩)]
      symm
      refine hold t (fun j oj hj hdj => ?_)
      cases hlj : listed.getD j false
      · rfl
      · rcases hlook t ht j (dst_of j oj t hj hdj) with ⟨e, he, hb, hej⟩ | ⟨oj', hoj', e, he, hb, hei⟩
        · exact absurd ⟨e, by simpa using he, hb, by rw [hej]; exact dst_of j oj t hj hdj⟩ hex
        · have : oj' = oj := by
            rw [List.getElem?_toArray, hj] at hoj'
            injection hoj' with hoj'
            exact hoj'.symm
          subst this
          have := hclosed j oj' hj hlj e he hb
          rw [hei, hunf] at this
          cases this
  have heval : execOp F.eval o = execOp a'.eval o := execOp_congr o hsel (eval_agree agree)
  have hwant := wanted_agree agree
  have fin : ∀ v w'', RelEnd a.defers o.dst (S.getD i Sp.any) w' .normal (F.put o.dst v) w'' → RelInv l S a w (listed.setIfInBounds i true) (a'.put o.dst v) w'' := by
    rintro v w'' ⟨_, _, hb2, hs⟩
    have hs' := hs d hd
    rw [hd] at hs'
    have hg : (F.put (some d) v).tmps.getD d undef = v := by
      have := put_get_eq F v (t := d) (by rw [hF.1, ha]; exact hdN)
      rw [Array.getD_eq_getD_getElem?, this]; rfl
    rw [hg] at hs'
    refine ⟨hbel.trans (hb2.mono hbel.size), by rw [put_defers, hdef], by rw [put_size, hsize], ?_, ?_, fun j => if j = i then v else u j, ?_⟩
    · intro j oj hj hlj e he hb
      by_cases hji : i = j
      · subst hji
        rw [hol] at hj
        injection hj with hj
        subst hj
        exact getD_set_true (hall e he hb)
      · rw [getD_set_false hji] at hlj
        exact getD_set_true (hclosed j oj hj hlj e he hb)
    · intro t ht
      have hne : o.dst ≠ some t := fun he => by
        have := ht i o hol he
        rw [show (listed.setIfInBounds i true).getD i false = true by simp [hsz, hil]] at this
        cases this
      rw [put_get_ne _ _ hne]
      refine hold t (fun j oj hj hdj => ?_)
      have hji : i ≠ j := fun e => by
        subst e
        rw [hol] at hj
        injection hj with hj
        subst hj
        exact hne hdj
      have := ht j oj hj hdj
      rwa [getD_set_false hji] at this
    · intro j oj t hj hdj hlj
      by_cases hji : j = i
      · subst hji
        rw [hol] at hj
        injection hj with hj
        subst hj
        rw [hd] at hdj
        injection hdj with hdj
        subst hdj
        simp only [if_true]
        rw [hd]
        exact ⟨put_get_eq _ _ (by rw [hsize, ha]; exact hdN), hs'⟩
      · rw [getD_set_false (Ne.symm hji)] at hlj
        simp only [if_neg hji]
        have hne : o.dst ≠ some t := fun he => by
          rw [hd] at he
          injection he with he
          subst he
          exact hji (huniq j (dst_of j oj d hj hdj))
        obtain ⟨h1, h2⟩ := hu j oj t hj hdj hlj
        exact ⟨(put_get_ne _ _ hne).trans h1, (S.getD j Sp.any).stays _ _ _ h2 hb2⟩
  have nolets : ¬ LetsOut (RelEnd a.defers o.dst (S.getD i Sp.any) w') := by
    rintro ⟨_, _, h, _⟩
    cases h
  unfold wpOp
  simp only [ho]
  simp only [wpList, hwant] at hgoal
  by_cases hw : Region.wanted o (yielded l.toArray a'.tmps) = true
  · rw [if_pos hw] at hgoal ⊢
    rcases hgoal with h | ⟨_, h⟩
    · left
      unfold Oper.wp at h ⊢
      rw [heval] at h
      generalize (execOp a'.eval o).run P w' = r at h ⊢
      cases r with
      | ok n w'' =>
        cases n <;> simp only [Oper.upon] at h ⊢
        case value u => exact fin _ _ h
        case skip => exact fin _ _ h
        case defer x =>
          exfalso
          obtain ⟨_, h2, _⟩ := h
          rw [put_defers] at h2
          have := congrArg List.length h2
          simp only [List.length_cons, hF.2] at this
          omega
        case enter f args =>
          refine Calls.mono h fun e w'' he => ?_
          cases e with
          | returned u => exact fin _ _ he
          | panicked c => cases he.1
          | outgrown => exact absurd he nolets
        case row row args => exact Rows.mono h fun u w'' he => fin _ _ he
      | halt x w'' =>
        cases x <;> simp only [Oper.upon] at h ⊢
        case panic u => cases h.1
    · exact absurd h nolets
  · rw [if_neg hw] at hgoal ⊢
    exact fin _ _ hgoal
def doneT (n m : Nat) : Array Bool := (List.replicate n true ++ List.replicate (m - n) false).toArray
theorem doneT_of {n : Nat} (hn : n ≤ l.length) {listed : Array Bool} (hsz : listed.size = l.length) (ht : ∀ t, n ≤ t → listed.getD t false = false) (hall : ∀ j, j < n → listed.getD j false = true) : listed = doneT n l.length := by
  apply Array.ext_getElem?
  intro j
  have e : (doneT n l.length)[j]? = (List.replicate n true ++ List.replicate (l.length - n) false)[j]? := by unfold doneT; rw [List.getElem?_toArray]
  rw [e, List.getElem?_append]
  by_cases hj : j < n
  · have h := hall j hj
    have hjs : j < listed.size := by omega
    simp [hjs] at h
    simp [hj, hjs, h]
  · by_cases hjl : j < l.length
    · have h := ht j (by omega)
      have hjs : j < listed.size := by omega
      simp [hjs] at h
      rw [if_neg (by simpa using hj), List.length_replicate, List.getElem?_replicate, if_pos (by omega), Array.getElem?_eq_getElem hjs, h]
    · simp [hj, Array.getElem?_eq_none (show listed.size ≤ j by omega)]
      omega
theorem relT_any {Q : Exit → Act → World → Prop} {N n : Nat} (J : Array Bool → Prop) (hJ : ∀ listed i, J listed → J (listed.setIfInBounds i true)) (hn : n < l.length) (hB : relBt l.toArray N n = true) (hwait : ∀ listed, J listed → HeadInv .any l.toArray n listed → ∀ i, i < n → listed.getD i true = false → ∀ t, n ≤ t → t ∉ Region.ready .any l.toArray listed) (hsq : Region.seqB .any l.toArray (l.length - n) n (doneT n l.length) = true) (ha : a.tmps.size = N) (hS : S.length = n) (hop : HopT P l S a w n)
    (hend : ∀ u w1, Below w.heap.size w w1 → RelHold u w1 S 0 → wpList P l.toArray Q (l.drop n) (putAll u (l.take n) 0 a) w1) :
    ∀ (f : Nat) (listed : Array Bool) (a' : Act) (w' : World), listed.size = l.length → (∀ t, n ≤ t → listed.getD t false = false) → listed.toList.count false = f + (l.length - n) → J listed → RelInv l S a w listed a' w' → wpAny P .any l.toArray Q (f + (l.length - n)) listed a' w' := by
  intro f
  induction f with
  | zero =>
    intro listed a' w' hsz htl hc hj0' inv
    have hall : ∀ j, j < n → listed.getD j false = true := by
      intro j hj
      cases hlj : listed.getD j false
      · exfalso
        have hjs : j < listed.size := by omega
        have h1 : (listed.setIfInBounds j true).toList.count false + 1 = listed.toList.count false := by
          have hun : listed[j] = false := by simpa [hjs] using hlj
          have hpos : 0 < listed.toList.count false := List.count_pos_iff.2 (by rw [← hun]; simp)
          rw [Array.toList_setIfInBounds, List.count_set (by simpa using hjs)]
          rw [if_pos (show (listed.toList[j]'(by simpa using hjs) == false) = true by simp [hun]), if_neg (by decide)]
          omega
        have h2 : l.length - n ≤ (listed.setIfInBounds j true).toList.count false := by
          have h3 : (listed.setIfInBounds j true).toList.drop n = List.replicate (l.length - n) false := by
            apply List.ext_getElem?
            intro k
            rw [List.getElem?_drop, List.getElem?_replicate]
            by_cases hk : k < l.length - n
            · have h4 := htl (n + k) (by omega)
              have hks : n + k < listed.size := by omega
              simp [hks] at h4
              rw [if_pos hk]
              simp [hks, h4, show ¬ j = n + k by omega]
            · rw [if_neg hk]
              simp
              omega
          have h5 := List.take_append_drop n (listed.setIfInBounds j true).toList
          rw [← h5, List.count_append, h3]
          simp
        omega
      · rfl
    rw [Nat.zero_add]
    have hL := doneT_of (Nat.le_of_lt hn) hsz htl hall
    obtain ⟨hbel, hdef, hsize, _, hold, u, hu⟩ := inv
    have e : a' = putAll u (l.take n) 0 a := by
      have h1 := putAll_size u (l.take n) 0 a
      obtain ⟨tm, df⟩ := a'
      generalize hFe : putAll u (l.take n) 0 a = F at h1
      obtain ⟨tm2, df2⟩ := F
      simp only at hdef hsize h1
      have : tm = tm2 := by
        apply Array.ext_getElem?
        intro t
        have hF2 : tm2[t]? = (putAll u (l.take n) 0 a).tmps[t]? := by rw [hFe]
        rw [hF2]
        by_cases hex : ∃ (j : Nat) (o : Oper), j < n ∧ l[j]? = some o ∧ o.dst = some t
        · obtain ⟨j, o, hjn, hj, hd⟩ := hex
          obtain ⟨⟨d, hd', hdN, huniq⟩, _⟩ := relBt_spec hB (i := j) (o := o) hjn (by simpa using hj)
          have hdt : d = t := by rw [hd'] at hd; injection hd
          subst hdt
          have h2 := putAll_hit u (l.take n) 0 a j o (t := d) (by rw [ha]; exact hdN) (by rw [List.getElem?_take]; simp [hjn, hj]) hd (fun k x hk hx => huniq k (by
            have hkn : k < n := by
              rcases Nat.lt_or_ge k n with h | h
              · exact h
              · rw [List.getElem?_take] at hk; simp [show ¬ k < n by omega] at hk
            rw [List.getElem?_take, if_pos hkn] at hk
            unfold dstOf; rw [List.getElem?_toArray, hk]; exact hx))
          rw [Nat.zero_add] at h2
          rw [h2]
          exact (hu j o d hj hd (hall j hjn)).1
        · rw [putAll_miss u (l.take n) 0 a (fun (o : Oper) ho hd => by
            obtain ⟨j, hj, rfl⟩ := List.getElem_of_mem ho
            have hj' : j < n ∧ j < l.length := by simp at hj; omega
            exact hex ⟨j, (l.take n)[j], hj'.1, by simp [hj'.2], hd⟩)]
          refine hold t (fun j o hj hd => ?_)
          by_cases hjn : j < n
          · exact absurd ⟨j, o, hjn, hj, hd⟩ hex
          · exact htl j (by omega)
      rw [this, hdef, h1.2]
    have hgo := hend u w' hbel (RelHold.of S 0 (fun j s hj => by
      have hj' : j < S.length := by
        rcases Nat.lt_or_ge j S.length with h | h
        · exact h
        · simp [List.getElem?_eq_none h] at hj
      have hjl : j < l.length := by omega
      obtain ⟨⟨d, hd', _⟩, _⟩ := relBt_spec hB (i := j) (o := l[j]) (by omega) (by simp [hjl])
      have := (hu j l[j] d (by simp [hjl]) hd' (hall j (by omega))).2
      rw [Nat.zero_add]
      rw [List.getD_eq_getElem?_getD, hj] at this
      exact this))
    rw [← e] at hgo
    have hdl : (l.drop n).length = l.length - n := by simp
    have := wpAny_of_seq (P := P) (md := .any) (Q' := Q) (ops := l.toArray) (l.drop n) n listed a' w' (fun j => by simp [List.getElem?_drop]) (by rw [hdl, hL]; exact hsq) hgo
    rwa [hdl] at this
  | succ f ih =>
    intro listed a' w' hsz htl hc hj0' inv
    have hclosed : ∀ j oj, l.toArray[j]? = some oj → listed.getD j false = true → ∀ e ∈ oj.after, Region.binds .any e = true → listed.getD e.on false = true := fun j oj hj => inv.2.2.2.1 j oj (by simpa using hj)
    have hinv : HeadInv .any l.toArray n listed := ⟨by simpa using hsz, hclosed, fun t ht htl' => getD_in (by simp at htl'; omega) (htl t ht)⟩
    have hex : ∃ j, j < n ∧ listed.getD j false = false := by
      rcases Classical.em (∃ j, j < n ∧ listed.getD j false = false) with h | h
      · exact h
      · exfalso
        have hall : ∀ j, j < n → listed.getD j false = true := fun j hj => by
          cases hlj : listed.getD j false
          · exact absurd ⟨j, hj, hlj⟩ h
          · rfl
        have hL := doneT_of (Nat.le_of_lt hn) hsz htl hall
        rw [hL] at hc
        unfold doneT at hc
        simp [List.count_append, List.count_replicate] at hc
    obtain ⟨j0, hj0, hl0⟩ := hex
    rw [show f + 1 + (l.length - n) = (f + (l.length - n)) + 1 by omega] at hc ⊢
    refine ⟨fun h0 => ?_, fun i hi => ?_⟩
    · exfalso
      have hall : ∀ j, j < n → listed.getD j false = true := by
        intro j
        induction j using Nat.strongRecOn with
        | ind j ih2 =>
          intro hj
          cases hlj : listed.getD j false
          · exfalso
            have hlt : j < listed.size := by omega
            have : j ∈ Region.ready .any l.toArray listed := mem_ready.2 ⟨by simpa [hlt] using hlj, l[j]'(by omega), by simp [show j < l.length by omega], fun e he hb => by
              have := (relBt_spec hB (i := j) (o := l[j]'(by omega)) hj (by simp [show j < l.length by omega])).2.2.1 e he hb
              exact ih2 e.on this (by omega)⟩
            rw [h0] at this
            cases this
          · rfl
      rw [hall j0 hj0] at hl0
      cases hl0
    · have hin : i < n := by
        rcases Nat.lt_or_ge i n with h | h
        · exact h
        · exact absurd hi (hwait listed hj0' hinv j0 hj0 (getD_in (by omega) hl0) i h)
      refine wpOp_mono (fun a'' w'' h => ?_) (relT_step hB ha hop hsz inv hi hin)
      refine ih _ a'' w'' (by simpa using hsz) (fun t ht => by rw [getD_set_ne false (by omega)]; exact htl t ht) ?_ (hJ _ _ hj0') h
      obtain ⟨hun, o, ho, _⟩ := mem_ready.1 hi
      have hil : i < listed.size := by omega
      have hun' : listed[i] = false := by simpa [hil] using hun
      rw [Array.toList_setIfInBounds, List.count_set (by simpa using hil)]
      simp [hun', hc]
end
/-- The operations ahead of place n each by itself; behind them the rest one by one. -/
theorem wp_region_relT {P : Program} {id : Nat} {Q : Exit → Act → World → Prop} {a : Act} {w : World} {l : List Oper} (S : List Sp) (N n : Nat) (hm : P.follows .mixedOrders = true) (hn : n < l.length) (hB : relBt l.toArray N n = true) (hsk : Region.sinkB .any l.toArray n = true) (hch : Region.chainB .any l.toArray n = true)
    (hsq : Region.seqB .any l.toArray (l.length - n) n (doneT n l.length) = true) (ha : a.tmps.size = N) (hS : S.length = n)
    (hop : RelGoals P l.toArray S a w (l.take n) 0) (hend : ∀ u w1, Below w.heap.size w w1 → RelHold u w1 S 0 → wpList P l.toArray Q (l.drop n) (putAll u (l.take n) 0 a) w1) : (Code.region id l.toArray true).wp P Q a w := by
  refine wp_region_any hm ?_
  have := relT_any (Q := Q) (fun _ => True) (fun _ _ _ => trivial) hn hB (fun listed _ hinv i hi hu t ht => tail_waits hsk hch (by simpa using hn) hinv _ i rfl hi hu t ht) hsq ha hS (HopT.of (Nat.le_of_lt hn) hop) hend n (Array.replicate l.length false) a { w with drawn := w.drawn + 1 } (by simp) (fun t _ => getD_replicate_false _ _) (by simp; omega) trivial
    ⟨(Below.refl _ _).drew, rfl, rfl, fun j o _ hl => (by rw [getD_replicate_false] at hl; cases hl), fun _ _ => rfl, fun _ => undef, fun j o t _ _ hl => (by rw [getD_replicate_false] at hl; cases hl)⟩
  rw [show n + (l.length - n) = l.length by omega] at this
  simpa using this
end Go.Proofs.Ytplipddgeanajaa
/-! Relf -/
namespace Go.Proofs.Ytplipddgeanajaa
open Go.RowKit

/-- Operation j0 is a move that may be made first. -/
def floatB (ops : Array Oper) (j0 : Nat) : Bool :=
  match ops[j0]? with
  | none => false
  | some o0 =>
    match o0.op, o0.dst with
    | .move x, some d => o0.guard.isNone && o0.after.all (fun e => !Region.binds .any e) && (List.range ops.size).all fun j => j == j0 ||
      match ops[j]? with
      | none => false
      | some o => o.dst != some d && (match o.dst with | none => true | some t => match x with | .tmp s => s != t | _ => true) && (match o.op with | .select .. => false | _ => true) &&
        (o.after.any (fun e => Region.binds .any e && e.on == j0) || (o.looksAt ops).all (fun t => t != d))
    | _, _ => false
structure FloatAt (ops : Array Oper) (j0 : Nat) (d : Tmp) (x : Operand) : Prop where
  op : ∃ o0, ops[j0]? = some o0 ∧ o0.op = .move x ∧ o0.dst = some d ∧ o0.guard = none ∧ ∀ e ∈ o0.after, Region.binds .any e = false
  others : ∀ j o, ops[j]? = some o → j ≠ j0 → o.dst ≠ some d ∧ (∀ t, o.dst = some t → x ≠ .tmp t) ∧ (∀ cs b, o.op ≠ .select cs b) ∧ ((∀ e ∈ o.after, Region.binds .any e = true → e.on ≠ j0) → ∀ t ∈ o.looksAt ops, t ≠ d)
theorem floatB_spec {ops : Array Oper} {j0 : Nat} (h : floatB ops j0 = true) : ∃ d x, FloatAt ops j0 d x := by
  unfold floatB at h
  cases h0 : ops[j0]? with
  | none => rw [h0] at h; cases h
  | some o0 =>
    rw [h0] at h
    simp only at h
    split at h
    · rename_i x d hop hdst
      simp only [Bool.and_eq_true, List.all_eq_true] at h
      obtain ⟨⟨h1, h2⟩, h3⟩ := h
      refine ⟨d, x, ⟨o0, h0, hop, hdst, by simpa using h1, fun e he => by have := Array.all_eq_true_iff_forall_mem.1 h2 e he; simpa using this⟩, fun j o hj hne => ?_⟩
      have hlt : j < ops.size := (Array.getElem?_eq_some_iff.1 hj).1
      have h4 := h3 j (List.mem_range.2 hlt)
      rw [hj] at h4
      simp only [Bool.or_eq_true, beq_iff_eq, Bool.and_eq_true, bne_iff_ne] at h4
      obtain ⟨⟨⟨a1, a2⟩, a3⟩, a4⟩ := h4.resolve_left hne
      refine ⟨a1, fun t ht hx => ?_, fun cs b hs => ?_, fun hw t ht => ?_⟩
      · rw [ht, hx] at a2
        simp at a2
      · rw [hs] at a3
        cases a3
      · rcases a4 with a4 | a4
        · rw [Array.any_eq_true'] at a4
          obtain ⟨e, he, h5⟩ := a4
          simp only [Bool.and_eq_true, beq_iff_eq] at h5
          exact absurd h5.2 (hw e he h5.1)
        · have := List.all_eq_true.1 a4 t ht
          simpa using this
    · cases h
section
variable {P : Program} {ops : Array Oper} {Q : Exit → Act → World → Prop}
theorem put_swap' {a : Act} {d e : Option Tmp} {u v : Value} (h : d ≠ e ∨ d = none) : (a.put d u).put e v = (a.put e v).put d u := by
  cases d with
  | none => cases e <;> rfl
  | some d =>
    cases e with
    | none => rfl
    | some e =>
      have hne : d ≠ e := fun he => by rcases h with h | h; exact h (by rw [he]); cases h
      simp only [Act.put]
      rw [Array.setIfInBounds_comm _ _ hne]
theorem eval_keep {a : Act} {e : Option Tmp} {u : Value} (ds : List Deferred) (y : Operand) (h : ∀ t, e = some t → y ≠ .tmp t) : (({ a with defers := ds } : Act).put e u).eval y = a.eval y := by
  cases e with
  | none => cases y <;> rfl
  | some t =>
    cases y with
    | tmp s =>
      have hne : t ≠ s := fun he => h t rfl (by rw [he])
      show ((({ a with defers := ds } : Act).put (some t) u).tmps.getD s undef) = a.tmps.getD s undef
      rw [Array.getD_eq_getD_getElem?, Array.getD_eq_getD_getElem?, put_get_ne _ _ (fun e => hne (by injection e))]
    | _ => rfl
theorem wpOp_put {i : Nat} {oi : Oper} {d : Tmp} {v : Value} {a : Act} {w : World} {K K' : Act → World → Prop} (hi : ops[i]? = some oi) (hsel : ∀ cs b, oi.op ≠ .select cs b) (hlook : ∀ t ∈ oi.looksAt ops, t ≠ d) (hne : oi.dst ≠ some d)
    (hQ : ∀ c (a : Act) w v, Q (.panic c) (a.put (some d) v) w → Q (.panic c) a w) (hK : ∀ (b : Act) w', (∀ y, (∀ t, oi.dst = some t → y ≠ .tmp t) → b.eval y = a.eval y) → K (b.put (some d) v) w' → K' b w') (h : wpOp P ops Q i K (a.put (some d) v) w) : wpOp P ops Q i K' a w := by
  have agree : ∀ t ∈ oi.looksAt ops, (a.put (some d) v).tmps[t]? = a.tmps[t]? := fun t ht => put_get_ne a v (fun e => hlook t ht (by injection e with e; exact e.symm))
  have heval : execOp (a.put (some d) v).eval oi = execOp a.eval oi := execOp_congr oi hsel (eval_agree agree)
  have hwant := wanted_agree agree
  have swap : ∀ (b : Act) (u : Value), (b.put (some d) v).put oi.dst u = (b.put oi.dst u).put (some d) v := fun b u => put_swap' (.inl (fun e => hne e.symm))
  unfold wpOp at h ⊢
  simp only [hi, hwant] at h ⊢
  by_cases hw : Region.wanted oi (yielded ops a.tmps) = true
  · rw [if_pos hw] at h ⊢
    rcases h with h | ⟨h1, h2⟩
    · left
      unfold Oper.wp at h ⊢
      rw [heval] at h
      generalize (execOp a.eval oi).run P w = r at h ⊢
      cases r with
      | ok n w'' =>
        cases n <;> simp only [Oper.upon] at h ⊢
        case value u => rw [swap] at h; exact hK _ _ (fun y hy => eval_keep a.defers y hy) h
        case skip => rw [swap] at h; exact hK _ _ (fun y hy => eval_keep a.defers y hy) h
        case defer x => exact hK _ _ (fun y hy => eval_keep (x :: a.defers) y hy) (by have := swap { a with defers := x :: a.defers } undef; rw [← this]; exact h)
        case enter f args =>
          refine Calls.mono h fun e w'' he => ?_
          cases e with
          | returned u => simp only at he ⊢; rw [swap] at he; exact hK _ _ (fun y hy => eval_keep a.defers y hy) he
          | panicked c => exact hQ _ _ _ _ he
          | outgrown => exact he
        case row row args => exact Rows.mono h fun u w'' he => by rw [swap] at he; exact hK _ _ (fun y hy => eval_keep a.defers y hy) he
      | halt x w'' =>
        cases x <;> simp only [Oper.upon] at h ⊢
        case panic u => exact hQ _ _ _ _ h
    · right
      refine ⟨?_, h2⟩
      unfold Oper.asks at h1 ⊢
      first
        | (rw [heval] at h1; exact h1)
        | simpa [heval] using h1
  · rw [if_neg hw] at h ⊢
    rw [swap] at h
    exact hK _ _ (fun y hy => eval_keep a.defers y hy) h
theorem wpAny_float {j0 : Nat} {d : Tmp} {x : Operand} (hf : FloatAt ops j0 d x) (hQ : ∀ c (a : Act) w v, Q (.panic c) (a.put (some d) v) w → Q (.panic c) a w) :
    ∀ (f : Nat) (listed : Array Bool) (a : Act) (w : World), listed.getD j0 true = false → wpAny P .any ops Q f (listed.setIfInBounds j0 true) (a.put (some d) (a.eval x)) w → wpAny P .any ops Q (f + 1) listed a w := by
  obtain ⟨o0, h0, hop, hdst, hgd, haft⟩ := hf.op
  have move : ∀ (K : Act → World → Prop) (a : Act) (w : World), K (a.put (some d) (a.eval x)) w → wpOp P ops Q j0 K a w := fun K a w h => by
    unfold wpOp
    simp [h0, Region.wanted, hgd]
    left
    unfold Oper.wp execOp
    simp only [hop, Sem.run_pure, Oper.upon, hdst]
    exact h
  intro f
  induction f with
  | zero =>
    intro listed a w hun h
    have hr : j0 ∈ Region.ready .any ops listed := mem_ready.2 ⟨hun, o0, h0, fun e he hb => by rw [haft e he] at hb; cases hb⟩
    refine ⟨fun e => (by rw [e] at hr; cases hr), fun i hi => ?_⟩
    by_cases hij : i = j0
    · subst hij; exact move _ _ _ h
    · have := ready_mono (i := j0) hi hij
      rw [h.1] at this
      cases this
  | succ f ih =>
    intro listed a w hun h
    have hr : j0 ∈ Region.ready .any ops listed := mem_ready.2 ⟨hun, o0, h0, fun e he hb => by rw [haft e he] at hb; cases hb⟩
    refine ⟨fun e => (by rw [e] at hr; cases hr), fun i hi => ?_⟩
    by_cases hij : i = j0
    · subst hij; exact move _ _ _ h
    · obtain ⟨_, oi, hoi, hall⟩ := mem_ready.1 hi
      obtain ⟨b1, b2, b3, b4⟩ := hf.others i oi hoi hij
      have hw : ∀ e ∈ oi.after, Region.binds .any e = true → e.on ≠ j0 := fun e he hb heq => by
        have h1 := hall e he hb
        rw [heq, getD_both hun] at h1
        cases h1
      have h2 := h.2 i (ready_mono hi hij)
      refine wpOp_put hoi b3 (b4 hw) b1 hQ (fun b w' hb hk => ?_) h2
      have he := hb x (fun t ht => b2 t ht)
      refine ih (listed.setIfInBounds i true) b w' (by rw [getD_set_ne true hij]; exact hun) ?_
      rw [he, Array.setIfInBounds_comm _ _ hij]
      exact hk
end
/-- Each operation of the first part, but for the move, is waited for. -/
def sinkF (ops : Array Oper) (n j0 : Nat) : Bool :=
  (List.range n).all fun i => i == j0 || (List.range (n + 1)).any fun j => decide (i < j) && (decide (j ≠ j0) && Region.waitsFor .any ops j i)
theorem tail_waitsF {ops : Array Oper} {n j0 : Nat} {listed : Array Bool} (hs : sinkF ops n j0 = true) (hc : Region.chainB .any ops n = true) (hn : n < ops.size) (inv : HeadInv .any ops n listed) (hj0 : listed.getD j0 false = true) :
    ∀ (d i : Nat), n - i = d → i < n → listed.getD i true = false → ∀ t, n ≤ t → t ∉ Region.ready .any ops listed := by
  intro d
  induction d using Nat.strongRecOn with
  | _ d ih =>
    intro i hd hi hun t ht hr
    obtain ⟨_, ot, hot, hall⟩ := mem_ready.1 hr
    have htlt : t < ops.size := (Array.getElem?_eq_some_iff.1 hot).1
    by_cases htn : t = n
    · subst htn
      have h1 := List.all_eq_true.1 hs i (List.mem_range.2 hi)
      simp only [Bool.or_eq_true, beq_iff_eq] at h1
      rcases h1 with h1 | h1
      · subst h1
        rw [getD_both hun] at hj0
        cases hj0
      obtain ⟨j, hj, hj2⟩ := List.any_eq_true.1 h1
      simp only [Bool.and_eq_true, decide_eq_true_eq] at hj2
      obtain ⟨oj, hoj, e, he, hb, hon⟩ := Region.waitsFor_spec hj2.2.2
      have hjle : j ≤ t := by have := List.mem_range.1 hj; omega
      by_cases hjt : j = t
      · subst hjt
        have : oj = ot := Option.some.inj (hoj.symm.trans hot)
        subst this
        have h2 := hall e he hb
        rw [hon, getD_both hun] at h2
        cases h2
      · cases hl : listed.getD j false with
        | true =>
          have h2 := inv.closed j oj hoj hl e he hb
          rw [hon, getD_both hun] at h2
          cases h2
        | false =>
          have hjs : j < listed.size := by rw [inv.size]; omega
          exact ih (t - j) (by omega) j rfl (by omega) (getD_in hjs hl) t (Nat.le_refl _) hr
    · have h1 := List.all_eq_true.1 hc t (List.mem_range.2 htlt)
      simp only [Bool.or_eq_true, decide_eq_true_eq] at h1
      rcases h1 with h1 | h1
      · omega
      · obtain ⟨o', ho', e, he, hb, hon⟩ := Region.waitsFor_spec h1
        have : o' = ot := Option.some.inj (ho'.symm.trans hot)
        subst this
        have h2 := hall e he hb
        rw [hon, getD_both (inv.tail (t - 1) (by omega) (by omega))] at h2
        cases h2
/-- The rule of Relt, with one move j0 of the first part that may be made at any time. -/
theorem wp_region_relF {P : Program} {id : Nat} {Q : Exit → Act → World → Prop} {a : Act} {w : World} {l : List Oper} (S : List Sp) (N n j0 : Nat) (hm : P.follows .mixedOrders = true) (hn : n < l.length) (hj : j0 < n) (hB : relBt l.toArray N n = true) (hf : floatB l.toArray j0 = true) (hsk : sinkF l.toArray n j0 = true) (hch : Region.chainB .any l.toArray n = true)
    (hsq : Region.seqB .any l.toArray (l.length - n) n (doneT n l.length) = true) (ha : a.tmps.size = N) (hS : S.length = n) (hQ : ∀ c (a : Act) w d v, Q (.panic c) (a.put (some d) v) w → Q (.panic c) a w)
    (hv : ∀ o0 x, l[j0]? = some o0 → o0.op = .move x → (S.getD j0 Sp.any).holds (a.eval x) w)
    (hop : RelGoals P l.toArray S a w (l.take n) 0) (hend : ∀ u w1, Below w.heap.size w w1 → RelHold u w1 S 0 → wpList P l.toArray Q (l.drop n) (putAll u (l.take n) 0 a) w1) : (Code.region id l.toArray true).wp P Q a w := by
  refine wp_region_any hm ?_
  obtain ⟨d, x, hF⟩ := floatB_spec hf
  obtain ⟨o0, h0, hop0, hdst0, hgd0, haft0⟩ := hF.op
  have h0' : l[j0]? = some o0 := by simpa using h0
  have hsz : l.toArray.size = (l.length - 1) + 1 := by simp; omega
  rw [hsz]
  refine wpAny_float hF (fun c a w v h => hQ c a w d v h) _ _ _ _ (getD_in (by simp; omega) (getD_replicate_false _ _)) ?_
  have hdN : d < N := by
    obtain ⟨⟨d', hd', hdN', _⟩, _⟩ := relBt_spec hB hj h0
    rw [hdst0] at hd'
    injection hd' with hd'
    rw [hd']
    exact hdN'
  have hev : ({ w with drawn := w.drawn + 1 } : World) = w.drew := rfl
  obtain ⟨L0, hL0⟩ : ∃ L0, L0 = (Array.replicate l.toArray.size false).setIfInBounds j0 true := ⟨_, rfl⟩
  have hj0l : j0 < l.length := by omega
  have hL0j : L0.getD j0 false = true := by rw [hL0]; simp [hj0l]
  have hL0n : ∀ t, t ≠ j0 → L0.getD t false = false := fun t ht => by rw [hL0, getD_set_ne false (fun e => ht e.symm)]; exact getD_replicate_false _ _
  have hL0s : L0.size = l.length := by rw [hL0]; simp
  have hL0c : L0.toList.count false = (n - 1) + (l.length - n) := by
    rw [hL0, Array.toList_setIfInBounds, List.count_set (by simpa using hj0l)]
    simp
    omega
  have inv : RelInv l S a w L0 (a.put (some d) (a.eval x)) { w with drawn := w.drawn + 1 } := by
    refine ⟨(Below.refl _ _).drew, rfl, put_size _ _ _, ?_, ?_, fun _ => a.eval x, ?_⟩
    · intro j o hjo hl e he hb
      by_cases hjj : j = j0
      · subst hjj
        rw [h0'] at hjo
        injection hjo with hjo
        subst hjo
        rw [haft0 e he] at hb
        cases hb
      · rw [hL0n j hjj] at hl
        cases hl
    · intro t ht
      refine put_get_ne _ _ (fun e => ?_)
      injection e with e
      subst e
      have := ht j0 o0 h0' hdst0
      rw [hL0j] at this
      cases this
    · intro j o t hjo hd hl
      by_cases hjj : j = j0
      · subst hjj
        rw [h0'] at hjo
        injection hjo with hjo
        subst hjo
        rw [hdst0] at hd
        injection hd with hd
        subst hd
        exact ⟨put_get_eq _ _ (by rw [ha]; exact hdN), (S.getD j Sp.any).stays _ _ _ (hv _ _ h0' hop0) ((Below.refl _ _).drew)⟩
      · rw [hL0n j hjj] at hl
        cases hl
  rw [← hsz, ← hL0]
  have := relT_any (Q := Q) (fun listed => listed.getD j0 false = true) (fun listed i h => getD_set_true h) hn hB (fun listed hJ hinv i hi hu t ht => tail_waitsF hsk hch (by simpa using hn) hinv hJ _ i rfl hi hu t ht) hsq ha hS (HopT.of (Nat.le_of_lt hn) hop) hend (n - 1) L0 (a.put (some d) (a.eval x)) { w with drawn := w.drawn + 1 } hL0s (fun t ht => hL0n t (by omega)) hL0c hL0j inv
  rw [show n - 1 + (l.length - n) = l.length - 1 by omega] at this
  exact this
end Go.Proofs.Ytplipddgeanajaa
/-! W30h -/
namespace Go.Proofs.Ytplipddgeanajaa
open Go.RowKit

structure LRow where
  last : Int
  ep : Int
  a : Rep
/-- A row, and where its answer's filter lies. -/
abbrev LR := LRow × Option Addr × Nat
def LR.cells (x : LR) : List Value := [.int .i64 x.1.last, .int .i64 x.1.ep] ++ (x.1.a.arr x.2.1 x.2.2).toList
theorem LR.cells_len (x : LR) : (LR.cells x).length = 12 := rfl
@[irreducible] def lgArr (l : List LR) : Array Value := (l.flatMap LR.cells).toArray
theorem lg_size (l : List LR) : (lgArr l).size = l.length * 12 := by unfold lgArr; rw [List.size_toArray, flat_length LR.cells_len]
theorem lg_get {l : List LR} {k : Nat} (h : k < l.length) (j : Nat) (hj : j < 12) : (lgArr l)[k * 12 + j]? = (LR.cells l[k])[j]? := by
  unfold lgArr; rw [List.getElem?_toArray]; exact flat_get LR.cells_len l k h j hj
theorem strLg : Str Try.prog 122 72 := ⟨⟨_, Try.underlying122, rfl⟩, by kernel_rfl⟩
theorem lg_part {l : List LR} {k : Nat} (h : k < l.length) {w : World} {g : Nat} (hb : Blk w g (lgArr l)) (j : Nat) (u : Value) (hu : (l[k].1.a.arr l[k].2.1 l[k].2.2)[j]? = some u) : w.cell? ⟨g, k * 12 + 2 + j, none⟩ = some u := by
  refine hb.cell ?_
  have hj : j < 10 := (Array.getElem?_eq_some_iff.1 hu).1
  rw [Nat.add_assoc, lg_get h (2 + j) (by omega)]
  unfold LR.cells
  rw [List.getElem?_append_right (by simp)]
  simpa using hu
/-- A call that hands back an answer of its own. -/
def RetOwn (w : World) (a : Rep) (e : Ending) (w' : World) : Prop :=
  ∃ A c, e = .returned (.agg (a.arr A c)) ∧ w'.ownsRow w.heap.size 74 5 (.slice A a.f.length c) a.f.length (a.f.flatMap Node.cells) ∧ Below w.heap.size w w'
set_option maxHeartbeats 1000000 in
set_option maxRecDepth 4000 in
theorem c_ledger_own (a : Rep) (A : Option Addr) (c : Nat) (w : World) (h : InN w A c a.f) : Calls Try.prog 64 #[.agg (a.arr A c)] w (RetOwn w a) := by
  have HI := Lib.hid h
  have B0 := Lib.hid (At2.new w 37 37 (a.arr A c) (Rep.arr rz none 0))
  obtain ⟨q0, q1, q2, q3, q4, q5, q6, q7, q8, q9⟩ := rep_cells B0.out.2.1
  clear h
  go_enter Try.func64, Try.ntmps64
  go_wp2_with (fail)
  refine (c_Clone_n a.f A c _ (HI.out.below B0.out.1)).mono ?_
  rintro e w1 ⟨v, rfl, own, hb1⟩
  obtain ⟨A1, c1, rfl, -⟩ := own_form own
  have O := Lib.hid own
  replace B0 := Lib.hid (B0.out.step hb1)
  clear q0 q1 q2 q3 q4 q5 q6 q7 q8 q9 hb1 own
  obtain ⟨q0, q1, q2, q3, q4, q5, q6, q7, q8, q9⟩ := rep_cells B0.out.2.1
  have ff := fun i => B0.out.2.1.frozen i
  have K1 := Lib.hid (kept_set w1 w.heap.size 8 (.slice A1 a.f.length c1))
  have B1 := Lib.hid (show Blk (w1.setCell ⟨w.heap.size, 8, none⟩ (.slice A1 a.f.length c1)) w.heap.size (a.arr A1 c1) from B0.out.2.1.store 8 _)
  have B2 := Lib.hid (B0.out.2.2.far (q := ⟨w.heap.size, 8, none⟩) (by simp) (.slice A1 a.f.length c1))
  have hz := B0.out.1.size
  have O1 := Lib.hid (own_kept O.out K1.out (fun g hg => by injection hg with hg; simp; omega))
  have KB := Lib.hid ((Kept.of_below B0.out.1 : Kept none _ _ _).trans (K1.out.one (p := none) hz (.inl (Nat.le_refl _))))
  go_wp2_with (with_reducible refine stop_load 37 (.tmp 1) rfl rfl ?_)
  refine Stop.mk (wpList_loadB rfl _ _ rfl w.heap.size rfl _ B1.out strRp rfl ?_)
  go_wp2_with (with_reducible refine stop_store 37 (.tmp 2) (.tmp 7) rfl rfl ?_)
  refine Stop.mk (wpList_storeB rfl _ _ _ rfl (w.heap.size + 1) _ (by first | rfl | simp) rfl _ B2.out strRp rfl rfl (by simp [Value.oneCell']) ?_)
  intro w9 hb9 hk9
  have O9 := own_kept O1.out hk9 (fun g hg => by injection hg with hg; simp; omega)
  go_wp2_with (fail)
  refine bodyPost_ret (results_B (g := w.heap.size + 1) rfl (by first | rfl | simp) hb9 strRp rfl) rfl ⟨A1, c1, rfl, own_base O9 (by simp; omega), ?_⟩
  exact (KB.out.trans (hk9.one (p := none) (by simpa [World.setCell] using hz) (.inl (by omega)))).below (Nat.le_refl _) (fun g hg => by cases hg)
theorem c_ledger_New (w : World) : Calls Try.prog 31 #[] w (fun e w' => e = .returned (.pointer (some ⟨w.heap.size, 0, none⟩)) ∧ Blk w' w.heap.size (lgArr (List.replicate 6 (⟨0, 0, rz⟩, none, 0))) ∧ Below w.heap.size w w') := by
  go_enter Try.func31, Try.ntmps31
  go_wp2_with (fail)
  go_ret
  exact ⟨rfl, by unfold lgArr; exact Blk.new _ _ _, (by repeat (first | exact Below.refl _ _ | refine Below.drew ?_ | refine Below.alloc ?_ (by first | omega | (simp; done) | (simp; omega)) _ | refine Below.setCell ?_ (by first | omega | (simp; done) | (simp; omega)) _ | refine Below.trans ?_ (Below.mono (by assumption) (by first | omega | (simp; done) | (simp; omega)))))⟩
end Go.Proofs.Ytplipddgeanajaa
/-! W30i -/
namespace Go.Proofs.Ytplipddgeanajaa
open Go.RowKit

theorem results_B2 {P : Program} {w : World} {fn : Func} {p s : Tmp} {ty : TypeId} (h : fn.results = #[.cell p ty, .tmp s]) {tmps : Array Value} {g : Nat} {cs : Array Value} {v : Value} (hp : tmps.getD p undef = .pointer (some ⟨g, 0, none⟩)) (hv : tmps.getD s undef = v) (hb : Blk w g cs) {n : Nat} (S : Str P ty n) (hn : cs.size = n) :
    (results fn tmps).run P w = .ok (.tuple #[.agg cs, v]) w := by
  obtain ⟨d, h1, h2⟩ := S.desc
  obtain ⟨t, hb⟩ := hb
  have hl := run_loadVar_row (P := P) w g t ty cs (0, 0) d hb h1 (by cases d <;> first | rfl | (simp at h2)) (by rw [S.size, hn])
  have hp' : tmps[p]?.getD undef = .pointer (some ⟨g, 0, none⟩) := by simpa using hp
  have hv' : tmps[s]?.getD undef = v := by simpa using hv
  simp [results, h, hp', hv', asAddr, hl]
/-- The end of Ask. -/
def RetAsk (w : World) (a : Rep) (code : Int) (e : Ending) (w' : World) : Prop :=
  ∃ A c, e = .returned (.tuple #[.agg (a.arr A c), .int .i64 code]) ∧ w'.ownsRow w.heap.size 74 5 (.slice A a.f.length c) a.f.length (a.f.flatMap Node.cells) ∧ Below w.heap.size w w'
/-- The ledger's rows, each filter in its place. -/
def Lg (w : World) (g : Nat) (l : List LR) : Prop := l.length = 6 ∧ Blk w g (lgArr l) ∧ ∀ x ∈ l, InN w x.2.1 x.2.2 x.1.a.f ∧ (x.1.a.f = [] ∨ ∀ ad, x.2.1 = some ad → ad.block ≠ g)
theorem Lg.below {w w' : World} {g : Nat} {l : List LR} (h : Lg w g l) (hb : Below w.heap.size w w') : Lg w' g l := ⟨h.1, h.2.1.below hb h.2.1.lt, fun x hx => ⟨(h.2.2 x hx).1.below hb, (h.2.2 x hx).2⟩⟩
def rowsOf (l : List LR) : List LRow := l.map (·.1)
def askBad (dev req : Int) : Prop := dev < 0 ∨ 6 ≤ dev ∨ req < 1 ∨ 1099511627776 < req
instance (dev req : Int) : Decidable (askBad dev req) := by unfold askBad; infer_instance
def rowAt (l : List LRow) (dev : Int) : LRow := l.getD dev.toNat ⟨0, 0, rz⟩
def askE (l : List LRow) (dev req : Int) : Int := if askBad dev req then 1 else if req < (rowAt l dev).last then 13 else if req = (rowAt l dev).last then 7 else 0
def askA (l : List LRow) (dev req : Int) : Rep := if askBad dev req then rz else if req = (rowAt l dev).last then (rowAt l dev).a else rz
theorem rowAt_of {l : List LR} {k : Nat} (h : k < l.length) : rowAt (rowsOf l) k = l[k].1 := by unfold rowAt rowsOf; simp [h]
set_option maxHeartbeats 1000000 in
set_option maxRecDepth 4000 in
theorem ledger_Ask_nil (dev req : Int) (w : World) : Calls Try.prog 33 #[.pointer none, .int .i64 dev, .int .i64 req] w (RetAsk w rz 14) := by
  have B0 := Lib.hid (At.new w 37 (Rep.arr rz none 0))
  go_enter Try.func33, Try.ntmps33
  go_wp2_with (with_reducible refine stop_store 37 (.tmp 6) (.tmp 11) rfl rfl ?_)
  refine Stop.mk (wpList_storeB rfl _ _ _ rfl w.heap.size _ rfl rfl _ B0.out.2 strRp rfl rfl (by simp [Value.oneCell']) ?_)
  intro w9 hb9 hk9
  go_wp2_with (fail)
  exact bodyPost_ret (results_B2 rfl rfl rfl hb9 strRp rfl) rfl ⟨none, 0, rfl, World.ownsRow_nil _ _ _ _, B0.out.1.trans (hk9.oneB B0.out.1.size (Nat.le_refl _))⟩
set_option maxHeartbeats 1000000 in
set_option maxRecDepth 4000 in
theorem ledger_Ask_arg (g : Nat) (dev req : Int) (w : World) (h : dev < 0 ∨ 6 ≤ dev ∨ req < 1 ∨ 1099511627776 < req) : Calls Try.prog 33 #[.pointer (some ⟨g, 0, none⟩), .int .i64 dev, .int .i64 req] w (RetAsk w rz 1) := by
  have B0 := Lib.hid (At.new w 37 (Rep.arr rz none 0))
  have hcs : dev < 0 ∨ (0 ≤ dev ∧ 6 ≤ dev) ∨ (0 ≤ dev ∧ dev < 6 ∧ req < 1) ∨ (0 ≤ dev ∧ dev < 6 ∧ 1 ≤ req ∧ 1099511627776 < req) := by omega
  clear h
  rcases hcs with h1 | ⟨h1, h2⟩ | ⟨h1, h2, h3⟩ | ⟨h1, h2, h3, h4⟩
  all_goals
    go_enter Try.func33, Try.ntmps33
    go_wp2_with (with_reducible refine stop_store 37 (.tmp 6) (.tmp 27) rfl rfl ?_)
    refine Stop.mk (wpList_storeB rfl _ _ _ rfl w.heap.size _ rfl rfl _ B0.out.2 strRp rfl rfl (by simp [Value.oneCell']) ?_)
    intro w9 hb9 hk9
    go_wp2_with (fail)
    exact bodyPost_ret (results_B2 rfl rfl rfl hb9 strRp rfl) rfl ⟨none, 0, rfl, World.ownsRow_nil _ _ _ _, B0.out.1.trans (hk9.oneB B0.out.1.size (Nat.le_refl _))⟩
set_option maxHeartbeats 1000000 in
set_option maxRecDepth 4000 in
theorem ledger_Ask_no (g : Nat) (l : List LR) (k : Nat) (req : Int) (w : World) (h : Lg w g l) (hk : k < 6) (r1 : 1 ≤ req) (r2 : req ≤ 1099511627776) (hne : req ≠ (l[k]'(by rw [h.1]; exact hk)).1.last) :
    Calls Try.prog 33 #[.pointer (some ⟨g, 0, none⟩), .int .i64 k, .int .i64 req] w (RetAsk w rz (if req < (l[k]'(by rw [h.1]; exact hk)).1.last then 13 else 0)) := by
  have hkl : k < l.length := by rw [h.1]; exact hk
  have B0 := Lib.hid (At.new w 37 (Rep.arr rz none 0))
  have q := h.2.1.cell (by have := lg_get hkl 0 (by omega); rw [Nat.add_zero] at this; exact this)
  obtain ⟨L, hL⟩ : ∃ L, L = l[k].1.last := ⟨_, rfl⟩
  have q' : w.cell? ⟨g, k * 12, none⟩ = some (.int .i64 L) := by rw [hL]; exact q
  have hgl := h.2.1.lt
  have k1 : decide (req < 1) = false := by simpa using r1
  have k2 : decide (1099511627776 < req) = false := by simpa using r2
  rw [← hL] at hne ⊢
  have hcs : k = 0 ∨ k = 1 ∨ k = 2 ∨ k = 3 ∨ k = 4 ∨ k = 5 := by omega
  clear q hL h hk hkl
  by_cases hlt : req < L
  · rw [if_pos hlt]
    have j1 : decide (req < L) = true := by simpa using hlt
    clear hlt hne
    rcases hcs with rfl | rfl | rfl | rfl | rfl | rfl
    all_goals
      simp only [Nat.reduceMul] at q'
      go_enter Try.func33, Try.ntmps33
      go_wp2_with (with_reducible refine stop_store 37 (.tmp 6) (.tmp 38) rfl rfl ?_)
      refine Stop.mk (wpList_storeB rfl _ _ _ rfl w.heap.size _ rfl rfl _ B0.out.2 strRp rfl rfl (by simp [Value.oneCell']) ?_)
      intro w9 hb9 hk9
      go_wp2_with (fail)
      exact bodyPost_ret (results_B2 rfl rfl rfl hb9 strRp rfl) rfl ⟨none, 0, rfl, World.ownsRow_nil _ _ _ _, B0.out.1.trans (hk9.oneB B0.out.1.size (Nat.le_refl _))⟩
  · rw [if_neg hlt]
    have j1 : decide (req < L) = false := by simpa using hlt
    have j2 : (req == L) = false := by simpa using hne
    clear hlt hne
    rcases hcs with rfl | rfl | rfl | rfl | rfl | rfl
    all_goals
      simp only [Nat.reduceMul] at q'
      go_enter Try.func33, Try.ntmps33
      go_wp2_with (with_reducible refine stop_store 37 (.tmp 6) (.tmp 57) rfl rfl ?_)
      refine Stop.mk (wpList_storeB rfl _ _ _ rfl w.heap.size _ rfl rfl _ B0.out.2 strRp rfl rfl (by simp [Value.oneCell']) ?_)
      intro w9 hb9 hk9
      go_wp2_with (fail)
      exact bodyPost_ret (results_B2 rfl rfl rfl hb9 strRp rfl) rfl ⟨none, 0, rfl, World.ownsRow_nil _ _ _ _, B0.out.1.trans (hk9.oneB B0.out.1.size (Nat.le_refl _))⟩
set_option maxHeartbeats 2000000 in
set_option maxRecDepth 4000 in
theorem ledger_Ask_there (g : Nat) (l : List LR) (k : Nat) (req : Int) (w : World) (h : Lg w g l) (hk : k < 6) (r1 : 1 ≤ req) (r2 : req ≤ 1099511627776) (x : LR) (hx : ∀ hq, l[k]'hq = x) (he : req = x.1.last) :
    Calls Try.prog 33 #[.pointer (some ⟨g, 0, none⟩), .int .i64 k, .int .i64 req] w (RetAsk w x.1.a 7) := by
  have hkl : k < l.length := by rw [h.1]; exact hk
  have hx' := hx hkl
  have B0 := Lib.hid (At.new w 37 (Rep.arr rz none 0))
  have HI := Lib.hid (h.2.2 l[k] (List.getElem_mem hkl)).1
  rw [hx'] at HI
  have q := h.2.1.cell (by have := lg_get hkl 0 (by omega); rw [Nat.add_zero] at this; exact this)
  rw [hx'] at q
  have q' : w.cell? ⟨g, k * 12, none⟩ = some (.int .i64 req) := by rw [he]; exact q
  have hgl := h.2.1.lt
  have PT := Lib.hid (fun (j : Nat) (u : Value) (hu : (x.1.a.arr x.2.1 x.2.2)[j]? = some u) => lg_part hkl (h.2.1.below ((Below.refl _ _).alloc (Nat.le_refl _) (.cells (Rep.arr rz none 0) 37)) h.2.1.lt) j u (by rw [hx']; exact hu))
  have k1 : decide (req < 1) = false := by simpa using r1
  have k2 : decide (1099511627776 < req) = false := by simpa using r2
  have hcs : k = 0 ∨ k = 1 ∨ k = 2 ∨ k = 3 ∨ k = 4 ∨ k = 5 := by omega
  clear q hx hx' he h hk hkl
  rcases hcs with rfl | rfl | rfl | rfl | rfl | rfl
  all_goals
    simp only [Nat.reduceMul] at q'
    go_enter Try.func33, Try.ntmps33
    go_wp2_with (with_reducible refine stop_load 37 (.tmp 54) rfl rfl ?_)
    refine Stop.mk (wpList_loadAt rfl _ _ rfl g _ rfl (x.1.a.arr x.2.1 x.2.2) PT.out strRp rfl ?_)
    go_wp2_with (fail)
    refine (c_ledger_own x.1.a x.2.1 x.2.2 _ (HI.out.below B0.out.1)).mono ?_
    rintro e w1 ⟨A1, c1, rfl, own, hb1⟩
    replace B0 := Lib.hid (B0.out.step hb1)
    have O := Lib.hid own
    clear own hb1
    go_wp2_with (with_reducible refine stop_store 37 (.tmp 6) (.tmp 56) rfl rfl ?_)
    refine Stop.mk (wpList_storeB rfl _ _ _ rfl w.heap.size _ rfl rfl _ B0.out.2 strRp rfl rfl (by simp [Value.oneCell']) ?_)
    intro w9 hb9 hk9
    have O9 := Lib.hid (own_kept O.out hk9 (fun b hb => by injection hb with hb; simp; omega))
    go_wp2_with (fail)
    exact bodyPost_ret (results_B2 rfl rfl rfl hb9 strRp rfl) rfl ⟨A1, c1, rfl, own_base O9.out (by simp), B0.out.1.trans (hk9.oneB B0.out.1.size (Nat.le_refl _))⟩
theorem c_ledger_Ask (g : Nat) (l : List LR) (dev req : Int) (w : World) (h : Lg w g l) :
    Calls Try.prog 33 #[.pointer (some ⟨g, 0, none⟩), .int .i64 dev, .int .i64 req] w (RetAsk w (askA (rowsOf l) dev req) (askE (rowsOf l) dev req)) := by
  unfold askA askE
  by_cases hb : askBad dev req
  · rw [if_pos hb, if_pos hb]; exact ledger_Ask_arg g dev req w hb
  · rw [if_neg hb, if_neg hb]
    unfold askBad at hb
    obtain ⟨k, rfl⟩ : ∃ k : Nat, dev = k := ⟨dev.toNat, by omega⟩
    have hk : k < 6 := by omega
    have hkl : k < l.length := by rw [h.1]; exact hk
    rw [rowAt_of hkl]
    by_cases he : req = l[k].1.last
    · rw [if_pos he, if_neg (by omega), if_pos he]
      exact ledger_Ask_there g l k req w h hk (by omega) (by omega) l[k] (fun _ => rfl) he
    · rw [if_neg he, if_neg he]
      exact ledger_Ask_no g l k req w h hk (by omega) (by omega) he
end Go.Proofs.Ytplipddgeanajaa
/-! W30j -/
namespace Go.Proofs.Ytplipddgeanajaa
open Go.RowKit

theorem lg_put {l : List LR} {k : Nat} (hk : k < l.length) (req : Int) (a : Rep) (A : Option Addr) (c : Nat) :
    putAt ((lgArr l).setIfInBounds (k * 12) (.int .i64 req)) (k * 12 + 2) (a.arr A c).toList = lgArr (l.set k (⟨req, l[k].1.ep, a⟩, A, c)) := by
  have hs := lg_size l
  have hs2 := lg_size (l.set k (⟨req, l[k].1.ep, a⟩, A, c))
  rw [List.length_set] at hs2
  have hlen : (a.arr A c).toList.length = 10 := rfl
  apply Array.ext_getElem?
  intro i
  by_cases hi : i < l.length * 12
  · have hq : i / 12 < l.length := by omega
    have hr : i % 12 < 12 := Nat.mod_lt _ (by omega)
    have hir : i / 12 * 12 + i % 12 = i := by omega
    have e1 := lg_get hq (i % 12) hr
    have e2 := lg_get (l := l.set k (⟨req, l[k].1.ep, a⟩, A, c)) (k := i / 12) (by rw [List.length_set]; exact hq) (i % 12) hr
    rw [hir] at e1 e2
    rw [e2]
    by_cases hqk : i / 12 = k
    · rw [List.getElem_set, if_pos hqk.symm]
      by_cases h2 : 2 ≤ i % 12
      · have h3 := putAt_in (a.arr A c).toList ((lgArr l).setIfInBounds (k * 12) (.int .i64 req)) (k * 12 + 2) (i % 12 - 2) (by rw [hlen, Array.size_setIfInBounds, hs]; omega) (by rw [hlen]; omega)
        rw [show k * 12 + 2 + (i % 12 - 2) = i by omega] at h3
        rw [h3]
        unfold LR.cells
        rw [List.getElem?_append_right (by simp; omega)]
        simp
      · rw [putAt_far _ _ _ _ (.inl (by omega))]
        by_cases h0 : i % 12 = 0
        · rw [show i = k * 12 by omega, Array.getElem?_setIfInBounds_self_of_lt (by rw [hs]; omega), show k * 12 % 12 = 0 by omega]
          rfl
        · rw [Array.getElem?_setIfInBounds_ne (by omega), e1, show i % 12 = 1 by omega]
          simp only [hqk]
          rfl
    · rw [List.getElem_set, if_neg (fun e => hqk e.symm), putAt_far _ _ _ _ (by rw [hlen]; omega), Array.getElem?_setIfInBounds_ne (by omega), e1]
  · rw [Array.getElem?_eq_none (by rw [putAt_size, Array.size_setIfInBounds, hs]; omega), Array.getElem?_eq_none (by rw [hs2]; omega)]
/-- An answer of a call's own, as a property. -/
def Sp.ownRep (B : Nat) (a : Rep) : Sp := ⟨fun v w => ∃ A c, v = .agg (a.arr A c) ∧ w.ownsRow B 74 5 (.slice A a.f.length c) a.f.length (a.f.flatMap Node.cells), fun _ _ _ ⟨A, c, hv, h⟩ hb => ⟨A, c, hv, own_below h hb⟩⟩
theorem Sp.ownRep_holds (B : Nat) (a : Rep) (v : Value) (w : World) : (Sp.ownRep B a).holds v w = ∃ A c, v = .agg (a.arr A c) ∧ w.ownsRow B 74 5 (.slice A a.f.length c) a.f.length (a.f.flatMap Node.cells) := rfl
def noteOk (l : List LRow) (a : Rep) : Bool := decide (askE l a.dev a.req = 0) && a.ok
def noteL (l : List LRow) (a : Rep) : List LRow := if noteOk l a then l.set a.dev.toNat ⟨a.req, (rowAt l a.dev).ep, a⟩ else l
/-- The end of Note. -/
def RetNote (g : Nat) (l : List LR) (a : Rep) (w : World) (e : Ending) (w' : World) : Prop :=
  e = .returned (.bool (noteOk (rowsOf l) a)) ∧ Kept (some g) w.heap.size w w' ∧ ∃ l', Lg w' g l' ∧ rowsOf l' = noteL (rowsOf l) a
theorem In.own_store {A : Option Addr} {c : Nat} {f : List Node} {w w' : World} {g : Nat} (h : InN w A c f) (hf : f = [] ∨ ∀ ad, A = some ad → ad.block ≠ g) (k : Kept (some g) w.heap.size w w') : InN w' A c f := by
  refine ⟨h.1, h.2.1, h.2.2.1, ?_⟩
  rcases h.2.2.2 with h0 | ⟨b, off, rfl, hb, hr⟩
  · exact .inl h0
  · rcases hf with h0 | hf
    · exact .inl h0
    · have hne := hf _ rfl
      exact .inr ⟨b, off, rfl, Nat.lt_of_lt_of_le hb k.size, hr.keep fun o => k.cell (by exact hb) (fun e => by injection e with e; exact hne e.symm)⟩
set_option maxHeartbeats 2000000 in
set_option maxRecDepth 4000 in
theorem ledger_Note_no (g : Nat) (l : List LR) (a : Rep) (A : Option Addr) (c : Nat) (w : World) (h : Lg w g l) (ha : InN w A c a.f) (hs : ∀ x ∈ a.f, x.v.s.length ≤ 4294967000) (hm : a.mask < 4294967296) (hno : noteOk (rowsOf l) a = false) :
    Calls Try.prog 32 #[.pointer (some ⟨g, 0, none⟩), .agg (a.arr A c)] w (RetNote g l a w) := by
  have B0 := Lib.hid (At.new w 37 (a.arr A c))
  have HL := Lib.hid h
  have HI := Lib.hid ha
  have Hs := Lib.hid hs
  have fin : ∀ w', Below w.heap.size w w' → RetNote g l a w (.returned (.bool false)) w' := fun w' hb => ⟨by rw [hno], Kept.of_below hb, l, h.below hb, by unfold noteL; rw [hno]; rfl⟩
  have Fin := Lib.hid fin
  obtain ⟨E, hE⟩ : ∃ E, E = askE (rowsOf l) a.dev a.req := ⟨_, rfl⟩
  obtain ⟨V, hV⟩ : ∃ V, V = askA (rowsOf l) a.dev a.req := ⟨_, rfl⟩
  have EE := Lib.hid hE
  have EV := Lib.hid hV
  unfold noteOk at hno
  rw [← hE] at hno
  obtain ⟨q0, q1, q2, q3, q4, q5, q6, q7, q8, q9⟩ := B0.out.rep
  have hno' : E ≠ 0 ∨ (E = 0 ∧ a.ok = false) := by
    by_cases h0 : E = 0
    · right; refine ⟨h0, ?_⟩; simpa [h0] using hno
    · exact .inl h0
  clear h ha hs fin hno hE hV
  rcases hno' with h0 | ⟨h0, h1⟩
  · have j0 : (E != 0) = true := by simpa using h0
    clear h0
    go_enter Try.func32, Try.ntmps32
    go_wp2_with (fail)
    refine (c_ledger_Ask g l a.dev a.req _ (HL.out.below B0.out.1)).mono ?_
    rintro e w1 ⟨A1, c1, rfl, own, hb1⟩
    rw [← EE.out, ← EV.out]
    replace B0 := Lib.hid (B0.out.step hb1)
    clear q0 q1 q2 q3 q4 q5 q6 q7 q8 q9 own hb1
    go_wp2_with (with_reducible refine stop_store 37 (.tmp 5) (.tmp 15) rfl rfl ?_)
    refine Stop.mk (wpList_storeB rfl _ _ _ rfl w1.heap.size _ rfl rfl _ (Blk.new _ _ _) strRp rfl rfl (by simp [Value.oneCell']) ?_)
    intro w2 hb2 hk2
    have hz := B0.out.1.size
    have hbw : Below w.heap.size w w2 := (B0.out.1.alloc hz _).trans (hk2.oneB (by simp; omega) (by omega))
    clear hb2 hk2
    go_wp2_with (fail)
    go_ret
    exact Fin.out _ hbw
  · subst h0
    go_enter Try.func32, Try.ntmps32
    go_wp2_with (fail)
    refine (c_ledger_Ask g l a.dev a.req _ (HL.out.below B0.out.1)).mono ?_
    rintro e w1 ⟨A1, c1, rfl, own, hb1⟩
    rw [← EE.out, ← EV.out]
    replace B0 := Lib.hid (B0.out.step hb1)
    clear q0 q1 q2 q3 q4 q5 q6 q7 q8 q9 own hb1
    go_wp2_with (with_reducible refine stop_store 37 (.tmp 5) (.tmp 15) rfl rfl ?_)
    refine Stop.mk (wpList_storeB rfl _ _ _ rfl w1.heap.size _ rfl rfl _ (Blk.new _ _ _) strRp rfl rfl (by simp [Value.oneCell']) ?_)
    intro w2 hb2 hk2
    have hz := B0.out.1.size
    have hz2 := hk2.size
    have hbw : Below w.heap.size w w2 := (B0.out.1.alloc hz _).trans (hk2.oneB (by simp; omega) (by omega))
    have hg := B0.out.2.lt
    have BB := Lib.hid ((B0.out.2.below ((Below.refl _ _).alloc (Nat.le_refl _) _) hg).kept hk2 (by simp; omega) (by simp; omega))
    clear hb2 hk2
    go_wp2_with (with_reducible refine stop_loadG 37 (.tmp 3) rfl ?_)
    refine Stop.mk (wpList_loadAtG (by rfl) _ _ rfl w.heap.size 0 rfl (a.arr A c) BB.out.all strRp rfl ?_)
    go_wp2_with (fail)
    refine (c_ledger_Check a A c _ (HI.out.below hbw) Hs.out hm).mono ?_
    rintro e w3 ⟨rfl, hb3⟩
    rw [h1]
    go_wp2_with (fail)
    go_ret
    exact Fin.out _ (hbw.trans (hb3.mono hbw.size))
end Go.Proofs.Ytplipddgeanajaa
/-! W30k -/
namespace Go.Proofs.Ytplipddgeanajaa
open Go.RowKit

theorem note_rows {w w' : World} {base g : Nat} {l : List LR} {k : Nat} {req ep : Int} {a : Rep} {A : Option Addr} {c : Nat} (hL : Lg w g l) (hk : Kept (some g) w.heap.size w w') (O : w.ownsRow base 74 5 (.slice A a.f.length c) a.f.length (a.f.flatMap Node.cells)) (hg : g < base) (_hk : k < l.length) (hn : a.f.length ≤ 4294967296 := by omega) :
    ∀ x ∈ l.set k (⟨req, ep, a⟩, A, c), InN w' x.2.1 x.2.2 x.1.a.f ∧ (x.1.a.f = [] ∨ ∀ ad, x.2.1 = some ad → ad.block ≠ g) := by
  intro x hx
  rcases List.mem_or_eq_of_mem_set hx with hx | rfl
  · obtain ⟨h1, h2⟩ := hL.2.2 x hx
    exact ⟨h1.own_store h2 hk, h2⟩
  · have hf : a.f = [] ∨ ∀ ad, A = some ad → ad.block ≠ g := by
      by_cases h0 : a.f = []
      · exact .inl h0
      · right
        intro ad had
        have hpos : 0 < a.f.length := List.length_pos_iff.2 h0
        obtain ⟨b, c', hv, -, -, hb, -⟩ := own_form' O hpos
        injection hv with hv
        rw [hv] at had
        injection had with had
        rw [← had]
        show b ≠ g
        omega
    obtain ⟨A', c', hv, hin⟩ := In.of_own Node.cells_len O hn
    injection hv with hv1 _ hv2
    subst hv1 hv2
    exact ⟨hin.own_store hf hk, hf⟩
theorem note_plain {l : List LR} {k : Nat} {a : Rep} {A : Option Addr} {c : Nat} (hd : a.dev = k) (hk : k < l.length) (hy : noteOk (rowsOf l) a = true) : rowsOf (l.set k (⟨a.req, l[k].1.ep, a⟩, A, c)) = noteL (rowsOf l) a := by
  unfold noteL
  rw [if_pos hy, hd, rowAt_of hk]
  unfold rowsOf
  rw [List.map_set, Int.toNat_natCast]
set_option maxHeartbeats 4000000 in
set_option maxRecDepth 4000 in
theorem ledger_Note_yes (g : Nat) (l : List LR) (a : Rep) (A : Option Addr) (c : Nat) (w : World) (h : Lg w g l) (ha : InN w A c a.f) (hs : ∀ x ∈ a.f, x.v.s.length ≤ 4294967000) (hm : a.mask < 4294967296) (hfl : a.f.length ≤ 1000000) (hyes : noteOk (rowsOf l) a = true) :
    Calls Try.prog 32 #[.pointer (some ⟨g, 0, none⟩), .agg (a.arr A c)] w (RetNote g l a w) := by
  have B0 := Lib.hid (At.new w 37 (a.arr A c))
  have HL := Lib.hid h
  have HI := Lib.hid ha
  have Hs := Lib.hid hs
  have HY := Lib.hid hyes
  unfold noteOk at hyes
  obtain ⟨h0, h1⟩ := Bool.and_eq_true_iff.1 hyes
  have h0' : askE (rowsOf l) a.dev a.req = 0 := by simpa using h0
  have EE := Lib.hid h0'
  obtain ⟨V, hV⟩ : ∃ V, V = askA (rowsOf l) a.dev a.req := ⟨_, rfl⟩
  have EV := Lib.hid hV
  have hgood : ¬ askBad a.dev a.req := fun hb => by unfold askE at h0'; rw [if_pos hb] at h0'; cases h0'
  unfold askBad at hgood
  have Hok := Lib.hid h1
  obtain ⟨k, hk⟩ : ∃ k : Nat, a.dev = k := ⟨a.dev.toNat, by omega⟩
  have hk6 : k < 6 := by omega
  have HK := Lib.hid hk
  have hcs : k = 0 ∨ k = 1 ∨ k = 2 ∨ k = 3 ∨ k = 4 ∨ k = 5 := by omega
  have hgl := h.2.1.lt
  obtain ⟨q0, q1, q2, q3, q4, q5, q6, q7, q8, q9⟩ := B0.out.rep
  clear h ha hs hyes h0 h0' h1 hV hgood hk hk6
  go_enter Try.func32, Try.ntmps32
  go_wp2_with (fail)
  refine (c_ledger_Ask g l a.dev a.req _ (HL.out.below B0.out.1)).mono ?_
  rintro e w1 ⟨A1, c1, rfl, own, hb1⟩
  rw [EE.out, ← EV.out]
  replace B0 := Lib.hid (B0.out.step hb1)
  clear q0 q1 q2 q3 q4 q5 q6 q7 q8 q9 own hb1
  go_wp2_with (with_reducible refine stop_store 37 (.tmp 5) (.tmp 15) rfl rfl ?_)
  refine Stop.mk (wpList_storeB rfl _ _ _ rfl w1.heap.size _ rfl rfl _ (Blk.new _ _ _) strRp rfl rfl (by simp [Value.oneCell']) ?_)
  intro w2 hb2 hk2
  have hz := B0.out.1.size
  have hz2 := hk2.size
  have hg := B0.out.2.lt
  replace B0 := Lib.hid (show At w w2 (a.arr A c) from ⟨(B0.out.1.alloc hz _).trans (hk2.oneB (by simp; omega) (by omega)), (B0.out.2.below ((Below.refl _ _).alloc (Nat.le_refl _) _) hg).kept hk2 (by simp; omega) (by simp; omega)⟩)
  clear hb2 hk2 hz hz2 hg
  go_wp2_with (with_reducible refine stop_loadG 37 (.tmp 3) rfl ?_)
  refine Stop.mk (wpList_loadAtG (by rfl) _ _ rfl w.heap.size 0 rfl (a.arr A c) B0.out.2.all strRp rfl ?_)
  go_wp2_with (fail)
  refine (c_ledger_Check a A c _ (HI.out.below B0.out.1) Hs.out hm).mono ?_
  rintro e w3 ⟨rfl, hb3⟩
  rw [Hok.out]
  replace B0 := Lib.hid (B0.out.step hb3)
  clear hb3
  have hlt := B0.out.2.lt
  obtain ⟨q0, q1, q2, q3, q4, q5, q6, q7, q8, q9⟩ := B0.out.rep
  rw [HK.out] at q1
  go_wp2_with (fail)
  rcases hcs with rfl | rfl | rfl | rfl | rfl | rfl
  · skip
    refine wp_region_grow (by kernel_rfl) (by kernel_rfl) ?_
    repeat (quiet_step ((first | (fail))))
    refine wpQuiet_nil ?_
    intro w4 hb4
    replace B0 := Lib.hid (B0.out.step hb4)
    clear q0 q1 q2 q3 q4 q5 q6 q7 q8 q9 hb4 hlt
    go_wp2_with (fail)
    have hbw := B0.out.1.size
    have hgw : g < w.heap.size := hgl
    have Bg := Lib.hid (HL.out.below B0.out.1).2.1
    have HIw := Lib.hid (HI.out.below B0.out.1)
    refine wp_region_relF [Sp.eq (.pointer (some ⟨g, 0, none⟩)), Sp.eq (.pointer (some ⟨g, 0, none⟩)), Sp.eq (.pointer (some ⟨w.heap.size, 2, none⟩)), Sp.eq (.int .i64 a.req), Sp.eq (.agg (a.arr A c)), Sp.ownRep w.heap.size a] 40 6 1 (by kernel_rfl) (by decide) (by decide) (by kernel_rfl) (by kernel_rfl) (by kernel_rfl) (by kernel_rfl) (by kernel_rfl) rfl rfl (fun _ _ _ _ _ h => h) (by rintro o0 x h1 h2; injection h1 with h1; subst h1; injection h2 with h2; subst h2; rfl) ?_ ?_
    · refine ⟨?_, ?_, ?_, ?_, ?_, ?_, trivial⟩
      all_goals (intro u w5 hb5 hd; simp [Deps, Region.binds, Sp.eq_holds] at hd; simp only [putDeps, dstOf, Region.binds])
      case refine_1 => go_wp2_with (fail); exact RelEnd.mk rfl (Below.refl _ _) rfl
      case refine_2 => go_wp2_with (fail); exact RelEnd.mk rfl (Below.refl _ _) rfl
      case refine_3 => go_wp2_with (fail); exact RelEnd.mk rfl (Below.refl _ _) rfl
      case refine_4 =>
        have q := (B0.out.2.below hb5 B0.out.2.lt).cell (show (a.arr A c)[2]? = _ from rfl)
        go_wp2_with (fail); exact RelEnd.mk rfl (Below.refl _ _) rfl
      case refine_5 =>
        go_wp2_with (with_reducible refine stop_load 37 (.tmp 3) rfl rfl ?_)
        refine Stop.mk (wpList_loadB rfl _ _ rfl w.heap.size rfl _ (B0.out.2.below hb5 B0.out.2.lt) strRp rfl ?_)
        go_wp2_with (fail); exact RelEnd.mk rfl (Below.refl _ _) rfl
      case refine_6 =>
        go_wp2_with (go_at_call 64; refine (c_ledger_own a A c _ (HIw.out.below hb5)).mono ?_; rintro e w6 ⟨A6, c6, rfl, own6, hb6⟩)
        exact RelEnd.mk rfl hb6 ⟨A6, c6, rfl, own_base own6 (Nat.le_trans hbw hb5.size)⟩
    · intro u w5 hb5 hold
      simp only [RelHold, Sp.eq_holds, Sp.ownRep_holds, Nat.reduceAdd] at hold
      obtain ⟨e0, e1, -, e3, -, ⟨A6, c6, e5, own6⟩, -⟩ := hold
      have O6 := Lib.hid own6
      have hbw5 := Lib.hid (B0.out.1.trans (hb5.mono hbw))
      have B5 := Lib.hid (Bg.out.below hb5 Bg.out.lt)
      have HL5 := Lib.hid (HL.out.below hbw5.out)
      clear own6 hb5
      have hc := B5.out.cell (by have := lg_get (l := l) (by rw [HL.out.1]; decide) 0 (by omega) (k := 0); exact this)
      have hfz := B5.out.frozen
      simp only [Nat.reduceMul, Nat.reduceAdd] at hc
      simp only [List.drop, List.take, putAll, Act.put, Nat.reduceAdd, List.setIfInBounds_toArray, List.set_cons_zero, List.set_cons_succ]
      rw [e0, e1, e3, e5]
      have K6 := Lib.hid (kept_set w5 g 0 (.int .i64 a.req))
      have B6 := Lib.hid (B5.out.store 0 (.int .i64 a.req))
      have hk : 0 < l.length := by rw [HL.out.1]; decide
      have hz5 := B5.out.lt
      go_wp2_with (with_reducible refine stop_store 37 (.tmp 39) (.tmp 35) rfl rfl ?_)
      refine Stop.mk (wpList_storeAt rfl _ _ _ rfl g (0 + 2) (a.arr A6 c6) rfl rfl _ B6.out strRp rfl (by rw [Array.size_setIfInBounds, lg_size, HL.out.1]; show _ + 10 ≤ 72; omega) (by simp [Value.oneCell']) ?_)
      intro w7 hb7 hk7
      have B7 := Lib.hid (show Blk w7 g (lgArr (l.set 0 (⟨a.req, l[0].1.ep, a⟩, A6, c6))) by rw [← lg_put hk]; exact hb7)
      have KK := Lib.hid (K6.out.trans (hk7.mono (by simp [World.setCell])))
      clear hc hfz hb7 hk7 e0 e1 e3 e5
      go_wp2_with (fail)
      go_ret
      refine ⟨by rw [HY.out]; rfl, (Kept.of_below hbw5.out).trans (KK.out.mono hbw5.out.size), l.set 0 (⟨a.req, l[0].1.ep, a⟩, A6, c6), ⟨by rw [List.length_set]; exact HL.out.1, B7.out, ?_⟩, ?_⟩
      · exact note_rows HL5.out KK.out O6.out hgw hk
      · exact note_plain HK.out hk HY.out
  · skip
    refine wp_region_grow (by kernel_rfl) (by kernel_rfl) ?_
    repeat (quiet_step ((first | (fail))))
    refine wpQuiet_nil ?_
    intro w4 hb4
    replace B0 := Lib.hid (B0.out.step hb4)
    clear q0 q1 q2 q3 q4 q5 q6 q7 q8 q9 hb4 hlt
    go_wp2_with (fail)
    have hbw := B0.out.1.size
    have hgw : g < w.heap.size := hgl
    have Bg := Lib.hid (HL.out.below B0.out.1).2.1
    have HIw := Lib.hid (HI.out.below B0.out.1)
    refine wp_region_relF [Sp.eq (.pointer (some ⟨g, 12, none⟩)), Sp.eq (.pointer (some ⟨g, 12, none⟩)), Sp.eq (.pointer (some ⟨w.heap.size, 2, none⟩)), Sp.eq (.int .i64 a.req), Sp.eq (.agg (a.arr A c)), Sp.ownRep w.heap.size a] 40 6 1 (by kernel_rfl) (by decide) (by decide) (by kernel_rfl) (by kernel_rfl) (by kernel_rfl) (by kernel_rfl) (by kernel_rfl) rfl rfl (fun _ _ _ _ _ h => h) (by rintro o0 x h1 h2; injection h1 with h1; subst h1; injection h2 with h2; subst h2; rfl) ?_ ?_
    · refine ⟨?_, ?_, ?_, ?_, ?_, ?_, trivial⟩
      all_goals (intro u w5 hb5 hd; simp [Deps, Region.binds, Sp.eq_holds] at hd; simp only [putDeps, dstOf, Region.binds])
      case refine_1 => go_wp2_with (fail); exact RelEnd.mk rfl (Below.refl _ _) rfl
      case refine_2 => go_wp2_with (fail); exact RelEnd.mk rfl (Below.refl _ _) rfl
      case refine_3 => go_wp2_with (fail); exact RelEnd.mk rfl (Below.refl _ _) rfl
      case refine_4 =>
        have q := (B0.out.2.below hb5 B0.out.2.lt).cell (show (a.arr A c)[2]? = _ from rfl)
        go_wp2_with (fail); exact RelEnd.mk rfl (Below.refl _ _) rfl
      case refine_5 =>
        go_wp2_with (with_reducible refine stop_load 37 (.tmp 3) rfl rfl ?_)
        refine Stop.mk (wpList_loadB rfl _ _ rfl w.heap.size rfl _ (B0.out.2.below hb5 B0.out.2.lt) strRp rfl ?_)
        go_wp2_with (fail); exact RelEnd.mk rfl (Below.refl _ _) rfl
      case refine_6 =>
        go_wp2_with (go_at_call 64; refine (c_ledger_own a A c _ (HIw.out.below hb5)).mono ?_; rintro e w6 ⟨A6, c6, rfl, own6, hb6⟩)
        exact RelEnd.mk rfl hb6 ⟨A6, c6, rfl, own_base own6 (Nat.le_trans hbw hb5.size)⟩
    · intro u w5 hb5 hold
      simp only [RelHold, Sp.eq_holds, Sp.ownRep_holds, Nat.reduceAdd] at hold
      obtain ⟨e0, e1, -, e3, -, ⟨A6, c6, e5, own6⟩, -⟩ := hold
      have O6 := Lib.hid own6
      have hbw5 := Lib.hid (B0.out.1.trans (hb5.mono hbw))
      have B5 := Lib.hid (Bg.out.below hb5 Bg.out.lt)
      have HL5 := Lib.hid (HL.out.below hbw5.out)
      clear own6 hb5
      have hc := B5.out.cell (by have := lg_get (l := l) (by rw [HL.out.1]; decide) 0 (by omega) (k := 1); exact this)
      have hfz := B5.out.frozen
      simp only [Nat.reduceMul, Nat.reduceAdd] at hc
      simp only [List.drop, List.take, putAll, Act.put, Nat.reduceAdd, List.setIfInBounds_toArray, List.set_cons_zero, List.set_cons_succ]
      rw [e0, e1, e3, e5]
      have K6 := Lib.hid (kept_set w5 g 12 (.int .i64 a.req))
      have B6 := Lib.hid (B5.out.store 12 (.int .i64 a.req))
      have hk : 1 < l.length := by rw [HL.out.1]; decide
      have hz5 := B5.out.lt
      go_wp2_with (with_reducible refine stop_store 37 (.tmp 39) (.tmp 35) rfl rfl ?_)
      refine Stop.mk (wpList_storeAt rfl _ _ _ rfl g (12 + 2) (a.arr A6 c6) rfl rfl _ B6.out strRp rfl (by rw [Array.size_setIfInBounds, lg_size, HL.out.1]; show _ + 10 ≤ 72; omega) (by simp [Value.oneCell']) ?_)
      intro w7 hb7 hk7
      have B7 := Lib.hid (show Blk w7 g (lgArr (l.set 1 (⟨a.req, l[1].1.ep, a⟩, A6, c6))) by rw [← lg_put hk]; exact hb7)
      have KK := Lib.hid (K6.out.trans (hk7.mono (by simp [World.setCell])))
      clear hc hfz hb7 hk7 e0 e1 e3 e5
      go_wp2_with (fail)
      go_ret
      refine ⟨by rw [HY.out]; rfl, (Kept.of_below hbw5.out).trans (KK.out.mono hbw5.out.size), l.set 1 (⟨a.req, l[1].1.ep, a⟩, A6, c6), ⟨by rw [List.length_set]; exact HL.out.1, B7.out, ?_⟩, ?_⟩
      · exact note_rows HL5.out KK.out O6.out hgw hk
      · exact note_plain HK.out hk HY.out
  · skip
    refine wp_region_grow (by kernel_rfl) (by kernel_rfl) ?_
    repeat (quiet_step ((first | (fail))))
    refine wpQuiet_nil ?_
    intro w4 hb4
    replace B0 := Lib.hid (B0.out.step hb4)
    clear q0 q1 q2 q3 q4 q5 q6 q7 q8 q9 hb4 hlt
    go_wp2_with (fail)
    have hbw := B0.out.1.size
    have hgw : g < w.heap.size := hgl
    have Bg := Lib.hid (HL.out.below B0.out.1).2.1
    have HIw := Lib.hid (HI.out.below B0.out.1)
    refine wp_region_relF [Sp.eq (.pointer (some ⟨g, 24, none⟩)), Sp.eq (.pointer (some ⟨g, 24, none⟩)), Sp.eq (.pointer (some ⟨w.heap.size, 2, none⟩)), Sp.eq (.int .i64 a.req), Sp.eq (.agg (a.arr A c)), Sp.ownRep w.heap.size a] 40 6 1 (by kernel_rfl) (by decide) (by decide) (by kernel_rfl) (by kernel_rfl) (by kernel_rfl) (by kernel_rfl) (by kernel_rfl) rfl rfl (fun _ _ _ _ _ h => h) (by rintro o0 x h1 h2; injection h1 with h1; subst h1; injection h2 with h2; subst h2; rfl) ?_ ?_
    · refine ⟨?_, ?_, ?_, ?_, ?_, ?_, trivial⟩
      all_goals (intro u w5 hb5 hd; simp [Deps, Region.binds, Sp.eq_holds] at hd; simp only [putDeps, dstOf, Region.binds])
      case refine_1 => go_wp2_with (fail); exact RelEnd.mk rfl (Below.refl _ _) rfl
      case refine_2 => go_wp2_with (fail); exact RelEnd.mk rfl (Below.refl _ _) rfl
      case refine_3 => go_wp2_with (fail); exact RelEnd.mk rfl (Below.refl _ _) rfl
      case refine_4 =>
        have q := (B0.out.2.below hb5 B0.out.2.lt).cell (show (a.arr A c)[2]? = _ from rfl)
        go_wp2_with (fail); exact RelEnd.mk rfl (Below.refl _ _) rfl
      case refine_5 =>
        go_wp2_with (with_reducible refine stop_load 37 (.tmp 3) rfl rfl ?_)
        refine Stop.mk (wpList_loadB rfl _ _ rfl w.heap.size rfl _ (B0.out.2.below hb5 B0.out.2.lt) strRp rfl ?_)
        go_wp2_with (fail); exact RelEnd.mk rfl (Below.refl _ _) rfl
      case refine_6 =>
        go_wp2_with (go_at_call 64; refine (c_ledger_own a A c _ (HIw.out.below hb5)).mono ?_; rintro e w6 ⟨A6, c6, rfl, own6, hb6⟩)
        exact RelEnd.mk rfl hb6 ⟨A6, c6, rfl, own_base own6 (Nat.le_trans hbw hb5.size)⟩
    · intro u w5 hb5 hold
      simp only [RelHold, Sp.eq_holds, Sp.ownRep_holds, Nat.reduceAdd] at hold
      obtain ⟨e0, e1, -, e3, -, ⟨A6, c6, e5, own6⟩, -⟩ := hold
      have O6 := Lib.hid own6
      have hbw5 := Lib.hid (B0.out.1.trans (hb5.mono hbw))
      have B5 := Lib.hid (Bg.out.below hb5 Bg.out.lt)
      have HL5 := Lib.hid (HL.out.below hbw5.out)
      clear own6 hb5
      have hc := B5.out.cell (by have := lg_get (l := l) (by rw [HL.out.1]; decide) 0 (by omega) (k := 2); exact this)
      have hfz := B5.out.frozen
      simp only [Nat.reduceMul, Nat.reduceAdd] at hc
      simp only [List.drop, List.take, putAll, Act.put, Nat.reduceAdd, List.setIfInBounds_toArray, List.set_cons_zero, List.set_cons_succ]
      rw [e0, e1, e3, e5]
      have K6 := Lib.hid (kept_set w5 g 24 (.int .i64 a.req))
      have B6 := Lib.hid (B5.out.store 24 (.int .i64 a.req))
      have hk : 2 < l.length := by rw [HL.out.1]; decide
      have hz5 := B5.out.lt
      go_wp2_with (with_reducible refine stop_store 37 (.tmp 39) (.tmp 35) rfl rfl ?_)
      refine Stop.mk (wpList_storeAt rfl _ _ _ rfl g (24 + 2) (a.arr A6 c6) rfl rfl _ B6.out strRp rfl (by rw [Array.size_setIfInBounds, lg_size, HL.out.1]; show _ + 10 ≤ 72; omega) (by simp [Value.oneCell']) ?_)
      intro w7 hb7 hk7
      have B7 := Lib.hid (show Blk w7 g (lgArr (l.set 2 (⟨a.req, l[2].1.ep, a⟩, A6, c6))) by rw [← lg_put hk]; exact hb7)
      have KK := Lib.hid (K6.out.trans (hk7.mono (by simp [World.setCell])))
      clear hc hfz hb7 hk7 e0 e1 e3 e5
      go_wp2_with (fail)
      go_ret
      refine ⟨by rw [HY.out]; rfl, (Kept.of_below hbw5.out).trans (KK.out.mono hbw5.out.size), l.set 2 (⟨a.req, l[2].1.ep, a⟩, A6, c6), ⟨by rw [List.length_set]; exact HL.out.1, B7.out, ?_⟩, ?_⟩
      · exact note_rows HL5.out KK.out O6.out hgw hk
      · exact note_plain HK.out hk HY.out
  · skip
    refine wp_region_grow (by kernel_rfl) (by kernel_rfl) ?_
    repeat (quiet_step ((first | (fail))))
    refine wpQuiet_nil ?_
    intro w4 hb4
    replace B0 := Lib.hid (B0.out.step hb4)
    clear q0 q1 q2 q3 q4 q5 q6 q7 q8 q9 hb4 hlt
    go_wp2_with (fail)
    have hbw := B0.out.1.size
    have hgw : g < w.heap.size := hgl
    have Bg := Lib.hid (HL.out.below B0.out.1).2.1
    have HIw := Lib.hid (HI.out.below B0.out.1)
    refine wp_region_relF [Sp.eq (.pointer (some ⟨g, 36, none⟩)), Sp.eq (.pointer (some ⟨g, 36, none⟩)), Sp.eq (.pointer (some ⟨w.heap.size, 2, none⟩)), Sp.eq (.int .i64 a.req), Sp.eq (.agg (a.arr A c)), Sp.ownRep w.heap.size a] 40 6 1 (by kernel_rfl) (by decide) (by decide) (by kernel_rfl) (by kernel_rfl) (by kernel_rfl) (by kernel_rfl) (by kernel_rfl) rfl rfl (fun _ _ _ _ _ h => h) (by rintro o0 x h1 h2; injection h1 with h1; subst h1; injection h2 with h2; subst h2; rfl) ?_ ?_
    · refine ⟨?_, ?_, ?_, ?_, ?_, ?_, trivial⟩
      all_goals (intro u w5 hb5 hd; simp [Deps, Region.binds, Sp.eq_holds] at hd; simp only [putDeps, dstOf, Region.binds])
      case refine_1 => go_wp2_with (fail); exact RelEnd.mk rfl (Below.refl _ _) rfl
      case refine_2 => go_wp2_with (fail); exact RelEnd.mk rfl (Below.refl _ _) rfl
      case refine_3 => go_wp2_with (fail); exact RelEnd.mk rfl (Below.refl _ _) rfl
      case refine_4 =>
        have q := (B0.out.2.below hb5 B0.out.2.lt).cell (show (a.arr A c)[2]? = _ from rfl)
        go_wp2_with (fail); exact RelEnd.mk rfl (Below.refl _ _) rfl
      case refine_5 =>
        go_wp2_with (with_reducible refine stop_load 37 (.tmp 3) rfl rfl ?_)
        refine Stop.mk (wpList_loadB rfl _ _ rfl w.heap.size rfl _ (B0.out.2.below hb5 B0.out.2.lt) strRp rfl ?_)
        go_wp2_with (fail); exact RelEnd.mk rfl (Below.refl _ _) rfl
      case refine_6 =>
        go_wp2_with (go_at_call 64; refine (c_ledger_own a A c _ (HIw.out.below hb5)).mono ?_; rintro e w6 ⟨A6, c6, rfl, own6, hb6⟩)
        exact RelEnd.mk rfl hb6 ⟨A6, c6, rfl, own_base own6 (Nat.le_trans hbw hb5.size)⟩
    · intro u w5 hb5 hold
      simp only [RelHold, Sp.eq_holds, Sp.ownRep_holds, Nat.reduceAdd] at hold
      obtain ⟨e0, e1, -, e3, -, ⟨A6, c6, e5, own6⟩, -⟩ := hold
      have O6 := Lib.hid own6
      have hbw5 := Lib.hid (B0.out.1.trans (hb5.mono hbw))
      have B5 := Lib.hid (Bg.out.below hb5 Bg.out.lt)
      have HL5 := Lib.hid (HL.out.below hbw5.out)
      clear own6 hb5
      have hc := B5.out.cell (by have := lg_get (l := l) (by rw [HL.out.1]; decide) 0 (by omega) (k := 3); exact this)
      have hfz := B5.out.frozen
      simp only [Nat.reduceMul, Nat.reduceAdd] at hc
      simp only [List.drop, List.take, putAll, Act.put, Nat.reduceAdd, List.setIfInBounds_toArray, List.set_cons_zero, List.set_cons_succ]
      rw [e0, e1, e3, e5]
      have K6 := Lib.hid (kept_set w5 g 36 (.int .i64 a.req))
      have B6 := Lib.hid (B5.out.store 36 (.int .i64 a.req))
      have hk : 3 < l.length := by rw [HL.out.1]; decide
      have hz5 := B5.out.lt
      go_wp2_with (with_reducible refine stop_store 37 (.tmp 39) (.tmp 35) rfl rfl ?_)
      refine Stop.mk (wpList_storeAt rfl _ _ _ rfl g (36 + 2) (a.arr A6 c6) rfl rfl _ B6.out strRp rfl (by rw [Array.size_setIfInBounds, lg_size, HL.out.1]; show _ + 10 ≤ 72; omega) (by simp [Value.oneCell']) ?_)
      intro w7 hb7 hk7
      have B7 := Lib.hid (show Blk w7 g (lgArr (l.set 3 (⟨a.req, l[3].1.ep, a⟩, A6, c6))) by rw [← lg_put hk]; exact hb7)
      have KK := Lib.hid (K6.out.trans (hk7.mono (by simp [World.setCell])))
      clear hc hfz hb7 hk7 e0 e1 e3 e5
      go_wp2_with (fail)
      go_ret
      refine ⟨by rw [HY.out]; rfl, (Kept.of_below hbw5.out).trans (KK.out.mono hbw5.out.size), l.set 3 (⟨a.req, l[3].1.ep, a⟩, A6, c6), ⟨by rw [List.length_set]; exact HL.out.1, B7.out, ?_⟩, ?_⟩
      · exact note_rows HL5.out KK.out O6.out hgw hk
      · exact note_plain HK.out hk HY.out
  · skip
    refine wp_region_grow (by kernel_rfl) (by kernel_rfl) ?_
    repeat (quiet_step ((first | (fail))))
    refine wpQuiet_nil ?_
    intro w4 hb4
    replace B0 := Lib.hid (B0.out.step hb4)
    clear q0 q1 q2 q3 q4 q5 q6 q7 q8 q9 hb4 hlt
    go_wp2_with (fail)
    have hbw := B0.out.1.size
    have hgw : g < w.heap.size := hgl
    have Bg := Lib.hid (HL.out.below B0.out.1).2.1
    have HIw := Lib.hid (HI.out.below B0.out.1)
    refine wp_region_relF [Sp.eq (.pointer (some ⟨g, 48, none⟩)), Sp.eq (.pointer (some ⟨g, 48, none⟩)), Sp.eq (.pointer (some ⟨w.heap.size, 2, none⟩)), Sp.eq (.int .i64 a.req), Sp.eq (.agg (a.arr A c)), Sp.ownRep w.heap.size a] 40 6 1 (by kernel_rfl) (by decide) (by decide) (by kernel_rfl) (by kernel_rfl) (by kernel_rfl) (by kernel_rfl) (by kernel_rfl) rfl rfl (fun _ _ _ _ _ h => h) (by rintro o0 x h1 h2; injection h1 with h1; subst h1; injection h2 with h2; subst h2; rfl) ?_ ?_
    · refine ⟨?_, ?_, ?_, ?_, ?_, ?_, trivial⟩
      all_goals (intro u w5 hb5 hd; simp [Deps, Region.binds, Sp.eq_holds] at hd; simp only [putDeps, dstOf, Region.binds])
      case refine_1 => go_wp2_with (fail); exact RelEnd.mk rfl (Below.refl _ _) rfl
      case refine_2 => go_wp2_with (fail); exact RelEnd.mk rfl (Below.refl _ _) rfl
      case refine_3 => go_wp2_with (fail); exact RelEnd.mk rfl (Below.refl _ _) rfl
      case refine_4 =>
        have q := (B0.out.2.below hb5 B0.out.2.lt).cell (show (a.arr A c)[2]? = _ from rfl)
        go_wp2_with (fail); exact RelEnd.mk rfl (Below.refl _ _) rfl
      case refine_5 =>
        go_wp2_with (with_reducible refine stop_load 37 (.tmp 3) rfl rfl ?_)
        refine Stop.mk (wpList_loadB rfl _ _ rfl w.heap.size rfl _ (B0.out.2.below hb5 B0.out.2.lt) strRp rfl ?_)
        go_wp2_with (fail); exact RelEnd.mk rfl (Below.refl _ _) rfl
      case refine_6 =>
        go_wp2_with (go_at_call 64; refine (c_ledger_own a A c _ (HIw.out.below hb5)).mono ?_; rintro e w6 ⟨A6, c6, rfl, own6, hb6⟩)
        exact RelEnd.mk rfl hb6 ⟨A6, c6, rfl, own_base own6 (Nat.le_trans hbw hb5.size)⟩
    · intro u w5 hb5 hold
      simp only [RelHold, Sp.eq_holds, Sp.ownRep_holds, Nat.reduceAdd] at hold
      obtain ⟨e0, e1, -, e3, -, ⟨A6, c6, e5, own6⟩, -⟩ := hold
      have O6 := Lib.hid own6
      have hbw5 := Lib.hid (B0.out.1.trans (hb5.mono hbw))
      have B5 := Lib.hid (Bg.out.below hb5 Bg.out.lt)
      have HL5 := Lib.hid (HL.out.below hbw5.out)
      clear own6 hb5
      have hc := B5.out.cell (by have := lg_get (l := l) (by rw [HL.out.1]; decide) 0 (by omega) (k := 4); exact this)
      have hfz := B5.out.frozen
      simp only [Nat.reduceMul, Nat.reduceAdd] at hc
      simp only [List.drop, List.take, putAll, Act.put, Nat.reduceAdd, List.setIfInBounds_toArray, List.set_cons_zero, List.set_cons_succ]
      rw [e0, e1, e3, e5]
      have K6 := Lib.hid (kept_set w5 g 48 (.int .i64 a.req))
      have B6 := Lib.hid (B5.out.store 48 (.int .i64 a.req))
      have hk : 4 < l.length := by rw [HL.out.1]; decide
      have hz5 := B5.out.lt
      go_wp2_with (with_reducible refine stop_store 37 (.tmp 39) (.tmp 35) rfl rfl ?_)
      refine Stop.mk (wpList_storeAt rfl _ _ _ rfl g (48 + 2) (a.arr A6 c6) rfl rfl _ B6.out strRp rfl (by rw [Array.size_setIfInBounds, lg_size, HL.out.1]; show _ + 10 ≤ 72; omega) (by simp [Value.oneCell']) ?_)
      intro w7 hb7 hk7
      have B7 := Lib.hid (show Blk w7 g (lgArr (l.set 4 (⟨a.req, l[4].1.ep, a⟩, A6, c6))) by rw [← lg_put hk]; exact hb7)
      have KK := Lib.hid (K6.out.trans (hk7.mono (by simp [World.setCell])))
      clear hc hfz hb7 hk7 e0 e1 e3 e5
      go_wp2_with (fail)
      go_ret
      refine ⟨by rw [HY.out]; rfl, (Kept.of_below hbw5.out).trans (KK.out.mono hbw5.out.size), l.set 4 (⟨a.req, l[4].1.ep, a⟩, A6, c6), ⟨by rw [List.length_set]; exact HL.out.1, B7.out, ?_⟩, ?_⟩
      · exact note_rows HL5.out KK.out O6.out hgw hk
      · exact note_plain HK.out hk HY.out
  · skip
    refine wp_region_grow (by kernel_rfl) (by kernel_rfl) ?_
    repeat (quiet_step ((first | (fail))))
    refine wpQuiet_nil ?_
    intro w4 hb4
    replace B0 := Lib.hid (B0.out.step hb4)
    clear q0 q1 q2 q3 q4 q5 q6 q7 q8 q9 hb4 hlt
    go_wp2_with (fail)
    have hbw := B0.out.1.size
    have hgw : g < w.heap.size := hgl
    have Bg := Lib.hid (HL.out.below B0.out.1).2.1
    have HIw := Lib.hid (HI.out.below B0.out.1)
    refine wp_region_relF [Sp.eq (.pointer (some ⟨g, 60, none⟩)), Sp.eq (.pointer (some ⟨g, 60, none⟩)), Sp.eq (.pointer (some ⟨w.heap.size, 2, none⟩)), Sp.eq (.int .i64 a.req), Sp.eq (.agg (a.arr A c)), Sp.ownRep w.heap.size a] 40 6 1 (by kernel_rfl) (by decide) (by decide) (by kernel_rfl) (by kernel_rfl) (by kernel_rfl) (by kernel_rfl) (by kernel_rfl) rfl rfl (fun _ _ _ _ _ h => h) (by rintro o0 x h1 h2; injection h1 with h1; subst h1; injection h2 with h2; subst h2; rfl) ?_ ?_
    · refine ⟨?_, ?_, ?_, ?_, ?_, ?_, trivial⟩
      all_goals (intro u w5 hb5 hd; simp [Deps, Region.binds, Sp.eq_holds] at hd; simp only [putDeps, dstOf, Region.binds])
      case refine_1 => go_wp2_with (fail); exact RelEnd.mk rfl (Below.refl _ _) rfl
      case refine_2 => go_wp2_with (fail); exact RelEnd.mk rfl (Below.refl _ _) rfl
      case refine_3 => go_wp2_with (fail); exact RelEnd.mk rfl (Below.refl _ _) rfl
      case refine_4 =>
        have q := (B0.out.2.below hb5 B0.out.2.lt).cell (show (a.arr A c)[2]? = _ from rfl)
        go_wp2_with (fail); exact RelEnd.mk rfl (Below.refl _ _) rfl
      case refine_5 =>
        go_wp2_with (with_reducible refine stop_load 37 (.tmp 3) rfl rfl ?_)
        refine Stop.mk (wpList_loadB rfl _ _ rfl w.heap.size rfl _ (B0.out.2.below hb5 B0.out.2.lt) strRp rfl ?_)
        go_wp2_with (fail); exact RelEnd.mk rfl (Below.refl _ _) rfl
      case refine_6 =>
        go_wp2_with (go_at_call 64; refine (c_ledger_own a A c _ (HIw.out.below hb5)).mono ?_; rintro e w6 ⟨A6, c6, rfl, own6, hb6⟩)
        exact RelEnd.mk rfl hb6 ⟨A6, c6, rfl, own_base own6 (Nat.le_trans hbw hb5.size)⟩
    · intro u w5 hb5 hold
      simp only [RelHold, Sp.eq_holds, Sp.ownRep_holds, Nat.reduceAdd] at hold
      obtain ⟨e0, e1, -, e3, -, ⟨A6, c6, e5, own6⟩, -⟩ := hold
      have O6 := Lib.hid own6
      have hbw5 := Lib.hid (B0.out.1.trans (hb5.mono hbw))
      have B5 := Lib.hid (Bg.out.below hb5 Bg.out.lt)
      have HL5 := Lib.hid (HL.out.below hbw5.out)
      clear own6 hb5
      have hc := B5.out.cell (by have := lg_get (l := l) (by rw [HL.out.1]; decide) 0 (by omega) (k := 5); exact this)
      have hfz := B5.out.frozen
      simp only [Nat.reduceMul, Nat.reduceAdd] at hc
      simp only [List.drop, List.take, putAll, Act.put, Nat.reduceAdd, List.setIfInBounds_toArray, List.set_cons_zero, List.set_cons_succ]
      rw [e0, e1, e3, e5]
      have K6 := Lib.hid (kept_set w5 g 60 (.int .i64 a.req))
      have B6 := Lib.hid (B5.out.store 60 (.int .i64 a.req))
      have hk : 5 < l.length := by rw [HL.out.1]; decide
      have hz5 := B5.out.lt
      go_wp2_with (with_reducible refine stop_store 37 (.tmp 39) (.tmp 35) rfl rfl ?_)
      refine Stop.mk (wpList_storeAt rfl _ _ _ rfl g (60 + 2) (a.arr A6 c6) rfl rfl _ B6.out strRp rfl (by rw [Array.size_setIfInBounds, lg_size, HL.out.1]; show _ + 10 ≤ 72; omega) (by simp [Value.oneCell']) ?_)
      intro w7 hb7 hk7
      have B7 := Lib.hid (show Blk w7 g (lgArr (l.set 5 (⟨a.req, l[5].1.ep, a⟩, A6, c6))) by rw [← lg_put hk]; exact hb7)
      have KK := Lib.hid (K6.out.trans (hk7.mono (by simp [World.setCell])))
      clear hc hfz hb7 hk7 e0 e1 e3 e5
      go_wp2_with (fail)
      go_ret
      refine ⟨by rw [HY.out]; rfl, (Kept.of_below hbw5.out).trans (KK.out.mono hbw5.out.size), l.set 5 (⟨a.req, l[5].1.ep, a⟩, A6, c6), ⟨by rw [List.length_set]; exact HL.out.1, B7.out, ?_⟩, ?_⟩
      · exact note_rows HL5.out KK.out O6.out hgw hk
      · exact note_plain HK.out hk HY.out
theorem c_ledger_Note (g : Nat) (l : List LR) (a : Rep) (A : Option Addr) (c : Nat) (w : World) (h : Lg w g l) (ha : InN w A c a.f) (hs : ∀ x ∈ a.f, x.v.s.length ≤ 4294967000) (hm : a.mask < 4294967296) (hfl : a.f.length ≤ 1000000) :
    Calls Try.prog 32 #[.pointer (some ⟨g, 0, none⟩), .agg (a.arr A c)] w (RetNote g l a w) := by
  cases hy : noteOk (rowsOf l) a
  · exact ledger_Note_no g l a A c w h ha hs hm hy
  · exact ledger_Note_yes g l a A c w h ha hs hm hfl hy
end Go.Proofs.Ytplipddgeanajaa
