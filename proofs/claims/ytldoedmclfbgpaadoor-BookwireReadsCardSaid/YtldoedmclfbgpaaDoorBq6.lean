/-
  Lemmas (walks and plain laws), in one text.
-/
import Derived.Test.YtldoedmclfbgpaaDoorBq1
import Derived.Test.YtldoedmclfbgpaaDoorBq2
import Derived.Test.YtldoedmclfbgpaaDoorBq4
import Derived.Test.YtldoedmclfbgpaaDoorBq5
import Derived.BigQuiet
namespace Go.Proofs.YtldoedmclfbgpaaDoor
open Go.RowKit

theorem relgoals_genN {P : Program} {ops : Array Oper} {S : List Sp} {a : Act} {w : World} {r : List Oper} {s : Nat} (h : ∀ fr, fr = a → RelGoals P ops S fr w r s) : RelGoals P ops S a w r s := h a rfl
theorem RdR.eN {w : World} {h : Nat} {st : Rd} (r : RdR w h st) : w.cell? ⟨h, 1, none⟩ = some (.int .i64 st.e) := r.1.cell rfl
theorem RdR.sN {w : World} {h : Nat} {st : Rd} (r : RdR w h st) : w.cell? ⟨h, 0, none⟩ = some (.string (str st.s)) := r.1.cell rfl
/-- The two readers; g ahead of h; nothing below the call's own has turned. -/
structure RW (w w' : World) (g h : Nat) (s1 s2 : Rd) : Prop where
  below : Below w.heap.size w w'
  rp : RdP w' (some g) s1
  rr : RdR w' h s2
  og : w.heap.size ≤ g
  gh : g < h
section
variable {w w' w2 : World} {g h : Nat} {s1 s2 s3 : Rd}
theorem RW.step (L : RW w w' g h s1 s2) (hb : Below w'.heap.size w' w2) : RW w w2 g h s1 s2 := ⟨L.below.trans (hb.mono L.below.size), L.rp.below hb, L.rr.below hb, L.og, L.gh⟩
theorem RW.hi (L : RW w w' g h s1 s2) : h < w'.heap.size := L.rr.lt
theorem RW.readP (L : RW w w' g h s1 s2) (r : RdP w2 (some g) s3) (k : Kept (some g) w'.heap.size w' w2) : RW w w2 g h s3 s2 :=
  ⟨L.below.trans (k.oneB L.below.size L.og), r, L.rr.kept k (fun e => by injection e with e; have := L.gh; omega), L.og, L.gh⟩
theorem RW.readR (L : RW w w' g h s1 s2) (r : RdR w2 h s3) (k : Kept (some h) w'.heap.size w' w2) : RW w w2 g h s1 s3 :=
  ⟨L.below.trans (k.oneB L.below.size (by have := L.og; have := L.gh; omega)), L.rp.kept k (fun x y e1 e2 => by injection e1 with e1; injection e2 with e2; have := L.gh; omega), r, L.og, L.gh⟩
end
end Go.Proofs.YtldoedmclfbgpaaDoor
namespace Go.Proofs.YtldoedmclfbgpaaDoor
open Go.RowKit

set_option maxHeartbeats 1000000 in
set_option maxRecDepth 4000 in
theorem c_ref01_IntsB (l1 l2 : List Int) (A1 A2 : Option Addr) (c1 c2 : Nat) (w : World) (h1 : InI w A1 c1 l1) (h2 : InI w A2 c2 l2) :
    Calls Tryd.prog 38 #[.slice A1 l1.length c1, .slice A2 l2.length c2] w (RetV w (.bool (decide (l1 = l2)))) := by
  have hL1 := h1.1
  have hC1 := h1.2.1
  have hS1 := h1.2.2.1
  have hL2 := h2.1
  have hC2 := h2.2.1
  have hS2 := h2.2.2.1
  by_cases hlen : l1.length = l2.length
  case neg =>
    have H : Hid (false = decide (l1 = l2)) := by
      show _ = _
      symm
      rw [decide_eq_false_iff_not]
      exact fun e => hlen (by rw [e])
    go_enter Tryd.func38, Tryd.ntmps38
    go_wp2_with (fail)
    go_ret
    exact RetV.bool H.out (by repeat (first | exact Below.refl _ _ | refine Below.drew ?_ | refine Below.alloc ?_ (by first | omega | (simp; done) | (simp; omega)) _ | refine Below.setCell ?_ (by first | omega | (simp; done) | (simp; omega)) _ | refine Below.trans ?_ (Below.mono (by assumption) (by first | omega | (simp; done) | (simp; omega)))))
  have hd : ((l1.length : Int) != (l2.length : Int)) = false := by rw [hlen]; simp
  have HL := Lib.hid hlen
  clear hlen
  go_enter Tryd.func38, Tryd.ntmps38
  go_wp2_with (fail)
  go_loopw [5] (fun i wr => ∃ k : Nat, k ≤ l1.length ∧ i = .int .i64 k ∧ Hid (decide (l1.drop k = l2.drop k) = decide (l1 = l2)) ∧ Below w.heap.size w wr) (fun i _ => l1.length - (intOf i).toNat)
  case atStart => exact ⟨0, by omega, rfl, by simp [Hid], Below.refl _ _⟩
  case round =>
    obtain ⟨k, hk, rfl, H, hbl⟩ := hrel
    have hbz := hbl.size
    by_cases hlt : k < l1.length
    · have hlt2 : k < l2.length := by have := HL.out; omega
      obtain ⟨b1, off1, rfl, hb1, hrow1⟩ := h1.at hlt
      obtain ⟨b2, off2, rfl, hb2, hrow2⟩ := h2.at hlt2
      have e0 : wr.cell? ⟨b1, off1 + k, none⟩ = some (.int .i64 l1[k]) := by have := (hrow1.below hbl hb1) k hlt 0 _ rfl; simpa using this
      have f0 : wr.cell? ⟨b2, off2 + k, none⟩ = some (.int .i64 l2[k]) := by have := (hrow2.below hbl hb2) k hlt2 0 _ rfl; simpa using this
      have hbr1 : b1 < wr.heap.size := by omega
      have hbr2 : b2 < wr.heap.size := by omega
      have hi1 : (0 : Int) ≤ (k : Int) := by omega
      have hi2 : (k : Int) < (l1.length : Int) := by omega
      have hi3 : (k : Int) < (l2.length : Int) := by omega
      have hH := H.out
      rw [List.drop_eq_getElem_cons hlt, List.drop_eq_getElem_cons hlt2] at hH
      clear h1 h2 H hrow1 hrow2
      obtain ⟨x, hx⟩ : ∃ x, x = l1[k] := ⟨_, rfl⟩
      obtain ⟨y, hy⟩ : ∃ y, y = l2[k] := ⟨_, rfl⟩
      rw [← hx] at e0 hH
      rw [← hy] at f0 hH
      clear hx hy
      by_cases hxy : x = y
      · have HN : Hid (decide (l1.drop (k + 1) = l2.drop (k + 1)) = decide (l1 = l2)) := by show _ = _; rw [← hH, hxy]; simp only [List.cons.injEq, true_and]
        have j : (x != y) = false := by simpa using hxy
        clear hH hxy
        go_wp2_with (fail)
        refine wp_region_grow (by kernel_rfl) (by kernel_rfl) ?_
        repeat (quiet_step ((first | fail)))
        refine wpQuiet_nil ?_
        intro w2 hb2
        go_wp2_with (fail)
        go_roundw
        case rel => exact ⟨k + 1, by omega, by go_num, HN.out, (by repeat (first | exact Below.refl _ _ | refine Below.drew ?_ | refine Below.alloc ?_ (by first | omega | (simp; done) | (simp; omega)) _ | refine Below.setCell ?_ (by first | omega | (simp; done) | (simp; omega)) _ | refine Below.trans ?_ (Below.mono (by assumption) (by first | omega | (simp; done) | (simp; omega)))))⟩
        case measure => simp [intOf]; omega
      · have HN : Hid (false = decide (l1 = l2)) := by show _ = _; rw [← hH]; symm; rw [decide_eq_false_iff_not]; intro e; injection e with e; exact hxy e
        have j : (x != y) = true := by simpa using hxy
        clear hH hxy
        go_wp2_with (fail)
        refine wp_region_grow (by kernel_rfl) (by kernel_rfl) ?_
        repeat (quiet_step ((first | fail)))
        refine wpQuiet_nil ?_
        intro w2 hb2
        go_wp2_with (fail)
        go_ret
        exact RetV.bool HN.out (by repeat (first | exact Below.refl _ _ | refine Below.drew ?_ | refine Below.alloc ?_ (by first | omega | (simp; done) | (simp; omega)) _ | refine Below.setCell ?_ (by first | omega | (simp; done) | (simp; omega)) _ | refine Below.trans ?_ (Below.mono (by assumption) (by first | omega | (simp; done) | (simp; omega)))))
    · have hH := H.out
      rw [List.drop_of_length_le (by omega), List.drop_of_length_le (by have := HL.out; omega)] at hH
      have HN : Hid (true = decide (l1 = l2)) := by show _ = _; rw [← hH]; simp
      clear hH H
      go_wp2_with (fail)
      go_ret
      exact RetV.bool HN.out hbl
end Go.Proofs.YtldoedmclfbgpaaDoor
namespace Go.Proofs.YtldoedmclfbgpaaDoor
open Go.RowKit

theorem splice_all {l : List UInt8} {cur : List Value} (hc : cur.length = l.length) : splice cur 0 (l.flatMap bc) = l.flatMap bc := by
  have hl := flat_length bc_len l
  unfold splice
  rw [List.take_zero, List.nil_append, List.drop_of_length_le (by omega), List.append_nil]
theorem Row.of_heap {w : World} {b : Nat} {t : TypeId} {l : List UInt8} (h : w.heap[b]? = some (.cells (l.flatMap bc).toArray t (0, 0))) : Row 1 bc w b 0 l := by
  intro i hi j u hu
  have hj : j < 1 := (List.getElem?_eq_some_iff.1 hu).1
  have h0 : j = 0 := by omega
  subst h0
  have := flat_get bc_len l i hi 0 (by omega)
  rw [cell_of_row w b _ _ _ _ h, List.getElem?_toArray, Nat.zero_add, this]
  exact hu
/-- The walk stands still at a copy. -/
theorem stop_copy {P : Program} {w : World} {ops : Array Oper} {rest : List Oper} {o : Oper} {a : Act} {Q : Exit → Act → World → Prop} (d s : Operand) (dT sT : TypeId)
    (_ : o.op = .call { callee := .builtin .copy, args := #[d, s], argTypes := #[dT, sT] }) (h : Stop (wpList P ops Q (o :: rest) a w)) : wpList P ops Q (o :: rest) a w := h
set_option maxHeartbeats 400000 in
set_option maxRecDepth 4000 in
theorem c_octet_New (l : List UInt8) (A : Option Addr) (c : Nat) (w : World) (h : InB w A c l) : Calls Tryd.prog 6 #[.slice A l.length c] w (RetNew w l) := by
  have hL := h.1
  have hC := h.2.1
  have hS := h.2.2.1
  obtain ⟨i, z, hi, hz0, hz1, hz2, hz3⟩ := elemB.info
  have H := Lib.hid h
  clear h
  go_enter Tryd.func6, Tryd.ntmps6
  go_wp2_with (at_make; refine Stop.out ?_)
  refine Stop.mk (wpList_make_full _ rfl (.tmp 5) (.tmp 5) 22 rfl w.heap.size 5 i z 1 Tryd.underlying22 hi hz0 hz1 _ _ _ _ l.length rfl rfl rfl rfl (by rw [hz2]; omega) (by unfold maxLen; omega) (Nat.le_refl _) ?_)
  intro w1 own1 g1
  have hb1 : Below w.heap.size w w1 := grown_below g1 (Nat.le_refl _) (fun k hk => by cases hk)
  obtain ⟨cur, hcur, hcl⟩ : ∃ cur : List Value, w1.heap[w.heap.size]? = some (.cells cur.toArray 5 (0, 0)) ∧ cur.length = l.length := by
    rcases own1.2 with ⟨hv, _⟩ | ⟨g, cap, cur, hv, _, hh, _, _, hs, _⟩
    · cases hv
    · injection hv with e1 e2 e3
      injection e1 with e1
      injection e1 with e1
      subst e1 e3
      exact ⟨cur.toList, hh, by simpa using hs⟩
  have Hcur := Lib.hid hcur
  have Hcl := Lib.hid hcl
  have Own1 := Lib.hid own1
  have hz1' := hb1.size
  clear hcur hcl own1 g1
  have hwz : w.heap.size < w1.heap.size := by
    have h1 := Hcur.out
    rcases Nat.lt_or_ge w.heap.size w1.heap.size with hlt | hge
    · exact hlt
    · rw [Array.getElem?_eq_none hge] at h1; cases h1
  go_wp2_with (with_reducible refine stop_copy (.tmp 7) (.tmp 8) _ _ rfl ?_)
  have hsrc := Src.of_in bc_len (by omega) (H.out.below hb1)
  have hfl := flat_length bc_len l
  refine Stop.mk (wpList_copy_splice rfl (.tmp 7) (.tmp 8) _ _ rfl 5 Tryd.underlying22 (by kernel_rfl) _ _ _ _ _ _ rfl rfl w.heap.size 0 cur 5 Hcur.out (l.flatMap bc) (by simp [hfl]) ?_ (by have := Hcl.out; omega) (bc_one l) w.heap.size w hb1 (Nat.le_refl _) ?_)
  · intro hpos
    obtain ⟨ad, h1, h2⟩ := hsrc.2 (by omega)
    exact ⟨rfl, ad, h1, h2⟩
  intro w2 hg2 hb2
  have hrow2 : Row 1 bc w2 w.heap.size 0 l := by
    have := hg2.out
    rw [splice_all Hcl.out] at this
    exact Row.of_heap this
  have hwz2 : w.heap.size < w2.heap.size := by
    have h1 := hg2.out
    rcases Nat.lt_or_ge w.heap.size w2.heap.size with hlt | hge
    · exact hlt
    · rw [Array.getElem?_eq_none hge] at h1; cases h1
  have Hrow2 := Lib.hid hrow2
  clear hrow2 hsrc hfl
  go_wp2_with (fail)
  go_ret
  refine ⟨w2.heap.size, rfl, by omega, ?_, (by repeat (first | exact Below.refl _ _ | refine Below.drew ?_ | refine Below.alloc ?_ (by first | omega | (simp; done) | (simp; omega)) _ | refine Below.setCell ?_ (by first | omega | (simp; done) | (simp; omega)) _ | refine Below.trans ?_ (Below.mono (by assumption) (by first | omega | (simp; done) | (simp; omega)))))⟩
  refine RdP.mk (A := some ⟨w.heap.size, 0, none⟩) (c := l.length) (B := l) (pos := 0) ⟨Blk.new _ _ _, by omega, Nat.le_refl _, by omega, hS, .inr ⟨_, _, rfl, hwz2, ?_⟩⟩ rfl
  exact Hrow2.out.below ((Below.refl _ _).alloc (Nat.le_refl _) _) hwz2
end Go.Proofs.YtldoedmclfbgpaaDoor
