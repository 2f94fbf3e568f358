/-
  Lemmas (walks and plain laws), in one text.
-/
import Derived.Test.YtjhndilflcigiaaPc2
import Derived.Test.YtjhndilflcigiaaRows
import Derived.WalkKit
import Derived.WalkSpells
import Derived.WalkLawsBesides
import Derived.Lib.Hide
import Derived.Deep.QuietTactic
import Derived.BigQuiet
import Derived.Maps.AppendAt
import Derived.WalkSmall
import Derived.ProofKit
import Derived.OpenShut
import Derived.JoinedCond
import Derived.Deep.Slices
import Derived.Deep.Fields
import Derived.Carry
import Derived.Test.YtjhndilflcigiaaProg
import Derived.Deep.CutBlock
import Derived.Deep.DeepCutAuto
import Derived.Deep.AppendSrc
import Derived.Lib.AppendStr
import Derived.Laws.BytesArg
import Derived.Laws.CopyOwn
import Derived.Outline
import Derived.IntWalk
import Derived.Lib.EndianBits
import Derived.Laws.Tables
import Derived.Laws.Rows
import Derived.Shelf.Spec.TrailingZeros
import Derived.StillTail
import Derived.Lib.AppendZeros
import Derived.Deep.Quiet
import Derived.ChangeKeysEq
import Derived.Laws.StructEq
import Derived.Laws.LoneSync
namespace Go.Proofs.Ytjhndilflcigiaa
open Go.RowKit

theorem endAt_hid (l : List Node) (i : Nat) : Hid (endFrom (l.drop (i + 0)) 1 (i + 0) = endAt l i) := (endAt_nat l i).symm

set_option maxHeartbeats 400000 in
theorem c_pred_End (l : List Node) (A : Option Addr) (c : Nat) (i : Int) (w : World) (h : InN w A c l) :
    Calls Try.prog 96 #[.slice A l.length c, .int .i64 i] w (RetV w (.int .i64 (endAt l i))) := by
  have hL := h.1
  have hC := h.2.1
  have hS := h.2.2.1
  by_cases h1 : i < 0
  · have H := Lib.hid (endAt_neg (l := l) h1)
    go_enter Try.func96, Try.ntmps96
    go_wp2
    go_ret
    exact RetV.int H.out.symm (Below.refl _ _)
  by_cases h2 : l.length ≤ i
  · have H := Lib.hid (endAt_past h2)
    go_enter Try.func96, Try.ntmps96
    go_wp2
    go_ret
    exact RetV.int H.out.symm (Below.refl _ _)
  obtain ⟨a, rfl⟩ : ∃ a : Nat, i = a := ⟨i.toNat, by omega⟩
  obtain ⟨b, off, rfl, hb, hrow⟩ := h.at (i := a) (by omega)
  clear h
  go_enter Try.func96, Try.ntmps96
  go_wp2
  go_loopw [5, 20] (fun need i wr => ∃ k : Nat, ∃ nd : Int, a + k ≤ l.length ∧ 1 ≤ nd ∧ nd ≤ 2 * k + 1 ∧ need = .int .i64 nd ∧ i = .int .i64 k ∧ Hid (endFrom (l.drop (a + k)) nd (a + k) = endAt l a) ∧ Below w.heap.size w wr)
     (fun _ i _ => l.length - (intOf i).toNat)
  case atStart => exact ⟨0, 1, by omega, by omega, by omega, rfl, rfl, endAt_hid l a, Below.refl _ _⟩
  case round =>
    obtain ⟨k, nd, hk, hnd1, hnd2, rfl, rfl, H, hbl⟩ := hrel
    by_cases hlt : a + k < l.length
    · obtain ⟨e0, e1, e2, e3, e4⟩ := (hrow.below hbl hb).node hlt (o := off + a * 5 + k * 5) (by omega)
      have hf := H.out
      rw [endFrom_at l (a + k) hlt] at hf
      obtain ⟨p, hp⟩ : ∃ p, parts l[a + k].op = p := ⟨_, rfl⟩
      have hpb := parts_bd l[a + k].op
      have Hp := Lib.hid hp
      rw [hp] at hf hpb
      have hpb1 := hpb.1
      have hpb2 := hpb.2
      have HF := Lib.hid hf
      have hbz := hbl.size
      clear hf hp hpb H
      by_cases hz : nd + (p - 1) = 0
      · go_wp2_with (go_at_call 129; refine (c_pred_Parts _ _).mono ?_; rintro e w1 ⟨rfl, hb1⟩; rw [Hp.out])
        go_ret
        refine RetV.int ?_ (by repeat (first | exact Below.refl _ _ | refine Below.drew ?_ | refine Below.alloc ?_ (by first | omega | (simp; done) | (simp; omega)) _ | refine Below.setCell ?_ (by first | omega | (simp; done) | (simp; omega)) _ | refine Below.trans ?_ (Below.mono (by assumption) (by first | omega | (simp; done) | (simp; omega)))))
        have hf := HF.out
        rw [if_pos hz] at hf
        rw [← hf]
        simp
      · go_wp2_with (go_at_call 129; refine (c_pred_Parts _ _).mono ?_; rintro e w1 ⟨rfl, hb1⟩; rw [Hp.out])
        go_roundw
        case rel =>
          refine ⟨k + 1, nd + (p - 1), by omega, by omega, by omega, rfl, by go_num, ?_, (by repeat (first | exact Below.refl _ _ | refine Below.drew ?_ | refine Below.alloc ?_ (by first | omega | (simp; done) | (simp; omega)) _ | refine Below.setCell ?_ (by first | omega | (simp; done) | (simp; omega)) _ | refine Below.trans ?_ (Below.mono (by assumption) (by first | omega | (simp; done) | (simp; omega)))))⟩
          have hf := HF.out
          rw [if_neg hz] at hf
          exact hf
        case measure => simp [intOf]; omega
    · go_wp2_with fail
      go_ret
      refine RetV.int ?_ hbl
      have := H.out
      rw [List.drop_of_length_le (by omega)] at this
      exact this
set_option maxHeartbeats 400000 in
theorem c_ref10_End (l : List Node) (A : Option Addr) (c : Nat) (i : Int) (w : World) (h : InN w A c l) :
    Calls Try.prog 103 #[.slice A l.length c, .int .i64 i] w (RetV w (.int .i64 (endAt l i))) := by
  have hL := h.1
  have hC := h.2.1
  have hS := h.2.2.1
  by_cases h1 : i < 0
  · have H := Lib.hid (endAt_neg (l := l) h1)
    go_enter Try.func103, Try.ntmps103
    go_wp2
    go_ret
    exact RetV.int H.out.symm (Below.refl _ _)
  by_cases h2 : l.length ≤ i
  · have H := Lib.hid (endAt_past h2)
    go_enter Try.func103, Try.ntmps103
    go_wp2_with fail
    refine wp_loop_rounds 1 ?_
    rw [rounds_succ]
    go_wp2_with fail
    go_ret
    exact RetV.int H.out.symm (Below.refl _ _)
  obtain ⟨a, rfl⟩ : ∃ a : Nat, i = a := ⟨i.toNat, by omega⟩
  obtain ⟨b, off, rfl, hb, hrow⟩ := h.at (i := a) (by omega)
  clear h
  go_enter Try.func103, Try.ntmps103
  go_wp2_with (fail)
  go_loopw [1, 5] (fun i need wr => ∃ k : Nat, ∃ nd : Int, a + k ≤ l.length ∧ 0 ≤ nd ∧ nd ≤ 2 * k + 1 ∧ (nd = 0 → 1 ≤ k) ∧ need = .int .i64 nd ∧ i = .int .i64 (a + k : Nat) ∧ Hid ((nd = 0 → ((a + k : Nat) : Int) = endAt l a) ∧ (nd ≠ 0 → endFrom (l.drop (a + k)) nd (a + k) = endAt l a)) ∧ Below w.heap.size w wr)
     (fun i _ _ => l.length - (intOf i).toNat)
  case atStart => exact ⟨0, 1, by omega, by omega, by omega, by omega, rfl, rfl, ⟨by omega, fun _ => endAt_hid l a⟩, Below.refl _ _⟩
  case round =>
    obtain ⟨k, nd, hk, hnd1, hnd2, hnd3, rfl, rfl, H, hbl⟩ := hrel
    have hbz := hbl.size
    by_cases hz : nd = 0
    · have H1 := Lib.hid (H.out.1 hz)
      clear H
      subst hz
      go_wp2_with (fail)
      all_goals (go_ret; exact RetV.int H1.out hbl)
    have hnd4 : 1 ≤ nd := by omega
    have hf := H.out.2 hz
    clear H
    by_cases hlt : a + k < l.length
    · obtain ⟨e0, e1, e2, e3, e4⟩ := (hrow.below hbl hb).node hlt (o := off + (a + k) * 5) (by omega)
      rw [endFrom_at l (a + k) hlt] at hf
      obtain ⟨p, hp⟩ : ∃ p, parts l[a + k].op = p := ⟨_, rfl⟩
      have hpb := parts_bd l[a + k].op
      have Hp := Lib.hid hp
      rw [hp] at hf hpb
      have hpb1 := hpb.1
      have hpb2 := hpb.2
      have HF := Lib.hid hf
      clear hf hp hpb
      go_wp2_with (go_at_call 131; refine (c_ref10_Parts _ _).mono ?_; rintro e w1 ⟨rfl, hb1⟩; rw [Hp.out])
      go_roundw
      case rel =>
        refine ⟨k + 1, nd - 1 + p, by omega, by omega, by omega, by omega, rfl, by go_num, ?_, (by repeat (first | exact Below.refl _ _ | refine Below.drew ?_ | refine Below.alloc ?_ (by first | omega | (simp; done) | (simp; omega)) _ | refine Below.setCell ?_ (by first | omega | (simp; done) | (simp; omega)) _ | refine Below.trans ?_ (Below.mono (by assumption) (by first | omega | (simp; done) | (simp; omega)))))⟩
        have hf := HF.out
        rw [show nd + (p - 1) = nd - 1 + p by omega] at hf
        refine ⟨fun e => ?_, fun e => ?_⟩
        · rw [if_pos e] at hf; rw [← hf]; omega
        · rw [if_neg e] at hf; exact hf
      case measure => simp [intOf]; omega
    · rw [List.drop_of_length_le (by omega)] at hf
      have HF := Lib.hid hf
      clear hf
      go_wp2_with fail
      go_ret
      exact RetV.int HF.out hbl
set_option maxHeartbeats 400000 in
theorem c_law10_Large_long (n : Nat) (A : Option Addr) (c : Nat) (w : World) (hn : 100 < n) (_hL : n ≤ c) (_hC : c ≤ 9223372036854775807) :
    Calls Try.prog 16 #[.slice A n c] w (RetV w (.bool true)) := by
  go_enter Try.func16, Try.ntmps16
  go_wp2
  go_ret
  exact RetV.bool rfl (Below.refl _ _)
set_option maxHeartbeats 400000 in
theorem c_law10_Large (l : List Node) (A : Option Addr) (c : Nat) (w : World) (h : InN w A c l) (hs : ∀ x ∈ l, x.v.s.length ≤ 9223372036854775807) :
    Calls Try.prog 16 #[.slice A l.length c] w (RetV w (.bool (large l))) := by
  have hL := h.1
  have hC := h.2.1
  have hS := h.2.2.1
  by_cases h1 : 100 < l.length
  · have H : Hid (large l = true) := by unfold Hid large; simp [h1]
    go_enter Try.func16, Try.ntmps16
    go_wp2
    go_ret
    exact RetV.bool H.out.symm (Below.refl _ _)
  have HL : Hid (large l = l.any fun x => decide (200 < x.v.s.length)) := by unfold Hid large; simp [h1]
  go_enter Try.func16, Try.ntmps16
  go_wp2
  go_loop [3] (fun i => ∃ k : Nat, k ≤ l.length ∧ i = .int .i64 k ∧ Hid ((l.take k).any (fun x => decide (200 < x.v.s.length)) = false)) (fun i => l.length - (intOf i).toNat)
  case atStart => exact ⟨0, by omega, rfl, by simp [Hid]⟩
  case round =>
    obtain ⟨k, hk, rfl, H⟩ := hrel
    by_cases hlt : k < l.length
    · obtain ⟨b, off, rfl, hb, hrow⟩ := h.at hlt
      obtain ⟨e0, e1, e2, e3, e4⟩ := hrow.node hlt rfl
      have hs1 := hs l[k] (List.getElem_mem hlt)
      clear h hs
      go_wp2
      · go_ret
        refine RetV.bool ?_ (Below.refl _ _)
        rw [HL.out]
        symm
        rw [List.any_eq_true]
        exact ⟨l[k], List.getElem_mem hlt, by simp; omega⟩
      · go_round
        case rel =>
          refine ⟨k + 1, by omega, by go_num, ?_⟩
          show List.any _ _ = false
          rw [List.take_succ_eq_append_getElem hlt, List.any_append, H.out]
          simp_all; omega
        case measure => simp [intOf]; omega
    · go_wp2
      go_ret
      refine RetV.bool ?_ (Below.refl _ _)
      rw [HL.out, ← H.out, List.take_of_length_le (by omega)]
end Go.Proofs.Ytjhndilflcigiaa
namespace Go.Proofs.Ytjhndilflcigiaa

/-- l begins with n trees, r stands behind them; d: how deep the deepest is. -/
inductive Trees : Nat → List Node → List Node → Nat → Prop
  | nil (l : List Node) : Trees 0 l l 0
  | cons {x : Node} {l m r : List Node} {n d1 d2 : Nat} : Trees (parts x.op).toNat l m d1 → Trees n m r d2 → Trees (n + 1) (x :: l) r (max (d1 + 1) d2)

theorem parts_toNat (op : Int) : ((parts op).toNat : Int) = parts op := by have := parts_bd op; omega
theorem Trees.length {n : Nat} {l r : List Node} {d : Nat} (h : Trees n l r d) : r.length + n ≤ l.length := by
  induction h with
  | nil l => simp
  | cons _ _ h1 h2 => simp only [List.length_cons]; omega
theorem Trees.zero {l r : List Node} {d : Nat} (h : Trees 0 l r d) : l = r ∧ d = 0 := by cases h; exact ⟨rfl, rfl⟩
theorem Trees.depth_pos {n : Nat} {l r : List Node} {d : Nat} (h : Trees n l r d) : n = 0 ∨ 1 ≤ d := by
  cases h with
  | nil l => exact .inl rfl
  | cons _ _ => right; omega
theorem Trees.append {n k : Nat} {l m r : List Node} {d1 d2 : Nat} (h : Trees n l m d1) : Trees k m r d2 → Trees (n + k) l r (max d1 d2) := by
  induction h generalizing k r d2 with
  | nil l => intro h; simpa using h
  | cons t1 _ _ ih2 =>
    intro h
    have := Trees.cons t1 (ih2 h)
    rw [← Nat.max_assoc] at this
    rw [Nat.add_right_comm]
    exact this
theorem Trees.split {k : Nat} : ∀ {n : Nat} {l r : List Node} {d : Nat}, Trees (n + k) l r d → ∃ m d1 d2, Trees n l m d1 ∧ Trees k m r d2 ∧ d = max d1 d2
  | 0, l, r, d, h => ⟨l, 0, d, .nil l, by simpa using h, by simp⟩
  | n + 1, l, r, d, h => by
    rw [Nat.add_right_comm] at h
    cases h with
    | cons t1 t2 =>
      obtain ⟨m, e1, e2, h1, h2, rfl⟩ := Trees.split t2
      exact ⟨m, _, e2, .cons t1 h1, h2, (Nat.max_assoc ..).symm⟩
/-- What stands behind does not matter. -/
theorem Trees.behind {n : Nat} {l r : List Node} {d : Nat} (h : Trees n l r d) : ∃ p, l = p ++ r ∧ ∀ q, Trees n (p ++ q) q d := by
  induction h with
  | nil l => exact ⟨[], rfl, fun q => .nil q⟩
  | @cons x l m r n d1 d2 _ _ h1 h2 =>
    obtain ⟨p1, rfl, g1⟩ := h1
    obtain ⟨p2, rfl, g2⟩ := h2
    exact ⟨x :: (p1 ++ p2), by simp, fun q => by
      have := Trees.cons (x := x) (g1 (p2 ++ q)) (g2 q)
      simpa using this⟩
theorem endFrom_pass {n : Nat} {l r : List Node} {d : Nat} (h : Trees n l r d) : ∀ (k i : Nat), 1 ≤ k → endFrom l ((n + k : Nat) : Int) i = endFrom r k (i + (l.length - r.length)) := by
  induction h with
  | nil l => intro k i hk; simp
  | @cons x l m r n d1 d2 t1 t2 h1 h2 =>
    intro k i hk
    have hl1 := t1.length
    have hl2 := t2.length
    have hp := parts_toNat x.op
    show (if ((n + 1 + k : Nat) : Int) + (parts x.op - 1) = 0 then _ else _) = _
    rw [if_neg (by omega), show ((n + 1 + k : Nat) : Int) + (parts x.op - 1) = (((parts x.op).toNat + (n + k) : Nat) : Int) by omega, h1 (n + k) (i + 1) (by omega), h2 k _ hk]
    congr 1
    simp only [List.length_cons]; omega
theorem endFrom_trees {n : Nat} {l r : List Node} {d : Nat} (h : Trees n l r d) : ∀ (i : Nat), 1 ≤ n → endFrom l (n : Int) i = ((i + (l.length - r.length) : Nat) : Int) := by
  induction h with
  | nil l => intro i hk; omega
  | @cons x l m r n d1 d2 t1 t2 h1 h2 =>
    intro i _
    have hl1 := t1.length
    have hl2 := t2.length
    have hp := parts_toNat x.op
    show (if ((n + 1 : Nat) : Int) + (parts x.op - 1) = 0 then _ else _) = _
    by_cases hz : ((n + 1 : Nat) : Int) + (parts x.op - 1) = 0
    · rw [if_pos hz]
      have hn : n = 0 := by omega
      have hp0 : (parts x.op).toNat = 0 := by omega
      subst hn
      rw [hp0] at t1
      obtain ⟨rfl, _⟩ := t1.zero
      obtain ⟨rfl, _⟩ := t2.zero
      simp only [List.length_cons]; omega
    · rw [if_neg hz]
      rcases Nat.eq_zero_or_pos n with rfl | hn
      · obtain ⟨rfl, _⟩ := t2.zero
        rw [show ((0 + 1 : Nat) : Int) + (parts x.op - 1) = (((parts x.op).toNat : Nat) : Int) by omega, h1 (i + 1) (by omega)]
        simp only [List.length_cons]; omega
      · rw [show ((n + 1 : Nat) : Int) + (parts x.op - 1) = (((parts x.op).toNat + n : Nat) : Int) by omega, endFrom_pass t1 n (i + 1) hn, h2 _ hn]
        simp only [List.length_cons]; omega
theorem trees_of_end : ∀ (l : List Node) (n i : Nat) (e : Int), 1 ≤ n → endFrom l (n : Int) i = e → e ≠ -1 → ∃ r d, Trees n l r d
  | [], n, i, e, _, h, he => absurd h.symm he
  | x :: l, n, i, e, hn, h, he => by
    have hp := parts_toNat x.op
    have hpb := parts_bd x.op
    have h' : (if (n : Int) + (parts x.op - 1) = 0 then (i : Int) + 1 else endFrom l (n + (parts x.op - 1)) (i + 1)) = e := h
    obtain ⟨n, rfl⟩ : ∃ m, n = m + 1 := ⟨n - 1, by omega⟩
    by_cases hz : ((n + 1 : Nat) : Int) + (parts x.op - 1) = 0
    · have hn : n = 0 := by omega
      have hp0 : (parts x.op).toNat = 0 := by omega
      subst hn
      exact ⟨l, _, .cons (by rw [hp0]; exact .nil l) (.nil l)⟩
    · rw [if_neg hz, show ((n + 1 : Nat) : Int) + (parts x.op - 1) = (((parts x.op).toNat + n : Nat) : Int) by omega] at h'
      obtain ⟨r, d, ht⟩ := trees_of_end l _ (i + 1) e (by omega) h' he
      obtain ⟨m, d1, d2, t1, t2, rfl⟩ := ht.split
      exact ⟨r, _, .cons t1 t2⟩
/-- A list that is one tree. -/
def Tree (l : List Node) (d : Nat) : Prop := Trees 1 l [] d
theorem Tree.ne {l : List Node} {d : Nat} (h : Tree l d) : 1 ≤ l.length := by have := Trees.length h; simpa using this
theorem Tree.pos {l : List Node} {d : Nat} (h : Tree l d) : 1 ≤ d := (Trees.depth_pos h).resolve_left (by omega)
theorem endAt_tree {l : List Node} {d : Nat} (h : Tree l d) : endAt l 0 = l.length := by
  have := endFrom_trees h 0 (Nat.le_refl _)
  rw [show (0 : Int) = ((0 : Nat) : Int) from rfl, endAt_nat]
  simpa using this
theorem tree_of_end {l : List Node} (_hl : l ≠ []) (h : endAt l 0 = l.length) : ∃ d, Tree l d := by
  rw [show (0 : Int) = ((0 : Nat) : Int) from rfl, endAt_nat] at h
  obtain ⟨r, d, ht⟩ := trees_of_end _ 1 0 _ (Nat.le_refl _) h (by omega)
  simp only [List.drop_zero] at ht h
  have := endFrom_trees ht 0 (Nat.le_refl _)
  have h1 : endFrom l (1 : Int) 0 = l.length := h
  have h2 : endFrom l (1 : Int) 0 = ((0 + (l.length - r.length) : Nat) : Int) := this
  have hlen := ht.length
  have hr : r.length = 0 := by omega
  rw [List.eq_nil_of_length_eq_zero hr] at ht
  exact ⟨d, ht⟩
theorem Tree.head {l : List Node} {d : Nat} (h : Tree l d) : ∃ x r d', l = x :: r ∧ Trees (parts x.op).toNat r [] d' ∧ d = d' + 1 := by
  unfold Tree at h
  cases h with
  | cons t1 t2 =>
    obtain ⟨rfl, rfl⟩ := t2.zero
    exact ⟨_, _, _, rfl, t1, by omega⟩
/-! What trees are cut into. -/
def cut : Nat → List Node → List (List Node)
  | 0, _ => []
  | n + 1, l => l.take (endFrom l 1 0).toNat :: cut n (l.drop (endFrom l 1 0).toNat)
theorem cut_trees : ∀ {n : Nat} {l r : List Node} {d : Nat}, Trees n l r d → (cut n l).length = n ∧ l = (cut n l).flatten ++ r ∧ (∀ k ∈ cut n l, ∃ dk, Tree k dk ∧ dk ≤ d)
  | 0, l, r, d, h => by obtain ⟨rfl, _⟩ := h.zero; simp [cut]
  | n + 1, l, r, d, h => by
    rw [Nat.add_comm] at h
    obtain ⟨m, d1, d2, t1, t2, rfl⟩ := h.split
    have he := endFrom_trees t1 0 (Nat.le_refl _)
    obtain ⟨p, rfl, hp⟩ := t1.behind
    have he' : endFrom (p ++ m) 1 0 = (p.length : Int) := by
      have : ((1 : Nat) : Int) = 1 := rfl
      rw [this] at he
      rw [he]; simp
    obtain ⟨g1, g2, g3⟩ := cut_trees t2
    have hc : cut (n + 1) (p ++ m) = p :: cut n m := by simp [cut, he']
    rw [hc]
    refine ⟨by simp [g1], by rw [List.flatten_cons, List.append_assoc, ← g2], fun k hk => ?_⟩
    rcases List.mem_cons.1 hk with rfl | hk
    · exact ⟨d1, by have := hp []; simpa [Tree] using this, by omega⟩
    · obtain ⟨dk, h1, h2⟩ := g3 k hk
      exact ⟨dk, h1, by omega⟩

/-- One tree more is cut off at a place. -/
theorem cut_step {l : List Node} {n i : Nat} {r : List Node} {d : Nat} (h : Trees (n + 1) (l.drop i) r d) :
    ∃ s d1 d2, 1 ≤ s ∧ i + s ≤ l.length ∧ endAt l i = ((i + s : Nat) : Int) ∧ cut (n + 1) (l.drop i) = (l.drop i).take s :: cut n (l.drop (i + s)) ∧ Trees n (l.drop (i + s)) r d1 ∧ Tree ((l.drop i).take s) d2 := by
  rw [Nat.add_comm] at h
  obtain ⟨m, d1, d2, t1, t2, rfl⟩ := h.split
  have he0 := endFrom_trees t1 0 (Nat.le_refl _)
  have hei := endFrom_trees t1 i (Nat.le_refl _)
  obtain ⟨p, hp, hpq⟩ := t1.behind
  have hlen := t1.length
  have hpl : (l.drop i).length = p.length + m.length := by rw [hp]; simp
  have hs : (endFrom (l.drop i) 1 0).toNat = p.length := by
    have : ((1 : Nat) : Int) = 1 := rfl
    rw [this] at he0
    rw [he0]; omega
  have hd : (l.drop i).drop p.length = m := by rw [hp]; simp
  have ht : (l.drop i).take p.length = p := by rw [hp]; simp
  rw [List.length_drop] at hpl hlen
  refine ⟨p.length, d2, d1, by omega, by omega, ?_, ?_, ?_, ?_⟩
  · rw [endAt_nat]
    have : ((1 : Nat) : Int) = 1 := rfl
    rw [this] at hei
    rw [hei, List.length_drop]; omega
  · simp only [cut, hs]
    rw [List.drop_drop]
  · rw [← List.drop_drop, hd]; exact t2
  · rw [ht]; have := hpq []; simpa [Tree] using this
/-! How deep: by the places that are open. -/
def dec : List Int → List Int
  | [] => []
  | x :: s => if x - 1 = 0 then dec s else (x - 1) :: s
def push (p : Int) (s : List Int) : List Int := if p = 0 then dec s else p :: s
def norm : List Int → List Int
  | [] => []
  | x :: s => if x = 0 then dec s else x :: s
theorem norm_zero (s : List Int) : norm (0 :: s) = dec s := by simp [norm]
theorem dec_norm (y : Int) (s : List Int) : dec (y :: s) = norm ((y - 1) :: s) := rfl
theorem norm_keep {x : Int} {s : List Int} (h : x ≠ 0) : norm (x :: s) = x :: s := by simp [norm, h]
def deepFold : List Node → List Int → Int → Int
  | [], _, d => d
  | x :: r, s, d => deepFold r (push (parts x.op) s) (max d (s.length + 1))
theorem deepFold_trees {n : Nat} {l r : List Node} {d : Nat} (h : Trees n l r d) : ∀ (t : Int) (s : List Int) (deep : Int), 0 ≤ deep → (n : Int) ≤ t → 1 ≤ t →
    deepFold l (t :: s) deep = deepFold r (if n = 0 then t :: s else push (t - n) s) (if n = 0 then deep else max deep ((s.length : Int) + 1 + d)) := by
  induction h with
  | nil l => intro t s deep _ _ _; simp
  | @cons x l m r n d1 d2 t1 t2 h1 h2 =>
    intro t s deep hd ht ht1
    have hp := parts_toNat x.op
    have hnext : deepFold (x :: l) (t :: s) deep = deepFold m (push (t - 1) s) (max deep ((s.length : Int) + 1 + (d1 + 1 : Nat))) := by
      show deepFold l (push (parts x.op) (t :: s)) (max deep (((t :: s).length : Int) + 1)) = _
      rw [← hp]
      rcases Nat.eq_zero_or_pos (parts x.op).toNat with h0 | h0
      · rw [h0] at t1
        obtain ⟨rfl, rfl⟩ := t1.zero
        rw [h0]
        simp only [push, dec, List.length_cons]
        congr 1
      · have e1 : push (((parts x.op).toNat : Nat) : Int) (t :: s) = ((parts x.op).toNat : Int) :: t :: s := by unfold push; rw [if_neg (by omega)]
        rw [e1, h1 _ (t :: s) _ (by omega) (Int.le_refl _) (by omega), if_neg (by omega), if_neg (by omega)]
        have e2 : push (((parts x.op).toNat : Int) - ((parts x.op).toNat : Nat)) (t :: s) = push (t - 1) s := by
          rw [Int.sub_self]; simp only [push, dec, if_true]
        rw [e2]
        congr 1
        simp only [List.length_cons]; omega
    rw [hnext]
    rcases Nat.eq_zero_or_pos n with rfl | hn
    · obtain ⟨rfl, rfl⟩ := t2.zero
      rw [if_neg (by omega), if_neg (by omega)]
      first | rfl | (congr 1; done) | (congr 1; omega)
    · have e1 : push (t - 1) s = (t - 1) :: s := by unfold push; rw [if_neg (by omega)]
      rw [e1, h2 (t - 1) s _ (by omega) (by omega) (by omega), if_neg (by omega), if_neg (by omega), if_neg (by omega), if_neg (by omega)]
      have e2 : t - 1 - (n : Int) = t - ((n + 1 : Nat) : Int) := by omega
      rw [e2]
      congr 1
      omega
theorem deepFold_tree {l : List Node} {d : Nat} (h : Tree l d) : deepFold l [] 0 = d := by
  obtain ⟨x, r, d', rfl, t, rfl⟩ := h.head
  have hp := parts_toNat x.op
  show deepFold r (push (parts x.op) []) (max 0 ((([] : List Int).length : Int) + 1)) = _
  rw [← hp]
  rcases Nat.eq_zero_or_pos (parts x.op).toNat with h0 | h0
  · rw [h0] at t
    obtain ⟨rfl, rfl⟩ := t.zero
    simp only [deepFold, List.length_nil]; omega
  · have e1 : push (((parts x.op).toNat : Nat) : Int) [] = [((parts x.op).toNat : Int)] := by unfold push; rw [if_neg (by omega)]
    rw [e1, deepFold_trees t _ [] _ (by omega) (Int.le_refl _) (by omega)]
    simp only [deepFold, if_neg (show ¬ (parts x.op).toNat = 0 by omega), List.length_nil]
    omega
/-- How deep a filter is; 0 where it is none. -/
def depth (l : List Node) : Int := if l = [] ∨ endAt l 0 ≠ l.length then 0 else deepFold l [] 0
theorem depth_tree {l : List Node} {d : Nat} (h : Tree l d) : depth l = d := by
  unfold depth
  rw [if_neg (by
    rintro (rfl | h1)
    · have := h.ne; simp at this
    · exact h1 (endAt_tree h)), deepFold_tree h]
theorem depth_cut {n : Nat} {l r : List Node} {d : Nat} (h : Trees n l r d) : ∀ a : Int, 0 ≤ a → ((cut n l).map depth).foldl max a = max a d := by
  induction n generalizing l d with
  | zero => intro a ha; obtain ⟨rfl, rfl⟩ := h.zero; simp [cut]; omega
  | succ n ih =>
    intro a ha
    rw [Nat.add_comm] at h
    obtain ⟨m, d1, d2, t1, t2, rfl⟩ := h.split
    have he := endFrom_trees t1 0 (Nat.le_refl _)
    obtain ⟨p, rfl, hp⟩ := t1.behind
    have he' : endFrom (p ++ m) 1 0 = (p.length : Int) := by
      have : ((1 : Nat) : Int) = 1 := rfl
      rw [this] at he
      rw [he]; simp
    have hc : cut (n + 1) (p ++ m) = p :: cut n m := by simp [cut, he']
    have hd : depth p = d1 := depth_tree (by have := hp []; simpa [Tree] using this)
    rw [hc, List.map_cons, List.foldl_cons, hd, ih t2 _ (by omega)]
    omega
theorem flatten_len {α : Type} : ∀ (ks : List (List α)) (k : List α), k ∈ ks → k.length ≤ ks.flatten.length
  | [], _, h => by cases h
  | x :: r, k, h => by
    rw [List.flatten_cons, List.length_append]
    rcases List.mem_cons.1 h with rfl | h
    · omega
    · have := flatten_len r k h; omega
/-- What is wrong with a filter: 4 too long, 1 none, 5 too deep. -/
def check (l : List Node) : Int :=
  if 31 < l.length then 4 else if l.length = 0 ∨ endAt l 0 ≠ l.length then 1 else if (l.any fun x => !x.ok) = true then 1 else if 8 < depth l then 5 else 0
theorem depth_bd (l : List Node) : 0 ≤ depth l ∧ depth l ≤ l.length := by
  unfold depth
  by_cases h : l = [] ∨ endAt l 0 ≠ l.length
  · rw [if_pos h]; omega
  · rw [if_neg h]
    have h1 : l ≠ [] := fun e => h (.inl e)
    have h2 : endAt l 0 = l.length := Decidable.byContradiction fun e => h (.inr e)
    obtain ⟨d, ht⟩ := tree_of_end h1 h2
    rw [deepFold_tree ht]
    have key : ∀ {n : Nat} {l r : List Node} {d : Nat}, Trees n l r d → d + r.length ≤ l.length := by
      intro n l r d h
      induction h with
      | nil l => simp
      | @cons x l m r n d1 d2 t1 t2 h1 h2 =>
        have := t1.length
        have := t2.length
        simp only [List.length_cons]; omega
    have := key ht
    simp at this
    omega
def firstBad : List Node → Nat → Int
  | [], _ => -1
  | x :: r, i => if x.ok = true then firstBad r (i + 1) else i
theorem firstBad_any : ∀ (l : List Node) (i : Nat), decide (0 ≤ firstBad l i) = l.any fun x => !x.ok
  | [], i => rfl
  | x :: r, i => by
    unfold firstBad
    cases hx : x.ok
    · simp [hx]
    · simp [hx, firstBad_any r (i + 1)]
theorem firstBad_at (l : List Node) (k : Nat) (h : k < l.length) : firstBad (l.drop k) k = if (l[k]).ok = true then firstBad (l.drop (k+1)) (k+1) else (k : Int) := by
  rw [List.drop_eq_getElem_cons h]; rfl
end Go.Proofs.Ytjhndilflcigiaa
