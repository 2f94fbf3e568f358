/-
  The walk of value.unquote: what stands in quotes.
-/
import Derived.Test.YtfgjhgecmelccaaLw5
import Derived.WalkKit
import Derived.WalkSpells
import Derived.WalkLawsBesides
import Derived.Lib.Hide
import Derived.Deep.QuietTactic
import Derived.BigQuiet
import Derived.Maps.AppendAt
import Derived.WalkSmall
import Derived.StillTail
import Derived.RangeFuncNested
import Derived.RangeFuncCalls
import Derived.OrdersIn
import Derived.ControlIn
import Derived.Test.YtfgjhgecmelccaaProg
import Derived.Deep.CutBlock
import Derived.Deep.DeepCutAuto
import Derived.Deep.AppendSrc
import Derived.Lib.AppendStr
import Derived.Laws.BytesArg
import Derived.WalkMore
import Derived.ScopeJumps
import Derived.Lib.Bytealg
import Derived.Laws.Externs
import Derived.Laws.IdiomStrings
import Derived.Outline
import Derived.IntWalk
import Derived.Laws.Tables
import Derived.Laws.Rows
import Derived.ChangeKeysEq
import Derived.Laws.StructEq
import Derived.RangeFuncBound
import Derived.RangeFuncLeaves
import Derived.OwnWalkIn
import Derived.LoopIn
import Derived.Shelf.Abstract
import Derived.Test.YtfgjhgecmelccaaRows
import Derived.ProofKit
import Derived.OpenShut
import Derived.JoinedCond
import Derived.Deep.Slices
import Derived.Deep.Fields
import Derived.Carry
namespace Go.Proofs.Ytfgjhgecmelccaa
open Go.RowKit

/-- How far a text in quotes has been read. -/
def UnqAt (s acc r : List UInt8) : Prop := unq s = (unq r).map (acc ++ ·) ∧ acc.length + r.length ≤ s.length
theorem UnqAt.start (s : List UInt8) : UnqAt s [] s := ⟨by simp, by simp⟩
theorem UnqAt.done {s acc : List UInt8} (h : UnqAt s acc []) : unq s = some acc := by rw [h.1, unq]; simp
theorem u8_eq {c d : UInt8} (h : c.toNat = d.toNat) : c = d := UInt8.toNat_inj.1 h
theorem uq_bad {c : UInt8} {r : List UInt8} (h : c.toNat < 32 ∨ 126 < c.toNat ∨ c.toNat = 34) : unq (c :: r) = none := by
  have h' : c.toNat < 32 ∨ 126 < c.toNat ∨ c = 34 := h.imp id (fun h => h.imp id (fun h => u8_eq h))
  cases r with
  | nil => rw [unq_one, if_pos (h'.elim .inl (fun h => .inr (h.elim .inl (fun h => .inr (.inl h)))))]
  | cons d s => rw [unq_two, if_pos h']
theorem uq_plain {c : UInt8} {r : List UInt8} (h1 : ¬ c.toNat < 32) (h2 : ¬ 126 < c.toNat) (h3 : c.toNat ≠ 34) (h4 : c.toNat ≠ 92) : unq (c :: r) = (unq r).map (c :: ·) :=
  unq_cons (fun h => h.elim h1 (fun h => h.elim h2 (fun e => h3 (by rw [e]; rfl)))) (fun e => h4 (by rw [e]; rfl)) r
theorem uq_esc {c d : UInt8} {s : List UInt8} (hc : c.toNat = 92) (h : d.toNat = 34 ∨ d.toNat = 92) : unq (c :: d :: s) = (unq s).map (d :: ·) := by
  rw [show c = 92 from u8_eq hc]
  exact unq_esc (h.imp (fun h => u8_eq h) (fun h => u8_eq h)) s
theorem uq_one {c : UInt8} (hc : c.toNat = 92) : unq [c] = none := by rw [show c = 92 from u8_eq hc]; decide
theorem uq_two {c d : UInt8} {s : List UInt8} (hc : c.toNat = 92) (h1 : d.toNat ≠ 34) (h2 : d.toNat ≠ 92) : unq (c :: d :: s) = match s with
    | a :: b :: r => if d ≠ 120 ∨ 15 < hexV a ∨ 15 < hexV b ∨ (32 ≤ 16 * hexV a + hexV b ∧ 16 * hexV a + hexV b ≤ 126) then none else (unq r).map (UInt8.ofNat (16 * hexV a + hexV b) :: ·)
    | _ => none := by
  have n34 : d ≠ 34 := fun e => h1 (by rw [e]; rfl)
  have n92 : d ≠ 92 := fun e => h2 (by rw [e]; rfl)
  rw [show c = 92 from u8_eq hc, unq_two, if_neg (by decide), if_neg (by simp), if_neg (fun h => h.elim n34 n92)]
  cases s with
  | nil => rfl
  | cons a s => cases s <;> rfl
theorem uq_hexbad {c d a b : UInt8} {s : List UInt8} (hc : c.toNat = 92) (h1 : d.toNat ≠ 34) (h2 : d.toNat ≠ 92) (h : d.toNat ≠ 120 ∨ 15 < hexV a ∨ 15 < hexV b ∨ (32 ≤ 16 * hexV a + hexV b ∧ 16 * hexV a + hexV b ≤ 126)) : unq (c :: d :: a :: b :: s) = none := by
  rw [uq_two hc h1 h2]
  simp only
  rw [if_pos (h.imp (fun h e => h (by rw [e]; rfl)) id)]
theorem uq_hexok {c d a b : UInt8} {s : List UInt8} (hc : c.toNat = 92) (h1 : d.toNat = 120) (h : ¬ (15 < hexV a ∨ 15 < hexV b ∨ (32 ≤ 16 * hexV a + hexV b ∧ 16 * hexV a + hexV b ≤ 126))) : unq (c :: d :: a :: b :: s) = (unq s).map (UInt8.ofNat (16 * hexV a + hexV b) :: ·) := by
  rw [uq_two hc (by omega) (by omega)]
  simp only
  rw [if_neg (fun h' => h'.elim (fun h' => h' (u8_eq h1)) h)]
theorem uq_short {c d : UInt8} {s : List UInt8} (hc : c.toNat = 92) (h1 : d.toNat ≠ 34) (h2 : d.toNat ≠ 92) (hs : s.length < 2) : unq (c :: d :: s) = none := by
  rw [uq_two hc h1 h2]
  match s, hs with
  | [], _ => rfl
  | [a], _ => rfl
theorem UnqAt.step {s acc r r2 : List UInt8} {c : UInt8} (h : UnqAt s acc r) (e : unq r = (unq r2).map (c :: ·)) (hl : r2.length < r.length) : UnqAt s (acc ++ [c]) r2 := by
  refine ⟨?_, by have := h.2; simp; omega⟩
  rw [h.1, e, Option.map_map]
  congr 1
  funext x
  simp
theorem UnqAt.bad {s acc r : List UInt8} (h : UnqAt s acc r) (e : unq r = none) : unq s = none := by rw [h.1, e]; rfl
theorem or_hex {x y : Nat} (hx : x ≤ 15) (hy : y ≤ 15) : bits BinOp.or IntKind.u8 (16 * (x : Int)) (y : Int) = ((16 * x + y : Nat) : Int) := by
  have : ∀ a : Fin 16, ∀ b : Fin 16, bits BinOp.or IntKind.u8 (16 * (a.val : Int)) (b.val : Int) = ((16 * a.val + b.val : Nat) : Int) := by decide +kernel
  exact this ⟨x, by omega⟩ ⟨y, by omega⟩
theorem hexV_le (c : UInt8) : hexV c ≤ 16 := by unfold hexV; split; omega; split <;> omega
def unqT (t : List UInt8) : Value := .tuple #[.string (str ((unquote t).getD [])), .bool (unquote t).isSome]
theorem unqT_none {t : List UInt8} (h : unquote t = none) : unqT t = .tuple #[.string (str []), .bool false] := by unfold unqT; rw [h]; rfl
theorem unqT_some {t u : List UInt8} (h : unquote t = some u) : unqT t = .tuple #[.string (str u), .bool true] := by unfold unqT; rw [h]; rfl
theorem unquote_in {t : List UInt8} {n : Nat} (hn : t.length = n + 1) (h1 : 1 ≤ n) (h0 : (t[0]'(by omega)).toNat = 34) (hl : (t[n]'(by omega)).toNat = 34) : unquote t = unq ((t.drop 1).take (n - 1)) := by
  unfold unquote
  have e0 : t.head? = some 34 := by
    rw [List.head?_eq_getElem?, List.getElem?_eq_getElem (by omega)]
    congr 1; exact u8_eq h0
  have el : t.getLast? = some 34 := by
    rw [List.getLast?_eq_getElem?, List.getElem?_eq_getElem (by omega)]
    congr 1; apply u8_eq
    have : t.length - 1 = n := by omega
    simp only [this]; exact hl
  rw [if_neg (by rintro (h | h | h); exact absurd h (by omega); exact h e0; exact h el), List.dropLast_eq_take, List.length_drop, hn]
  rfl
theorem unquote_out {t : List UInt8} (h : t.length < 2 ∨ (∃ h : 0 < t.length, (t[0]'h).toNat ≠ 34) ∨ (∃ h : t.length - 1 < t.length, (t[t.length - 1]'h).toNat ≠ 34)) : unquote t = none := by
  unfold unquote
  rw [if_pos]
  rcases h with h | ⟨h0, h⟩ | ⟨h0, h⟩
  · exact .inl h
  · right; left
    rw [List.head?_eq_getElem?, List.getElem?_eq_getElem h0]
    intro e; injection e with e; exact h (by rw [e]; rfl)
  · right; right
    rw [List.getLast?_eq_getElem?, List.getElem?_eq_getElem h0]
    intro e; injection e with e; exact h (by rw [e]; rfl)
set_option maxHeartbeats 1000000 in
theorem value_unquote_short (t : List UInt8) (w : World) (h : t.length < 2) : Calls Try.prog 51 #[.string (str t)] w (RetV w (unqT t)) := by
  rw [unqT_none (unquote_out (.inl h))]
  have d : decide ((t.length : Int) - 1 < 1) = true := by simp; omega
  go_enter Try.func51, Try.ntmps51
  go_wp2_with (fail)
  go_ret2
  exact ⟨rfl, (by repeat (first | exact Below.refl _ _ | refine Below.drew ?_ | refine Below.alloc ?_ (by first | omega | (simp; done) | (simp; omega)) _ | refine Below.setCell ?_ (by first | omega | (simp; done) | (simp; omega)) _ | refine Below.trans ?_ (Below.mono (by assumption) (by first | omega | (simp; done) | (simp; omega)))))⟩
set_option maxHeartbeats 1000000 in
theorem value_unquote_ends (t : List UInt8) (n : Nat) (w : World) (hn : t.length = n + 1) (h1 : 1 ≤ n) (hb : n ≤ 1000000) (h : (t[0]'(by omega)).toNat ≠ 34 ∨ ((t[0]'(by omega)).toNat = 34 ∧ (t[n]'(by omega)).toNat ≠ 34)) : Calls Try.prog 51 #[.string (str t)] w (RetV w (unqT t)) := by
  rw [unqT_none (unquote_out (h.elim (fun h => .inr (.inl ⟨by omega, h⟩)) (fun h => .inr (.inr ⟨by omega, by have e : t.length - 1 = n := (by omega); simp only [e]; exact h.2⟩))))]
  have h0 : 0 < t.length := by omega
  have hnl : n < t.length := by omega
  rcases h with h | ⟨h, h2⟩
  · have q : (((t[0]'h0).toNat : Int) != 34) = true := by rw [bne_iff_ne]; omega
    clear h
    go_enter Try.func51, Try.ntmps51
    go_wp2_with (fail)
    go_ret2
    exact ⟨rfl, (by repeat (first | exact Below.refl _ _ | refine Below.drew ?_ | refine Below.alloc ?_ (by first | omega | (simp; done) | (simp; omega)) _ | refine Below.setCell ?_ (by first | omega | (simp; done) | (simp; omega)) _ | refine Below.trans ?_ (Below.mono (by assumption) (by first | omega | (simp; done) | (simp; omega)))))⟩
  · have q : (((t[0]'h0).toNat : Int) != 34) = false := by rw [bne_eq_false_iff_eq]; omega
    have q2 : (((t[n]'hnl).toNat : Int) != 34) = true := by rw [bne_iff_ne]; omega
    clear h h2
    go_enter Try.func51, Try.ntmps51
    go_wp2_with (fail)
    go_ret2
    exact ⟨rfl, (by repeat (first | exact Below.refl _ _ | refine Below.drew ?_ | refine Below.alloc ?_ (by first | omega | (simp; done) | (simp; omega)) _ | refine Below.setCell ?_ (by first | omega | (simp; done) | (simp; omega)) _ | refine Below.trans ?_ (Below.mono (by assumption) (by first | omega | (simp; done) | (simp; omega)))))⟩
theorem In.of_ownB {w : World} {base : Nat} {e : TypeId} {A : Option Addr} {c : Nat} {l : List UInt8} (h : w.ownsRow base e 1 (.slice A l.length c) l.length (l.flatMap bc)) (hs : l.length ≤ 4294967296) : InB w A c l := by
  obtain ⟨A', c', hv, hin⟩ := In.of_own bc_len h hs
  injection hv with e1 _ e2
  subst e1 e2
  exact hin
def strLen : Value → Nat | .string s => s.size | _ => 0
set_option maxHeartbeats 4000000 in
set_option maxRecDepth 4000 in
theorem value_unquote_in (t : List UInt8) (n : Nat) (w : World) (hn : t.length = n + 1) (h1 : 1 ≤ n) (hb : n ≤ 1000000) (h : (t[0]'(by omega)).toNat = 34) (h2 : (t[n]'(by omega)).toNat = 34) : Calls Try.prog 51 #[.string (str t)] w (RetV w (unqT t)) := by
  have EQ0 := unquote_in hn h1 h h2
  have h0 : 0 < t.length := by omega
  have hnl : n < t.length := by omega
  have q : (((t[0]'h0).toNat : Int) != 34) = false := by rw [bne_eq_false_iff_eq]; omega
  have q2 : (((t[n]'hnl).toNat : Int) != 34) = false := by rw [bne_eq_false_iff_eq]; omega
  obtain ⟨s, hs⟩ : ∃ s, t.tail.take (n - 1) = s := ⟨_, rfl⟩
  have hsl : s.length ≤ 1000000 := by rw [← hs, List.length_take]; omega
  rw [List.drop_one, hs] at EQ0
  have EQ := Lib.hid EQ0
  clear h h2 EQ0
  go_enter Try.func51, Try.ntmps51
  go_wp2_with (fail)
  go_loopw [0, 5] (fun x v wr => ∃ (acc r : List UInt8) (v0 : Value), v = v0 ∧ x = .string (str r) ∧ Hid (UnqAt s acc r) ∧ Hid (wr.ownsRow w.heap.size 5 1 v acc.length (acc.flatMap bc)) ∧ Hid (Below w.heap.size w wr))
    (fun x _ _ => strLen x)
  case atStart => exact ⟨[], s, _, rfl, rfl, UnqAt.start s, World.ownsRow_nil _ _ _ _, Below.refl _ _⟩
  case round =>
    obtain ⟨acc, r, v0, rfl, rfl, U, O, B1⟩ := hrel
    obtain ⟨A9, c9, rfl, -, -⟩ := own_form O.out
    have hz := B1.out.size
    have hac := U.out.2
    have HS := Lib.hid hs
    clear hs
    cases r with
    | nil =>
      have DN := Lib.hid (EQ.out.trans U.out.done)
      have kb := conv_str (P := Try.prog) (w := wr) Try.underlying42 Try.underlying5 Try.underlying9 (In.of_ownB O.out (by omega))
      go_wp2_with (fail)
      go_ret2
      exact ⟨by rw [unqT_some DN.out]; rfl, B1.out⟩
    | cons c r1 =>
      have hc := c.toNat_lt
      have hac1 : acc.length + (r1.length + 1) ≤ s.length := hac
      by_cases g1 : c.toNat < 32 ∨ (¬ c.toNat < 32 ∧ 126 < c.toNat) ∨ (¬ c.toNat < 32 ∧ ¬ 126 < c.toNat ∧ c.toNat = 34)
      · have BAD := Lib.hid (uq_bad (c := c) (r := r1) (by omega))
        rcases g1 with g1 | ⟨g1, g2⟩ | ⟨g1, g2, g3⟩
        · have j1 : decide ((c.toNat : Int) < 32) = true := by rw [decide_eq_true_iff]; omega
          clear g1
          go_wp2_with (fail)
          go_ret2
          refine ⟨?_, B1.out⟩
          rw [unqT_none (EQ.out.trans (U.out.bad BAD.out))]
          rfl
        · have j1 : decide ((c.toNat : Int) < 32) = false := by rw [decide_eq_false_iff_not]; omega
          have j2 : decide ((126 : Int) < (c.toNat : Int)) = true := by rw [decide_eq_true_iff]; omega
          clear g1 g2
          go_wp2_with (fail)
          go_ret2
          refine ⟨?_, B1.out⟩
          rw [unqT_none (EQ.out.trans (U.out.bad BAD.out))]
          rfl
        · have j1 : decide ((c.toNat : Int) < 32) = false := by rw [decide_eq_false_iff_not]; omega
          have j2 : decide ((126 : Int) < (c.toNat : Int)) = false := by rw [decide_eq_false_iff_not]; omega
          have j3 : ((c.toNat : Int) == 34) = true := by rw [beq_iff_eq]; omega
          clear g1 g2 g3
          go_wp2_with (fail)
          go_ret2
          refine ⟨?_, B1.out⟩
          rw [unqT_none (EQ.out.trans (U.out.bad BAD.out))]
          rfl
      · have j1 : decide ((c.toNat : Int) < 32) = false := by rw [decide_eq_false_iff_not]; omega
        have j2 : decide ((126 : Int) < (c.toNat : Int)) = false := by rw [decide_eq_false_iff_not]; omega
        have j3 : ((c.toNat : Int) == 34) = false := by rw [beq_eq_false_iff_ne]; omega
        have G1 := Lib.hid (show ¬ c.toNat < 32 ∧ ¬ 126 < c.toNat ∧ c.toNat ≠ 34 by omega)
        clear g1
        by_cases g2 : c.toNat = 92
        · have j4 : ((c.toNat : Int) != 92) = false := by rw [bne_eq_false_iff_eq]; omega
          have G2 := Lib.hid g2
          clear g2
          cases r1 with
          | nil =>
            have BAD := Lib.hid (uq_one G2.out)
            go_wp2_with (fail)
            go_ret2
            refine ⟨?_, B1.out⟩
            rw [unqT_none (EQ.out.trans (U.out.bad BAD.out))]
            rfl
          | cons d r2 =>
            have hd := d.toNat_lt
            have hac2 : acc.length + (r2.length + 1 + 1) ≤ s.length := hac1
            by_cases g3 : d.toNat = 34 ∨ (d.toNat ≠ 34 ∧ d.toNat = 92)
            · have U2 := Lib.hid (U.out.step (uq_esc G2.out (g3.imp id (fun h => h.2))) (by simp; omega))
              rcases g3 with g3 | ⟨g3, g4⟩
              · have j5 : ((d.toNat : Int) == 34) = true := by rw [beq_iff_eq]; omega
                clear g3
                go_wp2_with ((at_builtin; refine Stop.out ?_))
                refine Stop.mk (wpList_app _ rfl _ _ elemB rfl w.heap.size (.slice A9 acc.length c9) acc.length _ rfl (own_below O.out ((Below.refl _ _).alloc (Nat.le_refl _) _)) _ 1 1 (bc d) rfl (Src.new _ (bc d) _ 1 rfl) (by simp [bc, Value.oneCell']) (by omega) (by have := B1.out.size; simp; omega) ?_)
                intro v4 w4 own4 _ hb4 _
                have B4 := Lib.hid (B1.out.trans ((((Below.refl _ _).alloc hz _)).trans hb4))
                have O4 := Lib.hid (show w4.ownsRow w.heap.size 5 1 v4 ((acc ++ [d]).length) ((acc ++ [d]).flatMap bc) by simpa using own4)
                clear own4 hb4 O B1
                go_wp2_with (fail)
                go_roundw
                case rel => exact ⟨acc ++ [d], r2, _, rfl, rfl, U2.out, O4.out, B4.out⟩
                case measure => first | (simp [strLen]; done) | (simp [strLen]; omega)
              · have j5 : ((d.toNat : Int) == 34) = false := by rw [beq_eq_false_iff_ne]; omega
                have j6 : ((d.toNat : Int) == 92) = true := by rw [beq_iff_eq]; omega
                clear g3 g4
                go_wp2_with ((at_builtin; refine Stop.out ?_))
                refine Stop.mk (wpList_app _ rfl _ _ elemB rfl w.heap.size (.slice A9 acc.length c9) acc.length _ rfl (own_below O.out ((Below.refl _ _).alloc (Nat.le_refl _) _)) _ 1 1 (bc d) rfl (Src.new _ (bc d) _ 1 rfl) (by simp [bc, Value.oneCell']) (by omega) (by have := B1.out.size; simp; omega) ?_)
                intro v4 w4 own4 _ hb4 _
                have B4 := Lib.hid (B1.out.trans ((((Below.refl _ _).alloc hz _)).trans hb4))
                have O4 := Lib.hid (show w4.ownsRow w.heap.size 5 1 v4 ((acc ++ [d]).length) ((acc ++ [d]).flatMap bc) by simpa using own4)
                clear own4 hb4 O B1
                go_wp2_with (fail)
                go_roundw
                case rel => exact ⟨acc ++ [d], r2, _, rfl, rfl, U2.out, O4.out, B4.out⟩
                case measure => first | (simp [strLen]; done) | (simp [strLen]; omega)
            · have j5 : ((d.toNat : Int) == 34) = false := by rw [beq_eq_false_iff_ne]; omega
              have j6 : ((d.toNat : Int) == 92) = false := by rw [beq_eq_false_iff_ne]; omega
              have G3 := Lib.hid (show d.toNat ≠ 34 ∧ d.toNat ≠ 92 by omega)
              clear g3
              cases r2 with
              | nil =>
                have BAD := Lib.hid (uq_short (s := []) G2.out G3.out.1 G3.out.2 (by simp))
                go_wp2_with (fail)
                go_ret2
                refine ⟨?_, B1.out⟩
                rw [unqT_none (EQ.out.trans (U.out.bad BAD.out))]
                rfl
              | cons a r3 =>
                cases r3 with
                | nil =>
                  have BAD := Lib.hid (uq_short (s := [a]) G2.out G3.out.1 G3.out.2 (by simp))
                  go_wp2_with (fail)
                  go_ret2
                  refine ⟨?_, B1.out⟩
                  rw [unqT_none (EQ.out.trans (U.out.bad BAD.out))]
                  rfl
                | cons b r4 =>
                  have ha := a.toNat_lt
                  have hbb := b.toNat_lt
                  have hva := hexV_le a
                  have hvb := hexV_le b
                  have hac4 : acc.length + (r4.length + 1 + 1 + 1 + 1) ≤ s.length := hac2
                  have l4 : decide ((r4.length : Int) + 1 + 1 + 1 + 1 < 4) = false := by rw [decide_eq_false_iff_not]; omega
                  by_cases g4 : d.toNat = 120
                  case neg =>
                    have BAD := Lib.hid (uq_hexbad (a := a) (b := b) (s := r4) G2.out G3.out.1 G3.out.2 (.inl g4))
                    have j7 : ((d.toNat : Int) != 120) = true := by rw [bne_iff_ne]; omega
                    clear g4
                    go_wp2_with (fail)
                    go_ret2
                    refine ⟨?_, B1.out⟩
                    rw [unqT_none (EQ.out.trans (U.out.bad BAD.out))]
                    rfl
                  case pos =>
                    have G4 := Lib.hid g4
                    have j7 : ((d.toNat : Int) != 120) = false := by rw [bne_eq_false_iff_eq]; omega
                    clear g4
                    obtain ⟨va, hva'⟩ : ∃ v, v = hexV a := ⟨_, rfl⟩
                    obtain ⟨vb, hvb'⟩ : ∃ v, v = hexV b := ⟨_, rfl⟩
                    have HVA := Lib.hid hva'
                    have HVB := Lib.hid hvb'
                    have CA := Lib.hid (fun w' => show Calls Try.prog 71 #[.int .u8 a.toNat] w' (RetV w' (.int .u8 va)) by rw [hva']; exact c_value_hex a w')
                    have CB := Lib.hid (fun w' => show Calls Try.prog 71 #[.int .u8 b.toNat] w' (RetV w' (.int .u8 vb)) by rw [hvb']; exact c_value_hex b w')
                    rw [← hva'] at hva
                    rw [← hvb'] at hvb
                    clear hva' hvb'
                    by_cases g5 : 15 < va
                    · have BAD := Lib.hid (uq_hexbad (a := a) (b := b) (s := r4) G2.out G3.out.1 G3.out.2 (.inr (.inl (by rw [← HVA.out]; exact g5))))
                      have j8 : decide ((15 : Int) < (va : Int)) = true := by rw [decide_eq_true_iff]; omega
                      clear g5
                      go_wp2_with (fail)
                      refine (CA.out _).mono ?_
                      rintro e w5 ⟨rfl, hb5⟩
                      replace B1 := Lib.hid (B1.out.trans (hb5.mono hz))
                      clear hb5
                      go_wp2_with (fail)
                      go_ret2
                      refine ⟨?_, B1.out⟩
                      rw [unqT_none (EQ.out.trans (U.out.bad BAD.out))]
                      rfl
                    · have j8 : decide ((15 : Int) < (va : Int)) = false := by rw [decide_eq_false_iff_not]; omega
                      have G5 := Lib.hid g5
                      clear g5
                      go_wp2_with (fail)
                      refine (CA.out _).mono ?_
                      rintro e w5 ⟨rfl, hb5⟩
                      replace O := Lib.hid (own_below O.out hb5)
                      replace B1 := Lib.hid (B1.out.trans (hb5.mono hz))
                      clear hb5 hz
                      have hz := B1.out.size
                      go_wp2_with (fail)
                      refine (CB.out _).mono ?_
                      rintro e w6 ⟨rfl, hb6⟩
                      replace O := Lib.hid (own_below O.out hb6)
                      replace B1 := Lib.hid (B1.out.trans (hb6.mono hz))
                      clear hb6 hz
                      have hz := B1.out.size
                      by_cases g6 : 15 < vb
                      · have BAD := Lib.hid (uq_hexbad (a := a) (b := b) (s := r4) G2.out G3.out.1 G3.out.2 (.inr (.inr (.inl (by rw [← HVB.out]; exact g6)))))
                        have j9 : decide ((15 : Int) < (vb : Int)) = true := by rw [decide_eq_true_iff]; omega
                        clear g6
                        go_wp2_with (fail)
                        go_ret2
                        refine ⟨?_, B1.out⟩
                        rw [unqT_none (EQ.out.trans (U.out.bad BAD.out))]
                        rfl
                      · have j9 : decide ((15 : Int) < (vb : Int)) = false := by rw [decide_eq_false_iff_not]; omega
                        have G6 := Lib.hid g6
                        clear g6
                        go_wp2_with (fail)
                        have SHL := Lib.hid (show ((va : Int) * 16) % 256 = ((16 * va : Nat) : Int) by have := G5.out; omega)
                        have OR := Lib.hid (or_hex (x := va) (y := vb) (by have := G5.out; omega) (by have := G6.out; omega))
                        refine wp_region_rel [Sp.eq (.string (str (c :: d :: a :: b :: r4))), Sp.eq (.int .u8 a.toNat), Sp.eq (.int .u8 va), Sp.eq (.int .u8 ((16 * va : Nat) : Int)), Sp.eq (.string (str (c :: d :: a :: b :: r4))), Sp.eq (.int .u8 b.toNat), Sp.eq (.int .u8 vb), Sp.eq (.int .u8 ((16 * va + vb : Nat) : Int)), Sp.eq (.int .u8 ((16 * va + vb : Nat) : Int))] 114 (by kernel_rfl) (by kernel_rfl) rfl rfl ?_ ?_
                        · refine ⟨?_, ?_, ?_, ?_, ?_, ?_, ?_, ?_, ?_, trivial⟩
                          all_goals (intro u W2 hb2 hd; simp [Deps, Region.binds, Sp.eq_holds] at hd; simp only [putDeps, dstOf, Region.binds])
                          case refine_1 =>
                            go_wp2_with (fail); exact RelEnd.mk rfl (Below.refl _ _) rfl
                          case refine_2 =>
                            go_wp2_with (fail); exact RelEnd.mk rfl (Below.refl _ _) rfl
                          case refine_3 =>
                            go_wp2_with (go_at_call 71; refine (CA.out _).mono ?_; rintro e3 W3 ⟨rfl, hb3⟩)
                            exact RelEnd.mk rfl hb3 rfl
                          case refine_4 =>
                            go_wp2_with (fail)
                            refine RelEnd.mk rfl (Below.refl _ _) ?_
                            show Value.int _ _ = Value.int _ _
                            rw [SHL.out]
                          case refine_5 =>
                            go_wp2_with (fail); exact RelEnd.mk rfl (Below.refl _ _) rfl
                          case refine_6 =>
                            go_wp2_with (fail); exact RelEnd.mk rfl (Below.refl _ _) rfl
                          case refine_7 =>
                            go_wp2_with (go_at_call 71; refine (CB.out _).mono ?_; rintro e3 W3 ⟨rfl, hb3⟩)
                            exact RelEnd.mk rfl hb3 rfl
                          case refine_8 =>
                            go_wp2_with (fail)
                            refine RelEnd.mk rfl (Below.refl _ _) ?_
                            show Value.int _ _ = Value.int _ _
                            rw [OR.out]
                          case refine_9 =>
                            go_wp2_with (fail); exact RelEnd.mk rfl (Below.refl _ _) rfl
                        · intro u W2 hb2 hold
                          simp only [RelHold, Sp.eq_holds, Nat.reduceAdd] at hold
                          obtain ⟨-, -, -, -, -, -, -, -, hE, -⟩ := hold
                          simp only [putAll, Act.put, Nat.reduceAdd, List.setIfInBounds_toArray, List.set_cons_zero, List.set_cons_succ]
                          rw [hE]
                          obtain ⟨x, hx⟩ : ∃ x : UInt8, x.toNat = 16 * va + vb := ⟨UInt8.ofNat (16 * va + vb), by simp; have := G5.out; have := G6.out; omega⟩
                          rw [← hx]
                          have hxx := x.toNat_lt
                          have XE := Lib.hid (show UInt8.ofNat (16 * hexV a + hexV b) = x by rw [← HVA.out, ← HVB.out, ← hx]; simp)
                          have HX := Lib.hid hx
                          replace O := Lib.hid (own_below O.out hb2)
                          replace B1 := Lib.hid (B1.out.trans (hb2.mono hz))
                          clear hb2 hx hz SHL OR CA CB
                          have hz := B1.out.size
                          by_cases g7 : 32 ≤ x.toNat ∧ x.toNat ≤ 126
                          · have BAD := Lib.hid (uq_hexbad (a := a) (b := b) (s := r4) G2.out G3.out.1 G3.out.2 (.inr (.inr (.inr (by rw [← HVA.out, ← HVB.out, ← HX.out]; exact g7)))))
                            have k1 : decide ((32 : Int) ≤ (x.toNat : Int)) = true := by rw [decide_eq_true_iff]; omega
                            have k2 : decide ((x.toNat : Int) ≤ 126) = true := by rw [decide_eq_true_iff]; omega
                            clear g7
                            go_wp2_with (fail)
                            go_ret2
                            refine ⟨?_, B1.out⟩
                            rw [unqT_none (EQ.out.trans (U.out.bad BAD.out))]
                            rfl
                          · have U2 := Lib.hid (show UnqAt s (acc ++ [x]) r4 by rw [← XE.out]; exact U.out.step (uq_hexok G2.out G4.out (by rw [← HVA.out, ← HVB.out]; have h5 := G5.out; have h6 := G6.out; have h7 := HX.out; omega)) (by simp; omega))
                            have hcs : ¬ 32 ≤ x.toNat ∨ (32 ≤ x.toNat ∧ ¬ x.toNat ≤ 126) := by omega
                            clear g7
                            rcases hcs with g8 | ⟨g8, g9⟩
                            · have k1 : decide ((32 : Int) ≤ (x.toNat : Int)) = false := by rw [decide_eq_false_iff_not]; omega
                              clear g8
                              go_wp2_with ((at_builtin; refine Stop.out ?_))
                              refine Stop.mk (wpList_app _ rfl _ _ elemB rfl w.heap.size (.slice A9 acc.length c9) acc.length _ rfl (own_below O.out ((Below.refl _ _).alloc (Nat.le_refl _) _)) _ 1 1 (bc x) rfl (Src.new _ (bc x) _ 1 rfl) (by simp [bc, Value.oneCell']) (by omega) (by have := B1.out.size; simp; omega) ?_)
                              intro v4 w4 own4 _ hb4 _
                              have B4 := Lib.hid (B1.out.trans ((((Below.refl _ _).alloc hz _)).trans hb4))
                              have O4 := Lib.hid (show w4.ownsRow w.heap.size 5 1 v4 ((acc ++ [x]).length) ((acc ++ [x]).flatMap bc) by simpa using own4)
                              clear own4 hb4 O B1
                              go_wp2_with (fail)
                              go_roundw
                              case rel => exact ⟨acc ++ [x], r4, _, rfl, rfl, U2.out, O4.out, B4.out⟩
                              case measure => first | (simp [strLen]; done) | (simp [strLen]; omega)
                            · have k1 : decide ((32 : Int) ≤ (x.toNat : Int)) = true := by rw [decide_eq_true_iff]; omega
                              have k2 : decide ((x.toNat : Int) ≤ 126) = false := by rw [decide_eq_false_iff_not]; omega
                              clear g8 g9
                              go_wp2_with ((at_builtin; refine Stop.out ?_))
                              refine Stop.mk (wpList_app _ rfl _ _ elemB rfl w.heap.size (.slice A9 acc.length c9) acc.length _ rfl (own_below O.out ((Below.refl _ _).alloc (Nat.le_refl _) _)) _ 1 1 (bc x) rfl (Src.new _ (bc x) _ 1 rfl) (by simp [bc, Value.oneCell']) (by omega) (by have := B1.out.size; simp; omega) ?_)
                              intro v4 w4 own4 _ hb4 _
                              have B4 := Lib.hid (B1.out.trans ((((Below.refl _ _).alloc hz _)).trans hb4))
                              have O4 := Lib.hid (show w4.ownsRow w.heap.size 5 1 v4 ((acc ++ [x]).length) ((acc ++ [x]).flatMap bc) by simpa using own4)
                              clear own4 hb4 O B1
                              go_wp2_with (fail)
                              go_roundw
                              case rel => exact ⟨acc ++ [x], r4, _, rfl, rfl, U2.out, O4.out, B4.out⟩
                              case measure => first | (simp [strLen]; done) | (simp [strLen]; omega)
        · have j4 : ((c.toNat : Int) != 92) = true := by rw [bne_iff_ne]; omega
          have U2 := Lib.hid (U.out.step (uq_plain G1.out.1 G1.out.2.1 G1.out.2.2 g2) (by simp))
          clear g2
          go_wp2_with ((at_builtin; refine Stop.out ?_))
          refine Stop.mk (wpList_app _ rfl _ _ elemB rfl w.heap.size (.slice A9 acc.length c9) acc.length _ rfl (own_below O.out ((Below.refl _ _).alloc (Nat.le_refl _) _)) _ 1 1 (bc c) rfl (Src.new _ (bc c) _ 1 rfl) (by simp [bc, Value.oneCell']) (by omega) (by have := B1.out.size; simp; omega) ?_)
          intro v4 w4 own4 _ hb4 _
          have B4 := Lib.hid (B1.out.trans ((((Below.refl _ _).alloc hz _)).trans hb4))
          have O4 := Lib.hid (show w4.ownsRow w.heap.size 5 1 v4 ((acc ++ [c]).length) ((acc ++ [c]).flatMap bc) by simpa using own4)
          clear own4 hb4 O B1
          go_wp2_with (fail)
          go_roundw
          case rel => exact ⟨acc ++ [c], r1, _, rfl, rfl, U2.out, O4.out, B4.out⟩
          case measure => first | (simp [strLen]; done) | (simp [strLen]; omega)
end Go.Proofs.Ytfgjhgecmelccaa
