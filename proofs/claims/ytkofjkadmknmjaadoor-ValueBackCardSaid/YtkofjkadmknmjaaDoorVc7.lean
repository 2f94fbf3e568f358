/-
  Lemmas (walks and plain laws), in one text.
-/
import Derived.Test.YtkofjkadmknmjaaDoorVc6
import Derived.Test.YtkofjkadmknmjaaDoorRows
import Derived.WalkKit
import Derived.WalkSpells
import Derived.WalkLawsBesides
import Derived.Lib.Hide
import Derived.Deep.QuietTactic
import Derived.BigQuiet
import Derived.Maps.AppendAt
import Derived.WalkSmall
import Derived.ProofKit
import Derived.OpenShut
import Derived.JoinedCond
import Derived.Deep.Slices
import Derived.Deep.Fields
import Derived.Carry
import Derived.Shelf.Small.Wraps
import Derived.Shelf.Utf8.RuneCount
import Derived.Shelf.Strconv.Itoa0
import Derived.Shelf.Strconv.Itoa1
import Derived.Shelf.LaysM
import Derived.Shelf.Strconv.Itoa2
import Derived.Shelf.Strconv.Itoa3
import Derived.Shelf.Strings.Search1
import Derived.Shelf.Strings.Search2
import Derived.Shelf.Strings.Search3
import Derived.Shelf.Strings.Count
import Derived.Shelf.Strings.Shaped
import Derived.Shelf.Strings.Prefix
import Derived.Shelf.Strings.Split
import Derived.Shelf.Strings.SplitShaped
import Derived.Shelf.Unicode.DecodeSlow
import Derived.Test.YtkofjkadmknmjaaDoorProg
import Derived.Deep.AppendSrc
import Derived.Lib.AppendStr
import Derived.Laws.BytesArg
import Derived.Lib.AppendIntMem
import Derived.Lib.ItoaLen
import Derived.Test.YtkofjkadmknmjaaDoorTie
import Derived.Lib.LaidTab
import Derived.LaidMore
import Derived.Stop.LaidErr
import Derived.SevenTiedAt
import Derived.HandedShaped
import Derived.Test.YtkofjkadmknmjaaDoorCards
import Derived.Deep.CutBlock
import Derived.Deep.DeepCutAuto
import Derived.Laws.IdiomStrings
import Derived.Outline
import Derived.IntWalk
import Derived.StillTail
import Derived.Laws.Tables
import Derived.Laws.Rows
import Derived.ChangeKeysEq
import Derived.Laws.StructEq
import Derived.Lib.AppendZeros
import Derived.Deep.Quiet
import Derived.OwnWalk
import Derived.Lib.TrailingZeros
import Derived.Lib.SplitLaws
import Derived.Lib.ItoaNum
import Derived.Shelf.Strings.PiecesUse
namespace Go.Proofs.YtkofjkadmknmjaaDoor
open Go.RowKit

/-- What stands between quotes, by any bytes behind a backslash; the last byte is not read. -/
def opn : List UInt8 → List UInt8
  | [] => []
  | [_] => []
  | c :: d :: r =>
    if c.toNat ≠ 92 then c :: opn (d :: r)
    else match r with
      | a :: b :: r2 => if d.toNat = 120 ∧ hexV a ≤ 15 ∧ hexV b ≤ 15 then UInt8.ofNat (16 * hexV a + hexV b) :: opn r2 else d :: opn (a :: b :: r2)
      | [a] => d :: opn [a]
      | [] => [d]
termination_by l => l.length
theorem opn_two (c d : UInt8) (r : List UInt8) : opn (c :: d :: r) = if c.toNat ≠ 92 then c :: opn (d :: r)
    else match r with
      | a :: b :: r2 => if d.toNat = 120 ∧ hexV a ≤ 15 ∧ hexV b ≤ 15 then UInt8.ofNat (16 * hexV a + hexV b) :: opn r2 else d :: opn (a :: b :: r2)
      | [a] => d :: opn [a]
      | [] => [d] := opn.eq_def (c :: d :: r)
theorem opn_plain {c : UInt8} {r : List UInt8} (h : c.toNat ≠ 92) (hr : r ≠ []) : opn (c :: r) = c :: opn r := by
  cases r with
  | nil => exact absurd rfl hr
  | cons d r => rw [opn_two, if_pos h]
theorem opn_hex {c d a b : UInt8} {r : List UInt8} (hc : c.toNat = 92) (h : d.toNat = 120 ∧ hexV a ≤ 15 ∧ hexV b ≤ 15) : opn (c :: d :: a :: b :: r) = UInt8.ofNat (16 * hexV a + hexV b) :: opn r := by
  rw [opn_two, if_neg (by omega)]
  exact if_pos h
end Go.Proofs.YtkofjkadmknmjaaDoor
namespace Go.Proofs.YtkofjkadmknmjaaDoor
open Go.RowKit

def OpnAt (t acc : List UInt8) (k : Nat) : Prop := acc ++ opn (t.drop k) = opn (t.drop 1) ∧ acc.length ≤ k
theorem OpnAt.end {t acc : List UInt8} {k : Nat} (h : OpnAt t acc k) (hk : t.length ≤ k + 1) : acc = opn (t.drop 1) := by
  rw [← h.1]
  have : opn (t.drop k) = [] := by
    match e : t.drop k with
    | [] => rw [opn]
    | [c] => rw [opn]
    | c :: d :: r =>
      have := congrArg List.length e
      rw [List.length_drop] at this
      simp at this
      omega
  rw [this, List.append_nil]
theorem OpnAt.plain {t acc : List UInt8} {k : Nat} (h : OpnAt t acc k) (hk : k + 1 < t.length) (hc : (t[k]'(by omega)).toNat ≠ 92) : OpnAt t (acc ++ [t[k]'(by omega)]) (k + 1) := by
  refine ⟨?_, by have := h.2; simp; omega⟩
  rw [← h.1, List.drop_eq_getElem_cons (show k < t.length by omega), opn_plain hc (by
    intro e
    have := congrArg List.length e
    rw [List.length_drop] at this
    simp at this; omega)]
  simp
theorem OpnAt.hex {t acc : List UInt8} {k : Nat} (h : OpnAt t acc k) (h3 : k + 3 < t.length) (hc : (t[k]'(by omega)).toNat = 92)
    (hn : (t[k + 1]'(by omega)).toNat = 120 ∧ hexV (t[k + 2]'(by omega)) ≤ 15 ∧ hexV (t[k + 3]'h3) ≤ 15) : OpnAt t (acc ++ [UInt8.ofNat (16 * hexV (t[k + 2]'(by omega)) + hexV (t[k + 3]'h3))]) (k + 4) := by
  refine ⟨?_, by have := h.2; simp; omega⟩
  rw [← h.1, List.drop_eq_getElem_cons (show k < t.length by omega), List.drop_eq_getElem_cons (show k + 1 < t.length by omega), List.drop_eq_getElem_cons (show k + 1 + 1 < t.length by omega), List.drop_eq_getElem_cons (show k + 1 + 1 + 1 < t.length by omega), opn_hex hc hn]
  simp
end Go.Proofs.YtkofjkadmknmjaaDoor
namespace Go.Proofs.YtkofjkadmknmjaaDoor
open Go.RowKit

set_option maxHeartbeats 400000 in
theorem c_value_Check (x : Val) (w : World) (hs : x.s.length ≤ 9223372036854775807) : Calls Tryd.prog 14 #[x.val] w (RetV w (.bool x.ok)) := by
  unfold Val.val
  go_enter Tryd.func14, Tryd.ntmps14
  go_wp2
  all_goals (go_ret; refine RetV.bool ?_ (by repeat (first | exact Below.refl _ _ | refine Below.drew ?_ | refine Below.alloc ?_ (by first | omega | (simp; done) | (simp; omega)) _ | refine Below.setCell ?_ (by first | omega | (simp; done) | (simp; omega)) _ | refine Below.trans ?_ (Below.mono (by assumption) (by first | omega | (simp; done) | (simp; omega))))); simp_all [Val.ok]; try omega)
set_option maxHeartbeats 400000 in
theorem c_ref04_Check (x : Val) (w : World) (hs : x.s.length ≤ 9223372036854775807) : Calls Tryd.prog 15 #[x.val] w (RetV w (.bool x.ok)) := by
  unfold Val.val
  go_enter Tryd.func15, Tryd.ntmps15
  go_wp2
  all_goals (go_ret; refine RetV.bool ?_ (by repeat (first | exact Below.refl _ _ | refine Below.drew ?_ | refine Below.alloc ?_ (by first | omega | (simp; done) | (simp; omega)) _ | refine Below.setCell ?_ (by first | omega | (simp; done) | (simp; omega)) _ | refine Below.trans ?_ (Below.mono (by assumption) (by first | omega | (simp; done) | (simp; omega))))); simp_all [Val.ok]; try omega)
theorem Val.ok_kind {x : Val} (h : x.ok = true) : x.kind = 0 ∨ x.kind = 1 ∨ x.kind = 2 := by
  unfold Val.ok at h
  by_cases h0 : x.kind = 0
  · exact .inl h0
  · by_cases h1 : x.kind = 1
    · exact .inr (.inl h1)
    · by_cases h2 : x.kind = 2
      · exact .inr (.inr h2)
      · simp [h0, h1, h2] at h
end Go.Proofs.YtkofjkadmknmjaaDoor
namespace Go.Proofs.YtkofjkadmknmjaaDoor
open Go.RowKit

def showV (x : Val) : List UInt8 := if x.ok then (if x.kind = 1 then tens x.n.toNat else if x.kind = 2 then quote x.s else [45]) else []
theorem showV_bad {x : Val} (h : x.ok = false) : showV x = [] := by unfold showV; rw [h]; rfl
theorem showV_num {x : Val} (h : x.ok = true) (hk : x.kind = 1) : showV x = tens x.n.toNat := by unfold showV; rw [if_pos h, if_pos hk]
theorem showV_text {x : Val} (h : x.ok = true) (hk : x.kind = 2) : showV x = quote x.s := by unfold showV; rw [if_pos h, if_neg (by omega), if_pos hk]
theorem showV_none {x : Val} (h : x.ok = true) (h1 : x.kind ≠ 1) (h2 : x.kind ≠ 2) : showV x = [45] := by unfold showV; rw [if_pos h, if_neg h1, if_neg h2]
theorem Val.num_bd {x : Val} (h : x.ok = true) (hk : x.kind = 1) : 0 ≤ x.n ∧ x.n ≤ 1099511627776 := by
  unfold Val.ok at h
  rw [if_neg (by omega), if_pos hk] at h
  simp only [Bool.and_eq_true, decide_eq_true_eq] at h
  exact h.1
theorem Val.text_bd {x : Val} (h : x.ok = true) (hk : x.kind = 2) : x.s.length ≤ 24 := by
  unfold Val.ok at h
  rw [if_neg (by omega), if_neg (by omega), if_pos hk] at h
  simp only [Bool.and_eq_true, decide_eq_true_eq] at h
  exact h.2
end Go.Proofs.YtkofjkadmknmjaaDoor
namespace Go.Proofs.YtkofjkadmknmjaaDoor
open Go.RowKit

/-- A world behind the making of two blocks, in which they are as they were made. -/
def At2 (w w' : World) (cs ds : Array Value) : Prop := Below w.heap.size w w' ∧ Blk w' w.heap.size cs ∧ Blk w' (w.heap.size + 1) ds
theorem At2.new (w : World) (s t : TypeId) (cs ds : Array Value) : At2 w ((w.alloc (.cells cs s)).alloc (.cells ds t)) cs ds := by
  have h := (At.new w s cs).alloc (.cells ds t)
  refine ⟨h.1, h.2, ?_⟩
  have := Blk.new (w.alloc (.cells cs s)) t ds
  simpa using this
theorem At2.step {w w1 w2 : World} {cs ds : Array Value} (h : At2 w w1 cs ds) (hb : Below w1.heap.size w1 w2) : At2 w w2 cs ds := ⟨h.1.trans (hb.mono h.1.size), h.2.1.below hb h.2.1.lt, h.2.2.below hb h.2.2.lt⟩
end Go.Proofs.YtkofjkadmknmjaaDoor
namespace Go.Proofs.YtkofjkadmknmjaaDoor

/-- l begins with n trees, r stands behind them; d: how deep the deepest is. -/
inductive Trees : Nat → List Node → List Node → Nat → Prop
  | nil (l : List Node) : Trees 0 l l 0
  | cons {x : Node} {l m r : List Node} {n d1 d2 : Nat} : Trees (parts x.op).toNat l m d1 → Trees n m r d2 → Trees (n + 1) (x :: l) r (max (d1 + 1) d2)

theorem Trees.length {n : Nat} {l r : List Node} {d : Nat} (h : Trees n l r d) : r.length + n ≤ l.length := by
  induction h with
  | nil l => simp
  | cons _ _ h1 h2 => simp only [List.length_cons]; omega
theorem Trees.zero {l r : List Node} {d : Nat} (h : Trees 0 l r d) : l = r ∧ d = 0 := by cases h; exact ⟨rfl, rfl⟩
theorem Trees.depth_pos {n : Nat} {l r : List Node} {d : Nat} (h : Trees n l r d) : n = 0 ∨ 1 ≤ d := by
  cases h with
  | nil l => exact .inl rfl
  | cons _ _ => right; omega
theorem Trees.append {n k : Nat} {l m r : List Node} {d1 d2 : Nat} (h : Trees n l m d1) : Trees k m r d2 → Trees (n + k) l r (max d1 d2) := by
  induction h generalizing k r d2 with
  | nil l => intro h; simpa using h
  | cons t1 _ _ ih2 =>
    intro h
    have := Trees.cons t1 (ih2 h)
    rw [← Nat.max_assoc] at this
    rw [Nat.add_right_comm]
    exact this
theorem Trees.split {k : Nat} : ∀ {n : Nat} {l r : List Node} {d : Nat}, Trees (n + k) l r d → ∃ m d1 d2, Trees n l m d1 ∧ Trees k m r d2 ∧ d = max d1 d2
  | 0, l, r, d, h => ⟨l, 0, d, .nil l, by simpa using h, by simp⟩
  | n + 1, l, r, d, h => by
    rw [Nat.add_right_comm] at h
    cases h with
    | cons t1 t2 =>
      obtain ⟨m, e1, e2, h1, h2, rfl⟩ := Trees.split t2
      exact ⟨m, _, e2, .cons t1 h1, h2, (Nat.max_assoc ..).symm⟩
/-- What stands behind does not matter. -/
theorem Trees.behind {n : Nat} {l r : List Node} {d : Nat} (h : Trees n l r d) : ∃ p, l = p ++ r ∧ ∀ q, Trees n (p ++ q) q d := by
  induction h with
  | nil l => exact ⟨[], rfl, fun q => .nil q⟩
  | @cons x l m r n d1 d2 _ _ h1 h2 =>
    obtain ⟨p1, rfl, g1⟩ := h1
    obtain ⟨p2, rfl, g2⟩ := h2
    exact ⟨x :: (p1 ++ p2), by simp, fun q => by
      have := Trees.cons (x := x) (g1 (p2 ++ q)) (g2 q)
      simpa using this⟩
/-- A list that is one tree. -/
def Tree (l : List Node) (d : Nat) : Prop := Trees 1 l [] d
theorem Tree.pos {l : List Node} {d : Nat} (h : Tree l d) : 1 ≤ d := (Trees.depth_pos h).resolve_left (by omega)
theorem Tree.head {l : List Node} {d : Nat} (h : Tree l d) : ∃ x r d', l = x :: r ∧ Trees (parts x.op).toNat r [] d' ∧ d = d' + 1 := by
  unfold Tree at h
  cases h with
  | cons t1 t2 =>
    obtain ⟨rfl, rfl⟩ := t2.zero
    exact ⟨_, _, _, rfl, t1, by omega⟩
/-! What trees are cut into. -/
def cut : Nat → List Node → List (List Node)
  | 0, _ => []
  | n + 1, l => l.take (endFrom l 1 0).toNat :: cut n (l.drop (endFrom l 1 0).toNat)
/-! How deep: by the places that are open. -/
def dec : List Int → List Int
  | [] => []
  | x :: s => if x - 1 = 0 then dec s else (x - 1) :: s
def push (p : Int) (s : List Int) : List Int := if p = 0 then dec s else p :: s
def deepFold : List Node → List Int → Int → Int
  | [], _, d => d
  | x :: r, s, d => deepFold r (push (parts x.op) s) (max d (s.length + 1))
/-- How deep a filter is; 0 where it is none. -/
def depth (l : List Node) : Int := if l = [] ∨ endAt l 0 ≠ l.length then 0 else deepFold l [] 0
end Go.Proofs.YtkofjkadmknmjaaDoor
namespace Go.Proofs.YtkofjkadmknmjaaDoor
open Go.RowKit

theorem Kid.cells_len (x : Kid) : x.cells.length = 1 := rfl
end Go.Proofs.YtkofjkadmknmjaaDoor
namespace Go.Proofs.YtkofjkadmknmjaaDoor
open Go.RowKit

def joined (op : Int) (l : List Node) : List Node := ⟨op, 0, ⟨0, 0, []⟩⟩ :: l
theorem Tree.ahead {a : List Node} {d : Nat} (h : Tree a d) (q : List Node) : Trees 1 (a ++ q) q d := by
  obtain ⟨p, hp, hq⟩ := Trees.behind h
  rw [List.append_nil] at hp
  subst hp
  exact hq q
end Go.Proofs.YtkofjkadmknmjaaDoor
namespace Go.Proofs.YtkofjkadmknmjaaDoor
open Go.RowKit

theorem InN.lit (w : World) (l : List Node) (t : TypeId) (n : Nat) (hn : n = l.length) (hl : l.length ≤ 4294967296) : InN (w.alloc (.cells (l.flatMap Node.cells).toArray t)) (some ⟨w.heap.size, 0, none⟩) n l := by
  subst hn
  refine ⟨Nat.le_refl _, by omega, hl, .inr ⟨_, 0, rfl, by simp, fun i hi j u hu => ?_⟩⟩
  have hj : j < 5 := by rw [← Node.cells_len l[i]]; exact (List.getElem?_eq_some_iff.1 hu).1
  rw [World.cell?_alloc_new, Nat.zero_add]
  have := flat_get (k := 5) Node.cells_len l i hi j hj
  rw [List.getElem?_toArray, this]; exact hu
end Go.Proofs.YtkofjkadmknmjaaDoor
namespace Go.Proofs.YtkofjkadmknmjaaDoor
open Go.RowKit

theorem In.lit {α : Type} {k : Nat} {cs : α → List Value} (hk : ∀ x, (cs x).length = k) (w : World) (l : List α) (t : TypeId) (n : Nat) (hn : n = l.length) (hl : l.length ≤ 4294967296) : In k cs (w.alloc (.cells (l.flatMap cs).toArray t)) (some ⟨w.heap.size, 0, none⟩) n l := by
  subst hn
  refine ⟨Nat.le_refl _, by omega, hl, .inr ⟨_, 0, rfl, by simp, fun i hi j u hu => ?_⟩⟩
  have hj : j < k := by rw [← hk l[i]]; exact (List.getElem?_eq_some_iff.1 hu).1
  rw [World.cell?_alloc_new, Nat.zero_add]
  have := flat_get (k := k) hk l i hi j hj
  rw [List.getElem?_toArray, this]; exact hu
end Go.Proofs.YtkofjkadmknmjaaDoor
namespace Go.Proofs.YtkofjkadmknmjaaDoor

def cmpI (a b : Int) : Int := if a < b then -1 else if b < a then 1 else 0
def cmpS : List UInt8 → List UInt8 → Int
  | [], [] => 0
  | [], _ :: _ => -1
  | _ :: _, [] => 1
  | a :: x, b :: y => if a.toNat < b.toNat then -1 else if b.toNat < a.toNat then 1 else cmpS x y
def Val.cmp (a b : Val) : Int := if cmpI a.kind b.kind ≠ 0 then cmpI a.kind b.kind else if cmpI a.n b.n ≠ 0 then cmpI a.n b.n else cmpS a.s b.s
def Node.cmp (a b : Node) : Int := if cmpI a.op b.op ≠ 0 then cmpI a.op b.op else if cmpI a.n b.n ≠ 0 then cmpI a.n b.n else a.v.cmp b.v
end Go.Proofs.YtkofjkadmknmjaaDoor
namespace Go.Proofs.YtkofjkadmknmjaaDoor

/-- Is a value less than another one of its kind? -/
def Val.less (a b : Val) : Bool := decide (a.kind = b.kind) && (decide (a.kind = 1) || decide (a.kind = 2)) && decide (a.cmp b < 0)
/-! Letters made small. -/
def lowC (c : UInt8) : UInt8 := if 65 ≤ c.toNat ∧ c.toNat ≤ 90 then UInt8.ofNat (c.toNat + 32) else c
def fold (s : List UInt8) : List UInt8 := s.map lowC
theorem fold_len (s : List UInt8) : (fold s).length = s.length := by unfold fold; simp
end Go.Proofs.YtkofjkadmknmjaaDoor
namespace Go.Proofs.YtkofjkadmknmjaaDoor
open Go.RowKit

theorem lowC_nat (c : UInt8) : ((lowC c).toNat : Int) = if 65 ≤ c.toNat ∧ c.toNat ≤ 90 then (c.toNat : Int) + 32 else c.toNat := by
  unfold lowC
  have := c.toNat_lt
  split
  · rw [UInt8.toNat_ofNat']; omega
  · rfl
end Go.Proofs.YtkofjkadmknmjaaDoor
namespace Go.Proofs.YtkofjkadmknmjaaDoor
open Go.RowKit

/-- Bytes in a block that may be written. -/
def WrB (W : World) (e : TypeId) (b : Nat) (l : List UInt8) : Prop :=
  ∃ cs lo hi, W.heap[b]? = some (.cells cs e (lo, hi)) ∧ l.length ≤ lo ∧ ∀ i (h : i < l.length), cs[i]? = some (.int .u8 l[i].toNat)
theorem WrB.lt {W : World} {e : TypeId} {b : Nat} {l : List UInt8} (h : WrB W e b l) : b < W.heap.size := by
  obtain ⟨cs, lo, hi, h1, _⟩ := h
  exact (Array.getElem?_eq_some_iff.1 h1).1
theorem WrB.cell {W : World} {e : TypeId} {b : Nat} {l : List UInt8} (h : WrB W e b l) {k : Nat} (hk : k < l.length) : W.cell? ⟨b, k, none⟩ = some (.int .u8 l[k].toNat) := by
  obtain ⟨cs, lo, hi, h1, _, h3⟩ := h
  have := h3 k hk
  simp [World.cell?, h1, this]
theorem WrB.frozen {W : World} {e : TypeId} {b : Nat} {l : List UInt8} (h : WrB W e b l) {k : Nat} (hk : k < l.length) : W.frozen? ⟨b, k, none⟩ = false := by
  obtain ⟨cs, lo, hi, h1, h2, _⟩ := h
  simp [World.frozen?, h1]
  omega
theorem WrB.set {W : World} {e : TypeId} {b : Nat} {l : List UInt8} (h : WrB W e b l) (k : Nat) (x : UInt8) : WrB (W.setCell ⟨b, k, none⟩ (.int .u8 x.toNat)) e b (l.set k x) := by
  have hlt := h.lt
  obtain ⟨cs, lo, hi, h1, h2, h3⟩ := h
  have he : (W.setCell ⟨b, k, none⟩ (.int .u8 x.toNat)).heap[b]? = some (.cells (cs.setIfInBounds k (.int .u8 x.toNat)) e (lo, hi)) := by
    show (W.heap.modify b _)[b]? = _
    rw [Array.getElem?_eq_getElem (by rw [Array.size_modify]; exact hlt), Array.getElem_modify_self]
    rw [Array.getElem?_eq_getElem hlt] at h1
    injection h1 with h1
    rw [h1]; rfl
  refine ⟨_, lo, hi, he, by rw [List.length_set]; exact h2, fun i hi => ?_⟩
  rw [List.length_set] at hi
  have := h3 i hi
  rw [Array.getElem?_setIfInBounds]
  by_cases hik : k = i
  · subst hik
    rw [if_pos rfl, if_pos (Array.getElem?_eq_some_iff.1 this).1, List.getElem_set_self]
  · rw [if_neg hik, this, List.getElem_set_ne hik]
theorem WrB.below {W W' : World} {e : TypeId} {b : Nat} {l : List UInt8} (h : WrB W e b l) (hb : Below W.heap.size W W') : WrB W' e b l := by
  have hlt := h.lt
  obtain ⟨cs, lo, hi, h1, h2⟩ := h
  exact ⟨cs, lo, hi, (hb.block b hlt).trans h1, h2⟩
theorem WrB.reads {W : World} {e : TypeId} {b c : Nat} {l : List UInt8} (h : WrB W e b l) (h1 : l.length ≤ c) (h2 : c ≤ 9223372036854775807) (h3 : l.length ≤ 4294967296) : InB W (some ⟨b, 0, none⟩) c l := by
  refine ⟨h1, h2, h3, .inr ⟨b, 0, rfl, h.lt, fun i hi j u hu => ?_⟩⟩
  have hj : j < 1 := (List.getElem?_eq_some_iff.1 hu).1
  have h0 : j = 0 := by omega
  subst h0
  simp only [bc, List.getElem?_cons_zero, Option.some.injEq] at hu
  rw [show 0 + i * 1 + 0 = i by omega, ← hu]
  exact h.cell hi
theorem wpList_strbytesW {P : Program} {w : World} {ops : Array Oper} {rest : List Oper} {o : Oper} {a : Act} {Q : Exit → Act → World → Prop} (hgd : o.guard = none) (src dst : TypeId) (x : Operand) (ho : o.op = .convert src dst x)
    {e : TypeId} (hs : P.underlying src = some .string) (hd : P.underlying dst = some (.slice e)) (he : P.underlying e = some (.int .u8)) (l : List UInt8) (hx : a.eval x = .string (str l)) (hl : l.length ≤ 4294967296)
    (h : ∀ c w', l.length ≤ c → c ≤ 9223372036854775807 → Below w.heap.size w w' → w'.heap.size = w.heap.size + 1 → WrB w' e w.heap.size l → wpList P ops Q rest (a.put o.dst (.slice (some ⟨w.heap.size, 0, none⟩) l.length c)) w') : wpList P ops Q (o :: rest) a w := by
  refine wpList_plain hgd fun K hK => ?_
  have hrun := run_bytes_of_string (P := P) w src dst e (str l) hs hd he
  have hge := grownCap_ge w (str l).size 0 e
  have hcm := grownCap_le_maxLen w (str l).size 0 e (by rw [str_size]; unfold maxLen; omega)
  rw [str_size] at hrun hge hcm
  unfold Oper.wp execOp
  simp only [ho, hx, hrun, Sem.run_bind, Sem.run_pure, Result.andThen_ok]
  refine hK _ _ (h _ _ hge (by unfold maxLen at hcm; omega) (((Below.refl _ _).drew).alloc (Nat.le_refl _) _) (World.size_alloc _ _) ⟨_, _, _, heap_alloc_new w.drew _, ?_, fun i hi => ?_⟩)
  · have e : (bytesRow (str l) (grownCap w l.length 0 e)).size = l.length + (grownCap w l.length 0 e - l.length) := by
      unfold bytesRow
      rw [Array.size_append, Array.size_map, Array.size_replicate, str_size]
      show l.toArray.size + _ = _
      simp
    omega
  · have hb := bytesRow_at (str l) (grownCap w l.length 0 e) i (by show i < l.toArray.size; simpa using hi)
    rw [hb]
    rfl
theorem fold_snoc {s : List UInt8} {k : Nat} (hk : k < s.length) : fold (s.take (k + 1)) = fold (s.take k) ++ [lowC s[k]] := by
  unfold fold
  rw [List.take_succ_eq_append_getElem hk, List.map_append]; rfl
/-- A text of which the first bytes have been made small. -/
def foldTo (s : List UInt8) (k : Nat) : List UInt8 := fold (s.take k) ++ s.drop k
theorem foldTo_len (s : List UInt8) {k : Nat} (hk : k ≤ s.length) : (foldTo s k).length = s.length := by unfold foldTo; rw [List.length_append, fold_len, List.length_take, List.length_drop]; omega
theorem foldTo_get (s : List UInt8) {k : Nat} (hk : k < s.length) : (foldTo s k)[k]'(by rw [foldTo_len s (by omega)]; exact hk) = s[k] := by
  unfold foldTo
  rw [List.getElem_append_right (by rw [fold_len, List.length_take]; omega)]
  simp [fold_len, List.length_take, Nat.min_eq_left (Nat.le_of_lt hk)]
theorem foldTo_set (s : List UInt8) {k : Nat} (hk : k < s.length) : (foldTo s k).set k (lowC s[k]) = foldTo s (k + 1) := by
  unfold foldTo
  have hl : (fold (s.take k)).length = k := by rw [fold_len, List.length_take]; omega
  rw [List.set_append_right _ _ (by omega), hl, Nat.sub_self, List.drop_eq_getElem_cons hk, List.set_cons_zero, fold_snoc hk, List.append_assoc]; rfl
theorem foldTo_same (s : List UInt8) {k : Nat} (hk : k < s.length) (h : lowC s[k] = s[k]) : foldTo s k = foldTo s (k + 1) := by
  unfold foldTo
  rw [List.drop_eq_getElem_cons hk, fold_snoc hk, h, List.append_assoc]; rfl
theorem foldTo_end (s : List UInt8) : foldTo s s.length = fold s := by unfold foldTo; rw [List.take_length, List.drop_length, List.append_nil]
set_option maxHeartbeats 1000000 in
set_option maxRecDepth 4000 in
theorem c_value_Fold (s : List UInt8) (w : World) (hs : s.length ≤ 1000000) : Calls Tryd.prog 20 #[.string (str s)] w (RetV w (.string (str (fold s)))) := by
  go_enter Tryd.func20, Tryd.ntmps20
  go_wp2_with (with_reducible refine stop_conv 9 63 (.tmp 6) rfl rfl ?_)
  refine Stop.mk (wpList_strbytesW rfl _ _ (.tmp 6) rfl Tryd.underlying9 Tryd.underlying63 Tryd.underlying5 s rfl (by omega) ?_)
  intro c w1 hc1 hc2 hb1 hz1 hwr
  have B1 := Lib.hid hb1
  have W1 := Lib.hid hwr
  clear hb1 hwr
  go_wp2_with (fail)
  go_loopw [4, 5, 10] (fun _ _ i wr => ∃ k : Nat, k ≤ s.length ∧ i = .int .i64 k ∧ Hid (WrB wr 5 w.heap.size (foldTo s k)) ∧ Hid (Below w.heap.size w wr)) (fun _ _ i _ => s.length - (intOf i).toNat)
  case atStart => exact ⟨0, by omega, rfl, by show WrB _ _ _ _; unfold foldTo; simpa [fold] using W1.out, B1.out⟩
  case round =>
    obtain ⟨k, hk, rfl, HW, HB⟩ := hrel
    by_cases hlt : k < s.length
    · have hlen := foldTo_len s hk
      have hb0 := HW.out.lt
      have e0 := HW.out.cell (k := k) (by omega)
      rw [foldTo_get s hlt] at e0
      have f0 := HW.out.frozen (k := k) (by omega)
      have h256 := s[k].toNat_lt
      obtain ⟨x, hx⟩ : ∃ x, x = s[k] := ⟨_, rfl⟩
      rw [← hx] at e0 h256
      have HX := Lib.hid hx
      clear hx hlen
      have hk0 : (0 : Int) ≤ (k : Int) := by omega
      have hk1 : (k : Int) < (s.length : Int) := by omega
      by_cases h1 : 65 ≤ x.toNat
      · by_cases h2 : x.toNat ≤ 90
        · have d1 : decide ((65 : Int) ≤ (x.toNat : Int)) = true := by simp; omega
          have d2 : decide ((x.toNat : Int) ≤ 90) = true := by simp; omega
          have HL := Lib.hid (show (x.toNat : Int) + 97 - 65 = ((lowC x).toNat : Int) by rw [lowC_nat, if_pos ⟨h1, h2⟩]; omega)
          go_wp2_with (fail)
          go_roundw
          case rel =>
            refine ⟨k + 1, by omega, by go_num, ?_, HB.out.setCell (by simp) _⟩
            show WrB _ _ _ _
            rw [← foldTo_set s hlt, ← HX.out, HL.out]
            exact HW.out.set k _
          case measure => simp [intOf]; omega
        · have d1 : decide ((65 : Int) ≤ (x.toNat : Int)) = true := by simp; omega
          have d2 : decide ((x.toNat : Int) ≤ 90) = false := by simp; omega
          go_wp2_with (fail)
          go_roundw
          case rel =>
            refine ⟨k + 1, by omega, by go_num, ?_, HB.out⟩
            show WrB _ _ _ _
            rw [← foldTo_same s hlt (by rw [← HX.out]; unfold lowC; rw [if_neg (by omega)])]
            exact HW.out
          case measure => simp [intOf]; omega
      · have d1 : decide ((65 : Int) ≤ (x.toNat : Int)) = false := by simp; omega
        go_wp2_with (fail)
        go_roundw
        case rel =>
          refine ⟨k + 1, by omega, by go_num, ?_, HB.out⟩
          show WrB _ _ _ _
          rw [← foldTo_same s hlt (by rw [← HX.out]; unfold lowC; rw [if_neg (by omega)])]
          exact HW.out
        case measure => simp [intOf]; omega
    · obtain rfl : k = s.length := by omega
      have HS := Lib.hid (foldTo_end s)
      have hle := foldTo_len s (Nat.le_refl s.length)
      have kc := conv_str (P := Tryd.prog) wr Tryd.underlying63 Tryd.underlying5 Tryd.underlying9 (HW.out.reads (c := c) (by omega) hc2 (by omega))
      rw [hle, HS.out] at kc
      clear hlt hle
      go_wp2_with (fail)
      go_ret
      exact RetV.str rfl HB.out
end Go.Proofs.YtkofjkadmknmjaaDoor
