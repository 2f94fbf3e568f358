/-
  Lemmas (walks and plain laws), in one text.
-/
import Derived.Test.YtkofjkadmknmjaaDoorVd3
import Derived.Test.YtkofjkadmknmjaaDoorRows
import Derived.WalkKit
import Derived.WalkSpells
import Derived.WalkLawsBesides
import Derived.Lib.Hide
import Derived.Deep.QuietTactic
import Derived.BigQuiet
import Derived.Maps.AppendAt
import Derived.WalkSmall
import Derived.ProofKit
import Derived.OpenShut
import Derived.JoinedCond
import Derived.Deep.Slices
import Derived.Deep.Fields
import Derived.Carry
import Derived.Shelf.Small.Wraps
import Derived.Shelf.Utf8.RuneCount
import Derived.Shelf.Strconv.Itoa0
import Derived.Shelf.Strconv.Itoa1
import Derived.Shelf.LaysM
import Derived.Shelf.Strconv.Itoa2
import Derived.Shelf.Strconv.Itoa3
import Derived.Shelf.Strings.Search1
import Derived.Shelf.Strings.Search2
import Derived.Shelf.Strings.Search3
import Derived.Shelf.Strings.Count
import Derived.Shelf.Strings.Shaped
import Derived.Shelf.Strings.Prefix
import Derived.Shelf.Strings.Split
import Derived.Shelf.Strings.SplitShaped
import Derived.Shelf.Unicode.DecodeSlow
import Derived.Test.YtkofjkadmknmjaaDoorProg
import Derived.Deep.AppendSrc
import Derived.Lib.AppendStr
import Derived.Laws.BytesArg
import Derived.Lib.AppendIntMem
import Derived.Lib.ItoaLen
import Derived.Test.YtkofjkadmknmjaaDoorTie
import Derived.Lib.LaidTab
import Derived.LaidMore
import Derived.Stop.LaidErr
import Derived.SevenTiedAt
import Derived.HandedShaped
import Derived.Test.YtkofjkadmknmjaaDoorCards
import Derived.Deep.CutBlock
import Derived.Deep.DeepCutAuto
import Derived.Laws.IdiomStrings
import Derived.Outline
import Derived.IntWalk
import Derived.StillTail
import Derived.Laws.Tables
import Derived.Laws.Rows
import Derived.ChangeKeysEq
import Derived.Laws.StructEq
import Derived.Lib.AppendZeros
import Derived.Deep.Quiet
import Derived.OwnWalk
import Derived.Lib.TrailingZeros
import Derived.Lib.SplitLaws
import Derived.Lib.ItoaNum
import Derived.Shelf.Strings.PiecesUse
namespace Go.Proofs.YtkofjkadmknmjaaDoor
open Go.RowKit

section
variable {P : Program} {w : World}
theorem Str.agg {ty : TypeId} {n : Nat} (S : Str P ty n) (w : World) : (isAgg ty).run P w = .ok true w := by
  obtain ⟨d, h1, h2⟩ := S.desc
  unfold isAgg
  rw [Sem.run_bind, run_underlying h1 w]
  cases d <;> simp_all
theorem Str.sizeOf {ty : TypeId} {n : Nat} (S : Str P ty n) (w : World) : (Go.sizeOf ty).run P w = .ok n w := by
  have h := S.size
  cases hq : P.info? ty with
  | none => rw [hq] at h; cases h
  | some i =>
    rw [hq] at h
    simp at h
    simp [Go.sizeOf, typeInfo, hq, h]
theorem Blk.all {g : Nat} {cs : Array Value} (h : Blk w g cs) (j : Nat) (u : Value) (hu : cs[j]? = some u) : w.cell? ⟨g, 0 + j, none⟩ = some u := by rw [Nat.zero_add]; exact h.cell hu
end
/-! Equality. -/
def eqF (d : Nat) (xs ys : Array Value) : List (Bool × TypeId × Nat) → Sem Bool
  | [] => pure true
  | (b, t, off) :: r => if b = false then do
      let a ← part t xs off
      let c ← part t ys off
      let q ← Op.equalIn d t a c
      if (!q) = true then pure false else eqF d xs ys r
    else eqF d xs ys r
theorem eqFields_eqF (d : Nat) (xs ys : Array Value) : ∀ fs : List Field, Op.eqFields d xs ys fs = eqF d xs ys (fs.map fun f => (f.name == "_", f.type, f.offset))
  | [] => rfl
  | f :: fs => by
    rw [List.map_cons, eqF, Op.eqFields, eqFields_eqF d xs ys fs]
    by_cases h : f.name = "_"
    · simp [h]
    · have h' : (f.name == "_") = false := by simpa using h
      simp [h, h']
section
variable {P : Program} {w : World}
theorem eqF_nil (d : Nat) (xs ys : Array Value) : (eqF d xs ys []).run P w = .ok true w := by simp [eqF]
theorem eqF_cons (d : Nat) (xs ys : Array Value) (t : TypeId) (off : Nat) (r : List (Bool × TypeId × Nat)) {a b : Value} {p q : Bool} (ha : (part t xs off).run P w = .ok a w) (hb : (part t ys off).run P w = .ok b w)
    (he : (Op.equalIn d t a b).run P w = .ok p w) (hr : (eqF d xs ys r).run P w = .ok q w) : (eqF d xs ys ((false, t, off) :: r)).run P w = .ok (p && q) w := by
  simp only [eqF, if_true, Sem.run_bind, ha, hb, he, Result.andThen_ok, Sem.run_ite, hr, Sem.run_pure]
  cases p <;> simp
theorem eqS (d : Nat) {t : TypeId} (xs ys : Array Value) (l : List (Bool × TypeId × Nat)) (ht : P.underlying t = some (.struct (P.fieldsOf t))) (hp : P.stoodInHeld t = false) (hl : (P.fieldsOf t).toList.map (fun f => (f.name == "_", f.type, f.offset)) = l)
    {q : Bool} (h : (eqF d xs ys l).run P w = .ok q w) : (Op.equalIn (d + 1) t (.agg xs) (.agg ys)).run P w = .ok q w := by
  rw [run_equalIn_struct w d t xs ys ht hp, eqFields_eqF, hl, h]
end
theorem plain3 : Tryd.prog.plainKey 3 = true := by kernel_rfl
theorem plainS : Tryd.prog.plainKey 9 = true := by kernel_rfl
abbrev Val.c3 (x : Val) : Array Value := #[.int .i64 x.kind, .int .i64 x.n, .string (str x.s)]
theorem f_val : (Tryd.prog.fieldsOf 23).toList.map (fun f => (f.name == "_", f.type, f.offset)) = [(false, 3, 0), (false, 3, 1), (false, 9, 2)] := by kernel_rfl
theorem u_val : Tryd.prog.underlying 23 = some (.struct (Tryd.prog.fieldsOf 23)) := by kernel_rfl
theorem h_val : Tryd.prog.stoodInHeld 23 = false := by kernel_rfl
set_option maxRecDepth 100000 in
theorem eq_val (d : Nat) (x y : Val) (w : World) : (Op.equalIn (d + 2) 23 (.agg x.c3) (.agg y.c3)).run Tryd.prog w = .ok (decide (x = y)) w := by
  have h : (eqF (d + 1) x.c3 y.c3 [(false, 3, 0), (false, 3, 1), (false, 9, 2)]).run Tryd.prog w = .ok (x.kind == y.kind && (x.n == y.n && ((str x.s).toList == (str y.s).toList && true))) w :=
    eqF_cons _ _ _ _ _ _ (run_part_plain w plain3 rfl) (run_part_plain w plain3 rfl) (run_equalIn_int w d _ _ _ _ _ Tryd.underlying3)
    (eqF_cons _ _ _ _ _ _ (run_part_plain w plain3 rfl) (run_part_plain w plain3 rfl) (run_equalIn_int w d _ _ _ _ _ Tryd.underlying3)
      (eqF_cons _ _ _ _ _ _ (run_part_plain w plainS rfl) (run_part_plain w plainS rfl) (run_equalIn_string w d _ _ _ Tryd.underlying9) (eqF_nil _ _ _)))
  rw [eqS (d + 1) _ _ _ u_val h_val f_val h]
  congr 1
  rw [Bool.eq_iff_iff]
  obtain ⟨a, b, c⟩ := x
  obtain ⟨a', b', c'⟩ := y
  simp
end Go.Proofs.YtkofjkadmknmjaaDoor
namespace Go.Proofs.YtkofjkadmknmjaaDoor
open Go.RowKit

/-- How far a text has been put in quotes. -/
def QuoAt (s acc : List UInt8) (k : Nat) : Prop := acc ++ ((s.drop k).flatMap quC ++ [34]) = quote s ∧ acc.length ≤ 4 * k + 1
theorem QuoAt.step {s acc : List UInt8} {k : Nat} (h : QuoAt s acc k) (hk : k < s.length) : QuoAt s (acc ++ quC s[k]) (k + 1) := by
  refine ⟨?_, ?_⟩
  · rw [← h.1, List.drop_eq_getElem_cons hk, List.flatMap_cons]; simp
  · have := h.2
    have hq : (quC s[k]).length ≤ 4 := by
      unfold quC
      split
      · simp
      · split <;> simp
    rw [List.length_append]; omega
theorem quC_hex {c : UInt8} (h : c.toNat < 32 ∨ 126 < c.toNat) : quC c = [92, 120, hexD (c.toNat / 16), hexD (c.toNat % 16)] := by unfold quC; rw [if_pos h]
theorem quC_esc {c : UInt8} (h : ¬ (c.toNat < 32 ∨ 126 < c.toNat)) (h2 : c.toNat = 34 ∨ c.toNat = 92) : quC c = [92, c] := by
  unfold quC; rw [if_neg h, if_pos (h2.imp (fun h => UInt8.toNat_inj.1 h) (fun h => UInt8.toNat_inj.1 h))]
theorem quC_one {c : UInt8} (h : ¬ (c.toNat < 32 ∨ 126 < c.toNat)) (h2 : ¬ (c.toNat = 34 ∨ c.toNat = 92)) : quC c = [c] := by
  unfold quC; rw [if_neg h, if_neg (fun h3 => h2 (h3.imp (fun h => by rw [h]; rfl) (fun h => by rw [h]; rfl)))]
end Go.Proofs.YtkofjkadmknmjaaDoor
namespace Go.Proofs.YtkofjkadmknmjaaDoor
open Go.RowKit

/-- What stands between quotes, by any bytes behind a backslash; the last byte is not read. -/
def opn : List UInt8 → List UInt8
  | [] => []
  | [_] => []
  | c :: d :: r =>
    if c.toNat ≠ 92 then c :: opn (d :: r)
    else match r with
      | a :: b :: r2 => if d.toNat = 120 ∧ hexV a ≤ 15 ∧ hexV b ≤ 15 then UInt8.ofNat (16 * hexV a + hexV b) :: opn r2 else d :: opn (a :: b :: r2)
      | [a] => d :: opn [a]
      | [] => [d]
termination_by l => l.length
theorem opn_two (c d : UInt8) (r : List UInt8) : opn (c :: d :: r) = if c.toNat ≠ 92 then c :: opn (d :: r)
    else match r with
      | a :: b :: r2 => if d.toNat = 120 ∧ hexV a ≤ 15 ∧ hexV b ≤ 15 then UInt8.ofNat (16 * hexV a + hexV b) :: opn r2 else d :: opn (a :: b :: r2)
      | [a] => d :: opn [a]
      | [] => [d] := opn.eq_def (c :: d :: r)
theorem opn_plain {c : UInt8} {r : List UInt8} (h : c.toNat ≠ 92) (hr : r ≠ []) : opn (c :: r) = c :: opn r := by
  cases r with
  | nil => exact absurd rfl hr
  | cons d r => rw [opn_two, if_pos h]
theorem opn_hex {c d a b : UInt8} {r : List UInt8} (hc : c.toNat = 92) (h : d.toNat = 120 ∧ hexV a ≤ 15 ∧ hexV b ≤ 15) : opn (c :: d :: a :: b :: r) = UInt8.ofNat (16 * hexV a + hexV b) :: opn r := by
  rw [opn_two, if_neg (by omega)]
  exact if_pos h
end Go.Proofs.YtkofjkadmknmjaaDoor
namespace Go.Proofs.YtkofjkadmknmjaaDoor
open Go.RowKit

def OpnAt (t acc : List UInt8) (k : Nat) : Prop := acc ++ opn (t.drop k) = opn (t.drop 1) ∧ acc.length ≤ k
theorem OpnAt.end {t acc : List UInt8} {k : Nat} (h : OpnAt t acc k) (hk : t.length ≤ k + 1) : acc = opn (t.drop 1) := by
  rw [← h.1]
  have : opn (t.drop k) = [] := by
    match e : t.drop k with
    | [] => rw [opn]
    | [c] => rw [opn]
    | c :: d :: r =>
      have := congrArg List.length e
      rw [List.length_drop] at this
      simp at this
      omega
  rw [this, List.append_nil]
theorem OpnAt.plain {t acc : List UInt8} {k : Nat} (h : OpnAt t acc k) (hk : k + 1 < t.length) (hc : (t[k]'(by omega)).toNat ≠ 92) : OpnAt t (acc ++ [t[k]'(by omega)]) (k + 1) := by
  refine ⟨?_, by have := h.2; simp; omega⟩
  rw [← h.1, List.drop_eq_getElem_cons (show k < t.length by omega), opn_plain hc (by
    intro e
    have := congrArg List.length e
    rw [List.length_drop] at this
    simp at this; omega)]
  simp
theorem OpnAt.hex {t acc : List UInt8} {k : Nat} (h : OpnAt t acc k) (h3 : k + 3 < t.length) (hc : (t[k]'(by omega)).toNat = 92)
    (hn : (t[k + 1]'(by omega)).toNat = 120 ∧ hexV (t[k + 2]'(by omega)) ≤ 15 ∧ hexV (t[k + 3]'h3) ≤ 15) : OpnAt t (acc ++ [UInt8.ofNat (16 * hexV (t[k + 2]'(by omega)) + hexV (t[k + 3]'h3))]) (k + 4) := by
  refine ⟨?_, by have := h.2; simp; omega⟩
  rw [← h.1, List.drop_eq_getElem_cons (show k < t.length by omega), List.drop_eq_getElem_cons (show k + 1 < t.length by omega), List.drop_eq_getElem_cons (show k + 1 + 1 < t.length by omega), List.drop_eq_getElem_cons (show k + 1 + 1 + 1 < t.length by omega), opn_hex hc hn]
  simp
end Go.Proofs.YtkofjkadmknmjaaDoor
namespace Go.Proofs.YtkofjkadmknmjaaDoor
open Go.RowKit

set_option maxHeartbeats 400000 in
theorem c_value_Check (x : Val) (w : World) (hs : x.s.length ≤ 9223372036854775807) : Calls Tryd.prog 14 #[x.val] w (RetV w (.bool x.ok)) := by
  unfold Val.val
  go_enter Tryd.func14, Tryd.ntmps14
  go_wp2
  all_goals (go_ret; refine RetV.bool ?_ (by repeat (first | exact Below.refl _ _ | refine Below.drew ?_ | refine Below.alloc ?_ (by first | omega | (simp; done) | (simp; omega)) _ | refine Below.setCell ?_ (by first | omega | (simp; done) | (simp; omega)) _ | refine Below.trans ?_ (Below.mono (by assumption) (by first | omega | (simp; done) | (simp; omega))))); simp_all [Val.ok]; try omega)
end Go.Proofs.YtkofjkadmknmjaaDoor
namespace Go.Proofs.YtkofjkadmknmjaaDoor
open Go.RowKit

def showV (x : Val) : List UInt8 := if x.ok then (if x.kind = 1 then tens x.n.toNat else if x.kind = 2 then quote x.s else [45]) else []
theorem showV_bad {x : Val} (h : x.ok = false) : showV x = [] := by unfold showV; rw [h]; rfl
theorem showV_num {x : Val} (h : x.ok = true) (hk : x.kind = 1) : showV x = tens x.n.toNat := by unfold showV; rw [if_pos h, if_pos hk]
theorem showV_text {x : Val} (h : x.ok = true) (hk : x.kind = 2) : showV x = quote x.s := by unfold showV; rw [if_pos h, if_neg (by omega), if_pos hk]
theorem showV_none {x : Val} (h : x.ok = true) (h1 : x.kind ≠ 1) (h2 : x.kind ≠ 2) : showV x = [45] := by unfold showV; rw [if_pos h, if_neg h1, if_neg h2]
theorem Val.num_bd {x : Val} (h : x.ok = true) (hk : x.kind = 1) : 0 ≤ x.n ∧ x.n ≤ 1099511627776 := by
  unfold Val.ok at h
  rw [if_neg (by omega), if_pos hk] at h
  simp only [Bool.and_eq_true, decide_eq_true_eq] at h
  exact h.1
theorem Val.text_bd {x : Val} (h : x.ok = true) (hk : x.kind = 2) : x.s.length ≤ 24 := by
  unfold Val.ok at h
  rw [if_neg (by omega), if_neg (by omega), if_pos hk] at h
  simp only [Bool.and_eq_true, decide_eq_true_eq] at h
  exact h.2
end Go.Proofs.YtkofjkadmknmjaaDoor
namespace Go.Proofs.YtkofjkadmknmjaaDoor
open Go.RowKit

/-- A world behind the making of two blocks, in which they are as they were made. -/
def At2 (w w' : World) (cs ds : Array Value) : Prop := Below w.heap.size w w' ∧ Blk w' w.heap.size cs ∧ Blk w' (w.heap.size + 1) ds
theorem At2.new (w : World) (s t : TypeId) (cs ds : Array Value) : At2 w ((w.alloc (.cells cs s)).alloc (.cells ds t)) cs ds := by
  have h := (At.new w s cs).alloc (.cells ds t)
  refine ⟨h.1, h.2, ?_⟩
  have := Blk.new (w.alloc (.cells cs s)) t ds
  simpa using this
theorem At2.step {w w1 w2 : World} {cs ds : Array Value} (h : At2 w w1 cs ds) (hb : Below w1.heap.size w1 w2) : At2 w w2 cs ds := ⟨h.1.trans (hb.mono h.1.size), h.2.1.below hb h.2.1.lt, h.2.2.below hb h.2.2.lt⟩
end Go.Proofs.YtkofjkadmknmjaaDoor
namespace Go.Proofs.YtkofjkadmknmjaaDoor

/-- l begins with n trees, r stands behind them; d: how deep the deepest is. -/
inductive Trees : Nat → List Node → List Node → Nat → Prop
  | nil (l : List Node) : Trees 0 l l 0
  | cons {x : Node} {l m r : List Node} {n d1 d2 : Nat} : Trees (parts x.op).toNat l m d1 → Trees n m r d2 → Trees (n + 1) (x :: l) r (max (d1 + 1) d2)

theorem Trees.length {n : Nat} {l r : List Node} {d : Nat} (h : Trees n l r d) : r.length + n ≤ l.length := by
  induction h with
  | nil l => simp
  | cons _ _ h1 h2 => simp only [List.length_cons]; omega
theorem Trees.zero {l r : List Node} {d : Nat} (h : Trees 0 l r d) : l = r ∧ d = 0 := by cases h; exact ⟨rfl, rfl⟩
theorem Trees.depth_pos {n : Nat} {l r : List Node} {d : Nat} (h : Trees n l r d) : n = 0 ∨ 1 ≤ d := by
  cases h with
  | nil l => exact .inl rfl
  | cons _ _ => right; omega
theorem Trees.append {n k : Nat} {l m r : List Node} {d1 d2 : Nat} (h : Trees n l m d1) : Trees k m r d2 → Trees (n + k) l r (max d1 d2) := by
  induction h generalizing k r d2 with
  | nil l => intro h; simpa using h
  | cons t1 _ _ ih2 =>
    intro h
    have := Trees.cons t1 (ih2 h)
    rw [← Nat.max_assoc] at this
    rw [Nat.add_right_comm]
    exact this
theorem Trees.split {k : Nat} : ∀ {n : Nat} {l r : List Node} {d : Nat}, Trees (n + k) l r d → ∃ m d1 d2, Trees n l m d1 ∧ Trees k m r d2 ∧ d = max d1 d2
  | 0, l, r, d, h => ⟨l, 0, d, .nil l, by simpa using h, by simp⟩
  | n + 1, l, r, d, h => by
    rw [Nat.add_right_comm] at h
    cases h with
    | cons t1 t2 =>
      obtain ⟨m, e1, e2, h1, h2, rfl⟩ := Trees.split t2
      exact ⟨m, _, e2, .cons t1 h1, h2, (Nat.max_assoc ..).symm⟩
/-- What stands behind does not matter. -/
theorem Trees.behind {n : Nat} {l r : List Node} {d : Nat} (h : Trees n l r d) : ∃ p, l = p ++ r ∧ ∀ q, Trees n (p ++ q) q d := by
  induction h with
  | nil l => exact ⟨[], rfl, fun q => .nil q⟩
  | @cons x l m r n d1 d2 _ _ h1 h2 =>
    obtain ⟨p1, rfl, g1⟩ := h1
    obtain ⟨p2, rfl, g2⟩ := h2
    exact ⟨x :: (p1 ++ p2), by simp, fun q => by
      have := Trees.cons (x := x) (g1 (p2 ++ q)) (g2 q)
      simpa using this⟩
/-- A list that is one tree. -/
def Tree (l : List Node) (d : Nat) : Prop := Trees 1 l [] d
theorem Tree.pos {l : List Node} {d : Nat} (h : Tree l d) : 1 ≤ d := (Trees.depth_pos h).resolve_left (by omega)
theorem Tree.head {l : List Node} {d : Nat} (h : Tree l d) : ∃ x r d', l = x :: r ∧ Trees (parts x.op).toNat r [] d' ∧ d = d' + 1 := by
  unfold Tree at h
  cases h with
  | cons t1 t2 =>
    obtain ⟨rfl, rfl⟩ := t2.zero
    exact ⟨_, _, _, rfl, t1, by omega⟩
/-! What trees are cut into. -/
def cut : Nat → List Node → List (List Node)
  | 0, _ => []
  | n + 1, l => l.take (endFrom l 1 0).toNat :: cut n (l.drop (endFrom l 1 0).toNat)
/-! How deep: by the places that are open. -/
def dec : List Int → List Int
  | [] => []
  | x :: s => if x - 1 = 0 then dec s else (x - 1) :: s
def push (p : Int) (s : List Int) : List Int := if p = 0 then dec s else p :: s
def deepFold : List Node → List Int → Int → Int
  | [], _, d => d
  | x :: r, s, d => deepFold r (push (parts x.op) s) (max d (s.length + 1))
/-- How deep a filter is; 0 where it is none. -/
def depth (l : List Node) : Int := if l = [] ∨ endAt l 0 ≠ l.length then 0 else deepFold l [] 0
end Go.Proofs.YtkofjkadmknmjaaDoor
namespace Go.Proofs.YtkofjkadmknmjaaDoor
open Go.RowKit

theorem Kid.cells_len (x : Kid) : x.cells.length = 1 := rfl
end Go.Proofs.YtkofjkadmknmjaaDoor
namespace Go.Proofs.YtkofjkadmknmjaaDoor
open Go.RowKit

def joined (op : Int) (l : List Node) : List Node := ⟨op, 0, ⟨0, 0, []⟩⟩ :: l
theorem Tree.ahead {a : List Node} {d : Nat} (h : Tree a d) (q : List Node) : Trees 1 (a ++ q) q d := by
  obtain ⟨p, hp, hq⟩ := Trees.behind h
  rw [List.append_nil] at hp
  subst hp
  exact hq q
end Go.Proofs.YtkofjkadmknmjaaDoor
namespace Go.Proofs.YtkofjkadmknmjaaDoor
open Go.RowKit

theorem InN.lit (w : World) (l : List Node) (t : TypeId) (n : Nat) (hn : n = l.length) (hl : l.length ≤ 4294967296) : InN (w.alloc (.cells (l.flatMap Node.cells).toArray t)) (some ⟨w.heap.size, 0, none⟩) n l := by
  subst hn
  refine ⟨Nat.le_refl _, by omega, hl, .inr ⟨_, 0, rfl, by simp, fun i hi j u hu => ?_⟩⟩
  have hj : j < 5 := by rw [← Node.cells_len l[i]]; exact (List.getElem?_eq_some_iff.1 hu).1
  rw [World.cell?_alloc_new, Nat.zero_add]
  have := flat_get (k := 5) Node.cells_len l i hi j hj
  rw [List.getElem?_toArray, this]; exact hu
end Go.Proofs.YtkofjkadmknmjaaDoor
namespace Go.Proofs.YtkofjkadmknmjaaDoor
open Go.RowKit

theorem In.lit {α : Type} {k : Nat} {cs : α → List Value} (hk : ∀ x, (cs x).length = k) (w : World) (l : List α) (t : TypeId) (n : Nat) (hn : n = l.length) (hl : l.length ≤ 4294967296) : In k cs (w.alloc (.cells (l.flatMap cs).toArray t)) (some ⟨w.heap.size, 0, none⟩) n l := by
  subst hn
  refine ⟨Nat.le_refl _, by omega, hl, .inr ⟨_, 0, rfl, by simp, fun i hi j u hu => ?_⟩⟩
  have hj : j < k := by rw [← hk l[i]]; exact (List.getElem?_eq_some_iff.1 hu).1
  rw [World.cell?_alloc_new, Nat.zero_add]
  have := flat_get (k := k) hk l i hi j hj
  rw [List.getElem?_toArray, this]; exact hu
end Go.Proofs.YtkofjkadmknmjaaDoor
namespace Go.Proofs.YtkofjkadmknmjaaDoor

def cmpI (a b : Int) : Int := if a < b then -1 else if b < a then 1 else 0
theorem cmpI_lt {a b : Int} (h : a < b) : cmpI a b = -1 := by unfold cmpI; rw [if_pos h]
theorem cmpI_gt {a b : Int} (h : b < a) : cmpI a b = 1 := by unfold cmpI; rw [if_neg (by omega), if_pos h]
theorem cmpI_eq {a b : Int} (h : a = b) : cmpI a b = 0 := by unfold cmpI; rw [if_neg (by omega), if_neg (by omega)]
theorem cmpI_zero {a b : Int} : cmpI a b = 0 ↔ a = b := by
  constructor
  · intro h
    rcases Int.lt_trichotomy a b with h1 | h1 | h1
    · rw [cmpI_lt h1] at h; cases h
    · exact h1
    · rw [cmpI_gt h1] at h; cases h
  · exact cmpI_eq
theorem cmpI_bd (a b : Int) : -1 ≤ cmpI a b ∧ cmpI a b ≤ 1 := by
  rcases Int.lt_trichotomy a b with h1 | h1 | h1
  · rw [cmpI_lt h1]; omega
  · rw [cmpI_eq h1]; omega
  · rw [cmpI_gt h1]; omega
theorem cmpI_neg (a b : Int) : cmpI b a = -cmpI a b := by
  rcases Int.lt_trichotomy a b with h1 | h1 | h1
  · rw [cmpI_lt h1, cmpI_gt h1]; rfl
  · rw [cmpI_eq h1, cmpI_eq h1.symm]; rfl
  · rw [cmpI_gt h1, cmpI_lt h1]
theorem cmpI_self (a : Int) : cmpI a a = 0 := cmpI_eq rfl
def cmpS : List UInt8 → List UInt8 → Int
  | [], [] => 0
  | [], _ :: _ => -1
  | _ :: _, [] => 1
  | a :: x, b :: y => if a.toNat < b.toNat then -1 else if b.toNat < a.toNat then 1 else cmpS x y
theorem cmpS_bd : ∀ a b, -1 ≤ cmpS a b ∧ cmpS a b ≤ 1
  | [], [] => by simp [cmpS]
  | [], _ :: _ => by simp [cmpS]
  | _ :: _, [] => by simp [cmpS]
  | a :: x, b :: y => by
    unfold cmpS
    split
    · omega
    · split
      · omega
      · exact cmpS_bd x y
theorem cmpS_neg : ∀ a b, cmpS b a = -cmpS a b
  | [], [] => rfl
  | [], _ :: _ => rfl
  | _ :: _, [] => rfl
  | a :: x, b :: y => by
    have ih := cmpS_neg x y
    unfold cmpS
    by_cases h1 : a.toNat < b.toNat
    · rw [if_neg (by omega), if_pos h1, if_pos h1]; rfl
    · by_cases h2 : b.toNat < a.toNat
      · rw [if_pos h2, if_neg h1, if_pos h2]
      · rw [if_neg h2, if_neg h1, if_neg h1, if_neg h2]; exact ih
theorem cmpS_zero : ∀ a b, cmpS a b = 0 ↔ a = b
  | [], [] => by simp [cmpS]
  | [], _ :: _ => by simp [cmpS]
  | _ :: _, [] => by simp [cmpS]
  | a :: x, b :: y => by
    have ih := cmpS_zero x y
    unfold cmpS
    by_cases h1 : a.toNat < b.toNat
    · rw [if_pos h1]; constructor
      · intro h; cases h
      · intro h; injection h with h2; subst h2; omega
    · by_cases h2 : b.toNat < a.toNat
      · rw [if_neg h1, if_pos h2]; constructor
        · intro h; cases h
        · intro h; injection h with h3; subst h3; omega
      · rw [if_neg h1, if_neg h2, ih]
        have : a = b := UInt8.toNat_inj.1 (by omega)
        subst this
        simp
theorem bytesLess_cmp : ∀ a b : List UInt8, Op.bytesLess a b = decide (cmpS a b = -1)
  | [], [] => rfl
  | [], _ :: _ => rfl
  | _ :: _, [] => rfl
  | a :: x, b :: y => by
    have ih := bytesLess_cmp x y
    unfold Op.bytesLess cmpS
    by_cases h1 : a.toNat < b.toNat
    · rw [if_pos h1]; simp [UInt8.lt_iff_toNat_lt, h1]
    · by_cases h2 : b.toNat < a.toNat
      · rw [if_neg h1, if_pos h2]
        have hne : a ≠ b := fun e => by subst e; omega
        simp [UInt8.lt_iff_toNat_lt, h1, hne]
      · have : a = b := UInt8.toNat_inj.1 (by omega)
        subst this
        rw [if_neg h1, if_neg h2, ih]
        simp
theorem beq_cmp (a b : List UInt8) : (a == b) = decide (cmpS a b = 0) := by
  rw [Bool.eq_iff_iff]; simp [cmpS_zero]
def Val.cmp (a b : Val) : Int := if cmpI a.kind b.kind ≠ 0 then cmpI a.kind b.kind else if cmpI a.n b.n ≠ 0 then cmpI a.n b.n else cmpS a.s b.s
theorem Val.cmp_bd (a b : Val) : -1 ≤ a.cmp b ∧ a.cmp b ≤ 1 := by
  unfold Val.cmp
  have h1 := cmpI_bd a.kind b.kind
  have h2 := cmpI_bd a.n b.n
  have h3 := cmpS_bd a.s b.s
  split
  · exact h1
  · split
    · exact h2
    · exact h3
theorem Val.cmp_neg (a b : Val) : b.cmp a = -a.cmp b := by
  unfold Val.cmp
  rw [cmpI_neg a.kind b.kind, cmpI_neg a.n b.n, cmpS_neg a.s b.s]
  by_cases h1 : cmpI a.kind b.kind = 0
  · by_cases h2 : cmpI a.n b.n = 0
    · simp [h1, h2]
    · simp [h1, h2]
  · simp [h1]
theorem Val.cmp_zero (a b : Val) : a.cmp b = 0 ↔ a = b := by
  unfold Val.cmp
  obtain ⟨k, n, s⟩ := a
  obtain ⟨k', n', s'⟩ := b
  simp only [Val.mk.injEq]
  by_cases h1 : k = k'
  · by_cases h2 : n = n'
    · subst h1; subst h2; simp [cmpI_self, cmpS_zero]
    · have := mt cmpI_zero.1 h2
      simp [cmpI_eq h1, this, h2]
  · have := mt cmpI_zero.1 h1
    simp [this, h1]
def Node.cmp (a b : Node) : Int := if cmpI a.op b.op ≠ 0 then cmpI a.op b.op else if cmpI a.n b.n ≠ 0 then cmpI a.n b.n else a.v.cmp b.v
theorem Node.cmp_bd (a b : Node) : -1 ≤ a.cmp b ∧ a.cmp b ≤ 1 := by
  unfold Node.cmp
  have h1 := cmpI_bd a.op b.op
  have h2 := cmpI_bd a.n b.n
  have h3 := Val.cmp_bd a.v b.v
  split
  · exact h1
  · split
    · exact h2
    · exact h3
theorem Node.cmp_neg (a b : Node) : b.cmp a = -a.cmp b := by
  unfold Node.cmp
  rw [cmpI_neg a.op b.op, cmpI_neg a.n b.n, Val.cmp_neg a.v b.v]
  by_cases h1 : cmpI a.op b.op = 0
  · by_cases h2 : cmpI a.n b.n = 0
    · simp [h1, h2]
    · simp [h1, h2]
  · simp [h1]
theorem Val.cmp_self (a : Val) : a.cmp a = 0 := (Val.cmp_zero a a).2 rfl
theorem Node.cmp_zero (a b : Node) : a.cmp b = 0 ↔ a = b := by
  unfold Node.cmp
  obtain ⟨k, n, s⟩ := a
  obtain ⟨k', n', s'⟩ := b
  simp only [Node.mk.injEq]
  by_cases h1 : k = k'
  · by_cases h2 : n = n'
    · subst h1; subst h2; simp [cmpI_self, Val.cmp_zero]
    · have := mt cmpI_zero.1 h2
      simp [cmpI_eq h1, this, h2]
  · have := mt cmpI_zero.1 h1
    simp [this, h1]
theorem Node.cmp_self (a : Node) : a.cmp a = 0 := (Node.cmp_zero a a).2 rfl
end Go.Proofs.YtkofjkadmknmjaaDoor
