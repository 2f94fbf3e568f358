/-
  Lemmas (walks and plain laws), in one text.
-/
import Derived.Test.YtldoedmclfbgpaaEa1
import Derived.Deep.CutBlock
import Derived.Deep.DeepCutAuto
import Derived.Test.YtldoedmclfbgpaaProg
import Derived.Ground.Names2Prog
import Derived.Ground.SlgnProg
import Derived.Shelf.LaysM
import Derived.Shelf.Slices.Clone
import Derived.Shelf.Slices.SearchI
import Derived.Shelf.SlicesE.Clone
import Derived.Shelf.Small.Strs
import Derived.Shelf.Small.Wraps
import Derived.Shelf.Strconv.Itoa0
import Derived.Shelf.Strconv.Itoa1
import Derived.Shelf.Strconv.Itoa2
import Derived.Shelf.Strconv.Itoa3
import Derived.Shelf.Strings.Builder1
import Derived.Shelf.Strings.Search1
import Derived.Shelf.Strings.Search2
import Derived.Shelf.Strings.Search3
import Derived.Shelf.Strings.Shaped
import Derived.Lib.AppendIntMem
import Derived.Lib.ItoaLen
import Derived.Lib.ItoaNum
import Derived.Lib.SplitLaws
import Derived.Lib.TrailingZeros
import Derived.Shelf.Strings.PiecesUse
import Derived.StillTail
import Derived.Great.BuildSlice
import Derived.Laws.Tables
namespace Go.Proofs.Ytldoedmclfbgpaa
open Go.RowKit

set_option maxHeartbeats 400000 in
theorem c_value_Check (x : Val) (w : World) (hs : x.s.length ≤ 9223372036854775807) : Calls Try.prog 130 #[x.val] w (RetV w (.bool x.ok)) := by
  unfold Val.val
  go_enter Try.func130, Try.ntmps130
  go_wp2
  all_goals (go_ret; refine RetV.bool ?_ (by repeat (first | exact Below.refl _ _ | refine Below.drew ?_ | refine Below.alloc ?_ (by first | omega | (simp; done) | (simp; omega)) _ | refine Below.setCell ?_ (by first | omega | (simp; done) | (simp; omega)) _ | refine Below.trans ?_ (Below.mono (by assumption) (by first | omega | (simp; done) | (simp; omega))))); simp_all [Val.ok]; try omega)
set_option maxHeartbeats 400000 in
theorem c_ref04_Check (x : Val) (w : World) (hs : x.s.length ≤ 9223372036854775807) : Calls Try.prog 91 #[x.val] w (RetV w (.bool x.ok)) := by
  unfold Val.val
  go_enter Try.func91, Try.ntmps91
  go_wp2
  all_goals (go_ret; refine RetV.bool ?_ (by repeat (first | exact Below.refl _ _ | refine Below.drew ?_ | refine Below.alloc ?_ (by first | omega | (simp; done) | (simp; omega)) _ | refine Below.setCell ?_ (by first | omega | (simp; done) | (simp; omega)) _ | refine Below.trans ?_ (Below.mono (by assumption) (by first | omega | (simp; done) | (simp; omega))))); simp_all [Val.ok]; try omega)
theorem Val.ok_kind {x : Val} (h : x.ok = true) : x.kind = 0 ∨ x.kind = 1 ∨ x.kind = 2 := by
  unfold Val.ok at h
  by_cases h0 : x.kind = 0
  · exact .inl h0
  · by_cases h1 : x.kind = 1
    · exact .inr (.inl h1)
    · by_cases h2 : x.kind = 2
      · exact .inr (.inr h2)
      · simp [h0, h1, h2] at h
theorem Val.ok_cases (x : Val) : (x.ok = false ∧ x.none = false) ∨ (x.ok = true ∧ x.none = true ∧ x.kind = 0) ∨ (x.ok = true ∧ x.none = false ∧ x.kind = 1) ∨ (x.ok = true ∧ x.none = false ∧ x.kind = 2) := by
  cases h : x.ok
  · simp only [true_and, Bool.false_eq_true, false_and, or_false]
    cases hn : x.none
    · rfl
    · unfold Val.none at hn; unfold Val.ok at h; simp_all
  · rcases Val.ok_kind h with hk | hk | hk <;> simp [Val.none_kind h, hk]
theorem Val.none_ok {x : Val} (h : x.none = true) : x.ok = true := by
  rcases Val.ok_cases x with ⟨h1, h2⟩ | ⟨h1, _⟩ | ⟨h1, _⟩ | ⟨h1, _⟩
  · rw [h] at h2; cases h2
  all_goals exact h1
end Go.Proofs.Ytldoedmclfbgpaa
namespace Go.Proofs.Ytldoedmclfbgpaa

def cmpI (a b : Int) : Int := if a < b then -1 else if b < a then 1 else 0
theorem cmpI_lt {a b : Int} (h : a < b) : cmpI a b = -1 := by unfold cmpI; rw [if_pos h]
theorem cmpI_gt {a b : Int} (h : b < a) : cmpI a b = 1 := by unfold cmpI; rw [if_neg (by omega), if_pos h]
theorem cmpI_eq {a b : Int} (h : a = b) : cmpI a b = 0 := by unfold cmpI; rw [if_neg (by omega), if_neg (by omega)]
def cmpS : List UInt8 → List UInt8 → Int
  | [], [] => 0
  | [], _ :: _ => -1
  | _ :: _, [] => 1
  | a :: x, b :: y => if a.toNat < b.toNat then -1 else if b.toNat < a.toNat then 1 else cmpS x y
theorem cmpS_bd : ∀ a b, -1 ≤ cmpS a b ∧ cmpS a b ≤ 1
  | [], [] => by simp [cmpS]
  | [], _ :: _ => by simp [cmpS]
  | _ :: _, [] => by simp [cmpS]
  | a :: x, b :: y => by
    unfold cmpS
    split
    · omega
    · split
      · omega
      · exact cmpS_bd x y
theorem cmpS_neg : ∀ a b, cmpS b a = -cmpS a b
  | [], [] => rfl
  | [], _ :: _ => rfl
  | _ :: _, [] => rfl
  | a :: x, b :: y => by
    have ih := cmpS_neg x y
    unfold cmpS
    by_cases h1 : a.toNat < b.toNat
    · rw [if_neg (by omega), if_pos h1, if_pos h1]; rfl
    · by_cases h2 : b.toNat < a.toNat
      · rw [if_pos h2, if_neg h1, if_pos h2]
      · rw [if_neg h2, if_neg h1, if_neg h1, if_neg h2]; exact ih
theorem cmpS_zero : ∀ a b, cmpS a b = 0 ↔ a = b
  | [], [] => by simp [cmpS]
  | [], _ :: _ => by simp [cmpS]
  | _ :: _, [] => by simp [cmpS]
  | a :: x, b :: y => by
    have ih := cmpS_zero x y
    unfold cmpS
    by_cases h1 : a.toNat < b.toNat
    · rw [if_pos h1]; constructor
      · intro h; cases h
      · intro h; injection h with h2; subst h2; omega
    · by_cases h2 : b.toNat < a.toNat
      · rw [if_neg h1, if_pos h2]; constructor
        · intro h; cases h
        · intro h; injection h with h3; subst h3; omega
      · rw [if_neg h1, if_neg h2, ih]
        have : a = b := UInt8.toNat_inj.1 (by omega)
        subst this
        simp
theorem bytesLess_cmp : ∀ a b : List UInt8, Op.bytesLess a b = decide (cmpS a b = -1)
  | [], [] => rfl
  | [], _ :: _ => rfl
  | _ :: _, [] => rfl
  | a :: x, b :: y => by
    have ih := bytesLess_cmp x y
    unfold Op.bytesLess cmpS
    by_cases h1 : a.toNat < b.toNat
    · rw [if_pos h1]; simp [UInt8.lt_iff_toNat_lt, h1]
    · by_cases h2 : b.toNat < a.toNat
      · rw [if_neg h1, if_pos h2]
        have hne : a ≠ b := fun e => by subst e; omega
        simp [UInt8.lt_iff_toNat_lt, h1, hne]
      · have : a = b := UInt8.toNat_inj.1 (by omega)
        subst this
        rw [if_neg h1, if_neg h2, ih]
        simp
theorem beq_cmp (a b : List UInt8) : (a == b) = decide (cmpS a b = 0) := by
  rw [Bool.eq_iff_iff]; simp [cmpS_zero]
def Val.cmp (a b : Val) : Int := if cmpI a.kind b.kind ≠ 0 then cmpI a.kind b.kind else if cmpI a.n b.n ≠ 0 then cmpI a.n b.n else cmpS a.s b.s
def Node.cmp (a b : Node) : Int := if cmpI a.op b.op ≠ 0 then cmpI a.op b.op else if cmpI a.n b.n ≠ 0 then cmpI a.n b.n else a.v.cmp b.v
end Go.Proofs.Ytldoedmclfbgpaa
namespace Go.Proofs.Ytldoedmclfbgpaa

/-- Is a value less than another one of its kind? -/
def Val.less (a b : Val) : Bool := decide (a.kind = b.kind) && (decide (a.kind = 1) || decide (a.kind = 2)) && decide (a.cmp b < 0)
/-! Letters made small. -/
def lowC (c : UInt8) : UInt8 := if 65 ≤ c.toNat ∧ c.toNat ≤ 90 then UInt8.ofNat (c.toNat + 32) else c
def fold (s : List UInt8) : List UInt8 := s.map lowC
theorem fold_len (s : List UInt8) : (fold s).length = s.length := by unfold fold; simp
end Go.Proofs.Ytldoedmclfbgpaa
namespace Go.Proofs
open Go.Shelf
def Try.lays144_ren : Go.Shelf.Ren := ⟨fun | 144 => 177 | 143 => 199 | 219 => 216 | 217 => 180 | 225 => 217 | 224 => 218 | 267 => 219 | 266 => 201 | 314 => 220 | n => n, fun | 9 => 9 | 4 => 4 | 3 => 3 | 5 => 5 | 46 => 159 | 146 => 253 | 51 => 34 | n => n, fun | 1 => 0 | n => n⟩
theorem Try.lays144 : Go.Proofs.Lays.n144 Try.prog Try.lays144_ren := {
  mixed := by kernel_rfl
  f143 := Try.func199.trans (congrArg some (by kernel_rfl))
  f144 := Try.func177.trans (congrArg some (by kernel_rfl))
  f217 := Try.func180.trans (congrArg some (by kernel_rfl))
  f219 := Try.func216.trans (congrArg some (by kernel_rfl))
  f224 := Try.func218.trans (congrArg some (by kernel_rfl))
  f225 := Try.func217.trans (congrArg some (by kernel_rfl))
  f266 := Try.func201.trans (congrArg some (by kernel_rfl))
  f267 := Try.func219.trans (congrArg some (by kernel_rfl))
  f314 := Try.func220.trans (congrArg some (by kernel_rfl))
  t3 := Try.underlying3
  a3 := Try.isAgg3
  z3 := Try.sizeOf3
  v3 := Try.zeroValue3
  t4 := Try.underlying4
  a4 := Try.isAgg4
  z4 := Try.sizeOf4
  v4 := Try.zeroValue4
  t5 := Try.underlying5
  a5 := Try.isAgg5
  z5 := Try.sizeOf5
  v5 := Try.zeroValue5
  t9 := Try.underlying9
  a9 := Try.isAgg9
  z9 := Try.sizeOf9
  v9 := Try.zeroValue9
  t46 := Try.underlying159
  a46 := Try.isAgg159
  z46 := Try.sizeOf159
  v46 := Try.zeroValue159
  t51 := Try.underlying34
  a51 := Try.isAgg34
  z51 := Try.sizeOf34
  v51 := Try.zeroValue34
  t146 := Try.underlying253
  a146 := Try.isAgg253
  z146 := Try.sizeOf253
  v146 := Try.zeroValue253
  g1 := by kernel_rfl }
open Go.RowKit Go.Lib in
/-- strings.Contains: "Contains reports whether substr is within s.": IT RETURNS 'Lib.contains s substr'; the world is as it was. (LAID: no walk: one application.) -/
theorem Try.strings_Contains (s sub : ByteArray) (m : Int) (w : World) (hs : s.size < 4294967281) (hm : w.cell? ⟨0, 0, none⟩ = some (.int .i64 m)) :
    Calls Try.prog 177 #[.string s, .string sub] w fun e w' => e = .returned (.bool (Lib.contains s.data.toList sub.data.toList)) ∧ w' = w := Any.strings_Contains Try.lays144 s sub m w hs hm
def Try.laysM143_ren : Go.Shelf.Ren := ⟨fun | 143 => 199 | 219 => 216 | 217 => 180 | 225 => 217 | 224 => 218 | 267 => 219 | 266 => 201 | 314 => 220 | n => n, fun | 9 => 9 | 3 => 3 | 4 => 4 | 5 => 5 | 46 => 159 | 146 => 253 | 51 => 34 | n => n, fun | 1 => 0 | n => n⟩
theorem Try.laysM143 : Go.Proofs.LaysM.n143 Try.prog Try.laysM143_ren := {
  mixed := by kernel_rfl
  f143 := Try.func199.trans (congrArg some (by kernel_rfl))
  f217 := Try.func180.trans (congrArg some (by kernel_rfl))
  f219 := Try.func216.trans (congrArg some (by kernel_rfl))
  f224 := Try.func218.trans (congrArg some (by kernel_rfl))
  f225 := Try.func217.trans (congrArg some (by kernel_rfl))
  f266 := Try.func201.trans (congrArg some (by kernel_rfl))
  f267 := Try.func219.trans (congrArg some (by kernel_rfl))
  f314 := Try.func220.trans (congrArg some (by kernel_rfl))
  t3 := Try.underlying3
  a3 := Try.isAgg3
  z3 := Try.sizeOf3
  v3 := Try.zeroValue3
  t4 := Try.underlying4
  a4 := Try.isAgg4
  z4 := Try.sizeOf4
  v4 := Try.zeroValue4
  t5 := Try.underlying5
  a5 := Try.isAgg5
  z5 := Try.sizeOf5
  v5 := Try.zeroValue5
  t9 := Try.underlying9
  a9 := Try.isAgg9
  z9 := Try.sizeOf9
  v9 := Try.zeroValue9
  t46 := Try.underlying159
  a46 := Try.isAgg159
  z46 := Try.sizeOf159
  v46 := Try.zeroValue159
  t51 := Try.underlying34
  a51 := Try.isAgg34
  z51 := Try.sizeOf34
  v51 := Try.zeroValue34
  t146 := Try.underlying253
  a146 := Try.isAgg253
  z146 := Try.sizeOf253
  v146 := Try.zeroValue253
  g1 := by kernel_rfl
  i3 := by kernel_rfl
  i4 := by kernel_rfl
  i5 := by kernel_rfl
  i9 := by kernel_rfl
  i46 := by kernel_rfl
  i51 := by kernel_rfl
  i146 := by kernel_rfl
  m1 := by kernel_rfl
  s1_3 := fun w h => Go.Proofs.cell_of_shapedOpen_int (zero := #[.int .i64 0]) (t := 3) h (of_decide_eq_true (by kernel_rfl)) (by kernel_rfl) rfl (by kernel_rfl) (by kernel_rfl) Try.underlying3 }
end Go.Proofs
namespace Go.Proofs.Ytldoedmclfbgpaa
open Go.RowKit

/-- internal/strconv's table of powers of ten holds what its source lays. -/
def PowTab (w : World) : Prop := ∀ w', Below w.heap.size w w' → Lib.TabIs Try.prog w' "internal/strconv.uint64pow10" .u64 Lib.pow10Tab
theorem PowTab.of {w : World} (h : Lib.TabIs Try.prog w "internal/strconv.uint64pow10" .u64 Lib.pow10Tab) : PowTab w := Lib.tabBelow_of_tabIs h
theorem PowTab.here {w : World} (h : PowTab w) : Lib.TabIs Try.prog w "internal/strconv.uint64pow10" .u64 Lib.pow10Tab := h w (Below.refl _ _)
theorem PowTab.below {w w' : World} (h : PowTab w) (hb : Below w.heap.size w w') : PowTab w' := fun w2 hb2 => h w2 (hb.trans (hb2.mono hb.size))
end Go.Proofs.Ytldoedmclfbgpaa
namespace Go.Proofs.Ytldoedmclfbgpaa

/-! The decimal numeral of the library. -/
/-! Texts cut at a byte. -/
def consHead (p : List UInt8) : List (List UInt8) → List (List UInt8)
  | [] => [p]
  | q :: r => (p ++ q) :: r
def cuts (c : UInt8) : List UInt8 → List (List UInt8)
  | [] => [[]]
  | x :: s => if x = c then [] :: cuts c s else consHead [x] (cuts c s)
theorem cuts_ne (c : UInt8) (s : List UInt8) : cuts c s ≠ [] := by
  cases s with
  | nil => simp [cuts]
  | cons x s =>
    unfold cuts
    split
    · simp
    · cases cuts c s <;> simp [consHead]
theorem consHead_nil (l : List (List UInt8)) (h : l ≠ []) : consHead [] l = l := by
  cases l with
  | nil => exact absurd rfl h
  | cons a r => simp [consHead]
/-- What is cut so far of a text, up to a place. -/
def CutAt (c : UInt8) (t : List UInt8) (ps : List (List UInt8)) (f i : Nat) : Prop := f ≤ i ∧ i ≤ t.length ∧ cuts c t = ps ++ consHead ((t.drop f).take (i - f)) (cuts c (t.drop i))
theorem CutAt.start (c : UInt8) (t : List UInt8) : CutAt c t [] 0 0 := ⟨Nat.le_refl _, Nat.zero_le _, by simp [consHead_nil _ (cuts_ne c t)]⟩
theorem CutAt.done {c : UInt8} {t : List UInt8} {ps : List (List UInt8)} {f : Nat} (h : CutAt c t ps f t.length) : cuts c t = ps ++ [t.drop f] := by
  rw [h.2.2, List.drop_length, List.take_of_length_le (by rw [List.length_drop]; exact Nat.le_refl _)]
  simp [cuts, consHead]
/-! Texts of sets. -/
/-! Numbers are read of their texts. -/
end Go.Proofs.Ytldoedmclfbgpaa
namespace Go.Proofs.Ytldoedmclfbgpaa
open Go.RowKit

/-- internal/bytealg.MaxLen holds some number. -/
def MaxV (w : World) : Prop := ∃ m, w.cell? ⟨0, 0, none⟩ = some (.int .i64 m)
theorem MaxV.of {w : World} (h : w.ShapedOpen Try.prog) : MaxV w := Try.laysM143.s1_3 w h
theorem MaxV.below {w w' : World} (h : MaxV w) (hb : Below w.heap.size w w') : MaxV w' := by
  obtain ⟨m, hm⟩ := h
  exact ⟨m, (hb.cell (p := ⟨_, 0, none⟩) (World.block_lt_of_cell? w _ hm)).trans hm⟩
theorem c_Contains (a b : List UInt8) (w : World) (hM : MaxV w) (ha : a.length < 4294967281) : Calls Try.prog 177 #[.string (str a), .string (str b)] w (RetV w (.bool (Lib.contains a b))) := by
  obtain ⟨m, hm⟩ := hM
  exact (Try.strings_Contains (str a) (str b) m w (by rw [str_size]; exact ha) hm).mono fun _ _ ⟨he, hw⟩ => ⟨he, by rw [hw]; exact Below.refl _ _⟩
end Go.Proofs.Ytldoedmclfbgpaa
namespace Go.Proofs.Ytldoedmclfbgpaa
open Go.RowKit

/-- What is told of an operation's value. -/
structure Sp where
  holds : Value → World → Prop
  stays : ∀ v w w', holds v w → Below w.heap.size w w' → holds v w'
def Sp.any : Sp := ⟨fun _ _ => True, fun _ _ _ _ _ => trivial⟩
def Sp.slice {α : Type} (k : Nat) (cs : α → List Value) (l : List α) : Sp := ⟨fun v w => ∃ A c, v = .slice A l.length c ∧ In k cs w A c l, fun _ _ _ ⟨A, c, hv, h⟩ hb => ⟨A, c, hv, h.below hb⟩⟩
def dstOf (ops : Array Oper) (j : Nat) : Option Tmp := (ops[j]?).bind (·.dst)
/-- The frame with all values put. -/
def putAll (u : Nat → Value) : List Oper → Nat → Act → Act
  | [], _, a => a
  | o :: r, i, a => putAll u r (i + 1) (a.put o.dst (u i))
/-- The frame with the values of what is waited for. -/
def putDeps (ops : Array Oper) (u : Nat → Value) : List Edge → Act → Act
  | [], a => a
  | e :: r, a => putDeps ops u r (if Region.binds .any e = true then a.put (dstOf ops e.on) (u e.on) else a)
def Deps (S : List Sp) (u : Nat → Value) (w : World) : List Edge → Prop
  | [] => True
  | e :: r => (Region.binds .any e = true → (S.getD e.on Sp.any).holds (u e.on) w) ∧ Deps S u w r
def RelEnd (ds : List Deferred) (d : Option Tmp) (s : Sp) (w1 : World) (e : Exit) (a' : Act) (w' : World) : Prop :=
  e = .normal ∧ a'.defers = ds ∧ Below w1.heap.size w1 w' ∧ ∀ t, d = some t → s.holds (a'.tmps.getD t undef) w'
theorem RelEnd.mk {ds : List Deferred} {d : Tmp} {s : Sp} {w1 : World} {a' : Act} {w' : World} (h1 : a'.defers = ds) (h2 : Below w1.heap.size w1 w') (h3 : s.holds (a'.tmps.getD d undef) w') : RelEnd ds (some d) s w1 .normal a' w' :=
  ⟨rfl, h1, h2, fun t e => by injection e with e; subst e; exact h3⟩
def RelGoals (P : Program) (ops : Array Oper) (S : List Sp) (a : Act) (w : World) : List Oper → Nat → Prop
  | [], _ => True
  | o :: r, i => (∀ (u : Nat → Value) (w1 : World), Below w.heap.size w w1 → Deps S u w1 o.after.toList → wpList P ops (RelEnd a.defers o.dst (S.getD i Sp.any) w1) [o] (putDeps ops u o.after.toList a) w1) ∧ RelGoals P ops S a w r (i + 1)
def RelHold (u : Nat → Value) (w : World) : List Sp → Nat → Prop
  | [], _ => True
  | s :: r, i => s.holds (u i) w ∧ RelHold u w r (i + 1)
section
variable {ops : Array Oper} {N : Nat}
theorem put_size (a : Act) (d : Option Tmp) (v : Value) : (a.put d v).tmps.size = a.tmps.size := by cases d <;> simp [Act.put]
theorem put_defers (a : Act) (d : Option Tmp) (v : Value) : (a.put d v).defers = a.defers := by cases d <;> rfl
theorem put_get_ne (a : Act) {d : Option Tmp} (v : Value) {t : Tmp} (h : d ≠ some t) : (a.put d v).tmps[t]? = a.tmps[t]? := by
  cases d with
  | none => rfl
  | some d => simp only [Act.put]; rw [Array.getElem?_setIfInBounds_ne (fun e => h (by rw [e]))]
theorem put_get_eq (a : Act) (v : Value) {t : Tmp} (h : t < a.tmps.size) : (a.put (some t) v).tmps[t]? = some v := by
  simp only [Act.put]
  rw [Array.getElem?_setIfInBounds]
  simp [h]
theorem putDeps_size (u : Nat → Value) : ∀ (es : List Edge) (a : Act), (putDeps ops u es a).tmps.size = a.tmps.size ∧ (putDeps ops u es a).defers = a.defers
  | [], a => ⟨rfl, rfl⟩
  | e :: r, a => by
    unfold putDeps
    have := putDeps_size u r (if Region.binds .any e = true then a.put (dstOf ops e.on) (u e.on) else a)
    split at this
    · rename_i hb
      rw [if_pos hb]
      exact ⟨this.1.trans (put_size _ _ _), this.2.trans (put_defers _ _ _)⟩
    · rename_i hb
      rw [if_neg hb]
      exact this
theorem putDeps_miss (u : Nat → Value) {t : Tmp} : ∀ (es : List Edge) (a : Act), (∀ e ∈ es, Region.binds .any e = true → dstOf ops e.on ≠ some t) → (putDeps ops u es a).tmps[t]? = a.tmps[t]?
  | [], a, _ => rfl
  | e :: r, a, h => by
    unfold putDeps
    rw [putDeps_miss u r _ (fun e' he' => h e' (List.mem_cons_of_mem _ he'))]
    split
    · rename_i hb
      exact put_get_ne _ _ (h e (List.mem_cons_self ..) hb)
    · rfl
theorem putDeps_hit (u : Nat → Value) {t : Tmp} {j : Nat} (hj : ∀ i, dstOf ops i = some t → i = j) : ∀ (es : List Edge) (a : Act), t < a.tmps.size → (∃ e ∈ es, Region.binds .any e = true ∧ dstOf ops e.on = some t) → (putDeps ops u es a).tmps[t]? = some (u j)
  | [], a, _, ⟨_, he, _⟩ => by cases he
  | e :: r, a, ht, ⟨e', he', hb', hd'⟩ => by
    unfold putDeps
    by_cases hex : ∃ e ∈ r, Region.binds .any e = true ∧ dstOf ops e.on = some t
    · refine putDeps_hit u hj r _ ?_ hex
      split
      · rw [put_size]; exact ht
      · exact ht
    · rw [putDeps_miss u r _ (fun x hx hb hd => hex ⟨x, hx, hb, hd⟩)]
      rcases List.mem_cons.1 he' with rfl | he'
      · rw [if_pos hb', hd', hj _ hd']
        exact put_get_eq _ _ ht
      · exact absurd ⟨e', he', hb', hd'⟩ hex
theorem putAll_size (u : Nat → Value) : ∀ (l : List Oper) (i : Nat) (a : Act), (putAll u l i a).tmps.size = a.tmps.size ∧ (putAll u l i a).defers = a.defers
  | [], _, a => ⟨rfl, rfl⟩
  | o :: r, i, a => by
    unfold putAll
    have := putAll_size u r (i + 1) (a.put o.dst (u i))
    exact ⟨this.1.trans (put_size _ _ _), this.2.trans (put_defers _ _ _)⟩
theorem putAll_miss (u : Nat → Value) {t : Tmp} : ∀ (l : List Oper) (i : Nat) (a : Act), (∀ o ∈ l, o.dst ≠ some t) → (putAll u l i a).tmps[t]? = a.tmps[t]?
  | [], _, a, _ => rfl
  | o :: r, i, a, h => by
    unfold putAll
    rw [putAll_miss u r (i + 1) _ (fun x hx => h x (List.mem_cons_of_mem _ hx))]
    exact put_get_ne _ _ (h o (List.mem_cons_self ..))
theorem putAll_hit (u : Nat → Value) {t : Tmp} : ∀ (l : List Oper) (i : Nat) (a : Act) (j : Nat) (o : Oper), t < a.tmps.size → l[j]? = some o → o.dst = some t → (∀ k x, l[k]? = some x → x.dst = some t → k = j) → (putAll u l i a).tmps[t]? = some (u (i + j))
  | [], _, _, _, _, _, h, _, _ => by simp at h
  | x :: r, i, a, 0, o, ht, h, hd, hu => by
    unfold putAll
    simp only [List.getElem?_cons_zero, Option.some.injEq] at h
    subst h
    rw [putAll_miss u r (i + 1) _ (fun y hy hyd => by
      obtain ⟨k, hk, rfl⟩ := List.getElem_of_mem hy
      have := hu (k + 1) r[k] (by simp [hk]) hyd
      omega), hd]
    exact put_get_eq _ _ ht
  | x :: r, i, a, j + 1, o, ht, h, hd, hu => by
    unfold putAll
    rw [putAll_hit u r (i + 1) _ j o (by rw [put_size]; exact ht) (by simpa using h) hd (fun k y hk hy => by have := hu (k + 1) y (by simpa using hk) hy; omega)]
    congr 2
    omega
end
section
variable {P : Program} {S : List Sp} {a : Act} {w : World} {l : List Oper}
theorem RelGoals.at {ops : Array Oper} : ∀ (l : List Oper) (i : Nat), RelGoals P ops S a w l i → ∀ (j : Nat) (o : Oper), l[j]? = some o → ∀ (u : Nat → Value) (w1 : World), Below w.heap.size w w1 → Deps S u w1 o.after.toList →
    wpList P ops (RelEnd a.defers o.dst (S.getD (i + j) Sp.any) w1) [o] (putDeps ops u o.after.toList a) w1
  | [], _, _, _, _, h => by simp at h
  | x :: r, i, hg, 0, o, h => by
    simp only [List.getElem?_cons_zero, Option.some.injEq] at h
    subst h
    exact hg.1
  | x :: r, i, hg, j + 1, o, h => by
    have := RelGoals.at r (i + 1) hg.2 j o (by simpa using h)
    rw [show i + 1 + j = i + (j + 1) by omega] at this
    exact this
theorem Deps.of {u : Nat → Value} {w1 : World} : ∀ es : List Edge, (∀ e ∈ es, Region.binds .any e = true → (S.getD e.on Sp.any).holds (u e.on) w1) → Deps S u w1 es
  | [], _ => trivial
  | e :: r, h => ⟨h e (List.mem_cons_self ..), Deps.of r (fun x hx => h x (List.mem_cons_of_mem _ hx))⟩
theorem RelHold.of {u : Nat → Value} {w1 : World} : ∀ (S : List Sp) (i : Nat), (∀ (j : Nat) (s : Sp), S[j]? = some s → s.holds (u (i + j)) w1) → RelHold u w1 S i
  | [], _, _ => trivial
  | s :: r, i, h => ⟨by simpa using h 0 s (by simp), RelHold.of r (i + 1) (fun j x hx => by have := h (j + 1) x (by simpa using hx); rwa [show i + (j + 1) = i + 1 + j by omega] at this)⟩
/-- The goals from operation s on. -/
def Hop (P : Program) (l : List Oper) (S : List Sp) (a : Act) (w : World) (s : Nat) : Prop :=
  ∀ (i : Nat) (o : Oper), l[i]? = some o → s ≤ i → ∀ (u : Nat → Value) (w1 : World), Below w.heap.size w w1 → Deps S u w1 o.after.toList →
    wpList P l.toArray (RelEnd a.defers o.dst (S.getD i Sp.any) w1) [o] (putDeps l.toArray u o.after.toList a) w1
theorem Hop.of {s : Nat} (h : RelGoals P l.toArray S a w (l.drop s) s) : Hop P l S a w s := fun i o ho hi u w1 hb hd => by
  have := RelGoals.at (l.drop s) s h (i - s) o (by rw [List.getElem?_drop, show s + (i - s) = i by omega]; exact ho) u w1 hb hd
  rw [show s + (i - s) = i by omega] at this
  exact this
theorem getD_set_false {listed : Array Bool} {i j : Nat} (h : i ≠ j) : (listed.setIfInBounds i true).getD j false = listed.getD j false := getD_set_ne false h
theorem eval_agree {b b' : Act} {ops : Array Oper} {o : Oper} (h : ∀ t ∈ o.looksAt ops, b.tmps[t]? = b'.tmps[t]?) : ∀ x ∈ o.op.operands, b.eval x = b'.eval x := by
  intro x hx
  cases x with
  | tmp t =>
    have ht : t ∈ o.looksAt ops := List.mem_append_left _ (List.mem_filterMap.2 ⟨.tmp t, by simpa using hx, rfl⟩)
    show b.tmps.getD t undef = b'.tmps.getD t undef
    rw [Array.getD_eq_getD_getElem?, Array.getD_eq_getD_getElem?, h t ht]
  | _ => rfl
theorem wanted_agree {b b' : Act} {ops : Array Oper} {o : Oper} (h : ∀ t ∈ o.looksAt ops, b.tmps[t]? = b'.tmps[t]?) : Region.wanted o (yielded ops b.tmps) = Region.wanted o (yielded ops b'.tmps) := by
  unfold Region.wanted
  cases hg : o.guard with
  | none => rfl
  | some gw =>
    obtain ⟨g, want⟩ := gw
    have hy : yielded ops b.tmps g = yielded ops b'.tmps g := by
      unfold yielded
      cases ht : (ops[g]?).bind (·.dst) with
      | none => rfl
      | some t =>
        have := h t (by simp [Oper.looksAt, hg, ht])
        simp only [Option.bind_some, this]
    simp only [hy]
end
end Go.Proofs.Ytldoedmclfbgpaa
namespace Go.Proofs.Ytldoedmclfbgpaa
open Go.RowKit

def upd {α : Type} (f : Nat → α) (i : Nat) (x : α) : Nat → α := fun j => if j = i then x else f j
theorem upd_same {α : Type} (f : Nat → α) (i : Nat) (x : α) : upd f i x i = x := if_pos rfl
theorem upd_other {α : Type} (f : Nat → α) {i j : Nat} (x : α) (h : j ≠ i) : upd f i x j = f j := if_neg h
/-- What an operation hands back: the value in its slot. -/
def given (d : Option Tmp) (a : Act) : Value := match d with | some t => a.tmps.getD t undef | none => undef
def EndM (ds : List Deferred) (d : Option Tmp) (F : Value → World → Prop) (e : Exit) (a' : Act) (w' : World) : Prop := e = .normal ∧ a'.defers = ds ∧ F (given d a') w'
theorem EndM.mk {ds : List Deferred} {d : Tmp} {F : Value → World → Prop} {a' : Act} {w' : World} (h1 : a'.defers = ds) (h2 : F (a'.tmps.getD d undef) w') : EndM ds (some d) F .normal a' w' := ⟨rfl, h1, h2⟩
theorem EndM.mk0 {ds : List Deferred} {F : Value → World → Prop} {a' : Act} {w' : World} (h1 : a'.defers = ds) (h2 : F undef w') : EndM ds none F .normal a' w' := ⟨rfl, h1, h2⟩
def relBm (ops : Array Oper) (N : Nat) : Bool :=
  (List.range ops.size).all fun i => match ops[i]? with
    | none => false
    | some o =>
      (match o.dst with
        | none => true
        | some d => decide (d < N) && (List.range ops.size).all (fun j => j == i || dstOf ops j != some d)) &&
      (match o.op with
        | .select .. => false
        | _ => true) &&
      o.after.all (fun e => !Region.binds .any e || decide (e.on < i)) &&
      (o.looksAt ops).all (fun t => (List.range ops.size).all fun j => dstOf ops j != some t || o.after.any (fun e => Region.binds .any e && e.on == j) ||
        (match ops[j]? with
          | none => false
          | some oj => oj.after.any (fun e => Region.binds .any e && e.on == i)))
section
variable {ops : Array Oper} {N : Nat}
theorem relBm_spec (h : relBm ops N = true) {i : Nat} {o : Oper} (ho : ops[i]? = some o) :
    (∀ d, o.dst = some d → d < N ∧ ∀ j, dstOf ops j = some d → j = i) ∧ (∀ cs b, o.op ≠ .select cs b) ∧ (∀ e ∈ o.after, Region.binds .any e = true → e.on < i) ∧
    (∀ t ∈ o.looksAt ops, ∀ j, dstOf ops j = some t → (∃ e ∈ o.after, Region.binds .any e = true ∧ e.on = j) ∨ (∃ oj, ops[j]? = some oj ∧ ∃ e ∈ oj.after, Region.binds .any e = true ∧ e.on = i)) := by
  have hi : i < ops.size := (Array.getElem?_eq_some_iff.1 ho).1
  have hlt : ∀ j t, dstOf ops j = some t → j < ops.size := fun j t hj => by
    rcases Nat.lt_or_ge j ops.size with h | h
    · exact h
    · simp [dstOf, Array.getElem?_eq_none h] at hj
  unfold relBm at h
  rw [List.all_eq_true] at h
  have h1 := h i (List.mem_range.2 hi)
  rw [ho] at h1
  simp only [Bool.and_eq_true] at h1
  obtain ⟨⟨⟨h2, h3⟩, h4⟩, h5⟩ := h1
  refine ⟨?_, ?_, ?_, ?_⟩
  · intro d hd
    rw [hd] at h2
    simp only [Bool.and_eq_true, decide_eq_true_eq] at h2
    refine ⟨h2.1, fun j hj => ?_⟩
    have := List.all_eq_true.1 h2.2 j (List.mem_range.2 (hlt j d hj))
    simp only [Bool.or_eq_true, beq_iff_eq, bne_iff_ne] at this
    exact this.resolve_right (fun hn => hn hj)
  · intro cs b hs
    rw [hs] at h3
    cases h3
  · intro e he hb
    have := Array.all_eq_true_iff_forall_mem.1 h4 e he
    simpa [hb] using this
  · intro t ht j hj
    have := List.all_eq_true.1 (List.all_eq_true.1 h5 t ht) j (List.mem_range.2 (hlt j t hj))
    simp only [Bool.or_eq_true, bne_iff_ne] at this
    rcases this with (h6 | h6) | h6
    · exact absurd hj h6
    · left
      rw [Array.any_eq_true'] at h6
      obtain ⟨e, he, h7⟩ := h6
      simp only [Bool.and_eq_true, beq_iff_eq] at h7
      exact ⟨e, he, h7.1, h7.2⟩
    · right
      cases hoj : ops[j]? with
      | none => rw [hoj] at h6; cases h6
      | some oj =>
        rw [hoj] at h6
        simp only at h6
        rw [Array.any_eq_true'] at h6
        obtain ⟨e, he, h7⟩ := h6
        simp only [Bool.and_eq_true, beq_iff_eq] at h7
        exact ⟨oj, rfl, e, he, h7.1, h7.2⟩
end
/-- What is told of the operations that one waits for. -/
def DepsM (V : Nat → Value → Prop) (L : Nat → Bool) (u : Nat → Value) : List Edge → Prop
  | [] => True
  | e :: r => (Region.binds .any e = true → L e.on = true ∧ V e.on (u e.on)) ∧ DepsM V L u r
theorem DepsM.of {V : Nat → Value → Prop} {L : Nat → Bool} {u : Nat → Value} : ∀ es : List Edge, (∀ e ∈ es, Region.binds .any e = true → L e.on = true ∧ V e.on (u e.on)) → DepsM V L u es
  | [], _ => trivial
  | e :: r, h => ⟨h e (List.mem_cons_self ..), DepsM.of r (fun x hx => h x (List.mem_cons_of_mem _ hx))⟩
/-- The goal of one operation. -/
def GoalM (P : Program) (ops : Array Oper) (V : Nat → Value → Prop) (M : (Nat → Bool) → (Nat → Value) → World → Prop) (a : Act) (i : Nat) (o : Oper) : Prop :=
  ∀ (L : Nat → Bool) (u : Nat → Value) (w1 : World), M L u w1 → L i = false → DepsM V L u o.after.toList →
    wpList P ops (EndM a.defers o.dst (fun v w2 => V i v ∧ M (upd L i true) (upd u i v) w2)) [o] (putDeps ops u o.after.toList a) w1
def GoalsM (P : Program) (ops : Array Oper) (V : Nat → Value → Prop) (M : (Nat → Bool) → (Nat → Value) → World → Prop) (a : Act) : List Oper → Nat → Prop
  | [], _ => True
  | o :: r, i => GoalM P ops V M a i o ∧ GoalsM P ops V M a r (i + 1)
section
variable {P : Program} {V : Nat → Value → Prop} {M : (Nat → Bool) → (Nat → Value) → World → Prop} {a : Act} {l : List Oper}
theorem GoalsM.at {ops : Array Oper} : ∀ (l : List Oper) (i : Nat), GoalsM P ops V M a l i → ∀ (j : Nat) (o : Oper), l[j]? = some o → GoalM P ops V M a (i + j) o
  | [], _, _, _, _, h => by simp at h
  | x :: r, i, hg, 0, o, h => by
    simp only [List.getElem?_cons_zero, Option.some.injEq] at h
    subst h
    exact hg.1
  | x :: r, i, hg, j + 1, o, h => by
    have := GoalsM.at r (i + 1) hg.2 j o (by simpa using h)
    rw [show i + 1 + j = i + (j + 1) by omega] at this
    exact this
def InvM (V : Nat → Value → Prop) (M : (Nat → Bool) → (Nat → Value) → World → Prop) (l : List Oper) (a : Act) (listed : Array Bool) (a' : Act) (w' : World) : Prop :=
  a'.defers = a.defers ∧ a'.tmps.size = a.tmps.size ∧
  (∀ j o, l[j]? = some o → listed.getD j false = true → ∀ e ∈ o.after, Region.binds .any e = true → listed.getD e.on false = true) ∧
  (∀ t, (∀ j o, l[j]? = some o → o.dst = some t → listed.getD j false = false) → a'.tmps[t]? = a.tmps[t]?) ∧
  ∃ u : Nat → Value, (∀ j o t, l[j]? = some o → o.dst = some t → listed.getD j false = true → a'.tmps[t]? = some (u j)) ∧ (∀ j, j < l.length → listed.getD j false = true → V j (u j)) ∧ M (fun j => listed.getD j false) u w'
theorem relM_step {Q : Exit → Act → World → Prop} {N : Nat} (hB : relBm l.toArray N = true) (ha : a.tmps.size = N) (hop : GoalsM P l.toArray V M a l 0) {listed : Array Bool} (hsz : listed.size = l.length) {a' : Act} {w' : World} (inv : InvM V M l a listed a' w') {i : Nat} (hr : i ∈ Region.ready .any l.toArray listed) :
    wpOp P l.toArray Q i (InvM V M l a (listed.setIfInBounds i true)) a' w' := by
  obtain ⟨hun, o, ho, hall⟩ := mem_ready.1 hr
  have hol : l[i]? = some o := by simpa using ho
  obtain ⟨hdu, hsel, _, hlook⟩ := relBm_spec hB ho
  obtain ⟨hdef, hsize, hclosed, hold, u, hu, hv, hM⟩ := inv
  have hil : i < l.length := by
    rcases Nat.lt_or_ge i l.length with h | h
    · exact h
    · simp [List.getElem?_eq_none h] at hol
  have hunf : listed.getD i false = false := by
    have : i < listed.size := by omega
    simpa [this] using hun
  have dst_at : ∀ j t, dstOf l.toArray j = some t → ∃ oj, l[j]? = some oj ∧ oj.dst = some t := fun j t h => by
    unfold dstOf at h
    rw [List.getElem?_toArray] at h
    cases hj : l[j]? with
    | none => rw [hj] at h; cases h
    | some oj => rw [hj] at h; exact ⟨oj, rfl, h⟩
  have dst_of : ∀ j oj t, l[j]? = some oj → oj.dst = some t → dstOf l.toArray j = some t := fun j oj t h h' => by
    unfold dstOf
    rw [List.getElem?_toArray, h]; exact h'
  have hdeps : DepsM V (fun j => listed.getD j false) u o.after.toList := DepsM.of _ (fun e he hb => by
    have he' : e ∈ o.after := by simpa using he
    have hl := hall e he' hb
    have hlt : e.on < l.length := by
      have := (relBm_spec hB ho).2.2.1 e he' hb
      omega
    exact ⟨hl, hv e.on hlt hl⟩)
  have hgoal0 := GoalsM.at l 0 hop i o hol
  rw [Nat.zero_add] at hgoal0
  have hgoal := hgoal0 (fun j => listed.getD j false) u w' hM hunf hdeps
  have hF := putDeps_size (ops := l.toArray) u o.after.toList a
  generalize hFe : putDeps l.toArray u o.after.toList a = F at hgoal hF
  have agree : ∀ t ∈ o.looksAt l.toArray, F.tmps[t]? = a'.tmps[t]? := by
    intro t ht
    by_cases hex : ∃ e ∈ o.after.toList, Region.binds .any e = true ∧ dstOf l.toArray e.on = some t
    · obtain ⟨e, he, hb, hde⟩ := hex
      obtain ⟨oj, hj, hdj⟩ := dst_at _ _ hde
      have hw := hu e.on oj t hj hdj (hall e (by simpa using he) hb)
      obtain ⟨hdN', huniq'⟩ := (relBm_spec hB (i := e.on) (o := oj) (by simpa using hj)).1 t hdj
      rw [hw, ← hFe]
      exact putDeps_hit u huniq' _ _ (by rw [ha]; exact hdN') ⟨e, he, hb, hde⟩
    · rw [← hFe, putDeps_miss u _ _ (fun e he hb hde => hex ⟨e, he, hb, hde⟩)]
      symm
      refine hold t (fun j oj hj hdj => ?_)
      cases hlj : listed.getD j false
      · rfl
      · rcases hlook t ht j (dst_of j oj t hj hdj) with ⟨e, he, hb, hej⟩ | ⟨oj', hoj', e, he, hb, hei⟩
        · exact absurd ⟨e, by simpa using he, hb, by rw [hej]; exact dst_of j oj t hj hdj⟩ hex
        · have : oj' = oj := by
            rw [List.getElem?_toArray, hj] at hoj'
            injection hoj' with hoj'
            exact hoj'.symm
          subst this
          have := hclosed j oj' hj hlj e he hb
          rw [hei, hunf] at this
          cases this
  have heval : execOp F.eval o = execOp a'.eval o := execOp_congr o hsel (eval_agree agree)
  have hwant := wanted_agree agree
  have hL : (fun j => (listed.setIfInBounds i true).getD j false) = upd (fun j => listed.getD j false) i true := by
    funext j
    by_cases hji : j = i
    · subst hji
      rw [upd_same]
      simp [hsz, hil]
    · rw [upd_other _ _ hji]
      exact getD_set_false (Ne.symm hji)
  have fin : ∀ v w'', EndM a.defers o.dst (fun v w2 => V i v ∧ M (upd (fun j => listed.getD j false) i true) (upd u i v) w2) .normal (F.put o.dst v) w'' → InvM V M l a (listed.setIfInBounds i true) (a'.put o.dst v) w'' := by
    rintro v w'' ⟨_, _, hs1, hs2⟩
    refine ⟨by rw [put_defers, hdef], by rw [put_size, hsize], ?_, ?_, upd u i (given o.dst (F.put o.dst v)), ?_, ?_, by rw [hL]; exact hs2⟩
    · intro j oj hj hlj e he hb
      by_cases hji : i = j
      · subst hji
        rw [hol] at hj
        injection hj with hj
        subst hj
        exact getD_set_true (hall e he hb)
      · rw [getD_set_false hji] at hlj
        exact getD_set_true (hclosed j oj hj hlj e he hb)
    · intro t ht
      have hne : o.dst ≠ some t := fun he => by
        have := ht i o hol he
        rw [show (listed.setIfInBounds i true).getD i false = true by simp [hsz, hil]] at this
        cases this
      rw [put_get_ne _ _ hne]
      refine hold t (fun j oj hj hdj => ?_)
      have hji : i ≠ j := fun e => by
        subst e
        rw [hol] at hj
        injection hj with hj
        subst hj
        exact hne hdj
      have := ht j oj hj hdj
      rwa [getD_set_false hji] at this
    · intro j oj t hj hdj hlj
      by_cases hji : j = i
      · subst hji
        rw [hol] at hj
        injection hj with hj
        subst hj
        rw [upd_same, hdj]
        obtain ⟨hdN, _⟩ := hdu t hdj
        have h1 := put_get_eq a' v (t := t) (by rw [hsize, ha]; exact hdN)
        have h2 := put_get_eq F v (t := t) (by rw [hF.1, ha]; exact hdN)
        rw [h1]
        show _ = some ((F.put (some t) v).tmps.getD t undef)
        rw [Array.getD_eq_getD_getElem?, h2]
        rfl
      · rw [getD_set_false (Ne.symm hji)] at hlj
        rw [upd_other _ _ hji]
        have hne : o.dst ≠ some t := fun he => hji ((hdu t he).2 j (dst_of j oj t hj hdj))
        exact (put_get_ne _ _ hne).trans (hu j oj t hj hdj hlj)
    · intro j hjl hlj
      by_cases hji : j = i
      · subst hji
        rw [upd_same]
        exact hs1
      · rw [upd_other _ _ hji]
        rw [getD_set_false (Ne.symm hji)] at hlj
        exact hv j hjl hlj
  have nolets : ¬ LetsOut (EndM a.defers o.dst (fun v w2 => V i v ∧ M (upd (fun j => listed.getD j false) i true) (upd u i v) w2)) := by
    rintro ⟨_, _, h, _⟩
    cases h
  unfold wpOp
  simp only [ho]
  simp only [wpList, hwant] at hgoal
  by_cases hw : Region.wanted o (yielded l.toArray a'.tmps) = true
  · rw [if_pos hw] at hgoal ⊢
    rcases hgoal with h | ⟨_, h⟩
    · left
      unfold Oper.wp at h ⊢
      rw [heval] at h
      generalize (execOp a'.eval o).run P w' = r at h ⊢
      cases r with
      | ok n w'' =>
        cases n <;> simp only [Oper.upon] at h ⊢
        case value u => exact fin _ _ h
        case skip => exact fin _ _ h
        case defer x =>
          exfalso
          obtain ⟨_, h2, _⟩ := h
          rw [put_defers] at h2
          have := congrArg List.length h2
          simp only [List.length_cons, hF.2] at this
          omega
        case enter f args =>
          refine Calls.mono h fun e w'' he => ?_
          cases e with
          | returned u => exact fin _ _ he
          | panicked c => cases he.1
          | outgrown => exact absurd he nolets
        case row row args => exact Rows.mono h fun u w'' he => fin _ _ he
      | halt x w'' =>
        cases x <;> simp only [Oper.upon] at h ⊢
        case panic u => cases h.1
    · exact absurd h nolets
  · rw [if_neg hw] at hgoal ⊢
    exact fin _ _ hgoal
theorem relM_any {Q : Exit → Act → World → Prop} {N : Nat} (hB : relBm l.toArray N = true) (ha : a.tmps.size = N) (hop : GoalsM P l.toArray V M a l 0)
    (hend : ∀ u w1, (∀ j, j < l.length → V j (u j)) → M (fun j => decide (j < l.length)) u w1 → Q .normal (putAll u l 0 a) w1) :
    ∀ (f : Nat) (listed : Array Bool) (a' : Act) (w' : World), listed.size = l.length → listed.toList.count false = f → InvM V M l a listed a' w' → wpAny P .any l.toArray Q f listed a' w'
  | 0, listed, a', w', hsz, hc, inv => by
    have hall : ∀ j, j < l.length → listed.getD j false = true := fun j hj => by
      have h1 : false ∉ listed.toList := List.count_eq_zero.1 hc
      have hlt : j < listed.size := by omega
      cases hb : listed[j]
      · exact absurd (by rw [← hb]; simp) h1
      · simp [hlt, hb]
    have hready : Region.ready .any l.toArray listed = [] := by
      rw [List.eq_nil_iff_forall_not_mem]
      intro j hj
      obtain ⟨h0, o, ho, _⟩ := mem_ready.1 hj
      have hj' : j < l.length := by
        rcases Nat.lt_or_ge j l.length with h | h
        · exact h
        · simp [List.getElem?_eq_none h] at ho
      have := hall j hj'
      have hlt : j < listed.size := by omega
      simp [hlt] at this h0
      rw [this] at h0
      cases h0
    refine ⟨hready, ?_⟩
    obtain ⟨hdef, hsize, _, hold, u, hu, hv, hM⟩ := inv
    have e : a' = putAll u l 0 a := by
      have h1 := putAll_size u l 0 a
      obtain ⟨tm, df⟩ := a'
      generalize hFe : putAll u l 0 a = F at h1
      obtain ⟨tm2, df2⟩ := F
      simp only at hdef hsize h1
      have : tm = tm2 := by
        apply Array.ext_getElem?
        intro t
        have hF2 : tm2[t]? = (putAll u l 0 a).tmps[t]? := by rw [hFe]
        rw [hF2]
        by_cases hex : ∃ (j : Nat) (o : Oper), l[j]? = some o ∧ o.dst = some t
        · obtain ⟨j, o, hj, hd⟩ := hex
          obtain ⟨hdN, huniq⟩ := (relBm_spec hB (i := j) (o := o) (by simpa using hj)).1 t hd
          have hj' : j < l.length := by
            rcases Nat.lt_or_ge j l.length with h | h
            · exact h
            · simp [List.getElem?_eq_none h] at hj
          have h2 := putAll_hit u l 0 a j o (t := t) (by rw [ha]; exact hdN) hj hd (fun k x hk hx => huniq k (by unfold dstOf; rw [List.getElem?_toArray, hk]; exact hx))
          rw [Nat.zero_add] at h2
          rw [h2]
          exact hu j o t hj hd (hall j hj')
        · rw [putAll_miss u l 0 a (fun (o : Oper) ho hd => by
            obtain ⟨j, hj, rfl⟩ := List.getElem_of_mem ho
            exact hex ⟨j, l[j], by simp [hj], hd⟩)]
          exact hold t (fun j o hj hd => absurd ⟨j, o, hj, hd⟩ hex)
      rw [this, hdef, h1.2]
    rw [e]
    refine hend u w' (fun j hj => hv j hj (hall j hj)) ?_
    have hL : (fun j => listed.getD j false) = fun j => decide (j < l.length) := by
      funext j
      by_cases hj : j < l.length
      · rw [hall j hj]; simp [hj]
      · rw [decide_eq_false hj]
        simp [Array.getD, hsz, hj]
    rw [← hL]
    exact hM
  | f + 1, listed, a', w', hsz, hc, inv => by
    refine ⟨fun h0 => ?_, fun i hi => ?_⟩
    · exfalso
      have hall : ∀ j, j < l.length → listed.getD j false = true := by
        intro j
        induction j using Nat.strongRecOn with
        | ind j ih =>
          intro hj
          cases hlj : listed.getD j false
          · exfalso
            have hlt : j < listed.size := by omega
            have : j ∈ Region.ready .any l.toArray listed := mem_ready.2 ⟨by simpa [hlt] using hlj, l[j], by simp [hj], fun e he hb => by
              have := (relBm_spec hB (i := j) (o := l[j]) (by simp [hj])).2.2.1 e he hb
              exact ih e.on this (by omega)⟩
            rw [h0] at this
            cases this
          · rfl
      have : listed.toList.count false = 0 := List.count_eq_zero.2 (fun hm => by
        obtain ⟨j, hj, he⟩ := List.getElem_of_mem hm
        have hj' : j < listed.size := by simpa using hj
        have := hall j (by omega)
        simp [hj'] at this
        simp [this] at he)
      omega
    · refine wpOp_mono (fun a'' w'' h => ?_) (relM_step hB ha hop hsz inv hi)
      refine relM_any hB ha hop hend f _ a'' w'' (by simpa using hsz) ?_ h
      obtain ⟨hun, o, ho, _⟩ := mem_ready.1 hi
      have hil : i < listed.size := by
        have : i < l.length := by
          rcases Nat.lt_or_ge i l.length with h | h
          · exact h
          · simp [List.getElem?_eq_none h] at ho
        omega
      have hun' : listed[i] = false := by simpa [hil] using hun
      rw [Array.toList_setIfInBounds, List.count_set (by simpa using hil)]
      simp [hun', hc]
end
/-- Each operation by itself, under the watch M; no order is looked at. -/
theorem wp_region_relM {P : Program} {id : Nat} {Q : Exit → Act → World → Prop} {a : Act} {w : World} {l : List Oper} (V : Nat → Value → Prop) (M : (Nat → Bool) → (Nat → Value) → World → Prop) (N : Nat) (hm : P.follows .mixedOrders = true) (hB : relBm l.toArray N = true) (ha : a.tmps.size = N)
    (h0 : ∀ u w', Below w.heap.size w w' → w'.heap = w.heap → M (fun _ => false) u w') (hop : GoalsM P l.toArray V M a l 0)
    (hend : ∀ u w1, (∀ j, j < l.length → V j (u j)) → M (fun j => decide (j < l.length)) u w1 → Q .normal (putAll u l 0 a) w1) : (Code.region id l.toArray true).wp P Q a w := by
  refine wp_region_any hm ?_
  have hf : (fun j => (Array.replicate l.length false).getD j false) = fun _ => false := by funext j; exact getD_replicate_false _ j
  have := relM_any (Q := Q) hB ha hop hend l.length (Array.replicate l.length false) a { w with drawn := w.drawn + 1 } (by simp) (by simp)
    ⟨rfl, rfl, fun j o _ hl => (by rw [getD_replicate_false] at hl; cases hl), fun _ _ => rfl, fun _ => undef, fun j o t _ _ hl => (by rw [getD_replicate_false] at hl; cases hl), fun j _ hl => (by rw [getD_replicate_false] at hl; cases hl), by rw [hf]; exact h0 _ _ (Below.refl _ _).drew rfl⟩
  simpa using this
end Go.Proofs.Ytldoedmclfbgpaa
namespace Go.Proofs.Ytldoedmclfbgpaa
open Go.RowKit

theorem Blk.inj {w : World} {g : Nat} {c d : Array Value} (h : Blk w g c) (h' : Blk w g d) : c = d := by
  obtain ⟨t, h⟩ := h
  obtain ⟨t', h'⟩ := h'
  rw [h] at h'
  injection h' with h'
  injection h'
/-- Operation i makes a block of cells z, operation s fills it by f. -/
def Bx (w : World) (i s : Nat) (z f : Array Value) (L : Nat → Bool) (u : Nat → Value) (w1 : World) : Prop :=
  (L s = true → L i = true) ∧ (L i = true → ∃ g, u i = .pointer (some ⟨g, 0, none⟩) ∧ w.heap.size ≤ g ∧ Blk w1 g (if L s = true then f else z))
section
variable {w w1 w2 : World} {i s j : Nat} {z f : Array Value} {L : Nat → Bool} {u : Nat → Value} {v : Value}
theorem Bx.start (h : L i = false) (h' : L s = false) : Bx w i s z f L u w1 := ⟨fun e => (by rw [h'] at e; cases e), fun e => (by rw [h] at e; cases e)⟩
/-- Another operation, which turns nothing that is there. -/
theorem Bx.pure (h : Bx w i s z f L u w1) (hi : j ≠ i) (hs : j ≠ s) (hb : Below w1.heap.size w1 w2) : Bx w i s z f (upd L j true) (upd u j v) w2 := by
  refine ⟨?_, ?_⟩
  · rw [upd_other _ _ (Ne.symm hi), upd_other _ _ (Ne.symm hs)]; exact h.1
  · rw [upd_other _ _ (Ne.symm hi), upd_other _ _ (Ne.symm hs), upd_other _ _ (Ne.symm hi)]
    intro e
    obtain ⟨g, h1, h2, h3⟩ := h.2 e
    exact ⟨g, h1, h2, h3.below hb h3.lt⟩
/-- Another operation, which stores into another block. -/
theorem Bx.far (h : Bx w i s z f L u w1) (hi : j ≠ i) (hs : j ≠ s) {q : Nat} {c : Array Value} (hq : Blk w1 q c) (hz : c.size ≠ z.size) (hf : c.size ≠ f.size) (hb : Kept (some q) w1.heap.size w1 w2) : Bx w i s z f (upd L j true) (upd u j v) w2 := by
  refine ⟨?_, ?_⟩
  · rw [upd_other _ _ (Ne.symm hi), upd_other _ _ (Ne.symm hs)]; exact h.1
  · rw [upd_other _ _ (Ne.symm hi), upd_other _ _ (Ne.symm hs), upd_other _ _ (Ne.symm hi)]
    intro e
    obtain ⟨g, h1, h2, h3⟩ := h.2 e
    refine ⟨g, h1, h2, h3.kept hb h3.lt (fun e' => ?_)⟩
    injection e' with e'
    subst e'
    have := Blk.inj hq h3
    rw [this] at hz hf
    split at hz
    · rename_i hc; rw [if_pos hc] at hf; exact hf rfl
    · exact hz rfl
/-- The block is made. -/
theorem Bx.make (h : Bx w i s z f L u w1) (hL : L i = false) (his : i ≠ s) (hsz : w.heap.size ≤ w1.heap.size) (t : TypeId) : Bx w i s z f (upd L i true) (upd u i (.pointer (some ⟨w1.heap.size, 0, none⟩))) (w1.alloc (.cells z t)) := by
  have hls : L s = false := by
    cases hc : L s
    · rfl
    · have := h.1 hc; rw [hL] at this; cases this
  refine ⟨?_, fun _ => ⟨w1.heap.size, upd_same .., hsz, ?_⟩⟩
  · rw [upd_other _ _ his.symm, hls]; intro e; cases e
  · rw [upd_other _ _ his.symm, hls, if_neg (by simp)]
    exact Blk.new _ _ _
theorem Bx.at (h : Bx w i s z f L u w1) (hL : L i = true) (hs : L s = false) : ∃ g, u i = .pointer (some ⟨g, 0, none⟩) ∧ w.heap.size ≤ g ∧ Blk w1 g z := by
  obtain ⟨g, h1, h2, h3⟩ := h.2 hL
  rw [hs, if_neg (by simp)] at h3
  exact ⟨g, h1, h2, h3⟩
/-- The block is filled. -/
theorem Bx.fill (_h : Bx w i s z f L u w1) (hL : L i = true) (his : i ≠ s) {g : Nat} (hu : u i = .pointer (some ⟨g, 0, none⟩)) (hg : w.heap.size ≤ g) (hb : Blk w2 g f) : Bx w i s z f (upd L s true) (upd u s v) w2 := by
  refine ⟨?_, ?_⟩
  · rw [upd_other _ _ his]; intro _; exact hL
  · rw [upd_same, upd_other _ _ his, upd_other _ _ his, if_pos rfl]
    intro _
    exact ⟨g, hu, hg, hb⟩
theorem Bx.done (h : Bx w i s z f L u w1) (hi : L i = true) (hs : L s = true) : ∃ g, u i = .pointer (some ⟨g, 0, none⟩) ∧ w.heap.size ≤ g ∧ Blk w1 g f := by
  obtain ⟨g, h1, h2, h3⟩ := h.2 hi
  rw [hs, if_pos rfl] at h3
  exact ⟨g, h1, h2, h3⟩
end
end Go.Proofs.Ytldoedmclfbgpaa
namespace Go.Proofs.Ytldoedmclfbgpaa
open Go.RowKit

/-- Blocks from number B on, each known whole, no two the same. -/
def Blks (w : World) (B : Nat) : List (Nat × Array Value) → Prop
  | [] => True
  | x :: r => (Blk w x.1 x.2 ∧ B ≤ x.1 ∧ ∀ y ∈ r, y.1 ≠ x.1) ∧ Blks w B r
section
variable {w w' : World} {B : Nat} {l : List (Nat × Array Value)}
theorem Blks.kept {q : Option Nat} (h : Blks w B l) (k : Kept q w.heap.size w w') (hq : ∀ g, q = some g → g < B) : Blks w' B l := by
  induction l with
  | nil => trivial
  | cons x r ih =>
    obtain ⟨⟨h1, h2, h3⟩, h4⟩ := h
    exact ⟨⟨h1.kept k h1.lt (fun e => by have := hq _ e; omega), h2, h3⟩, ih h4⟩
theorem Blks.far {q : Nat} (h : Blks w B l) (k : Kept (some q) w.heap.size w w') (hq : ∀ y ∈ l, y.1 ≠ q) : Blks w' B l := by
  induction l with
  | nil => trivial
  | cons x r ih =>
    obtain ⟨⟨h1, h2, h3⟩, h4⟩ := h
    exact ⟨⟨h1.kept k h1.lt (fun e => by injection e with e; exact hq x (List.mem_cons_self ..) e.symm), h2, h3⟩, ih h4 (fun y hy => hq y (List.mem_cons_of_mem _ hy))⟩
theorem Blks.lt (h : Blks w B l) : ∀ y ∈ l, y.1 < w.heap.size := by
  induction l with
  | nil => intro y hy; cases hy
  | cons x r ih =>
    intro y hy
    rcases List.mem_cons.1 hy with rfl | hy
    · exact h.1.1.lt
    · exact ih h.2 y hy
end
theorem kept_set (w : World) (g off : Nat) (v : Value) : Kept (some g) w.heap.size w (w.setCell ⟨g, off, none⟩ v) := (Kept.refl (some g) _ w).setCell (q := ⟨g, off, none⟩) (.inr rfl) v
/-- The program's reader, and blocks of the call's own. -/
structure EnvP (p : Option Nat) (S : Rd) (w w' : World) (l : List (Nat × Array Value)) : Prop where
  low : ∀ g, p = some g → g < w.heap.size
  kept : Kept p w.heap.size w w'
  rd : RdP w' p S
  blks : Blks w' w.heap.size l
section
variable {p : Option Nat} {S S' : Rd} {w w1 w2 : World} {l : List (Nat × Array Value)} {g g0 : Nat} {cs c0 cs' : Array Value}
theorem EnvP.start (r : RdP w p S) : EnvP p S w w [] := ⟨fun _ hg => r.lt hg, Kept.refl _ _ _, r, trivial⟩
theorem EnvP.size (h : EnvP p S w w1 l) : w.heap.size ≤ w1.heap.size := h.kept.size
theorem EnvP.call (h : EnvP p S w w1 l) (r : RdP w2 p S') (k : Kept p w1.heap.size w1 w2) : EnvP p S' w w2 l :=
  ⟨h.low, h.kept.then_kept k h.size, r, h.blks.kept k h.low⟩
theorem EnvP.below (h : EnvP p S w w1 l) (k : Below w1.heap.size w1 w2) : EnvP p S w w2 l :=
  ⟨h.low, h.kept.then_below k h.size, h.rd.below k, h.blks.kept (q := none) (.of_below k) (fun _ e => by cases e)⟩
theorem EnvP.alloc (h : EnvP p S w w1 l) (t : TypeId) (cs : Array Value) : EnvP p S w (w1.alloc (.cells cs t)) ((w1.heap.size, cs) :: l) := by
  have h' := h.below ((Below.refl _ _).alloc (Nat.le_refl _) (.cells cs t))
  exact ⟨h.low, h'.kept, h'.rd, ⟨Blk.new _ _ _, h.size, fun y hy => by have := h.blks.lt y hy; simp only; omega⟩, h'.blks⟩
theorem EnvP.own (h : EnvP p S w w1 l) (hg : w.heap.size ≤ g) (k : Kept (some g) w1.heap.size w1 w2) : Kept p w.heap.size w w2 ∧ RdP w2 p S :=
  ⟨h.kept.trans (k.one h.size (.inl hg)), h.rd.kept k (fun a b ha hb => by injection hb with hb; have := h.low a ha; omega)⟩
theorem EnvP.put0 (h : EnvP p S w w1 ((g, cs) :: l)) (b : Blk w2 g cs') (k : Kept (some g) w1.heap.size w1 w2) : EnvP p S w w2 ((g, cs') :: l) := by
  obtain ⟨⟨h1, h2, h3⟩, h4⟩ := h.blks
  obtain ⟨a, r⟩ := h.own h2 k
  exact ⟨h.low, a, r, ⟨b, h2, h3⟩, h4.far k h3⟩
theorem EnvP.put1 (h : EnvP p S w w1 ((g0, c0) :: (g, cs) :: l)) (b : Blk w2 g cs') (k : Kept (some g) w1.heap.size w1 w2) : EnvP p S w w2 ((g0, c0) :: (g, cs') :: l) := by
  obtain ⟨⟨a1, a2, a3⟩, ⟨h1, h2, h3⟩, h4⟩ := h.blks
  obtain ⟨a, r⟩ := h.own h2 k
  have hne := a3 (g, cs) (List.mem_cons_self ..)
  refine ⟨h.low, a, r, ⟨a1.kept k a1.lt (fun e => by injection e with e; exact hne e), a2, fun y hy => ?_⟩, ⟨b, h2, h3⟩, h4.far k h3⟩
  rcases List.mem_cons.1 hy with rfl | hy
  · exact hne
  · exact a3 y (List.mem_cons_of_mem _ hy)
theorem EnvP.b0 (h : EnvP p S w w1 ((g, cs) :: l)) : Blk w1 g cs := h.blks.1.1
theorem EnvP.b1 (h : EnvP p S w w1 ((g0, c0) :: (g, cs) :: l)) : Blk w1 g cs := h.blks.2.1.1
theorem EnvP.as (h : EnvP p S w w1 ((g, cs) :: l)) (e : cs = cs') : EnvP p S w w1 ((g, cs') :: l) := e ▸ h
end
/-- The reference's reader, and blocks of the call's own. -/
structure EnvR (p : Nat) (S : Rd) (w w' : World) (l : List (Nat × Array Value)) : Prop where
  low : p < w.heap.size
  kept : Kept (some p) w.heap.size w w'
  rd : RdR w' p S
  blks : Blks w' w.heap.size l
section
variable {p : Nat} {S S' : Rd} {w w1 w2 : World} {l : List (Nat × Array Value)} {g g0 : Nat} {cs c0 cs' : Array Value}
theorem EnvR.start (r : RdR w p S) : EnvR p S w w [] := ⟨r.lt, Kept.refl _ _ _, r, trivial⟩
theorem EnvR.size (h : EnvR p S w w1 l) : w.heap.size ≤ w1.heap.size := h.kept.size
theorem EnvR.call (h : EnvR p S w w1 l) (r : RdR w2 p S') (k : Kept (some p) w1.heap.size w1 w2) : EnvR p S' w w2 l :=
  ⟨h.low, h.kept.then_kept k h.size, r, h.blks.kept k (fun g e => by injection e with e; have := h.low; omega)⟩
theorem EnvR.below (h : EnvR p S w w1 l) (k : Below w1.heap.size w1 w2) : EnvR p S w w2 l :=
  ⟨h.low, h.kept.then_below k h.size, h.rd.below k, h.blks.kept (q := none) (.of_below k) (fun _ e => by cases e)⟩
theorem EnvR.alloc (h : EnvR p S w w1 l) (t : TypeId) (cs : Array Value) : EnvR p S w (w1.alloc (.cells cs t)) ((w1.heap.size, cs) :: l) := by
  have h' := h.below ((Below.refl _ _).alloc (Nat.le_refl _) (.cells cs t))
  exact ⟨h.low, h'.kept, h'.rd, ⟨Blk.new _ _ _, h.size, fun y hy => by have := h.blks.lt y hy; simp only; omega⟩, h'.blks⟩
theorem EnvR.own (h : EnvR p S w w1 l) (hg : w.heap.size ≤ g) (k : Kept (some g) w1.heap.size w1 w2) : Kept (some p) w.heap.size w w2 ∧ RdR w2 p S :=
  ⟨h.kept.trans (k.one h.size (.inl hg)), h.rd.kept k (fun e => by injection e with e; have := h.low; omega)⟩
theorem EnvR.put0 (h : EnvR p S w w1 ((g, cs) :: l)) (b : Blk w2 g cs') (k : Kept (some g) w1.heap.size w1 w2) : EnvR p S w w2 ((g, cs') :: l) := by
  obtain ⟨⟨h1, h2, h3⟩, h4⟩ := h.blks
  obtain ⟨a, r⟩ := h.own h2 k
  exact ⟨h.low, a, r, ⟨b, h2, h3⟩, h4.far k h3⟩
theorem EnvR.put1 (h : EnvR p S w w1 ((g0, c0) :: (g, cs) :: l)) (b : Blk w2 g cs') (k : Kept (some g) w1.heap.size w1 w2) : EnvR p S w w2 ((g0, c0) :: (g, cs') :: l) := by
  obtain ⟨⟨a1, a2, a3⟩, ⟨h1, h2, h3⟩, h4⟩ := h.blks
  obtain ⟨a, r⟩ := h.own h2 k
  have hne := a3 (g, cs) (List.mem_cons_self ..)
  refine ⟨h.low, a, r, ⟨a1.kept k a1.lt (fun e => by injection e with e; exact hne e), a2, fun y hy => ?_⟩, ⟨b, h2, h3⟩, h4.far k h3⟩
  rcases List.mem_cons.1 hy with rfl | hy
  · exact hne
  · exact a3 y (List.mem_cons_of_mem _ hy)
theorem EnvR.b0 (h : EnvR p S w w1 ((g, cs) :: l)) : Blk w1 g cs := h.blks.1.1
theorem EnvR.b1 (h : EnvR p S w w1 ((g0, c0) :: (g, cs) :: l)) : Blk w1 g cs := h.blks.2.1.1
theorem EnvR.as (h : EnvR p S w w1 ((g, cs) :: l)) (e : cs = cs') : EnvR p S w w1 ((g, cs') :: l) := e ▸ h
end
end Go.Proofs.Ytldoedmclfbgpaa
namespace Go.Proofs.Ytldoedmclfbgpaa
open Go.RowKit

def longF (f : List Val) : Bool := f.any fun x => decide (200 < x.s.length)
set_option maxHeartbeats 400000 in
theorem c_Large (f : List Val) (w : World) (hf : f.length = 8) : Calls Try.prog 16 #[.agg (farr f)] w (RetV w (.bool (longF f))) := by
  go_enter Try.func16, Try.ntmps16
  go_wp2
  go_loopw [3] (fun i wr => ∃ k : Nat, k ≤ 8 ∧ i = .int .i64 k ∧ (f.take k).any (fun x => decide (200 < x.s.length)) = false ∧ wr = w.alloc (.cells (farr f) 37)) (fun i _ => 8 - (intOf i).toNat)
  case atStart => exact ⟨0, by omega, rfl, rfl, rfl⟩
  case round =>
    obtain ⟨k, hk, rfl, hno, rfl⟩ := hrel
    have NO := Lib.hid hno
    clear hno
    by_cases hlt : k < 8
    · obtain ⟨c0, c1, c2⟩ := farr_get (f := f) (k := k) (by omega)
      have T := Lib.hid (show f.take (k + 1) = f.take k ++ [f[k]'(by omega)] from List.take_succ_eq_append_getElem (by omega))
      have M := Lib.hid (List.getElem_mem (l := f) (n := k) (by omega))
      by_cases hb : 200 < (f[k]'(by omega)).s.length
      · go_wp2
        go_ret
        refine RetV.bool ?_ (by repeat (first | exact Below.refl _ _ | refine Below.drew ?_ | refine Below.alloc ?_ (by first | omega | (simp; done) | (simp; omega)) _ | refine Below.setCell ?_ (by first | omega | (simp; done) | (simp; omega)) _ | refine Below.trans ?_ (Below.mono (by assumption) (by first | omega | (simp; done) | (simp; omega)))))
        symm
        exact List.any_eq_true.2 ⟨_, M.out, by simpa using hb⟩
      · go_wp2
        go_roundw
        case rel => exact ⟨k + 1, by omega, by go_num, by rw [T.out, List.any_append, NO.out]; simpa using hb, by first | rfl | trivial⟩
        case measure => simp [intOf]; omega
    · have : k = 8 := by omega
      subst this
      go_wp2
      go_ret
      refine RetV.bool ?_ (by repeat (first | exact Below.refl _ _ | refine Below.drew ?_ | refine Below.alloc ?_ (by first | omega | (simp; done) | (simp; omega)) _ | refine Below.setCell ?_ (by first | omega | (simp; done) | (simp; omega)) _ | refine Below.trans ?_ (Below.mono (by assumption) (by first | omega | (simp; done) | (simp; omega)))))
      have := NO.out
      rw [List.take_of_length_le (by omega)] at this
      exact this.symm
def vals (f : List Val) : Bool := f.all Val.ok
def Card.ok (c : Card) : Bool := decide (1 ≤ c.id) && decide (c.id < 1073741824) && decide (1 ≤ c.ver) && decide (c.ver ≤ 1099511627776) && decide (c.lab < 65536) && vals c.f
/-! The program's. -/
end Go.Proofs.Ytldoedmclfbgpaa
namespace Go.Proofs.Ytldoedmclfbgpaa
open Go.RowKit

theorem farr_one (f : List Val) : ∀ v ∈ (farr f).toList, v.oneCell' = true := by
  intro v hv
  unfold farr at hv
  simp only [List.mem_flatMap] at hv
  obtain ⟨x, -, hx⟩ := hv
  simp only [Val.cells, List.mem_cons, List.not_mem_nil, or_false] at hx
  rcases hx with rfl | rfl | rfl <;> rfl
theorem farr_put {f : List Val} {k : Nat} (h : k < f.length) (x : Val) : putAt (farr f) (k * 3) [.int .i64 x.kind, .int .i64 x.n, .string (str x.s)] = farr (f.set k x) := by
  have hs := farr_size f
  have hs' := farr_size (f.set k x)
  rw [List.length_set] at hs'
  apply Array.ext_getElem?
  intro i
  by_cases hi : i < f.length * 3
  · obtain ⟨q, r, hr, rfl⟩ : ∃ q r, r < 3 ∧ i = q * 3 + r := ⟨i / 3, i % 3, by omega, by omega⟩
    have hq : q < f.length := by omega
    obtain ⟨a0, a1, a2⟩ := farr_get (f := f.set k x) (k := q) (by rw [List.length_set]; exact hq)
    obtain ⟨b0, b1, b2⟩ := farr_get (f := f) (k := q) hq
    by_cases hk : q = k
    · subst hk
      have hp : (putAt (farr f) (q * 3) [.int .i64 x.kind, .int .i64 x.n, .string (str x.s)])[q * 3 + r]? = ([.int .i64 x.kind, .int .i64 x.n, .string (str x.s)] : List Value)[r]? := putAt_in _ _ _ r (by rw [hs]; simp; omega) (by simpa using hr)
      rw [hp]
      simp only [List.getElem_set_self] at a0 a1 a2
      obtain rfl | rfl | rfl : r = 0 ∨ r = 1 ∨ r = 2 := by omega
      · rw [Nat.add_zero, a0]; rfl
      · rw [a1]; rfl
      · rw [a2]; rfl
    · rw [putAt_far _ _ _ _ (by simp; omega)]
      rw [List.getElem_set_ne (fun e => hk e.symm)] at a0 a1 a2
      obtain rfl | rfl | rfl : r = 0 ∨ r = 1 ∨ r = 2 := by omega
      · rw [Nat.add_zero, a0, b0]
      · rw [a1, b1]
      · rw [a2, b2]
  · rw [Array.getElem?_eq_none (by rw [putAt_size, hs]; omega), Array.getElem?_eq_none (by rw [hs']; omega)]
theorem putAt_app (hd tl : List Value) (j : Nat) (vs : List Value) (h : j + vs.length ≤ tl.length) : putAt (hd ++ tl).toArray (hd.length + j) vs = (hd ++ (putAt tl.toArray j vs).toList).toArray := by
  apply Array.ext_getElem?
  intro i
  have e : (hd ++ (putAt tl.toArray j vs).toList).toArray[i]? = (hd ++ (putAt tl.toArray j vs).toList)[i]? := by simp only [List.getElem?_toArray]
  rw [e]
  clear e
  by_cases hi : i < hd.length
  · rw [putAt_far _ _ _ _ (.inl (by omega)), List.getElem?_append_left hi, List.getElem?_toArray, List.getElem?_append_left hi]
  · obtain ⟨q, rfl⟩ : ∃ q, i = hd.length + q := ⟨i - hd.length, by omega⟩
    rw [List.getElem?_append_right (by omega), Nat.add_sub_cancel_left, Array.getElem?_toList]
    by_cases h1 : q < j ∨ j + vs.length ≤ q
    · rw [putAt_far _ _ _ _ (by omega), putAt_far _ _ _ _ h1, List.getElem?_toArray, List.getElem?_append_right (by omega), Nat.add_sub_cancel_left, List.getElem?_toArray]
    · obtain ⟨r, rfl⟩ : ∃ r, q = j + r := ⟨q - j, by omega⟩
      rw [← Nat.add_assoc, putAt_in _ _ _ _ (by simp; omega) (by omega), putAt_in _ _ _ _ (by simp; omega) (by omega)]
theorem farr_list (f : List Val) : (farr f).toList = f.flatMap Val.cells := by unfold farr; rfl
theorem farr_all {f g : List Val} (h : f.length = g.length) : putAt (farr f) 0 (farr g).toList = farr g := by
  have h1 := farr_size f
  have h2 := farr_size g
  apply Array.ext_getElem?
  intro i
  by_cases hi : i < g.length * 3
  · have := putAt_in (farr g).toList (farr f) 0 i (by rw [Array.length_toList]; omega) (by rw [Array.length_toList]; omega)
    rw [Nat.zero_add] at this
    rw [this, Array.getElem?_toList]
  · rw [Array.getElem?_eq_none (by rw [putAt_size]; omega), Array.getElem?_eq_none (by omega)]
theorem flat_size (f : List Val) : (f.flatMap Val.cells).length = f.length * 3 := flat_length val_len f
section
variable {a b : Int} {l m : Nat} {f g : List Val}
theorem Card.put0 (v : Int) : (Card.arr ⟨a, b, l, f⟩).setIfInBounds 0 (.int .i64 v) = Card.arr ⟨v, b, l, f⟩ := by unfold Card.arr; simp
theorem Card.put1 (v : Int) : (Card.arr ⟨a, b, l, f⟩).setIfInBounds 1 (.int .i64 v) = Card.arr ⟨a, v, l, f⟩ := by unfold Card.arr; simp
theorem Card.put2 (v : Nat) : (Card.arr ⟨a, b, l, f⟩).setIfInBounds 2 (.int .u32 v) = Card.arr ⟨a, b, v, f⟩ := by unfold Card.arr; simp
theorem Card.putF (h : f.length = g.length) : putAt (Card.arr ⟨a, b, l, f⟩) 3 (farr g).toList = Card.arr ⟨a, b, l, g⟩ := by
  have e := putAt_app [.int .i64 a, .int .i64 b, .int .u32 l] (f.flatMap Val.cells) 0 (farr g).toList (by rw [farr_list, flat_size, flat_size]; omega)
  have e2 := farr_all h
  unfold farr at e2
  unfold Card.arr
  refine e.trans ?_
  unfold farr
  rw [e2]
theorem Card.putV {k : Nat} (h : k < f.length) (x : Val) : putAt (Card.arr ⟨a, b, l, f⟩) (3 + k * 3) [.int .i64 x.kind, .int .i64 x.n, .string (str x.s)] = Card.arr ⟨a, b, l, f.set k x⟩ := by
  have e := putAt_app [.int .i64 a, .int .i64 b, .int .u32 l] (f.flatMap Val.cells) (k * 3) [.int .i64 x.kind, .int .i64 x.n, .string (str x.s)] (by rw [flat_size]; simp; omega)
  have e2 := farr_put h x
  unfold farr at e2
  unfold Card.arr
  refine e.trans ?_
  rw [e2]
theorem Patch.put0 (v : Nat) : (Patch.arr ⟨m, l, f⟩).setIfInBounds 0 (.int .u32 v) = Patch.arr ⟨v, l, f⟩ := by unfold Patch.arr; simp
theorem Patch.put1 (v : Nat) : (Patch.arr ⟨m, l, f⟩).setIfInBounds 1 (.int .u32 v) = Patch.arr ⟨m, v, f⟩ := by unfold Patch.arr; simp
theorem Patch.putF (h : f.length = g.length) : putAt (Patch.arr ⟨m, l, f⟩) 2 (farr g).toList = Patch.arr ⟨m, l, g⟩ := by
  have e := putAt_app [.int .u32 m, .int .u32 l] (f.flatMap Val.cells) 0 (farr g).toList (by rw [farr_list, flat_size, flat_size]; omega)
  have e2 := farr_all h
  unfold farr at e2
  unfold Patch.arr
  refine e.trans ?_
  unfold farr
  rw [e2]
theorem Patch.putV {k : Nat} (h : k < f.length) (x : Val) : putAt (Patch.arr ⟨m, l, f⟩) (2 + k * 3) [.int .i64 x.kind, .int .i64 x.n, .string (str x.s)] = Patch.arr ⟨m, l, f.set k x⟩ := by
  have e := putAt_app [.int .u32 m, .int .u32 l] (f.flatMap Val.cells) (k * 3) [.int .i64 x.kind, .int .i64 x.n, .string (str x.s)] (by rw [flat_size]; simp; omega)
  have e2 := farr_put h x
  unfold farr at e2
  unfold Patch.arr
  refine e.trans ?_
  rw [e2]
end
theorem Card.arr_one (c : Card) : ∀ v ∈ c.arr.toList, v.oneCell' = true := by
  intro v hv
  unfold Card.arr at hv
  rw [List.mem_append] at hv
  rcases hv with hv | hv
  · simp only [List.mem_cons, List.not_mem_nil, or_false] at hv
    rcases hv with rfl | rfl | rfl <;> rfl
  · exact farr_one c.f v (by rw [farr_list]; exact hv)
theorem Patch.arr_one (c : Patch) : ∀ v ∈ c.arr.toList, v.oneCell' = true := by
  intro v hv
  unfold Patch.arr at hv
  rw [List.mem_append] at hv
  rcases hv with hv | hv
  · simp only [List.mem_cons, List.not_mem_nil, or_false] at hv
    rcases hv with rfl | rfl <;> rfl
  · exact farr_one c.f v (by rw [farr_list]; exact hv)
theorem Card.arr_ones (c : Card) : (c.arr.all fun x => x.oneCell') = true := by
  rw [Array.all_eq_true]
  exact fun i hi => Card.arr_one c _ (Array.getElem_mem_toList hi)
theorem Patch.arr_ones (c : Patch) : (c.arr.all fun x => x.oneCell') = true := by
  rw [Array.all_eq_true]
  exact fun i hi => Patch.arr_one c _ (Array.getElem_mem_toList hi)
end Go.Proofs.Ytldoedmclfbgpaa
namespace Go.Proofs.Ytldoedmclfbgpaa
open Go.RowKit

theorem stop_build {P : Program} {w : World} {ops : Array Oper} {rest : List Oper} {o : Oper} {a : Act} {Q : Exit → Act → World → Prop} (t : TypeId) (parts : Array (Nat × Operand)) (_ : o.op = .build t parts) (h : Stop (wpList P ops Q (o :: rest) a w)) : wpList P ops Q (o :: rest) a w := h
theorem wpList_buildD {P : Program} {w : World} {ops : Array Oper} {rest : List Oper} {o : Oper} {a : Act} {Q : Exit → Act → World → Prop} (hgd : o.guard = none) (t : TypeId) (parts : Array (Nat × Operand)) (ho : o.op = .build t parts) (ps : List (Nat × Value))
    (hp : (parts.toList.map fun (i, x) => (i, a.eval x)) = ps) (cells : Array Value) (hc : P.built t ps = some cells)
    (h : wpList P ops Q rest (a.put o.dst (.agg cells)) w) : wpList P ops Q (o :: rest) a w := by
  refine wpList_plain hgd fun K hK => ?_
  unfold Oper.wp execOp
  simp only [ho, Sem.run_bind, run_build w t _ cells (by rw [Array.toList_map, hp]; exact hc), Result.andThen_ok]
  exact hK _ _ h
theorem foldl_put : ∀ (vs : List Value) (cs : Array Value) (off k : Nat), (vs.zipIdx k).foldl (fun cs (x : Value × Nat) => cs.setIfInBounds (off + x.2) x.1) cs = putAt cs (off + k) vs
  | [], _, _, _ => rfl
  | v :: r, cs, off, k => by
    rw [List.zipIdx_cons, List.foldl_cons, foldl_put r, putAt]
    rfl
theorem fill_one (pl : Nat → Option (Nat × Nat)) (cells : Array Value) (i off : Nat) (v : Value) (rest : List (Nat × Value)) (hp : pl i = some (off, 1)) (hv : v.cells = #[v]) (hs : off + 1 ≤ cells.size) : Instr.fill pl cells ((i, v) :: rest) = Instr.fill pl (cells.setIfInBounds off v) rest := by
  rw [Instr.fill, hp, hv]
  simp
  omega
theorem fill_agg (pl : Nat → Option (Nat × Nat)) (cells : Array Value) (i off n : Nat) (E : Array Value) (rest : List (Nat × Value)) (hp : pl i = some (off, n)) (hn : E.size = n) (hs : off + n ≤ cells.size) : Instr.fill pl cells ((i, .agg E) :: rest) = Instr.fill pl (putAt cells off E.toList) rest := by
  subst hn
  rw [Instr.fill, hp]
  have hc : (Value.agg E).cells = E := rfl
  simp only [hc]
  rw [if_neg (by simp; omega)]
  congr 1
  have := foldl_put E.toList cells off 0
  rw [Nat.add_zero] at this
  rw [← this, ← Array.foldl_toList, Array.toList_zipIdx]

end Go.Proofs.Ytldoedmclfbgpaa
