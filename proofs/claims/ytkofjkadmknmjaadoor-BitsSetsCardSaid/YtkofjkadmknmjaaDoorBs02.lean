/-
  Lemmas (walks and plain laws), in one text.
-/
import Derived.Test.YtkofjkadmknmjaaDoorBs01
import Derived.Test.YtkofjkadmknmjaaDoorRows
import Derived.WalkKit
import Derived.WalkSpells
import Derived.WalkLawsBesides
import Derived.Lib.Hide
import Derived.Deep.QuietTactic
import Derived.BigQuiet
import Derived.Maps.AppendAt
import Derived.WalkSmall
import Derived.ProofKit
import Derived.OpenShut
import Derived.JoinedCond
import Derived.Deep.Slices
import Derived.Deep.Fields
import Derived.Carry
import Derived.HandedShaped
import Derived.Shelf.Small.Wraps
import Derived.Shelf.Utf8.RuneCount
import Derived.Shelf.Strconv.Itoa0
import Derived.Shelf.Strconv.Itoa1
import Derived.Shelf.LaysM
import Derived.Shelf.Strconv.Itoa2
import Derived.Shelf.Strconv.Itoa3
import Derived.Shelf.Strings.Search1
import Derived.Shelf.Strings.Search2
import Derived.Shelf.Strings.Search3
import Derived.Shelf.Strings.Count
import Derived.Shelf.Strings.Shaped
import Derived.Shelf.Strings.Prefix
import Derived.Shelf.Strings.Split
import Derived.Shelf.Strings.SplitShaped
import Derived.Shelf.Unicode.DecodeSlow
import Derived.Test.YtkofjkadmknmjaaDoorProg
import Derived.Deep.AppendSrc
import Derived.Lib.AppendStr
import Derived.Laws.BytesArg
import Derived.Lib.AppendIntMem
import Derived.Lib.ItoaLen
import Derived.Lib.TrailingZeros
import Derived.Lib.SplitLaws
import Derived.Lib.ItoaNum
import Derived.Shelf.Strings.PiecesUse
import Derived.Shelf.Spec.TrailingZeros
import Derived.RangeFuncNested
import Derived.RangeFuncBound
import Derived.RangeFuncCalls
import Derived.RangeFuncLeaves
import Derived.Shelf.Abstract
import Derived.Shelf.RegionOpen
import Derived.OwnWalkIn
import Derived.TacticsInMore
import Derived.LoopNIn
import Derived.LoopIn
import Derived.Test.YtkofjkadmknmjaaDoorTie
import Derived.Lib.LaidTab
import Derived.LaidMore
import Derived.Lay
import Derived.Stop.LaidErr
import Derived.SevenTiedAt
import Derived.Test.YtkofjkadmknmjaaDoorCards
import Derived.StillTail
import Derived.OrdersIn
import Derived.ControlIn
import Derived.Lib.BitFns
import Derived.Deep.CutBlock
import Derived.Deep.DeepCutAuto
import Derived.Laws.IdiomStrings
import Derived.Outline
import Derived.IntWalk
import Derived.Lib.Tables
namespace Go.Proofs
open Go.Shelf
def Tryd.laysM171_ren : Go.Shelf.Ren := ⟨fun | 171 => 80 | 243 => 94 | 246 => 100 | 283 => 109 | 284 => 110 | 285 => 111 | 286 => 112 | 129 => 117 | 317 => 116 | 318 => 118 | 319 => 119 | 320 => 120 | 337 => 83 | 338 => 121 | n => n, fun | 3 => 3 | 9 => 9 | 2 => 2 | 4 => 4 | 171 => 89 | 0 => 0 | 53 => 90 | 37 => 63 | 5 => 5 | 173 => 93 | 212 => 98 | 51 => 35 | 20 => 20 | 213 => 99 | 46 => 68 | 232 => 80 | 233 => 105 | n => n, fun | 17 => 2 | 18 => 0 | 19 => 5 | n => n⟩
theorem Tryd.laysM171 : Go.Proofs.LaysM.n171 Tryd.prog Tryd.laysM171_ren := {
  mixed := by kernel_rfl
  f129 := Tryd.func117.trans (congrArg some (by kernel_rfl))
  f171 := Tryd.func80.trans (congrArg some (by kernel_rfl))
  f243 := Tryd.func94.trans (congrArg some (by kernel_rfl))
  f246 := Tryd.func100.trans (congrArg some (by kernel_rfl))
  f283 := Tryd.func109.trans (congrArg some (by kernel_rfl))
  f284 := Tryd.func110.trans (congrArg some (by kernel_rfl))
  f285 := Tryd.func111.trans (congrArg some (by kernel_rfl))
  f286 := Tryd.func112.trans (congrArg some (by kernel_rfl))
  f317 := Tryd.func116.trans (congrArg some (by kernel_rfl))
  f318 := Tryd.func118.trans (congrArg some (by kernel_rfl))
  f319 := Tryd.func119.trans (congrArg some (by kernel_rfl))
  f320 := Tryd.func120.trans (congrArg some (by kernel_rfl))
  f337 := Tryd.func83.trans (congrArg some (by kernel_rfl))
  f338 := Tryd.func121.trans (congrArg some (by kernel_rfl))
  t0 := Tryd.underlying0
  a0 := Tryd.isAgg0
  z0 := Tryd.sizeOf0
  v0 := Tryd.zeroValue0
  t2 := Tryd.underlying2
  a2 := Tryd.isAgg2
  z2 := Tryd.sizeOf2
  v2 := Tryd.zeroValue2
  t3 := Tryd.underlying3
  a3 := Tryd.isAgg3
  z3 := Tryd.sizeOf3
  v3 := Tryd.zeroValue3
  t4 := Tryd.underlying4
  a4 := Tryd.isAgg4
  z4 := Tryd.sizeOf4
  v4 := Tryd.zeroValue4
  t5 := Tryd.underlying5
  a5 := Tryd.isAgg5
  z5 := Tryd.sizeOf5
  v5 := Tryd.zeroValue5
  t9 := Tryd.underlying9
  a9 := Tryd.isAgg9
  z9 := Tryd.sizeOf9
  v9 := Tryd.zeroValue9
  t20 := Tryd.underlying20
  a20 := Tryd.isAgg20
  z20 := Tryd.sizeOf20
  v20 := Tryd.zeroValue20
  t37 := Tryd.underlying63
  a37 := Tryd.isAgg63
  z37 := Tryd.sizeOf63
  v37 := Tryd.zeroValue63
  t46 := Tryd.underlying68
  a46 := Tryd.isAgg68
  z46 := Tryd.sizeOf68
  v46 := Tryd.zeroValue68
  t51 := Tryd.underlying35
  a51 := Tryd.isAgg35
  z51 := Tryd.sizeOf35
  v51 := Tryd.zeroValue35
  t53 := Tryd.underlying90
  a53 := Tryd.isAgg90
  z53 := Tryd.sizeOf90
  v53 := Tryd.zeroValue90
  t171 := Tryd.underlying89
  a171 := Tryd.isAgg89
  z171 := Tryd.sizeOf89
  v171 := Tryd.zeroValue89
  t173 := Tryd.underlying93
  a173 := Tryd.isAgg93
  z173 := Tryd.sizeOf93
  v173 := Tryd.zeroValue93
  t212 := Tryd.underlying98
  a212 := Tryd.isAgg98
  z212 := Tryd.sizeOf98
  v212 := Tryd.zeroValue98
  t213 := Tryd.underlying99
  a213 := Tryd.isAgg99
  z213 := Tryd.sizeOf99
  t232 := Tryd.underlying80
  a232 := Tryd.isAgg80
  z232 := Tryd.sizeOf80
  v232 := Tryd.zeroValue80
  t233 := Tryd.underlying105
  a233 := Tryd.isAgg105
  z233 := Tryd.sizeOf105
  v233 := Tryd.zeroValue105
  g17 := by kernel_rfl
  g18 := by kernel_rfl
  g19 := by kernel_rfl
  i0 := by kernel_rfl
  i2 := by kernel_rfl
  i3 := by kernel_rfl
  i4 := by kernel_rfl
  i5 := by kernel_rfl
  i9 := by kernel_rfl
  i20 := by kernel_rfl
  i37 := by kernel_rfl
  i46 := by kernel_rfl
  i51 := by kernel_rfl
  i53 := by kernel_rfl
  i171 := by kernel_rfl
  i173 := by kernel_rfl
  i212 := by kernel_rfl
  i232 := by kernel_rfl
  i233 := by kernel_rfl
  m17 := by kernel_rfl
  m18 := by kernel_rfl
  m19 := by kernel_rfl }
open Go.RowKit Go.Sort Go.Lib in
/-- strconv.Itoa: "Itoa is equivalent to FormatInt(int64(i), 10).": i's DECIMAL NUMERAL ('Lib.itoa': a '-' where i is negative, then the digits), FOR EVERY int. The world behind the call: the world before it, new blocks behind the heap (the library's 'var a [24]byte'), draws. (LAID: no walk: one application.) -/
theorem Tryd.strconv_Itoa (n : Int) (h0 : -9223372036854775808 ≤ n) (h1 : n ≤ 9223372036854775807) (w : World) (htab : Lib.TabIs Tryd.prog w "internal/strconv.uint64pow10" .u64 Lib.pow10Tab) :
    Calls Tryd.prog 80 #[.int .i64 n] w fun e w' => e = .returned (.string ⟨(Lib.itoa n).toArray⟩) ∧ ∃ k os, w' = grow (w.drewN k) os := Any.strconv_Itoa Tryd.laysM171 n h0 h1 w htab
def Tryd.laysM143_ren : Go.Shelf.Ren := ⟨fun | 143 => 90 | 219 => 97 | 217 => 102 | 225 => 103 | 224 => 104 | 267 => 105 | 266 => 113 | 314 => 114 | n => n, fun | 9 => 9 | 3 => 3 | 4 => 4 | 5 => 5 | 46 => 68 | 146 => 95 | 51 => 35 | n => n, fun | 1 => 1 | n => n⟩
theorem Tryd.laysM143 : Go.Proofs.LaysM.n143 Tryd.prog Tryd.laysM143_ren := {
  mixed := by kernel_rfl
  f143 := Tryd.func90.trans (congrArg some (by kernel_rfl))
  f217 := Tryd.func102.trans (congrArg some (by kernel_rfl))
  f219 := Tryd.func97.trans (congrArg some (by kernel_rfl))
  f224 := Tryd.func104.trans (congrArg some (by kernel_rfl))
  f225 := Tryd.func103.trans (congrArg some (by kernel_rfl))
  f266 := Tryd.func113.trans (congrArg some (by kernel_rfl))
  f267 := Tryd.func105.trans (congrArg some (by kernel_rfl))
  f314 := Tryd.func114.trans (congrArg some (by kernel_rfl))
  t3 := Tryd.underlying3
  a3 := Tryd.isAgg3
  z3 := Tryd.sizeOf3
  v3 := Tryd.zeroValue3
  t4 := Tryd.underlying4
  a4 := Tryd.isAgg4
  z4 := Tryd.sizeOf4
  v4 := Tryd.zeroValue4
  t5 := Tryd.underlying5
  a5 := Tryd.isAgg5
  z5 := Tryd.sizeOf5
  v5 := Tryd.zeroValue5
  t9 := Tryd.underlying9
  a9 := Tryd.isAgg9
  z9 := Tryd.sizeOf9
  v9 := Tryd.zeroValue9
  t46 := Tryd.underlying68
  a46 := Tryd.isAgg68
  z46 := Tryd.sizeOf68
  v46 := Tryd.zeroValue68
  t51 := Tryd.underlying35
  a51 := Tryd.isAgg35
  z51 := Tryd.sizeOf35
  v51 := Tryd.zeroValue35
  t146 := Tryd.underlying95
  a146 := Tryd.isAgg95
  z146 := Tryd.sizeOf95
  v146 := Tryd.zeroValue95
  g1 := by kernel_rfl
  i3 := by kernel_rfl
  i4 := by kernel_rfl
  i5 := by kernel_rfl
  i9 := by kernel_rfl
  i46 := by kernel_rfl
  i51 := by kernel_rfl
  i146 := by kernel_rfl
  m1 := by kernel_rfl
  s1_3 := fun w h => Go.Proofs.cell_of_shapedOpen_int (zero := #[.int .i64 0]) (t := 3) h (of_decide_eq_true (by kernel_rfl)) (by kernel_rfl) rfl (by kernel_rfl) (by kernel_rfl) Tryd.underlying3 }
def Tryd.lays146_ren : Go.Shelf.Ren := ⟨fun | 146 => 77 | 221 => 93 | 268 => 98 | 138 => 99 | 143 => 90 | 195 => 106 | 197 => 107 | 218 => 108 | 219 => 97 | 260 => 115 | 217 => 102 | 225 => 103 | 224 => 104 | 267 => 105 | 266 => 113 | 314 => 114 | n => n, fun | 9 => 9 | 31 => 69 | 3 => 3 | 4 => 4 | 0 => 0 | 105 => 87 | 21 => 21 | 5 => 5 | 46 => 68 | 119 => 101 | 139 => 104 | 138 => 103 | 146 => 95 | 51 => 35 | n => n, fun | 1 => 1 | 3 => 3 | 4 => 4 | n => n⟩
theorem Tryd.lays146 : Go.Proofs.Lays.n146 Tryd.prog Tryd.lays146_ren := {
  mixed := by kernel_rfl
  f138 := Tryd.func99.trans (congrArg some (by kernel_rfl))
  f143 := Tryd.func90.trans (congrArg some (by kernel_rfl))
  f146 := Tryd.func77.trans (congrArg some (by kernel_rfl))
  f195 := Tryd.func106.trans (congrArg some (by kernel_rfl))
  f197 := Tryd.func107.trans (congrArg some (by kernel_rfl))
  f217 := Tryd.func102.trans (congrArg some (by kernel_rfl))
  f218 := Tryd.func108.trans (congrArg some (by kernel_rfl))
  f219 := Tryd.func97.trans (congrArg some (by kernel_rfl))
  f221 := Tryd.func93.trans (congrArg some (by kernel_rfl))
  f224 := Tryd.func104.trans (congrArg some (by kernel_rfl))
  f225 := Tryd.func103.trans (congrArg some (by kernel_rfl))
  f260 := Tryd.func115.trans (congrArg some (by kernel_rfl))
  f266 := Tryd.func113.trans (congrArg some (by kernel_rfl))
  f267 := Tryd.func105.trans (congrArg some (by kernel_rfl))
  f268 := Tryd.func98.trans (congrArg some (by kernel_rfl))
  f314 := Tryd.func114.trans (congrArg some (by kernel_rfl))
  t0 := Tryd.underlying0
  a0 := Tryd.isAgg0
  z0 := Tryd.sizeOf0
  v0 := Tryd.zeroValue0
  t3 := Tryd.underlying3
  a3 := Tryd.isAgg3
  z3 := Tryd.sizeOf3
  v3 := Tryd.zeroValue3
  t4 := Tryd.underlying4
  a4 := Tryd.isAgg4
  z4 := Tryd.sizeOf4
  v4 := Tryd.zeroValue4
  t5 := Tryd.underlying5
  a5 := Tryd.isAgg5
  z5 := Tryd.sizeOf5
  v5 := Tryd.zeroValue5
  t9 := Tryd.underlying9
  a9 := Tryd.isAgg9
  z9 := Tryd.sizeOf9
  v9 := Tryd.zeroValue9
  t21 := Tryd.underlying21
  a21 := Tryd.isAgg21
  z21 := Tryd.sizeOf21
  v21 := Tryd.zeroValue21
  t31 := Tryd.underlying69
  a31 := Tryd.isAgg69
  z31 := Tryd.sizeOf69
  v31 := Tryd.zeroValue69
  t46 := Tryd.underlying68
  a46 := Tryd.isAgg68
  z46 := Tryd.sizeOf68
  v46 := Tryd.zeroValue68
  t51 := Tryd.underlying35
  a51 := Tryd.isAgg35
  z51 := Tryd.sizeOf35
  v51 := Tryd.zeroValue35
  t105 := Tryd.underlying87
  a105 := Tryd.isAgg87
  z105 := Tryd.sizeOf87
  v105 := Tryd.zeroValue87
  t119 := Tryd.underlying101
  a119 := Tryd.isAgg101
  z119 := Tryd.sizeOf101
  t138 := Tryd.underlying103
  a138 := Tryd.isAgg103
  z138 := Tryd.sizeOf103
  v138 := Tryd.zeroValue103
  t139 := Tryd.underlying104
  a139 := Tryd.isAgg104
  z139 := Tryd.sizeOf104
  v139 := Tryd.zeroValue104
  t146 := Tryd.underlying95
  a146 := Tryd.isAgg95
  z146 := Tryd.sizeOf95
  v146 := Tryd.zeroValue95
  g1 := by kernel_rfl
  g3 := by kernel_rfl
  g4 := by kernel_rfl }
open Go.RowKit Go.Lib in
/-- strings.Split. (LAID: no walk: one application.) -/
theorem Tryd.strings_Split (s sep : ByteArray) (m : Int) (w : World) (hs : s.size < 4294967281) (hm : w.cell? ⟨1, 0, none⟩ = some (.int .i64 m)) (h1 : 1 ≤ sep.size) :
    Calls Tryd.prog 77 #[.string s, .string sep] w fun e w' =>
      e = .returned (.slice (some ⟨w.heap.size, 0, none⟩) (Lib.countB s sep + 1) (Lib.countB s sep + 1)) ∧ w' = w.alloc (.cells ((Lib.splitB sep 0 (Lib.countB s sep) s).map Value.string).toArray 9) := Any.strings_Split Tryd.lays146 (by kernel_rfl) s sep m w hs hm h1
end Go.Proofs
namespace Go.Proofs.YtkofjkadmknmjaaDoor
open Go.RowKit

def bc (b : UInt8) : List Value := [.int .u8 b.toNat]
/-- A slice of bytes. -/
abbrev InB := In 1 bc

theorem RetV.str {w w' : World} {a b : List UInt8} (h : a = b) (hb : Below w.heap.size w w') : RetV w (.string (str b)) (.returned (.string (str a))) w' := ⟨by rw [h], hb⟩

theorem RetS.of {α : Type} {k : Nat} {cs : α → List Value} {et : TypeId} {w w' : World} {l l' : List α} {v : Value} {b : Nat} (h : w'.ownsRow b et k v l'.length (l'.flatMap cs)) (hb : w.heap.size ≤ b) (e : l' = l) (hB : Below w.heap.size w w') :
    RetS k cs et w l (.returned v) w' := ⟨v, rfl, by subst e; exact own_base h hb, hB⟩

/-! Numbers and texts as bytes. -/
def numF : Nat → Nat → List UInt8
  | 0, v => [UInt8.ofNat v]
  | f + 1, v => if v < 128 then [UInt8.ofNat v] else UInt8.ofNat (v % 128 + 128) :: numF f (v / 128)
def clampN (n : Int) : Nat := (min (max n 0) 1099511627776).toNat
@[irreducible] def num (n : Int) : List UInt8 := numF 6 (clampN n)
section
variable {P : Program} (w : World)
theorem Src.go {A : Option Addr} {m size c : Nat} {news : List Value} {tx e' : TypeId} (hk : P.underlying tx = some (.slice e')) (h : Src w A m size news) (h1 : ∀ u ∈ news, u.oneCell' = true) : Go.Src P size tx (.slice A m c) m news w := by
  rcases A with _ | ad
  · have hm : m = 0 := by
      rcases Nat.eq_zero_or_pos m with h0 | h0
      · exact h0
      · obtain ⟨ad, hh, _⟩ := h.2 h0; cases hh
    subst hm
    have hnil : news = [] := List.eq_nil_of_length_eq_zero (by simpa using h.1)
    subst hnil
    exact Go.Src.ofNil w hk c
  · refine Go.Src.ofSlice w hk ad m c news h.1 (fun j u hu => ?_) h1
    rcases Nat.eq_zero_or_pos m with h0 | h0
    · subst h0
      have hnil : news = [] := List.eq_nil_of_length_eq_zero (by simpa using h.1)
      subst hnil; simp at hu
    · obtain ⟨ad', hh, hc⟩ := h.2 h0
      injection hh with hh; subst hh; exact hc j u hu
theorem Src.first {A : Option Addr} {m size c : Nat} {news : List Value} (h : Src w A m size news) : (Builtin.firstCells size m (.slice A m c)).run P w.drew = .ok news.toArray w.drew := by
  rcases A with _ | ad
  · have hm : m = 0 := by
      rcases Nat.eq_zero_or_pos m with h0 | h0
      · exact h0
      · obtain ⟨ad, hh, _⟩ := h.2 h0; cases hh
    subst hm
    have hnil : news = [] := List.eq_nil_of_length_eq_zero (by simpa using h.1)
    subst hnil
    exact run_firstCells_none w.drew size 0 0 c
  · refine run_firstCells_some w.drew size m ad m c news h.1 (fun j u hu => ?_)
    rcases Nat.eq_zero_or_pos m with h0 | h0
    · subst h0
      have hnil : news = [] := List.eq_nil_of_length_eq_zero (by simpa using h.1)
      subst hnil; simp at hu
    · obtain ⟨ad', hh, hc⟩ := h.2 h0
      injection hh with hh; subst hh; exact hc j u hu
/-- A slice that is full, or a call's own. -/
def Held (w : World) (base : Nat) (e : TypeId) (size : Nat) (v : Value) (n : Nat) (xs : List Value) : Prop :=
  w.ownsRow base e size v n xs ∨ ∃ A, v = .slice A n n ∧ Src w A n size xs
end
section
variable {w w' : World} {base : Nat} {e : TypeId} {size n : Nat} {v : Value} {xs : List Value}
theorem Src.below {A : Option Addr} (h : Src w A n size xs) (hb : Below w.heap.size w w') : Src w' A n size xs := by
  refine ⟨h.1, fun hm => ?_⟩
  obtain ⟨ad, rfl, hc⟩ := h.2 hm
  refine ⟨ad, rfl, fun j u hu => ?_⟩
  have h1 := hc j u hu
  rw [hb.cell (World.block_lt_of_cell? _ _ h1)]
  exact h1
theorem Held.below (h : Held w base e size v n xs) (hb : Below w.heap.size w w') : Held w' base e size v n xs := by
  rcases h with h | ⟨A, rfl, h⟩
  · exact .inl (own_below h hb)
  · exact .inr ⟨A, rfl, h.below hb⟩
theorem Held.shape (h : Held w base e size v n xs) : ∃ A c, v = .slice A n c := by
  rcases h with h | ⟨A, rfl, _⟩
  · obtain ⟨A, c, rfl, _⟩ := own_form h; exact ⟨_, _, rfl⟩
  · exact ⟨_, _, rfl⟩
end
/-! Bytes as texts. -/
section
variable {P : Program} (w : World)
end
end Go.Proofs.YtkofjkadmknmjaaDoor
namespace Go.Proofs.YtkofjkadmknmjaaDoor
open Go.RowKit

/-- internal/strconv's table of powers of ten holds what its source lays. -/
def PowTab (w : World) : Prop := ∀ w', Below w.heap.size w w' → Lib.TabIs Tryd.prog w' "internal/strconv.uint64pow10" .u64 Lib.pow10Tab
theorem PowTab.of {w : World} (h : Lib.TabIs Tryd.prog w "internal/strconv.uint64pow10" .u64 Lib.pow10Tab) : PowTab w := Lib.tabBelow_of_tabIs h
theorem PowTab.here {w : World} (h : PowTab w) : Lib.TabIs Tryd.prog w "internal/strconv.uint64pow10" .u64 Lib.pow10Tab := h w (Below.refl _ _)
theorem PowTab.below {w w' : World} (h : PowTab w) (hb : Below w.heap.size w w') : PowTab w' := fun w2 hb2 => h w2 (hb.trans (hb2.mono hb.size))
theorem below_sgrow (w : World) (k : Nat) (os : Array Obj) : Below w.heap.size w (Sort.grow (w.drewN k) os) :=
  ⟨rfl, rfl, rfl, by simp [Sort.grow, World.drewN], fun j hj => by
    show (w.heap ++ os)[j]? = w.heap[j]?
    rw [Array.getElem?_append_left hj]⟩
theorem c_Itoa (n : Int) (w : World) (h0 : -9223372036854775808 ≤ n) (h1 : n ≤ 9223372036854775807) (hP : PowTab w) : Calls Tryd.prog 80 #[.int .i64 n] w (RetV w (.string (str (Lib.itoa n)))) :=
  (Tryd.strconv_Itoa n h0 h1 w hP.here).mono fun _ _ ⟨he, k, os, hw⟩ => ⟨he, by rw [hw]; exact below_sgrow w k os⟩
set_option maxHeartbeats 400000 in
theorem c_bits_Tens (n : Int) (w : World) (h0 : -9223372036854775808 ≤ n) (h1 : n ≤ 9223372036854775807) (hP : PowTab w) : Calls Tryd.prog 35 #[.int .i64 n] w (RetV w (.string (str (Lib.itoa n)))) := by
  go_enter Tryd.func35, Tryd.ntmps35
  go_wp2_with (fail)
  refine (c_Itoa n _ h0 h1 hP).mono ?_
  rintro e w1 ⟨rfl, hb1⟩
  go_wp2_with (fail)
  go_ret
  exact RetV.of rfl hb1
def sc (s : List UInt8) : List Value := [.string (str s)]
end Go.Proofs.YtkofjkadmknmjaaDoor
namespace Go.Proofs.YtkofjkadmknmjaaDoor

/-! Numbers. -/
def tens (n : Nat) : List UInt8 := if n < 10 then [UInt8.ofNat (48 + n)] else tens (n / 10) ++ [UInt8.ofNat (48 + n % 10)]
def intF : Nat → List UInt8 → Option Nat
  | n, [] => some n
  | n, c :: s => if 48 ≤ c.toNat ∧ c.toNat ≤ 57 then intF (10 * n + (c.toNat - 48)) s else none
def intR (s : List UInt8) (most : Int) : Option Nat :=
  if s = [] ∨ 13 < s.length ∨ (1 < s.length ∧ s.head? = some 48) then none else match intF 0 s with
    | none => none
    | some n => if most < (n : Int) ∨ 1099511627776 < n then none else some n
theorem tens_lt {n : Nat} (h : n < 10) : tens n = [UInt8.ofNat (48 + n)] := by unfold tens; rw [if_pos h]
theorem tens_ge {n : Nat} (h : ¬ n < 10) : tens n = tens (n / 10) ++ [UInt8.ofNat (48 + n % 10)] := by rw [tens, if_neg h]
theorem u8_dig {n : Nat} (h : n < 10) : (UInt8.ofNat (48 + n)).toNat = 48 + n := by simp; omega
theorem intF_append : ∀ (a b : List UInt8) (n : Nat), intF n (a ++ b) = (intF n a).bind fun m => intF m b
  | [], b, n => rfl
  | c :: a, b, n => by
    simp only [List.cons_append, intF]
    split
    · exact intF_append a b _
    · rfl
theorem tens_ne (n : Nat) : tens n ≠ [] := by
  unfold tens; split <;> simp
theorem tens_digits (n : Nat) : ∀ c ∈ tens n, 48 ≤ c.toNat ∧ c.toNat ≤ 57 := by
  induction n using Nat.strongRecOn with
  | _ n ih =>
    by_cases h : n < 10
    · rw [tens_lt h]
      intro c hc
      simp only [List.mem_singleton] at hc
      subst hc
      rw [u8_dig h]; omega
    · rw [tens_ge h]
      intro c hc
      rcases List.mem_append.1 hc with hc | hc
      · exact ih (n / 10) (by omega) c hc
      · simp only [List.mem_singleton] at hc
        subst hc
        have : n % 10 < 10 := Nat.mod_lt _ (by omega)
        rw [u8_dig this]; omega
theorem intF_tens (n : Nat) : intF 0 (tens n) = some n := by
  induction n using Nat.strongRecOn with
  | _ n ih =>
    by_cases h : n < 10
    · rw [tens_lt h]
      simp only [intF, u8_dig h]
      rw [if_pos (by omega)]
      congr 1; omega
    · have hm : n % 10 < 10 := Nat.mod_lt _ (by omega)
      rw [tens_ge h, intF_append, ih (n / 10) (by omega)]
      simp only [Option.bind_some, intF, u8_dig hm]
      rw [if_pos (by omega)]
      congr 1; omega
theorem tens_len (n k : Nat) (h : n < 10 ^ k) (hk : 1 ≤ k) : (tens n).length ≤ k := by
  induction k generalizing n with
  | zero => omega
  | succ k ih =>
    by_cases h10 : n < 10
    · rw [tens_lt h10]; simp
    · rw [tens_ge h10, List.length_append]
      have hk1 : 1 ≤ k := by
        rcases Nat.eq_zero_or_pos k with h0 | h0
        · subst h0; omega
        · exact h0
      have := ih (n / 10) (Nat.div_lt_of_lt_mul (by rw [Nat.pow_succ, Nat.mul_comm] at h; exact h)) hk1
      simp; omega
theorem tens_head (n : Nat) : (tens n).head? = some 48 → n = 0 := by
  induction n using Nat.strongRecOn with
  | _ n ih =>
    by_cases h : n < 10
    · rw [tens_lt h]
      intro he
      simp only [List.head?_cons, Option.some.injEq] at he
      have := congrArg UInt8.toNat he
      rw [u8_dig h] at this
      have h48 : (48 : UInt8).toNat = 48 := rfl
      omega
    · rw [tens_ge h]
      intro he
      have hne := tens_ne (n / 10)
      have h0 := ih (n / 10) (by omega) (by
        cases ht : tens (n / 10) with
        | nil => exact absurd ht hne
        | cons c r => rw [ht] at he; simpa using he)
      omega
/-- A number that may be is read of its text. -/
theorem intR_tens {n : Nat} {most : Int} (h : n ≤ 1099511627776) (hm : (n : Int) ≤ most) : intR (tens n) most = some n := by
  unfold intR
  have h13 := tens_len n 13 (by omega) (by omega)
  rw [if_neg, intF_tens]
  · simp only
    rw [if_neg (by omega)]
  · rintro (h1 | h1 | ⟨h1, h2⟩)
    · exact tens_ne n h1
    · omega
    · have := tens_head n h2
      subst this
      rw [tens_lt (by omega)] at h1
      simp at h1
theorem snoc_or {α : Type} (l : List α) : l = [] ∨ ∃ r t, l = r ++ [t] := by
  rcases List.eq_nil_or_concat l with h | ⟨r, t, h⟩
  · exact .inl h
  · exact .inr ⟨r, t, by rw [h, List.concat_eq_append]⟩
theorem tens_intF (k : Nat) : ∀ (s : List UInt8) (n : Nat), s.length = k → s ≠ [] → (1 < s.length → s.head? ≠ some 48) → intF 0 s = some n → s = tens n ∧ (s.head? ≠ some 48 → 0 < n) := by
  induction k with
  | zero => intro s n hl hne; exact absurd (List.eq_nil_of_length_eq_zero hl) hne
  | succ k ih =>
    intro s n hl hne hh hs
    rcases snoc_or s with rfl | ⟨r, t, rfl⟩
    · exact absurd rfl hne
    · rw [intF_append] at hs
      cases hr : intF 0 r with
      | none => rw [hr] at hs; cases hs
      | some m =>
        rw [hr] at hs
        simp only [Option.bind_some, intF] at hs
        split at hs
        · rename_i ht
          injection hs with hs
          have ht2 : t = UInt8.ofNat (48 + (t.toNat - 48)) := by
            rw [show 48 + (t.toNat - 48) = t.toNat by omega]; simp
          by_cases hr0 : r = []
          · subst hr0
            simp only [intF, Option.some.injEq] at hr
            subst hr
            have hn : n = t.toNat - 48 := by omega
            subst hn
            refine ⟨by rw [tens_lt (by omega), ← ht2]; rfl, fun h => ?_⟩
            rcases Nat.eq_zero_or_pos (t.toNat - 48) with h0 | h0
            · exfalso; apply h
              have : t.toNat = 48 := by omega
              have h48 : t = 48 := by rw [ht2, this]; rfl
              rw [h48]; rfl
            · exact h0
          · have hrl : r.length = k := by simpa using hl
            have hrp : 0 < r.length := by
              rcases Nat.eq_zero_or_pos r.length with h0 | h0
              · exact absurd (List.eq_nil_of_length_eq_zero h0) hr0
              · exact h0
            have hhr : (r ++ [t]).head? = r.head? := by
              cases r with
              | nil => exact absurd rfl hr0
              | cons c r => rfl
            have hh' := hh (by simp; omega)
            rw [hhr] at hh'
            obtain ⟨h1, h2⟩ := ih r m hrl hr0 (fun _ => hh') hr
            have hm := h2 hh'
            refine ⟨?_, fun _ => by omega⟩
            rw [tens_ge (by omega), show n / 10 = m by omega, show n % 10 = t.toNat - 48 by omega, ← h1, ← ht2]
        · cases hs
/-- What is read as a number is its text. -/
theorem tens_intR {s : List UInt8} {most : Int} {n : Nat} (h : intR s most = some n) : s = tens n ∧ n ≤ 1099511627776 ∧ (n : Int) ≤ most := by
  unfold intR at h
  split at h
  · cases h
  · rename_i h1
    cases hi : intF 0 s with
    | none => rw [hi] at h; cases h
    | some m =>
      rw [hi] at h
      simp only at h
      split at h
      · cases h
      · injection h with h
        subst h
        refine ⟨(tens_intF s.length s m rfl (fun e => h1 (.inl e)) (fun hl e => h1 (.inr (.inr ⟨hl, e⟩))) hi).1, by omega, by omega⟩

/-! Texts in quotes. -/
end Go.Proofs.YtkofjkadmknmjaaDoor
namespace Go.Proofs.YtkofjkadmknmjaaDoor

/-- The numbers of a set, rising. -/
def idx (s : Nat) : List Nat := (List.range 32).filter s.testBit
def bitsF : Nat → Nat → List Nat
  | 0, _ => []
  | f + 1, s => if s % 2 = 1 then 0 :: (bitsF f (s / 2)).map (· + 1) else (bitsF f (s / 2)).map (· + 1)
theorem bitsF_range : ∀ (f s : Nat), bitsF f s = (List.range f).filter s.testBit
  | 0, s => by simp [bitsF]
  | f + 1, s => by
    rw [bitsF, bitsF_range f, List.range_succ_eq_map, List.filter_cons, List.filter_map]
    have e : (s.testBit ∘ Nat.succ) = (s / 2).testBit := by funext i; simp [Nat.testBit_succ]
    rw [e, Nat.testBit_zero]
    by_cases h : s % 2 = 1
    · rw [if_pos h, if_pos (by simpa using h)]
    · rw [if_neg h, if_neg (by simpa using h)]
theorem idx_F (s : Nat) : idx s = bitsF 32 s := (bitsF_range 32 s).symm
theorem bitsF_zero : ∀ f, bitsF f 0 = []
  | 0 => rfl
  | f + 1 => by rw [bitsF, if_neg (by decide), bitsF_zero f]; rfl
theorem idx_zero : idx 0 = [] := by rw [idx_F, bitsF_zero]
theorem and_low (s : Nat) (_h : s ≠ 0) : (s % 2 = 1 → s &&& (s - 1) = s - 1) ∧ (s % 2 = 0 → s &&& (s - 1) = 2 * (s / 2 &&& (s / 2 - 1))) := by
  have hd : (s &&& (s - 1)) / 2 = s / 2 &&& (s - 1) / 2 := Nat.and_div_two
  have hm : (s &&& (s - 1)) % 2 = 0 := by
    rcases Nat.mod_two_eq_zero_or_one (s &&& (s - 1)) with h1 | h1
    · exact h1
    · have := Nat.and_mod_two_eq_one.1 h1
      omega
  constructor
  · intro h1
    have e : (s - 1) / 2 = s / 2 := by omega
    rw [e, Nat.and_self] at hd
    omega
  · intro h1
    have e : (s - 1) / 2 = s / 2 - 1 := by omega
    rw [e] at hd
    omega
theorem bitsF_low : ∀ (f s : Nat), s ≠ 0 → s < 2 ^ f → bitsF f s = Go.Lib.ctzFrom f s :: bitsF f (s &&& (s - 1)) ∧ (s &&& (s - 1)) < s
  | 0, s, h0, h => by simp at h; omega
  | f + 1, s, h0, h => by
    obtain ⟨h1, h2⟩ := and_low s h0
    unfold Go.Lib.ctzFrom
    by_cases hs : s % 2 = 1
    · rw [h1 hs, if_pos hs, bitsF, if_pos hs, bitsF, if_neg (by omega), show (s - 1) / 2 = s / 2 by omega]
      exact ⟨rfl, by omega⟩
    · have ht : s / 2 ≠ 0 := by omega
      obtain ⟨i1, i2⟩ := bitsF_low f (s / 2) ht (by rw [Nat.pow_succ] at h; omega)
      rw [h2 (by omega), if_neg hs, bitsF, if_neg hs, i1, bitsF, if_neg (by omega), Nat.mul_div_cancel_left _ (by omega), List.map_cons, Nat.add_comm]
      exact ⟨rfl, by omega⟩
theorem idx_low {s : Nat} (h0 : s ≠ 0) (h : s < 4294967296) : idx s = Go.Lib.ctz 32 s :: idx (s &&& (s - 1)) ∧ (s &&& (s - 1)) < s := by
  have := bitsF_low 32 s h0 h
  rw [idx_F, idx_F, Go.Lib.ctz, if_neg h0]
  exact this
theorem idx_mem {s n : Nat} : n ∈ idx s ↔ n < 32 ∧ s.testBit n = true := by unfold idx; rw [List.mem_filter, List.mem_range]
theorem idx_len (s : Nat) : (idx s).length ≤ 32 := by
  unfold idx
  exact Nat.le_trans (List.length_filter_le _ _) (by simp)
theorem idx_sorted (s : Nat) : (idx s).Pairwise (· < ·) := by
  unfold idx
  exact List.Pairwise.filter _ List.pairwise_lt_range
/-- The set of some numbers. -/
def ofL (l : List Nat) : Nat := l.foldl (fun s n => s ||| 2 ^ n) 0
theorem ofL_from (l : List Nat) (s n : Nat) : (l.foldl (fun s n => s ||| 2 ^ n) s).testBit n = (s.testBit n || decide (n ∈ l)) := by
  induction l generalizing s with
  | nil => simp
  | cons x l ih =>
    rw [List.foldl_cons, ih, Nat.testBit_or, Nat.testBit_two_pow]
    by_cases h : n = x
    · subst h; simp
    · have h' : ¬ x = n := fun e => h e.symm
      simp [h, h']
theorem ofL_bit (l : List Nat) (n : Nat) : (ofL l).testBit n = decide (n ∈ l) := by unfold ofL; rw [ofL_from]; simp
theorem ofL_idx {s : Nat} (h : s < 4294967296) : ofL (idx s) = s := by
  refine Nat.eq_of_testBit_eq fun n => ?_
  rw [ofL_bit]
  by_cases hn : n < 32
  · cases hb : s.testBit n with
    | true => exact decide_eq_true (idx_mem.2 ⟨hn, hb⟩)
    | false => exact decide_eq_false (fun h => by rw [(idx_mem.1 h).2] at hb; cases hb)
  · rw [decide_eq_false (fun h => hn (idx_mem.1 h).1)]
    exact (Nat.testBit_lt_two_pow (Nat.lt_of_lt_of_le h (Nat.pow_le_pow_right (n := 2) (by omega) (Nat.le_of_not_lt hn)))).symm
end Go.Proofs.YtkofjkadmknmjaaDoor
