/-
  Lemmas (walks and plain laws), in one text.
-/
import Derived.Test.YtjhndilflcigiaaDoorQd1
import Derived.Test.YtjhndilflcigiaaDoorRows
import Derived.WalkKit
import Derived.WalkSpells
import Derived.WalkLawsBesides
import Derived.Lib.Hide
import Derived.Deep.QuietTactic
import Derived.BigQuiet
import Derived.Maps.AppendAt
import Derived.WalkSmall
import Derived.ProofKit
import Derived.OpenShut
import Derived.JoinedCond
import Derived.Deep.Slices
import Derived.Deep.Fields
import Derived.Carry
import Derived.Shelf.Strings.Builder1
import Derived.Shelf.Strings.Builder2
import Derived.Shelf.Strings.OnBuilder
import Derived.Shelf.Strings.BuilderF
import Derived.Shelf.Strings.BuilderK
import Derived.Shelf.Strings.Builder2Cap
import Derived.Shelf.Strconv.Itoa0
import Derived.Shelf.Strconv.Itoa1
import Derived.Shelf.LaysM
import Derived.Shelf.Strconv.Itoa2
import Derived.Shelf.Strconv.Itoa3
import Derived.Ground.Names2Prog
import Derived.Shelf.Slices.Clone
import Derived.Shelf.Slices.SearchI
import Derived.Ground.SlgnProg
import Derived.Shelf.SlicesE.Clone
import Derived.Test.YtjhndilflcigiaaDoorProg
import Derived.Deep.AppendSrc
import Derived.Lib.AppendStr
import Derived.Laws.BytesArg
import Derived.Lib.AppendIntMem
import Derived.Lib.ItoaLen
import Derived.Test.YtjhndilflcigiaaDoorTie
import Derived.Lib.LaidTab
import Derived.LaidMore
import Derived.Stop.LaidErr
import Derived.SevenTiedAt
import Derived.Test.YtjhndilflcigiaaDoorCards
import Derived.Deep.CutBlock
import Derived.Deep.DeepCutAuto
import Derived.Laws.Tables
import Derived.Laws.Rows
import Derived.Shelf.Spec.TrailingZeros
import Derived.RangeFuncNested
import Derived.RangeFuncBound
import Derived.RangeFuncCalls
import Derived.RangeFuncLeaves
import Derived.Shelf.Abstract
import Derived.Shelf.RegionOpen
import Derived.OwnWalkIn
import Derived.TacticsInMore
import Derived.LoopNIn
import Derived.LoopIn
import Derived.ChangeKeysEq
import Derived.Laws.StructEq
import Derived.Laws.CopyOwn
import Derived.Outline
import Derived.IntWalk
import Derived.Lib.EndianBits
import Derived.StillTail
namespace Go.Proofs
open Go.Shelf
def Tryd.lays156_ren : Go.Shelf.Ren := ⟨fun | 156 => 115 | 165 => 157 | 166 => 158 | 169 => 159 | 240 => 182 | 241 => 183 | 276 => 192 | 277 => 193 | n => n, fun | 31 => 146 | 9 => 9 | 3 => 3 | 4 => 4 | 0 => 0 | 20 => 20 | 72 => 187 | 76 => 191 | 70 => 185 | 37 => 33 | 75 => 190 | 127 => 214 | 164 => 223 | 5 => 5 | 80 => 193 | n => n, fun | n => n⟩
theorem Tryd.lays156 : Go.Proofs.Lays.n156 Tryd.prog Tryd.lays156_ren := {
  mixed := by kernel_rfl
  f156 := Tryd.func115.trans (congrArg some (by kernel_rfl))
  f165 := Tryd.func157.trans (congrArg some (by kernel_rfl))
  f166 := Tryd.func158.trans (congrArg some (by kernel_rfl))
  f169 := Tryd.func159.trans (congrArg some (by kernel_rfl))
  f240 := Tryd.func182.trans (congrArg some (by kernel_rfl))
  f241 := Tryd.func183.trans (congrArg some (by kernel_rfl))
  f276 := Tryd.func192.trans (congrArg some (by kernel_rfl))
  f277 := Tryd.func193.trans (congrArg some (by kernel_rfl))
  t0 := Tryd.underlying0
  a0 := Tryd.isAgg0
  z0 := Tryd.sizeOf0
  v0 := Tryd.zeroValue0
  t3 := Tryd.underlying3
  a3 := Tryd.isAgg3
  z3 := Tryd.sizeOf3
  v3 := Tryd.zeroValue3
  t4 := Tryd.underlying4
  a4 := Tryd.isAgg4
  z4 := Tryd.sizeOf4
  v4 := Tryd.zeroValue4
  t9 := Tryd.underlying9
  a9 := Tryd.isAgg9
  z9 := Tryd.sizeOf9
  v9 := Tryd.zeroValue9
  t20 := Tryd.underlying20
  a20 := Tryd.isAgg20
  z20 := Tryd.sizeOf20
  v20 := Tryd.zeroValue20
  t31 := Tryd.underlying146
  a31 := Tryd.isAgg146
  z31 := Tryd.sizeOf146
  v31 := Tryd.zeroValue146
  t37 := Tryd.underlying33
  a37 := Tryd.isAgg33
  z37 := Tryd.sizeOf33
  v37 := Tryd.zeroValue33
  t70 := Tryd.underlying185
  a70 := Tryd.isAgg185
  z70 := Tryd.sizeOf185
  v70 := Tryd.zeroValue185
  t72 := Tryd.underlying187
  a72 := Tryd.isAgg187
  z72 := Tryd.sizeOf187
  v72 := Tryd.zeroValue187
  t75 := Tryd.underlying190
  a75 := Tryd.isAgg190
  z75 := Tryd.sizeOf190
  v75 := Tryd.zeroValue190
  t76 := Tryd.underlying191
  a76 := Tryd.isAgg191
  z76 := Tryd.sizeOf191
  v76 := Tryd.zeroValue191
  t127 := Tryd.underlying214
  a127 := Tryd.isAgg214
  z127 := Tryd.sizeOf214
  v127 := Tryd.zeroValue214
  t164 := Tryd.underlying223
  a164 := Tryd.isAgg223
  z164 := Tryd.sizeOf223
  v164 := Tryd.zeroValue223 }
theorem Tryd.Builder_Extra_156 : Builder.Extra Tryd.prog Tryd.lays156_ren := {
  sizeBuilder := by kernel_rfl
  liesBuilder := by kernel_rfl
  t5 := Tryd.underlying5
  a5 := Tryd.isAgg5
  z5 := Tryd.sizeOf5
  v5 := Tryd.zeroValue5
  infoByte := by kernel_rfl
  cellsByte := by kernel_rfl
  sizeByte := by kernel_rfl
  neB5 := by decide }
open Go.RowKit in
/-- No element: the empty string; the world is as it was. (Whatever the slice's address and capacity: a nil slice too.) (LAID: no walk: one application.) -/
theorem Tryd.strings_Join_none (a : Option Addr) (c : Nat) (sep : ByteArray) (w : World) :
    Calls Tryd.prog 115 #[.slice a 0 c, .string sep] w fun e w' => e = .returned (.string ⟨#[]⟩) ∧ w' = w := Any.strings_Join_none Tryd.lays156 Tryd.Builder_Extra_156 a c sep w
open Go.RowKit in
/-- strings.Join: "Join concatenates the elements of its first argument to create a single string. The separator string sep is placed between elements in the resulting string.": HOWEVER MANY ELEMENTS. Below the heap's end the world is as it was. (LAID: no walk: one application.) -/
theorem Tryd.strings_Join (bk o c : Nat) (xs : List ByteArray) (sep : ByteArray) (w : World) (hcells : ∀ (j : Nat) x, xs[j]? = some x → w.cell? ⟨bk, o + j, none⟩ = some (.string x)) (hbk : bk < w.heap.size) (hN : xs.length ≤ 140737488355328) (hcap : xs.length ≤ c) (hlen : (Lib.join (xs.map (·.data.toList)) sep.data.toList).length ≤ 140737488355328) :
    Calls Tryd.prog 115 #[.slice (some ⟨bk, o, none⟩) xs.length c, .string sep] w fun e w' => e = .returned (.string ⟨(Lib.join (xs.map (·.data.toList)) sep.data.toList).toArray⟩) ∧ Below w.heap.size w w' := Any.strings_Join Tryd.lays156 Tryd.Builder_Extra_156 bk o c xs sep w hcells hbk hN hcap hlen
def Tryd.laysM171_ren : Go.Shelf.Ren := ⟨fun | 171 => 156 | 243 => 181 | 246 => 191 | 283 => 195 | 284 => 196 | 285 => 197 | 286 => 198 | 129 => 200 | 317 => 199 | 318 => 201 | 319 => 202 | 320 => 203 | 337 => 179 | 338 => 204 | n => n, fun | 3 => 3 | 9 => 9 | 2 => 2 | 4 => 4 | 171 => 227 | 0 => 0 | 53 => 228 | 37 => 33 | 5 => 5 | 173 => 231 | 212 => 234 | 51 => 22 | 20 => 20 | 213 => 235 | 46 => 133 | 232 => 221 | 233 => 237 | n => n, fun | 17 => 2 | 18 => 0 | 19 => 3 | n => n⟩
theorem Tryd.laysM171 : Go.Proofs.LaysM.n171 Tryd.prog Tryd.laysM171_ren := {
  mixed := by kernel_rfl
  f129 := Tryd.func200.trans (congrArg some (by kernel_rfl))
  f171 := Tryd.func156.trans (congrArg some (by kernel_rfl))
  f243 := Tryd.func181.trans (congrArg some (by kernel_rfl))
  f246 := Tryd.func191.trans (congrArg some (by kernel_rfl))
  f283 := Tryd.func195.trans (congrArg some (by kernel_rfl))
  f284 := Tryd.func196.trans (congrArg some (by kernel_rfl))
  f285 := Tryd.func197.trans (congrArg some (by kernel_rfl))
  f286 := Tryd.func198.trans (congrArg some (by kernel_rfl))
  f317 := Tryd.func199.trans (congrArg some (by kernel_rfl))
  f318 := Tryd.func201.trans (congrArg some (by kernel_rfl))
  f319 := Tryd.func202.trans (congrArg some (by kernel_rfl))
  f320 := Tryd.func203.trans (congrArg some (by kernel_rfl))
  f337 := Tryd.func179.trans (congrArg some (by kernel_rfl))
  f338 := Tryd.func204.trans (congrArg some (by kernel_rfl))
  t0 := Tryd.underlying0
  a0 := Tryd.isAgg0
  z0 := Tryd.sizeOf0
  v0 := Tryd.zeroValue0
  t2 := Tryd.underlying2
  a2 := Tryd.isAgg2
  z2 := Tryd.sizeOf2
  v2 := Tryd.zeroValue2
  t3 := Tryd.underlying3
  a3 := Tryd.isAgg3
  z3 := Tryd.sizeOf3
  v3 := Tryd.zeroValue3
  t4 := Tryd.underlying4
  a4 := Tryd.isAgg4
  z4 := Tryd.sizeOf4
  v4 := Tryd.zeroValue4
  t5 := Tryd.underlying5
  a5 := Tryd.isAgg5
  z5 := Tryd.sizeOf5
  v5 := Tryd.zeroValue5
  t9 := Tryd.underlying9
  a9 := Tryd.isAgg9
  z9 := Tryd.sizeOf9
  v9 := Tryd.zeroValue9
  t20 := Tryd.underlying20
  a20 := Tryd.isAgg20
  z20 := Tryd.sizeOf20
  v20 := Tryd.zeroValue20
  t37 := Tryd.underlying33
  a37 := Tryd.isAgg33
  z37 := Tryd.sizeOf33
  v37 := Tryd.zeroValue33
  t46 := Tryd.underlying133
  a46 := Tryd.isAgg133
  z46 := Tryd.sizeOf133
  v46 := Tryd.zeroValue133
  t51 := Tryd.underlying22
  a51 := Tryd.isAgg22
  z51 := Tryd.sizeOf22
  v51 := Tryd.zeroValue22
  t53 := Tryd.underlying228
  a53 := Tryd.isAgg228
  z53 := Tryd.sizeOf228
  v53 := Tryd.zeroValue228
  t171 := Tryd.underlying227
  a171 := Tryd.isAgg227
  z171 := Tryd.sizeOf227
  v171 := Tryd.zeroValue227
  t173 := Tryd.underlying231
  a173 := Tryd.isAgg231
  z173 := Tryd.sizeOf231
  v173 := Tryd.zeroValue231
  t212 := Tryd.underlying234
  a212 := Tryd.isAgg234
  z212 := Tryd.sizeOf234
  v212 := Tryd.zeroValue234
  t213 := Tryd.underlying235
  a213 := Tryd.isAgg235
  z213 := Tryd.sizeOf235
  t232 := Tryd.underlying221
  a232 := Tryd.isAgg221
  z232 := Tryd.sizeOf221
  v232 := Tryd.zeroValue221
  t233 := Tryd.underlying237
  a233 := Tryd.isAgg237
  z233 := Tryd.sizeOf237
  v233 := Tryd.zeroValue237
  g17 := by kernel_rfl
  g18 := by kernel_rfl
  g19 := by kernel_rfl
  i0 := by kernel_rfl
  i2 := by kernel_rfl
  i3 := by kernel_rfl
  i4 := by kernel_rfl
  i5 := by kernel_rfl
  i9 := by kernel_rfl
  i20 := by kernel_rfl
  i37 := by kernel_rfl
  i46 := by kernel_rfl
  i51 := by kernel_rfl
  i53 := by kernel_rfl
  i171 := by kernel_rfl
  i173 := by kernel_rfl
  i212 := by kernel_rfl
  i232 := by kernel_rfl
  i233 := by kernel_rfl
  m17 := by kernel_rfl
  m18 := by kernel_rfl
  m19 := by kernel_rfl }
open Go.RowKit Go.Sort Go.Lib in
/-- strconv.Itoa: "Itoa is equivalent to FormatInt(int64(i), 10).": i's DECIMAL NUMERAL ('Lib.itoa': a '-' where i is negative, then the digits), FOR EVERY int. The world behind the call: the world before it, new blocks behind the heap (the library's 'var a [24]byte'), draws. (LAID: no walk: one application.) -/
theorem Tryd.strconv_Itoa (n : Int) (h0 : -9223372036854775808 ≤ n) (h1 : n ≤ 9223372036854775807) (w : World) (htab : Lib.TabIs Tryd.prog w "internal/strconv.uint64pow10" .u64 Lib.pow10Tab) :
    Calls Tryd.prog 156 #[.int .i64 n] w fun e w' => e = .returned (.string ⟨(Lib.itoa n).toArray⟩) ∧ ∃ k os, w' = grow (w.drewN k) os := Any.strconv_Itoa Tryd.laysM171 n h0 h1 w htab
end Go.Proofs
namespace Go.Proofs.YtjhndilflcigiaaDoor
open Go.RowKit

def bc (b : UInt8) : List Value := [.int .u8 b.toNat]
theorem bc_len (b : UInt8) : (bc b).length = 1 := rfl
theorem bc_one (l : List UInt8) : ∀ u ∈ l.flatMap bc, u.oneCell' = true := by
  intro u hu
  obtain ⟨x, _, hx⟩ := List.mem_flatMap.1 hu
  simp only [bc, List.mem_singleton] at hx
  subst hx; rfl
/-- A slice of bytes. -/
abbrev InB := In 1 bc

theorem RetV.str {w w' : World} {a b : List UInt8} (h : a = b) (hb : Below w.heap.size w w') : RetV w (.string (str b)) (.returned (.string (str a))) w' := ⟨by rw [h], hb⟩

theorem RetS.of {α : Type} {k : Nat} {cs : α → List Value} {et : TypeId} {w w' : World} {l l' : List α} {v : Value} {b : Nat} (h : w'.ownsRow b et k v l'.length (l'.flatMap cs)) (hb : w.heap.size ≤ b) (e : l' = l) (hB : Below w.heap.size w w') :
    RetS k cs et w l (.returned v) w' := ⟨v, rfl, by subst e; exact own_base h hb, hB⟩

/-! Numbers and texts as bytes. -/
def numF : Nat → Nat → List UInt8
  | 0, v => [UInt8.ofNat v]
  | f + 1, v => if v < 128 then [UInt8.ofNat v] else UInt8.ofNat (v % 128 + 128) :: numF f (v / 128)
def clampN (n : Int) : Nat := (min (max n 0) 1099511627776).toNat
@[irreducible] def num (n : Int) : List UInt8 := numF 6 (clampN n)
section
variable {P : Program} (w : World)
theorem Src.go {A : Option Addr} {m size c : Nat} {news : List Value} {tx e' : TypeId} (hk : P.underlying tx = some (.slice e')) (h : Src w A m size news) (h1 : ∀ u ∈ news, u.oneCell' = true) : Go.Src P size tx (.slice A m c) m news w := by
  rcases A with _ | ad
  · have hm : m = 0 := by
      rcases Nat.eq_zero_or_pos m with h0 | h0
      · exact h0
      · obtain ⟨ad, hh, _⟩ := h.2 h0; cases hh
    subst hm
    have hnil : news = [] := List.eq_nil_of_length_eq_zero (by simpa using h.1)
    subst hnil
    exact Go.Src.ofNil w hk c
  · refine Go.Src.ofSlice w hk ad m c news h.1 (fun j u hu => ?_) h1
    rcases Nat.eq_zero_or_pos m with h0 | h0
    · subst h0
      have hnil : news = [] := List.eq_nil_of_length_eq_zero (by simpa using h.1)
      subst hnil; simp at hu
    · obtain ⟨ad', hh, hc⟩ := h.2 h0
      injection hh with hh; subst hh; exact hc j u hu
theorem Src.first {A : Option Addr} {m size c : Nat} {news : List Value} (h : Src w A m size news) : (Builtin.firstCells size m (.slice A m c)).run P w.drew = .ok news.toArray w.drew := by
  rcases A with _ | ad
  · have hm : m = 0 := by
      rcases Nat.eq_zero_or_pos m with h0 | h0
      · exact h0
      · obtain ⟨ad, hh, _⟩ := h.2 h0; cases hh
    subst hm
    have hnil : news = [] := List.eq_nil_of_length_eq_zero (by simpa using h.1)
    subst hnil
    exact run_firstCells_none w.drew size 0 0 c
  · refine run_firstCells_some w.drew size m ad m c news h.1 (fun j u hu => ?_)
    rcases Nat.eq_zero_or_pos m with h0 | h0
    · subst h0
      have hnil : news = [] := List.eq_nil_of_length_eq_zero (by simpa using h.1)
      subst hnil; simp at hu
    · obtain ⟨ad', hh, hc⟩ := h.2 h0
      injection hh with hh; subst hh; exact hc j u hu
/-- A slice that is full, or a call's own. -/
def Held (w : World) (base : Nat) (e : TypeId) (size : Nat) (v : Value) (n : Nat) (xs : List Value) : Prop :=
  w.ownsRow base e size v n xs ∨ ∃ A, v = .slice A n n ∧ Src w A n size xs
end
section
variable {w w' : World} {base : Nat} {e : TypeId} {size n : Nat} {v : Value} {xs : List Value}
theorem Src.below {A : Option Addr} (h : Src w A n size xs) (hb : Below w.heap.size w w') : Src w' A n size xs := by
  refine ⟨h.1, fun hm => ?_⟩
  obtain ⟨ad, rfl, hc⟩ := h.2 hm
  refine ⟨ad, rfl, fun j u hu => ?_⟩
  have h1 := hc j u hu
  rw [hb.cell (World.block_lt_of_cell? _ _ h1)]
  exact h1
theorem Held.below (h : Held w base e size v n xs) (hb : Below w.heap.size w w') : Held w' base e size v n xs := by
  rcases h with h | ⟨A, rfl, h⟩
  · exact .inl (own_below h hb)
  · exact .inr ⟨A, rfl, h.below hb⟩
/-- A slice that came in, its capacity cut to its length. -/
theorem Held.of_in {α : Type} {k : Nat} {cs : α → List Value} {A : Option Addr} {c : Nat} {l : List α} (hk : ∀ x, (cs x).length = k) (hk0 : 0 < k) (h : In k cs w A c l) :
    Held w base e k (.slice A l.length l.length) l.length (l.flatMap cs) := .inr ⟨A, rfl, Src.of_in hk hk0 h⟩
end
/-! Bytes as texts. -/
section
variable {P : Program} (w : World)
theorem conv_str {src dst e : TypeId} (hs : P.underlying src = some (.slice e)) (he : P.underlying e = some (.int .u8)) (hd : P.underlying dst = some .string) {A : Option Addr} {c : Nat} {l : List UInt8} (h : InB w A c l) :
    (convert src dst (.slice A l.length c)).run P w = .ok (.string (str l)) w := by
  rcases A with _ | ad
  · have : l = [] := by
      rcases h.2.2.2 with h | ⟨b, off, hh, _⟩
      · exact h
      · cases hh
    subst this
    exact run_convert_bytes_nil w src e hs he _ _ dst hd
  · refine run_convert_bytes_back w src dst e ad c l hs he hd (fun j hj => ?_)
    obtain ⟨b, off, hA, _, hrow⟩ := h.at hj
    injection hA with hA
    subst hA
    have := hrow j hj 0 _ rfl
    rw [add_lit']
    simpa using this
end
end Go.Proofs.YtjhndilflcigiaaDoor
namespace Go.Proofs.YtjhndilflcigiaaDoor
open Go.RowKit

/-- internal/strconv's table of powers of ten holds what its source lays. -/
def PowTab (w : World) : Prop := ∀ w', Below w.heap.size w w' → Lib.TabIs Tryd.prog w' "internal/strconv.uint64pow10" .u64 Lib.pow10Tab
theorem PowTab.of {w : World} (h : Lib.TabIs Tryd.prog w "internal/strconv.uint64pow10" .u64 Lib.pow10Tab) : PowTab w := Lib.tabBelow_of_tabIs h
theorem PowTab.here {w : World} (h : PowTab w) : Lib.TabIs Tryd.prog w "internal/strconv.uint64pow10" .u64 Lib.pow10Tab := h w (Below.refl _ _)
theorem PowTab.below {w w' : World} (h : PowTab w) (hb : Below w.heap.size w w') : PowTab w' := fun w2 hb2 => h w2 (hb.trans (hb2.mono hb.size))
theorem below_sgrow (w : World) (k : Nat) (os : Array Obj) : Below w.heap.size w (Sort.grow (w.drewN k) os) :=
  ⟨rfl, rfl, rfl, by simp [Sort.grow, World.drewN], fun j hj => by
    show (w.heap ++ os)[j]? = w.heap[j]?
    rw [Array.getElem?_append_left hj]⟩
theorem c_Itoa (n : Int) (w : World) (h0 : -9223372036854775808 ≤ n) (h1 : n ≤ 9223372036854775807) (hP : PowTab w) : Calls Tryd.prog 156 #[.int .i64 n] w (RetV w (.string (str (Lib.itoa n)))) :=
  (Tryd.strconv_Itoa n h0 h1 w hP.here).mono fun _ _ ⟨he, k, os, hw⟩ => ⟨he, by rw [hw]; exact below_sgrow w k os⟩
set_option maxHeartbeats 400000 in
theorem c_bits_Tens (n : Int) (w : World) (h0 : -9223372036854775808 ≤ n) (h1 : n ≤ 9223372036854775807) (hP : PowTab w) : Calls Tryd.prog 113 #[.int .i64 n] w (RetV w (.string (str (Lib.itoa n)))) := by
  go_enter Tryd.func113, Tryd.ntmps113
  go_wp2_with (fail)
  refine (c_Itoa n _ h0 h1 hP).mono ?_
  rintro e w1 ⟨rfl, hb1⟩
  go_wp2_with (fail)
  go_ret
  exact RetV.of rfl hb1
def sc (s : List UInt8) : List Value := [.string (str s)]
theorem sc_len (s : List UInt8) : (sc s).length = 1 := rfl
theorem elemS : Elem Tryd.prog 146 9 1 16 := Elem.mk' (z := .string (str [])) Tryd.underlying146 (by kernel_rfl) rfl (by omega) (by omega)
/-- A slice of texts. -/
abbrev InS := In 1 sc
theorem c_Join (l : List (List UInt8)) (A : Option Addr) (c : Nat) (sep : List UInt8) (w : World) (h : InS w A c l) (hl : (Lib.join l sep).length ≤ 140737488355328) (hn : l.length ≤ 1000000) :
    Calls Tryd.prog 115 #[.slice A l.length c, .string (str sep)] w (RetV w (.string (str (Lib.join l sep)))) := by
  by_cases h0 : l = []
  · subst h0
    exact (Tryd.strings_Join_none A c (str sep) w).mono fun _ _ ⟨he, hw⟩ => ⟨he, by rw [hw]; exact Below.refl _ _⟩
  · obtain ⟨b, off, rfl, hb, hrow⟩ := h.at (i := 0) (List.length_pos_iff.2 h0)
    have e1 : (l.map str).map (fun s : ByteArray => s.data.toList) = l := by
      rw [List.map_map]
      conv => rhs; rw [← List.map_id l]
      exact List.map_congr_left fun x _ => by simp
    have := Tryd.strings_Join b off c (l.map str) (str sep) w (fun j x hx => by
      rw [List.getElem?_map] at hx
      obtain ⟨s, hs, rfl⟩ := Option.map_eq_some_iff.1 hx
      obtain ⟨hj, rfl⟩ := List.getElem?_eq_some_iff.1 hs
      have := hrow j hj 0 _ rfl
      simpa using this) hb (by rw [List.length_map]; omega) (by rw [List.length_map]; exact h.1) (by rw [e1]; simpa using hl)
    rw [e1, List.length_map] at this
    exact this.mono fun _ _ ⟨he, hb⟩ => ⟨by rw [he]; simp, hb⟩
end Go.Proofs.YtjhndilflcigiaaDoor
namespace Go.Proofs.YtjhndilflcigiaaDoor
open Go.ChangeShapes Go.WideShapes Go.ChangeAt Go.RowKit

abbrev laidP : List (String × DataW Unit) := [("math/bits.deBruijn32tab", Rows.laid_math_bits_deBruijn32tab), ("math/bits.deBruijn64tab", Rows.laid_math_bits_deBruijn64tab), ("internal/strconv.uint64pow10", Rows.laid_internal_strconv_uint64pow10)]
theorem door_metP (os : Os) (args : Array Value) : laidMetH Tryd.prog laidP ((World.doorLaid Tryd.prog 400 os).forCall (fun _ _ => 0) ⟨#[], args, []⟩).memory :=
  laidMetH_of_parts3 (fuel := 8) (laidMet_of_run' 8 (by kernel_rfl) (by kernel_rfl)) (by kernel_rfl) (by kernel_rfl)
theorem g_pow : Tryd.prog.globalNamed "internal/strconv.uint64pow10" = some 2 := by kernel_rfl
theorem t_pow : (Tryd.prog.globals[2]?).map (·.type) = some 234 := by kernel_rfl
theorem c_pow : Tryd.prog.cellsOf 234 = 20 := by kernel_rfl
theorem c_u64 : Tryd.prog.cellsOf 228 = 1 := by kernel_rfl
theorem pow_of_laid {W : World} (h : laidMetH Tryd.prog laidP W) : PowTab W := by
  rw [MakeChecks.laidMetH_plain _ _ _ (by kernel_rfl)] at h
  exact PowTab.of (Lib.tabIs_of_head (zs := Lib.pow10Tab) g_pow t_pow Tryd.underlying234 Tryd.underlying228 c_u64 c_pow h.tail.tail)
end Go.Proofs.YtjhndilflcigiaaDoor
namespace Go.Proofs.YtjhndilflcigiaaDoor
open Go.ChangeShapes Go.WideShapes Go.ChangeAt Go.RowKit Go.Deep
open Go.ChangeMaps (open_string shut_string)

theorem list_of {α : Type} {Q : Nat → α → Prop} : ∀ n, (∀ i, i < n → ∃ x, Q i x) → ∃ l : List α, l.length = n ∧ ∀ i (h : i < l.length), Q i l[i]
  | 0, _ => ⟨[], rfl, fun i h => by simp at h⟩
  | n + 1, h => by
    obtain ⟨l, hl, hq⟩ := list_of n (fun i hi => h i (by omega))
    obtain ⟨x, hx⟩ := h n (by omega)
    refine ⟨l ++ [x], by simp [hl], fun i hi => ?_⟩
    by_cases hin : i < l.length
    · rw [List.getElem_append_left hin]; exact hq i hin
    · have : i = n := by simp at hi; omega
      subst this
      rw [List.getElem_append_right (by omega)]
      simpa using hx
theorem cell_spot {w : World} {a : Addr} {v : Value} (h : w.cell? a = some v) : a.spot = none := by
  unfold World.cell? at h
  split at h
  · split at h
    · cases h
    · rename_i hs; simpa using hs
  · cases h
end Go.Proofs.YtjhndilflcigiaaDoor
namespace Go.Proofs.YtjhndilflcigiaaDoor
open Go.ChangeShapes Go.WideShapes Go.ChangeAt Go.RowKit Go.Deep
open Go.ChangeMaps (open_string shut_string)

theorem u8_range {n : Int} (h : (Lit.int .u8 n).wf = true) : 0 ≤ n ∧ n ≤ 255 := by
  simpa [Lit.wf, IntKind.min, IntKind.max, IntKind.signed, IntKind.bits] using h
section
variable {H : Type} {enc : TypeId × Value → H} {w : World} {base : Nat} {spare : Nat → Bool} {held : Bool}
theorem c_uint8 : Tryd.prog.cellsOf 5 = 1 := by kernel_rfl
/-- A slice of bytes that came in. -/
theorem open_bytes {fuel : Nat} {cs : List Value} {x : DataW H × List MemPlace} (h : DataW.trod enc Tryd.prog w 0 spare held fuel 33 cs = some x) :
    ∃ (A : Option Addr) (c : Nat) (l : List UInt8), cs = [.slice A l.length c] ∧ l.length ≤ c ∧ c ≤ 9223372036854775807 ∧ (l = [] ∨ ∃ b off, A = some ⟨b, off, none⟩ ∧ b < w.heap.size ∧ Row 1 bc w b off l) := by
  rcases open_slice Tryd.underlying33 h with ⟨rfl, rfl⟩ | ⟨a, len, cap, m, n, D, Pl, rfl, hb, hl, hm, hmm, hx, hi⟩
  · exact ⟨none, 0, [], rfl, by simp, by omega, .inl rfl⟩
  · have hlm : len ≤ m := by rw [hmm]; split <;> omega
    have hq : ∀ i, i < len → ∃ v : UInt8, ∀ j u, (bc v)[j]? = some u → w.cell? (a.add (i * 1 + j)) = some u := by
      intro i hil
      obtain ⟨cs', hc, ht⟩ := hi i (by omega)
      rw [c_uint8] at hc
      obtain ⟨k, hk, _, wk⟩ := DataW.trod_int Tryd.underlying5 ht
      have hr := u8_range wk
      obtain ⟨_, hcl, hat⟩ := World.cells?_some hc
      refine ⟨UInt8.ofNat k.toNat, fun j u hu => ?_⟩
      have hj : j < 1 := (List.getElem?_eq_some_iff.1 hu).1
      have hj0 : j = 0 := by omega
      subst hj0
      have h1 := hat 0 (by omega)
      rw [Go.Deep.add_add] at h1
      rw [h1, hk]
      have e : ((UInt8.ofNat k.toNat).toNat : Int) = k := by simp; omega
      simp [bc] at hu
      rw [← hu]
      simp; omega
    obtain ⟨l, hll, hq⟩ := list_of len hq
    refine ⟨some a, cap, l, by rw [hll], by omega, by unfold maxLen at hm; omega, ?_⟩
    rcases Nat.eq_zero_or_pos len with h0 | h0
    · exact .inl (List.eq_nil_of_length_eq_zero (by omega))
    · right
      have h1 := hq 0 (by omega) 0 _ rfl
      have hsp := cell_spot h1
      have hlt := World.block_lt_of_cell? w _ h1
      obtain ⟨ab, ao, asp⟩ := a
      simp [Addr.add] at hsp hlt
      subst hsp
      refine ⟨ab, ao, rfl, hlt, fun i hi j u hu => ?_⟩
      have := hq i hi j u hu
      rw [add_lit'] at this
      rw [Nat.add_assoc]; exact this
end
end Go.Proofs.YtjhndilflcigiaaDoor
