/-
  Lemmas (walks and plain laws), in one text.
-/
import Derived.Test.YtfgjhgecmelccaaDoorTt1
import Derived.Test.YtfgjhgecmelccaaDoorRows
import Derived.WalkKit
import Derived.WalkSpells
import Derived.WalkLawsBesides
import Derived.Lib.Hide
import Derived.Deep.QuietTactic
import Derived.BigQuiet
import Derived.Maps.AppendAt
import Derived.WalkSmall
import Derived.ProofKit
import Derived.OpenShut
import Derived.JoinedCond
import Derived.Deep.Slices
import Derived.Deep.Fields
import Derived.Carry
import Derived.HandedShaped
import Derived.Shelf.Strings.Builder1
import Derived.Shelf.Strings.Builder2
import Derived.Shelf.Strings.OnBuilder
import Derived.Shelf.Small.Wraps
import Derived.Shelf.Utf8.RuneCount
import Derived.Shelf.Strconv.Itoa0
import Derived.Shelf.Strconv.Itoa1
import Derived.Shelf.LaysM
import Derived.Shelf.Strconv.Itoa2
import Derived.Shelf.Strconv.Itoa3
import Derived.Shelf.Strings.Search1
import Derived.Shelf.Strings.Search2
import Derived.Shelf.Strings.Search3
import Derived.Shelf.Strings.Count
import Derived.Shelf.Strings.Shaped
import Derived.Shelf.Strings.Split
import Derived.Shelf.Strings.SplitShaped
import Derived.Shelf.Unicode.Decode
import Derived.Shelf.Strings.RuneCount
import Derived.Shelf.Strings.Explode
import Derived.Shelf.Unicode.DecodeSlow
import Derived.Test.YtfgjhgecmelccaaDoorProg
import Derived.Deep.AppendSrc
import Derived.Lib.AppendStr
import Derived.Laws.BytesArg
import Derived.Lib.AppendIntMem
import Derived.Lib.ItoaLen
import Derived.Lib.TrailingZeros
import Derived.Lib.SplitLaws
import Derived.Lib.ItoaNum
import Derived.Shelf.Strings.PiecesUse
import Derived.Shelf.Spec.TrailingZeros
import Derived.RangeFuncNested
import Derived.RangeFuncBound
import Derived.RangeFuncCalls
import Derived.RangeFuncLeaves
import Derived.Shelf.Abstract
import Derived.Shelf.RegionOpen
import Derived.OwnWalkIn
import Derived.TacticsInMore
import Derived.LoopNIn
import Derived.LoopIn
import Derived.Test.YtfgjhgecmelccaaDoorTie
import Derived.Lib.LaidTab
import Derived.LaidMore
import Derived.Lay
import Derived.Stop.LaidErr
import Derived.SevenTiedAt
import Derived.Test.YtfgjhgecmelccaaDoorCards
import Derived.Deep.CutBlock
import Derived.Deep.DeepCutAuto
import Derived.Laws.Tables
import Derived.Laws.Rows
import Derived.Laws.CopyOwn
import Derived.Outline
import Derived.IntWalk
import Derived.Lib.EndianBits
import Derived.StillTail
import Derived.Laws.IdiomStrings
import Derived.ChangeKeysEq
import Derived.Laws.StructEq
namespace Go.Proofs
open Go.Shelf
def Tryd.lays156_ren : Go.Shelf.Ren := ⟨fun | 156 => 100 | 165 => 157 | 166 => 158 | 169 => 159 | 240 => 190 | 241 => 191 | 276 => 207 | 277 => 208 | n => n, fun | 31 => 136 | 9 => 9 | 3 => 3 | 4 => 4 | 0 => 0 | 20 => 20 | 72 => 195 | 76 => 199 | 70 => 193 | 37 => 50 | 75 => 198 | 127 => 229 | 164 => 246 | 5 => 5 | 80 => 201 | n => n, fun | n => n⟩
theorem Tryd.lays156 : Go.Proofs.Lays.n156 Tryd.prog Tryd.lays156_ren := {
  mixed := by kernel_rfl
  f156 := Tryd.func100.trans (congrArg some (by kernel_rfl))
  f165 := Tryd.func157.trans (congrArg some (by kernel_rfl))
  f166 := Tryd.func158.trans (congrArg some (by kernel_rfl))
  f169 := Tryd.func159.trans (congrArg some (by kernel_rfl))
  f240 := Tryd.func190.trans (congrArg some (by kernel_rfl))
  f241 := Tryd.func191.trans (congrArg some (by kernel_rfl))
  f276 := Tryd.func207.trans (congrArg some (by kernel_rfl))
  f277 := Tryd.func208.trans (congrArg some (by kernel_rfl))
  t0 := Tryd.underlying0
  a0 := Tryd.isAgg0
  z0 := Tryd.sizeOf0
  v0 := Tryd.zeroValue0
  t3 := Tryd.underlying3
  a3 := Tryd.isAgg3
  z3 := Tryd.sizeOf3
  v3 := Tryd.zeroValue3
  t4 := Tryd.underlying4
  a4 := Tryd.isAgg4
  z4 := Tryd.sizeOf4
  v4 := Tryd.zeroValue4
  t9 := Tryd.underlying9
  a9 := Tryd.isAgg9
  z9 := Tryd.sizeOf9
  v9 := Tryd.zeroValue9
  t20 := Tryd.underlying20
  a20 := Tryd.isAgg20
  z20 := Tryd.sizeOf20
  v20 := Tryd.zeroValue20
  t31 := Tryd.underlying136
  a31 := Tryd.isAgg136
  z31 := Tryd.sizeOf136
  v31 := Tryd.zeroValue136
  t37 := Tryd.underlying50
  a37 := Tryd.isAgg50
  z37 := Tryd.sizeOf50
  v37 := Tryd.zeroValue50
  t70 := Tryd.underlying193
  a70 := Tryd.isAgg193
  z70 := Tryd.sizeOf193
  v70 := Tryd.zeroValue193
  t72 := Tryd.underlying195
  a72 := Tryd.isAgg195
  z72 := Tryd.sizeOf195
  v72 := Tryd.zeroValue195
  t75 := Tryd.underlying198
  a75 := Tryd.isAgg198
  z75 := Tryd.sizeOf198
  v75 := Tryd.zeroValue198
  t76 := Tryd.underlying199
  a76 := Tryd.isAgg199
  z76 := Tryd.sizeOf199
  v76 := Tryd.zeroValue199
  t127 := Tryd.underlying229
  a127 := Tryd.isAgg229
  z127 := Tryd.sizeOf229
  v127 := Tryd.zeroValue229
  t164 := Tryd.underlying246
  a164 := Tryd.isAgg246
  z164 := Tryd.sizeOf246
  v164 := Tryd.zeroValue246 }
theorem Tryd.Builder_Extra_156 : Builder.Extra Tryd.prog Tryd.lays156_ren := {
  sizeBuilder := by kernel_rfl
  liesBuilder := by kernel_rfl
  t5 := Tryd.underlying5
  a5 := Tryd.isAgg5
  z5 := Tryd.sizeOf5
  v5 := Tryd.zeroValue5
  infoByte := by kernel_rfl
  cellsByte := by kernel_rfl
  sizeByte := by kernel_rfl
  neB5 := by decide }
open Go.RowKit in
/-- No element: the empty string; the world is as it was. (Whatever the slice's address and capacity: a nil slice too.) (LAID: no walk: one application.) -/
theorem Tryd.strings_Join_none (a : Option Addr) (c : Nat) (sep : ByteArray) (w : World) :
    Calls Tryd.prog 100 #[.slice a 0 c, .string sep] w fun e w' => e = .returned (.string ⟨#[]⟩) ∧ w' = w := Any.strings_Join_none Tryd.lays156 Tryd.Builder_Extra_156 a c sep w
open Go.RowKit in
/-- strings.Join: "Join concatenates the elements of its first argument to create a single string. The separator string sep is placed between elements in the resulting string.": HOWEVER MANY ELEMENTS. Below the heap's end the world is as it was. (LAID: no walk: one application.) -/
theorem Tryd.strings_Join (bk o c : Nat) (xs : List ByteArray) (sep : ByteArray) (w : World) (hcells : ∀ (j : Nat) x, xs[j]? = some x → w.cell? ⟨bk, o + j, none⟩ = some (.string x)) (hbk : bk < w.heap.size) (hN : xs.length ≤ 140737488355328) (hcap : xs.length ≤ c) (hlen : (Lib.join (xs.map (·.data.toList)) sep.data.toList).length ≤ 140737488355328) :
    Calls Tryd.prog 100 #[.slice (some ⟨bk, o, none⟩) xs.length c, .string sep] w fun e w' => e = .returned (.string ⟨(Lib.join (xs.map (·.data.toList)) sep.data.toList).toArray⟩) ∧ Below w.heap.size w w' := Any.strings_Join Tryd.lays156 Tryd.Builder_Extra_156 bk o c xs sep w hcells hbk hN hcap hlen
def Tryd.laysM171_ren : Go.Shelf.Ren := ⟨fun | 171 => 156 | 243 => 189 | 246 => 206 | 283 => 218 | 284 => 219 | 285 => 220 | 286 => 221 | 129 => 225 | 317 => 224 | 318 => 226 | 319 => 227 | 320 => 228 | 337 => 211 | 338 => 229 | n => n, fun | 3 => 3 | 9 => 9 | 2 => 2 | 4 => 4 | 171 => 252 | 0 => 0 | 53 => 253 | 37 => 50 | 5 => 5 | 173 => 256 | 212 => 266 | 51 => 23 | 20 => 20 | 213 => 267 | 46 => 156 | 232 => 258 | 233 => 269 | n => n, fun | 17 => 4 | 18 => 1 | 19 => 5 | n => n⟩
theorem Tryd.laysM171 : Go.Proofs.LaysM.n171 Tryd.prog Tryd.laysM171_ren := {
  mixed := by kernel_rfl
  f129 := Tryd.func225.trans (congrArg some (by kernel_rfl))
  f171 := Tryd.func156.trans (congrArg some (by kernel_rfl))
  f243 := Tryd.func189.trans (congrArg some (by kernel_rfl))
  f246 := Tryd.func206.trans (congrArg some (by kernel_rfl))
  f283 := Tryd.func218.trans (congrArg some (by kernel_rfl))
  f284 := Tryd.func219.trans (congrArg some (by kernel_rfl))
  f285 := Tryd.func220.trans (congrArg some (by kernel_rfl))
  f286 := Tryd.func221.trans (congrArg some (by kernel_rfl))
  f317 := Tryd.func224.trans (congrArg some (by kernel_rfl))
  f318 := Tryd.func226.trans (congrArg some (by kernel_rfl))
  f319 := Tryd.func227.trans (congrArg some (by kernel_rfl))
  f320 := Tryd.func228.trans (congrArg some (by kernel_rfl))
  f337 := Tryd.func211.trans (congrArg some (by kernel_rfl))
  f338 := Tryd.func229.trans (congrArg some (by kernel_rfl))
  t0 := Tryd.underlying0
  a0 := Tryd.isAgg0
  z0 := Tryd.sizeOf0
  v0 := Tryd.zeroValue0
  t2 := Tryd.underlying2
  a2 := Tryd.isAgg2
  z2 := Tryd.sizeOf2
  v2 := Tryd.zeroValue2
  t3 := Tryd.underlying3
  a3 := Tryd.isAgg3
  z3 := Tryd.sizeOf3
  v3 := Tryd.zeroValue3
  t4 := Tryd.underlying4
  a4 := Tryd.isAgg4
  z4 := Tryd.sizeOf4
  v4 := Tryd.zeroValue4
  t5 := Tryd.underlying5
  a5 := Tryd.isAgg5
  z5 := Tryd.sizeOf5
  v5 := Tryd.zeroValue5
  t9 := Tryd.underlying9
  a9 := Tryd.isAgg9
  z9 := Tryd.sizeOf9
  v9 := Tryd.zeroValue9
  t20 := Tryd.underlying20
  a20 := Tryd.isAgg20
  z20 := Tryd.sizeOf20
  v20 := Tryd.zeroValue20
  t37 := Tryd.underlying50
  a37 := Tryd.isAgg50
  z37 := Tryd.sizeOf50
  v37 := Tryd.zeroValue50
  t46 := Tryd.underlying156
  a46 := Tryd.isAgg156
  z46 := Tryd.sizeOf156
  v46 := Tryd.zeroValue156
  t51 := Tryd.underlying23
  a51 := Tryd.isAgg23
  z51 := Tryd.sizeOf23
  v51 := Tryd.zeroValue23
  t53 := Tryd.underlying253
  a53 := Tryd.isAgg253
  z53 := Tryd.sizeOf253
  v53 := Tryd.zeroValue253
  t171 := Tryd.underlying252
  a171 := Tryd.isAgg252
  z171 := Tryd.sizeOf252
  v171 := Tryd.zeroValue252
  t173 := Tryd.underlying256
  a173 := Tryd.isAgg256
  z173 := Tryd.sizeOf256
  v173 := Tryd.zeroValue256
  t212 := Tryd.underlying266
  a212 := Tryd.isAgg266
  z212 := Tryd.sizeOf266
  v212 := Tryd.zeroValue266
  t213 := Tryd.underlying267
  a213 := Tryd.isAgg267
  z213 := Tryd.sizeOf267
  t232 := Tryd.underlying258
  a232 := Tryd.isAgg258
  z232 := Tryd.sizeOf258
  v232 := Tryd.zeroValue258
  t233 := Tryd.underlying269
  a233 := Tryd.isAgg269
  z233 := Tryd.sizeOf269
  v233 := Tryd.zeroValue269
  g17 := by kernel_rfl
  g18 := by kernel_rfl
  g19 := by kernel_rfl
  i0 := by kernel_rfl
  i2 := by kernel_rfl
  i3 := by kernel_rfl
  i4 := by kernel_rfl
  i5 := by kernel_rfl
  i9 := by kernel_rfl
  i20 := by kernel_rfl
  i37 := by kernel_rfl
  i46 := by kernel_rfl
  i51 := by kernel_rfl
  i53 := by kernel_rfl
  i171 := by kernel_rfl
  i173 := by kernel_rfl
  i212 := by kernel_rfl
  i232 := by kernel_rfl
  i233 := by kernel_rfl
  m17 := by kernel_rfl
  m18 := by kernel_rfl
  m19 := by kernel_rfl }
open Go.RowKit Go.Sort Go.Lib in
/-- strconv.Itoa: "Itoa is equivalent to FormatInt(int64(i), 10).": i's DECIMAL NUMERAL ('Lib.itoa': a '-' where i is negative, then the digits), FOR EVERY int. The world behind the call: the world before it, new blocks behind the heap (the library's 'var a [24]byte'), draws. (LAID: no walk: one application.) -/
theorem Tryd.strconv_Itoa (n : Int) (h0 : -9223372036854775808 ≤ n) (h1 : n ≤ 9223372036854775807) (w : World) (htab : Lib.TabIs Tryd.prog w "internal/strconv.uint64pow10" .u64 Lib.pow10Tab) :
    Calls Tryd.prog 156 #[.int .i64 n] w fun e w' => e = .returned (.string ⟨(Lib.itoa n).toArray⟩) ∧ ∃ k os, w' = grow (w.drewN k) os := Any.strconv_Itoa Tryd.laysM171 n h0 h1 w htab
def Tryd.laysM143_ren : Go.Shelf.Ren := ⟨fun | 143 => 188 | 219 => 205 | 217 => 214 | 225 => 215 | 224 => 216 | 267 => 217 | 266 => 222 | 314 => 223 | n => n, fun | 9 => 9 | 3 => 3 | 4 => 4 | 5 => 5 | 46 => 156 | 146 => 263 | 51 => 23 | n => n, fun | 1 => 0 | n => n⟩
theorem Tryd.laysM143 : Go.Proofs.LaysM.n143 Tryd.prog Tryd.laysM143_ren := {
  mixed := by kernel_rfl
  f143 := Tryd.func188.trans (congrArg some (by kernel_rfl))
  f217 := Tryd.func214.trans (congrArg some (by kernel_rfl))
  f219 := Tryd.func205.trans (congrArg some (by kernel_rfl))
  f224 := Tryd.func216.trans (congrArg some (by kernel_rfl))
  f225 := Tryd.func215.trans (congrArg some (by kernel_rfl))
  f266 := Tryd.func222.trans (congrArg some (by kernel_rfl))
  f267 := Tryd.func217.trans (congrArg some (by kernel_rfl))
  f314 := Tryd.func223.trans (congrArg some (by kernel_rfl))
  t3 := Tryd.underlying3
  a3 := Tryd.isAgg3
  z3 := Tryd.sizeOf3
  v3 := Tryd.zeroValue3
  t4 := Tryd.underlying4
  a4 := Tryd.isAgg4
  z4 := Tryd.sizeOf4
  v4 := Tryd.zeroValue4
  t5 := Tryd.underlying5
  a5 := Tryd.isAgg5
  z5 := Tryd.sizeOf5
  v5 := Tryd.zeroValue5
  t9 := Tryd.underlying9
  a9 := Tryd.isAgg9
  z9 := Tryd.sizeOf9
  v9 := Tryd.zeroValue9
  t46 := Tryd.underlying156
  a46 := Tryd.isAgg156
  z46 := Tryd.sizeOf156
  v46 := Tryd.zeroValue156
  t51 := Tryd.underlying23
  a51 := Tryd.isAgg23
  z51 := Tryd.sizeOf23
  v51 := Tryd.zeroValue23
  t146 := Tryd.underlying263
  a146 := Tryd.isAgg263
  z146 := Tryd.sizeOf263
  v146 := Tryd.zeroValue263
  g1 := by kernel_rfl
  i3 := by kernel_rfl
  i4 := by kernel_rfl
  i5 := by kernel_rfl
  i9 := by kernel_rfl
  i46 := by kernel_rfl
  i51 := by kernel_rfl
  i146 := by kernel_rfl
  m1 := by kernel_rfl
  s1_3 := fun w h => Go.Proofs.cell_of_shapedOpen_int (zero := #[.int .i64 0]) (t := 3) h (of_decide_eq_true (by kernel_rfl)) (by kernel_rfl) rfl (by kernel_rfl) (by kernel_rfl) Tryd.underlying3 }
def Tryd.lays146_ren : Go.Shelf.Ren := ⟨fun | 146 => 92 | 221 => 155 | 268 => 186 | 138 => 187 | 143 => 188 | 195 => 202 | 197 => 203 | 218 => 204 | 219 => 205 | 260 => 213 | 217 => 214 | 225 => 215 | 224 => 216 | 267 => 217 | 266 => 222 | 314 => 223 | n => n, fun | 9 => 9 | 31 => 136 | 3 => 3 | 4 => 4 | 0 => 0 | 105 => 242 | 21 => 21 | 5 => 5 | 46 => 156 | 119 => 259 | 139 => 262 | 138 => 261 | 146 => 263 | 51 => 23 | n => n, fun | 1 => 0 | 3 => 2 | 4 => 3 | n => n⟩
theorem Tryd.lays146 : Go.Proofs.Lays.n146 Tryd.prog Tryd.lays146_ren := {
  mixed := by kernel_rfl
  f138 := Tryd.func187.trans (congrArg some (by kernel_rfl))
  f143 := Tryd.func188.trans (congrArg some (by kernel_rfl))
  f146 := Tryd.func92.trans (congrArg some (by kernel_rfl))
  f195 := Tryd.func202.trans (congrArg some (by kernel_rfl))
  f197 := Tryd.func203.trans (congrArg some (by kernel_rfl))
  f217 := Tryd.func214.trans (congrArg some (by kernel_rfl))
  f218 := Tryd.func204.trans (congrArg some (by kernel_rfl))
  f219 := Tryd.func205.trans (congrArg some (by kernel_rfl))
  f221 := Tryd.func155.trans (congrArg some (by kernel_rfl))
  f224 := Tryd.func216.trans (congrArg some (by kernel_rfl))
  f225 := Tryd.func215.trans (congrArg some (by kernel_rfl))
  f260 := Tryd.func213.trans (congrArg some (by kernel_rfl))
  f266 := Tryd.func222.trans (congrArg some (by kernel_rfl))
  f267 := Tryd.func217.trans (congrArg some (by kernel_rfl))
  f268 := Tryd.func186.trans (congrArg some (by kernel_rfl))
  f314 := Tryd.func223.trans (congrArg some (by kernel_rfl))
  t0 := Tryd.underlying0
  a0 := Tryd.isAgg0
  z0 := Tryd.sizeOf0
  v0 := Tryd.zeroValue0
  t3 := Tryd.underlying3
  a3 := Tryd.isAgg3
  z3 := Tryd.sizeOf3
  v3 := Tryd.zeroValue3
  t4 := Tryd.underlying4
  a4 := Tryd.isAgg4
  z4 := Tryd.sizeOf4
  v4 := Tryd.zeroValue4
  t5 := Tryd.underlying5
  a5 := Tryd.isAgg5
  z5 := Tryd.sizeOf5
  v5 := Tryd.zeroValue5
  t9 := Tryd.underlying9
  a9 := Tryd.isAgg9
  z9 := Tryd.sizeOf9
  v9 := Tryd.zeroValue9
  t21 := Tryd.underlying21
  a21 := Tryd.isAgg21
  z21 := Tryd.sizeOf21
  v21 := Tryd.zeroValue21
  t31 := Tryd.underlying136
  a31 := Tryd.isAgg136
  z31 := Tryd.sizeOf136
  v31 := Tryd.zeroValue136
  t46 := Tryd.underlying156
  a46 := Tryd.isAgg156
  z46 := Tryd.sizeOf156
  v46 := Tryd.zeroValue156
  t51 := Tryd.underlying23
  a51 := Tryd.isAgg23
  z51 := Tryd.sizeOf23
  v51 := Tryd.zeroValue23
  t105 := Tryd.underlying242
  a105 := Tryd.isAgg242
  z105 := Tryd.sizeOf242
  v105 := Tryd.zeroValue242
  t119 := Tryd.underlying259
  a119 := Tryd.isAgg259
  z119 := Tryd.sizeOf259
  t138 := Tryd.underlying261
  a138 := Tryd.isAgg261
  z138 := Tryd.sizeOf261
  v138 := Tryd.zeroValue261
  t139 := Tryd.underlying262
  a139 := Tryd.isAgg262
  z139 := Tryd.sizeOf262
  v139 := Tryd.zeroValue262
  t146 := Tryd.underlying263
  a146 := Tryd.isAgg263
  z146 := Tryd.sizeOf263
  v146 := Tryd.zeroValue263
  g1 := by kernel_rfl
  g3 := by kernel_rfl
  g4 := by kernel_rfl }
open Go.RowKit Go.Lib in
/-- strings.Split. (LAID: no walk: one application.) -/
theorem Tryd.strings_Split (s sep : ByteArray) (m : Int) (w : World) (hs : s.size < 4294967281) (hm : w.cell? ⟨0, 0, none⟩ = some (.int .i64 m)) (h1 : 1 ≤ sep.size) :
    Calls Tryd.prog 92 #[.string s, .string sep] w fun e w' =>
      e = .returned (.slice (some ⟨w.heap.size, 0, none⟩) (Lib.countB s sep + 1) (Lib.countB s sep + 1)) ∧ w' = w.alloc (.cells ((Lib.splitB sep 0 (Lib.countB s sep) s).map Value.string).toArray 9) := Any.strings_Split Tryd.lays146 (by kernel_rfl) s sep m w hs hm h1
end Go.Proofs
namespace Go.Proofs.YtfgjhgecmelccaaDoor
open Go.RowKit

def bc (b : UInt8) : List Value := [.int .u8 b.toNat]
theorem bc_len (b : UInt8) : (bc b).length = 1 := rfl
theorem bc_one (l : List UInt8) : ∀ u ∈ l.flatMap bc, u.oneCell' = true := by
  intro u hu
  obtain ⟨x, _, hx⟩ := List.mem_flatMap.1 hu
  simp only [bc, List.mem_singleton] at hx
  subst hx; rfl
/-- A slice of bytes. -/
abbrev InB := In 1 bc

theorem RetV.str {w w' : World} {a b : List UInt8} (h : a = b) (hb : Below w.heap.size w w') : RetV w (.string (str b)) (.returned (.string (str a))) w' := ⟨by rw [h], hb⟩

theorem RetS.of {α : Type} {k : Nat} {cs : α → List Value} {et : TypeId} {w w' : World} {l l' : List α} {v : Value} {b : Nat} (h : w'.ownsRow b et k v l'.length (l'.flatMap cs)) (hb : w.heap.size ≤ b) (e : l' = l) (hB : Below w.heap.size w w') :
    RetS k cs et w l (.returned v) w' := ⟨v, rfl, by subst e; exact own_base h hb, hB⟩

/-! Numbers and texts as bytes. -/
def numF : Nat → Nat → List UInt8
  | 0, v => [UInt8.ofNat v]
  | f + 1, v => if v < 128 then [UInt8.ofNat v] else UInt8.ofNat (v % 128 + 128) :: numF f (v / 128)
def clampN (n : Int) : Nat := (min (max n 0) 1099511627776).toNat
@[irreducible] def num (n : Int) : List UInt8 := numF 6 (clampN n)
theorem num_def (n : Int) : num n = numF 6 (clampN n) := by unfold num; rfl
theorem numF_lt {f v : Nat} (h : v < 128) : numF f v = [UInt8.ofNat v] := by
  cases f with
  | zero => rfl
  | succ f => unfold numF; rw [if_pos h]
theorem numF_ge {f v : Nat} (h : ¬ v < 128) : numF (f + 1) v = UInt8.ofNat (v % 128 + 128) :: numF f (v / 128) := by rw [numF, if_neg h]
theorem clampN_le (n : Int) : clampN n ≤ 1099511627776 := by unfold clampN; omega
theorem clampN_lt (n : Int) : clampN n < 128 ^ (6 + 1) := Nat.lt_of_le_of_lt (clampN_le n) (by decide)
theorem clampN_int (n : Int) : (clampN n : Int) = min (max n 0) 1099511627776 := by unfold clampN; omega
theorem numF_len : ∀ f v, 1 ≤ (numF f v).length ∧ (numF f v).length ≤ f + 1
  | 0, v => by simp [numF]
  | f + 1, v => by
    unfold numF
    have := numF_len f (v / 128)
    split
    · simp
    · simp only [List.length_cons]; omega
theorem num_len (n : Int) : 1 ≤ (num n).length ∧ (num n).length ≤ 7 := by rw [num_def]; exact numF_len 6 _

section
variable {P : Program} (w : World)
theorem own_grown {w : World} {base : Nat} {e : TypeId} {size N : Nat} {z : Value} {xs : List Value} (hz : z.cells.size = size) (hx : xs.length = N * size) (hb : base ≤ w.heap.size) (old : Nat) (hN : N ≤ maxLen) :
    (w.drew.alloc (.cells (xs.toArray ++ Builtin.zeroCells z.cells (grownCap w N old e - N)) e)).ownsRow base e size (.slice (some ⟨w.heap.size, 0, none⟩) N (grownCap w N old e)) N xs := by
  have hge := grownCap_ge w N old e
  have hcm : grownCap w N old e ≤ maxLen := grownCap_le_maxLen w N old e hN
  refine ⟨hx, .inr ⟨w.heap.size, _, _, rfl, hb, heap_alloc_new w.drew _, hge, hcm, ?_, ?_⟩⟩
  · simp only [Array.size_append, List.size_toArray, size_zeroCells, hz, hx, ← Nat.add_mul]
    congr 1
    omega
  · simp only [Array.toList_append]
    rw [← hx]
    exact List.take_left
theorem Src.go {A : Option Addr} {m size c : Nat} {news : List Value} {tx e' : TypeId} (hk : P.underlying tx = some (.slice e')) (h : Src w A m size news) (h1 : ∀ u ∈ news, u.oneCell' = true) : Go.Src P size tx (.slice A m c) m news w := by
  rcases A with _ | ad
  · have hm : m = 0 := by
      rcases Nat.eq_zero_or_pos m with h0 | h0
      · exact h0
      · obtain ⟨ad, hh, _⟩ := h.2 h0; cases hh
    subst hm
    have hnil : news = [] := List.eq_nil_of_length_eq_zero (by simpa using h.1)
    subst hnil
    exact Go.Src.ofNil w hk c
  · refine Go.Src.ofSlice w hk ad m c news h.1 (fun j u hu => ?_) h1
    rcases Nat.eq_zero_or_pos m with h0 | h0
    · subst h0
      have hnil : news = [] := List.eq_nil_of_length_eq_zero (by simpa using h.1)
      subst hnil; simp at hu
    · obtain ⟨ad', hh, hc⟩ := h.2 h0
      injection hh with hh; subst hh; exact hc j u hu
theorem Src.first {A : Option Addr} {m size c : Nat} {news : List Value} (h : Src w A m size news) : (Builtin.firstCells size m (.slice A m c)).run P w.drew = .ok news.toArray w.drew := by
  rcases A with _ | ad
  · have hm : m = 0 := by
      rcases Nat.eq_zero_or_pos m with h0 | h0
      · exact h0
      · obtain ⟨ad, hh, _⟩ := h.2 h0; cases hh
    subst hm
    have hnil : news = [] := List.eq_nil_of_length_eq_zero (by simpa using h.1)
    subst hnil
    exact run_firstCells_none w.drew size 0 0 c
  · refine run_firstCells_some w.drew size m ad m c news h.1 (fun j u hu => ?_)
    rcases Nat.eq_zero_or_pos m with h0 | h0
    · subst h0
      have hnil : news = [] := List.eq_nil_of_length_eq_zero (by simpa using h.1)
      subst hnil; simp at hu
    · obtain ⟨ad', hh, hc⟩ := h.2 h0
      injection hh with hh; subst hh; exact hc j u hu
/-- append onto a slice that is full: a new row. -/
theorem wpList_appF {ops : Array Oper} {rest : List Oper} {o : Oper} {a : Act} {Q : Exit → Act → World → Prop} (hgd : o.guard = none) (s x : Operand) {t e tx : TypeId} {size bytes : Nat} (I : Elem P t e size bytes)
    (ho : o.op = .call { callee := .builtin .append, args := #[s, x], argTypes := #[t, tx] })
    (base : Nat) (A : Option Addr) (n : Nat) (olds : List Value) (hs : a.eval s = .slice A n n) (hb : Src w A n size olds)
    (xv : Value) (m : Nat) (news : List Value) (hx : a.eval x = xv) (hsrc : Go.Src P size tx xv m news w) (hm : 0 < m) (hn : n + m ≤ 8589934592) (hbase : base ≤ w.heap.size)
    (h : ∀ v' w', w'.ownsRow base e size v' (n + m) (olds ++ news) → Below base w w' → wpList P ops Q rest (a.put o.dst v') w') : wpList P ops Q (o :: rest) a w := by
  refine wpList_plain hgd fun K hK => ?_
  obtain ⟨i, z, h2, h3, h4, h5, h6⟩ := I.info
  subst h4; subst h5
  have hb1 : (n + m) * i.bytes ≤ 140737488355328 := Nat.le_trans (Nat.mul_le_mul hn I.small) (by omega)
  have hL : (olds ++ news).length = (n + m) * i.size := by rw [List.length_append, hb.1, hsrc.newsLen, Nat.add_mul]
  have hrun := run_append_grow_src (P := P) w t tx o.type e i z I.under h2 h3 A n n olds hb.first xv m news hsrc (by omega) (by omega) (growslice_fits (by omega) hb1)
  unfold Oper.wp execOp
  simp only [ho, resolve, invoke, builtin, Sem.run_bind, Sem.run_pure, Result.andThen_ok, List.map_toArray, List.map_cons, List.map_nil, hs, hx, hrun]
  refine hK _ _ (h _ _ (own_grown h6 hL hbase _ (by unfold maxLen; omega)) ?_)
  exact Below.alloc ((Below.refl _ _).drew) hbase _
/-- A slice that is full, or a call's own. -/
def Held (w : World) (base : Nat) (e : TypeId) (size : Nat) (v : Value) (n : Nat) (xs : List Value) : Prop :=
  w.ownsRow base e size v n xs ∨ ∃ A, v = .slice A n n ∧ Src w A n size xs
/-- append onto such a slice. -/
theorem wpList_appH {ops : Array Oper} {rest : List Oper} {o : Oper} {a : Act} {Q : Exit → Act → World → Prop} (hgd : o.guard = none) (s x : Operand) {t e : TypeId} {size bytes : Nat} (I : Elem P t e size bytes)
    (ho : o.op = .call { callee := .builtin .append, args := #[s, x], argTypes := #[t, t] })
    (base : Nat) (v : Value) (n : Nat) (olds : List Value) (hs : a.eval s = v) (hb : Held w base e size v n olds)
    (A : Option Addr) (m c : Nat) (news : List Value) (hx : a.eval x = .slice A m c) (hr : Src w A m size news) (h1 : ∀ u ∈ news, u.oneCell' = true) (hm : 0 < m) (hn : n + m ≤ 8589934592) (hbase : base ≤ w.heap.size)
    (h : ∀ v' w', w'.ownsRow base e size v' (n + m) (olds ++ news) → Below base w w' → wpList P ops Q rest (a.put o.dst v') w') : wpList P ops Q (o :: rest) a w := by
  rcases hb with hb | ⟨A0, rfl, hb⟩
  · exact wpList_app w hgd s x I ho base v n olds hs hb A m c news hx hr h1 hn hbase (fun v' w' h1 _ h2 _ => h v' w' h1 h2)
  · exact wpList_appF w hgd s x I ho base A0 n olds hs hb _ m news hx (hr.go w I.under h1) hm hn hbase h
end
section
variable {w w' : World} {base : Nat} {e : TypeId} {size n : Nat} {v : Value} {xs : List Value}
theorem Src.below {A : Option Addr} (h : Src w A n size xs) (hb : Below w.heap.size w w') : Src w' A n size xs := by
  refine ⟨h.1, fun hm => ?_⟩
  obtain ⟨ad, rfl, hc⟩ := h.2 hm
  refine ⟨ad, rfl, fun j u hu => ?_⟩
  have h1 := hc j u hu
  rw [hb.cell (World.block_lt_of_cell? _ _ h1)]
  exact h1
theorem Held.below (h : Held w base e size v n xs) (hb : Below w.heap.size w w') : Held w' base e size v n xs := by
  rcases h with h | ⟨A, rfl, h⟩
  · exact .inl (own_below h hb)
  · exact .inr ⟨A, rfl, h.below hb⟩
theorem Held.shape (h : Held w base e size v n xs) : ∃ A c, v = .slice A n c := by
  rcases h with h | ⟨A, rfl, _⟩
  · obtain ⟨A, c, rfl, _⟩ := own_form h; exact ⟨_, _, rfl⟩
  · exact ⟨_, _, rfl⟩
/-- A slice that came in, its capacity cut to its length. -/
theorem Held.of_in {α : Type} {k : Nat} {cs : α → List Value} {A : Option Addr} {c : Nat} {l : List α} (hk : ∀ x, (cs x).length = k) (hk0 : 0 < k) (h : In k cs w A c l) :
    Held w base e k (.slice A l.length l.length) l.length (l.flatMap cs) := .inr ⟨A, rfl, Src.of_in hk hk0 h⟩
end
/-! Bytes as texts. -/
section
variable {P : Program} (w : World)
theorem conv_str {src dst e : TypeId} (hs : P.underlying src = some (.slice e)) (he : P.underlying e = some (.int .u8)) (hd : P.underlying dst = some .string) {A : Option Addr} {c : Nat} {l : List UInt8} (h : InB w A c l) :
    (convert src dst (.slice A l.length c)).run P w = .ok (.string (str l)) w := by
  rcases A with _ | ad
  · have : l = [] := by
      rcases h.2.2.2 with h | ⟨b, off, hh, _⟩
      · exact h
      · cases hh
    subst this
    exact run_convert_bytes_nil w src e hs he _ _ dst hd
  · refine run_convert_bytes_back w src dst e ad c l hs he hd (fun j hj => ?_)
    obtain ⟨b, off, hA, _, hrow⟩ := h.at hj
    injection hA with hA
    subst hA
    have := hrow j hj 0 _ rfl
    rw [add_lit']
    simpa using this
theorem conv_one {src dst e : TypeId} (hs : P.underlying src = some (.slice e)) (he : P.underlying e = some (.int .u8)) (hd : P.underlying dst = some .string) (x : Int) :
    (convert src dst (.slice (some ⟨w.heap.size, 0, none⟩) 1 1)).run P (w.alloc (.cells #[.int .u8 x] e)) = .ok (.string (str [UInt8.ofNat x.toNat])) (w.alloc (.cells #[.int .u8 x] e)) := by
  refine run_convert_bytes_arg _ src e hs he w.heap.size 0 1 1 [x] rfl (fun i hi => ?_) dst hd
  have : i = 0 := by omega
  subst this
  simp [World.cell?_alloc_new]
end
end Go.Proofs.YtfgjhgecmelccaaDoor
namespace Go.Proofs.YtfgjhgecmelccaaDoor
open Go.RowKit

/-- internal/strconv's table of powers of ten holds what its source lays. -/
def PowTab (w : World) : Prop := ∀ w', Below w.heap.size w w' → Lib.TabIs Tryd.prog w' "internal/strconv.uint64pow10" .u64 Lib.pow10Tab
theorem PowTab.of {w : World} (h : Lib.TabIs Tryd.prog w "internal/strconv.uint64pow10" .u64 Lib.pow10Tab) : PowTab w := Lib.tabBelow_of_tabIs h
theorem PowTab.here {w : World} (h : PowTab w) : Lib.TabIs Tryd.prog w "internal/strconv.uint64pow10" .u64 Lib.pow10Tab := h w (Below.refl _ _)
theorem PowTab.below {w w' : World} (h : PowTab w) (hb : Below w.heap.size w w') : PowTab w' := fun w2 hb2 => h w2 (hb.trans (hb2.mono hb.size))
theorem below_sgrow (w : World) (k : Nat) (os : Array Obj) : Below w.heap.size w (Sort.grow (w.drewN k) os) :=
  ⟨rfl, rfl, rfl, by simp [Sort.grow, World.drewN], fun j hj => by
    show (w.heap ++ os)[j]? = w.heap[j]?
    rw [Array.getElem?_append_left hj]⟩
theorem c_Itoa (n : Int) (w : World) (h0 : -9223372036854775808 ≤ n) (h1 : n ≤ 9223372036854775807) (hP : PowTab w) : Calls Tryd.prog 156 #[.int .i64 n] w (RetV w (.string (str (Lib.itoa n)))) :=
  (Tryd.strconv_Itoa n h0 h1 w hP.here).mono fun _ _ ⟨he, k, os, hw⟩ => ⟨he, by rw [hw]; exact below_sgrow w k os⟩
set_option maxHeartbeats 400000 in
theorem c_bits_Tens (n : Int) (w : World) (h0 : -9223372036854775808 ≤ n) (h1 : n ≤ 9223372036854775807) (hP : PowTab w) : Calls Tryd.prog 99 #[.int .i64 n] w (RetV w (.string (str (Lib.itoa n)))) := by
  go_enter Tryd.func99, Tryd.ntmps99
  go_wp2_with (fail)
  refine (c_Itoa n _ h0 h1 hP).mono ?_
  rintro e w1 ⟨rfl, hb1⟩
  go_wp2_with (fail)
  go_ret
  exact RetV.of rfl hb1
def sc (s : List UInt8) : List Value := [.string (str s)]
theorem sc_len (s : List UInt8) : (sc s).length = 1 := rfl
theorem elemS : Elem Tryd.prog 136 9 1 16 := Elem.mk' (z := .string (str [])) Tryd.underlying136 (by kernel_rfl) rfl (by omega) (by omega)
/-- A slice of texts. -/
abbrev InS := In 1 sc
theorem c_Join (l : List (List UInt8)) (A : Option Addr) (c : Nat) (sep : List UInt8) (w : World) (h : InS w A c l) (hl : (Lib.join l sep).length ≤ 140737488355328) (hn : l.length ≤ 1000000) :
    Calls Tryd.prog 100 #[.slice A l.length c, .string (str sep)] w (RetV w (.string (str (Lib.join l sep)))) := by
  by_cases h0 : l = []
  · subst h0
    exact (Tryd.strings_Join_none A c (str sep) w).mono fun _ _ ⟨he, hw⟩ => ⟨he, by rw [hw]; exact Below.refl _ _⟩
  · obtain ⟨b, off, rfl, hb, hrow⟩ := h.at (i := 0) (List.length_pos_iff.2 h0)
    have e1 : (l.map str).map (fun s : ByteArray => s.data.toList) = l := by
      rw [List.map_map]
      conv => rhs; rw [← List.map_id l]
      exact List.map_congr_left fun x _ => by simp
    have := Tryd.strings_Join b off c (l.map str) (str sep) w (fun j x hx => by
      rw [List.getElem?_map] at hx
      obtain ⟨s, hs, rfl⟩ := Option.map_eq_some_iff.1 hx
      obtain ⟨hj, rfl⟩ := List.getElem?_eq_some_iff.1 hs
      have := hrow j hj 0 _ rfl
      simpa using this) hb (by rw [List.length_map]; omega) (by rw [List.length_map]; exact h.1) (by rw [e1]; simpa using hl)
    rw [e1, List.length_map] at this
    exact this.mono fun _ _ ⟨he, hb⟩ => ⟨by rw [he]; simp, hb⟩
end Go.Proofs.YtfgjhgecmelccaaDoor
