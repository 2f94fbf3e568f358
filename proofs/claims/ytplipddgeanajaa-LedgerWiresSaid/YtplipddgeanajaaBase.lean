/-
  What every walk of this seat leans on: the end of a call ('RetV': a value, and nothing that was there has turned), worlds that have grown, texts as lists of bytes. No statement of the seat is proved here.
-/
import Derived.WalkKit
import Derived.WalkSpells
import Derived.WalkLawsBesides
import Derived.Lib.Hide
import Derived.Deep.QuietTactic
import Derived.BigQuiet
namespace Go.Proofs.Ytplipddgeanajaa
open Go.RowKit

/-- The call hands back v; nothing below the heap's end has turned. -/
def RetV (w : World) (v : Value) (e : Ending) (w' : World) : Prop := e = .returned v ∧ Below w.heap.size w w'
theorem RetV.of {w w' : World} {v v' : Value} (h : v' = v) (hb : Below w.heap.size w w') : RetV w v (.returned v') w' := ⟨by rw [h], hb⟩
theorem RetV.int {w w' : World} {k : IntKind} {a b : Int} (h : a = b) (hb : Below w.heap.size w w') : RetV w (.int k b) (.returned (.int k a)) w' := ⟨by rw [h], hb⟩
theorem RetV.bool {w w' : World} {a b : Bool} (h : a = b) (hb : Below w.heap.size w w') : RetV w (.bool b) (.returned (.bool a)) w' := ⟨by rw [h], hb⟩

/-- Where a walk is to stand still. -/
def Stop (p : Prop) : Prop := p
theorem Stop.out {p : Prop} (h : Stop p) : p := h
theorem Stop.mk {p : Prop} (h : p) : Stop p := h

/-! Worlds that have grown. -/
def Grow (W : World) : Type := {w' : World // Below W.heap.size W w'}
def grow (W : World) (x : Grow W) : World := x.1
instance (W : World) : Nonempty (Grow W) := ⟨⟨W, Below.refl _ _⟩⟩
theorem grow_below (W : World) (x : Grow W) : Below W.heap.size W (grow W x) := x.2
theorem grow_size (W : World) (x : Grow W) : W.heap.size ≤ (grow W x).heap.size := x.2.size
@[go_sem] theorem cell?_grow {W : World} {x : Grow W} {b o : Nat} (h : b < W.heap.size) : (grow W x).cell? ⟨b, o, none⟩ = W.cell? ⟨b, o, none⟩ := (grow_below W x).cell (p := ⟨b, o, none⟩) h
theorem in_grow {W w' : World} (h : Below W.heap.size W w') : ∃ x : Grow W, w' = grow W x := ⟨⟨w', h⟩, rfl⟩
theorem drew_grow (W : World) : ∃ x : Grow W, { W with drawn := W.drawn + 1 } = grow W x := in_grow ((Below.refl _ _).drew)
/-- A contract, met inside a region that draws its order. -/
theorem quiet_grow {P : Program} {f : FuncId} {args : Array Value} {W : World} {x : Grow W} {v : Value} (h : Calls P f args (grow W x) (RetV (grow W x) v)) :
    Calls P f args (grow W x) fun e w'' => e = .returned v ∧ ∃ y : Grow W, w'' = grow W y :=
  h.mono fun _ _ ⟨he, hb⟩ => ⟨he, in_grow ((grow_below W x).trans (hb.mono (grow_below W x).size))⟩
/-- A region that draws its order: one walk of its text, in worlds that have grown out of this one. -/
theorem wp_region_grow {P : Program} {id : Nat} {Q : Exit → Act → World → Prop} {a : Act} {w : World} {l : List Oper} (hm : P.follows .mixedOrders = true) (hB : Region.lexB .any l.toArray = true)
    (h : wpQuiet P l.toArray (fun w' => ∃ x : Grow w, w' = grow w x) (fun a' => ∀ w', Below w.heap.size w w' → Q .normal a' w') l a) : (Code.region id l.toArray true).wp P Q a w :=
  wp_region_quiet (C := fun w' => ∃ x : Grow w, w' = grow w x) hm hB (drew_grow w) (by
    have e : (fun a' => ∀ w', (∃ x : Grow w, w' = grow w x) → Q .normal a' w') = (fun a' => ∀ w', Below w.heap.size w w' → Q .normal a' w') := by
      funext a'
      refine propext ⟨fun h w' hb => h w' (in_grow hb), fun h w' ⟨x, e⟩ => h w' (e ▸ grow_below w x)⟩
    rw [e]
    simpa using h)

@[go_sem] theorem ite_max (x y : Int) : (if y > x then y else x) = max x y := by split <;> omega
@[go_sem] theorem ite_max' (x y : Int) : (if x < y then y else x) = max x y := by split <;> omega
@[go_sem] theorem ite_min (x y : Int) : (if y < x then y else x) = min x y := by split <;> omega

/-! Texts as lists of bytes. -/
def str (l : List UInt8) : ByteArray := ⟨l.toArray⟩
@[simp, go_sem] theorem str_size (l : List UInt8) : (str l).size = l.length := by simp [str, ByteArray.size]
@[simp, go_sem] theorem str_toList (l : List UInt8) : (str l).toList = l := by simp [str]
@[simp, go_sem] theorem str_data (l : List UInt8) : (str l).data.toList = l := rfl
@[simp, go_sem] theorem str_append (a b : List UInt8) : str a ++ str b = str (a ++ b) := by
  apply ByteArray.ext; simp [str]
@[simp, go_sem] theorem str_extract (l : List UInt8) (a b : Nat) : (str l).extract a b = str ((l.drop a).take (b - a)) := by
  apply ByteArray.ext
  apply Array.ext'
  simp [str, List.extract_eq_take_drop]
@[simp, go_sem] theorem str_getElem (l : List UInt8) (i : Nat) (h : i < (str l).size) : (str l)[i] = l[i]'(by simpa using h) := by
  simp [str, ByteArray.getElem_eq_getElem_data]
@[simp, go_sem] theorem str_getElem? (l : List UInt8) (i : Nat) : (str l)[i]? = l[i]? := by
  by_cases h : i < l.length
  · rw [getElem?_pos (str l) i (by simpa using h), str_getElem, getElem?_pos l i h]
  · rw [getElem?_neg (str l) i (by simpa using h), getElem?_neg l i h]
theorem str_inj {a b : List UInt8} (h : str a = str b) : a = b := by
  have := congrArg (fun s : ByteArray => s.data.toList) h
  simpa using this
theorem str_of (s : ByteArray) : s = str s.data.toList := by apply ByteArray.ext; simp [str]
@[simp, go_sem] theorem str_lit (l : List UInt8) : ({ data := l.toArray } : ByteArray) = str l := rfl
end Go.Proofs.Ytplipddgeanajaa
