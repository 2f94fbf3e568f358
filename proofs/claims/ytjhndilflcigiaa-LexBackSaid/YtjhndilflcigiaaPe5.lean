/-
  The walks of the reference's number texts (chapter 3) and of the digits of base 16 (chapter 4).
-/
import Derived.Test.YtjhndilflcigiaaPe4
import Derived.Test.YtjhndilflcigiaaRows
import Derived.WalkKit
import Derived.WalkSpells
import Derived.WalkLawsBesides
import Derived.Lib.Hide
import Derived.Deep.QuietTactic
import Derived.BigQuiet
import Derived.Maps.AppendAt
import Derived.WalkSmall
import Derived.ProofKit
import Derived.OpenShut
import Derived.JoinedCond
import Derived.Deep.Slices
import Derived.Deep.Fields
import Derived.Carry
import Derived.Deep.AppendSrc
import Derived.Lib.AppendStr
import Derived.Laws.BytesArg
import Derived.Test.YtjhndilflcigiaaProg
import Derived.Deep.CutBlock
import Derived.Deep.DeepCutAuto
import Derived.WalkMore
import Derived.ScopeJumps
import Derived.Lib.Bytealg
import Derived.Laws.Externs
import Derived.Laws.IdiomStrings
import Derived.Outline
import Derived.IntWalk
import Derived.StillTail
import Derived.Laws.Tables
import Derived.Laws.Rows
import Derived.ChangeKeysEq
import Derived.Laws.StructEq
namespace Go.Proofs.Ytjhndilflcigiaa
open Go.RowKit

set_option maxHeartbeats 1000000 in
theorem ref03_Tens_low (n : Nat) (h : n < 10) (w : World) : Calls Try.prog 35 #[.int .i64 n] w (RetV w (.string (str (tens n)))) := by
  have kc := fun (w : World) (x : Int) => conv_one (P := Try.prog) w (src := 71) (dst := 9) (e := 5) Try.underlying71 Try.underlying5 Try.underlying9 x
  have H := Lib.hid (tens_lt h)
  have d1 : decide ((n : Int) < 0) = false := by simp
  have d2 : decide ((n : Int) < 10) = true := by simp; omega
  go_enter Try.func35, Try.ntmps35
  go_wp2_with (fail)
  go_ret
  refine RetV.str ?_ (by repeat (first | exact Below.refl _ _ | refine Below.drew ?_ | refine Below.alloc ?_ (by first | omega | (simp; done) | (simp; omega)) _ | refine Below.setCell ?_ (by first | omega | (simp; done) | (simp; omega)) _ | refine Below.trans ?_ (Below.mono (by assumption) (by first | omega | (simp; done) | (simp; omega)))))
  rw [H.out]
  congr 2
  omega
set_option maxHeartbeats 1000000 in
theorem ref03_Tens_high (n : Nat) (h : ¬ n < 10) (hn : n ≤ 9223372036854775807) (w : World) (ih : ∀ w', Calls Try.prog 35 #[.int .i64 ((n / 10 : Nat) : Int)] w' (RetV w' (.string (str (tens (n / 10)))))) :
    Calls Try.prog 35 #[.int .i64 n] w (RetV w (.string (str (tens n)))) := by
  have kc := fun (w : World) (x : Int) => conv_one (P := Try.prog) w (src := 71) (dst := 9) (e := 5) Try.underlying71 Try.underlying5 Try.underlying9 x
  have H := Lib.hid (tens_ge h)
  have IH := Lib.hid ih
  have hl := tens_len (n / 10) 19 (by omega) (by omega)
  have d1 : decide ((n : Int) < 0) = false := by simp
  have d2 : decide ((n : Int) < 10) = false := by simp; omega
  clear ih h
  go_enter Try.func35, Try.ntmps35
  go_wp2_with (fail)
  refine (IH.out _).mono ?_
  rintro e w2 ⟨rfl, hb2⟩
  have hB := Lib.hid (show Below w.heap.size w w2 from Below.trans (by repeat (first | exact Below.refl _ _ | refine Below.drew ?_ | refine Below.alloc ?_ (by first | omega | (simp; done) | (simp; omega)) _ | refine Below.setCell ?_ (by first | omega | (simp; done) | (simp; omega)) _ | refine Below.trans ?_ (Below.mono (by assumption) (by first | omega | (simp; done) | (simp; omega))))) (hb2.mono (by simp)))
  clear hb2
  go_wp2_with (fail)
  go_ret
  refine RetV.str ?_ hB.out
  rw [H.out, UInt8.ofNat_add]
  rfl
theorem c_ref03_Tens (n : Nat) (hn : n ≤ 9223372036854775807) (w : World) : Calls Try.prog 35 #[.int .i64 n] w (RetV w (.string (str (tens n)))) := by
  induction n using Nat.strongRecOn generalizing w with
  | _ n ih =>
    by_cases h : n < 10
    · exact ref03_Tens_low n h w
    · exact ref03_Tens_high n h hn w (fun w' => ih (n / 10) (by omega) (by omega) w')
set_option maxHeartbeats 400000 in
theorem c_value_hex (c : UInt8) (w : World) : Calls Try.prog 127 #[.int .u8 c.toNat] w (RetV w (.int .u8 (hexV c))) := by
  have hc := c.toNat_lt
  go_enter Try.func127, Try.ntmps127
  go_wp2_with (fail)
  all_goals (go_ret; refine RetV.int ?_ (by repeat (first | exact Below.refl _ _ | refine Below.drew ?_ | refine Below.alloc ?_ (by first | omega | (simp; done) | (simp; omega)) _ | refine Below.setCell ?_ (by first | omega | (simp; done) | (simp; omega)) _ | refine Below.trans ?_ (Below.mono (by assumption) (by first | omega | (simp; done) | (simp; omega))))); unfold hexV; (repeat' split) <;> omega)
def hexI (c : UInt8) : Int := if hexV c ≤ 15 then hexV c else -1
set_option maxHeartbeats 400000 in
theorem c_ref04_hex (c : UInt8) (w : World) : Calls Try.prog 126 #[.int .u8 c.toNat] w (RetV w (.int .i64 (hexI c))) := by
  have hc := c.toNat_lt
  go_enter Try.func126, Try.ntmps126
  go_wp2_with (fail)
  all_goals (go_ret; refine RetV.int ?_ (by repeat (first | exact Below.refl _ _ | refine Below.drew ?_ | refine Below.alloc ?_ (by first | omega | (simp; done) | (simp; omega)) _ | refine Below.setCell ?_ (by first | omega | (simp; done) | (simp; omega)) _ | refine Below.trans ?_ (Below.mono (by assumption) (by first | omega | (simp; done) | (simp; omega))))); unfold hexI hexV; (repeat' split) <;> omega)
theorem digit_at (n : Nat) (h : n < 16) : (([48, 49, 50, 51, 52, 53, 54, 55, 56, 57, 97, 98, 99, 100, 101, 102] : List UInt8).drop n).take 1 = [hexD n] := by
  have : ∀ i : Fin 16, (([48, 49, 50, 51, 52, 53, 54, 55, 56, 57, 97, 98, 99, 100, 101, 102] : List UInt8).drop i.val).take 1 = [hexD i.val] := by decide
  exact this ⟨n, h⟩
set_option maxHeartbeats 400000 in
theorem c_ref04_digit (n : Nat) (h : n < 16) (w : World) : Calls Try.prog 61 #[.int .i64 n] w (RetV w (.string (str [hexD n]))) := by
  have hd := digit_at n h
  have Hd := Lib.hid hd
  clear hd
  go_enter Try.func61, Try.ntmps61
  go_wp2_with (fail)
  go_ret
  refine RetV.str ?_ (by repeat (first | exact Below.refl _ _ | refine Below.drew ?_ | refine Below.alloc ?_ (by first | omega | (simp; done) | (simp; omega)) _ | refine Below.setCell ?_ (by first | omega | (simp; done) | (simp; omega)) _ | refine Below.trans ?_ (Below.mono (by assumption) (by first | omega | (simp; done) | (simp; omega)))))
  rw [← Hd.out]
  first | done | (have h1 : n + 1 - n = 1 := by omega
                  simp [h1])
end Go.Proofs.Ytjhndilflcigiaa
