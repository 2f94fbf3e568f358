/-
  The walks of the reference's New and Ask of chapter 30: rows of devices in a slice.
-/
import Derived.Test.YtjhndilflcigiaaPa14
import Derived.Test.YtjhndilflcigiaaRows
import Derived.WalkKit
import Derived.WalkSpells
import Derived.WalkLawsBesides
import Derived.Lib.Hide
import Derived.Deep.QuietTactic
import Derived.BigQuiet
import Derived.Maps.AppendAt
import Derived.WalkSmall
import Derived.ProofKit
import Derived.OpenShut
import Derived.JoinedCond
import Derived.Deep.Slices
import Derived.Deep.Fields
import Derived.Carry
import Derived.Test.YtjhndilflcigiaaProg
import Derived.Deep.CutBlock
import Derived.Deep.DeepCutAuto
import Derived.Deep.AppendSrc
import Derived.Lib.AppendStr
import Derived.Laws.BytesArg
import Derived.Laws.CopyOwn
import Derived.Outline
import Derived.IntWalk
import Derived.Lib.EndianBits
import Derived.Laws.Tables
import Derived.Laws.Rows
import Derived.Shelf.Spec.TrailingZeros
import Derived.StillTail
import Derived.Lib.AppendZeros
import Derived.Deep.Quiet
import Derived.ChangeKeysEq
import Derived.Laws.StructEq
import Derived.Laws.LoneSync
namespace Go.Proofs.Ytjhndilflcigiaa
open Go.RowKit

/-- A slice of rows that can be read, each filter in its place. -/
def InRw (w : World) (A : Option Addr) (c : Nat) (l : List LR) : Prop := In 12 LR.cells w A c l ∧ ∀ x ∈ l, InN w x.2.1 x.2.2 x.1.a.f
theorem InRw.below {w w' : World} {A : Option Addr} {c : Nat} {l : List LR} (h : InRw w A c l) (hb : Below w.heap.size w w') : InRw w' A c l := ⟨h.1.below hb, fun x hx => (h.2 x hx).below hb⟩
/-- Where a row lies, and what its cells are. -/
def RowAt (w : World) (b o : Nat) (x : LR) : Prop := b < w.heap.size ∧ ∀ w', Below w.heap.size w w' → w'.cell? ⟨b, o, none⟩ = some (.int .i64 x.1.last) ∧ w'.cell? ⟨b, o + 1, none⟩ = some (.int .i64 x.1.ep) ∧ ∀ j u, (x.1.a.arr x.2.1 x.2.2)[j]? = some u → w'.cell? ⟨b, o + 2 + j, none⟩ = some u
theorem InRw.row {w : World} {A : Option Addr} {c : Nat} {l : List LR} (h : InRw w A c l) {k : Nat} (hk : k < l.length) : ∃ b off, A = some ⟨b, off, none⟩ ∧ RowAt w b (off + k * 12) l[k] := by
  obtain ⟨b, off, hA, hb, hrow⟩ := h.1.at hk
  refine ⟨b, off, hA, hb, fun w' hw => ?_⟩
  have hr := hrow.below hw hb
  refine ⟨hr k hk 0 _ rfl, hr k hk 1 _ rfl, fun j u hu => ?_⟩
  have hj : j < 10 := (Array.getElem?_eq_some_iff.1 hu).1
  have := hr k hk (2 + j) u (by
    unfold LR.cells
    rw [List.getElem?_append_right (by simp)]
    simpa using hu)
  rwa [show off + k * 12 + (2 + j) = off + k * 12 + 2 + j by omega] at this
theorem RowAt.below {w w' : World} {b o : Nat} {x : LR} (h : RowAt w b o x) (hb : Below w.heap.size w w') : RowAt w' b o x := ⟨Nat.lt_of_lt_of_le h.1 hb.size, fun w2 h2 => h.2 w2 (hb.trans (h2.mono hb.size))⟩
abbrev zr : LR := (⟨0, 0, rz⟩, none, 0)
set_option maxHeartbeats 1000000 in
set_option maxRecDepth 4000 in
theorem c_ref30_New (w : World) : Calls Try.prog 22 #[] w (RetS 12 LR.cells 77 w (List.replicate 6 zr)) := by
  go_enter Try.func22, Try.ntmps22
  go_wp2_with (fail)
  go_loopw [1, 2] (fun v i wr => ∃ (k : Nat) (v0 : Value), v = v0 ∧ k ≤ 6 ∧ i = .int .i64 k ∧ Hid (wr.ownsRow w.heap.size 77 12 v k ((List.replicate k zr).flatMap LR.cells)) ∧ Hid (Below w.heap.size w wr))
    (fun _ i _ => 6 - (intOf i).toNat)
  case atStart => exact ⟨0, _, rfl, by omega, rfl, World.ownsRow_lit w #[] 0 (Nat.le_refl _) (by unfold maxLen; omega) (by simp), (by repeat (first | exact Below.refl _ _ | refine Below.drew ?_ | refine Below.alloc ?_ (by first | omega | (simp; done) | (simp; omega)) _ | refine Below.setCell ?_ (by first | omega | (simp; done) | (simp; omega)) _ | refine Below.trans ?_ (Below.mono (by assumption) (by first | omega | (simp; done) | (simp; omega)))))⟩
  case round =>
    obtain ⟨k, v0, rfl, hk, rfl, O, B1⟩ := hrel
    obtain ⟨A9, c9, rfl, -, -⟩ := own_form O.out
    have hz := B1.out.size
    by_cases hlt : k < 6
    · have hd : decide ((k : Int) < 6) = true := by simp; omega
      have HLT := Lib.hid hlt
      clear hlt hk
      go_wp2_with ((at_builtin; refine Stop.out ?_))
      refine Stop.mk (wpList_app _ rfl _ _ elemRow rfl w.heap.size (.slice A9 k c9) k _ rfl (own_below O.out ((Below.refl _ _).alloc (Nat.le_refl _) _)) _ 1 1 (LR.cells zr) rfl (Src.new _ (LR.cells zr) _ 12 rfl) (by simpa using rows_one [zr]) (by have := HLT.out; omega) (by simp; omega) ?_)
      intro v4 w4 own4 _ hb4 _
      have B4 := Lib.hid (B1.out.trans ((((Below.refl _ _).alloc hz _)).trans hb4))
      have O4 := Lib.hid (show w4.ownsRow w.heap.size 77 12 v4 (k + 1) ((List.replicate (k + 1) zr).flatMap LR.cells) by rw [List.replicate_succ', List.flatMap_append]; simpa using own4)
      have h4 : k < 6 := HLT.out
      clear own4 hb4 O B1
      go_wp2_with (fail)
      go_roundw
      case rel => exact ⟨k + 1, _, rfl, by omega, by go_num, O4.out, B4.out⟩
      case measure => simp [intOf]; omega
    · have hd : decide ((k : Int) < 6) = false := by simp; omega
      obtain rfl : k = 6 := by omega
      clear hlt hk
      go_wp2_with (fail)
      go_ret
      exact ⟨_, rfl, O.out, B1.out⟩
/-- The end of the reference's Ask. -/
def RetAskR (w : World) (a : Rep) (code : Int) (e : Ending) (w' : World) : Prop :=
  ∃ A c, e = .returned (.tuple #[.agg (a.arr A c), .int .i64 code]) ∧ InN w' A c a.f ∧ Below w.heap.size w w'
set_option maxHeartbeats 1000000 in
set_option maxRecDepth 4000 in
theorem ref30_Ask_arg (A : Option Addr) (n c : Nat) (dev req : Int) (w : World) (h : dev < 0 ∨ 6 ≤ dev ∨ req < 1 ∨ 1099511627776 < req) : Calls Try.prog 23 #[.slice A n c, .int .i64 dev, .int .i64 req] w (RetAskR w rz 1) := by
  have B0 := Lib.hid (At.new w 47 (Rep.arr rz none 0))
  have hcs : dev < 0 ∨ (0 ≤ dev ∧ 6 ≤ dev) ∨ (0 ≤ dev ∧ dev < 6 ∧ req < 1) ∨ (0 ≤ dev ∧ dev < 6 ∧ 1 ≤ req ∧ 1099511627776 < req) := by omega
  clear h
  rcases hcs with h1 | ⟨h1, h2⟩ | ⟨h1, h2, h3⟩ | ⟨h1, h2, h3, h4⟩
  all_goals
    go_enter Try.func23, Try.ntmps23
    go_wp2_with (with_reducible refine stop_store 47 (.tmp 6) (.tmp 22) rfl rfl ?_)
    refine Stop.mk (wpList_storeB rfl _ _ _ rfl w.heap.size _ rfl rfl _ B0.out.2 strRp rfl rfl (by simp [Value.oneCell']) ?_)
    intro w9 hb9 hk9
    go_wp2_with (fail)
    exact bodyPost_ret (results_B2 rfl rfl rfl hb9 strRp rfl) rfl ⟨none, 0, rfl, In.nil (by omega), B0.out.1.trans (hk9.oneB B0.out.1.size (Nat.le_refl _))⟩
set_option maxHeartbeats 1000000 in
set_option maxRecDepth 4000 in
theorem ref30_Ask_no (b off c k : Nat) (L req : Int) (w : World) (hk : k < 6) (_hc : 6 ≤ c) (_hc2 : c ≤ 9223372036854775807) (hb : b < w.heap.size) (r1 : 1 ≤ req) (r2 : req ≤ 1099511627776) (q : w.cell? ⟨b, off + k * 12, none⟩ = some (.int .i64 L)) (hne : req ≠ L) :
    Calls Try.prog 23 #[.slice (some ⟨b, off, none⟩) 6 c, .int .i64 k, .int .i64 req] w (RetAskR w rz (if req < L then 13 else 0)) := by
  have B0 := Lib.hid (At.new w 47 (Rep.arr rz none 0))
  have k1 : decide (req < 1) = false := by simpa using r1
  have k2 : decide (1099511627776 < req) = false := by simpa using r2
  have k3 : decide (6 ≤ (k : Int)) = false := by simp; omega
  by_cases hlt : req < L
  · rw [if_pos hlt]
    have j1 : decide (req < L) = true := by simpa using hlt
    clear hlt hne
    go_enter Try.func23, Try.ntmps23
    go_wp2_with (with_reducible refine stop_store 47 (.tmp 6) (.tmp 30) rfl rfl ?_)
    refine Stop.mk (wpList_storeB rfl _ _ _ rfl w.heap.size _ rfl rfl _ B0.out.2 strRp rfl rfl (by simp [Value.oneCell']) ?_)
    intro w9 hb9 hk9
    go_wp2_with (fail)
    exact bodyPost_ret (results_B2 rfl rfl rfl hb9 strRp rfl) rfl ⟨none, 0, rfl, In.nil (by omega), B0.out.1.trans (hk9.oneB B0.out.1.size (Nat.le_refl _))⟩
  · rw [if_neg hlt]
    have j1 : decide (req < L) = false := by simpa using hlt
    have j2 : (req == L) = false := by simpa using hne
    clear hlt hne
    go_enter Try.func23, Try.ntmps23
    go_wp2_with (with_reducible refine stop_store 47 (.tmp 6) (.tmp 43) rfl rfl ?_)
    refine Stop.mk (wpList_storeB rfl _ _ _ rfl w.heap.size _ rfl rfl _ B0.out.2 strRp rfl rfl (by simp [Value.oneCell']) ?_)
    intro w9 hb9 hk9
    go_wp2_with (fail)
    exact bodyPost_ret (results_B2 rfl rfl rfl hb9 strRp rfl) rfl ⟨none, 0, rfl, In.nil (by omega), B0.out.1.trans (hk9.oneB B0.out.1.size (Nat.le_refl _))⟩
set_option maxHeartbeats 2000000 in
set_option maxRecDepth 4000 in
theorem ref30_Ask_there (b off c k : Nat) (req : Int) (x : LR) (w : World) (hk : k < 6) (_hc : 6 ≤ c) (_hc2 : c ≤ 9223372036854775807) (r1 : 1 ≤ req) (r2 : req ≤ 1099511627776) (h : RowAt w b (off + k * 12) x) (hf : InN w x.2.1 x.2.2 x.1.a.f) (he : req = x.1.last) :
    Calls Try.prog 23 #[.slice (some ⟨b, off, none⟩) 6 c, .int .i64 k, .int .i64 req] w (RetAskR w x.1.a 7) := by
  have B0 := Lib.hid (At.new w 47 (Rep.arr rz none 0))
  have HI := Lib.hid hf
  have q' : w.cell? ⟨b, off + k * 12, none⟩ = some (.int .i64 req) := by rw [he]; exact (h.2 _ (Below.refl _ _)).1
  have hb := h.1
  have PT := Lib.hid (h.2 _ B0.out.1).2.2
  have k1 : decide (req < 1) = false := by simpa using r1
  have k2 : decide (1099511627776 < req) = false := by simpa using r2
  have k3 : decide (6 ≤ (k : Int)) = false := by simp; omega
  clear he h hf
  go_enter Try.func23, Try.ntmps23
  go_wp2_with (with_reducible refine stop_load 47 (.tmp 41) rfl rfl ?_)
  refine Stop.mk (wpList_loadAt rfl _ _ rfl b _ rfl (x.1.a.arr x.2.1 x.2.2) PT.out strRp rfl ?_)
  go_wp2_with (with_reducible refine stop_store 47 (.tmp 6) (.tmp 42) rfl rfl ?_)
  refine Stop.mk (wpList_storeB rfl _ _ _ rfl w.heap.size _ rfl rfl _ B0.out.2 strRp rfl rfl (by simp [Value.oneCell']) ?_)
  intro w9 hb9 hk9
  go_wp2_with (fail)
  have hB := B0.out.1.trans (hk9.oneB B0.out.1.size (Nat.le_refl _))
  exact bodyPost_ret (results_B2 rfl rfl rfl hb9 strRp rfl) rfl ⟨_, _, rfl, HI.out.below hB, hB⟩
theorem c_ref30_Ask (A : Option Addr) (c : Nat) (l : List LR) (dev req : Int) (w : World) (h : InRw w A c l) (h6 : l.length = 6) :
    Calls Try.prog 23 #[.slice A l.length c, .int .i64 dev, .int .i64 req] w (RetAskR w (askA (rowsOf l) dev req) (askE (rowsOf l) dev req)) := by
  unfold askA askE
  by_cases hb : askBad dev req
  · rw [if_pos hb, if_pos hb]; exact ref30_Ask_arg A _ c dev req w hb
  · rw [if_neg hb, if_neg hb]
    unfold askBad at hb
    obtain ⟨k, rfl⟩ : ∃ k : Nat, dev = k := ⟨dev.toNat, by omega⟩
    have hk : k < 6 := by omega
    have hkl : k < l.length := by rw [h6]; exact hk
    obtain ⟨b, off, rfl, hr⟩ := h.row hkl
    have hc := h.1.1
    have hc2 := h.1.2.1
    have hf := h.2 _ (List.getElem_mem hkl)
    rw [rowAt_of hkl]
    obtain ⟨x, hx⟩ : ∃ x, x = l[k] := ⟨_, rfl⟩
    rw [← hx] at hr hf ⊢
    rw [h6] at hc ⊢
    by_cases he : req = x.1.last
    · rw [if_pos he, if_neg (by omega), if_pos he]
      exact ref30_Ask_there b off c k req x w hk hc hc2 (by omega) (by omega) hr hf he
    · rw [if_neg he, if_neg he]
      exact ref30_Ask_no b off c k _ req w hk hc hc2 hr.1 (by omega) (by omega) (hr.2 _ (Below.refl _ _)).1 he
end Go.Proofs.Ytjhndilflcigiaa
