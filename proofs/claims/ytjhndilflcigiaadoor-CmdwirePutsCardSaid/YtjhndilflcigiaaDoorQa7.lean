/-
  Lemmas (walks and plain laws), in one text.
-/
import Derived.Test.YtjhndilflcigiaaDoorQa6
import Derived.Test.YtjhndilflcigiaaDoorRows
import Derived.WalkKit
import Derived.WalkSpells
import Derived.WalkLawsBesides
import Derived.Lib.Hide
import Derived.Deep.QuietTactic
import Derived.BigQuiet
import Derived.Maps.AppendAt
import Derived.WalkSmall
import Derived.ProofKit
import Derived.OpenShut
import Derived.JoinedCond
import Derived.Deep.Slices
import Derived.Deep.Fields
import Derived.Carry
import Derived.Deep.AppendSrc
import Derived.Lib.AppendStr
import Derived.Laws.BytesArg
import Derived.Test.YtjhndilflcigiaaDoorProg
import Derived.Shelf.Spec.TrailingZeros
import Derived.RangeFuncNested
import Derived.RangeFuncBound
import Derived.RangeFuncCalls
import Derived.RangeFuncLeaves
import Derived.Shelf.Abstract
import Derived.Shelf.RegionOpen
import Derived.OwnWalkIn
import Derived.TacticsInMore
import Derived.LoopNIn
import Derived.LoopIn
import Derived.Test.YtjhndilflcigiaaDoorTie
import Derived.Lib.LaidTab
import Derived.LaidMore
import Derived.SevenTiedAt
import Derived.Test.YtjhndilflcigiaaDoorCards
import Derived.Laws.Tables
import Derived.Laws.Rows
import Derived.ChangeKeysEq
import Derived.Laws.StructEq
import Derived.Deep.CutBlock
import Derived.Deep.DeepCutAuto
import Derived.Laws.CopyOwn
import Derived.Outline
import Derived.IntWalk
import Derived.Lib.EndianBits
import Derived.StillTail
import Derived.Lib.AppendZeros
import Derived.Deep.Quiet
namespace Go.Proofs.YtjhndilflcigiaaDoor
open Go.RowKit

/-- A value's bytes. -/
def valB (x : Val) : List UInt8 := if x.ok then num x.kind ++ (if x.kind = 1 then num x.n else if x.kind = 2 then strB x.s else []) else []
theorem valB_none {x : Val} (h : x.ok = false) : valB x = [] := by unfold valB; rw [h]; rfl
theorem valB_0 {x : Val} (h : x.ok = true) (hk : x.kind = 0) : valB x = num x.kind := by unfold valB; rw [if_pos h, if_neg (by omega), if_neg (by omega), List.append_nil]
theorem valB_1 {x : Val} (h : x.ok = true) (hk : x.kind = 1) : valB x = num x.kind ++ num x.n := by unfold valB; rw [if_pos h, if_pos hk]
theorem valB_2 {x : Val} (h : x.ok = true) (hk : x.kind = 2) : valB x = num x.kind ++ strB x.s := by unfold valB; rw [if_pos h, if_neg (by omega), if_pos hk]
theorem Val.ok_len {x : Val} (h : x.ok = true) : x.s.length ≤ 24 := by
  unfold Val.ok at h
  by_cases h0 : x.kind = 0
  · simp [h0] at h; simp [h.2]
  · by_cases h1 : x.kind = 1
    · simp [h1] at h; simp [h.2]
    · by_cases h2 : x.kind = 2
      · simp [h2] at h; exact h.2
      · simp [h0, h1, h2] at h
theorem valB_len (x : Val) : (valB x).length ≤ 38 := by
  rcases Val.ok_cases x with ⟨h, _⟩ | ⟨h, _, hk⟩ | ⟨h, _, hk⟩ | ⟨h, _, hk⟩
  · rw [valB_none h]; simp
  · have := num_len x.kind; rw [valB_0 h hk]; omega
  · have := num_len x.kind; have := num_len x.n; rw [valB_1 h hk, List.length_append]; omega
  · have := num_len x.kind; have := num_len x.s.length; have := Val.ok_len h; rw [valB_2 h hk, List.length_append, strB, List.length_append]; omega

set_option maxHeartbeats 400000 in
set_option maxRecDepth 4000 in
theorem c_cardwire_PutValue (l : List UInt8) (A : Option Addr) (c : Nat) (x : Val) (w : World) (h : InB w A c l) (hl : l.length ≤ 1073741824) (hs : x.s.length ≤ 4294967000) :
    Calls Tryd.prog 97 #[.slice A l.length c, x.val] w (RetS 1 bc 5 w (l ++ valB x)) := by
  have hL := h.1
  have hC := h.2.1
  have hS := h.2.2.1
  have hn1 := (num_len x.kind).2
  have hn2 := (num_len x.n).2
  unfold Val.val
  rcases Val.ok_cases x with ⟨hok, _⟩ | ⟨hok, _, hk⟩ | ⟨hok, _, hk⟩ | ⟨hok, _, hk⟩
  · have H : Hid (l = l ++ valB x) := by rw [valB_none hok, List.append_nil]; rfl
    go_enter Tryd.func97, Tryd.ntmps97
    go_wp2_with (first
      | (go_at_call 143; refine (c_value_Check x _ (by omega)).mono ?_; rintro e w1 ⟨rfl, hb1⟩; have hz1 := hb1.size; simp only [World.size_alloc] at hz1; have q1 := fun o => hb1.cell (p := ⟨w.heap.size, o, none⟩) (by simp); have hlt1 : w.heap.size < w1.heap.size := by omega)
      | (go_at_call 36; refine (c_Clone_b l A c _ (h.below (by repeat (first | exact Below.refl _ _ | refine Below.drew ?_ | refine Below.alloc ?_ (by first | omega | (simp; done) | (simp; omega)) _ | refine Below.setCell ?_ (by first | omega | (simp; done) | (simp; omega)) _ | refine Below.trans ?_ (Below.mono (by assumption) (by first | omega | (simp; done) | (simp; omega))))))).mono ?_; rintro e w2 ⟨v2, rfl, own2, hb2⟩))
    go_ret
    exact RetS.of own2 (by omega) H.out (by repeat (first | exact Below.refl _ _ | refine Below.drew ?_ | refine Below.alloc ?_ (by first | omega | (simp; done) | (simp; omega)) _ | refine Below.setCell ?_ (by first | omega | (simp; done) | (simp; omega)) _ | refine Below.trans ?_ (Below.mono (by assumption) (by first | omega | (simp; done) | (simp; omega)))))
  · have H : Hid (l ++ num x.kind = l ++ valB x) := by rw [valB_0 hok hk]; rfl
    obtain ⟨k, n, s⟩ := x
    obtain rfl : k = 0 := hk
    simp only at *
    go_enter Tryd.func97, Tryd.ntmps97
    go_wp2_with (first
      | (go_at_call 143; refine (c_value_Check ⟨0, n, s⟩ _ (by have := hs; simp at this ⊢; omega)).mono ?_; rintro e w1 ⟨rfl, hb1⟩; have hz1 := hb1.size; simp only [World.size_alloc] at hz1; have q1 := fun o => hb1.cell (p := ⟨w.heap.size, o, none⟩) (by simp); have hlt1 : w.heap.size < w1.heap.size := by omega)
      | (go_at_call 37; refine (c_octet_Num l A c _ _ (h.below (by repeat (first | exact Below.refl _ _ | refine Below.drew ?_ | refine Below.alloc ?_ (by first | omega | (simp; done) | (simp; omega)) _ | refine Below.setCell ?_ (by first | omega | (simp; done) | (simp; omega)) _ | refine Below.trans ?_ (Below.mono (by assumption) (by first | omega | (simp; done) | (simp; omega))))))).mono ?_; rintro e w2 ⟨v2, rfl, own2, hb2⟩; have q2 := fun o => hb2.cell (p := ⟨w.heap.size, o, none⟩) (by omega)))
    go_ret
    exact RetS.of own2 (by omega) H.out (by repeat (first | exact Below.refl _ _ | refine Below.drew ?_ | refine Below.alloc ?_ (by first | omega | (simp; done) | (simp; omega)) _ | refine Below.setCell ?_ (by first | omega | (simp; done) | (simp; omega)) _ | refine Below.trans ?_ (Below.mono (by assumption) (by first | omega | (simp; done) | (simp; omega)))))
  · have H : Hid (l ++ num x.kind ++ num x.n = l ++ valB x) := by rw [valB_1 hok hk, List.append_assoc]; rfl
    obtain ⟨k, n, s⟩ := x
    obtain rfl : k = 1 := hk
    simp only at *
    go_enter Tryd.func97, Tryd.ntmps97
    go_wp2_with (first
      | (go_at_call 143; refine (c_value_Check ⟨1, n, s⟩ _ (by have := hs; simp at this ⊢; omega)).mono ?_; rintro e w1 ⟨rfl, hb1⟩; have hz1 := hb1.size; simp only [World.size_alloc] at hz1; have q1 := fun o => hb1.cell (p := ⟨w.heap.size, o, none⟩) (by simp); have hlt1 : w.heap.size < w1.heap.size := by omega)
      | (go_at_call 37; refine (c_octet_Num l2 A2 c2 _ _ in2).mono ?_; rintro e w3 ⟨v3, rfl, own3, hb3⟩)
      | (go_at_call 37; refine (c_octet_Num l A c _ _ (h.below (by repeat (first | exact Below.refl _ _ | refine Below.drew ?_ | refine Below.alloc ?_ (by first | omega | (simp; done) | (simp; omega)) _ | refine Below.setCell ?_ (by first | omega | (simp; done) | (simp; omega)) _ | refine Below.trans ?_ (Below.mono (by assumption) (by first | omega | (simp; done) | (simp; omega))))))).mono ?_; rintro e w2 ⟨v2, rfl, own2, hb2⟩; have hz2 := hb2.size; have q2 := fun o => hb2.cell (p := ⟨w.heap.size, o, none⟩) (by omega); obtain ⟨l2, A2, c2, H2, hl2, rfl, in2, own2'⟩ := own_open bc_len own2 (l.length + 7) (by simp only [List.length_append]; omega) (by omega); clear own2))
    go_ret
    exact RetS.of own3 (by omega) (by rw [H2.out]; exact H.out) (by repeat (first | exact Below.refl _ _ | refine Below.drew ?_ | refine Below.alloc ?_ (by first | omega | (simp; done) | (simp; omega)) _ | refine Below.setCell ?_ (by first | omega | (simp; done) | (simp; omega)) _ | refine Below.trans ?_ (Below.mono (by assumption) (by first | omega | (simp; done) | (simp; omega)))))
  · have H : Hid (l ++ num x.kind ++ strB x.s = l ++ valB x) := by rw [valB_2 hok hk, List.append_assoc]; rfl
    obtain ⟨k, n, s⟩ := x
    obtain rfl : k = 2 := hk
    simp only at *
    go_enter Tryd.func97, Tryd.ntmps97
    go_wp2_with (first
      | (go_at_call 143; refine (c_value_Check ⟨2, n, s⟩ _ (by have := hs; simp at this ⊢; omega)).mono ?_; rintro e w1 ⟨rfl, hb1⟩; have hz1 := hb1.size; simp only [World.size_alloc] at hz1; have q1 := fun o => hb1.cell (p := ⟨w.heap.size, o, none⟩) (by simp); have hlt1 : w.heap.size < w1.heap.size := by omega)
      | (go_at_call 37; refine (c_octet_Num l A c _ _ (h.below (by repeat (first | exact Below.refl _ _ | refine Below.drew ?_ | refine Below.alloc ?_ (by first | omega | (simp; done) | (simp; omega)) _ | refine Below.setCell ?_ (by first | omega | (simp; done) | (simp; omega)) _ | refine Below.trans ?_ (Below.mono (by assumption) (by first | omega | (simp; done) | (simp; omega))))))).mono ?_; rintro e w2 ⟨v2, rfl, own2, hb2⟩; have hz2 := hb2.size; have q2 := fun o => hb2.cell (p := ⟨w.heap.size, o, none⟩) (by omega); obtain ⟨l2, A2, c2, H2, hl2, rfl, in2, own2'⟩ := own_open bc_len own2 (l.length + 7) (by simp only [List.length_append]; omega) (by omega); clear own2)
      | (go_at_call 152; refine (c_octet_Str l2 A2 c2 _ _ in2 (by omega)).mono ?_; rintro e w3 ⟨v3, rfl, own3, hb3⟩))
    go_ret
    exact RetS.of own3 (by omega) (by rw [H2.out]; exact H.out) (by repeat (first | exact Below.refl _ _ | refine Below.drew ?_ | refine Below.alloc ?_ (by first | omega | (simp; done) | (simp; omega)) _ | refine Below.setCell ?_ (by first | omega | (simp; done) | (simp; omega)) _ | refine Below.trans ?_ (Below.mono (by assumption) (by first | omega | (simp; done) | (simp; omega)))))
set_option maxHeartbeats 400000 in
set_option maxRecDepth 4000 in
theorem c_ref08_PutValue (x : Val) (w : World) (hs : x.s.length ≤ 4294967000) :
    Calls Tryd.prog 105 #[x.val] w (RetV w (.string (str (valB x)))) := by
  have hn1 := (num_len x.kind).2
  have hn2 := (num_len x.n).2
  have hn0 := (num_len 0).2
  have hn11 := (num_len 1).2
  have hn12 := (num_len 2).2
  have hsl : (strB x.s).length ≤ 4294967007 := by have := (num_len x.s.length).2; unfold strB; simp only [List.length_append]; omega
  unfold Val.val
  rcases Val.ok_cases x with ⟨hok, _⟩ | ⟨hok, _, hk⟩ | ⟨hok, _, hk⟩ | ⟨hok, _, hk⟩
  · have H : Hid ([] = valB x) := (valB_none hok).symm
    go_enter Tryd.func105, Tryd.ntmps105
    go_wp2_with (first
      | (go_at_call 139; refine (c_ref04_Check x _ (by omega)).mono ?_; rintro e w1 ⟨rfl, hb1⟩; have hz1 := hb1.size; simp only [World.size_alloc] at hz1; have q1 := fun o => hb1.cell (p := ⟨w.heap.size, o, none⟩) (by simp); have hlt1 : w.heap.size < w1.heap.size := by omega))
    go_ret
    exact RetV.str H.out (by repeat (first | exact Below.refl _ _ | refine Below.drew ?_ | refine Below.alloc ?_ (by first | omega | (simp; done) | (simp; omega)) _ | refine Below.setCell ?_ (by first | omega | (simp; done) | (simp; omega)) _ | refine Below.trans ?_ (Below.mono (by assumption) (by first | omega | (simp; done) | (simp; omega)))))
  · have H : Hid (num 0 = valB x) := by rw [valB_0 hok hk, hk]; rfl
    obtain ⟨k, n, s⟩ := x
    obtain rfl : k = 0 := hk
    simp only at *
    go_enter Tryd.func105, Tryd.ntmps105
    go_wp2_with (first
      | (go_at_call 139; refine (c_ref04_Check ⟨0, n, s⟩ _ (by have := hs; simp at this ⊢; omega)).mono ?_; rintro e w1 ⟨rfl, hb1⟩; have hz1 := hb1.size; simp only [World.size_alloc] at hz1; have q1 := fun o => hb1.cell (p := ⟨w.heap.size, o, none⟩) (by simp); have hlt1 : w.heap.size < w1.heap.size := by omega)
      | (go_at_call 41; refine (c_ref01_Num _ _).mono ?_; rintro e w2 ⟨rfl, hb2⟩))
    go_ret
    exact RetV.str H.out (by repeat (first | exact Below.refl _ _ | refine Below.drew ?_ | refine Below.alloc ?_ (by first | omega | (simp; done) | (simp; omega)) _ | refine Below.setCell ?_ (by first | omega | (simp; done) | (simp; omega)) _ | refine Below.trans ?_ (Below.mono (by assumption) (by first | omega | (simp; done) | (simp; omega)))))
  · have H : Hid (num 1 ++ num x.n = valB x) := by rw [valB_1 hok hk, hk]; rfl
    obtain ⟨k, n, s⟩ := x
    obtain rfl : k = 1 := hk
    simp only at *
    go_enter Tryd.func105, Tryd.ntmps105
    go_wp2_with (first
      | (go_at_call 139; refine (c_ref04_Check ⟨1, n, s⟩ _ (by have := hs; simp at this ⊢; omega)).mono ?_; rintro e w1 ⟨rfl, hb1⟩; have hz1 := hb1.size; simp only [World.size_alloc] at hz1; have q1 := fun o => hb1.cell (p := ⟨w.heap.size, o, none⟩) (by simp); have hlt1 : w.heap.size < w1.heap.size := by omega))
    have hbd : ¬ (9223372036854775807 < (num 1).length + (num n).length) := by omega
    refine wp_region_grow (by kernel_rfl) (by kernel_rfl) ?_
    repeat (quiet_step ((first | (go_at_call 41; exact quiet_grow (c_ref01_Num _ _)))))
    refine wpQuiet_nil ?_
    intro w2 hb2
    go_wp2_with (fail)
    go_ret
    exact RetV.str H.out (by repeat (first | exact Below.refl _ _ | refine Below.drew ?_ | refine Below.alloc ?_ (by first | omega | (simp; done) | (simp; omega)) _ | refine Below.setCell ?_ (by first | omega | (simp; done) | (simp; omega)) _ | refine Below.trans ?_ (Below.mono (by assumption) (by first | omega | (simp; done) | (simp; omega)))))
  · have H : Hid (num 2 ++ strB x.s = valB x) := by rw [valB_2 hok hk, hk]; rfl
    obtain ⟨k, n, s⟩ := x
    obtain rfl : k = 2 := hk
    simp only at *
    go_enter Tryd.func105, Tryd.ntmps105
    go_wp2_with (first
      | (go_at_call 139; refine (c_ref04_Check ⟨2, n, s⟩ _ (by have := hs; simp at this ⊢; omega)).mono ?_; rintro e w1 ⟨rfl, hb1⟩; have hz1 := hb1.size; simp only [World.size_alloc] at hz1; have q1 := fun o => hb1.cell (p := ⟨w.heap.size, o, none⟩) (by simp); have hlt1 : w.heap.size < w1.heap.size := by omega))
    have hbd : ¬ (9223372036854775807 < (num 2).length + (strB s).length) := by omega
    refine wp_region_grow (by kernel_rfl) (by kernel_rfl) ?_
    repeat (quiet_step ((first | (go_at_call 41; exact quiet_grow (c_ref01_Num _ _)) | (go_at_call 153; exact quiet_grow (c_ref01_Str _ _ (by have := hs; simp at this ⊢; omega))))))
    refine wpQuiet_nil ?_
    intro w2 hb2
    go_wp2_with (fail)
    go_ret
    exact RetV.str H.out (by repeat (first | exact Below.refl _ _ | refine Below.drew ?_ | refine Below.alloc ?_ (by first | omega | (simp; done) | (simp; omega)) _ | refine Below.setCell ?_ (by first | omega | (simp; done) | (simp; omega)) _ | refine Below.trans ?_ (Below.mono (by assumption) (by first | omega | (simp; done) | (simp; omega)))))
end Go.Proofs.YtjhndilflcigiaaDoor
namespace Go.Proofs.YtjhndilflcigiaaDoor
open Go.RowKit

/-- A value off bytes, and what the reader is then. -/
def rdVal' (st : Rd) : Rd := if rdN st 2 = 1 then rdN' (rdN' st 2) 1099511627776 else if rdN st 2 = 2 then rdS' (rdN' st 2) 24 else rdN' st 2
def rdVal (st : Rd) : Val := if (rdVal' st).e = 0 then ⟨rdN st 2, if rdN st 2 = 1 then rdN (rdN' st 2) 1099511627776 else 0, if rdN st 2 = 2 then rdS (rdN' st 2) 24 else []⟩ else ⟨0, 0, []⟩
theorem Val.ok_1 {x : Val} (h : x.ok = true) (hk : x.kind = 1) : 0 ≤ x.n ∧ x.n ≤ 1099511627776 ∧ x.s = [] := by
  unfold Val.ok at h
  rw [if_neg (by omega), if_pos hk] at h
  simp only [Bool.and_eq_true, decide_eq_true_eq, List.isEmpty_iff] at h
  exact ⟨h.1.1, h.1.2, h.2⟩
theorem Val.ok_2 {x : Val} (h : x.ok = true) (hk : x.kind = 2) : x.n = 0 ∧ x.s.length ≤ 24 := by
  unfold Val.ok at h
  rw [if_neg (by omega), if_neg (by omega), if_pos hk] at h
  simp only [Bool.and_eq_true, decide_eq_true_eq] at h
  exact h
/-! A number that is not 0. -/
def rdAb' (st : Rd) (most : Int) : Rd := if rdN st most = 0 then rdF (rdN' st most) 3 else rdN' st most
end Go.Proofs.YtjhndilflcigiaaDoor
namespace Go.Proofs.YtjhndilflcigiaaDoor
open Go.RowKit

def longF (f : List Val) : Bool := f.any fun x => decide (200 < x.s.length)
set_option maxHeartbeats 400000 in
theorem c_Large (f : List Val) (w : World) (hf : f.length = 8) : Calls Tryd.prog 33 #[.agg (farr f)] w (RetV w (.bool (longF f))) := by
  go_enter Tryd.func33, Tryd.ntmps33
  go_wp2
  go_loopw [3] (fun i wr => ∃ k : Nat, k ≤ 8 ∧ i = .int .i64 k ∧ (f.take k).any (fun x => decide (200 < x.s.length)) = false ∧ wr = w.alloc (.cells (farr f) 25)) (fun i _ => 8 - (intOf i).toNat)
  case atStart => exact ⟨0, by omega, rfl, rfl, rfl⟩
  case round =>
    obtain ⟨k, hk, rfl, hno, rfl⟩ := hrel
    have NO := Lib.hid hno
    clear hno
    by_cases hlt : k < 8
    · obtain ⟨c0, c1, c2⟩ := farr_get (f := f) (k := k) (by omega)
      have T := Lib.hid (show f.take (k + 1) = f.take k ++ [f[k]'(by omega)] from List.take_succ_eq_append_getElem (by omega))
      have M := Lib.hid (List.getElem_mem (l := f) (n := k) (by omega))
      by_cases hb : 200 < (f[k]'(by omega)).s.length
      · go_wp2
        go_ret
        refine RetV.bool ?_ (by repeat (first | exact Below.refl _ _ | refine Below.drew ?_ | refine Below.alloc ?_ (by first | omega | (simp; done) | (simp; omega)) _ | refine Below.setCell ?_ (by first | omega | (simp; done) | (simp; omega)) _ | refine Below.trans ?_ (Below.mono (by assumption) (by first | omega | (simp; done) | (simp; omega)))))
        symm
        exact List.any_eq_true.2 ⟨_, M.out, by simpa using hb⟩
      · go_wp2
        go_roundw
        case rel => exact ⟨k + 1, by omega, by go_num, by rw [T.out, List.any_append, NO.out]; simpa using hb, by first | rfl | trivial⟩
        case measure => simp [intOf]; omega
    · have : k = 8 := by omega
      subst this
      go_wp2
      go_ret
      refine RetV.bool ?_ (by repeat (first | exact Below.refl _ _ | refine Below.drew ?_ | refine Below.alloc ?_ (by first | omega | (simp; done) | (simp; omega)) _ | refine Below.setCell ?_ (by first | omega | (simp; done) | (simp; omega)) _ | refine Below.trans ?_ (Below.mono (by assumption) (by first | omega | (simp; done) | (simp; omega)))))
      have := NO.out
      rw [List.take_of_length_le (by omega)] at this
      exact this.symm
def vals (f : List Val) : Bool := f.all Val.ok
def Card.ok (c : Card) : Bool := decide (1 ≤ c.id) && decide (c.id < 1073741824) && decide (1 ≤ c.ver) && decide (c.ver ≤ 1099511627776) && decide (c.lab < 65536) && vals c.f
/-! The program's. -/
end Go.Proofs.YtjhndilflcigiaaDoor
