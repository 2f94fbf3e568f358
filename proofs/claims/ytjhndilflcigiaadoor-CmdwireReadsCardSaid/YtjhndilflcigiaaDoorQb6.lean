/-
  Lemmas (walks and plain laws), in one text.
-/
import Derived.Test.YtjhndilflcigiaaDoorQb5
import Derived.Test.YtjhndilflcigiaaDoorRows
import Derived.WalkKit
import Derived.WalkSpells
import Derived.WalkLawsBesides
import Derived.Lib.Hide
import Derived.Deep.QuietTactic
import Derived.BigQuiet
import Derived.Maps.AppendAt
import Derived.WalkSmall
import Derived.ProofKit
import Derived.OpenShut
import Derived.JoinedCond
import Derived.Deep.Slices
import Derived.Deep.Fields
import Derived.Carry
import Derived.Deep.AppendSrc
import Derived.Lib.AppendStr
import Derived.Laws.BytesArg
import Derived.Test.YtjhndilflcigiaaDoorProg
import Derived.Shelf.Spec.TrailingZeros
import Derived.RangeFuncNested
import Derived.RangeFuncBound
import Derived.RangeFuncCalls
import Derived.RangeFuncLeaves
import Derived.Shelf.Abstract
import Derived.Shelf.RegionOpen
import Derived.OwnWalkIn
import Derived.TacticsInMore
import Derived.LoopNIn
import Derived.LoopIn
import Derived.Test.YtjhndilflcigiaaDoorTie
import Derived.Lib.LaidTab
import Derived.LaidMore
import Derived.SevenTiedAt
import Derived.Test.YtjhndilflcigiaaDoorCards
import Derived.Laws.Tables
import Derived.Laws.Rows
import Derived.Maps.Own
import Derived.Deep.CutBlock
import Derived.Deep.DeepCutAuto
import Derived.ChangeKeysEq
import Derived.Laws.StructEq
import Derived.Laws.CopyOwn
import Derived.Outline
import Derived.IntWalk
import Derived.Lib.EndianBits
import Derived.Lib.AppendZeros
import Derived.WalkMore
import Derived.StillTail
import Derived.Deep.Quiet
namespace Go.Proofs.YtjhndilflcigiaaDoor
open Go.RowKit

theorem elemB : Elem Tryd.prog 33 5 1 1 := Elem.mk' Tryd.underlying33 (z := .int .u8 0) (by kernel_rfl) rfl (by omega) (by omega)

theorem or128 (v : Nat) : bits .or .u8 ((v : Int) % 256) 128 = ((v % 128 + 128 : Nat) : Int) := by
  have h1 := u8_or_nat (v % 256) 128 (Nat.mod_lt _ (by omega)) (by omega)
  have h2 : ∀ a : Fin 256, (a.val ||| 128) = a.val % 128 + 128 := by decide +kernel
  have h3 := h2 ⟨v % 256, Nat.mod_lt _ (by omega)⟩
  simp only at h3
  rw [h3] at h1
  have e : ((v : Int) % 256) = ((v % 256 : Nat) : Int) := by omega
  rw [e]
  refine Eq.trans h1 ?_
  omega

set_option maxHeartbeats 400000 in
set_option maxRecDepth 4000 in
theorem c_octet_Num (l : List UInt8) (A : Option Addr) (c : Nat) (n : Int) (w : World) (h : InB w A c l) :
    Calls Tryd.prog 37 #[.slice A l.length c, .int .i64 n] w (RetS 1 bc 5 w (l ++ num n)) := by
  have hL := h.1
  have hC := h.2.1
  have hS := h.2.2.1
  have EB := elemB
  have H0 : Held w w.heap.size 5 1 (.slice A l.length l.length) l.length (l.flatMap bc) := Held.of_in bc_len (by omega) h
  go_enter Tryd.func37, Tryd.ntmps37
  have Hnum : Hid (l ++ numF 6 (clampN n) = l ++ num n) := by show _ = _; rw [num_def]
  have hlt0 := clampN_lt n
  have hle0 := clampN_le n
  have hci := clampN_int n
  go_wp2_with (fail)
  go_loopw [0, 5] (fun b v wr => ∃ (f vn : Nat) (acc : List UInt8), vn ≤ 1099511627776 ∧ Hid (vn < 128 ^ (f + 1)) ∧ acc.length + f ≤ l.length + 6 ∧ v = .int .i64 vn ∧ Hid (Held wr w.heap.size 5 1 b acc.length (acc.flatMap bc)) ∧ Hid (acc ++ numF f vn = l ++ num n) ∧ Below w.heap.size w wr)
    (fun _ v _ => (intOf v).toNat)
  case atStart => exact ⟨6, clampN n, l, hle0, hlt0, by omega, by rw [hci], H0, Hnum, (by repeat (first | exact Below.refl _ _ | refine Below.drew ?_ | refine Below.alloc ?_ (by first | omega | (simp; done) | (simp; omega)) _ | refine Below.setCell ?_ (by first | omega | (simp; done) | (simp; omega)) _ | refine Below.trans ?_ (Below.mono (by assumption) (by first | omega | (simp; done) | (simp; omega)))))⟩
  case round =>
    obtain ⟨f, vn, acc, hle, hlt, hlen, rfl, H, HN, hbl⟩ := hrel
    have hbz := hbl.size
    obtain ⟨A1, c1, rfl⟩ := H.out.shape
    by_cases hv : vn < 128
    · have HN' : acc ++ [UInt8.ofNat vn] = l ++ num n := by rw [← numF_lt hv]; exact HN.out
      have HF := Lib.hid HN'
      clear HN HN' Hnum hlt hlt0 hci h
      go_wp2_with ((at_builtin; refine Stop.out ?_))
      refine Stop.mk (wpList_appH _ rfl (.tmp 25) (.tmp 28) EB rfl w.heap.size (.slice A1 acc.length c1) acc.length (acc.flatMap bc) rfl (H.out.below ((Below.refl _ _).alloc (Nat.le_refl _) _)) _ 1 1 [.int .u8 vn] rfl (Src.new _ _ _ _ rfl) (by simp [Value.oneCell']) (by omega) (by omega) ?_ ?_)
      · simp only [World.size_alloc]; omega
      intro v2 w2 own2 hb2
      have hfin : Hid (acc.flatMap bc ++ [Value.int .u8 vn] = (l ++ num n).flatMap bc ∧ acc.length + 1 = (l ++ num n).length) := by
        show _ ∧ _
        rw [← HF.out]
        refine ⟨?_, by simp⟩
        rw [List.flatMap_append]
        simp [bc]; omega
      obtain ⟨e1, e2⟩ := hfin.out
      rw [e1, e2] at own2
      have O2 := Lib.hid own2
      clear own2 e1 e2
      go_wp2_with (fail)
      go_ret
      exact ⟨_, rfl, O2.out, Below.trans (b := wr) hbl (Below.trans (b := wr.alloc (.cells #[.int .u8 vn] 5)) (by repeat (first | exact Below.refl _ _ | refine Below.drew ?_ | refine Below.alloc ?_ (by first | omega | (simp; done) | (simp; omega)) _ | refine Below.setCell ?_ (by first | omega | (simp; done) | (simp; omega)) _ | refine Below.trans ?_ (Below.mono (by assumption) (by first | omega | (simp; done) | (simp; omega))))) hb2)⟩
    · obtain ⟨f', rfl⟩ : ∃ f', f = f' + 1 := by
        cases f with
        | zero => exact absurd hlt.out (by omega)
        | succ f => exact ⟨f, rfl⟩
      have hlt2 : Hid (vn / 128 < 128 ^ (f' + 1)) := Nat.div_lt_of_lt_mul (by have := hlt.out; rw [Nat.pow_succ 128 (f' + 1), Nat.mul_comm] at this; exact this)
      have hn2 := HN.out
      rw [numF_ge hv] at hn2
      have HN2 := Lib.hid hn2
      clear HN hn2 hlt hlt0 hci h Hnum
      have hor := or128 vn
      go_wp2_with ((at_builtin; refine Stop.out ?_))
      refine Stop.mk (wpList_appH _ rfl (.tmp 17) (.tmp 21) EB rfl w.heap.size (.slice A1 acc.length c1) acc.length (acc.flatMap bc) rfl (H.out.below ((Below.refl _ _).alloc (Nat.le_refl _) _)) _ 1 1 [.int .u8 ((vn % 128 + 128 : Nat) : Int)] rfl (Src.new _ _ _ _ rfl) (by simp [Value.oneCell']) (by omega) (by omega) ?_ ?_)
      · simp only [World.size_alloc]; omega
      intro v2 w2 own2 hb2
      have hfin : Hid (acc.flatMap bc ++ [Value.int .u8 ((vn % 128 + 128 : Nat) : Int)] = (acc ++ [UInt8.ofNat (vn % 128 + 128)]).flatMap bc ∧ acc.length + 1 = (acc ++ [UInt8.ofNat (vn % 128 + 128)]).length) := by
        show _ ∧ _
        refine ⟨?_, by simp⟩
        rw [List.flatMap_append]
        simp [bc]; omega
      obtain ⟨e1, e2⟩ := hfin.out
      rw [e1, e2] at own2
      have O2 := Lib.hid own2
      have hb3 : Below w.heap.size w w2 := Below.trans (b := wr) hbl (Below.trans (b := wr.alloc (.cells #[.int .u8 ((vn % 128 + 128 : Nat) : Int)] 5)) (by repeat (first | exact Below.refl _ _ | refine Below.drew ?_ | refine Below.alloc ?_ (by first | omega | (simp; done) | (simp; omega)) _ | refine Below.setCell ?_ (by first | omega | (simp; done) | (simp; omega)) _ | refine Below.trans ?_ (Below.mono (by assumption) (by first | omega | (simp; done) | (simp; omega))))) hb2)
      clear own2 e1 e2
      go_wp2_with (fail)
      go_roundw
      case rel =>
        refine ⟨f', vn / 128, acc ++ [UInt8.ofNat (vn % 128 + 128)], by omega, hlt2, by simp; omega, by go_num, .inl O2.out, ?_, hb3⟩
        show _ = _
        rw [← HN2.out]; simp
      case measure => simp [intOf]; omega
set_option maxHeartbeats 400000 in
set_option maxRecDepth 4000 in
theorem c_octet_Str (l : List UInt8) (A : Option Addr) (c : Nat) (s : List UInt8) (w : World) (h : InB w A c l) (hs : s.length ≤ 4294967000) :
    Calls Tryd.prog 152 #[.slice A l.length c, .string (str s)] w (RetS 1 bc 5 w (l ++ strB s)) := by
  have hL := h.1
  have hC := h.2.1
  have hS := h.2.2.1
  have EB := elemB
  go_enter Tryd.func152, Tryd.ntmps152
  go_wp2_with (first
    | (go_at_call 37; refine (c_octet_Num l A c _ _ h).mono ?_; rintro e w1 ⟨v1, rfl, own1, hb1⟩)
    | (at_builtin; refine Stop.out ?_))
  have hnl := num_len (s.length : Int)
  refine Stop.mk (wpList_appS _ rfl (.tmp 8) (.tmp 9) Tryd.underlying33 Tryd.underlying9 (by kernel_rfl) rfl w.heap.size _ _ _ rfl own1 s rfl (by simp only [List.length_append]; omega) hb1.size ?_)
  intro v2 w2 own2 _ hb2
  have hfin : Hid ((l ++ num s.length).flatMap bc ++ s.flatMap bc = (l ++ strB s).flatMap bc ∧ (l ++ num s.length).length + s.length = (l ++ strB s).length) := by
    show _ ∧ _
    refine ⟨?_, by simp [strB]; omega⟩
    rw [← List.flatMap_append]; simp [strB]
  obtain ⟨e1, e2⟩ := hfin.out
  rw [e1, e2] at own2
  have O2 := Lib.hid own2
  clear own2 e1 e2 own1
  go_wp2_with (fail)
  go_ret
  exact ⟨_, rfl, O2.out, hb1.trans hb2⟩
set_option maxHeartbeats 400000 in
set_option maxRecDepth 4000 in
theorem c_Clone_b (l : List UInt8) (A : Option Addr) (c : Nat) (w : World) (h : In 1 bc w A c l) :
    Calls Tryd.prog 36 #[.slice A l.length c] w (RetS 1 bc 5 w l) := by
  have hL := h.1
  have hC := h.2.1
  have hS := h.2.2.1
  have EB := elemB
  rcases A with _ | ad
  · have hl : l = [] := by
      rcases h.2.2.2 with h | ⟨b, off, hh, _⟩
      · exact h
      · cases hh
    subst hl
    clear h
    have ke := fun (w : World) (n c : Nat) => Lib.run_eql_slice_nil (P := Tryd.prog) w 33 _ none n c 0 0 Tryd.underlying33
    go_enter Tryd.func36, Tryd.ntmps36
    go_wp2_with (fail)
    go_ret
    exact ⟨_, rfl, World.ownsRow_nil _ _ _ _, Below.refl _ _⟩
  · have ke := fun (w : World) (n c : Nat) => Lib.run_eql_slice_nil (P := Tryd.prog) w 33 _ (some ad) n c 0 0 Tryd.underlying33
    go_enter Tryd.func36, Tryd.ntmps36
    go_wp2_with ((at_builtin; refine Stop.out ?_))
    refine Stop.mk (wpList_app _ rfl (.tmp 5) (.tmp 6) EB rfl w.heap.size (.slice (some ⟨w.heap.size, 0, none⟩) 0 0) 0 [] rfl (World.ownsRow_lit w #[] 0 (Nat.le_refl _) (by unfold maxLen; omega) (by simp)) (some ad) l.length c (l.flatMap bc) rfl (Src.of_in bc_len (by omega) (h.alloc _)) (bc_one _) (by omega) ?_ ?_)
    · simp only [World.size_alloc]; omega
    intro v2 w2 own2 _ hb2 _
    rw [Nat.zero_add, List.nil_append] at own2
    have hb3 : Below w.heap.size w w2 := Below.trans (b := w.alloc (.cells #[] 5)) (by repeat (first | exact Below.refl _ _ | refine Below.drew ?_ | refine Below.alloc ?_ (by first | omega | (simp; done) | (simp; omega)) _ | refine Below.setCell ?_ (by first | omega | (simp; done) | (simp; omega)) _ | refine Below.trans ?_ (Below.mono (by assumption) (by first | omega | (simp; done) | (simp; omega))))) hb2
    go_wp2_with (fail)
    go_ret
    exact ⟨_, rfl, own2, hb3⟩
end Go.Proofs.YtjhndilflcigiaaDoor
namespace Go.Proofs.YtjhndilflcigiaaDoor
open Go.RowKit

set_option maxHeartbeats 400000 in
theorem c_value_Check (x : Val) (w : World) (hs : x.s.length ≤ 9223372036854775807) : Calls Tryd.prog 143 #[x.val] w (RetV w (.bool x.ok)) := by
  unfold Val.val
  go_enter Tryd.func143, Tryd.ntmps143
  go_wp2
  all_goals (go_ret; refine RetV.bool ?_ (by repeat (first | exact Below.refl _ _ | refine Below.drew ?_ | refine Below.alloc ?_ (by first | omega | (simp; done) | (simp; omega)) _ | refine Below.setCell ?_ (by first | omega | (simp; done) | (simp; omega)) _ | refine Below.trans ?_ (Below.mono (by assumption) (by first | omega | (simp; done) | (simp; omega))))); simp_all [Val.ok]; try omega)
set_option maxHeartbeats 400000 in
theorem c_ref04_Check (x : Val) (w : World) (hs : x.s.length ≤ 9223372036854775807) : Calls Tryd.prog 139 #[x.val] w (RetV w (.bool x.ok)) := by
  unfold Val.val
  go_enter Tryd.func139, Tryd.ntmps139
  go_wp2
  all_goals (go_ret; refine RetV.bool ?_ (by repeat (first | exact Below.refl _ _ | refine Below.drew ?_ | refine Below.alloc ?_ (by first | omega | (simp; done) | (simp; omega)) _ | refine Below.setCell ?_ (by first | omega | (simp; done) | (simp; omega)) _ | refine Below.trans ?_ (Below.mono (by assumption) (by first | omega | (simp; done) | (simp; omega))))); simp_all [Val.ok]; try omega)
theorem Val.ok_kind {x : Val} (h : x.ok = true) : x.kind = 0 ∨ x.kind = 1 ∨ x.kind = 2 := by
  unfold Val.ok at h
  by_cases h0 : x.kind = 0
  · exact .inl h0
  · by_cases h1 : x.kind = 1
    · exact .inr (.inl h1)
    · by_cases h2 : x.kind = 2
      · exact .inr (.inr h2)
      · simp [h0, h1, h2] at h
theorem Val.ok_cases (x : Val) : (x.ok = false ∧ x.none = false) ∨ (x.ok = true ∧ x.none = true ∧ x.kind = 0) ∨ (x.ok = true ∧ x.none = false ∧ x.kind = 1) ∨ (x.ok = true ∧ x.none = false ∧ x.kind = 2) := by
  cases h : x.ok
  · simp only [true_and, Bool.false_eq_true, false_and, or_false]
    cases hn : x.none
    · rfl
    · unfold Val.none at hn; unfold Val.ok at h; simp_all
  · rcases Val.ok_kind h with hk | hk | hk <;> simp [Val.none_kind h, hk]
theorem Val.none_ok {x : Val} (h : x.none = true) : x.ok = true := by
  rcases Val.ok_cases x with ⟨h1, h2⟩ | ⟨h1, _⟩ | ⟨h1, _⟩ | ⟨h1, _⟩
  · rw [h] at h2; cases h2
  all_goals exact h1
end Go.Proofs.YtjhndilflcigiaaDoor
namespace Go.Proofs.YtjhndilflcigiaaDoor
open Go.RowKit

/-- A value's bytes. -/
def valB (x : Val) : List UInt8 := if x.ok then num x.kind ++ (if x.kind = 1 then num x.n else if x.kind = 2 then strB x.s else []) else []
theorem valB_none {x : Val} (h : x.ok = false) : valB x = [] := by unfold valB; rw [h]; rfl
theorem valB_0 {x : Val} (h : x.ok = true) (hk : x.kind = 0) : valB x = num x.kind := by unfold valB; rw [if_pos h, if_neg (by omega), if_neg (by omega), List.append_nil]
theorem valB_1 {x : Val} (h : x.ok = true) (hk : x.kind = 1) : valB x = num x.kind ++ num x.n := by unfold valB; rw [if_pos h, if_pos hk]
theorem valB_2 {x : Val} (h : x.ok = true) (hk : x.kind = 2) : valB x = num x.kind ++ strB x.s := by unfold valB; rw [if_pos h, if_neg (by omega), if_pos hk]
theorem Val.ok_len {x : Val} (h : x.ok = true) : x.s.length ≤ 24 := by
  unfold Val.ok at h
  by_cases h0 : x.kind = 0
  · simp [h0] at h; simp [h.2]
  · by_cases h1 : x.kind = 1
    · simp [h1] at h; simp [h.2]
    · by_cases h2 : x.kind = 2
      · simp [h2] at h; exact h.2
      · simp [h0, h1, h2] at h
theorem valB_len (x : Val) : (valB x).length ≤ 38 := by
  rcases Val.ok_cases x with ⟨h, _⟩ | ⟨h, _, hk⟩ | ⟨h, _, hk⟩ | ⟨h, _, hk⟩
  · rw [valB_none h]; simp
  · have := num_len x.kind; rw [valB_0 h hk]; omega
  · have := num_len x.kind; have := num_len x.n; rw [valB_1 h hk, List.length_append]; omega
  · have := num_len x.kind; have := num_len x.s.length; have := Val.ok_len h; rw [valB_2 h hk, List.length_append, strB, List.length_append]; omega

set_option maxHeartbeats 400000 in
set_option maxRecDepth 4000 in
theorem c_cardwire_PutValue (l : List UInt8) (A : Option Addr) (c : Nat) (x : Val) (w : World) (h : InB w A c l) (hl : l.length ≤ 1073741824) (hs : x.s.length ≤ 4294967000) :
    Calls Tryd.prog 97 #[.slice A l.length c, x.val] w (RetS 1 bc 5 w (l ++ valB x)) := by
  have hL := h.1
  have hC := h.2.1
  have hS := h.2.2.1
  have hn1 := (num_len x.kind).2
  have hn2 := (num_len x.n).2
  unfold Val.val
  rcases Val.ok_cases x with ⟨hok, _⟩ | ⟨hok, _, hk⟩ | ⟨hok, _, hk⟩ | ⟨hok, _, hk⟩
  · have H : Hid (l = l ++ valB x) := by rw [valB_none hok, List.append_nil]; rfl
    go_enter Tryd.func97, Tryd.ntmps97
    go_wp2_with (first
      | (go_at_call 143; refine (c_value_Check x _ (by omega)).mono ?_; rintro e w1 ⟨rfl, hb1⟩; have hz1 := hb1.size; simp only [World.size_alloc] at hz1; have q1 := fun o => hb1.cell (p := ⟨w.heap.size, o, none⟩) (by simp); have hlt1 : w.heap.size < w1.heap.size := by omega)
      | (go_at_call 36; refine (c_Clone_b l A c _ (h.below (by repeat (first | exact Below.refl _ _ | refine Below.drew ?_ | refine Below.alloc ?_ (by first | omega | (simp; done) | (simp; omega)) _ | refine Below.setCell ?_ (by first | omega | (simp; done) | (simp; omega)) _ | refine Below.trans ?_ (Below.mono (by assumption) (by first | omega | (simp; done) | (simp; omega))))))).mono ?_; rintro e w2 ⟨v2, rfl, own2, hb2⟩))
    go_ret
    exact RetS.of own2 (by omega) H.out (by repeat (first | exact Below.refl _ _ | refine Below.drew ?_ | refine Below.alloc ?_ (by first | omega | (simp; done) | (simp; omega)) _ | refine Below.setCell ?_ (by first | omega | (simp; done) | (simp; omega)) _ | refine Below.trans ?_ (Below.mono (by assumption) (by first | omega | (simp; done) | (simp; omega)))))
  · have H : Hid (l ++ num x.kind = l ++ valB x) := by rw [valB_0 hok hk]; rfl
    obtain ⟨k, n, s⟩ := x
    obtain rfl : k = 0 := hk
    simp only at *
    go_enter Tryd.func97, Tryd.ntmps97
    go_wp2_with (first
      | (go_at_call 143; refine (c_value_Check ⟨0, n, s⟩ _ (by have := hs; simp at this ⊢; omega)).mono ?_; rintro e w1 ⟨rfl, hb1⟩; have hz1 := hb1.size; simp only [World.size_alloc] at hz1; have q1 := fun o => hb1.cell (p := ⟨w.heap.size, o, none⟩) (by simp); have hlt1 : w.heap.size < w1.heap.size := by omega)
      | (go_at_call 37; refine (c_octet_Num l A c _ _ (h.below (by repeat (first | exact Below.refl _ _ | refine Below.drew ?_ | refine Below.alloc ?_ (by first | omega | (simp; done) | (simp; omega)) _ | refine Below.setCell ?_ (by first | omega | (simp; done) | (simp; omega)) _ | refine Below.trans ?_ (Below.mono (by assumption) (by first | omega | (simp; done) | (simp; omega))))))).mono ?_; rintro e w2 ⟨v2, rfl, own2, hb2⟩; have q2 := fun o => hb2.cell (p := ⟨w.heap.size, o, none⟩) (by omega)))
    go_ret
    exact RetS.of own2 (by omega) H.out (by repeat (first | exact Below.refl _ _ | refine Below.drew ?_ | refine Below.alloc ?_ (by first | omega | (simp; done) | (simp; omega)) _ | refine Below.setCell ?_ (by first | omega | (simp; done) | (simp; omega)) _ | refine Below.trans ?_ (Below.mono (by assumption) (by first | omega | (simp; done) | (simp; omega)))))
  · have H : Hid (l ++ num x.kind ++ num x.n = l ++ valB x) := by rw [valB_1 hok hk, List.append_assoc]; rfl
    obtain ⟨k, n, s⟩ := x
    obtain rfl : k = 1 := hk
    simp only at *
    go_enter Tryd.func97, Tryd.ntmps97
    go_wp2_with (first
      | (go_at_call 143; refine (c_value_Check ⟨1, n, s⟩ _ (by have := hs; simp at this ⊢; omega)).mono ?_; rintro e w1 ⟨rfl, hb1⟩; have hz1 := hb1.size; simp only [World.size_alloc] at hz1; have q1 := fun o => hb1.cell (p := ⟨w.heap.size, o, none⟩) (by simp); have hlt1 : w.heap.size < w1.heap.size := by omega)
      | (go_at_call 37; refine (c_octet_Num l2 A2 c2 _ _ in2).mono ?_; rintro e w3 ⟨v3, rfl, own3, hb3⟩)
      | (go_at_call 37; refine (c_octet_Num l A c _ _ (h.below (by repeat (first | exact Below.refl _ _ | refine Below.drew ?_ | refine Below.alloc ?_ (by first | omega | (simp; done) | (simp; omega)) _ | refine Below.setCell ?_ (by first | omega | (simp; done) | (simp; omega)) _ | refine Below.trans ?_ (Below.mono (by assumption) (by first | omega | (simp; done) | (simp; omega))))))).mono ?_; rintro e w2 ⟨v2, rfl, own2, hb2⟩; have hz2 := hb2.size; have q2 := fun o => hb2.cell (p := ⟨w.heap.size, o, none⟩) (by omega); obtain ⟨l2, A2, c2, H2, hl2, rfl, in2, own2'⟩ := own_open bc_len own2 (l.length + 7) (by simp only [List.length_append]; omega) (by omega); clear own2))
    go_ret
    exact RetS.of own3 (by omega) (by rw [H2.out]; exact H.out) (by repeat (first | exact Below.refl _ _ | refine Below.drew ?_ | refine Below.alloc ?_ (by first | omega | (simp; done) | (simp; omega)) _ | refine Below.setCell ?_ (by first | omega | (simp; done) | (simp; omega)) _ | refine Below.trans ?_ (Below.mono (by assumption) (by first | omega | (simp; done) | (simp; omega)))))
  · have H : Hid (l ++ num x.kind ++ strB x.s = l ++ valB x) := by rw [valB_2 hok hk, List.append_assoc]; rfl
    obtain ⟨k, n, s⟩ := x
    obtain rfl : k = 2 := hk
    simp only at *
    go_enter Tryd.func97, Tryd.ntmps97
    go_wp2_with (first
      | (go_at_call 143; refine (c_value_Check ⟨2, n, s⟩ _ (by have := hs; simp at this ⊢; omega)).mono ?_; rintro e w1 ⟨rfl, hb1⟩; have hz1 := hb1.size; simp only [World.size_alloc] at hz1; have q1 := fun o => hb1.cell (p := ⟨w.heap.size, o, none⟩) (by simp); have hlt1 : w.heap.size < w1.heap.size := by omega)
      | (go_at_call 37; refine (c_octet_Num l A c _ _ (h.below (by repeat (first | exact Below.refl _ _ | refine Below.drew ?_ | refine Below.alloc ?_ (by first | omega | (simp; done) | (simp; omega)) _ | refine Below.setCell ?_ (by first | omega | (simp; done) | (simp; omega)) _ | refine Below.trans ?_ (Below.mono (by assumption) (by first | omega | (simp; done) | (simp; omega))))))).mono ?_; rintro e w2 ⟨v2, rfl, own2, hb2⟩; have hz2 := hb2.size; have q2 := fun o => hb2.cell (p := ⟨w.heap.size, o, none⟩) (by omega); obtain ⟨l2, A2, c2, H2, hl2, rfl, in2, own2'⟩ := own_open bc_len own2 (l.length + 7) (by simp only [List.length_append]; omega) (by omega); clear own2)
      | (go_at_call 152; refine (c_octet_Str l2 A2 c2 _ _ in2 (by omega)).mono ?_; rintro e w3 ⟨v3, rfl, own3, hb3⟩))
    go_ret
    exact RetS.of own3 (by omega) (by rw [H2.out]; exact H.out) (by repeat (first | exact Below.refl _ _ | refine Below.drew ?_ | refine Below.alloc ?_ (by first | omega | (simp; done) | (simp; omega)) _ | refine Below.setCell ?_ (by first | omega | (simp; done) | (simp; omega)) _ | refine Below.trans ?_ (Below.mono (by assumption) (by first | omega | (simp; done) | (simp; omega)))))
end Go.Proofs.YtjhndilflcigiaaDoor
namespace Go.Proofs.YtjhndilflcigiaaDoor
open Go.RowKit

/-- A value off bytes, and what the reader is then. -/
def rdVal' (st : Rd) : Rd := if rdN st 2 = 1 then rdN' (rdN' st 2) 1099511627776 else if rdN st 2 = 2 then rdS' (rdN' st 2) 24 else rdN' st 2
def rdVal (st : Rd) : Val := if (rdVal' st).e = 0 then ⟨rdN st 2, if rdN st 2 = 1 then rdN (rdN' st 2) 1099511627776 else 0, if rdN st 2 = 2 then rdS (rdN' st 2) 24 else []⟩ else ⟨0, 0, []⟩
theorem rdVal_bad {st : Rd} (h : (rdVal' st).e ≠ 0) : rdVal st = ⟨0, 0, []⟩ := by unfold rdVal; rw [if_neg h]
theorem rdVal_1 {st : Rd} (h : (rdVal' st).e = 0) (h1 : rdN st 2 = 1) : rdVal st = ⟨1, rdN (rdN' st 2) 1099511627776, []⟩ := by unfold rdVal; rw [if_pos h, h1]; rfl
theorem rdVal_2 {st : Rd} (h : (rdVal' st).e = 0) (h1 : rdN st 2 = 2) : rdVal st = ⟨2, 0, rdS (rdN' st 2) 24⟩ := by unfold rdVal; rw [if_pos h, h1]; rfl
theorem rdVal_0 {st : Rd} (h : (rdVal' st).e = 0) (h1 : rdN st 2 = 0) : rdVal st = ⟨0, 0, []⟩ := by unfold rdVal; rw [if_pos h, h1]; rfl
theorem rdVal'_1 {st : Rd} (h1 : rdN st 2 = 1) : rdVal' st = rdN' (rdN' st 2) 1099511627776 := by unfold rdVal'; rw [if_pos h1]
theorem rdVal'_2 {st : Rd} (h1 : rdN st 2 = 2) : rdVal' st = rdS' (rdN' st 2) 24 := by unfold rdVal'; rw [if_neg (by omega), if_pos h1]
theorem rdVal'_0 {st : Rd} (h1 : rdN st 2 = 0) : rdVal' st = rdN' st 2 := by unfold rdVal'; rw [if_neg (by omega), if_neg (by omega)]
theorem rdN2_cases (st : Rd) : rdN st 2 = 0 ∨ rdN st 2 = 1 ∨ rdN st 2 = 2 := by have := rdN_bd st 2; omega
theorem rdF_bad (st : Rd) {e : Int} (h : e ≠ 0) : (rdF st e).e ≠ 0 := by unfold rdF; split <;> assumption
theorem rdN_ok {st : Rd} {most : Int} (h : rdN st most ≠ 0) : st.e = 0 ∧ (rdN' st most).e = 0 := by
  refine ⟨?_, ?_⟩
  · by_cases h0 : st.e = 0
    · exact h0
    · exact absurd (rdN_err h0).1 h
  · by_cases h0 : (rdN' st most).e = 0
    · exact h0
    · exact absurd (rdN_err' h0) h
theorem Val.ok_1 {x : Val} (h : x.ok = true) (hk : x.kind = 1) : 0 ≤ x.n ∧ x.n ≤ 1099511627776 ∧ x.s = [] := by
  unfold Val.ok at h
  rw [if_neg (by omega), if_pos hk] at h
  simp only [Bool.and_eq_true, decide_eq_true_eq, List.isEmpty_iff] at h
  exact ⟨h.1.1, h.1.2, h.2⟩
theorem Val.ok_2 {x : Val} (h : x.ok = true) (hk : x.kind = 2) : x.n = 0 ∧ x.s.length ≤ 24 := by
  unfold Val.ok at h
  rw [if_neg (by omega), if_neg (by omega), if_pos hk] at h
  simp only [Bool.and_eq_true, decide_eq_true_eq] at h
  exact h
/-- What was taken for a value is its bytes, and it may be. -/
theorem rdVal_took {st : Rd} (h : (rdVal' st).e = 0) : st.e = 0 ∧ (rdVal st).ok = true ∧ st.s = valB (rdVal st) ++ (rdVal' st).s := by
  rcases rdN2_cases st with h0 | h0 | h0
  · have h1 := rdVal'_0 h0
    have h' := h
    rw [h1] at h'
    obtain ⟨e, u, e1, e2, _⟩ := rdN_took h'
    have hv := rdVal_0 h h0
    have hok : (⟨0, 0, []⟩ : Val).ok = true := by decide
    rw [hv, h1, valB_0 hok rfl]
    exact ⟨e, hok, by rw [e1, e2, h0]⟩
  · have h1 := rdVal'_1 h0
    have h' := h
    rw [h1] at h'
    obtain ⟨e, u, e1, e2, _⟩ := rdN_took h'
    obtain ⟨f, u', f1, f2, _⟩ := rdN_took e
    have hb := rdN_bd (rdN' st 2) 1099511627776
    have hv := rdVal_1 h h0
    have hok : (⟨1, rdN (rdN' st 2) 1099511627776, []⟩ : Val).ok = true := by simp [Val.ok]; omega
    rw [hv, h1, valB_1 hok rfl]
    exact ⟨f, hok, by rw [f1, f2, e1, e2, h0]; simp⟩
  · have h1 := rdVal'_2 h0
    have h' := h
    rw [h1] at h'
    obtain ⟨e, u, e1, e2, e3⟩ := rdS_took h'
    obtain ⟨f, u', f1, f2, _⟩ := rdN_took e
    have hv := rdVal_2 h h0
    have hok : (⟨2, 0, rdS (rdN' st 2) 24⟩ : Val).ok = true := by simp [Val.ok]; omega
    rw [hv, h1, valB_2 hok rfl]
    exact ⟨f, hok, by rw [f1, f2, e1, e2, h0]; simp⟩
theorem rdVal_err {st : Rd} (h : st.e ≠ 0) : rdVal st = ⟨0, 0, []⟩ ∧ rdVal' st = st := by
  have h0 : rdVal' st = st := by rw [rdVal'_0 (rdN_err h).1, (rdN_err h).2]
  exact ⟨rdVal_bad (by rw [h0]; exact h), h0⟩
theorem rdVal_ok (st : Rd) : (rdVal st).ok = true := by
  by_cases h : (rdVal' st).e = 0
  · exact (rdVal_took h).2.1
  · rw [rdVal_bad h]; decide
/-! A number that is not 0. -/
def rdAb' (st : Rd) (most : Int) : Rd := if rdN st most = 0 then rdF (rdN' st most) 3 else rdN' st most
theorem rdAb'_zero {st : Rd} {most : Int} (h : rdN st most = 0) : rdAb' st most = rdF (rdN' st most) 3 := by unfold rdAb'; rw [if_pos h]
theorem rdAb'_pos {st : Rd} {most : Int} (h : rdN st most ≠ 0) : rdAb' st most = rdN' st most := by unfold rdAb'; rw [if_neg h]
theorem rdAb'_bad {st : Rd} {most : Int} (h : st.e ≠ 0) : rdAb' st most = st := by rw [rdAb'_zero (rdN_err h).1, (rdN_err h).2, rdF_err h]
theorem rdAb'_ok {st : Rd} {most : Int} (h : (rdAb' st most).e = 0) : rdN st most ≠ 0 ∧ rdAb' st most = rdN' st most := by
  by_cases h0 : rdN st most = 0
  · rw [rdAb'_zero h0] at h
    exact absurd h (rdF_bad _ (by decide))
  · exact ⟨h0, rdAb'_pos h0⟩
theorem rdAb_took {st : Rd} {most : Int} (h : (rdAb' st most).e = 0) : st.e = 0 ∧ st.s = num (rdN st most) ++ (rdAb' st most).s ∧ 1 ≤ rdN st most ∧ rdN st most ≤ most := by
  obtain ⟨h0, h1⟩ := rdAb'_ok h
  rw [h1] at h ⊢
  obtain ⟨e, u, e1, e2, e3⟩ := rdN_took h
  have := (rdN_bd st most).1
  exact ⟨e, by rw [e1, e2], by omega, e3⟩
theorem rdN_took2 {st : Rd} {most : Int} (h : (rdN' st most).e = 0) : st.e = 0 ∧ st.s = num (rdN st most) ++ (rdN' st most).s ∧ 0 ≤ rdN st most ∧ rdN st most ≤ most := by
  obtain ⟨e, u, e1, e2, e3⟩ := rdN_took h
  exact ⟨e, by rw [e1, e2], (rdN_bd st most).1, e3⟩
end Go.Proofs.YtjhndilflcigiaaDoor
