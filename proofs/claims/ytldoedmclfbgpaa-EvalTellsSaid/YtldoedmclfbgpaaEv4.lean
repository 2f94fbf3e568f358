/-
  Lemmas (walks and plain laws), in one text.
-/
import Derived.Test.YtldoedmclfbgpaaEv1
import Derived.Test.YtldoedmclfbgpaaEv2
import Derived.Test.YtldoedmclfbgpaaEv3
import Derived.Lib.AppendZeros
import Derived.Deep.Quiet
import Derived.StillTail
namespace Go.Proofs.Ytldoedmclfbgpaa
open Go.RowKit

theorem endAt_hid (l : List Node) (i : Nat) : Hid (endFrom (l.drop (i + 0)) 1 (i + 0) = endAt l i) := (endAt_nat l i).symm

set_option maxHeartbeats 400000 in
theorem c_pred_End (l : List Node) (A : Option Addr) (c : Nat) (i : Int) (w : World) (h : InN w A c l) :
    Calls Try.prog 93 #[.slice A l.length c, .int .i64 i] w (RetV w (.int .i64 (endAt l i))) := by
  have hL := h.1
  have hC := h.2.1
  have hS := h.2.2.1
  by_cases h1 : i < 0
  · have H := Lib.hid (endAt_neg (l := l) h1)
    go_enter Try.func93, Try.ntmps93
    go_wp2
    go_ret
    exact RetV.int H.out.symm (Below.refl _ _)
  by_cases h2 : l.length ≤ i
  · have H := Lib.hid (endAt_past h2)
    go_enter Try.func93, Try.ntmps93
    go_wp2
    go_ret
    exact RetV.int H.out.symm (Below.refl _ _)
  obtain ⟨a, rfl⟩ : ∃ a : Nat, i = a := ⟨i.toNat, by omega⟩
  obtain ⟨b, off, rfl, hb, hrow⟩ := h.at (i := a) (by omega)
  clear h
  go_enter Try.func93, Try.ntmps93
  go_wp2
  go_loopw [5, 20] (fun need i wr => ∃ k : Nat, ∃ nd : Int, a + k ≤ l.length ∧ 1 ≤ nd ∧ nd ≤ 2 * k + 1 ∧ need = .int .i64 nd ∧ i = .int .i64 k ∧ Hid (endFrom (l.drop (a + k)) nd (a + k) = endAt l a) ∧ Below w.heap.size w wr)
     (fun _ i _ => l.length - (intOf i).toNat)
  case atStart => exact ⟨0, 1, by omega, by omega, by omega, rfl, rfl, endAt_hid l a, Below.refl _ _⟩
  case round =>
    obtain ⟨k, nd, hk, hnd1, hnd2, rfl, rfl, H, hbl⟩ := hrel
    by_cases hlt : a + k < l.length
    · obtain ⟨e0, e1, e2, e3, e4⟩ := (hrow.below hbl hb).node hlt (o := off + a * 5 + k * 5) (by omega)
      have hf := H.out
      rw [endFrom_at l (a + k) hlt] at hf
      obtain ⟨p, hp⟩ : ∃ p, parts l[a + k].op = p := ⟨_, rfl⟩
      have hpb := parts_bd l[a + k].op
      have Hp := Lib.hid hp
      rw [hp] at hf hpb
      have hpb1 := hpb.1
      have hpb2 := hpb.2
      have HF := Lib.hid hf
      have hbz := hbl.size
      clear hf hp hpb H
      by_cases hz : nd + (p - 1) = 0
      · go_wp2_with (go_at_call 100; refine (c_pred_Parts _ _).mono ?_; rintro e w1 ⟨rfl, hb1⟩; rw [Hp.out])
        go_ret
        refine RetV.int ?_ (by repeat (first | exact Below.refl _ _ | refine Below.drew ?_ | refine Below.alloc ?_ (by first | omega | (simp; done) | (simp; omega)) _ | refine Below.setCell ?_ (by first | omega | (simp; done) | (simp; omega)) _ | refine Below.trans ?_ (Below.mono (by assumption) (by first | omega | (simp; done) | (simp; omega)))))
        have hf := HF.out
        rw [if_pos hz] at hf
        rw [← hf]
        simp
      · go_wp2_with (go_at_call 100; refine (c_pred_Parts _ _).mono ?_; rintro e w1 ⟨rfl, hb1⟩; rw [Hp.out])
        go_roundw
        case rel =>
          refine ⟨k + 1, nd + (p - 1), by omega, by omega, by omega, rfl, by go_num, ?_, (by repeat (first | exact Below.refl _ _ | refine Below.drew ?_ | refine Below.alloc ?_ (by first | omega | (simp; done) | (simp; omega)) _ | refine Below.setCell ?_ (by first | omega | (simp; done) | (simp; omega)) _ | refine Below.trans ?_ (Below.mono (by assumption) (by first | omega | (simp; done) | (simp; omega)))))⟩
          have hf := HF.out
          rw [if_neg hz] at hf
          exact hf
        case measure => simp [intOf]; omega
    · go_wp2_with fail
      go_ret
      refine RetV.int ?_ hbl
      have := H.out
      rw [List.drop_of_length_le (by omega)] at this
      exact this
set_option maxHeartbeats 400000 in
theorem c_ref10_End (l : List Node) (A : Option Addr) (c : Nat) (i : Int) (w : World) (h : InN w A c l) :
    Calls Try.prog 52 #[.slice A l.length c, .int .i64 i] w (RetV w (.int .i64 (endAt l i))) := by
  have hL := h.1
  have hC := h.2.1
  have hS := h.2.2.1
  by_cases h1 : i < 0
  · have H := Lib.hid (endAt_neg (l := l) h1)
    go_enter Try.func52, Try.ntmps52
    go_wp2
    go_ret
    exact RetV.int H.out.symm (Below.refl _ _)
  by_cases h2 : l.length ≤ i
  · have H := Lib.hid (endAt_past h2)
    go_enter Try.func52, Try.ntmps52
    go_wp2_with fail
    refine wp_loop_rounds 1 ?_
    rw [rounds_succ]
    go_wp2_with fail
    go_ret
    exact RetV.int H.out.symm (Below.refl _ _)
  obtain ⟨a, rfl⟩ : ∃ a : Nat, i = a := ⟨i.toNat, by omega⟩
  obtain ⟨b, off, rfl, hb, hrow⟩ := h.at (i := a) (by omega)
  clear h
  go_enter Try.func52, Try.ntmps52
  go_wp2_with (fail)
  go_loopw [1, 5] (fun i need wr => ∃ k : Nat, ∃ nd : Int, a + k ≤ l.length ∧ 0 ≤ nd ∧ nd ≤ 2 * k + 1 ∧ (nd = 0 → 1 ≤ k) ∧ need = .int .i64 nd ∧ i = .int .i64 (a + k : Nat) ∧ Hid ((nd = 0 → ((a + k : Nat) : Int) = endAt l a) ∧ (nd ≠ 0 → endFrom (l.drop (a + k)) nd (a + k) = endAt l a)) ∧ Below w.heap.size w wr)
     (fun i _ _ => l.length - (intOf i).toNat)
  case atStart => exact ⟨0, 1, by omega, by omega, by omega, by omega, rfl, rfl, ⟨by omega, fun _ => endAt_hid l a⟩, Below.refl _ _⟩
  case round =>
    obtain ⟨k, nd, hk, hnd1, hnd2, hnd3, rfl, rfl, H, hbl⟩ := hrel
    have hbz := hbl.size
    by_cases hz : nd = 0
    · have H1 := Lib.hid (H.out.1 hz)
      clear H
      subst hz
      go_wp2_with (fail)
      all_goals (go_ret; exact RetV.int H1.out hbl)
    have hnd4 : 1 ≤ nd := by omega
    have hf := H.out.2 hz
    clear H
    by_cases hlt : a + k < l.length
    · obtain ⟨e0, e1, e2, e3, e4⟩ := (hrow.below hbl hb).node hlt (o := off + (a + k) * 5) (by omega)
      rw [endFrom_at l (a + k) hlt] at hf
      obtain ⟨p, hp⟩ : ∃ p, parts l[a + k].op = p := ⟨_, rfl⟩
      have hpb := parts_bd l[a + k].op
      have Hp := Lib.hid hp
      rw [hp] at hf hpb
      have hpb1 := hpb.1
      have hpb2 := hpb.2
      have HF := Lib.hid hf
      clear hf hp hpb
      go_wp2_with (go_at_call 92; refine (c_ref10_Parts _ _).mono ?_; rintro e w1 ⟨rfl, hb1⟩; rw [Hp.out])
      go_roundw
      case rel =>
        refine ⟨k + 1, nd - 1 + p, by omega, by omega, by omega, by omega, rfl, by go_num, ?_, (by repeat (first | exact Below.refl _ _ | refine Below.drew ?_ | refine Below.alloc ?_ (by first | omega | (simp; done) | (simp; omega)) _ | refine Below.setCell ?_ (by first | omega | (simp; done) | (simp; omega)) _ | refine Below.trans ?_ (Below.mono (by assumption) (by first | omega | (simp; done) | (simp; omega)))))⟩
        have hf := HF.out
        rw [show nd + (p - 1) = nd - 1 + p by omega] at hf
        refine ⟨fun e => ?_, fun e => ?_⟩
        · rw [if_pos e] at hf; rw [← hf]; omega
        · rw [if_neg e] at hf; exact hf
      case measure => simp [intOf]; omega
    · rw [List.drop_of_length_le (by omega)] at hf
      have HF := Lib.hid hf
      clear hf
      go_wp2_with fail
      go_ret
      exact RetV.int HF.out hbl
set_option maxHeartbeats 400000 in
theorem c_law10_Large_long (n : Nat) (A : Option Addr) (c : Nat) (w : World) (hn : 100 < n) (_hL : n ≤ c) (_hC : c ≤ 9223372036854775807) :
    Calls Try.prog 27 #[.slice A n c] w (RetV w (.bool true)) := by
  go_enter Try.func27, Try.ntmps27
  go_wp2
  go_ret
  exact RetV.bool rfl (Below.refl _ _)
set_option maxHeartbeats 400000 in
theorem c_law10_Large (l : List Node) (A : Option Addr) (c : Nat) (w : World) (h : InN w A c l) (hs : ∀ x ∈ l, x.v.s.length ≤ 9223372036854775807) :
    Calls Try.prog 27 #[.slice A l.length c] w (RetV w (.bool (large l))) := by
  have hL := h.1
  have hC := h.2.1
  have hS := h.2.2.1
  by_cases h1 : 100 < l.length
  · have H : Hid (large l = true) := by unfold Hid large; simp [h1]
    go_enter Try.func27, Try.ntmps27
    go_wp2
    go_ret
    exact RetV.bool H.out.symm (Below.refl _ _)
  have HL : Hid (large l = l.any fun x => decide (200 < x.v.s.length)) := by unfold Hid large; simp [h1]
  go_enter Try.func27, Try.ntmps27
  go_wp2
  go_loop [3] (fun i => ∃ k : Nat, k ≤ l.length ∧ i = .int .i64 k ∧ Hid ((l.take k).any (fun x => decide (200 < x.v.s.length)) = false)) (fun i => l.length - (intOf i).toNat)
  case atStart => exact ⟨0, by omega, rfl, by simp [Hid]⟩
  case round =>
    obtain ⟨k, hk, rfl, H⟩ := hrel
    by_cases hlt : k < l.length
    · obtain ⟨b, off, rfl, hb, hrow⟩ := h.at hlt
      obtain ⟨e0, e1, e2, e3, e4⟩ := hrow.node hlt rfl
      have hs1 := hs l[k] (List.getElem_mem hlt)
      clear h hs
      go_wp2
      · go_ret
        refine RetV.bool ?_ (Below.refl _ _)
        rw [HL.out]
        symm
        rw [List.any_eq_true]
        exact ⟨l[k], List.getElem_mem hlt, by simp; omega⟩
      · go_round
        case rel =>
          refine ⟨k + 1, by omega, by go_num, ?_⟩
          show List.any _ _ = false
          rw [List.take_succ_eq_append_getElem hlt, List.any_append, H.out]
          simp_all; omega
        case measure => simp [intOf]; omega
    · go_wp2
      go_ret
      refine RetV.bool ?_ (Below.refl _ _)
      rw [HL.out, ← H.out, List.take_of_length_le (by omega)]
end Go.Proofs.Ytldoedmclfbgpaa
namespace Go.Proofs.Ytldoedmclfbgpaa
open Go.RowKit

set_option maxHeartbeats 400000 in
theorem c_pred_Check1 (x : Node) (w : World) (hs : x.v.s.length ≤ 9223372036854775807) : Calls Try.prog 95 #[x.val] w (RetV w (.bool (!x.ok))) := by
  unfold Node.val
  go_enter Try.func95, Try.ntmps95
  go_wp2_with (go_at_call 96; refine (c_pred_Node x _ hs).mono ?_; rintro e w1 ⟨rfl, hb1⟩)
  go_ret
  exact RetV.bool rfl (by repeat (first | exact Below.refl _ _ | refine Below.drew ?_ | refine Below.alloc ?_ (by first | omega | (simp; done) | (simp; omega)) _ | refine Below.setCell ?_ (by first | omega | (simp; done) | (simp; omega)) _ | refine Below.trans ?_ (Below.mono (by assumption) (by first | omega | (simp; done) | (simp; omega)))))
set_option maxHeartbeats 400000 in
theorem c_IndexFuncN (l : List Node) (A : Option Addr) (c : Nat) (w : World) (h : InN w A c l) (hs : ∀ x ∈ l, x.v.s.length ≤ 9223372036854775807) :
    Calls Try.prog 137 #[.slice A l.length c, .func (.func 95) #[] #[]] w (RetV w (.int .i64 (firstBad l 0))) := by
  have hL := h.1
  have hC := h.2.1
  have hS := h.2.2.1
  go_enter Try.func137, Try.ntmps137
  go_wp2_with (fail)
  go_loopw [8] (fun i wr => ∃ k : Nat, k ≤ l.length ∧ i = .int .i64 k ∧ Hid (firstBad (l.drop k) k = firstBad l 0) ∧ Below w.heap.size w wr) (fun i _ => l.length - (intOf i).toNat)
  case atStart => exact ⟨0, by omega, rfl, rfl, Below.refl _ _⟩
  case round =>
    obtain ⟨k, hk, rfl, H, hbl⟩ := hrel
    have hbz := hbl.size
    by_cases hlt : k < l.length
    · obtain ⟨b, off, rfl, hb, hrow⟩ := h.at hlt
      obtain ⟨e0, e1, e2, e3, e4⟩ := (hrow.below hbl hb).node hlt rfl
      have hs1 := hs l[k] (List.getElem_mem hlt)
      have hf := H.out
      rw [firstBad_at l k hlt] at hf
      clear h hs H
      cases hok : l[k].ok
      · rw [if_neg (by rw [hok]; simp)] at hf
        have HF := Lib.hid hf
        clear hf
        go_wp2_with (go_at_call 95; refine (c_pred_Check1 l[k] _ hs1).mono ?_; rintro e w1 ⟨rfl, hb1⟩)
        go_ret
        exact RetV.int HF.out (by repeat (first | exact Below.refl _ _ | refine Below.drew ?_ | refine Below.alloc ?_ (by first | omega | (simp; done) | (simp; omega)) _ | refine Below.setCell ?_ (by first | omega | (simp; done) | (simp; omega)) _ | refine Below.trans ?_ (Below.mono (by assumption) (by first | omega | (simp; done) | (simp; omega)))))
      · rw [if_pos hok] at hf
        have HF := Lib.hid hf
        clear hf
        go_wp2_with (go_at_call 95; refine (c_pred_Check1 l[k] _ hs1).mono ?_; rintro e w1 ⟨rfl, hb1⟩)
        go_roundw
        case rel => exact ⟨k + 1, by omega, by go_num, HF.out, (by repeat (first | exact Below.refl _ _ | refine Below.drew ?_ | refine Below.alloc ?_ (by first | omega | (simp; done) | (simp; omega)) _ | refine Below.setCell ?_ (by first | omega | (simp; done) | (simp; omega)) _ | refine Below.trans ?_ (Below.mono (by assumption) (by first | omega | (simp; done) | (simp; omega)))))⟩
        case measure => simp [intOf]; omega
    · have hf := H.out
      rw [List.drop_of_length_le (by omega)] at hf
      have HF := Lib.hid hf
      clear hf H
      go_wp2_with (fail)
      go_ret
      exact RetV.int HF.out hbl
set_option maxHeartbeats 400000 in
theorem c_ContainsFuncN (l : List Node) (A : Option Addr) (c : Nat) (w : World) (h : InN w A c l) (hs : ∀ x ∈ l, x.v.s.length ≤ 9223372036854775807) :
    Calls Try.prog 94 #[.slice A l.length c, .func (.func 95) #[] #[]] w (RetV w (.bool (l.any fun x => !x.ok))) := by
  have H := Lib.hid (firstBad_any l 0)
  go_enter Try.func94, Try.ntmps94
  go_wp2_with (go_at_call 137; refine (c_IndexFuncN l A c _ h hs).mono ?_; rintro e w1 ⟨rfl, hb1⟩)
  go_ret
  exact RetV.bool H.out (by repeat (first | exact Below.refl _ _ | refine Below.drew ?_ | refine Below.alloc ?_ (by first | omega | (simp; done) | (simp; omega)) _ | refine Below.setCell ?_ (by first | omega | (simp; done) | (simp; omega)) _ | refine Below.trans ?_ (Below.mono (by assumption) (by first | omega | (simp; done) | (simp; omega)))))
set_option maxHeartbeats 1000000 in
theorem c_pred_Depth (l : List Node) (A : Option Addr) (c : Nat) (w : World) (h : InN w A c l) :
    Calls Try.prog 97 #[.slice A l.length c] w (RetV w (.int .i64 (depth l))) := by
  have hL := h.1
  have hC := h.2.1
  have hS := h.2.2.1
  by_cases h0 : l.length = 0
  · have H : Hid (depth l = 0) := by have := List.eq_nil_of_length_eq_zero h0; subst this; rfl
    go_enter Try.func97, Try.ntmps97
    go_wp2_with (fail)
    go_ret
    exact RetV.int H.out.symm (Below.refl _ _)
  by_cases h1 : endAt l 0 = l.length
  case neg =>
    have H : Hid (depth l = 0) := by unfold Hid depth; rw [if_pos (.inr h1)]
    have hn : ((endAt l 0 : Int) != (l.length : Int)) = true := by simpa using h1
    go_enter Try.func97, Try.ntmps97
    go_wp2_with (go_at_call 93; refine (c_pred_End l A c 0 _ h).mono ?_; rintro e w1 ⟨rfl, hb1⟩)
    go_ret
    exact RetV.int H.out.symm (by repeat (first | exact Below.refl _ _ | refine Below.drew ?_ | refine Below.alloc ?_ (by first | omega | (simp; done) | (simp; omega)) _ | refine Below.setCell ?_ (by first | omega | (simp; done) | (simp; omega)) _ | refine Below.trans ?_ (Below.mono (by assumption) (by first | omega | (simp; done) | (simp; omega)))))
  have HD : Hid (deepFold l [] 0 = depth l) := by
    show _ = _
    unfold depth
    rw [if_neg (by
      rintro (e | e)
      · subst e; simp at h0
      · exact e h1)]
  have hn : ((endAt l 0 : Int) != (l.length : Int)) = false := by simpa using h1
  have hl0 : ((l.length : Int) == 0) = false := by simpa using h0
  have EI : Elem Try.prog 87 3 1 8 := Elem.mk' Try.underlying87 (z := .int .i64 0) (by kernel_rfl) rfl (by omega) (by omega)
  clear h1
  go_enter Try.func97, Try.ntmps97
  go_wp2_with (go_at_call 93; refine (c_pred_End l A c 0 _ h).mono ?_; rintro e w1 ⟨rfl, hb1⟩)
  go_loopw [3, 4, 19] (fun v dp i wr => ∃ (k : Nat) (st : List Int) (d : Int), k ≤ l.length ∧ i = .int .i64 k ∧ dp = .int .i64 d ∧ 0 ≤ d ∧ d ≤ k ∧ st.length ≤ k ∧ (∀ x ∈ st, 1 ≤ x ∧ x ≤ 2) ∧
      wr.ownsRow w.heap.size 3 1 v st.length (st.map (Value.int .i64)) ∧ Hid (deepFold (l.drop k) st.reverse d = depth l) ∧ Below w.heap.size w wr) (fun _ _ i _ => l.length - (intOf i).toNat)
  case atStart => exact ⟨0, [], 0, by omega, rfl, rfl, by omega, by omega, by simp, by simp, World.ownsRow_nil _ _ _ _, HD.out, (by repeat (first | exact Below.refl _ _ | refine Below.drew ?_ | refine Below.alloc ?_ (by first | omega | (simp; done) | (simp; omega)) _ | refine Below.setCell ?_ (by first | omega | (simp; done) | (simp; omega)) _ | refine Below.trans ?_ (Below.mono (by assumption) (by first | omega | (simp; done) | (simp; omega)))))⟩
  case round =>
    obtain ⟨k, st, d, hk, rfl, rfl, hd0, hdk, hst, hent, hown, H, hbl⟩ := hrel
    have hbz := hbl.size
    have Hent := Lib.hid hent
    have hbh := Lib.hid hb1
    clear hent hb1
    by_cases hlt : k < l.length
    · obtain ⟨b, off, rfl, hb, hrow⟩ := h.at hlt
      obtain ⟨e0, e1, e2, e3, e4⟩ := (hrow.below hbl hb).node hlt rfl
      have hf := H.out
      rw [List.drop_eq_getElem_cons hlt] at hf
      have HF : Hid (deepFold (l.drop (k+1)) (push (parts l[k].op) st.reverse) (max d ((st.length : Int) + 1)) = depth l) := by
        have : deepFold (l[k] :: l.drop (k+1)) st.reverse d = depth l := hf
        show _ = _
        simpa [deepFold] using this
      clear h hf H
      have hpb := parts_bd l[k].op
      obtain ⟨p, hp⟩ : ∃ p, parts l[k].op = p := ⟨_, rfl⟩
      have Hp := Lib.hid hp
      rw [hp] at hpb
      have hpb1 := hpb.1
      have hpb2 := hpb.2
      clear hp hpb
      obtain ⟨Av, cv, rfl, hcv1, hcv2⟩ := own_form hown
      have hown0 := Lib.hid hown
      clear hown
      go_wp2_with (first
        | (go_at_call 100; refine (c_pred_Parts _ _).mono ?_; rintro e w2 ⟨rfl, hb2⟩; rw [Hp.out]; have hz2 := hb2.size; simp only [World.size_alloc] at hz2)
        | (at_builtin
           refine wpList_app _ rfl (.tmp 28) (.tmp 32) EI rfl w.heap.size (.slice Av st.length cv) st.length (st.map (Value.int .i64)) rfl ((own_below (own_below (own_below hown0.out ((Below.refl _ _).alloc (Nat.le_refl _) _)) hb2) ((Below.refl _ _).alloc (Nat.le_refl _) _))) _ 1 1 [.int .i64 p] rfl (Src.new _ _ _ _ rfl) (by simp [Value.oneCell']) (by omega) ?_ ?_
           · simp only [World.size_alloc]; omega
           intro v3 w3 hown3 hg3 hb3 hat3))
      have hbw3 : Below w.heap.size w w3 := (by repeat (first | exact Below.refl _ _ | refine Below.drew ?_ | refine Below.alloc ?_ (by first | omega | (simp; done) | (simp; omega)) _ | refine Below.setCell ?_ (by first | omega | (simp; done) | (simp; omega)) _ | refine Below.trans ?_ (Below.mono (by assumption) (by first | omega | (simp; done) | (simp; omega)))))
      have HN : Hid (norm (st ++ [p]).reverse = push p st.reverse) := by
        show _ = _
        rw [List.reverse_append]
        rfl
      have hent2 : ∀ x ∈ st ++ [p], 0 ≤ x ∧ x ≤ 2 := by
        intro x hx
        rcases List.mem_append.1 hx with hx | hx
        · have := Hent.out x hx; omega
        · simp at hx; omega
      have hent3 : ∀ x ∈ (st ++ [p]).dropLast, 1 ≤ x := by
        intro x hx
        rw [List.dropLast_concat] at hx
        exact (Hent.out x hx).1
      have Hent2 := Lib.hid hent2
      have Hent3 := Lib.hid hent3
      have hown3' : w3.ownsRow w.heap.size 3 1 v3 (st ++ [p]).length ((st ++ [p]).map (Value.int .i64)) := by simpa using hown3
      have Hown := Lib.hid hown3'
      clear e0 e1 e2 e3 e4 hb2 hz2 hown3 hown3' hg3 hb3 hat3 hown0 hbl hbz hent2 hent3 Hent hrow hb
      obtain ⟨wo, rfl⟩ : ∃ wo : World, wo = wr := ⟨_, rfl⟩
      go_loopw [3] (fun v wi => ∃ st2 : List Int, st2.length ≤ k + 1 ∧ Hid (∀ x ∈ st2, 0 ≤ x ∧ x ≤ 2) ∧ Hid (∀ x ∈ st2.dropLast, 1 ≤ x) ∧
          Hid (wi.ownsRow w.heap.size 3 1 v st2.length (st2.map (Value.int .i64))) ∧ Hid (norm st2.reverse = push p st.reverse) ∧ Below w.heap.size w wi) (fun v _ => lenOf v)
      case atStart => exact ⟨st ++ [p], by simp; omega, Hent2, Hent3, Hown, HN, hbw3⟩
      case round =>
        obtain ⟨st2, hl2, E2, E3, O2, N2, hb2⟩ := hrel
        have hz2 := hb2.size
        have hnext : ∀ t r, st2 = r ++ [t] → t ≠ 0 → (∀ x ∈ st2, 1 ≤ x ∧ x ≤ 2) ∧ deepFold (l.drop (k+1)) st2.reverse (max d ((st.length : Int) + 1)) = depth l := by
          rintro t r rfl ht
          refine ⟨fun x hx => ?_, ?_⟩
          · have h1 := E2.out x hx
            rcases List.mem_append.1 hx with hx | hx
            · have := E3.out x (by rw [List.dropLast_concat]; exact hx); omega
            · simp at hx; omega
          · have hf := HF.out
            rw [Hp.out, ← N2.out] at hf
            have hr : (r ++ [t]).reverse = t :: r.reverse := by simp
            rw [hr, norm_keep ht, ← hr] at hf
            exact hf
        have HX := Lib.hid hnext
        clear hnext
        rcases snoc_cases st2 with rfl | ⟨rest, t, rfl⟩
        · obtain ⟨A2, c2, rfl, _, _⟩ := own_form O2.out
          clear HX
          go_wp2_with (fail)
          go_roundw
          case rel =>
            have hf := HF.out
            rw [Hp.out, ← N2.out] at hf
            exact ⟨k + 1, [], _, by omega, by go_num, rfl, by omega, by omega, by simp, by simp, O2.out, hf, hb2⟩
          case measure => simp [intOf]; omega
        · have Et := E2.out t (by simp)
          rcases snoc_cases rest with rfl | ⟨r2, y, rfl⟩
          · obtain ⟨g, c2, rfl, hc2, hc2', hg1, hg2⟩ := own_form' O2.out (by simp)
            have O2' : wr.ownsRow w.heap.size 3 1 (.slice (some ⟨g, 0, none⟩) 1 c2) 1 [.int .i64 t] := O2.out
            have hcell : wr.cell? ⟨g, 0, none⟩ = some (.int .i64 t) := by
              rw [O2'.cellAt _ (by omega)]
              rfl
            have hpop := Lib.hid (ownsRow_pop (xs := []) (n := 0) (by simp) O2')
            have O3 := Lib.hid O2'
            clear O2' O2
            simp only [List.nil_append, List.length_singleton] at hc2
            by_cases ht : t = 0
            · subst ht
              go_wp2_with (fail)
              go_roundw
              case rel =>
                have hn := N2.out
                exact ⟨[], by simp, (fun x hx => by cases hx), (fun x hx => by cases hx), hpop.out, by rw [← hn]; rfl, hb2⟩
              case measure => simp [lenOf]
            · have htb : ((t : Int) == 0) = false := by simpa using ht
              go_wp2_with (fail)
              go_roundw
              case rel =>
                obtain ⟨h1, h2⟩ := HX.out t [] rfl ht
                exact ⟨k + 1, [t], _, by omega, by go_num, rfl, by omega, by omega, by simp, h1, O3.out, h2, hb2⟩
              case measure => simp [intOf]; omega
          · have hl2' : r2.length + 2 ≤ k + 1 := by simpa using hl2
            obtain ⟨q, hq⟩ : ∃ q, r2.length = q := ⟨_, rfl⟩
            have hlen : (r2 ++ [y] ++ [t]).length = q + 2 := by simp [hq]
            have O2' := O2.out
            rw [hlen] at O2'
            simp only [List.map_append, List.map_cons, List.map_nil] at O2'
            obtain ⟨g, c2, rfl, hc2, hc2', hg1, hg2⟩ := own_form' O2' (by omega)
            rw [hq] at hl2'
            have hcell : wr.cell? ⟨g, q + 1, none⟩ = some (.int .i64 t) := by
              rw [O2'.cellAt _ (by omega)]
              rw [List.getElem?_append_right (by simp [hq])]
              simp [hq]
            have hcy : wr.cell? ⟨g, q, none⟩ = some (.int .i64 y) := by
              rw [O2'.cellAt _ (by omega)]
              rw [List.getElem?_append_left (by simp [hq]), List.getElem?_append_right (by simp [hq])]
              simp [hq]
            have hfz := fun j => O2'.frozenAt j
            have hpop := ownsRow_pop (n := q + 1) (by simp [hq]) O2'
            have hst2 := hpop.stored q (.int .i64 (y - 1))
            have ST := Lib.hid hst2
            have O3 := Lib.hid O2'
            have Hq := Lib.hid hq
            have Hlen := Lib.hid hlen
            have hy := E3.out y (by simp)
            have hy2 := (E2.out y (by simp)).2
            clear O2' O2 hpop hst2 hq hlen hl2
            by_cases ht : t = 0
            · subst ht
              clear HX
              go_wp2_with (fail)
              go_roundw
              case rel =>
                refine ⟨r2 ++ [y - 1], by simp [Hq.out]; omega, ?_, ?_, ?_, ?_, (by repeat (first | exact Below.refl _ _ | refine Below.drew ?_ | refine Below.alloc ?_ (by first | omega | (simp; done) | (simp; omega)) _ | refine Below.setCell ?_ (by first | omega | (simp; done) | (simp; omega)) _ | refine Below.trans ?_ (Below.mono (by assumption) (by first | omega | (simp; done) | (simp; omega)))))⟩
                · intro x hx
                  rcases List.mem_append.1 hx with hx | hx
                  · exact E2.out x (by simp [hx])
                  · simp at hx; omega
                · intro x hx
                  rw [List.dropLast_concat] at hx
                  exact E3.out x (by rw [List.dropLast_concat]; simp [hx])
                · show World.ownsRow _ _ _ _ _ _ _
                  rw [show q + 2 - 1 = q + 1 by omega, show (r2 ++ [y - 1]).length = q + 1 by simp [Hq.out]]
                  have h1 := ST.out.1
                  have e : ((r2.map (Value.int .i64) ++ [Value.int .i64 y]).set q (.int .i64 (y - 1))) = (r2 ++ [y - 1]).map (Value.int .i64) := by
                    rw [List.set_append_right _ _ (by simp [Hq.out])]
                    simp [Hq.out]
                  rw [e] at h1
                  exact h1
                · have hn := N2.out
                  have e1 : (r2 ++ [y] ++ [0]).reverse = 0 :: y :: r2.reverse := by simp
                  have e2 : (r2 ++ [y - 1]).reverse = (y - 1) :: r2.reverse := by simp
                  show _ = _
                  rw [← hn, e1, e2, norm_zero, dec_norm]
              case measure => simp [lenOf]
            · have htb : ((t : Int) == 0) = false := by simpa using ht
              go_wp2_with (fail)
              go_roundw
              case rel =>
                obtain ⟨h1, h2⟩ := HX.out t _ rfl ht
                refine ⟨k + 1, r2 ++ [y] ++ [t], _, by omega, by go_num, rfl, by omega, by omega, by rw [Hlen.out]; omega, h1, ?_, h2, hb2⟩
                rw [Hlen.out]
                simpa using O3.out
              case measure => simp [intOf]; omega
    · have hf := H.out
      rw [List.drop_of_length_le (by omega)] at hf
      have HF : Hid (d = depth l) := by simpa [deepFold, Hid] using hf
      clear hf H
      go_wp2_with (fail)
      go_ret
      exact RetV.int HF.out hbl
end Go.Proofs.Ytldoedmclfbgpaa
namespace Go.Proofs.Ytldoedmclfbgpaa
open Go.RowKit

set_option maxHeartbeats 400000 in
theorem c_pred_Check (l : List Node) (A : Option Addr) (c : Nat) (w : World) (h : InN w A c l) (hs : ∀ x ∈ l, x.v.s.length ≤ 9223372036854775807) :
    Calls Try.prog 54 #[.slice A l.length c] w (RetV w (.int .i64 (check l))) := by
  have hL := h.1
  have hC := h.2.1
  have hS := h.2.2.1
  have hdb := (depth_bd l).1
  have Hs := Lib.hid hs
  clear hs
  go_enter Try.func54, Try.ntmps54
  go_wp2_with (first
    | (go_at_call 93; refine (c_pred_End l A c 0 _ h).mono ?_; rintro e w1 ⟨rfl, hb1⟩)
    | (go_at_call 94; refine (c_ContainsFuncN l A c _ (h.below hb1) Hs.out).mono ?_; rintro e w2 ⟨rfl, hb2⟩)
    | (go_at_call 97; refine (c_pred_Depth l A c _ ((h.below hb1).below hb2)).mono ?_; rintro e w3 ⟨rfl, hb3⟩))
  all_goals (go_ret; (try have hz1 := hb1.size); (try have hz2 := hb2.size); refine RetV.int ?_ (by repeat (first | exact Below.refl _ _ | refine Below.drew ?_ | refine Below.alloc ?_ (by first | omega | (simp; done) | (simp; omega)) _ | refine Below.setCell ?_ (by first | omega | (simp; done) | (simp; omega)) _ | refine Below.trans ?_ (Below.mono (by assumption) (by first | omega | (simp; done) | (simp; omega))))); (simp_all [check] <;> first | omega | (intros; omega) | decide | grind))
set_option maxHeartbeats 1000000 in
theorem c_ref10_Kids (l : List Node) (a : Nat) (A : Option Addr) (c : Nat) (w : World) (h : InN w A c l) (ha : a < l.length) (mid : List Node) (d : Nat) (ht : Trees (parts l[a].op).toNat (l.drop (a + 1)) mid d) :
    Calls Try.prog 68 #[.slice A l.length c, .int .i64 a] w (RetK 33 w (cut (parts l[a].op).toNat (l.drop (a + 1)))) := by
  have hL := h.1
  have hC := h.2.1
  have hS := h.2.2.1
  obtain ⟨b, off, rfl, hb, hrow⟩ := h.at ha
  have hpb := parts_bd l[a].op
  obtain ⟨p, hp⟩ : ∃ p : Nat, (parts l[a].op).toNat = p := ⟨_, rfl⟩
  have hpi : parts l[a].op = (p : Int) := by rw [← hp]; omega
  have Hp := Lib.hid hpi
  rw [hp] at ht ⊢
  have hp2 : p ≤ 2 := by omega
  have Ht := Lib.hid ht
  have EN : Elem Try.prog 33 94 5 48 := Elem.mk' Try.underlying33 (z := .agg #[.int .i64 0, .int .i64 0, .int .i64 0, .int .i64 0, .string ⟨#[]⟩]) (by kernel_rfl) rfl (by omega) (by omega)
  have EK : Elem Try.prog 45 33 1 24 := Elem.mk' Try.underlying45 (z := .slice none 0 0) (by kernel_rfl) rfl (by omega) (by omega)
  clear hpb hp hpi ht
  have ha0 : decide ((a : Int) < 0) = false := by simp
  have ha1 : decide (l.length ≤ a) = false := by simpa using ha
  go_enter Try.func68, Try.ntmps68
  go_wp2_with (fail)
  go_loopw [5, 6, 7] (fun v fr i wr => ∃ (j : Nat) (f : Nat) (os : List Kid) (d' : Nat), j ≤ p ∧ i = .int .i64 j ∧ fr = .int .i64 f ∧ os.length = j ∧ Hid (Trees (p - j) (l.drop f) mid d') ∧
      Hid (os.map (·.2.2) ++ cut (p - j) (l.drop f) = cut p (l.drop (a + 1))) ∧ Hid (wr.ownsRow w.heap.size 33 1 v os.length (os.flatMap Kid.cells)) ∧
      Hid (∀ o ∈ os, o.2.2.length ≤ l.length ∧ wr.ownsRow w.heap.size 94 5 (Kid.val o) o.2.2.length (o.2.2.flatMap Node.cells)) ∧ f ≤ l.length ∧ Below w.heap.size w wr)
    (fun _ _ i _ => p - (intOf i).toNat)
  case atStart =>
    refine ⟨0, a + 1, [], d, by omega, rfl, by go_num, rfl, Ht.out, rfl, ?_, ?_, by omega, (by repeat (first | exact Below.refl _ _ | refine Below.drew ?_ | refine Below.alloc ?_ (by first | omega | (simp; done) | (simp; omega)) _ | refine Below.setCell ?_ (by first | omega | (simp; done) | (simp; omega)) _ | refine Below.trans ?_ (Below.mono (by assumption) (by first | omega | (simp; done) | (simp; omega)))))⟩
    · exact World.ownsRow_lit w #[] 0 (Nat.le_refl _) (by unfold maxLen; omega) (by simp)
    · intro o ho; cases ho
  case round =>
    obtain ⟨j, f, os, d', hj, rfl, rfl, hos, T, N, O, K, hf, hbl⟩ := hrel
    have hbz := hbl.size
    have e0 := ((hrow.below hbl hb).node ha rfl).1
    by_cases hlt : j < p
    · obtain ⟨n, hn⟩ : ∃ n, p - j = n + 1 := ⟨p - j - 1, by omega⟩
      have T' := T.out
      have N' := N.out
      rw [hn] at T' N'
      obtain ⟨s, d1, d2, hs1, hs2, hend, hcut, T2, Tr⟩ := cut_step T'
      rw [hcut] at N'
      have Hend := Lib.hid hend
      have NN := Lib.hid N'
      have TT := Lib.hid T2
      have Hn := Lib.hid hn
      have hlk : ((l.drop f).take s).length = s := by rw [List.length_take, List.length_drop]; omega
      have Hlk := Lib.hid hlk
      obtain ⟨Av, cv, rfl, hcv1, hcv2⟩ := own_form O.out
      obtain ⟨m, hm⟩ : ∃ m, os.length = m := ⟨_, rfl⟩
      have hO := O.out
      rw [hm] at hO
      have O2 := Lib.hid hO
      have hmj : m = j := by rw [← hm]; exact hos
      have Hm := Lib.hid hm
      have Hmj := Lib.hid hmj
      rw [hm] at hcv1 ⊢
      have hm2 : m ≤ 2 := by omega
      clear T N O T' N' hend hcut T2 hn hlk hO hos hmj hm e0
      have e0 := ((hrow.below hbl hb).node ha rfl).1
      go_wp2_with (first
        | (go_at_call 92; refine (c_ref10_Parts _ _).mono ?_; rintro e w2 ⟨rfl, hb2⟩; rw [Hp.out]; have hz2 := hb2.size)
        | (go_at_call 52; refine (c_ref10_End l _ c _ _ (h.below (by repeat (first | exact Below.refl _ _ | refine Below.drew ?_ | refine Below.alloc ?_ (by first | omega | (simp; done) | (simp; omega)) _ | refine Below.setCell ?_ (by first | omega | (simp; done) | (simp; omega)) _ | refine Below.trans ?_ (Below.mono (by assumption) (by first | omega | (simp; done) | (simp; omega))))))).mono ?_; rintro e w3 ⟨rfl, hb3⟩; rw [Hend.out]; have hz3 := hb3.size)
        | (at_builtin; refine Stop.out ?_))
      refine Stop.mk (wpList_app _ rfl (.tmp 34) (.tmp 38) EN rfl w3.heap.size (.slice (some ⟨w3.heap.size, 0, none⟩) 0 0) 0 [] rfl (World.ownsRow_lit w3 #[] 0 (Nat.le_refl _) (by unfold maxLen; omega) (by simp)) _ _ _ (((l.drop f).take s).flatMap Node.cells) rfl ?_ (nodes_one _) (by omega) ?_ ?_)
      · have hB : Below w.heap.size w (w3.alloc (.cells #[] 94)) := (by repeat (first | exact Below.refl _ _ | refine Below.drew ?_ | refine Below.alloc ?_ (by first | omega | (simp; done) | (simp; omega)) _ | refine Below.setCell ?_ (by first | omega | (simp; done) | (simp; omega)) _ | refine Below.trans ?_ (Below.mono (by assumption) (by first | omega | (simp; done) | (simp; omega)))))
        have hsub := (h.below hB).sub (i := f) (j := f + s) (by omega) hs2 ⟨by simp only [World.size_alloc]; omega, hrow.below hB hb⟩
        rw [show f + s - f = s by omega] at hsub ⊢
        have h1 := Src.of_in Node.cells_len (by omega) hsub
        rw [Hlk.out] at h1
        exact h1
      · simp only [World.size_alloc]; omega
      intro v4 w4 own4 g4 b4 at4
      obtain ⟨A4, c4, rfl, _, _⟩ := own_form own4
      rw [show 0 + (f + s - f) = s by omega, List.nil_append] at own4
      have hz4 := g4.size
      simp only [World.size_alloc] at hz4
      have hb4 : Below w.heap.size w w4 := by
        refine Below.trans (b := w3.alloc (.cells #[] 94)) (by repeat (first | exact Below.refl _ _ | refine Below.drew ?_ | refine Below.alloc ?_ (by first | omega | (simp; done) | (simp; omega)) _ | refine Below.setCell ?_ (by first | omega | (simp; done) | (simp; omega)) _ | refine Below.trans ?_ (Below.mono (by assumption) (by first | omega | (simp; done) | (simp; omega))))) (b4.mono (by omega))
      have keep4 : ∀ (b1 : Nat) (e1 : TypeId) (s1 n1 : Nat) (v1 : Value) (x1 : List Value), wr.ownsRow b1 e1 s1 v1 n1 x1 → w4.ownsRow b1 e1 s1 v1 n1 x1 := by
        intro b1 e1 s1 n1 v1 x1 h1
        have h2 := own_below (own_below h1 hb2) hb3
        refine own_kept_lt (g := w3.heap.size) (own_below h2 ((Below.refl _ _).alloc (Nat.le_refl _) _)) g4 (fun k hk => ?_)
        have := (h2.lt k hk).2
        omega
      have K4 := Lib.hid keep4
      have O4 := Lib.hid own4
      clear own4 keep4 at4 b4 g4
      go_wp2_with ((at_builtin; refine Stop.out ?_))
      refine Stop.mk (wpList_app _ rfl (.tmp 33) (.tmp 40) EK rfl w.heap.size (.slice Av m cv) m (os.flatMap Kid.cells) rfl (own_below (K4.out _ _ _ _ _ _ O2.out) ((Below.refl _ _).alloc (Nat.le_refl _) _)) _ 1 1 [.slice A4 s c4] rfl (Src.new _ _ _ _ rfl) (by simp [Value.oneCell']) (by omega) ?_ ?_)
      · simp only [World.size_alloc]; omega
      intro v5 w5 own5 g5 b5 at5
      go_wp2_with (fail)
      have hz5 := g5.size
      have hb5 : Below w.heap.size w w5 := by
        refine Below.trans (b := w4.alloc (.cells #[.slice A4 s c4] 33)) (by repeat (first | exact Below.refl _ _ | refine Below.drew ?_ | refine Below.alloc ?_ (by first | omega | (simp; done) | (simp; omega)) _ | refine Below.setCell ?_ (by first | omega | (simp; done) | (simp; omega)) _ | refine Below.trans ?_ (Below.mono (by assumption) (by first | omega | (simp; done) | (simp; omega))))) (b5.mono (by omega))
      go_roundw
      case rel =>
        have hnn := NN.out
        refine ⟨j + 1, f + s, os ++ [(A4, c4, (l.drop f).take s)], d1, by omega, by go_num, by go_num, by have := Hmj.out; simp [Hm.out, this], ?_, ?_, ?_, ?_, by omega, hb5⟩
        · show Trees _ _ _ _
          rw [show p - (j + 1) = n by have := Hn.out; omega]; exact TT.out
        · show _ = _
          rw [show p - (j + 1) = n by have := Hn.out; omega, ← hnn]
          simp
        · show World.ownsRow _ _ _ _ _ _ _
          have e : (os ++ [((A4, c4, (l.drop f).take s) : Kid)]).flatMap Kid.cells = os.flatMap Kid.cells ++ [.slice A4 s c4] := by
            simp only [List.flatMap_append, List.flatMap_cons, List.flatMap_nil, Kid.cells, Kid.val, Hlk.out, List.append_nil]
          rw [e, List.length_append, Hm.out]
          exact own5
        · intro o ho
          have keep5 : ∀ {b1 : Nat} {s1 n1 : Nat} {v1 : Value} {x1 : List Value}, w4.ownsRow b1 94 s1 v1 n1 x1 → w5.ownsRow b1 94 s1 v1 n1 x1 := by
            intro b1 s1 n1 v1 x1 h1
            exact own_kept_ne (own_below h1 ((Below.refl _ _).alloc (Nat.le_refl _) _)) (own_below (K4.out _ _ _ _ _ _ O2.out) ((Below.refl _ _).alloc (Nat.le_refl _) _)) (by decide) g5
          rcases List.mem_append.1 ho with ho | ho
          · exact ⟨(K.out o ho).1, keep5 (K4.out _ _ _ _ _ _ (K.out o ho).2)⟩
          · simp only [List.mem_singleton] at ho
            subst ho
            refine ⟨by show _ ≤ _; rw [Hlk.out]; omega, ?_⟩
            show World.ownsRow _ _ _ _ (.slice A4 (List.length _) c4) _ _
            rw [Hlk.out]
            exact own_base (keep5 O4.out) (by omega)
      case measure => simp [intOf]; omega
    · have hjp : j = p := by omega
      have hp0 : p - j = 0 := by omega
      have N' := N.out
      rw [hp0] at N'
      obtain ⟨Av, cv, rfl, hcv1, hcv2⟩ := own_form O.out
      have e0 := ((hrow.below hbl hb).node ha rfl).1
      have NN := Lib.hid N'
      clear N N' T Ht hp0 hos
      go_wp2_with (first
        | (go_at_call 92; refine (c_ref10_Parts _ _).mono ?_; rintro e w2 ⟨rfl, hb2⟩; rw [Hp.out]; have hz2 := hb2.size))
      go_ret
      refine ⟨os, ?_, ⟨_, rfl, own_below O.out hb2, (by repeat (first | exact Below.refl _ _ | refine Below.drew ?_ | refine Below.alloc ?_ (by first | omega | (simp; done) | (simp; omega)) _ | refine Below.setCell ?_ (by first | omega | (simp; done) | (simp; omega)) _ | refine Below.trans ?_ (Below.mono (by assumption) (by first | omega | (simp; done) | (simp; omega)))))⟩, fun o ho => ?_⟩
      · have := NN.out; simpa [cut] using this
      · obtain ⟨h1, h2⟩ := K.out o ho
        obtain ⟨A', c', he, hin⟩ := In.of_own Node.cells_len (own_below h2 hb2) (by omega)
        have e1 : o.1 = A' ∧ o.2.1 = c' := by
          have := he
          simp only [Kid.val, Value.slice.injEq, true_and] at this
          exact this
        rw [e1.1, e1.2]; exact hin
end Go.Proofs.Ytldoedmclfbgpaa
namespace Go.Proofs.Ytldoedmclfbgpaa
open Go.RowKit

theorem elemN : Elem Try.prog 33 94 5 48 := Elem.mk' Try.underlying33 (z := .agg #[.int .i64 0, .int .i64 0, .int .i64 0, .int .i64 0, .string ⟨#[]⟩]) (by kernel_rfl) rfl (by omega) (by omega)
set_option maxHeartbeats 400000 in
set_option maxRecDepth 4000 in
theorem c_Clone_n (l : List Node) (A : Option Addr) (c : Nat) (w : World) (h : In 5 Node.cells w A c l) :
    Calls Try.prog 55 #[.slice A l.length c] w (RetS 5 Node.cells 94 w l) := by
  have hL := h.1
  have hC := h.2.1
  have hS := h.2.2.1
  have EB := elemN
  rcases A with _ | ad
  · have hl : l = [] := by
      rcases h.2.2.2 with h | ⟨b, off, hh, _⟩
      · exact h
      · cases hh
    subst hl
    clear h
    have ke := fun (w : World) (n c : Nat) => Lib.run_eql_slice_nil (P := Try.prog) w 33 _ none n c 0 0 Try.underlying33
    go_enter Try.func55, Try.ntmps55
    go_wp2_with (fail)
    go_ret
    exact ⟨_, rfl, World.ownsRow_nil _ _ _ _, Below.refl _ _⟩
  · have ke := fun (w : World) (n c : Nat) => Lib.run_eql_slice_nil (P := Try.prog) w 33 _ (some ad) n c 0 0 Try.underlying33
    go_enter Try.func55, Try.ntmps55
    go_wp2_with ((at_builtin; refine Stop.out ?_))
    refine Stop.mk (wpList_app _ rfl (.tmp 5) (.tmp 6) EB rfl w.heap.size (.slice (some ⟨w.heap.size, 0, none⟩) 0 0) 0 [] rfl (World.ownsRow_lit w #[] 0 (Nat.le_refl _) (by unfold maxLen; omega) (by simp)) (some ad) l.length c (l.flatMap Node.cells) rfl (Src.of_in Node.cells_len (by omega) (h.alloc _)) (nodes_one _) (by omega) ?_ ?_)
    · simp only [World.size_alloc]; omega
    intro v2 w2 own2 _ hb2 _
    rw [Nat.zero_add, List.nil_append] at own2
    have hb3 : Below w.heap.size w w2 := Below.trans (b := w.alloc (.cells #[] 94)) (by repeat (first | exact Below.refl _ _ | refine Below.drew ?_ | refine Below.alloc ?_ (by first | omega | (simp; done) | (simp; omega)) _ | refine Below.setCell ?_ (by first | omega | (simp; done) | (simp; omega)) _ | refine Below.trans ?_ (Below.mono (by assumption) (by first | omega | (simp; done) | (simp; omega))))) hb2
    go_wp2_with (fail)
    go_ret
    exact ⟨_, rfl, own2, hb3⟩
theorem kids_one (os : List Kid) : ∀ u ∈ os.flatMap Kid.cells, u.oneCell' = true := by
  intro u hu
  obtain ⟨x, _, hx⟩ := List.mem_flatMap.1 hu
  simp only [Kid.cells, List.mem_singleton] at hx
  subst hx; rfl
theorem Kid.cells_len (x : Kid) : x.cells.length = 1 := rfl
end Go.Proofs.Ytldoedmclfbgpaa
namespace Go.Proofs.Ytldoedmclfbgpaa
open Go.RowKit

theorem neq_node (x y : Node) (w : World) (h : x ≠ y) : (binOp .neq 94 x.val y.val).run Try.prog w = .ok (.bool true) w := by
  obtain ⟨o1, n1, k1, m1, s1⟩ := x
  obtain ⟨o2, n2, k2, m2, s2⟩ := y
  unfold Node.val
  by_cases h1 : o1 = o2
  · by_cases h2 : n1 = n2
    · by_cases h3 : k1 = k2
      · by_cases h4 : m1 = m2
        · have h5 : s1 ≠ s2 := fun e => h (by rw [h1, h2, h3, h4, e])
          have h7 : str s1 ≠ str s2 := fun e => h5 (str_inj e)
          simp [go_sem, h1, h2, h3, h4, h5]
        · simp [go_sem, h1, h2, h3, h4]
      · simp [go_sem, h1, h2, h3]
    · simp [go_sem, h1, h2]
  · simp [go_sem, h1]
set_option maxHeartbeats 400000 in
theorem c_ref10_Same (l1 l2 : List Node) (A1 A2 : Option Addr) (c1 c2 : Nat) (w : World) (h1 : InN w A1 c1 l1) (h2 : InN w A2 c2 l2) :
    Calls Try.prog 24 #[.slice A1 l1.length c1, .slice A2 l2.length c2] w (RetV w (.bool (decide (l1 = l2)))) := by
  have hL1 := h1.1
  have hC1 := h1.2.1
  have hS1 := h1.2.2.1
  have hL2 := h2.1
  have hC2 := h2.2.1
  have hS2 := h2.2.2.1
  by_cases hlen : l1.length = l2.length
  case neg =>
    have H : Hid (false = decide (l1 = l2)) := by
      show _ = _
      symm
      rw [decide_eq_false_iff_not]
      exact fun e => hlen (by rw [e])
    go_enter Try.func24, Try.ntmps24
    go_wp2_with (fail)
    go_ret
    exact RetV.bool H.out (by repeat (first | exact Below.refl _ _ | refine Below.drew ?_ | refine Below.alloc ?_ (by first | omega | (simp; done) | (simp; omega)) _ | refine Below.setCell ?_ (by first | omega | (simp; done) | (simp; omega)) _ | refine Below.trans ?_ (Below.mono (by assumption) (by first | omega | (simp; done) | (simp; omega)))))
  have hd : ((l1.length : Int) != (l2.length : Int)) = false := by rw [hlen]; simp
  have HL := Lib.hid hlen
  clear hlen
  go_enter Try.func24, Try.ntmps24
  go_wp2_with (fail)
  go_loopw [5] (fun i wr => ∃ k : Nat, k ≤ l1.length ∧ i = .int .i64 k ∧ Hid (decide (l1.drop k = l2.drop k) = decide (l1 = l2)) ∧ Below w.heap.size w wr) (fun i _ => l1.length - (intOf i).toNat)
  case atStart => exact ⟨0, by omega, rfl, by simp [Hid], Below.refl _ _⟩
  case round =>
    obtain ⟨k, hk, rfl, H, hbl⟩ := hrel
    have hbz := hbl.size
    by_cases hlt : k < l1.length
    · have hlt2 : k < l2.length := by have := HL.out; omega
      obtain ⟨b1, off1, rfl, hb1, hrow1⟩ := h1.at hlt
      obtain ⟨b2, off2, rfl, hb2, hrow2⟩ := h2.at hlt2
      obtain ⟨e0, e1, e2, e3, e4⟩ := (hrow1.below hbl hb1).node hlt rfl
      obtain ⟨f0, f1, f2, f3, f4⟩ := (hrow2.below hbl hb2).node hlt2 rfl
      have hbr1 : b1 < wr.heap.size := by omega
      have hbr2 : b2 < wr.heap.size := by omega
      have hi1 : (0 : Int) ≤ (k : Int) := by omega
      have hi2 : (k : Int) < (l1.length : Int) := by omega
      have hi3 : (k : Int) < (l2.length : Int) := by omega
      have hH := H.out
      rw [List.drop_eq_getElem_cons hlt, List.drop_eq_getElem_cons hlt2] at hH
      clear h1 h2 H
      by_cases hx : l1[k] = l2[k]
      · have HN : Hid (decide (l1.drop (k + 1) = l2.drop (k + 1)) = decide (l1 = l2)) := by show _ = _; rw [← hH, hx]; simp only [List.cons.injEq, true_and]
        rw [← hx] at f0 f1 f2 f3 f4
        clear hH hx
        go_wp2_with (fail)
        refine wp_region_grow (by kernel_rfl) (by kernel_rfl) ?_
        repeat (quiet_step ((first | fail)))
        refine wpQuiet_nil ?_
        intro w2 hb2
        go_wp2_with (fail)
        go_roundw
        case rel => exact ⟨k + 1, by omega, by go_num, HN.out, (by repeat (first | exact Below.refl _ _ | refine Below.drew ?_ | refine Below.alloc ?_ (by first | omega | (simp; done) | (simp; omega)) _ | refine Below.setCell ?_ (by first | omega | (simp; done) | (simp; omega)) _ | refine Below.trans ?_ (Below.mono (by assumption) (by first | omega | (simp; done) | (simp; omega)))))⟩
        case measure => simp [intOf]; omega
      · have HN : Hid (false = decide (l1 = l2)) := by show _ = _; rw [← hH]; symm; rw [decide_eq_false_iff_not]; intro e; injection e with e; exact hx e
        have kn := fun w => neq_node l1[k] l2[k] w hx
        clear hH
        go_wp2_with (fail)
        refine wp_region_grow (by kernel_rfl) (by kernel_rfl) ?_
        repeat (quiet_step ((first | fail)))
        refine wpQuiet_nil ?_
        intro w2 hb2
        go_wp2_with (fail)
        go_ret
        exact RetV.bool HN.out (by repeat (first | exact Below.refl _ _ | refine Below.drew ?_ | refine Below.alloc ?_ (by first | omega | (simp; done) | (simp; omega)) _ | refine Below.setCell ?_ (by first | omega | (simp; done) | (simp; omega)) _ | refine Below.trans ?_ (Below.mono (by assumption) (by first | omega | (simp; done) | (simp; omega)))))
    · have hH := H.out
      rw [List.drop_of_length_le (by omega), List.drop_of_length_le (by have := HL.out; omega)] at hH
      have HN : Hid (true = decide (l1 = l2)) := by show _ = _; rw [← hH]; simp
      clear hH H
      go_wp2_with (fail)
      go_ret
      exact RetV.bool HN.out hbl
end Go.Proofs.Ytldoedmclfbgpaa
namespace Go.Proofs.Ytldoedmclfbgpaa
open Go.RowKit

set_option maxHeartbeats 1000000 in
theorem c_ref10_Depth (n : Nat) : ∀ (l : List Node) (A : Option Addr) (c : Nat) (w : World), l.length ≤ n → InN w A c l →
    Calls Try.prog 53 #[.slice A l.length c] w (RetV w (.int .i64 (depth l))) := by
  induction n with
  | zero =>
    intro l A c w hn h
    have h0 : l.length = 0 := by omega
    have H : Hid (depth l = 0) := by have := List.eq_nil_of_length_eq_zero h0; subst this; rfl
    go_enter Try.func53, Try.ntmps53
    go_wp2_with (fail)
    go_ret
    exact RetV.int H.out.symm (Below.refl _ _)
  | succ n ih =>
    intro l A c w hn h
    have IH := Lib.hid ih
    clear ih
    have hL := h.1
    have hC := h.2.1
    have hS := h.2.2.1
    by_cases h0 : l.length = 0
    · have H : Hid (depth l = 0) := by have := List.eq_nil_of_length_eq_zero h0; subst this; rfl
      go_enter Try.func53, Try.ntmps53
      go_wp2_with (fail)
      go_ret
      exact RetV.int H.out.symm (Below.refl _ _)
    have hl0 : ((l.length : Int) == 0) = false := by simpa using h0
    by_cases h1 : endAt l 0 = l.length
    case neg =>
      have H : Hid (depth l = 0) := by unfold Hid depth; rw [if_pos (.inr h1)]
      have hne : ((endAt l 0 : Int) != (l.length : Int)) = true := by simpa using h1
      go_enter Try.func53, Try.ntmps53
      go_wp2_with (go_at_call 52; refine (c_ref10_End l A c 0 _ h).mono ?_; rintro e w1 ⟨rfl, hb1⟩)
      go_ret
      exact RetV.int H.out.symm (by repeat (first | exact Below.refl _ _ | refine Below.drew ?_ | refine Below.alloc ?_ (by first | omega | (simp; done) | (simp; omega)) _ | refine Below.setCell ?_ (by first | omega | (simp; done) | (simp; omega)) _ | refine Below.trans ?_ (Below.mono (by assumption) (by first | omega | (simp; done) | (simp; omega)))))
    obtain ⟨d, ht⟩ := tree_of_end (by rintro rfl; simp at h0) h1
    have hlt : 0 < l.length := by omega
    have hdt := depth_tree ht
    obtain ⟨x, r, d', hl, htr, hd⟩ := ht.head
    have hx : l[0] = x := by subst hl; rfl
    have hr : l.drop 1 = r := by subst hl; rfl
    rw [← hx, ← hr] at htr
    obtain ⟨hc1, hc2, hc3⟩ := cut_trees htr
    have hdc := depth_cut htr 0 (by omega)
    have hne : ((endAt l 0 : Int) != (l.length : Int)) = false := by simpa using h1
    obtain ⟨ks, hks⟩ : ∃ ks, cut (parts l[0].op).toNat (l.drop (0 + 1)) = ks := ⟨_, rfl⟩
    have hks' : cut (parts l[0].op).toNat (l.drop 1) = ks := hks
    rw [hks'] at hc1 hc2 hc3 hdc
    have hkl : ∀ k ∈ ks, k.length ≤ n := by
      intro k hk
      have := flatten_len ks k hk
      have h2 := congrArg List.length hc2
      simp only [List.append_nil, List.length_drop] at h2
      omega
    have HD : Hid (depth l = (ks.map depth).foldl max 0 + 1) := by
      show _ = _
      rw [hdt, hdc, hd]; omega
    have Hks := Lib.hid hks
    have Hkl := Lib.hid hkl
    have htr0 := Lib.hid htr
    have hp2 := parts_bd l[0].op
    have hkl2 : ks.length ≤ 2 := by omega
    have hpos : ∀ k, 0 ≤ depth k := fun k => (depth_bd k).1
    have hbd : ∀ k ∈ ks, depth k ≤ 4294967296 := by
      intro k hk
      have h3 := (depth_bd k).2
      have h4 := flatten_len ks k hk
      have h2 := congrArg List.length hc2
      simp only [List.append_nil, List.length_drop] at h2
      omega
    have Hpos := Lib.hid hpos
    have Hbd := Lib.hid hbd
    clear h1 ht hdt hl htr hd hx hr hc1 hc2 hc3 hdc hks hks' hkl hp2 hpos hbd
    go_enter Try.func53, Try.ntmps53
    go_wp2_with (go_at_call 52; refine (c_ref10_End l A c 0 _ h).mono ?_; rintro e w1 ⟨rfl, hb1⟩)
    refine (c_ref10_Kids l 0 A c _ (h.below hb1) hlt _ _ htr0.out).mono ?_
    rintro e w2 ⟨os, hos, ⟨v, rfl, own, hb2⟩, hin⟩
    rw [Hks.out] at hos
    have hol : os.length = ks.length := by rw [← hos]; simp
    obtain ⟨Av, cv, rfl, hv1, hv2⟩ := own_form own
    have Hb2 := Lib.hid hb2
    have Own := Lib.hid own
    have Hin := Lib.hid hin
    have Hos := Lib.hid hos
    have hbw : Below w.heap.size w w2 := by refine Below.trans hb1 (hb2.mono hb1.size)
    have Hbw := Lib.hid hbw
    have hol2 : os.length ≤ 2 := by omega
    have Hol := Lib.hid hol
    clear hb1 hb2 own hin hos hol hbw
    go_wp2_with (fail)
    go_loopw [4, 5] (fun m i wr => ∃ (k : Nat) (dm : Int), k ≤ os.length ∧ i = .int .i64 k ∧ m = .int .i64 dm ∧ 0 ≤ dm ∧ dm ≤ 4294967296 ∧ Hid (((ks.take k).map depth).foldl max 0 = dm) ∧ Below w2.heap.size w2 wr)
      (fun _ i _ => os.length - (intOf i).toNat)
    case atStart => exact ⟨0, 0, by omega, rfl, rfl, by omega, by omega, rfl, Below.refl _ _⟩
    case round =>
      obtain ⟨k, dm, hk, rfl, rfl, hd0, hd1, HM, hbl⟩ := hrel
      have hbz := hbl.size
      by_cases hlt2 : k < os.length
      · have hlk : k < ks.length := by have := Hol.out; omega
        have hkk : (os[k]).2.2 = ks[k] := by
          have := Hos.out
          subst this
          simp
        obtain ⟨g, cg, he, hg1, hg2, hg3, hg4⟩ := own_form' Own.out (by omega)
        have hAv : Av = some ⟨g, 0, none⟩ := by simp only [Value.slice.injEq] at he; exact he.1
        subst hAv
        have hcell : wr.cell? ⟨g, k, none⟩ = some (.slice os[k].1 os[k].2.2.length os[k].2.1) := by
          have h1 := Own.out.cells (g := g) rfl k
          rw [add_lit] at h1
          rw [hbl.cell (p := ⟨g, k, none⟩) hg4]
          refine h1 _ ?_
          have := flat_get (k := 1) (cs := Kid.cells) (fun _ => rfl) os k hlt2 0 (by omega)
          rw [Nat.mul_one, Nat.add_zero] at this
          rw [this]; rfl
        have hin := Hin.out os[k] (List.getElem_mem hlt2)
        have hle : (os[k]).2.2.length ≤ n := by rw [hkk]; exact Hkl.out _ (List.getElem_mem hlk)
        have hm2 : depth (os[k]).2.2 = depth ks[k] := by rw [hkk]
        have hpk := Hpos.out ks[k]
        have hbk := Hbd.out ks[k] (List.getElem_mem hlk)
        have Hm2 := Lib.hid hm2
        have Hin2 := Lib.hid (hin.below hbl)
        clear hin hkk hm2 he
        go_wp2_with (go_at_call 53; refine (IH.out _ _ _ _ hle Hin2.out).mono ?_; rintro e w3 ⟨rfl, hb3⟩; rw [Hm2.out])
        go_roundw
        case rel =>
          refine ⟨k + 1, _, by omega, by go_num, rfl, by omega, by omega, ?_, (by repeat (first | exact Below.refl _ _ | refine Below.drew ?_ | refine Below.alloc ?_ (by first | omega | (simp; done) | (simp; omega)) _ | refine Below.setCell ?_ (by first | omega | (simp; done) | (simp; omega)) _ | refine Below.trans ?_ (Below.mono (by assumption) (by first | omega | (simp; done) | (simp; omega)))))⟩
          show _ = _
          rw [List.take_succ_eq_append_getElem hlk, List.map_append, List.foldl_append, HM.out]
          rfl
        case measure => simp [intOf]; omega
      · have HM2 : Hid ((ks.map depth).foldl max 0 = dm) := by
          have h1 := HM.out
          rw [List.take_of_length_le (by have := Hol.out; omega)] at h1
          exact h1
        clear HM
        go_wp2_with (fail)
        go_ret
        refine RetV.int ?_ (Below.trans Hbw.out (hbl.mono Hbw.out.size))
        rw [HD.out, HM2.out]
set_option maxHeartbeats 1000000 in
theorem c_ref10_Check (l : List Node) (A : Option Addr) (c : Nat) (w : World) (h : InN w A c l) (hs : ∀ x ∈ l, x.v.s.length ≤ 9223372036854775807) :
    Calls Try.prog 15 #[.slice A l.length c] w (RetV w (.int .i64 (check l))) := by
  have hL := h.1
  have hC := h.2.1
  have hS := h.2.2.1
  have Hs := Lib.hid hs
  clear hs
  by_cases h31 : 31 < l.length
  · have H : Hid (check l = 4) := by unfold Hid check; rw [if_pos h31]
    go_enter Try.func15, Try.ntmps15
    go_wp2_with (fail)
    go_ret
    exact RetV.int H.out.symm (Below.refl _ _)
  have h31b : decide (31 < (l.length : Int)) = false := by simp; omega
  have hlt31 : l.length ≤ 31 := by omega
  have HC : Hid (check l = if (l.any fun x => !x.ok) = true then 1 else if l.length = 0 ∨ endAt l 0 ≠ l.length then 1 else if 8 < depth l then 5 else 0) := by
    unfold Hid check
    rw [if_neg h31]
    by_cases h1 : l.length = 0 ∨ endAt l 0 ≠ l.length <;> by_cases h2 : (l.any fun x => !x.ok) = true <;> simp only [h1, h2, if_true, if_false, ite_self]
  clear h31
  go_enter Try.func15, Try.ntmps15
  go_wp2_with (fail)
  go_loopw [3] (fun i wr => ∃ k : Nat, k ≤ l.length ∧ i = .int .i64 k ∧ Hid (((l.take k).any fun x => !x.ok) = false) ∧ Below w.heap.size w wr) (fun i _ => l.length - (intOf i).toNat)
  case atStart => exact ⟨0, by omega, rfl, by simp [Hid], Below.refl _ _⟩
  case round =>
    obtain ⟨k, hk, rfl, H, hbl⟩ := hrel
    have hbz := hbl.size
    by_cases hlt : k < l.length
    · obtain ⟨b, off, rfl, hb, hrow⟩ := h.at hlt
      obtain ⟨e0, e1, e2, e3, e4⟩ := (hrow.below hbl hb).node hlt rfl
      have hs1 := Hs.out l[k] (List.getElem_mem hlt)
      clear h
      cases hok : l[k].ok
      · have H1 : Hid (check l = 1) := by
          unfold Hid
          rw [HC.out, if_pos]
          rw [List.any_eq_true]
          exact ⟨l[k], List.getElem_mem hlt, by simp [hok]⟩
        go_wp2_with (go_at_call 51; refine (c_ref10_Node l[k] _ hs1).mono ?_; rintro e w1 ⟨rfl, hb1⟩)
        go_ret
        exact RetV.int H1.out.symm (by repeat (first | exact Below.refl _ _ | refine Below.drew ?_ | refine Below.alloc ?_ (by first | omega | (simp; done) | (simp; omega)) _ | refine Below.setCell ?_ (by first | omega | (simp; done) | (simp; omega)) _ | refine Below.trans ?_ (Below.mono (by assumption) (by first | omega | (simp; done) | (simp; omega)))))
      · go_wp2_with (go_at_call 51; refine (c_ref10_Node l[k] _ hs1).mono ?_; rintro e w1 ⟨rfl, hb1⟩)
        go_roundw
        case rel =>
          refine ⟨k + 1, by omega, by go_num, ?_, (by repeat (first | exact Below.refl _ _ | refine Below.drew ?_ | refine Below.alloc ?_ (by first | omega | (simp; done) | (simp; omega)) _ | refine Below.setCell ?_ (by first | omega | (simp; done) | (simp; omega)) _ | refine Below.trans ?_ (Below.mono (by assumption) (by first | omega | (simp; done) | (simp; omega)))))⟩
          show List.any _ _ = false
          rw [List.take_succ_eq_append_getElem hlt, List.any_append, H.out]
          simp [hok]
        case measure => simp [intOf]; omega
    · have HC2 : Hid (check l = if l.length = 0 ∨ endAt l 0 ≠ l.length then 1 else if 8 < depth l then 5 else 0) := by
        have h1 := H.out
        rw [List.take_of_length_le (by omega)] at h1
        unfold Hid
        rw [HC.out, h1]; simp
      clear H HC
      go_wp2_with (first
        | (go_at_call 52; refine (c_ref10_End l A c 0 _ (h.below hbl)).mono ?_; rintro e w1 ⟨rfl, hb1⟩)
        | (go_at_call 53; refine (c_ref10_Depth l.length l A c _ (Nat.le_refl _) ((h.below hbl).below hb1)).mono ?_; rintro e w3 ⟨rfl, hb3⟩))
      all_goals (go_ret; (try have hz1 := hb1.size); refine RetV.int ?_ (by repeat (first | exact Below.refl _ _ | refine Below.drew ?_ | refine Below.alloc ?_ (by first | omega | (simp; done) | (simp; omega)) _ | refine Below.setCell ?_ (by first | omega | (simp; done) | (simp; omega)) _ | refine Below.trans ?_ (Below.mono (by assumption) (by first | omega | (simp; done) | (simp; omega))))); have HC3 := HC2.out; (try simp only [ne_eq] at *); (simp_all [] <;> first | omega | (intros; omega) | decide | grind))
end Go.Proofs.Ytldoedmclfbgpaa
namespace Go.Proofs.Ytldoedmclfbgpaa
open Go.RowKit

theorem InN.lit (w : World) (l : List Node) (t : TypeId) (n : Nat) (hn : n = l.length) (hl : l.length ≤ 4294967296) : InN (w.alloc (.cells (l.flatMap Node.cells).toArray t)) (some ⟨w.heap.size, 0, none⟩) n l := by
  subst hn
  refine ⟨Nat.le_refl _, by omega, hl, .inr ⟨_, 0, rfl, by simp, fun i hi j u hu => ?_⟩⟩
  have hj : j < 5 := by rw [← Node.cells_len l[i]]; exact (List.getElem?_eq_some_iff.1 hu).1
  rw [World.cell?_alloc_new, Nat.zero_add]
  have := flat_get (k := 5) Node.cells_len l i hi j hj
  rw [List.getElem?_toArray, this]; exact hu
end Go.Proofs.Ytldoedmclfbgpaa
namespace Go.Proofs.Ytldoedmclfbgpaa
open Go.RowKit

theorem In.lit {α : Type} {k : Nat} {cs : α → List Value} (hk : ∀ x, (cs x).length = k) (w : World) (l : List α) (t : TypeId) (n : Nat) (hn : n = l.length) (hl : l.length ≤ 4294967296) : In k cs (w.alloc (.cells (l.flatMap cs).toArray t)) (some ⟨w.heap.size, 0, none⟩) n l := by
  subst hn
  refine ⟨Nat.le_refl _, by omega, hl, .inr ⟨_, 0, rfl, by simp, fun i hi j u hu => ?_⟩⟩
  have hj : j < k := by rw [← hk l[i]]; exact (List.getElem?_eq_some_iff.1 hu).1
  rw [World.cell?_alloc_new, Nat.zero_add]
  have := flat_get (k := k) hk l i hi j hj
  rw [List.getElem?_toArray, this]; exact hu
end Go.Proofs.Ytldoedmclfbgpaa
namespace Go.Proofs.Ytldoedmclfbgpaa
open Go.RowKit

set_option maxHeartbeats 400000 in
theorem c_isNaN_int (x : Int) (w : World) : Calls Try.prog 214 #[.int .i64 x] w (RetV w (.bool false)) := by
  go_enter Try.func214, Try.ntmps214
  go_wp2_with (fail)
  go_ret
  exact RetV.bool (by simp) (by repeat (first | exact Below.refl _ _ | refine Below.drew ?_ | refine Below.alloc ?_ (by first | omega | (simp; done) | (simp; omega)) _ | refine Below.setCell ?_ (by first | omega | (simp; done) | (simp; omega)) _ | refine Below.trans ?_ (Below.mono (by assumption) (by first | omega | (simp; done) | (simp; omega)))))
set_option maxHeartbeats 400000 in
theorem c_isNaN_string (s : List UInt8) (w : World) : Calls Try.prog 215 #[.string (str s)] w (RetV w (.bool false)) := by
  go_enter Try.func215, Try.ntmps215
  go_wp2_with (fail)
  go_ret
  exact RetV.bool (by simp) (by repeat (first | exact Below.refl _ _ | refine Below.drew ?_ | refine Below.alloc ?_ (by first | omega | (simp; done) | (simp; omega)) _ | refine Below.setCell ?_ (by first | omega | (simp; done) | (simp; omega)) _ | refine Below.trans ?_ (Below.mono (by assumption) (by first | omega | (simp; done) | (simp; omega)))))
set_option maxHeartbeats 400000 in
theorem c_cmp_int (a b : Int) (w : World) : Calls Try.prog 197 #[.int .i64 a, .int .i64 b] w (RetV w (.int .i64 (cmpI a b))) := by
  have hc : (a < b ∧ Hid (cmpI a b = -1)) ∨ (a = b ∧ Hid (cmpI a b = 0)) ∨ (b < a ∧ Hid (cmpI a b = 1)) := by
    rcases Int.lt_trichotomy a b with h | h | h
    · exact .inl ⟨h, cmpI_lt h⟩
    · exact .inr (.inl ⟨h, cmpI_eq h⟩)
    · exact .inr (.inr ⟨h, cmpI_gt h⟩)
  rcases hc with ⟨h, H⟩ | ⟨rfl, H⟩ | ⟨h, H⟩
  all_goals (
    go_enter Try.func197, Try.ntmps197
    go_wp2_with (fail)
    refine (c_isNaN_int _ _).mono ?_
    rintro e w1 ⟨rfl, hb1⟩
    have hz1 := hb1.size
    go_wp2_with (fail)
    refine (c_isNaN_int _ _).mono ?_
    rintro e w2 ⟨rfl, hb2⟩
    go_wp2_with (fail)
    all_goals first
      | (exfalso; omega)
      | (go_ret; exact RetV.int H.out.symm (by repeat (first | exact Below.refl _ _ | refine Below.drew ?_ | refine Below.alloc ?_ (by first | omega | (simp; done) | (simp; omega)) _ | refine Below.setCell ?_ (by first | omega | (simp; done) | (simp; omega)) _ | refine Below.trans ?_ (Below.mono (by assumption) (by first | omega | (simp; done) | (simp; omega)))))))
set_option maxHeartbeats 400000 in
theorem c_cmp_string (a b : List UInt8) (w : World) : Calls Try.prog 198 #[.string (str a), .string (str b)] w (RetV w (.int .i64 (cmpS a b))) := by
  have hbd := cmpS_bd a b
  have hneg := cmpS_neg a b
  have l1 := bytesLess_cmp a b
  have l2 := beq_cmp a b
  have hc : (Op.bytesLess a b = true ∧ (a == b) = false ∧ Hid (cmpS a b = -1)) ∨ (Op.bytesLess a b = false ∧ (a == b) = true ∧ Hid (cmpS a b = 0)) ∨ (Op.bytesLess a b = false ∧ (a == b) = false ∧ Hid (cmpS a b = 1)) := by
    have : cmpS a b = -1 ∨ cmpS a b = 0 ∨ cmpS a b = 1 := by omega
    rcases this with h | h | h
    · exact .inl ⟨by rw [l1, h]; rfl, by rw [l2, h]; rfl, h⟩
    · exact .inr (.inl ⟨by rw [l1, h]; rfl, by rw [l2, h]; rfl, h⟩)
    · exact .inr (.inr ⟨by rw [l1, h]; rfl, by rw [l2, h]; rfl, h⟩)
  clear hbd hneg l1 l2
  rcases hc with ⟨h1, h2, H⟩ | ⟨h1, h2, H⟩ | ⟨h1, h2, H⟩
  all_goals (
    go_enter Try.func198, Try.ntmps198
    go_wp2_with (fail)
    refine (c_isNaN_string _ _).mono ?_
    rintro e w1 ⟨rfl, hb1⟩
    have hz1 := hb1.size
    go_wp2_with (fail)
    refine (c_isNaN_string _ _).mono ?_
    rintro e w2 ⟨rfl, hb2⟩
    go_wp2_with (fail)
    go_ret
    exact RetV.int H.out.symm (by repeat (first | exact Below.refl _ _ | refine Below.drew ?_ | refine Below.alloc ?_ (by first | omega | (simp; done) | (simp; omega)) _ | refine Below.setCell ?_ (by first | omega | (simp; done) | (simp; omega)) _ | refine Below.trans ?_ (Below.mono (by assumption) (by first | omega | (simp; done) | (simp; omega))))))
set_option maxHeartbeats 400000 in
theorem c_ref04_ahead (a b : Int) (w : World) : Calls Try.prog 186 #[.int .i64 a, .int .i64 b] w (RetV w (.int .i64 (cmpI a b))) := by
  have hc : (a < b ∧ Hid (cmpI a b = -1)) ∨ (a = b ∧ Hid (cmpI a b = 0)) ∨ (b < a ∧ Hid (cmpI a b = 1)) := by
    rcases Int.lt_trichotomy a b with h | h | h
    · exact .inl ⟨h, cmpI_lt h⟩
    · exact .inr (.inl ⟨h, cmpI_eq h⟩)
    · exact .inr (.inr ⟨h, cmpI_gt h⟩)
  rcases hc with ⟨h, H⟩ | ⟨rfl, H⟩ | ⟨h, H⟩
  all_goals (
    go_enter Try.func186, Try.ntmps186
    go_wp2_with (fail)
    all_goals first
      | (exfalso; omega)
      | (go_ret; exact RetV.int H.out.symm (by repeat (first | exact Below.refl _ _ | refine Below.drew ?_ | refine Below.alloc ?_ (by first | omega | (simp; done) | (simp; omega)) _ | refine Below.setCell ?_ (by first | omega | (simp; done) | (simp; omega)) _ | refine Below.trans ?_ (Below.mono (by assumption) (by first | omega | (simp; done) | (simp; omega)))))))
set_option maxHeartbeats 1000000 in
theorem c_value_Compare (x y : Val) (w : World) : Calls Try.prog 176 #[x.val, y.val] w (RetV w (.int .i64 (x.cmp y))) := by
  unfold Val.val
  by_cases h1 : cmpI x.kind y.kind = 0
  · have b1 : (cmpI x.kind y.kind != 0) = false := by simpa using h1
    by_cases h2 : cmpI x.n y.n = 0
    · have b2 : (cmpI x.n y.n != 0) = false := by simpa using h2
      have H : Hid (cmpS x.s y.s = x.cmp y) := by show _ = _; unfold Val.cmp; rw [if_neg (by simpa using h1), if_neg (by simpa using h2)]
      clear h1 h2
      go_enter Try.func176, Try.ntmps176
      go_wp2_with (fail)
      refine (c_cmp_int _ _ _).mono ?_
      rintro e w1 ⟨rfl, hb1⟩
      have hz1 := hb1.size
      simp only [World.size_alloc] at hz1
      have q1 := fun o => hb1.cell (p := ⟨w.heap.size, o, none⟩) (by simp; omega)
      have r1 := fun o => hb1.cell (p := ⟨w.heap.size + 1, o, none⟩) (by simp)
      go_wp2_with (fail)
      refine (c_cmp_int _ _ _).mono ?_
      rintro e w2 ⟨rfl, hb2⟩
      have hz2 := hb2.size
      have q2 := fun o => hb2.cell (p := ⟨w.heap.size, o, none⟩) (by show w.heap.size < _; omega)
      have r2 := fun o => hb2.cell (p := ⟨w.heap.size + 1, o, none⟩) (by show w.heap.size + 1 < _; omega)
      go_wp2_with (fail)
      refine (c_cmp_string _ _ _).mono ?_
      rintro e w3 ⟨rfl, hb3⟩
      go_wp2_with (fail)
      go_ret
      exact RetV.int H.out (by repeat (first | exact Below.refl _ _ | refine Below.drew ?_ | refine Below.alloc ?_ (by first | omega | (simp; done) | (simp; omega)) _ | refine Below.setCell ?_ (by first | omega | (simp; done) | (simp; omega)) _ | refine Below.trans ?_ (Below.mono (by assumption) (by first | omega | (simp; done) | (simp; omega)))))
    · have b2 : (cmpI x.n y.n != 0) = true := by simpa using h2
      have H : Hid (cmpI x.n y.n = x.cmp y) := by show _ = _; unfold Val.cmp; rw [if_neg (by simpa using h1), if_pos h2]
      clear h1 h2
      go_enter Try.func176, Try.ntmps176
      go_wp2_with (fail)
      refine (c_cmp_int _ _ _).mono ?_
      rintro e w1 ⟨rfl, hb1⟩
      have hz1 := hb1.size
      simp only [World.size_alloc] at hz1
      have q1 := fun o => hb1.cell (p := ⟨w.heap.size, o, none⟩) (by simp; omega)
      have r1 := fun o => hb1.cell (p := ⟨w.heap.size + 1, o, none⟩) (by simp)
      go_wp2_with (fail)
      refine (c_cmp_int _ _ _).mono ?_
      rintro e w2 ⟨rfl, hb2⟩
      go_wp2_with (fail)
      go_ret
      exact RetV.int H.out (by repeat (first | exact Below.refl _ _ | refine Below.drew ?_ | refine Below.alloc ?_ (by first | omega | (simp; done) | (simp; omega)) _ | refine Below.setCell ?_ (by first | omega | (simp; done) | (simp; omega)) _ | refine Below.trans ?_ (Below.mono (by assumption) (by first | omega | (simp; done) | (simp; omega)))))
  · have b1 : (cmpI x.kind y.kind != 0) = true := by simpa using h1
    have H : Hid (cmpI x.kind y.kind = x.cmp y) := by show _ = _; unfold Val.cmp; rw [if_pos h1]
    clear h1
    go_enter Try.func176, Try.ntmps176
    go_wp2_with (fail)
    refine (c_cmp_int _ _ _).mono ?_
    rintro e w1 ⟨rfl, hb1⟩
    go_wp2_with (fail)
    go_ret
    exact RetV.int H.out (by repeat (first | exact Below.refl _ _ | refine Below.drew ?_ | refine Below.alloc ?_ (by first | omega | (simp; done) | (simp; omega)) _ | refine Below.setCell ?_ (by first | omega | (simp; done) | (simp; omega)) _ | refine Below.trans ?_ (Below.mono (by assumption) (by first | omega | (simp; done) | (simp; omega)))))
end Go.Proofs.Ytldoedmclfbgpaa
namespace Go.Proofs.Ytldoedmclfbgpaa
open Go.RowKit

theorem cmpS_step (a b : List UInt8) (k : Nat) (ha : k < a.length) (hb : k < b.length) : cmpS (a.drop k) (b.drop k) = if cmpI a[k].toNat b[k].toNat ≠ 0 then cmpI a[k].toNat b[k].toNat else cmpS (a.drop (k + 1)) (b.drop (k + 1)) := by
  rw [List.drop_eq_getElem_cons ha, List.drop_eq_getElem_cons hb]
  show (if a[k].toNat < b[k].toNat then _ else _) = _
  by_cases h1 : a[k].toNat < b[k].toNat
  · rw [if_pos h1, cmpI_lt (by omega)]; rfl
  · rw [if_neg h1]
    by_cases h2 : b[k].toNat < a[k].toNat
    · rw [if_pos h2, cmpI_gt (by omega)]; rfl
    · rw [if_neg h2, cmpI_eq (by omega)]; rfl
theorem cmpS_end (a b : List UInt8) (k : Nat) (ha : k ≤ a.length) (hb : k ≤ b.length) (h : ¬ (k < a.length ∧ k < b.length)) : cmpS (a.drop k) (b.drop k) = cmpI a.length b.length := by
  by_cases h1 : k < a.length
  · have h2 : b.length ≤ k := by omega
    rw [List.drop_of_length_le h2, List.drop_eq_getElem_cons h1, cmpI_gt (by omega)]; rfl
  · rw [List.drop_of_length_le (by omega : a.length ≤ k)]
    by_cases h2 : k < b.length
    · rw [List.drop_eq_getElem_cons h2, cmpI_lt (by omega)]; rfl
    · rw [List.drop_of_length_le (by omega : b.length ≤ k), cmpI_eq (by omega)]; rfl
set_option maxHeartbeats 1000000 in
theorem c_ref04_Compare (x y : Val) (w : World) (hsx : x.s.length ≤ 4294967296) (hsy : y.s.length ≤ 4294967296) : Calls Try.prog 165 #[x.val, y.val] w (RetV w (.int .i64 (x.cmp y))) := by
  unfold Val.val
  by_cases h1 : x.kind = y.kind
  case neg =>
    have b1 : (x.kind != y.kind) = true := by simpa using h1
    have H : Hid (cmpI x.kind y.kind = x.cmp y) := by show _ = _; unfold Val.cmp; rw [if_pos (mt cmpI_zero.1 h1)]
    clear h1
    go_enter Try.func165, Try.ntmps165
    go_wp2_with (fail)
    refine (c_ref04_ahead _ _ _).mono ?_
    rintro e w1 ⟨rfl, hb1⟩
    go_wp2_with (fail)
    go_ret
    exact RetV.int H.out (by repeat (first | exact Below.refl _ _ | refine Below.drew ?_ | refine Below.alloc ?_ (by first | omega | (simp; done) | (simp; omega)) _ | refine Below.setCell ?_ (by first | omega | (simp; done) | (simp; omega)) _ | refine Below.trans ?_ (Below.mono (by assumption) (by first | omega | (simp; done) | (simp; omega)))))
  have b1 : (x.kind != y.kind) = false := by simpa using h1
  by_cases h2 : x.n = y.n
  case neg =>
    have b2 : (x.n != y.n) = true := by simpa using h2
    have H : Hid (cmpI x.n y.n = x.cmp y) := by show _ = _; unfold Val.cmp; rw [if_neg (by simp [cmpI_eq h1]), if_pos (mt cmpI_zero.1 h2)]
    clear h1 h2
    go_enter Try.func165, Try.ntmps165
    go_wp2_with (fail)
    refine (c_ref04_ahead _ _ _).mono ?_
    rintro e w1 ⟨rfl, hb1⟩
    go_wp2_with (fail)
    go_ret
    exact RetV.int H.out (by repeat (first | exact Below.refl _ _ | refine Below.drew ?_ | refine Below.alloc ?_ (by first | omega | (simp; done) | (simp; omega)) _ | refine Below.setCell ?_ (by first | omega | (simp; done) | (simp; omega)) _ | refine Below.trans ?_ (Below.mono (by assumption) (by first | omega | (simp; done) | (simp; omega)))))
  have b2 : (x.n != y.n) = false := by simpa using h2
  have H : Hid (cmpS (x.s.drop 0) (y.s.drop 0) = x.cmp y) := by show _ = _; unfold Val.cmp; rw [if_neg (by simp [cmpI_eq h1]), if_neg (by simp [cmpI_eq h2])]; simp
  clear h1 h2
  go_enter Try.func165, Try.ntmps165
  go_wp2_with (fail)
  go_loopw [5] (fun i wr => ∃ k : Nat, k ≤ x.s.length ∧ k ≤ y.s.length ∧ i = .int .i64 k ∧ Hid (cmpS (x.s.drop k) (y.s.drop k) = x.cmp y) ∧ w.heap.size + 1 < wr.heap.size ∧
      wr.cell? ⟨w.heap.size, 2, none⟩ = some (.string (str x.s)) ∧ wr.cell? ⟨w.heap.size + 1, 2, none⟩ = some (.string (str y.s)) ∧ Below w.heap.size w wr) (fun i _ => x.s.length - (intOf i).toNat)
  case atStart => exact ⟨0, by omega, by omega, rfl, H.out, by simp, by simp [go_sem], by simp [go_sem], (by repeat (first | exact Below.refl _ _ | refine Below.drew ?_ | refine Below.alloc ?_ (by first | omega | (simp; done) | (simp; omega)) _ | refine Below.setCell ?_ (by first | omega | (simp; done) | (simp; omega)) _ | refine Below.trans ?_ (Below.mono (by assumption) (by first | omega | (simp; done) | (simp; omega)))))⟩
  case round =>
    obtain ⟨k, hkx, hky, rfl, H, hsz, q1, q2, hbl⟩ := hrel
    by_cases hlt : k < x.s.length ∧ k < y.s.length
    · obtain ⟨hlx, hly⟩ := hlt
      have hH := H.out
      rw [cmpS_step _ _ k hlx hly] at hH
      have i0 : (0 : Int) ≤ (k : Int) := by omega
      have i1 : (k : Int) < (x.s.length : Int) := by omega
      have i2 : (k : Int) < (y.s.length : Int) := by omega
      have s1 : x.s[k]? = some x.s[k] := by simp [hlx]
      have s2 : y.s[k]? = some y.s[k] := by simp [hly]
      have hs1 : w.heap.size < wr.heap.size := by omega
      by_cases hx : cmpI x.s[k].toNat y.s[k].toNat = 0
      · have he : x.s[k] = y.s[k] := UInt8.toNat_inj.1 (by have := cmpI_zero.1 hx; omega)
        rw [if_neg (fun h => h hx)] at hH
        have HN := Lib.hid hH
        have bx : ((x.s[k].toNat : Int) != (y.s[k].toNat : Int)) = false := by rw [he]; simp
        clear hH H hx he
        go_wp2_with (fail)
        refine wp_region_grow (by kernel_rfl) (by kernel_rfl) ?_
        repeat (quiet_step ((first | fail)))
        refine wpQuiet_nil ?_
        intro w2 hb2
        have hz2 := hb2.size
        go_wp2_with (fail)
        go_roundw
        case rel => exact ⟨k + 1, by omega, by omega, by go_num, HN.out, by omega, by rw [hb2.cell (p := ⟨w.heap.size, 2, none⟩) hs1]; exact q1, by rw [hb2.cell (p := ⟨w.heap.size + 1, 2, none⟩) hsz]; exact q2, (by repeat (first | exact Below.refl _ _ | refine Below.drew ?_ | refine Below.alloc ?_ (by first | omega | (simp; done) | (simp; omega)) _ | refine Below.setCell ?_ (by first | omega | (simp; done) | (simp; omega)) _ | refine Below.trans ?_ (Below.mono (by assumption) (by first | omega | (simp; done) | (simp; omega)))))⟩
        case measure => simp [intOf]; omega
      · rw [if_pos hx] at hH
        have HN := Lib.hid hH
        have bx : ((x.s[k].toNat : Int) != (y.s[k].toNat : Int)) = true := by
          have := mt cmpI_zero.2 hx
          simpa using this
        clear hH H hx
        go_wp2_with (fail)
        refine wp_region_grow (by kernel_rfl) (by kernel_rfl) ?_
        repeat (quiet_step ((first | fail)))
        refine wpQuiet_nil ?_
        intro w2 hb2
        have hz2 := hb2.size
        have r1 : w2.cell? ⟨w.heap.size, 2, none⟩ = some (.string (str x.s)) := by rw [hb2.cell (p := ⟨w.heap.size, 2, none⟩) hs1]; exact q1
        have r2 : w2.cell? ⟨w.heap.size + 1, 2, none⟩ = some (.string (str y.s)) := by rw [hb2.cell (p := ⟨w.heap.size + 1, 2, none⟩) hsz]; exact q2
        have hs2 : w.heap.size < w2.heap.size := by omega
        have hs3 : w.heap.size + 1 < w2.heap.size := by omega
        go_wp2_with (fail)
        refine wp_region_grow (by kernel_rfl) (by kernel_rfl) ?_
        repeat (quiet_step ((first | (go_at_call 186; exact quiet_grow (c_ref04_ahead _ _ _)))))
        refine wpQuiet_nil ?_
        intro w3 hb3
        have t1 : IntKind.i64.wrap (x.s[k].toNat : Int) = x.s[k].toNat := by rw [IntKind.wrap_i64]; have := x.s[k].toNat_lt; omega
        have t2 : IntKind.i64.wrap (y.s[k].toNat : Int) = y.s[k].toNat := by rw [IntKind.wrap_i64]; have := y.s[k].toNat_lt; omega
        go_wp2_with (fail)
        go_ret
        exact RetV.int (by first | exact HN.out | (rw [t1, t2]; exact HN.out)) (by repeat (first | exact Below.refl _ _ | refine Below.drew ?_ | refine Below.alloc ?_ (by first | omega | (simp; done) | (simp; omega)) _ | refine Below.setCell ?_ (by first | omega | (simp; done) | (simp; omega)) _ | refine Below.trans ?_ (Below.mono (by assumption) (by first | omega | (simp; done) | (simp; omega)))))
    · have hH := H.out
      rw [cmpS_end _ _ k hkx hky hlt] at hH
      have HN := Lib.hid hH
      clear hH H
      have hs1 : w.heap.size < wr.heap.size := by omega
      by_cases hlx : k < x.s.length
      · have hly : ¬ k < y.s.length := fun h => hlt ⟨hlx, h⟩
        clear hlt
        go_wp2_with (fail)
        refine (c_ref04_ahead _ _ _).mono ?_
        rintro e w3 ⟨rfl, hb3⟩
        go_wp2_with (fail)
        go_ret
        exact RetV.int HN.out (by repeat (first | exact Below.refl _ _ | refine Below.drew ?_ | refine Below.alloc ?_ (by first | omega | (simp; done) | (simp; omega)) _ | refine Below.setCell ?_ (by first | omega | (simp; done) | (simp; omega)) _ | refine Below.trans ?_ (Below.mono (by assumption) (by first | omega | (simp; done) | (simp; omega)))))
      · clear hlt
        go_wp2_with (fail)
        refine (c_ref04_ahead _ _ _).mono ?_
        rintro e w3 ⟨rfl, hb3⟩
        go_wp2_with (fail)
        go_ret
        exact RetV.int HN.out (by repeat (first | exact Below.refl _ _ | refine Below.drew ?_ | refine Below.alloc ?_ (by first | omega | (simp; done) | (simp; omega)) _ | refine Below.setCell ?_ (by first | omega | (simp; done) | (simp; omega)) _ | refine Below.trans ?_ (Below.mono (by assumption) (by first | omega | (simp; done) | (simp; omega)))))
end Go.Proofs.Ytldoedmclfbgpaa
namespace Go.Proofs.Ytldoedmclfbgpaa
open Go.RowKit

theorem Val.less_no {a b : Val} (h : ¬ (a.kind = b.kind ∧ (a.kind = 1 ∨ a.kind = 2))) : a.less b = false := by
  unfold Val.less
  rw [Bool.and_eq_false_iff]
  left
  rw [Bool.and_eq_false_iff, Bool.or_eq_false_iff]
  simp only [decide_eq_false_iff_not]
  omega
theorem Val.less_yes {a b : Val} (h : a.kind = b.kind ∧ (a.kind = 1 ∨ a.kind = 2)) : a.less b = decide (a.cmp b < 0) := by
  unfold Val.less
  have h1 : decide (a.kind = b.kind) = true := by simpa using h.1
  have h2 : (decide (a.kind = 1) || decide (a.kind = 2)) = true := by simpa using h.2
  rw [h1, h2]; rfl
set_option maxHeartbeats 1000000 in
theorem c_value_Less (x y : Val) (w : World) : Calls Try.prog 149 #[x.val, y.val] w (RetV w (.bool (x.less y))) := by
  have CC := Lib.hid (fun w' => c_value_Compare x y w')
  unfold Val.val at CC ⊢
  by_cases h : x.kind = y.kind ∧ (x.kind = 1 ∨ x.kind = 2)
  · have H := Lib.hid (Val.less_yes h)
    have j1 : (x.kind != y.kind) = false := by simpa using h.1
    rcases h.2 with g | g
    · have j2 : (x.kind != 1) = false := by simpa using g
      clear h g
      go_enter Try.func149, Try.ntmps149
      go_wp2_with (fail)
      refine (CC.out _).mono ?_
      rintro e w1 ⟨rfl, hb1⟩
      go_wp2_with (fail)
      go_ret
      exact RetV.bool H.out.symm (by repeat (first | exact Below.refl _ _ | refine Below.drew ?_ | refine Below.alloc ?_ (by first | omega | (simp; done) | (simp; omega)) _ | refine Below.setCell ?_ (by first | omega | (simp; done) | (simp; omega)) _ | refine Below.trans ?_ (Below.mono (by assumption) (by first | omega | (simp; done) | (simp; omega)))))
    · have j2 : (x.kind != 1) = true := by simp; omega
      have j3 : (x.kind != 2) = false := by simpa using g
      clear h g
      go_enter Try.func149, Try.ntmps149
      go_wp2_with (fail)
      refine (CC.out _).mono ?_
      rintro e w1 ⟨rfl, hb1⟩
      go_wp2_with (fail)
      go_ret
      exact RetV.bool H.out.symm (by repeat (first | exact Below.refl _ _ | refine Below.drew ?_ | refine Below.alloc ?_ (by first | omega | (simp; done) | (simp; omega)) _ | refine Below.setCell ?_ (by first | omega | (simp; done) | (simp; omega)) _ | refine Below.trans ?_ (Below.mono (by assumption) (by first | omega | (simp; done) | (simp; omega)))))
  · rw [Val.less_no h]
    by_cases h1 : x.kind = y.kind
    · have j1 : (x.kind != y.kind) = false := by simpa using h1
      have j2 : (x.kind != 1) = true := by simp; omega
      have j3 : (x.kind != 2) = true := by simp; omega
      clear h h1
      go_enter Try.func149, Try.ntmps149
      go_wp2_with (fail)
      go_ret
      exact RetV.bool rfl (by repeat (first | exact Below.refl _ _ | refine Below.drew ?_ | refine Below.alloc ?_ (by first | omega | (simp; done) | (simp; omega)) _ | refine Below.setCell ?_ (by first | omega | (simp; done) | (simp; omega)) _ | refine Below.trans ?_ (Below.mono (by assumption) (by first | omega | (simp; done) | (simp; omega)))))
    · have j1 : (x.kind != y.kind) = true := by simpa using h1
      clear h h1
      go_enter Try.func149, Try.ntmps149
      go_wp2_with (fail)
      go_ret
      exact RetV.bool rfl (by repeat (first | exact Below.refl _ _ | refine Below.drew ?_ | refine Below.alloc ?_ (by first | omega | (simp; done) | (simp; omega)) _ | refine Below.setCell ?_ (by first | omega | (simp; done) | (simp; omega)) _ | refine Below.trans ?_ (Below.mono (by assumption) (by first | omega | (simp; done) | (simp; omega)))))
set_option maxHeartbeats 1000000 in
theorem c_ref04_Less (x y : Val) (w : World) (hsx : x.s.length ≤ 4294967296) (hsy : y.s.length ≤ 4294967296) : Calls Try.prog 118 #[x.val, y.val] w (RetV w (.bool (x.less y))) := by
  have CC := Lib.hid (fun w' => c_ref04_Compare x y w' hsx hsy)
  unfold Val.val at CC ⊢
  by_cases h : x.kind = y.kind ∧ (x.kind = 1 ∨ x.kind = 2)
  · have H := Lib.hid (Val.less_yes h)
    have j1 : (x.kind == y.kind) = true := by simpa using h.1
    rcases h.2 with g | g
    · have j2 : (x.kind == 1) = true := by simpa using g
      clear h g
      go_enter Try.func118, Try.ntmps118
      go_wp2_with (fail)
      refine (CC.out _).mono ?_
      rintro e w1 ⟨rfl, hb1⟩
      go_wp2_with (fail)
      go_ret
      exact RetV.bool H.out.symm (by repeat (first | exact Below.refl _ _ | refine Below.drew ?_ | refine Below.alloc ?_ (by first | omega | (simp; done) | (simp; omega)) _ | refine Below.setCell ?_ (by first | omega | (simp; done) | (simp; omega)) _ | refine Below.trans ?_ (Below.mono (by assumption) (by first | omega | (simp; done) | (simp; omega)))))
    · have j2 : (x.kind == 1) = false := by simp; omega
      have j3 : (x.kind == 2) = true := by simpa using g
      clear h g
      go_enter Try.func118, Try.ntmps118
      go_wp2_with (fail)
      refine (CC.out _).mono ?_
      rintro e w1 ⟨rfl, hb1⟩
      go_wp2_with (fail)
      go_ret
      exact RetV.bool H.out.symm (by repeat (first | exact Below.refl _ _ | refine Below.drew ?_ | refine Below.alloc ?_ (by first | omega | (simp; done) | (simp; omega)) _ | refine Below.setCell ?_ (by first | omega | (simp; done) | (simp; omega)) _ | refine Below.trans ?_ (Below.mono (by assumption) (by first | omega | (simp; done) | (simp; omega)))))
  · rw [Val.less_no h]
    by_cases h1 : x.kind = y.kind
    · have j1 : (x.kind == y.kind) = true := by simpa using h1
      have j2 : (x.kind == 1) = false := by simp; omega
      have j3 : (x.kind == 2) = false := by simp; omega
      clear h h1
      go_enter Try.func118, Try.ntmps118
      go_wp2_with (fail)
      go_ret
      exact RetV.bool rfl (by repeat (first | exact Below.refl _ _ | refine Below.drew ?_ | refine Below.alloc ?_ (by first | omega | (simp; done) | (simp; omega)) _ | refine Below.setCell ?_ (by first | omega | (simp; done) | (simp; omega)) _ | refine Below.trans ?_ (Below.mono (by assumption) (by first | omega | (simp; done) | (simp; omega)))))
    · have j1 : (x.kind == y.kind) = false := by simpa using h1
      clear h h1
      go_enter Try.func118, Try.ntmps118
      go_wp2_with (fail)
      go_ret
      exact RetV.bool rfl (by repeat (first | exact Below.refl _ _ | refine Below.drew ?_ | refine Below.alloc ?_ (by first | omega | (simp; done) | (simp; omega)) _ | refine Below.setCell ?_ (by first | omega | (simp; done) | (simp; omega)) _ | refine Below.trans ?_ (Below.mono (by assumption) (by first | omega | (simp; done) | (simp; omega)))))
theorem lowC_nat (c : UInt8) : ((lowC c).toNat : Int) = if 65 ≤ c.toNat ∧ c.toNat ≤ 90 then (c.toNat : Int) + 32 else c.toNat := by
  unfold lowC
  have := c.toNat_lt
  split
  · rw [UInt8.toNat_ofNat']; omega
  · rfl
set_option maxHeartbeats 400000 in
theorem c_ref04_low (c : UInt8) (w : World) : Calls Try.prog 187 #[.int .u8 c.toNat] w (RetV w (.int .u8 (lowC c).toNat)) := by
  have hc := c.toNat_lt
  have H := Lib.hid (lowC_nat c)
  go_enter Try.func187, Try.ntmps187
  go_wp2_with (fail)
  all_goals (go_ret; refine RetV.int ?_ (by repeat (first | exact Below.refl _ _ | refine Below.drew ?_ | refine Below.alloc ?_ (by first | omega | (simp; done) | (simp; omega)) _ | refine Below.setCell ?_ (by first | omega | (simp; done) | (simp; omega)) _ | refine Below.trans ?_ (Below.mono (by assumption) (by first | omega | (simp; done) | (simp; omega))))); rw [H.out]; split <;> omega)
end Go.Proofs.Ytldoedmclfbgpaa
namespace Go.Proofs.Ytldoedmclfbgpaa
open Go.RowKit

/-- Bytes in a block that may be written. -/
def WrB (W : World) (e : TypeId) (b : Nat) (l : List UInt8) : Prop :=
  ∃ cs lo hi, W.heap[b]? = some (.cells cs e (lo, hi)) ∧ l.length ≤ lo ∧ ∀ i (h : i < l.length), cs[i]? = some (.int .u8 l[i].toNat)
theorem WrB.lt {W : World} {e : TypeId} {b : Nat} {l : List UInt8} (h : WrB W e b l) : b < W.heap.size := by
  obtain ⟨cs, lo, hi, h1, _⟩ := h
  exact (Array.getElem?_eq_some_iff.1 h1).1
theorem WrB.cell {W : World} {e : TypeId} {b : Nat} {l : List UInt8} (h : WrB W e b l) {k : Nat} (hk : k < l.length) : W.cell? ⟨b, k, none⟩ = some (.int .u8 l[k].toNat) := by
  obtain ⟨cs, lo, hi, h1, _, h3⟩ := h
  have := h3 k hk
  simp [World.cell?, h1, this]
theorem WrB.frozen {W : World} {e : TypeId} {b : Nat} {l : List UInt8} (h : WrB W e b l) {k : Nat} (hk : k < l.length) : W.frozen? ⟨b, k, none⟩ = false := by
  obtain ⟨cs, lo, hi, h1, h2, _⟩ := h
  simp [World.frozen?, h1]
  omega
theorem WrB.set {W : World} {e : TypeId} {b : Nat} {l : List UInt8} (h : WrB W e b l) (k : Nat) (x : UInt8) : WrB (W.setCell ⟨b, k, none⟩ (.int .u8 x.toNat)) e b (l.set k x) := by
  have hlt := h.lt
  obtain ⟨cs, lo, hi, h1, h2, h3⟩ := h
  have he : (W.setCell ⟨b, k, none⟩ (.int .u8 x.toNat)).heap[b]? = some (.cells (cs.setIfInBounds k (.int .u8 x.toNat)) e (lo, hi)) := by
    show (W.heap.modify b _)[b]? = _
    rw [Array.getElem?_eq_getElem (by rw [Array.size_modify]; exact hlt), Array.getElem_modify_self]
    rw [Array.getElem?_eq_getElem hlt] at h1
    injection h1 with h1
    rw [h1]; rfl
  refine ⟨_, lo, hi, he, by rw [List.length_set]; exact h2, fun i hi => ?_⟩
  rw [List.length_set] at hi
  have := h3 i hi
  rw [Array.getElem?_setIfInBounds]
  by_cases hik : k = i
  · subst hik
    rw [if_pos rfl, if_pos (Array.getElem?_eq_some_iff.1 this).1, List.getElem_set_self]
  · rw [if_neg hik, this, List.getElem_set_ne hik]
theorem WrB.below {W W' : World} {e : TypeId} {b : Nat} {l : List UInt8} (h : WrB W e b l) (hb : Below W.heap.size W W') : WrB W' e b l := by
  have hlt := h.lt
  obtain ⟨cs, lo, hi, h1, h2⟩ := h
  exact ⟨cs, lo, hi, (hb.block b hlt).trans h1, h2⟩
theorem WrB.reads {W : World} {e : TypeId} {b c : Nat} {l : List UInt8} (h : WrB W e b l) (h1 : l.length ≤ c) (h2 : c ≤ 9223372036854775807) (h3 : l.length ≤ 4294967296) : InB W (some ⟨b, 0, none⟩) c l := by
  refine ⟨h1, h2, h3, .inr ⟨b, 0, rfl, h.lt, fun i hi j u hu => ?_⟩⟩
  have hj : j < 1 := (List.getElem?_eq_some_iff.1 hu).1
  have h0 : j = 0 := by omega
  subst h0
  simp only [bc, List.getElem?_cons_zero, Option.some.injEq] at hu
  rw [show 0 + i * 1 + 0 = i by omega, ← hu]
  exact h.cell hi
theorem wpList_strbytesW {P : Program} {w : World} {ops : Array Oper} {rest : List Oper} {o : Oper} {a : Act} {Q : Exit → Act → World → Prop} (hgd : o.guard = none) (src dst : TypeId) (x : Operand) (ho : o.op = .convert src dst x)
    {e : TypeId} (hs : P.underlying src = some .string) (hd : P.underlying dst = some (.slice e)) (he : P.underlying e = some (.int .u8)) (l : List UInt8) (hx : a.eval x = .string (str l)) (hl : l.length ≤ 4294967296)
    (h : ∀ c w', l.length ≤ c → c ≤ 9223372036854775807 → Below w.heap.size w w' → w'.heap.size = w.heap.size + 1 → WrB w' e w.heap.size l → wpList P ops Q rest (a.put o.dst (.slice (some ⟨w.heap.size, 0, none⟩) l.length c)) w') : wpList P ops Q (o :: rest) a w := by
  refine wpList_plain hgd fun K hK => ?_
  have hrun := run_bytes_of_string (P := P) w src dst e (str l) hs hd he
  have hge := grownCap_ge w (str l).size 0 e
  have hcm := grownCap_le_maxLen w (str l).size 0 e (by rw [str_size]; unfold maxLen; omega)
  rw [str_size] at hrun hge hcm
  unfold Oper.wp execOp
  simp only [ho, hx, hrun, Sem.run_bind, Sem.run_pure, Result.andThen_ok]
  refine hK _ _ (h _ _ hge (by unfold maxLen at hcm; omega) (((Below.refl _ _).drew).alloc (Nat.le_refl _) _) (World.size_alloc _ _) ⟨_, _, _, heap_alloc_new w.drew _, ?_, fun i hi => ?_⟩)
  · have e : (bytesRow (str l) (grownCap w l.length 0 e)).size = l.length + (grownCap w l.length 0 e - l.length) := by
      unfold bytesRow
      rw [Array.size_append, Array.size_map, Array.size_replicate, str_size]
      show l.toArray.size + _ = _
      simp
    omega
  · have hb := bytesRow_at (str l) (grownCap w l.length 0 e) i (by show i < l.toArray.size; simpa using hi)
    rw [hb]
    rfl
theorem fold_snoc {s : List UInt8} {k : Nat} (hk : k < s.length) : fold (s.take (k + 1)) = fold (s.take k) ++ [lowC s[k]] := by
  unfold fold
  rw [List.take_succ_eq_append_getElem hk, List.map_append]; rfl
/-- A text of which the first bytes have been made small. -/
def foldTo (s : List UInt8) (k : Nat) : List UInt8 := fold (s.take k) ++ s.drop k
theorem foldTo_len (s : List UInt8) {k : Nat} (hk : k ≤ s.length) : (foldTo s k).length = s.length := by unfold foldTo; rw [List.length_append, fold_len, List.length_take, List.length_drop]; omega
theorem foldTo_get (s : List UInt8) {k : Nat} (hk : k < s.length) : (foldTo s k)[k]'(by rw [foldTo_len s (by omega)]; exact hk) = s[k] := by
  unfold foldTo
  rw [List.getElem_append_right (by rw [fold_len, List.length_take]; omega)]
  simp [fold_len, List.length_take, Nat.min_eq_left (Nat.le_of_lt hk)]
theorem foldTo_set (s : List UInt8) {k : Nat} (hk : k < s.length) : (foldTo s k).set k (lowC s[k]) = foldTo s (k + 1) := by
  unfold foldTo
  have hl : (fold (s.take k)).length = k := by rw [fold_len, List.length_take]; omega
  rw [List.set_append_right _ _ (by omega), hl, Nat.sub_self, List.drop_eq_getElem_cons hk, List.set_cons_zero, fold_snoc hk, List.append_assoc]; rfl
theorem foldTo_same (s : List UInt8) {k : Nat} (hk : k < s.length) (h : lowC s[k] = s[k]) : foldTo s k = foldTo s (k + 1) := by
  unfold foldTo
  rw [List.drop_eq_getElem_cons hk, fold_snoc hk, h, List.append_assoc]; rfl
theorem foldTo_end (s : List UInt8) : foldTo s s.length = fold s := by unfold foldTo; rw [List.take_length, List.drop_length, List.append_nil]
set_option maxHeartbeats 1000000 in
theorem c_ref04_Fold (s : List UInt8) (w : World) (hs : s.length ≤ 1000000) : Calls Try.prog 166 #[.string (str s)] w (RetV w (.string (str (fold s)))) := by
  have kc := fun (w : World) (x : Int) => conv_one (P := Try.prog) w (src := 27) (dst := 9) (e := 5) Try.underlying27 Try.underlying5 Try.underlying9 x
  go_enter Try.func166, Try.ntmps166
  go_wp2_with (fail)
  rw [show ({ data := #[] } : ByteArray) = str [] from rfl]
  go_loopw [3, 4] (fun t i wr => ∃ (k : Nat) (acc : List UInt8), k ≤ s.length ∧ i = .int .i64 k ∧ t = .string (str acc) ∧ Hid (acc = fold (s.take k)) ∧ Hid (Below w.heap.size w wr)) (fun _ i _ => s.length - (intOf i).toNat)
  case atStart => exact ⟨0, [], by omega, rfl, rfl, rfl, Below.refl _ _⟩
  case round =>
    obtain ⟨k, acc, hk, rfl, rfl, H, B1⟩ := hrel
    have hal : acc.length ≤ 1000000 := by rw [H.out, fold_len, List.length_take]; omega
    by_cases hlt : k < s.length
    · have d1 : decide (k < s.length) = true := by simpa using hlt
      have H2 := Lib.hid (show acc ++ [lowC s[k]] = fold (s.take (k + 1)) by rw [H.out, fold_snoc hlt])
      have CL := Lib.hid (fun w' => c_ref04_low s[k] w')
      clear H
      go_wp2_with (fail)
      refine (CL.out _).mono ?_
      rintro e w2 ⟨rfl, hb2⟩
      have B2 := Lib.hid (B1.out.trans (hb2.mono B1.out.size))
      have hz2 := B2.out.size
      clear hb2
      go_wp2_with (fail)
      go_roundw
      case rel => exact ⟨k + 1, _, by omega, by go_num, by first | rfl | (simp; done), H2.out, B2.out.alloc hz2 _⟩
      case measure => simp [intOf]; omega
    · have d1 : decide (k < s.length) = false := by simpa using hlt
      have H2 := Lib.hid (show acc = fold s by rw [H.out, List.take_of_length_le (by omega)])
      clear hlt H
      go_wp2_with (fail)
      go_ret
      exact RetV.str H2.out B1.out
set_option maxHeartbeats 1000000 in
set_option maxRecDepth 4000 in
theorem c_value_Fold (s : List UInt8) (w : World) (hs : s.length ≤ 1000000) : Calls Try.prog 178 #[.string (str s)] w (RetV w (.string (str (fold s)))) := by
  go_enter Try.func178, Try.ntmps178
  go_wp2_with (with_reducible refine stop_conv 9 27 (.tmp 6) rfl rfl ?_)
  refine Stop.mk (wpList_strbytesW rfl _ _ (.tmp 6) rfl Try.underlying9 Try.underlying27 Try.underlying5 s rfl (by omega) ?_)
  intro c w1 hc1 hc2 hb1 hz1 hwr
  have B1 := Lib.hid hb1
  have W1 := Lib.hid hwr
  clear hb1 hwr
  go_wp2_with (fail)
  go_loopw [4, 5, 10] (fun _ _ i wr => ∃ k : Nat, k ≤ s.length ∧ i = .int .i64 k ∧ Hid (WrB wr 5 w.heap.size (foldTo s k)) ∧ Hid (Below w.heap.size w wr)) (fun _ _ i _ => s.length - (intOf i).toNat)
  case atStart => exact ⟨0, by omega, rfl, by show WrB _ _ _ _; unfold foldTo; simpa [fold] using W1.out, B1.out⟩
  case round =>
    obtain ⟨k, hk, rfl, HW, HB⟩ := hrel
    by_cases hlt : k < s.length
    · have hlen := foldTo_len s hk
      have hb0 := HW.out.lt
      have e0 := HW.out.cell (k := k) (by omega)
      rw [foldTo_get s hlt] at e0
      have f0 := HW.out.frozen (k := k) (by omega)
      have h256 := s[k].toNat_lt
      obtain ⟨x, hx⟩ : ∃ x, x = s[k] := ⟨_, rfl⟩
      rw [← hx] at e0 h256
      have HX := Lib.hid hx
      clear hx hlen
      have hk0 : (0 : Int) ≤ (k : Int) := by omega
      have hk1 : (k : Int) < (s.length : Int) := by omega
      by_cases h1 : 65 ≤ x.toNat
      · by_cases h2 : x.toNat ≤ 90
        · have d1 : decide ((65 : Int) ≤ (x.toNat : Int)) = true := by simp; omega
          have d2 : decide ((x.toNat : Int) ≤ 90) = true := by simp; omega
          have HL := Lib.hid (show (x.toNat : Int) + 97 - 65 = ((lowC x).toNat : Int) by rw [lowC_nat, if_pos ⟨h1, h2⟩]; omega)
          go_wp2_with (fail)
          go_roundw
          case rel =>
            refine ⟨k + 1, by omega, by go_num, ?_, HB.out.setCell (by simp) _⟩
            show WrB _ _ _ _
            rw [← foldTo_set s hlt, ← HX.out, HL.out]
            exact HW.out.set k _
          case measure => simp [intOf]; omega
        · have d1 : decide ((65 : Int) ≤ (x.toNat : Int)) = true := by simp; omega
          have d2 : decide ((x.toNat : Int) ≤ 90) = false := by simp; omega
          go_wp2_with (fail)
          go_roundw
          case rel =>
            refine ⟨k + 1, by omega, by go_num, ?_, HB.out⟩
            show WrB _ _ _ _
            rw [← foldTo_same s hlt (by rw [← HX.out]; unfold lowC; rw [if_neg (by omega)])]
            exact HW.out
          case measure => simp [intOf]; omega
      · have d1 : decide ((65 : Int) ≤ (x.toNat : Int)) = false := by simp; omega
        go_wp2_with (fail)
        go_roundw
        case rel =>
          refine ⟨k + 1, by omega, by go_num, ?_, HB.out⟩
          show WrB _ _ _ _
          rw [← foldTo_same s hlt (by rw [← HX.out]; unfold lowC; rw [if_neg (by omega)])]
          exact HW.out
        case measure => simp [intOf]; omega
    · obtain rfl : k = s.length := by omega
      have HS := Lib.hid (foldTo_end s)
      have hle := foldTo_len s (Nat.le_refl s.length)
      have kc := conv_str (P := Try.prog) wr Try.underlying27 Try.underlying5 Try.underlying9 (HW.out.reads (c := c) (by omega) hc2 (by omega))
      rw [hle, HS.out] at kc
      clear hlt hle
      go_wp2_with (fail)
      go_ret
      exact RetV.str rfl HB.out
end Go.Proofs.Ytldoedmclfbgpaa
namespace Go.Proofs.Ytldoedmclfbgpaa
open Go.RowKit

/-- Does a text stand in another one? -/
def Val.holds (v p : Val) : Bool := decide (v.kind = 2) && decide (p.kind = 2) && Lib.contains (fold v.s) (fold p.s)
theorem Val.holds_no {v p : Val} (h : ¬ (v.kind = 2 ∧ p.kind = 2)) : v.holds p = false := by
  unfold Val.holds
  rw [Bool.and_eq_false_iff]
  left
  rw [Bool.and_eq_false_iff, decide_eq_false_iff_not, decide_eq_false_iff_not]
  omega
theorem Val.holds_yes {v p : Val} (h1 : v.kind = 2) (h2 : p.kind = 2) : v.holds p = Lib.contains (fold v.s) (fold p.s) := by
  unfold Val.holds
  rw [decide_eq_true h1, decide_eq_true h2]; rfl
theorem occ_take (a b : List UInt8) (i : Nat) : Lib.occAt a b i = decide ((a.drop i).take b.length = b) := by
  unfold Lib.occAt
  rw [Bool.eq_iff_iff, List.isPrefixOf_iff_prefix, List.prefix_iff_eq_take, decide_eq_true_eq]
  exact ⟨Eq.symm, Eq.symm⟩
set_option maxHeartbeats 1000000 in
theorem c_value_Holds (x y : Val) (w : World) (hM : MaxV w) (hx : x.s.length ≤ 1000000) (hy : y.s.length ≤ 1000000) : Calls Try.prog 152 #[x.val, y.val] w (RetV w (.bool (x.holds y))) := by
  have HM := Lib.hid (fun w' (hb : Below w.heap.size w w') => hM.below hb)
  have hfx := fold_len x.s
  unfold Val.val
  by_cases h1 : x.kind = 2
  · have j1 : (x.kind == 2) = true := by simpa using h1
    by_cases h2 : y.kind = 2
    · have j2 : (y.kind == 2) = true := by simpa using h2
      have H := Lib.hid (Val.holds_yes h1 h2)
      clear h1 h2
      go_enter Try.func152, Try.ntmps152
      go_wp2_with (fail)
      refine wp_region_grow (by kernel_rfl) (by kernel_rfl) ?_
      repeat (quiet_step ((first | (go_at_call 178; exact quiet_grow (c_value_Fold _ _ (by omega))) | (go_at_call 177; exact quiet_grow (c_Contains _ _ _ (HM.out _ (Below.trans (by repeat (first | exact Below.refl _ _ | refine Below.drew ?_ | refine Below.alloc ?_ (by first | omega | (simp; done) | (simp; omega)) _ | refine Below.setCell ?_ (by first | omega | (simp; done) | (simp; omega)) _ | refine Below.trans ?_ (Below.mono (by assumption) (by first | omega | (simp; done) | (simp; omega))))) ((grow_below _ _).mono (by simp; omega)))) (by omega))))))
      refine wpQuiet_nil ?_
      intro w2 hb2
      go_wp2_with (fail)
      go_ret
      exact RetV.bool H.out.symm (Below.trans (by repeat (first | exact Below.refl _ _ | refine Below.drew ?_ | refine Below.alloc ?_ (by first | omega | (simp; done) | (simp; omega)) _ | refine Below.setCell ?_ (by first | omega | (simp; done) | (simp; omega)) _ | refine Below.trans ?_ (Below.mono (by assumption) (by first | omega | (simp; done) | (simp; omega))))) (hb2.mono (by simp; omega)))
    · have j2 : (y.kind == 2) = false := by simpa using h2
      rw [Val.holds_no (fun h => h2 h.2)]
      clear h1 h2
      go_enter Try.func152, Try.ntmps152
      go_wp2_with (fail)
      refine wp_region_grow (by kernel_rfl) (by kernel_rfl) ?_
      repeat (quiet_step ((first | (fail))))
      refine wpQuiet_nil ?_
      intro w2 hb2
      go_wp2_with (fail)
      go_ret
      exact RetV.bool rfl (Below.trans (by repeat (first | exact Below.refl _ _ | refine Below.drew ?_ | refine Below.alloc ?_ (by first | omega | (simp; done) | (simp; omega)) _ | refine Below.setCell ?_ (by first | omega | (simp; done) | (simp; omega)) _ | refine Below.trans ?_ (Below.mono (by assumption) (by first | omega | (simp; done) | (simp; omega))))) (hb2.mono (by simp; omega)))
  · have j1 : (x.kind == 2) = false := by simpa using h1
    rw [Val.holds_no (fun h => h1 h.1)]
    clear h1
    go_enter Try.func152, Try.ntmps152
    go_wp2_with (fail)
    refine wp_region_grow (by kernel_rfl) (by kernel_rfl) ?_
    repeat (quiet_step ((first | (fail))))
    refine wpQuiet_nil ?_
    intro w2 hb2
    go_wp2_with (fail)
    go_ret
    exact RetV.bool rfl (Below.trans (by repeat (first | exact Below.refl _ _ | refine Below.drew ?_ | refine Below.alloc ?_ (by first | omega | (simp; done) | (simp; omega)) _ | refine Below.setCell ?_ (by first | omega | (simp; done) | (simp; omega)) _ | refine Below.trans ?_ (Below.mono (by assumption) (by first | omega | (simp; done) | (simp; omega))))) (hb2.mono (by simp; omega)))
set_option maxHeartbeats 1000000 in
set_option maxRecDepth 4000 in
theorem c_ref04_Holds (x y : Val) (w : World) (hx : x.s.length ≤ 1000000) (hy : y.s.length ≤ 1000000) : Calls Try.prog 119 #[x.val, y.val] w (RetV w (.bool (x.holds y))) := by
  have hfx := fold_len x.s
  have hfy := fold_len y.s
  unfold Val.val
  by_cases h1 : x.kind = 2
  · have j1 : (x.kind != 2) = false := by simpa using h1
    by_cases h2 : y.kind = 2
    · have j2 : (y.kind != 2) = false := by simpa using h2
      have H := Lib.hid (Val.holds_yes h1 h2)
      clear h1 h2
      go_enter Try.func119, Try.ntmps119
      go_wp2_with (fail)
      refine wp_region_grow (by kernel_rfl) (by kernel_rfl) ?_
      repeat (quiet_step ((first | (go_at_call 166; exact quiet_grow (c_ref04_Fold _ _ (by omega))))))
      refine wpQuiet_nil ?_
      intro w2 hb2
      have B2 := Lib.hid (show Below w.heap.size w w2 from Below.trans (by repeat (first | exact Below.refl _ _ | refine Below.drew ?_ | refine Below.alloc ?_ (by first | omega | (simp; done) | (simp; omega)) _ | refine Below.setCell ?_ (by first | omega | (simp; done) | (simp; omega)) _ | refine Below.trans ?_ (Below.mono (by assumption) (by first | omega | (simp; done) | (simp; omega))))) (hb2.mono (by simp; omega)))
      clear hb2
      obtain ⟨a, ha⟩ : ∃ a, a = fold x.s := ⟨_, rfl⟩
      obtain ⟨b, hb⟩ : ∃ b, b = fold y.s := ⟨_, rfl⟩
      replace H := Lib.hid (by have := H.out; rw [← ha, ← hb] at this; exact this)
      rw [← ha] at hfx
      rw [← hb] at hfy
      have hla : a.length ≤ 1000000 := by omega
      have hlb : b.length ≤ 1000000 := by omega
      rw [← ha, ← hb]
      clear ha hb hfx hfy hx hy
      go_wp2_with (fail)
      go_loop [7] (fun i => ∃ k : Nat, i = .int .i64 k ∧ k ≤ a.length + 1 ∧ Hid (Lib.NoOcc a b k)) (fun i => a.length + 1 - (intOf i).toNat)
      case atStart => exact ⟨0, rfl, by omega, Lib.NoOcc.zero _ _⟩
      case round =>
        obtain ⟨k, rfl, hk, N⟩ := hrel
        have O := Lib.hid (occ_take a b k)
        by_cases hr : k + b.length ≤ a.length
        · have d1 : decide ((k : Int) ≤ (a.length : Int) - (b.length : Int)) = true := by simp; omega
          have hk0 : (0 : Int) ≤ (k : Int) := by omega
          cases q : ((a.drop k).take b.length == b)
          · have NX := Lib.hid (show Lib.occAt a b k = false by
              rw [O.out, decide_eq_false_iff_not]
              intro e
              rw [e] at q
              simp at q)
            go_wp2_with (fail)
            go_round
            case rel => exact ⟨k + 1, by go_num, by omega, N.out.succ NX.out⟩
            case measure => simp [intOf]; omega
          · have HY := Lib.hid (show Lib.contains a b = true by
              have e : (a.drop k).take b.length = b := by simpa using q
              have hi := Lib.index_hit N.out (by omega) (by rw [O.out, decide_eq_true e])
              unfold Lib.contains
              rw [hi]
              simp)
            go_wp2_with (fail)
            go_ret
            exact RetV.bool (by rw [H.out, HY.out]) B2.out
        · have d1 : decide ((k : Int) ≤ (a.length : Int) - (b.length : Int)) = false := by simp; omega
          have HN := Lib.hid (show Lib.contains a b = false by
            have hi : Lib.index a b = -1 := Lib.index_none fun j hj => by
              by_cases hjk : j < k
              · exact N.out j hjk
              · rw [occ_take, decide_eq_false_iff_not]
                intro e
                have := congrArg List.length e
                rw [List.length_take, List.length_drop] at this
                omega
            unfold Lib.contains
            rw [hi]
            rfl)
          go_wp2_with (fail)
          go_ret
          exact RetV.bool (by rw [H.out, HN.out]) B2.out
    · have j2 : (y.kind != 2) = true := by simpa using h2
      rw [Val.holds_no (fun h => h2 h.2)]
      clear h1 h2
      go_enter Try.func119, Try.ntmps119
      go_wp2_with (fail)
      go_ret
      exact RetV.bool rfl (by repeat (first | exact Below.refl _ _ | refine Below.drew ?_ | refine Below.alloc ?_ (by first | omega | (simp; done) | (simp; omega)) _ | refine Below.setCell ?_ (by first | omega | (simp; done) | (simp; omega)) _ | refine Below.trans ?_ (Below.mono (by assumption) (by first | omega | (simp; done) | (simp; omega)))))
  · have j1 : (x.kind != 2) = true := by simpa using h1
    rw [Val.holds_no (fun h => h1 h.1)]
    clear h1
    go_enter Try.func119, Try.ntmps119
    go_wp2_with (fail)
    go_ret
    exact RetV.bool rfl (by repeat (first | exact Below.refl _ _ | refine Below.drew ?_ | refine Below.alloc ?_ (by first | omega | (simp; done) | (simp; omega)) _ | refine Below.setCell ?_ (by first | omega | (simp; done) | (simp; omega)) _ | refine Below.trans ?_ (Below.mono (by assumption) (by first | omega | (simp; done) | (simp; omega)))))
end Go.Proofs.Ytldoedmclfbgpaa
namespace Go.Proofs.Ytldoedmclfbgpaa
open Go.RowKit

def fv (c : Card) (i : Int) : Val := c.f.getD i.toNat ⟨0, 0, []⟩
def leafM (x : Node) (c : Card) (g : Nat) : Bool :=
  if x.op = 1 then true else if x.op = 3 then hasB c.lab x.n else if x.op = 4 then hasB g x.n else if x.op = 5 then !decide ((fv c x.n).kind = 0)
  else if x.op = 6 then decide (fv c x.n = x.v) else if x.op = 7 then (fv c x.n).less x.v else if x.op = 8 then x.v.less (fv c x.n) else if x.op = 9 then (fv c x.n).holds x.v else false
def Tr.mat (c : Card) (g : Nat) : Tr → Bool
  | .leaf x => leafM x c g
  | .one _ a => !a.mat c g
  | .two x a b => if x.op = 11 then a.mat c g && b.mat c g else a.mat c g || b.mat c g
/-- What may stand in a leaf, where it asks for a field. -/
theorem Node.ok_field {x : Node} (h : x.ok = true) (ho : 5 ≤ x.op ∧ x.op ≤ 9) : 0 ≤ x.n ∧ x.n < 8 ∧ x.v.s.length ≤ 24 := by
  unfold Node.ok Val.ok Val.none at h
  obtain ⟨op, n, kind, m, s⟩ := x
  simp only at ho h
  have : op = 5 ∨ op = 6 ∨ op = 7 ∨ op = 8 ∨ op = 9 := by omega
  by_cases hk : kind = 0
  · rcases this with rfl | rfl | rfl | rfl | rfl <;> simp [hk] at h <;> simp_all
  · by_cases hk1 : kind = 1
    · rcases this with rfl | rfl | rfl | rfl | rfl <;> simp [hk1] at h <;> simp_all
    · by_cases hk2 : kind = 2
      · rcases this with rfl | rfl | rfl | rfl | rfl <;> simp [hk2] at h <;> simp_all
      · rcases this with rfl | rfl | rfl | rfl | rfl <;> simp [hk, hk1, hk2] at h
/-- The mask of what is asked for, the groups. -/
def maskL : List Node → Nat → Nat
  | [], m => m
  | x :: l, m => maskL l (if x.op = 3 then m ||| 256 else if 5 ≤ x.op ∧ x.op ≤ 9 then m ||| bitN x.n else m)
def grpL : List Node → Nat → Nat
  | [], m => m
  | x :: l, m => grpL l (if x.op = 4 then m ||| bitN x.n else m)
theorem maskL_at (l : List Node) (k : Nat) (h : k < l.length) (m : Nat) : maskL (l.drop k) m = maskL (l.drop (k + 1)) (if l[k].op = 3 then m ||| 256 else if 5 ≤ l[k].op ∧ l[k].op ≤ 9 then m ||| bitN l[k].n else m) := by
  rw [List.drop_eq_getElem_cons h]; rfl
theorem grpL_at (l : List Node) (k : Nat) (h : k < l.length) (m : Nat) : grpL (l.drop k) m = grpL (l.drop (k + 1)) (if l[k].op = 4 then m ||| bitN l[k].n else m) := by
  rw [List.drop_eq_getElem_cons h]; rfl
theorem or_lt {a b : Nat} (ha : a < 4294967296) (hb : b < 4294967296) : a ||| b < 4294967296 := Nat.or_lt_two_pow (n := 32) ha hb
end Go.Proofs.Ytldoedmclfbgpaa
