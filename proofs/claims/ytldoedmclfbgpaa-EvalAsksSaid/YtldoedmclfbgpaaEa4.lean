/-
  Lemmas (walks and plain laws), in one text.
-/
import Derived.Test.YtldoedmclfbgpaaEa1
import Derived.Test.YtldoedmclfbgpaaEa2
import Derived.Test.YtldoedmclfbgpaaEa3
import Derived.Lib.AppendZeros
import Derived.Deep.Quiet
import Derived.StillTail
namespace Go.Proofs.Ytldoedmclfbgpaa
open Go.RowKit

theorem endAt_hid (l : List Node) (i : Nat) : Hid (endFrom (l.drop (i + 0)) 1 (i + 0) = endAt l i) := (endAt_nat l i).symm

set_option maxHeartbeats 400000 in
theorem c_pred_End (l : List Node) (A : Option Addr) (c : Nat) (i : Int) (w : World) (h : InN w A c l) :
    Calls Try.prog 93 #[.slice A l.length c, .int .i64 i] w (RetV w (.int .i64 (endAt l i))) := by
  have hL := h.1
  have hC := h.2.1
  have hS := h.2.2.1
  by_cases h1 : i < 0
  · have H := Lib.hid (endAt_neg (l := l) h1)
    go_enter Try.func93, Try.ntmps93
    go_wp2
    go_ret
    exact RetV.int H.out.symm (Below.refl _ _)
  by_cases h2 : l.length ≤ i
  · have H := Lib.hid (endAt_past h2)
    go_enter Try.func93, Try.ntmps93
    go_wp2
    go_ret
    exact RetV.int H.out.symm (Below.refl _ _)
  obtain ⟨a, rfl⟩ : ∃ a : Nat, i = a := ⟨i.toNat, by omega⟩
  obtain ⟨b, off, rfl, hb, hrow⟩ := h.at (i := a) (by omega)
  clear h
  go_enter Try.func93, Try.ntmps93
  go_wp2
  go_loopw [5, 20] (fun need i wr => ∃ k : Nat, ∃ nd : Int, a + k ≤ l.length ∧ 1 ≤ nd ∧ nd ≤ 2 * k + 1 ∧ need = .int .i64 nd ∧ i = .int .i64 k ∧ Hid (endFrom (l.drop (a + k)) nd (a + k) = endAt l a) ∧ Below w.heap.size w wr)
     (fun _ i _ => l.length - (intOf i).toNat)
  case atStart => exact ⟨0, 1, by omega, by omega, by omega, rfl, rfl, endAt_hid l a, Below.refl _ _⟩
  case round =>
    obtain ⟨k, nd, hk, hnd1, hnd2, rfl, rfl, H, hbl⟩ := hrel
    by_cases hlt : a + k < l.length
    · obtain ⟨e0, e1, e2, e3, e4⟩ := (hrow.below hbl hb).node hlt (o := off + a * 5 + k * 5) (by omega)
      have hf := H.out
      rw [endFrom_at l (a + k) hlt] at hf
      obtain ⟨p, hp⟩ : ∃ p, parts l[a + k].op = p := ⟨_, rfl⟩
      have hpb := parts_bd l[a + k].op
      have Hp := Lib.hid hp
      rw [hp] at hf hpb
      have hpb1 := hpb.1
      have hpb2 := hpb.2
      have HF := Lib.hid hf
      have hbz := hbl.size
      clear hf hp hpb H
      by_cases hz : nd + (p - 1) = 0
      · go_wp2_with (go_at_call 100; refine (c_pred_Parts _ _).mono ?_; rintro e w1 ⟨rfl, hb1⟩; rw [Hp.out])
        go_ret
        refine RetV.int ?_ (by repeat (first | exact Below.refl _ _ | refine Below.drew ?_ | refine Below.alloc ?_ (by first | omega | (simp; done) | (simp; omega)) _ | refine Below.setCell ?_ (by first | omega | (simp; done) | (simp; omega)) _ | refine Below.trans ?_ (Below.mono (by assumption) (by first | omega | (simp; done) | (simp; omega)))))
        have hf := HF.out
        rw [if_pos hz] at hf
        rw [← hf]
        simp
      · go_wp2_with (go_at_call 100; refine (c_pred_Parts _ _).mono ?_; rintro e w1 ⟨rfl, hb1⟩; rw [Hp.out])
        go_roundw
        case rel =>
          refine ⟨k + 1, nd + (p - 1), by omega, by omega, by omega, rfl, by go_num, ?_, (by repeat (first | exact Below.refl _ _ | refine Below.drew ?_ | refine Below.alloc ?_ (by first | omega | (simp; done) | (simp; omega)) _ | refine Below.setCell ?_ (by first | omega | (simp; done) | (simp; omega)) _ | refine Below.trans ?_ (Below.mono (by assumption) (by first | omega | (simp; done) | (simp; omega)))))⟩
          have hf := HF.out
          rw [if_neg hz] at hf
          exact hf
        case measure => simp [intOf]; omega
    · go_wp2_with fail
      go_ret
      refine RetV.int ?_ hbl
      have := H.out
      rw [List.drop_of_length_le (by omega)] at this
      exact this
set_option maxHeartbeats 400000 in
theorem c_ref10_End (l : List Node) (A : Option Addr) (c : Nat) (i : Int) (w : World) (h : InN w A c l) :
    Calls Try.prog 52 #[.slice A l.length c, .int .i64 i] w (RetV w (.int .i64 (endAt l i))) := by
  have hL := h.1
  have hC := h.2.1
  have hS := h.2.2.1
  by_cases h1 : i < 0
  · have H := Lib.hid (endAt_neg (l := l) h1)
    go_enter Try.func52, Try.ntmps52
    go_wp2
    go_ret
    exact RetV.int H.out.symm (Below.refl _ _)
  by_cases h2 : l.length ≤ i
  · have H := Lib.hid (endAt_past h2)
    go_enter Try.func52, Try.ntmps52
    go_wp2_with fail
    refine wp_loop_rounds 1 ?_
    rw [rounds_succ]
    go_wp2_with fail
    go_ret
    exact RetV.int H.out.symm (Below.refl _ _)
  obtain ⟨a, rfl⟩ : ∃ a : Nat, i = a := ⟨i.toNat, by omega⟩
  obtain ⟨b, off, rfl, hb, hrow⟩ := h.at (i := a) (by omega)
  clear h
  go_enter Try.func52, Try.ntmps52
  go_wp2_with (fail)
  go_loopw [1, 5] (fun i need wr => ∃ k : Nat, ∃ nd : Int, a + k ≤ l.length ∧ 0 ≤ nd ∧ nd ≤ 2 * k + 1 ∧ (nd = 0 → 1 ≤ k) ∧ need = .int .i64 nd ∧ i = .int .i64 (a + k : Nat) ∧ Hid ((nd = 0 → ((a + k : Nat) : Int) = endAt l a) ∧ (nd ≠ 0 → endFrom (l.drop (a + k)) nd (a + k) = endAt l a)) ∧ Below w.heap.size w wr)
     (fun i _ _ => l.length - (intOf i).toNat)
  case atStart => exact ⟨0, 1, by omega, by omega, by omega, by omega, rfl, rfl, ⟨by omega, fun _ => endAt_hid l a⟩, Below.refl _ _⟩
  case round =>
    obtain ⟨k, nd, hk, hnd1, hnd2, hnd3, rfl, rfl, H, hbl⟩ := hrel
    have hbz := hbl.size
    by_cases hz : nd = 0
    · have H1 := Lib.hid (H.out.1 hz)
      clear H
      subst hz
      go_wp2_with (fail)
      all_goals (go_ret; exact RetV.int H1.out hbl)
    have hnd4 : 1 ≤ nd := by omega
    have hf := H.out.2 hz
    clear H
    by_cases hlt : a + k < l.length
    · obtain ⟨e0, e1, e2, e3, e4⟩ := (hrow.below hbl hb).node hlt (o := off + (a + k) * 5) (by omega)
      rw [endFrom_at l (a + k) hlt] at hf
      obtain ⟨p, hp⟩ : ∃ p, parts l[a + k].op = p := ⟨_, rfl⟩
      have hpb := parts_bd l[a + k].op
      have Hp := Lib.hid hp
      rw [hp] at hf hpb
      have hpb1 := hpb.1
      have hpb2 := hpb.2
      have HF := Lib.hid hf
      clear hf hp hpb
      go_wp2_with (go_at_call 92; refine (c_ref10_Parts _ _).mono ?_; rintro e w1 ⟨rfl, hb1⟩; rw [Hp.out])
      go_roundw
      case rel =>
        refine ⟨k + 1, nd - 1 + p, by omega, by omega, by omega, by omega, rfl, by go_num, ?_, (by repeat (first | exact Below.refl _ _ | refine Below.drew ?_ | refine Below.alloc ?_ (by first | omega | (simp; done) | (simp; omega)) _ | refine Below.setCell ?_ (by first | omega | (simp; done) | (simp; omega)) _ | refine Below.trans ?_ (Below.mono (by assumption) (by first | omega | (simp; done) | (simp; omega)))))⟩
        have hf := HF.out
        rw [show nd + (p - 1) = nd - 1 + p by omega] at hf
        refine ⟨fun e => ?_, fun e => ?_⟩
        · rw [if_pos e] at hf; rw [← hf]; omega
        · rw [if_neg e] at hf; exact hf
      case measure => simp [intOf]; omega
    · rw [List.drop_of_length_le (by omega)] at hf
      have HF := Lib.hid hf
      clear hf
      go_wp2_with fail
      go_ret
      exact RetV.int HF.out hbl
end Go.Proofs.Ytldoedmclfbgpaa
namespace Go.Proofs.Ytldoedmclfbgpaa
open Go.RowKit

set_option maxHeartbeats 400000 in
theorem c_pred_Check1 (x : Node) (w : World) (hs : x.v.s.length ≤ 9223372036854775807) : Calls Try.prog 95 #[x.val] w (RetV w (.bool (!x.ok))) := by
  unfold Node.val
  go_enter Try.func95, Try.ntmps95
  go_wp2_with (go_at_call 96; refine (c_pred_Node x _ hs).mono ?_; rintro e w1 ⟨rfl, hb1⟩)
  go_ret
  exact RetV.bool rfl (by repeat (first | exact Below.refl _ _ | refine Below.drew ?_ | refine Below.alloc ?_ (by first | omega | (simp; done) | (simp; omega)) _ | refine Below.setCell ?_ (by first | omega | (simp; done) | (simp; omega)) _ | refine Below.trans ?_ (Below.mono (by assumption) (by first | omega | (simp; done) | (simp; omega)))))
set_option maxHeartbeats 400000 in
theorem c_IndexFuncN (l : List Node) (A : Option Addr) (c : Nat) (w : World) (h : InN w A c l) (hs : ∀ x ∈ l, x.v.s.length ≤ 9223372036854775807) :
    Calls Try.prog 137 #[.slice A l.length c, .func (.func 95) #[] #[]] w (RetV w (.int .i64 (firstBad l 0))) := by
  have hL := h.1
  have hC := h.2.1
  have hS := h.2.2.1
  go_enter Try.func137, Try.ntmps137
  go_wp2_with (fail)
  go_loopw [8] (fun i wr => ∃ k : Nat, k ≤ l.length ∧ i = .int .i64 k ∧ Hid (firstBad (l.drop k) k = firstBad l 0) ∧ Below w.heap.size w wr) (fun i _ => l.length - (intOf i).toNat)
  case atStart => exact ⟨0, by omega, rfl, rfl, Below.refl _ _⟩
  case round =>
    obtain ⟨k, hk, rfl, H, hbl⟩ := hrel
    have hbz := hbl.size
    by_cases hlt : k < l.length
    · obtain ⟨b, off, rfl, hb, hrow⟩ := h.at hlt
      obtain ⟨e0, e1, e2, e3, e4⟩ := (hrow.below hbl hb).node hlt rfl
      have hs1 := hs l[k] (List.getElem_mem hlt)
      have hf := H.out
      rw [firstBad_at l k hlt] at hf
      clear h hs H
      cases hok : l[k].ok
      · rw [if_neg (by rw [hok]; simp)] at hf
        have HF := Lib.hid hf
        clear hf
        go_wp2_with (go_at_call 95; refine (c_pred_Check1 l[k] _ hs1).mono ?_; rintro e w1 ⟨rfl, hb1⟩)
        go_ret
        exact RetV.int HF.out (by repeat (first | exact Below.refl _ _ | refine Below.drew ?_ | refine Below.alloc ?_ (by first | omega | (simp; done) | (simp; omega)) _ | refine Below.setCell ?_ (by first | omega | (simp; done) | (simp; omega)) _ | refine Below.trans ?_ (Below.mono (by assumption) (by first | omega | (simp; done) | (simp; omega)))))
      · rw [if_pos hok] at hf
        have HF := Lib.hid hf
        clear hf
        go_wp2_with (go_at_call 95; refine (c_pred_Check1 l[k] _ hs1).mono ?_; rintro e w1 ⟨rfl, hb1⟩)
        go_roundw
        case rel => exact ⟨k + 1, by omega, by go_num, HF.out, (by repeat (first | exact Below.refl _ _ | refine Below.drew ?_ | refine Below.alloc ?_ (by first | omega | (simp; done) | (simp; omega)) _ | refine Below.setCell ?_ (by first | omega | (simp; done) | (simp; omega)) _ | refine Below.trans ?_ (Below.mono (by assumption) (by first | omega | (simp; done) | (simp; omega)))))⟩
        case measure => simp [intOf]; omega
    · have hf := H.out
      rw [List.drop_of_length_le (by omega)] at hf
      have HF := Lib.hid hf
      clear hf H
      go_wp2_with (fail)
      go_ret
      exact RetV.int HF.out hbl
set_option maxHeartbeats 400000 in
theorem c_ContainsFuncN (l : List Node) (A : Option Addr) (c : Nat) (w : World) (h : InN w A c l) (hs : ∀ x ∈ l, x.v.s.length ≤ 9223372036854775807) :
    Calls Try.prog 94 #[.slice A l.length c, .func (.func 95) #[] #[]] w (RetV w (.bool (l.any fun x => !x.ok))) := by
  have H := Lib.hid (firstBad_any l 0)
  go_enter Try.func94, Try.ntmps94
  go_wp2_with (go_at_call 137; refine (c_IndexFuncN l A c _ h hs).mono ?_; rintro e w1 ⟨rfl, hb1⟩)
  go_ret
  exact RetV.bool H.out (by repeat (first | exact Below.refl _ _ | refine Below.drew ?_ | refine Below.alloc ?_ (by first | omega | (simp; done) | (simp; omega)) _ | refine Below.setCell ?_ (by first | omega | (simp; done) | (simp; omega)) _ | refine Below.trans ?_ (Below.mono (by assumption) (by first | omega | (simp; done) | (simp; omega)))))
set_option maxHeartbeats 1000000 in
theorem c_pred_Depth (l : List Node) (A : Option Addr) (c : Nat) (w : World) (h : InN w A c l) :
    Calls Try.prog 97 #[.slice A l.length c] w (RetV w (.int .i64 (depth l))) := by
  have hL := h.1
  have hC := h.2.1
  have hS := h.2.2.1
  by_cases h0 : l.length = 0
  · have H : Hid (depth l = 0) := by have := List.eq_nil_of_length_eq_zero h0; subst this; rfl
    go_enter Try.func97, Try.ntmps97
    go_wp2_with (fail)
    go_ret
    exact RetV.int H.out.symm (Below.refl _ _)
  by_cases h1 : endAt l 0 = l.length
  case neg =>
    have H : Hid (depth l = 0) := by unfold Hid depth; rw [if_pos (.inr h1)]
    have hn : ((endAt l 0 : Int) != (l.length : Int)) = true := by simpa using h1
    go_enter Try.func97, Try.ntmps97
    go_wp2_with (go_at_call 93; refine (c_pred_End l A c 0 _ h).mono ?_; rintro e w1 ⟨rfl, hb1⟩)
    go_ret
    exact RetV.int H.out.symm (by repeat (first | exact Below.refl _ _ | refine Below.drew ?_ | refine Below.alloc ?_ (by first | omega | (simp; done) | (simp; omega)) _ | refine Below.setCell ?_ (by first | omega | (simp; done) | (simp; omega)) _ | refine Below.trans ?_ (Below.mono (by assumption) (by first | omega | (simp; done) | (simp; omega)))))
  have HD : Hid (deepFold l [] 0 = depth l) := by
    show _ = _
    unfold depth
    rw [if_neg (by
      rintro (e | e)
      · subst e; simp at h0
      · exact e h1)]
  have hn : ((endAt l 0 : Int) != (l.length : Int)) = false := by simpa using h1
  have hl0 : ((l.length : Int) == 0) = false := by simpa using h0
  have EI : Elem Try.prog 87 3 1 8 := Elem.mk' Try.underlying87 (z := .int .i64 0) (by kernel_rfl) rfl (by omega) (by omega)
  clear h1
  go_enter Try.func97, Try.ntmps97
  go_wp2_with (go_at_call 93; refine (c_pred_End l A c 0 _ h).mono ?_; rintro e w1 ⟨rfl, hb1⟩)
  go_loopw [3, 4, 19] (fun v dp i wr => ∃ (k : Nat) (st : List Int) (d : Int), k ≤ l.length ∧ i = .int .i64 k ∧ dp = .int .i64 d ∧ 0 ≤ d ∧ d ≤ k ∧ st.length ≤ k ∧ (∀ x ∈ st, 1 ≤ x ∧ x ≤ 2) ∧
      wr.ownsRow w.heap.size 3 1 v st.length (st.map (Value.int .i64)) ∧ Hid (deepFold (l.drop k) st.reverse d = depth l) ∧ Below w.heap.size w wr) (fun _ _ i _ => l.length - (intOf i).toNat)
  case atStart => exact ⟨0, [], 0, by omega, rfl, rfl, by omega, by omega, by simp, by simp, World.ownsRow_nil _ _ _ _, HD.out, (by repeat (first | exact Below.refl _ _ | refine Below.drew ?_ | refine Below.alloc ?_ (by first | omega | (simp; done) | (simp; omega)) _ | refine Below.setCell ?_ (by first | omega | (simp; done) | (simp; omega)) _ | refine Below.trans ?_ (Below.mono (by assumption) (by first | omega | (simp; done) | (simp; omega)))))⟩
  case round =>
    obtain ⟨k, st, d, hk, rfl, rfl, hd0, hdk, hst, hent, hown, H, hbl⟩ := hrel
    have hbz := hbl.size
    have Hent := Lib.hid hent
    have hbh := Lib.hid hb1
    clear hent hb1
    by_cases hlt : k < l.length
    · obtain ⟨b, off, rfl, hb, hrow⟩ := h.at hlt
      obtain ⟨e0, e1, e2, e3, e4⟩ := (hrow.below hbl hb).node hlt rfl
      have hf := H.out
      rw [List.drop_eq_getElem_cons hlt] at hf
      have HF : Hid (deepFold (l.drop (k+1)) (push (parts l[k].op) st.reverse) (max d ((st.length : Int) + 1)) = depth l) := by
        have : deepFold (l[k] :: l.drop (k+1)) st.reverse d = depth l := hf
        show _ = _
        simpa [deepFold] using this
      clear h hf H
      have hpb := parts_bd l[k].op
      obtain ⟨p, hp⟩ : ∃ p, parts l[k].op = p := ⟨_, rfl⟩
      have Hp := Lib.hid hp
      rw [hp] at hpb
      have hpb1 := hpb.1
      have hpb2 := hpb.2
      clear hp hpb
      obtain ⟨Av, cv, rfl, hcv1, hcv2⟩ := own_form hown
      have hown0 := Lib.hid hown
      clear hown
      go_wp2_with (first
        | (go_at_call 100; refine (c_pred_Parts _ _).mono ?_; rintro e w2 ⟨rfl, hb2⟩; rw [Hp.out]; have hz2 := hb2.size; simp only [World.size_alloc] at hz2)
        | (at_builtin
           refine wpList_app _ rfl (.tmp 28) (.tmp 32) EI rfl w.heap.size (.slice Av st.length cv) st.length (st.map (Value.int .i64)) rfl ((own_below (own_below (own_below hown0.out ((Below.refl _ _).alloc (Nat.le_refl _) _)) hb2) ((Below.refl _ _).alloc (Nat.le_refl _) _))) _ 1 1 [.int .i64 p] rfl (Src.new _ _ _ _ rfl) (by simp [Value.oneCell']) (by omega) ?_ ?_
           · simp only [World.size_alloc]; omega
           intro v3 w3 hown3 hg3 hb3 hat3))
      have hbw3 : Below w.heap.size w w3 := (by repeat (first | exact Below.refl _ _ | refine Below.drew ?_ | refine Below.alloc ?_ (by first | omega | (simp; done) | (simp; omega)) _ | refine Below.setCell ?_ (by first | omega | (simp; done) | (simp; omega)) _ | refine Below.trans ?_ (Below.mono (by assumption) (by first | omega | (simp; done) | (simp; omega)))))
      have HN : Hid (norm (st ++ [p]).reverse = push p st.reverse) := by
        show _ = _
        rw [List.reverse_append]
        rfl
      have hent2 : ∀ x ∈ st ++ [p], 0 ≤ x ∧ x ≤ 2 := by
        intro x hx
        rcases List.mem_append.1 hx with hx | hx
        · have := Hent.out x hx; omega
        · simp at hx; omega
      have hent3 : ∀ x ∈ (st ++ [p]).dropLast, 1 ≤ x := by
        intro x hx
        rw [List.dropLast_concat] at hx
        exact (Hent.out x hx).1
      have Hent2 := Lib.hid hent2
      have Hent3 := Lib.hid hent3
      have hown3' : w3.ownsRow w.heap.size 3 1 v3 (st ++ [p]).length ((st ++ [p]).map (Value.int .i64)) := by simpa using hown3
      have Hown := Lib.hid hown3'
      clear e0 e1 e2 e3 e4 hb2 hz2 hown3 hown3' hg3 hb3 hat3 hown0 hbl hbz hent2 hent3 Hent hrow hb
      obtain ⟨wo, rfl⟩ : ∃ wo : World, wo = wr := ⟨_, rfl⟩
      go_loopw [3] (fun v wi => ∃ st2 : List Int, st2.length ≤ k + 1 ∧ Hid (∀ x ∈ st2, 0 ≤ x ∧ x ≤ 2) ∧ Hid (∀ x ∈ st2.dropLast, 1 ≤ x) ∧
          Hid (wi.ownsRow w.heap.size 3 1 v st2.length (st2.map (Value.int .i64))) ∧ Hid (norm st2.reverse = push p st.reverse) ∧ Below w.heap.size w wi) (fun v _ => lenOf v)
      case atStart => exact ⟨st ++ [p], by simp; omega, Hent2, Hent3, Hown, HN, hbw3⟩
      case round =>
        obtain ⟨st2, hl2, E2, E3, O2, N2, hb2⟩ := hrel
        have hz2 := hb2.size
        have hnext : ∀ t r, st2 = r ++ [t] → t ≠ 0 → (∀ x ∈ st2, 1 ≤ x ∧ x ≤ 2) ∧ deepFold (l.drop (k+1)) st2.reverse (max d ((st.length : Int) + 1)) = depth l := by
          rintro t r rfl ht
          refine ⟨fun x hx => ?_, ?_⟩
          · have h1 := E2.out x hx
            rcases List.mem_append.1 hx with hx | hx
            · have := E3.out x (by rw [List.dropLast_concat]; exact hx); omega
            · simp at hx; omega
          · have hf := HF.out
            rw [Hp.out, ← N2.out] at hf
            have hr : (r ++ [t]).reverse = t :: r.reverse := by simp
            rw [hr, norm_keep ht, ← hr] at hf
            exact hf
        have HX := Lib.hid hnext
        clear hnext
        rcases snoc_cases st2 with rfl | ⟨rest, t, rfl⟩
        · obtain ⟨A2, c2, rfl, _, _⟩ := own_form O2.out
          clear HX
          go_wp2_with (fail)
          go_roundw
          case rel =>
            have hf := HF.out
            rw [Hp.out, ← N2.out] at hf
            exact ⟨k + 1, [], _, by omega, by go_num, rfl, by omega, by omega, by simp, by simp, O2.out, hf, hb2⟩
          case measure => simp [intOf]; omega
        · have Et := E2.out t (by simp)
          rcases snoc_cases rest with rfl | ⟨r2, y, rfl⟩
          · obtain ⟨g, c2, rfl, hc2, hc2', hg1, hg2⟩ := own_form' O2.out (by simp)
            have O2' : wr.ownsRow w.heap.size 3 1 (.slice (some ⟨g, 0, none⟩) 1 c2) 1 [.int .i64 t] := O2.out
            have hcell : wr.cell? ⟨g, 0, none⟩ = some (.int .i64 t) := by
              rw [O2'.cellAt _ (by omega)]
              rfl
            have hpop := Lib.hid (ownsRow_pop (xs := []) (n := 0) (by simp) O2')
            have O3 := Lib.hid O2'
            clear O2' O2
            simp only [List.nil_append, List.length_singleton] at hc2
            by_cases ht : t = 0
            · subst ht
              go_wp2_with (fail)
              go_roundw
              case rel =>
                have hn := N2.out
                exact ⟨[], by simp, (fun x hx => by cases hx), (fun x hx => by cases hx), hpop.out, by rw [← hn]; rfl, hb2⟩
              case measure => simp [lenOf]
            · have htb : ((t : Int) == 0) = false := by simpa using ht
              go_wp2_with (fail)
              go_roundw
              case rel =>
                obtain ⟨h1, h2⟩ := HX.out t [] rfl ht
                exact ⟨k + 1, [t], _, by omega, by go_num, rfl, by omega, by omega, by simp, h1, O3.out, h2, hb2⟩
              case measure => simp [intOf]; omega
          · have hl2' : r2.length + 2 ≤ k + 1 := by simpa using hl2
            obtain ⟨q, hq⟩ : ∃ q, r2.length = q := ⟨_, rfl⟩
            have hlen : (r2 ++ [y] ++ [t]).length = q + 2 := by simp [hq]
            have O2' := O2.out
            rw [hlen] at O2'
            simp only [List.map_append, List.map_cons, List.map_nil] at O2'
            obtain ⟨g, c2, rfl, hc2, hc2', hg1, hg2⟩ := own_form' O2' (by omega)
            rw [hq] at hl2'
            have hcell : wr.cell? ⟨g, q + 1, none⟩ = some (.int .i64 t) := by
              rw [O2'.cellAt _ (by omega)]
              rw [List.getElem?_append_right (by simp [hq])]
              simp [hq]
            have hcy : wr.cell? ⟨g, q, none⟩ = some (.int .i64 y) := by
              rw [O2'.cellAt _ (by omega)]
              rw [List.getElem?_append_left (by simp [hq]), List.getElem?_append_right (by simp [hq])]
              simp [hq]
            have hfz := fun j => O2'.frozenAt j
            have hpop := ownsRow_pop (n := q + 1) (by simp [hq]) O2'
            have hst2 := hpop.stored q (.int .i64 (y - 1))
            have ST := Lib.hid hst2
            have O3 := Lib.hid O2'
            have Hq := Lib.hid hq
            have Hlen := Lib.hid hlen
            have hy := E3.out y (by simp)
            have hy2 := (E2.out y (by simp)).2
            clear O2' O2 hpop hst2 hq hlen hl2
            by_cases ht : t = 0
            · subst ht
              clear HX
              go_wp2_with (fail)
              go_roundw
              case rel =>
                refine ⟨r2 ++ [y - 1], by simp [Hq.out]; omega, ?_, ?_, ?_, ?_, (by repeat (first | exact Below.refl _ _ | refine Below.drew ?_ | refine Below.alloc ?_ (by first | omega | (simp; done) | (simp; omega)) _ | refine Below.setCell ?_ (by first | omega | (simp; done) | (simp; omega)) _ | refine Below.trans ?_ (Below.mono (by assumption) (by first | omega | (simp; done) | (simp; omega)))))⟩
                · intro x hx
                  rcases List.mem_append.1 hx with hx | hx
                  · exact E2.out x (by simp [hx])
                  · simp at hx; omega
                · intro x hx
                  rw [List.dropLast_concat] at hx
                  exact E3.out x (by rw [List.dropLast_concat]; simp [hx])
                · show World.ownsRow _ _ _ _ _ _ _
                  rw [show q + 2 - 1 = q + 1 by omega, show (r2 ++ [y - 1]).length = q + 1 by simp [Hq.out]]
                  have h1 := ST.out.1
                  have e : ((r2.map (Value.int .i64) ++ [Value.int .i64 y]).set q (.int .i64 (y - 1))) = (r2 ++ [y - 1]).map (Value.int .i64) := by
                    rw [List.set_append_right _ _ (by simp [Hq.out])]
                    simp [Hq.out]
                  rw [e] at h1
                  exact h1
                · have hn := N2.out
                  have e1 : (r2 ++ [y] ++ [0]).reverse = 0 :: y :: r2.reverse := by simp
                  have e2 : (r2 ++ [y - 1]).reverse = (y - 1) :: r2.reverse := by simp
                  show _ = _
                  rw [← hn, e1, e2, norm_zero, dec_norm]
              case measure => simp [lenOf]
            · have htb : ((t : Int) == 0) = false := by simpa using ht
              go_wp2_with (fail)
              go_roundw
              case rel =>
                obtain ⟨h1, h2⟩ := HX.out t _ rfl ht
                refine ⟨k + 1, r2 ++ [y] ++ [t], _, by omega, by go_num, rfl, by omega, by omega, by rw [Hlen.out]; omega, h1, ?_, h2, hb2⟩
                rw [Hlen.out]
                simpa using O3.out
              case measure => simp [intOf]; omega
    · have hf := H.out
      rw [List.drop_of_length_le (by omega)] at hf
      have HF : Hid (d = depth l) := by simpa [deepFold, Hid] using hf
      clear hf H
      go_wp2_with (fail)
      go_ret
      exact RetV.int HF.out hbl
end Go.Proofs.Ytldoedmclfbgpaa
namespace Go.Proofs.Ytldoedmclfbgpaa
open Go.RowKit

set_option maxHeartbeats 400000 in
theorem c_pred_Check (l : List Node) (A : Option Addr) (c : Nat) (w : World) (h : InN w A c l) (hs : ∀ x ∈ l, x.v.s.length ≤ 9223372036854775807) :
    Calls Try.prog 54 #[.slice A l.length c] w (RetV w (.int .i64 (check l))) := by
  have hL := h.1
  have hC := h.2.1
  have hS := h.2.2.1
  have hdb := (depth_bd l).1
  have Hs := Lib.hid hs
  clear hs
  go_enter Try.func54, Try.ntmps54
  go_wp2_with (first
    | (go_at_call 93; refine (c_pred_End l A c 0 _ h).mono ?_; rintro e w1 ⟨rfl, hb1⟩)
    | (go_at_call 94; refine (c_ContainsFuncN l A c _ (h.below hb1) Hs.out).mono ?_; rintro e w2 ⟨rfl, hb2⟩)
    | (go_at_call 97; refine (c_pred_Depth l A c _ ((h.below hb1).below hb2)).mono ?_; rintro e w3 ⟨rfl, hb3⟩))
  all_goals (go_ret; (try have hz1 := hb1.size); (try have hz2 := hb2.size); refine RetV.int ?_ (by repeat (first | exact Below.refl _ _ | refine Below.drew ?_ | refine Below.alloc ?_ (by first | omega | (simp; done) | (simp; omega)) _ | refine Below.setCell ?_ (by first | omega | (simp; done) | (simp; omega)) _ | refine Below.trans ?_ (Below.mono (by assumption) (by first | omega | (simp; done) | (simp; omega))))); (simp_all [check] <;> first | omega | (intros; omega) | decide | grind))
set_option maxHeartbeats 1000000 in
theorem c_ref10_Kids (l : List Node) (a : Nat) (A : Option Addr) (c : Nat) (w : World) (h : InN w A c l) (ha : a < l.length) (mid : List Node) (d : Nat) (ht : Trees (parts l[a].op).toNat (l.drop (a + 1)) mid d) :
    Calls Try.prog 68 #[.slice A l.length c, .int .i64 a] w (RetK 33 w (cut (parts l[a].op).toNat (l.drop (a + 1)))) := by
  have hL := h.1
  have hC := h.2.1
  have hS := h.2.2.1
  obtain ⟨b, off, rfl, hb, hrow⟩ := h.at ha
  have hpb := parts_bd l[a].op
  obtain ⟨p, hp⟩ : ∃ p : Nat, (parts l[a].op).toNat = p := ⟨_, rfl⟩
  have hpi : parts l[a].op = (p : Int) := by rw [← hp]; omega
  have Hp := Lib.hid hpi
  rw [hp] at ht ⊢
  have hp2 : p ≤ 2 := by omega
  have Ht := Lib.hid ht
  have EN : Elem Try.prog 33 94 5 48 := Elem.mk' Try.underlying33 (z := .agg #[.int .i64 0, .int .i64 0, .int .i64 0, .int .i64 0, .string ⟨#[]⟩]) (by kernel_rfl) rfl (by omega) (by omega)
  have EK : Elem Try.prog 45 33 1 24 := Elem.mk' Try.underlying45 (z := .slice none 0 0) (by kernel_rfl) rfl (by omega) (by omega)
  clear hpb hp hpi ht
  have ha0 : decide ((a : Int) < 0) = false := by simp
  have ha1 : decide (l.length ≤ a) = false := by simpa using ha
  go_enter Try.func68, Try.ntmps68
  go_wp2_with (fail)
  go_loopw [5, 6, 7] (fun v fr i wr => ∃ (j : Nat) (f : Nat) (os : List Kid) (d' : Nat), j ≤ p ∧ i = .int .i64 j ∧ fr = .int .i64 f ∧ os.length = j ∧ Hid (Trees (p - j) (l.drop f) mid d') ∧
      Hid (os.map (·.2.2) ++ cut (p - j) (l.drop f) = cut p (l.drop (a + 1))) ∧ Hid (wr.ownsRow w.heap.size 33 1 v os.length (os.flatMap Kid.cells)) ∧
      Hid (∀ o ∈ os, o.2.2.length ≤ l.length ∧ wr.ownsRow w.heap.size 94 5 (Kid.val o) o.2.2.length (o.2.2.flatMap Node.cells)) ∧ f ≤ l.length ∧ Below w.heap.size w wr)
    (fun _ _ i _ => p - (intOf i).toNat)
  case atStart =>
    refine ⟨0, a + 1, [], d, by omega, rfl, by go_num, rfl, Ht.out, rfl, ?_, ?_, by omega, (by repeat (first | exact Below.refl _ _ | refine Below.drew ?_ | refine Below.alloc ?_ (by first | omega | (simp; done) | (simp; omega)) _ | refine Below.setCell ?_ (by first | omega | (simp; done) | (simp; omega)) _ | refine Below.trans ?_ (Below.mono (by assumption) (by first | omega | (simp; done) | (simp; omega)))))⟩
    · exact World.ownsRow_lit w #[] 0 (Nat.le_refl _) (by unfold maxLen; omega) (by simp)
    · intro o ho; cases ho
  case round =>
    obtain ⟨j, f, os, d', hj, rfl, rfl, hos, T, N, O, K, hf, hbl⟩ := hrel
    have hbz := hbl.size
    have e0 := ((hrow.below hbl hb).node ha rfl).1
    by_cases hlt : j < p
    · obtain ⟨n, hn⟩ : ∃ n, p - j = n + 1 := ⟨p - j - 1, by omega⟩
      have T' := T.out
      have N' := N.out
      rw [hn] at T' N'
      obtain ⟨s, d1, d2, hs1, hs2, hend, hcut, T2, Tr⟩ := cut_step T'
      rw [hcut] at N'
      have Hend := Lib.hid hend
      have NN := Lib.hid N'
      have TT := Lib.hid T2
      have Hn := Lib.hid hn
      have hlk : ((l.drop f).take s).length = s := by rw [List.length_take, List.length_drop]; omega
      have Hlk := Lib.hid hlk
      obtain ⟨Av, cv, rfl, hcv1, hcv2⟩ := own_form O.out
      obtain ⟨m, hm⟩ : ∃ m, os.length = m := ⟨_, rfl⟩
      have hO := O.out
      rw [hm] at hO
      have O2 := Lib.hid hO
      have hmj : m = j := by rw [← hm]; exact hos
      have Hm := Lib.hid hm
      have Hmj := Lib.hid hmj
      rw [hm] at hcv1 ⊢
      have hm2 : m ≤ 2 := by omega
      clear T N O T' N' hend hcut T2 hn hlk hO hos hmj hm e0
      have e0 := ((hrow.below hbl hb).node ha rfl).1
      go_wp2_with (first
        | (go_at_call 92; refine (c_ref10_Parts _ _).mono ?_; rintro e w2 ⟨rfl, hb2⟩; rw [Hp.out]; have hz2 := hb2.size)
        | (go_at_call 52; refine (c_ref10_End l _ c _ _ (h.below (by repeat (first | exact Below.refl _ _ | refine Below.drew ?_ | refine Below.alloc ?_ (by first | omega | (simp; done) | (simp; omega)) _ | refine Below.setCell ?_ (by first | omega | (simp; done) | (simp; omega)) _ | refine Below.trans ?_ (Below.mono (by assumption) (by first | omega | (simp; done) | (simp; omega))))))).mono ?_; rintro e w3 ⟨rfl, hb3⟩; rw [Hend.out]; have hz3 := hb3.size)
        | (at_builtin; refine Stop.out ?_))
      refine Stop.mk (wpList_app _ rfl (.tmp 34) (.tmp 38) EN rfl w3.heap.size (.slice (some ⟨w3.heap.size, 0, none⟩) 0 0) 0 [] rfl (World.ownsRow_lit w3 #[] 0 (Nat.le_refl _) (by unfold maxLen; omega) (by simp)) _ _ _ (((l.drop f).take s).flatMap Node.cells) rfl ?_ (nodes_one _) (by omega) ?_ ?_)
      · have hB : Below w.heap.size w (w3.alloc (.cells #[] 94)) := (by repeat (first | exact Below.refl _ _ | refine Below.drew ?_ | refine Below.alloc ?_ (by first | omega | (simp; done) | (simp; omega)) _ | refine Below.setCell ?_ (by first | omega | (simp; done) | (simp; omega)) _ | refine Below.trans ?_ (Below.mono (by assumption) (by first | omega | (simp; done) | (simp; omega)))))
        have hsub := (h.below hB).sub (i := f) (j := f + s) (by omega) hs2 ⟨by simp only [World.size_alloc]; omega, hrow.below hB hb⟩
        rw [show f + s - f = s by omega] at hsub ⊢
        have h1 := Src.of_in Node.cells_len (by omega) hsub
        rw [Hlk.out] at h1
        exact h1
      · simp only [World.size_alloc]; omega
      intro v4 w4 own4 g4 b4 at4
      obtain ⟨A4, c4, rfl, _, _⟩ := own_form own4
      rw [show 0 + (f + s - f) = s by omega, List.nil_append] at own4
      have hz4 := g4.size
      simp only [World.size_alloc] at hz4
      have hb4 : Below w.heap.size w w4 := by
        refine Below.trans (b := w3.alloc (.cells #[] 94)) (by repeat (first | exact Below.refl _ _ | refine Below.drew ?_ | refine Below.alloc ?_ (by first | omega | (simp; done) | (simp; omega)) _ | refine Below.setCell ?_ (by first | omega | (simp; done) | (simp; omega)) _ | refine Below.trans ?_ (Below.mono (by assumption) (by first | omega | (simp; done) | (simp; omega))))) (b4.mono (by omega))
      have keep4 : ∀ (b1 : Nat) (e1 : TypeId) (s1 n1 : Nat) (v1 : Value) (x1 : List Value), wr.ownsRow b1 e1 s1 v1 n1 x1 → w4.ownsRow b1 e1 s1 v1 n1 x1 := by
        intro b1 e1 s1 n1 v1 x1 h1
        have h2 := own_below (own_below h1 hb2) hb3
        refine own_kept_lt (g := w3.heap.size) (own_below h2 ((Below.refl _ _).alloc (Nat.le_refl _) _)) g4 (fun k hk => ?_)
        have := (h2.lt k hk).2
        omega
      have K4 := Lib.hid keep4
      have O4 := Lib.hid own4
      clear own4 keep4 at4 b4 g4
      go_wp2_with ((at_builtin; refine Stop.out ?_))
      refine Stop.mk (wpList_app _ rfl (.tmp 33) (.tmp 40) EK rfl w.heap.size (.slice Av m cv) m (os.flatMap Kid.cells) rfl (own_below (K4.out _ _ _ _ _ _ O2.out) ((Below.refl _ _).alloc (Nat.le_refl _) _)) _ 1 1 [.slice A4 s c4] rfl (Src.new _ _ _ _ rfl) (by simp [Value.oneCell']) (by omega) ?_ ?_)
      · simp only [World.size_alloc]; omega
      intro v5 w5 own5 g5 b5 at5
      go_wp2_with (fail)
      have hz5 := g5.size
      have hb5 : Below w.heap.size w w5 := by
        refine Below.trans (b := w4.alloc (.cells #[.slice A4 s c4] 33)) (by repeat (first | exact Below.refl _ _ | refine Below.drew ?_ | refine Below.alloc ?_ (by first | omega | (simp; done) | (simp; omega)) _ | refine Below.setCell ?_ (by first | omega | (simp; done) | (simp; omega)) _ | refine Below.trans ?_ (Below.mono (by assumption) (by first | omega | (simp; done) | (simp; omega))))) (b5.mono (by omega))
      go_roundw
      case rel =>
        have hnn := NN.out
        refine ⟨j + 1, f + s, os ++ [(A4, c4, (l.drop f).take s)], d1, by omega, by go_num, by go_num, by have := Hmj.out; simp [Hm.out, this], ?_, ?_, ?_, ?_, by omega, hb5⟩
        · show Trees _ _ _ _
          rw [show p - (j + 1) = n by have := Hn.out; omega]; exact TT.out
        · show _ = _
          rw [show p - (j + 1) = n by have := Hn.out; omega, ← hnn]
          simp
        · show World.ownsRow _ _ _ _ _ _ _
          have e : (os ++ [((A4, c4, (l.drop f).take s) : Kid)]).flatMap Kid.cells = os.flatMap Kid.cells ++ [.slice A4 s c4] := by
            simp only [List.flatMap_append, List.flatMap_cons, List.flatMap_nil, Kid.cells, Kid.val, Hlk.out, List.append_nil]
          rw [e, List.length_append, Hm.out]
          exact own5
        · intro o ho
          have keep5 : ∀ {b1 : Nat} {s1 n1 : Nat} {v1 : Value} {x1 : List Value}, w4.ownsRow b1 94 s1 v1 n1 x1 → w5.ownsRow b1 94 s1 v1 n1 x1 := by
            intro b1 s1 n1 v1 x1 h1
            exact own_kept_ne (own_below h1 ((Below.refl _ _).alloc (Nat.le_refl _) _)) (own_below (K4.out _ _ _ _ _ _ O2.out) ((Below.refl _ _).alloc (Nat.le_refl _) _)) (by decide) g5
          rcases List.mem_append.1 ho with ho | ho
          · exact ⟨(K.out o ho).1, keep5 (K4.out _ _ _ _ _ _ (K.out o ho).2)⟩
          · simp only [List.mem_singleton] at ho
            subst ho
            refine ⟨by show _ ≤ _; rw [Hlk.out]; omega, ?_⟩
            show World.ownsRow _ _ _ _ (.slice A4 (List.length _) c4) _ _
            rw [Hlk.out]
            exact own_base (keep5 O4.out) (by omega)
      case measure => simp [intOf]; omega
    · have hjp : j = p := by omega
      have hp0 : p - j = 0 := by omega
      have N' := N.out
      rw [hp0] at N'
      obtain ⟨Av, cv, rfl, hcv1, hcv2⟩ := own_form O.out
      have e0 := ((hrow.below hbl hb).node ha rfl).1
      have NN := Lib.hid N'
      clear N N' T Ht hp0 hos
      go_wp2_with (first
        | (go_at_call 92; refine (c_ref10_Parts _ _).mono ?_; rintro e w2 ⟨rfl, hb2⟩; rw [Hp.out]; have hz2 := hb2.size))
      go_ret
      refine ⟨os, ?_, ⟨_, rfl, own_below O.out hb2, (by repeat (first | exact Below.refl _ _ | refine Below.drew ?_ | refine Below.alloc ?_ (by first | omega | (simp; done) | (simp; omega)) _ | refine Below.setCell ?_ (by first | omega | (simp; done) | (simp; omega)) _ | refine Below.trans ?_ (Below.mono (by assumption) (by first | omega | (simp; done) | (simp; omega)))))⟩, fun o ho => ?_⟩
      · have := NN.out; simpa [cut] using this
      · obtain ⟨h1, h2⟩ := K.out o ho
        obtain ⟨A', c', he, hin⟩ := In.of_own Node.cells_len (own_below h2 hb2) (by omega)
        have e1 : o.1 = A' ∧ o.2.1 = c' := by
          have := he
          simp only [Kid.val, Value.slice.injEq, true_and] at this
          exact this
        rw [e1.1, e1.2]; exact hin
end Go.Proofs.Ytldoedmclfbgpaa
namespace Go.Proofs.Ytldoedmclfbgpaa
open Go.RowKit

theorem elemN : Elem Try.prog 33 94 5 48 := Elem.mk' Try.underlying33 (z := .agg #[.int .i64 0, .int .i64 0, .int .i64 0, .int .i64 0, .string ⟨#[]⟩]) (by kernel_rfl) rfl (by omega) (by omega)
set_option maxHeartbeats 400000 in
set_option maxRecDepth 4000 in
theorem c_Clone_n (l : List Node) (A : Option Addr) (c : Nat) (w : World) (h : In 5 Node.cells w A c l) :
    Calls Try.prog 55 #[.slice A l.length c] w (RetS 5 Node.cells 94 w l) := by
  have hL := h.1
  have hC := h.2.1
  have hS := h.2.2.1
  have EB := elemN
  rcases A with _ | ad
  · have hl : l = [] := by
      rcases h.2.2.2 with h | ⟨b, off, hh, _⟩
      · exact h
      · cases hh
    subst hl
    clear h
    have ke := fun (w : World) (n c : Nat) => Lib.run_eql_slice_nil (P := Try.prog) w 33 _ none n c 0 0 Try.underlying33
    go_enter Try.func55, Try.ntmps55
    go_wp2_with (fail)
    go_ret
    exact ⟨_, rfl, World.ownsRow_nil _ _ _ _, Below.refl _ _⟩
  · have ke := fun (w : World) (n c : Nat) => Lib.run_eql_slice_nil (P := Try.prog) w 33 _ (some ad) n c 0 0 Try.underlying33
    go_enter Try.func55, Try.ntmps55
    go_wp2_with ((at_builtin; refine Stop.out ?_))
    refine Stop.mk (wpList_app _ rfl (.tmp 5) (.tmp 6) EB rfl w.heap.size (.slice (some ⟨w.heap.size, 0, none⟩) 0 0) 0 [] rfl (World.ownsRow_lit w #[] 0 (Nat.le_refl _) (by unfold maxLen; omega) (by simp)) (some ad) l.length c (l.flatMap Node.cells) rfl (Src.of_in Node.cells_len (by omega) (h.alloc _)) (nodes_one _) (by omega) ?_ ?_)
    · simp only [World.size_alloc]; omega
    intro v2 w2 own2 _ hb2 _
    rw [Nat.zero_add, List.nil_append] at own2
    have hb3 : Below w.heap.size w w2 := Below.trans (b := w.alloc (.cells #[] 94)) (by repeat (first | exact Below.refl _ _ | refine Below.drew ?_ | refine Below.alloc ?_ (by first | omega | (simp; done) | (simp; omega)) _ | refine Below.setCell ?_ (by first | omega | (simp; done) | (simp; omega)) _ | refine Below.trans ?_ (Below.mono (by assumption) (by first | omega | (simp; done) | (simp; omega))))) hb2
    go_wp2_with (fail)
    go_ret
    exact ⟨_, rfl, own2, hb3⟩
theorem Kid.cells_len (x : Kid) : x.cells.length = 1 := rfl
end Go.Proofs.Ytldoedmclfbgpaa
namespace Go.Proofs.Ytldoedmclfbgpaa
open Go.RowKit

set_option maxHeartbeats 1000000 in
theorem c_ref10_Depth (n : Nat) : ∀ (l : List Node) (A : Option Addr) (c : Nat) (w : World), l.length ≤ n → InN w A c l →
    Calls Try.prog 53 #[.slice A l.length c] w (RetV w (.int .i64 (depth l))) := by
  induction n with
  | zero =>
    intro l A c w hn h
    have h0 : l.length = 0 := by omega
    have H : Hid (depth l = 0) := by have := List.eq_nil_of_length_eq_zero h0; subst this; rfl
    go_enter Try.func53, Try.ntmps53
    go_wp2_with (fail)
    go_ret
    exact RetV.int H.out.symm (Below.refl _ _)
  | succ n ih =>
    intro l A c w hn h
    have IH := Lib.hid ih
    clear ih
    have hL := h.1
    have hC := h.2.1
    have hS := h.2.2.1
    by_cases h0 : l.length = 0
    · have H : Hid (depth l = 0) := by have := List.eq_nil_of_length_eq_zero h0; subst this; rfl
      go_enter Try.func53, Try.ntmps53
      go_wp2_with (fail)
      go_ret
      exact RetV.int H.out.symm (Below.refl _ _)
    have hl0 : ((l.length : Int) == 0) = false := by simpa using h0
    by_cases h1 : endAt l 0 = l.length
    case neg =>
      have H : Hid (depth l = 0) := by unfold Hid depth; rw [if_pos (.inr h1)]
      have hne : ((endAt l 0 : Int) != (l.length : Int)) = true := by simpa using h1
      go_enter Try.func53, Try.ntmps53
      go_wp2_with (go_at_call 52; refine (c_ref10_End l A c 0 _ h).mono ?_; rintro e w1 ⟨rfl, hb1⟩)
      go_ret
      exact RetV.int H.out.symm (by repeat (first | exact Below.refl _ _ | refine Below.drew ?_ | refine Below.alloc ?_ (by first | omega | (simp; done) | (simp; omega)) _ | refine Below.setCell ?_ (by first | omega | (simp; done) | (simp; omega)) _ | refine Below.trans ?_ (Below.mono (by assumption) (by first | omega | (simp; done) | (simp; omega)))))
    obtain ⟨d, ht⟩ := tree_of_end (by rintro rfl; simp at h0) h1
    have hlt : 0 < l.length := by omega
    have hdt := depth_tree ht
    obtain ⟨x, r, d', hl, htr, hd⟩ := ht.head
    have hx : l[0] = x := by subst hl; rfl
    have hr : l.drop 1 = r := by subst hl; rfl
    rw [← hx, ← hr] at htr
    obtain ⟨hc1, hc2, hc3⟩ := cut_trees htr
    have hdc := depth_cut htr 0 (by omega)
    have hne : ((endAt l 0 : Int) != (l.length : Int)) = false := by simpa using h1
    obtain ⟨ks, hks⟩ : ∃ ks, cut (parts l[0].op).toNat (l.drop (0 + 1)) = ks := ⟨_, rfl⟩
    have hks' : cut (parts l[0].op).toNat (l.drop 1) = ks := hks
    rw [hks'] at hc1 hc2 hc3 hdc
    have hkl : ∀ k ∈ ks, k.length ≤ n := by
      intro k hk
      have := flatten_len ks k hk
      have h2 := congrArg List.length hc2
      simp only [List.append_nil, List.length_drop] at h2
      omega
    have HD : Hid (depth l = (ks.map depth).foldl max 0 + 1) := by
      show _ = _
      rw [hdt, hdc, hd]; omega
    have Hks := Lib.hid hks
    have Hkl := Lib.hid hkl
    have htr0 := Lib.hid htr
    have hp2 := parts_bd l[0].op
    have hkl2 : ks.length ≤ 2 := by omega
    have hpos : ∀ k, 0 ≤ depth k := fun k => (depth_bd k).1
    have hbd : ∀ k ∈ ks, depth k ≤ 4294967296 := by
      intro k hk
      have h3 := (depth_bd k).2
      have h4 := flatten_len ks k hk
      have h2 := congrArg List.length hc2
      simp only [List.append_nil, List.length_drop] at h2
      omega
    have Hpos := Lib.hid hpos
    have Hbd := Lib.hid hbd
    clear h1 ht hdt hl htr hd hx hr hc1 hc2 hc3 hdc hks hks' hkl hp2 hpos hbd
    go_enter Try.func53, Try.ntmps53
    go_wp2_with (go_at_call 52; refine (c_ref10_End l A c 0 _ h).mono ?_; rintro e w1 ⟨rfl, hb1⟩)
    refine (c_ref10_Kids l 0 A c _ (h.below hb1) hlt _ _ htr0.out).mono ?_
    rintro e w2 ⟨os, hos, ⟨v, rfl, own, hb2⟩, hin⟩
    rw [Hks.out] at hos
    have hol : os.length = ks.length := by rw [← hos]; simp
    obtain ⟨Av, cv, rfl, hv1, hv2⟩ := own_form own
    have Hb2 := Lib.hid hb2
    have Own := Lib.hid own
    have Hin := Lib.hid hin
    have Hos := Lib.hid hos
    have hbw : Below w.heap.size w w2 := by refine Below.trans hb1 (hb2.mono hb1.size)
    have Hbw := Lib.hid hbw
    have hol2 : os.length ≤ 2 := by omega
    have Hol := Lib.hid hol
    clear hb1 hb2 own hin hos hol hbw
    go_wp2_with (fail)
    go_loopw [4, 5] (fun m i wr => ∃ (k : Nat) (dm : Int), k ≤ os.length ∧ i = .int .i64 k ∧ m = .int .i64 dm ∧ 0 ≤ dm ∧ dm ≤ 4294967296 ∧ Hid (((ks.take k).map depth).foldl max 0 = dm) ∧ Below w2.heap.size w2 wr)
      (fun _ i _ => os.length - (intOf i).toNat)
    case atStart => exact ⟨0, 0, by omega, rfl, rfl, by omega, by omega, rfl, Below.refl _ _⟩
    case round =>
      obtain ⟨k, dm, hk, rfl, rfl, hd0, hd1, HM, hbl⟩ := hrel
      have hbz := hbl.size
      by_cases hlt2 : k < os.length
      · have hlk : k < ks.length := by have := Hol.out; omega
        have hkk : (os[k]).2.2 = ks[k] := by
          have := Hos.out
          subst this
          simp
        obtain ⟨g, cg, he, hg1, hg2, hg3, hg4⟩ := own_form' Own.out (by omega)
        have hAv : Av = some ⟨g, 0, none⟩ := by simp only [Value.slice.injEq] at he; exact he.1
        subst hAv
        have hcell : wr.cell? ⟨g, k, none⟩ = some (.slice os[k].1 os[k].2.2.length os[k].2.1) := by
          have h1 := Own.out.cells (g := g) rfl k
          rw [add_lit] at h1
          rw [hbl.cell (p := ⟨g, k, none⟩) hg4]
          refine h1 _ ?_
          have := flat_get (k := 1) (cs := Kid.cells) (fun _ => rfl) os k hlt2 0 (by omega)
          rw [Nat.mul_one, Nat.add_zero] at this
          rw [this]; rfl
        have hin := Hin.out os[k] (List.getElem_mem hlt2)
        have hle : (os[k]).2.2.length ≤ n := by rw [hkk]; exact Hkl.out _ (List.getElem_mem hlk)
        have hm2 : depth (os[k]).2.2 = depth ks[k] := by rw [hkk]
        have hpk := Hpos.out ks[k]
        have hbk := Hbd.out ks[k] (List.getElem_mem hlk)
        have Hm2 := Lib.hid hm2
        have Hin2 := Lib.hid (hin.below hbl)
        clear hin hkk hm2 he
        go_wp2_with (go_at_call 53; refine (IH.out _ _ _ _ hle Hin2.out).mono ?_; rintro e w3 ⟨rfl, hb3⟩; rw [Hm2.out])
        go_roundw
        case rel =>
          refine ⟨k + 1, _, by omega, by go_num, rfl, by omega, by omega, ?_, (by repeat (first | exact Below.refl _ _ | refine Below.drew ?_ | refine Below.alloc ?_ (by first | omega | (simp; done) | (simp; omega)) _ | refine Below.setCell ?_ (by first | omega | (simp; done) | (simp; omega)) _ | refine Below.trans ?_ (Below.mono (by assumption) (by first | omega | (simp; done) | (simp; omega)))))⟩
          show _ = _
          rw [List.take_succ_eq_append_getElem hlk, List.map_append, List.foldl_append, HM.out]
          rfl
        case measure => simp [intOf]; omega
      · have HM2 : Hid ((ks.map depth).foldl max 0 = dm) := by
          have h1 := HM.out
          rw [List.take_of_length_le (by have := Hol.out; omega)] at h1
          exact h1
        clear HM
        go_wp2_with (fail)
        go_ret
        refine RetV.int ?_ (Below.trans Hbw.out (hbl.mono Hbw.out.size))
        rw [HD.out, HM2.out]
set_option maxHeartbeats 1000000 in
theorem c_ref10_Check (l : List Node) (A : Option Addr) (c : Nat) (w : World) (h : InN w A c l) (hs : ∀ x ∈ l, x.v.s.length ≤ 9223372036854775807) :
    Calls Try.prog 15 #[.slice A l.length c] w (RetV w (.int .i64 (check l))) := by
  have hL := h.1
  have hC := h.2.1
  have hS := h.2.2.1
  have Hs := Lib.hid hs
  clear hs
  by_cases h31 : 31 < l.length
  · have H : Hid (check l = 4) := by unfold Hid check; rw [if_pos h31]
    go_enter Try.func15, Try.ntmps15
    go_wp2_with (fail)
    go_ret
    exact RetV.int H.out.symm (Below.refl _ _)
  have h31b : decide (31 < (l.length : Int)) = false := by simp; omega
  have hlt31 : l.length ≤ 31 := by omega
  have HC : Hid (check l = if (l.any fun x => !x.ok) = true then 1 else if l.length = 0 ∨ endAt l 0 ≠ l.length then 1 else if 8 < depth l then 5 else 0) := by
    unfold Hid check
    rw [if_neg h31]
    by_cases h1 : l.length = 0 ∨ endAt l 0 ≠ l.length <;> by_cases h2 : (l.any fun x => !x.ok) = true <;> simp only [h1, h2, if_true, if_false, ite_self]
  clear h31
  go_enter Try.func15, Try.ntmps15
  go_wp2_with (fail)
  go_loopw [3] (fun i wr => ∃ k : Nat, k ≤ l.length ∧ i = .int .i64 k ∧ Hid (((l.take k).any fun x => !x.ok) = false) ∧ Below w.heap.size w wr) (fun i _ => l.length - (intOf i).toNat)
  case atStart => exact ⟨0, by omega, rfl, by simp [Hid], Below.refl _ _⟩
  case round =>
    obtain ⟨k, hk, rfl, H, hbl⟩ := hrel
    have hbz := hbl.size
    by_cases hlt : k < l.length
    · obtain ⟨b, off, rfl, hb, hrow⟩ := h.at hlt
      obtain ⟨e0, e1, e2, e3, e4⟩ := (hrow.below hbl hb).node hlt rfl
      have hs1 := Hs.out l[k] (List.getElem_mem hlt)
      clear h
      cases hok : l[k].ok
      · have H1 : Hid (check l = 1) := by
          unfold Hid
          rw [HC.out, if_pos]
          rw [List.any_eq_true]
          exact ⟨l[k], List.getElem_mem hlt, by simp [hok]⟩
        go_wp2_with (go_at_call 51; refine (c_ref10_Node l[k] _ hs1).mono ?_; rintro e w1 ⟨rfl, hb1⟩)
        go_ret
        exact RetV.int H1.out.symm (by repeat (first | exact Below.refl _ _ | refine Below.drew ?_ | refine Below.alloc ?_ (by first | omega | (simp; done) | (simp; omega)) _ | refine Below.setCell ?_ (by first | omega | (simp; done) | (simp; omega)) _ | refine Below.trans ?_ (Below.mono (by assumption) (by first | omega | (simp; done) | (simp; omega)))))
      · go_wp2_with (go_at_call 51; refine (c_ref10_Node l[k] _ hs1).mono ?_; rintro e w1 ⟨rfl, hb1⟩)
        go_roundw
        case rel =>
          refine ⟨k + 1, by omega, by go_num, ?_, (by repeat (first | exact Below.refl _ _ | refine Below.drew ?_ | refine Below.alloc ?_ (by first | omega | (simp; done) | (simp; omega)) _ | refine Below.setCell ?_ (by first | omega | (simp; done) | (simp; omega)) _ | refine Below.trans ?_ (Below.mono (by assumption) (by first | omega | (simp; done) | (simp; omega)))))⟩
          show List.any _ _ = false
          rw [List.take_succ_eq_append_getElem hlt, List.any_append, H.out]
          simp [hok]
        case measure => simp [intOf]; omega
    · have HC2 : Hid (check l = if l.length = 0 ∨ endAt l 0 ≠ l.length then 1 else if 8 < depth l then 5 else 0) := by
        have h1 := H.out
        rw [List.take_of_length_le (by omega)] at h1
        unfold Hid
        rw [HC.out, h1]; simp
      clear H HC
      go_wp2_with (first
        | (go_at_call 52; refine (c_ref10_End l A c 0 _ (h.below hbl)).mono ?_; rintro e w1 ⟨rfl, hb1⟩)
        | (go_at_call 53; refine (c_ref10_Depth l.length l A c _ (Nat.le_refl _) ((h.below hbl).below hb1)).mono ?_; rintro e w3 ⟨rfl, hb3⟩))
      all_goals (go_ret; (try have hz1 := hb1.size); refine RetV.int ?_ (by repeat (first | exact Below.refl _ _ | refine Below.drew ?_ | refine Below.alloc ?_ (by first | omega | (simp; done) | (simp; omega)) _ | refine Below.setCell ?_ (by first | omega | (simp; done) | (simp; omega)) _ | refine Below.trans ?_ (Below.mono (by assumption) (by first | omega | (simp; done) | (simp; omega))))); have HC3 := HC2.out; (try simp only [ne_eq] at *); (simp_all [] <;> first | omega | (intros; omega) | decide | grind))
end Go.Proofs.Ytldoedmclfbgpaa
namespace Go.Proofs.Ytldoedmclfbgpaa
open Go.RowKit

theorem InN.lit (w : World) (l : List Node) (t : TypeId) (n : Nat) (hn : n = l.length) (hl : l.length ≤ 4294967296) : InN (w.alloc (.cells (l.flatMap Node.cells).toArray t)) (some ⟨w.heap.size, 0, none⟩) n l := by
  subst hn
  refine ⟨Nat.le_refl _, by omega, hl, .inr ⟨_, 0, rfl, by simp, fun i hi j u hu => ?_⟩⟩
  have hj : j < 5 := by rw [← Node.cells_len l[i]]; exact (List.getElem?_eq_some_iff.1 hu).1
  rw [World.cell?_alloc_new, Nat.zero_add]
  have := flat_get (k := 5) Node.cells_len l i hi j hj
  rw [List.getElem?_toArray, this]; exact hu
end Go.Proofs.Ytldoedmclfbgpaa
namespace Go.Proofs.Ytldoedmclfbgpaa
open Go.RowKit

theorem In.lit {α : Type} {k : Nat} {cs : α → List Value} (hk : ∀ x, (cs x).length = k) (w : World) (l : List α) (t : TypeId) (n : Nat) (hn : n = l.length) (hl : l.length ≤ 4294967296) : In k cs (w.alloc (.cells (l.flatMap cs).toArray t)) (some ⟨w.heap.size, 0, none⟩) n l := by
  subst hn
  refine ⟨Nat.le_refl _, by omega, hl, .inr ⟨_, 0, rfl, by simp, fun i hi j u hu => ?_⟩⟩
  have hj : j < k := by rw [← hk l[i]]; exact (List.getElem?_eq_some_iff.1 hu).1
  rw [World.cell?_alloc_new, Nat.zero_add]
  have := flat_get (k := k) hk l i hi j hj
  rw [List.getElem?_toArray, this]; exact hu
set_option maxHeartbeats 400000 in
theorem c_ref10_Check_long (n : Nat) (A : Option Addr) (c : Nat) (w : World) (hn : 31 < n) (_hL : n ≤ c) (_hC : c ≤ 9223372036854775807) :
    Calls Try.prog 15 #[.slice A n c] w (RetV w (.int .i64 4)) := by
  go_enter Try.func15, Try.ntmps15
  go_wp2_with (fail)
  go_ret
  exact RetV.int rfl (by repeat (first | exact Below.refl _ _ | refine Below.drew ?_ | refine Below.alloc ?_ (by first | omega | (simp; done) | (simp; omega)) _ | refine Below.setCell ?_ (by first | omega | (simp; done) | (simp; omega)) _ | refine Below.trans ?_ (Below.mono (by assumption) (by first | omega | (simp; done) | (simp; omega)))))
theorem check_any (a : List Node) (A : Option Addr) (ca : Nat) (w : World) (hl : a.length ≤ ca) (hc : ca ≤ 9223372036854775807) (hr : a = [] ∨ ∃ b off, A = some ⟨b, off, none⟩ ∧ b < w.heap.size ∧ Row 5 Node.cells w b off a) (hs : ∀ x ∈ a, x.v.s.length ≤ 9223372036854775807) :
    ∃ ea : Int, (∀ w', Below w.heap.size w w' → Calls Try.prog 15 #[.slice A a.length ca] w' (RetV w' (.int .i64 ea))) ∧ (ea = 0 → InN w A ca a ∧ check a = 0) := by
  by_cases h : 31 < a.length
  · exact ⟨4, fun w' _ => c_ref10_Check_long a.length A ca w' h hl hc, fun e => by omega⟩
  · have hin : InN w A ca a := ⟨hl, hc, by omega, hr⟩
    exact ⟨check a, fun w' hb => c_ref10_Check a A ca w' (hin.below hb) hs, fun e => ⟨hin, e⟩⟩
end Go.Proofs.Ytldoedmclfbgpaa
namespace Go.Proofs.Ytldoedmclfbgpaa
open Go.RowKit

set_option maxHeartbeats 400000 in
theorem c_isNaN_int (x : Int) (w : World) : Calls Try.prog 214 #[.int .i64 x] w (RetV w (.bool false)) := by
  go_enter Try.func214, Try.ntmps214
  go_wp2_with (fail)
  go_ret
  exact RetV.bool (by simp) (by repeat (first | exact Below.refl _ _ | refine Below.drew ?_ | refine Below.alloc ?_ (by first | omega | (simp; done) | (simp; omega)) _ | refine Below.setCell ?_ (by first | omega | (simp; done) | (simp; omega)) _ | refine Below.trans ?_ (Below.mono (by assumption) (by first | omega | (simp; done) | (simp; omega)))))
set_option maxHeartbeats 400000 in
theorem c_isNaN_string (s : List UInt8) (w : World) : Calls Try.prog 215 #[.string (str s)] w (RetV w (.bool false)) := by
  go_enter Try.func215, Try.ntmps215
  go_wp2_with (fail)
  go_ret
  exact RetV.bool (by simp) (by repeat (first | exact Below.refl _ _ | refine Below.drew ?_ | refine Below.alloc ?_ (by first | omega | (simp; done) | (simp; omega)) _ | refine Below.setCell ?_ (by first | omega | (simp; done) | (simp; omega)) _ | refine Below.trans ?_ (Below.mono (by assumption) (by first | omega | (simp; done) | (simp; omega)))))
set_option maxHeartbeats 400000 in
theorem c_cmp_int (a b : Int) (w : World) : Calls Try.prog 197 #[.int .i64 a, .int .i64 b] w (RetV w (.int .i64 (cmpI a b))) := by
  have hc : (a < b ∧ Hid (cmpI a b = -1)) ∨ (a = b ∧ Hid (cmpI a b = 0)) ∨ (b < a ∧ Hid (cmpI a b = 1)) := by
    rcases Int.lt_trichotomy a b with h | h | h
    · exact .inl ⟨h, cmpI_lt h⟩
    · exact .inr (.inl ⟨h, cmpI_eq h⟩)
    · exact .inr (.inr ⟨h, cmpI_gt h⟩)
  rcases hc with ⟨h, H⟩ | ⟨rfl, H⟩ | ⟨h, H⟩
  all_goals (
    go_enter Try.func197, Try.ntmps197
    go_wp2_with (fail)
    refine (c_isNaN_int _ _).mono ?_
    rintro e w1 ⟨rfl, hb1⟩
    have hz1 := hb1.size
    go_wp2_with (fail)
    refine (c_isNaN_int _ _).mono ?_
    rintro e w2 ⟨rfl, hb2⟩
    go_wp2_with (fail)
    all_goals first
      | (exfalso; omega)
      | (go_ret; exact RetV.int H.out.symm (by repeat (first | exact Below.refl _ _ | refine Below.drew ?_ | refine Below.alloc ?_ (by first | omega | (simp; done) | (simp; omega)) _ | refine Below.setCell ?_ (by first | omega | (simp; done) | (simp; omega)) _ | refine Below.trans ?_ (Below.mono (by assumption) (by first | omega | (simp; done) | (simp; omega)))))))
set_option maxHeartbeats 400000 in
theorem c_cmp_string (a b : List UInt8) (w : World) : Calls Try.prog 198 #[.string (str a), .string (str b)] w (RetV w (.int .i64 (cmpS a b))) := by
  have hbd := cmpS_bd a b
  have hneg := cmpS_neg a b
  have l1 := bytesLess_cmp a b
  have l2 := beq_cmp a b
  have hc : (Op.bytesLess a b = true ∧ (a == b) = false ∧ Hid (cmpS a b = -1)) ∨ (Op.bytesLess a b = false ∧ (a == b) = true ∧ Hid (cmpS a b = 0)) ∨ (Op.bytesLess a b = false ∧ (a == b) = false ∧ Hid (cmpS a b = 1)) := by
    have : cmpS a b = -1 ∨ cmpS a b = 0 ∨ cmpS a b = 1 := by omega
    rcases this with h | h | h
    · exact .inl ⟨by rw [l1, h]; rfl, by rw [l2, h]; rfl, h⟩
    · exact .inr (.inl ⟨by rw [l1, h]; rfl, by rw [l2, h]; rfl, h⟩)
    · exact .inr (.inr ⟨by rw [l1, h]; rfl, by rw [l2, h]; rfl, h⟩)
  clear hbd hneg l1 l2
  rcases hc with ⟨h1, h2, H⟩ | ⟨h1, h2, H⟩ | ⟨h1, h2, H⟩
  all_goals (
    go_enter Try.func198, Try.ntmps198
    go_wp2_with (fail)
    refine (c_isNaN_string _ _).mono ?_
    rintro e w1 ⟨rfl, hb1⟩
    have hz1 := hb1.size
    go_wp2_with (fail)
    refine (c_isNaN_string _ _).mono ?_
    rintro e w2 ⟨rfl, hb2⟩
    go_wp2_with (fail)
    go_ret
    exact RetV.int H.out.symm (by repeat (first | exact Below.refl _ _ | refine Below.drew ?_ | refine Below.alloc ?_ (by first | omega | (simp; done) | (simp; omega)) _ | refine Below.setCell ?_ (by first | omega | (simp; done) | (simp; omega)) _ | refine Below.trans ?_ (Below.mono (by assumption) (by first | omega | (simp; done) | (simp; omega))))))
set_option maxHeartbeats 1000000 in
theorem c_value_Compare (x y : Val) (w : World) : Calls Try.prog 176 #[x.val, y.val] w (RetV w (.int .i64 (x.cmp y))) := by
  unfold Val.val
  by_cases h1 : cmpI x.kind y.kind = 0
  · have b1 : (cmpI x.kind y.kind != 0) = false := by simpa using h1
    by_cases h2 : cmpI x.n y.n = 0
    · have b2 : (cmpI x.n y.n != 0) = false := by simpa using h2
      have H : Hid (cmpS x.s y.s = x.cmp y) := by show _ = _; unfold Val.cmp; rw [if_neg (by simpa using h1), if_neg (by simpa using h2)]
      clear h1 h2
      go_enter Try.func176, Try.ntmps176
      go_wp2_with (fail)
      refine (c_cmp_int _ _ _).mono ?_
      rintro e w1 ⟨rfl, hb1⟩
      have hz1 := hb1.size
      simp only [World.size_alloc] at hz1
      have q1 := fun o => hb1.cell (p := ⟨w.heap.size, o, none⟩) (by simp; omega)
      have r1 := fun o => hb1.cell (p := ⟨w.heap.size + 1, o, none⟩) (by simp)
      go_wp2_with (fail)
      refine (c_cmp_int _ _ _).mono ?_
      rintro e w2 ⟨rfl, hb2⟩
      have hz2 := hb2.size
      have q2 := fun o => hb2.cell (p := ⟨w.heap.size, o, none⟩) (by show w.heap.size < _; omega)
      have r2 := fun o => hb2.cell (p := ⟨w.heap.size + 1, o, none⟩) (by show w.heap.size + 1 < _; omega)
      go_wp2_with (fail)
      refine (c_cmp_string _ _ _).mono ?_
      rintro e w3 ⟨rfl, hb3⟩
      go_wp2_with (fail)
      go_ret
      exact RetV.int H.out (by repeat (first | exact Below.refl _ _ | refine Below.drew ?_ | refine Below.alloc ?_ (by first | omega | (simp; done) | (simp; omega)) _ | refine Below.setCell ?_ (by first | omega | (simp; done) | (simp; omega)) _ | refine Below.trans ?_ (Below.mono (by assumption) (by first | omega | (simp; done) | (simp; omega)))))
    · have b2 : (cmpI x.n y.n != 0) = true := by simpa using h2
      have H : Hid (cmpI x.n y.n = x.cmp y) := by show _ = _; unfold Val.cmp; rw [if_neg (by simpa using h1), if_pos h2]
      clear h1 h2
      go_enter Try.func176, Try.ntmps176
      go_wp2_with (fail)
      refine (c_cmp_int _ _ _).mono ?_
      rintro e w1 ⟨rfl, hb1⟩
      have hz1 := hb1.size
      simp only [World.size_alloc] at hz1
      have q1 := fun o => hb1.cell (p := ⟨w.heap.size, o, none⟩) (by simp; omega)
      have r1 := fun o => hb1.cell (p := ⟨w.heap.size + 1, o, none⟩) (by simp)
      go_wp2_with (fail)
      refine (c_cmp_int _ _ _).mono ?_
      rintro e w2 ⟨rfl, hb2⟩
      go_wp2_with (fail)
      go_ret
      exact RetV.int H.out (by repeat (first | exact Below.refl _ _ | refine Below.drew ?_ | refine Below.alloc ?_ (by first | omega | (simp; done) | (simp; omega)) _ | refine Below.setCell ?_ (by first | omega | (simp; done) | (simp; omega)) _ | refine Below.trans ?_ (Below.mono (by assumption) (by first | omega | (simp; done) | (simp; omega)))))
  · have b1 : (cmpI x.kind y.kind != 0) = true := by simpa using h1
    have H : Hid (cmpI x.kind y.kind = x.cmp y) := by show _ = _; unfold Val.cmp; rw [if_pos h1]
    clear h1
    go_enter Try.func176, Try.ntmps176
    go_wp2_with (fail)
    refine (c_cmp_int _ _ _).mono ?_
    rintro e w1 ⟨rfl, hb1⟩
    go_wp2_with (fail)
    go_ret
    exact RetV.int H.out (by repeat (first | exact Below.refl _ _ | refine Below.drew ?_ | refine Below.alloc ?_ (by first | omega | (simp; done) | (simp; omega)) _ | refine Below.setCell ?_ (by first | omega | (simp; done) | (simp; omega)) _ | refine Below.trans ?_ (Below.mono (by assumption) (by first | omega | (simp; done) | (simp; omega)))))
end Go.Proofs.Ytldoedmclfbgpaa
namespace Go.Proofs.Ytldoedmclfbgpaa
open Go.RowKit

theorem Val.less_no {a b : Val} (h : ¬ (a.kind = b.kind ∧ (a.kind = 1 ∨ a.kind = 2))) : a.less b = false := by
  unfold Val.less
  rw [Bool.and_eq_false_iff]
  left
  rw [Bool.and_eq_false_iff, Bool.or_eq_false_iff]
  simp only [decide_eq_false_iff_not]
  omega
theorem Val.less_yes {a b : Val} (h : a.kind = b.kind ∧ (a.kind = 1 ∨ a.kind = 2)) : a.less b = decide (a.cmp b < 0) := by
  unfold Val.less
  have h1 : decide (a.kind = b.kind) = true := by simpa using h.1
  have h2 : (decide (a.kind = 1) || decide (a.kind = 2)) = true := by simpa using h.2
  rw [h1, h2]; rfl
set_option maxHeartbeats 1000000 in
theorem c_value_Less (x y : Val) (w : World) : Calls Try.prog 149 #[x.val, y.val] w (RetV w (.bool (x.less y))) := by
  have CC := Lib.hid (fun w' => c_value_Compare x y w')
  unfold Val.val at CC ⊢
  by_cases h : x.kind = y.kind ∧ (x.kind = 1 ∨ x.kind = 2)
  · have H := Lib.hid (Val.less_yes h)
    have j1 : (x.kind != y.kind) = false := by simpa using h.1
    rcases h.2 with g | g
    · have j2 : (x.kind != 1) = false := by simpa using g
      clear h g
      go_enter Try.func149, Try.ntmps149
      go_wp2_with (fail)
      refine (CC.out _).mono ?_
      rintro e w1 ⟨rfl, hb1⟩
      go_wp2_with (fail)
      go_ret
      exact RetV.bool H.out.symm (by repeat (first | exact Below.refl _ _ | refine Below.drew ?_ | refine Below.alloc ?_ (by first | omega | (simp; done) | (simp; omega)) _ | refine Below.setCell ?_ (by first | omega | (simp; done) | (simp; omega)) _ | refine Below.trans ?_ (Below.mono (by assumption) (by first | omega | (simp; done) | (simp; omega)))))
    · have j2 : (x.kind != 1) = true := by simp; omega
      have j3 : (x.kind != 2) = false := by simpa using g
      clear h g
      go_enter Try.func149, Try.ntmps149
      go_wp2_with (fail)
      refine (CC.out _).mono ?_
      rintro e w1 ⟨rfl, hb1⟩
      go_wp2_with (fail)
      go_ret
      exact RetV.bool H.out.symm (by repeat (first | exact Below.refl _ _ | refine Below.drew ?_ | refine Below.alloc ?_ (by first | omega | (simp; done) | (simp; omega)) _ | refine Below.setCell ?_ (by first | omega | (simp; done) | (simp; omega)) _ | refine Below.trans ?_ (Below.mono (by assumption) (by first | omega | (simp; done) | (simp; omega)))))
  · rw [Val.less_no h]
    by_cases h1 : x.kind = y.kind
    · have j1 : (x.kind != y.kind) = false := by simpa using h1
      have j2 : (x.kind != 1) = true := by simp; omega
      have j3 : (x.kind != 2) = true := by simp; omega
      clear h h1
      go_enter Try.func149, Try.ntmps149
      go_wp2_with (fail)
      go_ret
      exact RetV.bool rfl (by repeat (first | exact Below.refl _ _ | refine Below.drew ?_ | refine Below.alloc ?_ (by first | omega | (simp; done) | (simp; omega)) _ | refine Below.setCell ?_ (by first | omega | (simp; done) | (simp; omega)) _ | refine Below.trans ?_ (Below.mono (by assumption) (by first | omega | (simp; done) | (simp; omega)))))
    · have j1 : (x.kind != y.kind) = true := by simpa using h1
      clear h h1
      go_enter Try.func149, Try.ntmps149
      go_wp2_with (fail)
      go_ret
      exact RetV.bool rfl (by repeat (first | exact Below.refl _ _ | refine Below.drew ?_ | refine Below.alloc ?_ (by first | omega | (simp; done) | (simp; omega)) _ | refine Below.setCell ?_ (by first | omega | (simp; done) | (simp; omega)) _ | refine Below.trans ?_ (Below.mono (by assumption) (by first | omega | (simp; done) | (simp; omega)))))
theorem lowC_nat (c : UInt8) : ((lowC c).toNat : Int) = if 65 ≤ c.toNat ∧ c.toNat ≤ 90 then (c.toNat : Int) + 32 else c.toNat := by
  unfold lowC
  have := c.toNat_lt
  split
  · rw [UInt8.toNat_ofNat']; omega
  · rfl
end Go.Proofs.Ytldoedmclfbgpaa
namespace Go.Proofs.Ytldoedmclfbgpaa
open Go.RowKit

/-- Bytes in a block that may be written. -/
def WrB (W : World) (e : TypeId) (b : Nat) (l : List UInt8) : Prop :=
  ∃ cs lo hi, W.heap[b]? = some (.cells cs e (lo, hi)) ∧ l.length ≤ lo ∧ ∀ i (h : i < l.length), cs[i]? = some (.int .u8 l[i].toNat)
theorem WrB.lt {W : World} {e : TypeId} {b : Nat} {l : List UInt8} (h : WrB W e b l) : b < W.heap.size := by
  obtain ⟨cs, lo, hi, h1, _⟩ := h
  exact (Array.getElem?_eq_some_iff.1 h1).1
theorem WrB.cell {W : World} {e : TypeId} {b : Nat} {l : List UInt8} (h : WrB W e b l) {k : Nat} (hk : k < l.length) : W.cell? ⟨b, k, none⟩ = some (.int .u8 l[k].toNat) := by
  obtain ⟨cs, lo, hi, h1, _, h3⟩ := h
  have := h3 k hk
  simp [World.cell?, h1, this]
theorem WrB.frozen {W : World} {e : TypeId} {b : Nat} {l : List UInt8} (h : WrB W e b l) {k : Nat} (hk : k < l.length) : W.frozen? ⟨b, k, none⟩ = false := by
  obtain ⟨cs, lo, hi, h1, h2, _⟩ := h
  simp [World.frozen?, h1]
  omega
theorem WrB.set {W : World} {e : TypeId} {b : Nat} {l : List UInt8} (h : WrB W e b l) (k : Nat) (x : UInt8) : WrB (W.setCell ⟨b, k, none⟩ (.int .u8 x.toNat)) e b (l.set k x) := by
  have hlt := h.lt
  obtain ⟨cs, lo, hi, h1, h2, h3⟩ := h
  have he : (W.setCell ⟨b, k, none⟩ (.int .u8 x.toNat)).heap[b]? = some (.cells (cs.setIfInBounds k (.int .u8 x.toNat)) e (lo, hi)) := by
    show (W.heap.modify b _)[b]? = _
    rw [Array.getElem?_eq_getElem (by rw [Array.size_modify]; exact hlt), Array.getElem_modify_self]
    rw [Array.getElem?_eq_getElem hlt] at h1
    injection h1 with h1
    rw [h1]; rfl
  refine ⟨_, lo, hi, he, by rw [List.length_set]; exact h2, fun i hi => ?_⟩
  rw [List.length_set] at hi
  have := h3 i hi
  rw [Array.getElem?_setIfInBounds]
  by_cases hik : k = i
  · subst hik
    rw [if_pos rfl, if_pos (Array.getElem?_eq_some_iff.1 this).1, List.getElem_set_self]
  · rw [if_neg hik, this, List.getElem_set_ne hik]
theorem WrB.below {W W' : World} {e : TypeId} {b : Nat} {l : List UInt8} (h : WrB W e b l) (hb : Below W.heap.size W W') : WrB W' e b l := by
  have hlt := h.lt
  obtain ⟨cs, lo, hi, h1, h2⟩ := h
  exact ⟨cs, lo, hi, (hb.block b hlt).trans h1, h2⟩
theorem WrB.reads {W : World} {e : TypeId} {b c : Nat} {l : List UInt8} (h : WrB W e b l) (h1 : l.length ≤ c) (h2 : c ≤ 9223372036854775807) (h3 : l.length ≤ 4294967296) : InB W (some ⟨b, 0, none⟩) c l := by
  refine ⟨h1, h2, h3, .inr ⟨b, 0, rfl, h.lt, fun i hi j u hu => ?_⟩⟩
  have hj : j < 1 := (List.getElem?_eq_some_iff.1 hu).1
  have h0 : j = 0 := by omega
  subst h0
  simp only [bc, List.getElem?_cons_zero, Option.some.injEq] at hu
  rw [show 0 + i * 1 + 0 = i by omega, ← hu]
  exact h.cell hi
theorem wpList_strbytesW {P : Program} {w : World} {ops : Array Oper} {rest : List Oper} {o : Oper} {a : Act} {Q : Exit → Act → World → Prop} (hgd : o.guard = none) (src dst : TypeId) (x : Operand) (ho : o.op = .convert src dst x)
    {e : TypeId} (hs : P.underlying src = some .string) (hd : P.underlying dst = some (.slice e)) (he : P.underlying e = some (.int .u8)) (l : List UInt8) (hx : a.eval x = .string (str l)) (hl : l.length ≤ 4294967296)
    (h : ∀ c w', l.length ≤ c → c ≤ 9223372036854775807 → Below w.heap.size w w' → w'.heap.size = w.heap.size + 1 → WrB w' e w.heap.size l → wpList P ops Q rest (a.put o.dst (.slice (some ⟨w.heap.size, 0, none⟩) l.length c)) w') : wpList P ops Q (o :: rest) a w := by
  refine wpList_plain hgd fun K hK => ?_
  have hrun := run_bytes_of_string (P := P) w src dst e (str l) hs hd he
  have hge := grownCap_ge w (str l).size 0 e
  have hcm := grownCap_le_maxLen w (str l).size 0 e (by rw [str_size]; unfold maxLen; omega)
  rw [str_size] at hrun hge hcm
  unfold Oper.wp execOp
  simp only [ho, hx, hrun, Sem.run_bind, Sem.run_pure, Result.andThen_ok]
  refine hK _ _ (h _ _ hge (by unfold maxLen at hcm; omega) (((Below.refl _ _).drew).alloc (Nat.le_refl _) _) (World.size_alloc _ _) ⟨_, _, _, heap_alloc_new w.drew _, ?_, fun i hi => ?_⟩)
  · have e : (bytesRow (str l) (grownCap w l.length 0 e)).size = l.length + (grownCap w l.length 0 e - l.length) := by
      unfold bytesRow
      rw [Array.size_append, Array.size_map, Array.size_replicate, str_size]
      show l.toArray.size + _ = _
      simp
    omega
  · have hb := bytesRow_at (str l) (grownCap w l.length 0 e) i (by show i < l.toArray.size; simpa using hi)
    rw [hb]
    rfl
theorem fold_snoc {s : List UInt8} {k : Nat} (hk : k < s.length) : fold (s.take (k + 1)) = fold (s.take k) ++ [lowC s[k]] := by
  unfold fold
  rw [List.take_succ_eq_append_getElem hk, List.map_append]; rfl
/-- A text of which the first bytes have been made small. -/
def foldTo (s : List UInt8) (k : Nat) : List UInt8 := fold (s.take k) ++ s.drop k
theorem foldTo_len (s : List UInt8) {k : Nat} (hk : k ≤ s.length) : (foldTo s k).length = s.length := by unfold foldTo; rw [List.length_append, fold_len, List.length_take, List.length_drop]; omega
theorem foldTo_get (s : List UInt8) {k : Nat} (hk : k < s.length) : (foldTo s k)[k]'(by rw [foldTo_len s (by omega)]; exact hk) = s[k] := by
  unfold foldTo
  rw [List.getElem_append_right (by rw [fold_len, List.length_take]; omega)]
  simp [fold_len, List.length_take, Nat.min_eq_left (Nat.le_of_lt hk)]
theorem foldTo_set (s : List UInt8) {k : Nat} (hk : k < s.length) : (foldTo s k).set k (lowC s[k]) = foldTo s (k + 1) := by
  unfold foldTo
  have hl : (fold (s.take k)).length = k := by rw [fold_len, List.length_take]; omega
  rw [List.set_append_right _ _ (by omega), hl, Nat.sub_self, List.drop_eq_getElem_cons hk, List.set_cons_zero, fold_snoc hk, List.append_assoc]; rfl
theorem foldTo_same (s : List UInt8) {k : Nat} (hk : k < s.length) (h : lowC s[k] = s[k]) : foldTo s k = foldTo s (k + 1) := by
  unfold foldTo
  rw [List.drop_eq_getElem_cons hk, fold_snoc hk, h, List.append_assoc]; rfl
theorem foldTo_end (s : List UInt8) : foldTo s s.length = fold s := by unfold foldTo; rw [List.take_length, List.drop_length, List.append_nil]
set_option maxHeartbeats 1000000 in
set_option maxRecDepth 4000 in
theorem c_value_Fold (s : List UInt8) (w : World) (hs : s.length ≤ 1000000) : Calls Try.prog 178 #[.string (str s)] w (RetV w (.string (str (fold s)))) := by
  go_enter Try.func178, Try.ntmps178
  go_wp2_with (with_reducible refine stop_conv 9 27 (.tmp 6) rfl rfl ?_)
  refine Stop.mk (wpList_strbytesW rfl _ _ (.tmp 6) rfl Try.underlying9 Try.underlying27 Try.underlying5 s rfl (by omega) ?_)
  intro c w1 hc1 hc2 hb1 hz1 hwr
  have B1 := Lib.hid hb1
  have W1 := Lib.hid hwr
  clear hb1 hwr
  go_wp2_with (fail)
  go_loopw [4, 5, 10] (fun _ _ i wr => ∃ k : Nat, k ≤ s.length ∧ i = .int .i64 k ∧ Hid (WrB wr 5 w.heap.size (foldTo s k)) ∧ Hid (Below w.heap.size w wr)) (fun _ _ i _ => s.length - (intOf i).toNat)
  case atStart => exact ⟨0, by omega, rfl, by show WrB _ _ _ _; unfold foldTo; simpa [fold] using W1.out, B1.out⟩
  case round =>
    obtain ⟨k, hk, rfl, HW, HB⟩ := hrel
    by_cases hlt : k < s.length
    · have hlen := foldTo_len s hk
      have hb0 := HW.out.lt
      have e0 := HW.out.cell (k := k) (by omega)
      rw [foldTo_get s hlt] at e0
      have f0 := HW.out.frozen (k := k) (by omega)
      have h256 := s[k].toNat_lt
      obtain ⟨x, hx⟩ : ∃ x, x = s[k] := ⟨_, rfl⟩
      rw [← hx] at e0 h256
      have HX := Lib.hid hx
      clear hx hlen
      have hk0 : (0 : Int) ≤ (k : Int) := by omega
      have hk1 : (k : Int) < (s.length : Int) := by omega
      by_cases h1 : 65 ≤ x.toNat
      · by_cases h2 : x.toNat ≤ 90
        · have d1 : decide ((65 : Int) ≤ (x.toNat : Int)) = true := by simp; omega
          have d2 : decide ((x.toNat : Int) ≤ 90) = true := by simp; omega
          have HL := Lib.hid (show (x.toNat : Int) + 97 - 65 = ((lowC x).toNat : Int) by rw [lowC_nat, if_pos ⟨h1, h2⟩]; omega)
          go_wp2_with (fail)
          go_roundw
          case rel =>
            refine ⟨k + 1, by omega, by go_num, ?_, HB.out.setCell (by simp) _⟩
            show WrB _ _ _ _
            rw [← foldTo_set s hlt, ← HX.out, HL.out]
            exact HW.out.set k _
          case measure => simp [intOf]; omega
        · have d1 : decide ((65 : Int) ≤ (x.toNat : Int)) = true := by simp; omega
          have d2 : decide ((x.toNat : Int) ≤ 90) = false := by simp; omega
          go_wp2_with (fail)
          go_roundw
          case rel =>
            refine ⟨k + 1, by omega, by go_num, ?_, HB.out⟩
            show WrB _ _ _ _
            rw [← foldTo_same s hlt (by rw [← HX.out]; unfold lowC; rw [if_neg (by omega)])]
            exact HW.out
          case measure => simp [intOf]; omega
      · have d1 : decide ((65 : Int) ≤ (x.toNat : Int)) = false := by simp; omega
        go_wp2_with (fail)
        go_roundw
        case rel =>
          refine ⟨k + 1, by omega, by go_num, ?_, HB.out⟩
          show WrB _ _ _ _
          rw [← foldTo_same s hlt (by rw [← HX.out]; unfold lowC; rw [if_neg (by omega)])]
          exact HW.out
        case measure => simp [intOf]; omega
    · obtain rfl : k = s.length := by omega
      have HS := Lib.hid (foldTo_end s)
      have hle := foldTo_len s (Nat.le_refl s.length)
      have kc := conv_str (P := Try.prog) wr Try.underlying27 Try.underlying5 Try.underlying9 (HW.out.reads (c := c) (by omega) hc2 (by omega))
      rw [hle, HS.out] at kc
      clear hlt hle
      go_wp2_with (fail)
      go_ret
      exact RetV.str rfl HB.out
end Go.Proofs.Ytldoedmclfbgpaa
namespace Go.Proofs.Ytldoedmclfbgpaa
open Go.RowKit

/-- Does a text stand in another one? -/
def Val.holds (v p : Val) : Bool := decide (v.kind = 2) && decide (p.kind = 2) && Lib.contains (fold v.s) (fold p.s)
theorem Val.holds_no {v p : Val} (h : ¬ (v.kind = 2 ∧ p.kind = 2)) : v.holds p = false := by
  unfold Val.holds
  rw [Bool.and_eq_false_iff]
  left
  rw [Bool.and_eq_false_iff, decide_eq_false_iff_not, decide_eq_false_iff_not]
  omega
theorem Val.holds_yes {v p : Val} (h1 : v.kind = 2) (h2 : p.kind = 2) : v.holds p = Lib.contains (fold v.s) (fold p.s) := by
  unfold Val.holds
  rw [decide_eq_true h1, decide_eq_true h2]; rfl
set_option maxHeartbeats 1000000 in
theorem c_value_Holds (x y : Val) (w : World) (hM : MaxV w) (hx : x.s.length ≤ 1000000) (hy : y.s.length ≤ 1000000) : Calls Try.prog 152 #[x.val, y.val] w (RetV w (.bool (x.holds y))) := by
  have HM := Lib.hid (fun w' (hb : Below w.heap.size w w') => hM.below hb)
  have hfx := fold_len x.s
  unfold Val.val
  by_cases h1 : x.kind = 2
  · have j1 : (x.kind == 2) = true := by simpa using h1
    by_cases h2 : y.kind = 2
    · have j2 : (y.kind == 2) = true := by simpa using h2
      have H := Lib.hid (Val.holds_yes h1 h2)
      clear h1 h2
      go_enter Try.func152, Try.ntmps152
      go_wp2_with (fail)
      refine wp_region_grow (by kernel_rfl) (by kernel_rfl) ?_
      repeat (quiet_step ((first | (go_at_call 178; exact quiet_grow (c_value_Fold _ _ (by omega))) | (go_at_call 177; exact quiet_grow (c_Contains _ _ _ (HM.out _ (Below.trans (by repeat (first | exact Below.refl _ _ | refine Below.drew ?_ | refine Below.alloc ?_ (by first | omega | (simp; done) | (simp; omega)) _ | refine Below.setCell ?_ (by first | omega | (simp; done) | (simp; omega)) _ | refine Below.trans ?_ (Below.mono (by assumption) (by first | omega | (simp; done) | (simp; omega))))) ((grow_below _ _).mono (by simp; omega)))) (by omega))))))
      refine wpQuiet_nil ?_
      intro w2 hb2
      go_wp2_with (fail)
      go_ret
      exact RetV.bool H.out.symm (Below.trans (by repeat (first | exact Below.refl _ _ | refine Below.drew ?_ | refine Below.alloc ?_ (by first | omega | (simp; done) | (simp; omega)) _ | refine Below.setCell ?_ (by first | omega | (simp; done) | (simp; omega)) _ | refine Below.trans ?_ (Below.mono (by assumption) (by first | omega | (simp; done) | (simp; omega))))) (hb2.mono (by simp; omega)))
    · have j2 : (y.kind == 2) = false := by simpa using h2
      rw [Val.holds_no (fun h => h2 h.2)]
      clear h1 h2
      go_enter Try.func152, Try.ntmps152
      go_wp2_with (fail)
      refine wp_region_grow (by kernel_rfl) (by kernel_rfl) ?_
      repeat (quiet_step ((first | (fail))))
      refine wpQuiet_nil ?_
      intro w2 hb2
      go_wp2_with (fail)
      go_ret
      exact RetV.bool rfl (Below.trans (by repeat (first | exact Below.refl _ _ | refine Below.drew ?_ | refine Below.alloc ?_ (by first | omega | (simp; done) | (simp; omega)) _ | refine Below.setCell ?_ (by first | omega | (simp; done) | (simp; omega)) _ | refine Below.trans ?_ (Below.mono (by assumption) (by first | omega | (simp; done) | (simp; omega))))) (hb2.mono (by simp; omega)))
  · have j1 : (x.kind == 2) = false := by simpa using h1
    rw [Val.holds_no (fun h => h1 h.1)]
    clear h1
    go_enter Try.func152, Try.ntmps152
    go_wp2_with (fail)
    refine wp_region_grow (by kernel_rfl) (by kernel_rfl) ?_
    repeat (quiet_step ((first | (fail))))
    refine wpQuiet_nil ?_
    intro w2 hb2
    go_wp2_with (fail)
    go_ret
    exact RetV.bool rfl (Below.trans (by repeat (first | exact Below.refl _ _ | refine Below.drew ?_ | refine Below.alloc ?_ (by first | omega | (simp; done) | (simp; omega)) _ | refine Below.setCell ?_ (by first | omega | (simp; done) | (simp; omega)) _ | refine Below.trans ?_ (Below.mono (by assumption) (by first | omega | (simp; done) | (simp; omega))))) (hb2.mono (by simp; omega)))
end Go.Proofs.Ytldoedmclfbgpaa
namespace Go.Proofs.Ytldoedmclfbgpaa
open Go.RowKit

def fv (c : Card) (i : Int) : Val := c.f.getD i.toNat ⟨0, 0, []⟩
def leafM (x : Node) (c : Card) (g : Nat) : Bool :=
  if x.op = 1 then true else if x.op = 3 then hasB c.lab x.n else if x.op = 4 then hasB g x.n else if x.op = 5 then !decide ((fv c x.n).kind = 0)
  else if x.op = 6 then decide (fv c x.n = x.v) else if x.op = 7 then (fv c x.n).less x.v else if x.op = 8 then x.v.less (fv c x.n) else if x.op = 9 then (fv c x.n).holds x.v else false
def Tr.mat (c : Card) (g : Nat) : Tr → Bool
  | .leaf x => leafM x c g
  | .one _ a => !a.mat c g
  | .two x a b => if x.op = 11 then a.mat c g && b.mat c g else a.mat c g || b.mat c g
/-- What may stand in a leaf, where it asks for a field. -/
theorem Node.ok_field {x : Node} (h : x.ok = true) (ho : 5 ≤ x.op ∧ x.op ≤ 9) : 0 ≤ x.n ∧ x.n < 8 ∧ x.v.s.length ≤ 24 := by
  unfold Node.ok Val.ok Val.none at h
  obtain ⟨op, n, kind, m, s⟩ := x
  simp only at ho h
  have : op = 5 ∨ op = 6 ∨ op = 7 ∨ op = 8 ∨ op = 9 := by omega
  by_cases hk : kind = 0
  · rcases this with rfl | rfl | rfl | rfl | rfl <;> simp [hk] at h <;> simp_all
  · by_cases hk1 : kind = 1
    · rcases this with rfl | rfl | rfl | rfl | rfl <;> simp [hk1] at h <;> simp_all
    · by_cases hk2 : kind = 2
      · rcases this with rfl | rfl | rfl | rfl | rfl <;> simp [hk2] at h <;> simp_all
      · rcases this with rfl | rfl | rfl | rfl | rfl <;> simp [hk, hk1, hk2] at h
theorem Node.ok_len {x : Node} (h : x.ok = true) : x.v.s.length ≤ 24 := by
  unfold Node.ok Val.ok Val.none at h
  obtain ⟨op, n, kind, m, s⟩ := x
  simp only at h ⊢
  have hs : s = [] → s.length ≤ 24 := fun e => by rw [e]; simp
  split at h
  · simp at h; exact hs h.2.2
  · split at h
    · simp at h; exact hs h.2.2
    · split at h
      · simp at h; exact hs h.2.2
      · split at h
        · split at h
          · simp at h; exact hs h.1.2.2
          · split at h
            · simp at h; exact hs h.1.2.2
            · split at h
              · simp at h; omega
              · simp at h
        · split at h
          · split at h
            · simp at h; exact hs h.1.2.2
            · split at h
              · simp at h; exact hs h.1.2.2
              · split at h
                · simp at h; omega
                · simp at h
          · simp at h
/-- The mask of what is asked for, the groups. -/
def maskL : List Node → Nat → Nat
  | [], m => m
  | x :: l, m => maskL l (if x.op = 3 then m ||| 256 else if 5 ≤ x.op ∧ x.op ≤ 9 then m ||| bitN x.n else m)
def grpL : List Node → Nat → Nat
  | [], m => m
  | x :: l, m => grpL l (if x.op = 4 then m ||| bitN x.n else m)
theorem maskL_at (l : List Node) (k : Nat) (h : k < l.length) (m : Nat) : maskL (l.drop k) m = maskL (l.drop (k + 1)) (if l[k].op = 3 then m ||| 256 else if 5 ≤ l[k].op ∧ l[k].op ≤ 9 then m ||| bitN l[k].n else m) := by
  rw [List.drop_eq_getElem_cons h]; rfl
theorem grpL_at (l : List Node) (k : Nat) (h : k < l.length) (m : Nat) : grpL (l.drop k) m = grpL (l.drop (k + 1)) (if l[k].op = 4 then m ||| bitN l[k].n else m) := by
  rw [List.drop_eq_getElem_cons h]; rfl
theorem or_lt {a b : Nat} (ha : a < 4294967296) (hb : b < 4294967296) : a ||| b < 4294967296 := Nat.or_lt_two_pow (n := 32) ha hb
theorem maskL_lt : ∀ (l : List Node) (m : Nat), m < 4294967296 → maskL l m < 4294967296
  | [], m, h => h
  | x :: l, m, h => by
    unfold maskL
    refine maskL_lt l _ ?_
    split
    · exact or_lt h (by decide)
    · split
      · exact or_lt h (bitN_lt _)
      · exact h
theorem grpL_lt : ∀ (l : List Node) (m : Nat), m < 4294967296 → grpL l m < 4294967296
  | [], m, h => h
  | x :: l, m, h => by
    unfold grpL
    refine grpL_lt l _ ?_
    split
    · exact or_lt h (bitN_lt _)
    · exact h
end Go.Proofs.Ytldoedmclfbgpaa
namespace Go.Proofs.Ytldoedmclfbgpaa
open Go.RowKit

section
variable {P : Program} {ops : Array Oper} {rest : List Oper} {o : Oper} {a : Act} {w : World} {Q : Exit → Act → World → Prop}
/-- May a function be called as it stands? -/
def plainFn (P : Program) (f : FuncId) : Bool := match P.funcs[f]? with | some fn => !(fn.name == "runtime.NumGoroutine") && !fn.body.isNone | none => false
theorem callFunc_plain {f : FuncId} (h : plainFn P f = true) (args : Array Value) : (callFunc f args).run P w = .ok (.enter f args) w := by
  unfold plainFn at h
  split at h
  · rename_i fn hf
    simp only [Bool.and_eq_true, Bool.not_eq_true'] at h
    have hn' : fn.name ≠ "runtime.NumGoroutine" := by simpa using h.1
    have hb' : fn.body ≠ none := by intro e; rw [e] at h; simp at h
    simp [callFunc, go_sem, hf, hn', hb']
  · cases h
theorem wpList_callV (hw : Region.wanted o (yielded ops a.tmps) = true) {x : Operand} {args : Array Operand} {ts : Array TypeId} (ho : o.op = .call { callee := .value x, args := args, argTypes := ts })
    {f : FuncId} {caps : Array Value} (hx : a.eval x = .func (.func f) #[] caps) (hf : plainFn P f = true) {vs : Array Value} (hv : args.map a.eval = vs)
    (h : Calls P f (vs ++ caps) w fun e w' => ∃ v, e = .returned v ∧ wpList P ops Q rest (a.put o.dst v) w') : wpList P ops Q (o :: rest) a w := by
  refine wpList_g hw fun K hK => ?_
  unfold Oper.wp execOp
  have hr := callFunc_plain (w := w) hf (vs ++ caps)
  have hd : (Deferred.ofValue (a.eval x) vs) = pure { target := .fn (.func f) caps, args := vs } := by rw [hx]; unfold Deferred.ofValue; simp
  simp only [ho, resolve, hv, invoke, Sem.run_bind, hd, Sem.run_pure, Result.andThen_ok, hr]
  refine Calls.mono h fun e w' he => ?_
  obtain ⟨v, rfl, hk⟩ := he
  exact hK _ _ hk
end

def shortC (c : Card) : Prop := c.f.length = 8 ∧ c.lab < 4294967296 ∧ ∀ x ∈ c.f, x.s.length ≤ 200
theorem fv_at {c : Card} {k : Nat} (h : k < c.f.length) : fv c (k : Int) = c.f[k] := by
  unfold fv
  rw [Int.toNat_natCast, List.getD_eq_getElem?_getD, List.getElem?_eq_getElem h]; rfl
/-- A value is a function that, asked of a card, says v of it; all that it looks at lies from B to E. -/
def AsksM (B E : Nat) (w : World) (v : Value) (m : Card → Nat → Bool) : Prop :=
  ∃ f caps, v = .func (.func f) #[] caps ∧ plainFn Try.prog f = true ∧ ∀ w' : World, (∀ k, B ≤ k → k < E → w'.heap[k]? = w.heap[k]?) → E ≤ w'.heap.size → MaxV w' →
    ∀ (q : Nat) (c : Card) (g : Nat), Blk w' q c.arr → shortC c → g < 4294967296 → Calls Try.prog f (#[.pointer (some ⟨q, 0, none⟩), .int .u32 g] ++ caps) w' (RetV w' (.bool (m c g)))
theorem AsksM.keep {B E B' E' : Nat} {w w' : World} {v : Value} {m : Card → Nat → Bool} (h : AsksM B E w v m) (hB : B' ≤ B) (hE : E ≤ E') (hk : ∀ k, B ≤ k → k < E → w'.heap[k]? = w.heap[k]?) : AsksM B' E' w' v m := by
  obtain ⟨f, caps, h1, h2, h3⟩ := h
  exact ⟨f, caps, h1, h2, fun w2 hk2 hs hM => h3 w2 (fun k k1 k2 => (hk2 k (by omega) (by omega)).trans (hk k k1 k2)) (by omega) hM⟩
theorem Blk.held {w w' : World} {g : Nat} {cs : Array Value} (h : Blk w g cs) (hk : w'.heap[g]? = w.heap[g]?) : Blk w' g cs := by
  obtain ⟨t, ht⟩ := h; exact ⟨t, hk.trans ht⟩
def Node.arr (x : Node) : Array Value := x.cells.toArray

set_option maxHeartbeats 400000 in
theorem c_leaf1 (q : Value) (g : Value) (w : World) : Calls Try.prog 142 #[q, g] w (RetV w (.bool true)) := by
  go_enter Try.func142, Try.ntmps142
  go_wp2_with (fail)
  go_ret
  exact RetV.bool rfl (by repeat (first | exact Below.refl _ _ | refine Below.drew ?_ | refine Below.alloc ?_ (by first | omega | (simp; done) | (simp; omega)) _ | refine Below.setCell ?_ (by first | omega | (simp; done) | (simp; omega)) _ | refine Below.trans ?_ (Below.mono (by assumption) (by first | omega | (simp; done) | (simp; omega)))))
set_option maxHeartbeats 400000 in
theorem c_leaf9 (q : Value) (g : Value) (w : World) : Calls Try.prog 153 #[q, g] w (RetV w (.bool false)) := by
  go_enter Try.func153, Try.ntmps153
  go_wp2_with (fail)
  go_ret
  exact RetV.bool rfl (by repeat (first | exact Below.refl _ _ | refine Below.drew ?_ | refine Below.alloc ?_ (by first | omega | (simp; done) | (simp; omega)) _ | refine Below.setCell ?_ (by first | omega | (simp; done) | (simp; omega)) _ | refine Below.trans ?_ (Below.mono (by assumption) (by first | omega | (simp; done) | (simp; omega)))))
section
variable {q n : Nat} {c : Card} {x : Node} {w : World}
set_option maxHeartbeats 1000000 in
theorem c_leaf2 (hn : Blk w n x.arr) (hq : Blk w q c.arr) (hl : c.lab < 4294967296) (g : Value) : Calls Try.prog 143 #[.pointer (some ⟨q, 0, none⟩), g, .pointer (some ⟨n, 0, none⟩)] w (RetV w (.bool (hasB c.lab x.n))) := by
  have e1 := hn.cell (show x.arr[1]? = some (.int .i64 x.n) from rfl)
  have e2 := hq.cell c.arr_head.2.2
  have s1 := hn.lt
  have s2 := hq.lt
  go_enter Try.func143, Try.ntmps143
  go_wp2_with (fail)
  refine wp_region_grow (by kernel_rfl) (by kernel_rfl) ?_
  repeat (quiet_step ((first | (go_at_call 144; exact quiet_grow (c_bits_Has _ _ hl _)))))
  refine wpQuiet_nil ?_
  intro w2 hb2
  go_wp2_with (fail)
  go_ret
  exact RetV.bool rfl (by repeat (first | exact Below.refl _ _ | refine Below.drew ?_ | refine Below.alloc ?_ (by first | omega | (simp; done) | (simp; omega)) _ | refine Below.setCell ?_ (by first | omega | (simp; done) | (simp; omega)) _ | refine Below.trans ?_ (Below.mono (by assumption) (by first | omega | (simp; done) | (simp; omega)))))
set_option maxHeartbeats 1000000 in
theorem c_leaf3 (hn : Blk w n x.arr) (q : Value) {g : Nat} (hg : g < 4294967296) : Calls Try.prog 145 #[q, .int .u32 g, .pointer (some ⟨n, 0, none⟩)] w (RetV w (.bool (hasB g x.n))) := by
  have e1 := hn.cell (show x.arr[1]? = some (.int .i64 x.n) from rfl)
  have s1 := hn.lt
  go_enter Try.func145, Try.ntmps145
  go_wp2_with (go_at_call 144; refine (c_bits_Has _ _ hg _).mono ?_; rintro e w1 ⟨rfl, hb1⟩)
  go_ret
  exact RetV.bool rfl (by repeat (first | exact Below.refl _ _ | refine Below.drew ?_ | refine Below.alloc ?_ (by first | omega | (simp; done) | (simp; omega)) _ | refine Below.setCell ?_ (by first | omega | (simp; done) | (simp; omega)) _ | refine Below.trans ?_ (Below.mono (by assumption) (by first | omega | (simp; done) | (simp; omega)))))
set_option maxHeartbeats 1000000 in
theorem c_leaf4 {k : Nat} (hn : Blk w n x.arr) (hq : Blk w q c.arr) (hk : x.n = (k : Int)) (h8 : c.f.length = 8) (hlt : k < 8) (g : Value) : Calls Try.prog 146 #[.pointer (some ⟨q, 0, none⟩), g, .pointer (some ⟨n, 0, none⟩)] w (RetV w (.bool (!decide ((fv c x.n).kind = 0)))) := by
  have e1 := hn.cell (show x.arr[1]? = some (.int .i64 x.n) from rfl)
  rw [hk] at e1 ⊢
  rw [fv_at (by omega)]
  obtain ⟨c0, c1, c2⟩ := Card.arr_val (c := c) (k := k) (by omega)
  have d0 := hq.cell c0
  have s1 := hn.lt
  have s2 := hq.lt
  have H : (c.f[k].kind != 0) = !decide (c.f[k].kind = 0) := by by_cases h : c.f[k].kind = 0 <;> simp [h]
  go_enter Try.func146, Try.ntmps146
  go_wp2_with (fail)
  refine wp_region_grow (by kernel_rfl) (by kernel_rfl) ?_
  repeat (go_big_quiet_step ((first | (fail))))
  refine wpQuiet_nil ?_
  intro w2 hb2
  go_wp2_with (fail)
  go_ret
  exact RetV.bool (by first | exact H | rfl | simp) (by repeat (first | exact Below.refl _ _ | refine Below.drew ?_ | refine Below.alloc ?_ (by first | omega | (simp; done) | (simp; omega)) _ | refine Below.setCell ?_ (by first | omega | (simp; done) | (simp; omega)) _ | refine Below.trans ?_ (Below.mono (by assumption) (by first | omega | (simp; done) | (simp; omega)))))
set_option maxHeartbeats 1000000 in
theorem c_leaf5 {k : Nat} (hn : Blk w n x.arr) (hq : Blk w q c.arr) (hk : x.n = (k : Int)) (h8 : c.f.length = 8) (hlt : k < 8) (g : Value) : Calls Try.prog 147 #[.pointer (some ⟨q, 0, none⟩), g, .pointer (some ⟨n, 0, none⟩)] w (RetV w (.bool (decide (fv c x.n = x.v)))) := by
  have e1 := hn.cell (show x.arr[1]? = some (.int .i64 x.n) from rfl)
  have e2 := hn.cell (show x.arr[2]? = some (.int .i64 x.v.kind) from rfl)
  have e3 := hn.cell (show x.arr[3]? = some (.int .i64 x.v.n) from rfl)
  have e4 := hn.cell (show x.arr[4]? = some (.string (str x.v.s)) from rfl)
  rw [hk] at e1 ⊢
  rw [fv_at (by omega)]
  obtain ⟨c0, c1, c2⟩ := Card.arr_val (c := c) (k := k) (by omega)
  have d0 := hq.cell c0
  have d1 := hq.cell c1
  have d2 := hq.cell c2
  have s1 := hn.lt
  have s2 := hq.lt
  have gv := gV
  have he := fun w' => show (Op.equalIn 10000 36 (.agg #[.int .i64 c.f[k].kind, .int .i64 c.f[k].n, .string (str c.f[k].s)]) (.agg #[.int .i64 x.v.kind, .int .i64 x.v.n, .string (str x.v.s)])).run Try.prog w' = .ok (decide (c.f[k] = x.v)) w' from eq_val 9998 c.f[k] x.v w'
  go_enter Try.func147, Try.ntmps147
  go_wp2_with (fail)
  refine wp_region_grow (by kernel_rfl) (by kernel_rfl) ?_
  repeat (go_big_quiet_step ((first | (fail))))
  refine wpQuiet_nil ?_
  intro w2 hb2
  go_wp2_with (fail)
  go_ret
  exact RetV.bool (by first | rfl | simp) (by repeat (first | exact Below.refl _ _ | refine Below.drew ?_ | refine Below.alloc ?_ (by first | omega | (simp; done) | (simp; omega)) _ | refine Below.setCell ?_ (by first | omega | (simp; done) | (simp; omega)) _ | refine Below.trans ?_ (Below.mono (by assumption) (by first | omega | (simp; done) | (simp; omega)))))
set_option maxHeartbeats 1000000 in
theorem c_leaf6 {k : Nat} (hn : Blk w n x.arr) (hq : Blk w q c.arr) (hk : x.n = (k : Int)) (h8 : c.f.length = 8) (hlt : k < 8) (g : Value) : Calls Try.prog 148 #[.pointer (some ⟨q, 0, none⟩), g, .pointer (some ⟨n, 0, none⟩)] w (RetV w (.bool ((fv c x.n).less x.v))) := by
  have e1 := hn.cell (show x.arr[1]? = some (.int .i64 x.n) from rfl)
  have e2 := hn.cell (show x.arr[2]? = some (.int .i64 x.v.kind) from rfl)
  have e3 := hn.cell (show x.arr[3]? = some (.int .i64 x.v.n) from rfl)
  have e4 := hn.cell (show x.arr[4]? = some (.string (str x.v.s)) from rfl)
  rw [hk] at e1 ⊢
  rw [fv_at (by omega)]
  obtain ⟨c0, c1, c2⟩ := Card.arr_val (c := c) (k := k) (by omega)
  have d0 := hq.cell c0
  have d1 := hq.cell c1
  have d2 := hq.cell c2
  have s1 := hn.lt
  have s2 := hq.lt
  go_enter Try.func148, Try.ntmps148
  go_wp2_with (fail)
  refine wp_region_grow (by kernel_rfl) (by kernel_rfl) ?_
  repeat (go_big_quiet_step ((first | (go_at_call 149; exact quiet_grow (c_value_Less c.f[k] x.v _)))))
  refine wpQuiet_nil ?_
  intro w2 hb2
  go_wp2_with (fail)
  go_ret
  exact RetV.bool rfl (by repeat (first | exact Below.refl _ _ | refine Below.drew ?_ | refine Below.alloc ?_ (by first | omega | (simp; done) | (simp; omega)) _ | refine Below.setCell ?_ (by first | omega | (simp; done) | (simp; omega)) _ | refine Below.trans ?_ (Below.mono (by assumption) (by first | omega | (simp; done) | (simp; omega)))))
set_option maxHeartbeats 1000000 in
theorem c_leaf7 {k : Nat} (hn : Blk w n x.arr) (hq : Blk w q c.arr) (hk : x.n = (k : Int)) (h8 : c.f.length = 8) (hlt : k < 8) (g : Value) : Calls Try.prog 150 #[.pointer (some ⟨q, 0, none⟩), g, .pointer (some ⟨n, 0, none⟩)] w (RetV w (.bool (x.v.less (fv c x.n)))) := by
  have e1 := hn.cell (show x.arr[1]? = some (.int .i64 x.n) from rfl)
  have e2 := hn.cell (show x.arr[2]? = some (.int .i64 x.v.kind) from rfl)
  have e3 := hn.cell (show x.arr[3]? = some (.int .i64 x.v.n) from rfl)
  have e4 := hn.cell (show x.arr[4]? = some (.string (str x.v.s)) from rfl)
  rw [hk] at e1 ⊢
  rw [fv_at (by omega)]
  obtain ⟨c0, c1, c2⟩ := Card.arr_val (c := c) (k := k) (by omega)
  have d0 := hq.cell c0
  have d1 := hq.cell c1
  have d2 := hq.cell c2
  have s1 := hn.lt
  have s2 := hq.lt
  go_enter Try.func150, Try.ntmps150
  go_wp2_with (fail)
  refine wp_region_grow (by kernel_rfl) (by kernel_rfl) ?_
  repeat (go_big_quiet_step ((first | (go_at_call 149; exact quiet_grow (c_value_Less x.v c.f[k] _)))))
  refine wpQuiet_nil ?_
  intro w2 hb2
  go_wp2_with (fail)
  go_ret
  exact RetV.bool rfl (by repeat (first | exact Below.refl _ _ | refine Below.drew ?_ | refine Below.alloc ?_ (by first | omega | (simp; done) | (simp; omega)) _ | refine Below.setCell ?_ (by first | omega | (simp; done) | (simp; omega)) _ | refine Below.trans ?_ (Below.mono (by assumption) (by first | omega | (simp; done) | (simp; omega)))))
set_option maxHeartbeats 1000000 in
theorem c_leaf8 {k : Nat} (hn : Blk w n x.arr) (hq : Blk w q c.arr) (hk : x.n = (k : Int)) (h8 : shortC c) (hlt : k < 8) (hx : x.v.s.length ≤ 24) (hM : MaxV w) (g : Value) : Calls Try.prog 151 #[.pointer (some ⟨q, 0, none⟩), g, .pointer (some ⟨n, 0, none⟩)] w (RetV w (.bool ((fv c x.n).holds x.v))) := by
  have HM := Lib.hid (fun w' (hb : Below w.heap.size w w') => hM.below hb)
  have e1 := hn.cell (show x.arr[1]? = some (.int .i64 x.n) from rfl)
  have e2 := hn.cell (show x.arr[2]? = some (.int .i64 x.v.kind) from rfl)
  have e3 := hn.cell (show x.arr[3]? = some (.int .i64 x.v.n) from rfl)
  have e4 := hn.cell (show x.arr[4]? = some (.string (str x.v.s)) from rfl)
  have hs := h8.2.2
  replace h8 := h8.1
  rw [hk] at e1 ⊢
  rw [fv_at (by omega)]
  have hsk := hs _ (List.getElem_mem (l := c.f) (n := k) (by omega))
  obtain ⟨c0, c1, c2⟩ := Card.arr_val (c := c) (k := k) (by omega)
  have d0 := hq.cell c0
  have d1 := hq.cell c1
  have d2 := hq.cell c2
  have s1 := hn.lt
  have s2 := hq.lt
  clear hs hM
  go_enter Try.func151, Try.ntmps151
  go_wp2_with (fail)
  refine wp_region_grow (by kernel_rfl) (by kernel_rfl) ?_
  repeat (go_big_quiet_step ((first | (go_at_call 152; exact quiet_grow (c_value_Holds c.f[k] x.v _ (HM.out _ (grow_below _ _)) (by omega) (by omega))))))
  refine wpQuiet_nil ?_
  intro w2 hb2
  go_wp2_with (fail)
  go_ret
  exact RetV.bool rfl (by repeat (first | exact Below.refl _ _ | refine Below.drew ?_ | refine Below.alloc ?_ (by first | omega | (simp; done) | (simp; omega)) _ | refine Below.setCell ?_ (by first | omega | (simp; done) | (simp; omega)) _ | refine Below.trans ?_ (Below.mono (by assumption) (by first | omega | (simp; done) | (simp; omega)))))
end
end Go.Proofs.Ytldoedmclfbgpaa
namespace Go.Proofs.Ytldoedmclfbgpaa
open Go.RowKit

/-- The call hands back a function that is asked for m. -/
def RetA (w : World) (m : Card → Nat → Bool) (e : Ending) (w' : World) : Prop := ∃ v, e = .returned v ∧ Below w.heap.size w w' ∧ AsksM w.heap.size w'.heap.size w' v m
theorem asks_cap {f : FuncId} {B E n : Nat} {x : Node} {w : World} {m : Card → Nat → Bool} (hp : plainFn Try.prog f = true) (hb : Blk w n x.arr) (hB : B ≤ n) (hE : n < E)
    (h : ∀ (w' : World) (q : Nat) (c : Card) (g : Nat), Blk w' n x.arr → MaxV w' → Blk w' q c.arr → shortC c → g < 4294967296 → Calls Try.prog f #[.pointer (some ⟨q, 0, none⟩), .int .u32 g, .pointer (some ⟨n, 0, none⟩)] w' (RetV w' (.bool (m c g)))) :
    AsksM B E w (.func (.func f) #[] #[.pointer (some ⟨n, 0, none⟩)]) m :=
  ⟨f, _, rfl, hp, fun w' hk _ hM q c g hq hc hg => h w' q c g (hb.held (hk n hB hE)) hM hq hc hg⟩
theorem asks_bare {f : FuncId} {B E : Nat} {w : World} {m : Card → Nat → Bool} (hp : plainFn Try.prog f = true)
    (h : ∀ (w' : World) (q g : Value) (c : Card) (n : Nat), Calls Try.prog f #[q, g] w' (RetV w' (.bool (m c n)))) : AsksM B E w (.func (.func f) #[] #[]) m :=
  ⟨f, _, rfl, hp, fun w' _ _ _ _q c g _ _ _ => h w' _ _ c g⟩
set_option maxHeartbeats 1000000 in
theorem c_eval_leaf (x : Node) (hok : x.ok = true) (w : World) : Calls Try.prog 101 #[x.val] w (RetA w (leafM x)) := by
  have hfld := fun ho => Node.ok_field hok ho
  have hcase : x.op = 1 ∨ x.op = 3 ∨ x.op = 4 ∨ x.op = 5 ∨ x.op = 6 ∨ x.op = 7 ∨ x.op = 8 ∨ x.op = 9 ∨ (x.op ≠ 1 ∧ x.op ≠ 3 ∧ x.op ≠ 4 ∧ x.op ≠ 5 ∧ x.op ≠ 6 ∧ x.op ≠ 7 ∧ x.op ≠ 8 ∧ x.op ≠ 9) := by omega
  obtain ⟨op, n, v⟩ := x
  simp only at hcase hfld
  clear hok
  rcases hcase with rfl | rfl | rfl | rfl | rfl | rfl | rfl | rfl | ⟨n1, n3, n4, n5, n6, n7, n8, n9⟩
  · have M : leafM ⟨1, n, v⟩ = fun _ _ => true := by funext c g; simp [leafM]
    clear hfld
    go_enter Try.func101, Try.ntmps101
    go_wp2_with (fail)
    go_ret
    exact ⟨_, rfl, (by repeat (first | exact Below.refl _ _ | refine Below.drew ?_ | refine Below.alloc ?_ (by first | omega | (simp; done) | (simp; omega)) _ | refine Below.setCell ?_ (by first | omega | (simp; done) | (simp; omega)) _ | refine Below.trans ?_ (Below.mono (by assumption) (by first | omega | (simp; done) | (simp; omega))))), asks_bare (by kernel_rfl) (fun w' q g c n => by rw [M]; exact c_leaf1 _ _ _)⟩
  · have M : leafM ⟨3, n, v⟩ = fun c _ => hasB c.lab n := by funext c g; simp [leafM]
    clear hfld
    go_enter Try.func101, Try.ntmps101
    go_wp2_with (fail)
    go_ret
    refine ⟨_, rfl, (by repeat (first | exact Below.refl _ _ | refine Below.drew ?_ | refine Below.alloc ?_ (by first | omega | (simp; done) | (simp; omega)) _ | refine Below.setCell ?_ (by first | omega | (simp; done) | (simp; omega)) _ | refine Below.trans ?_ (Below.mono (by assumption) (by first | omega | (simp; done) | (simp; omega))))), asks_cap (by kernel_rfl) (x := ⟨3, n, v⟩) (Blk.new _ _ _) (Nat.le_refl _) (by simp) ?_⟩
    intro w' q c g hn hM hq hc hg
    rw [M]
    exact c_leaf2 hn hq hc.2.1 _
  · have M : leafM ⟨4, n, v⟩ = fun _ g => hasB g n := by funext c g; simp [leafM]
    clear hfld
    go_enter Try.func101, Try.ntmps101
    go_wp2_with (fail)
    go_ret
    refine ⟨_, rfl, (by repeat (first | exact Below.refl _ _ | refine Below.drew ?_ | refine Below.alloc ?_ (by first | omega | (simp; done) | (simp; omega)) _ | refine Below.setCell ?_ (by first | omega | (simp; done) | (simp; omega)) _ | refine Below.trans ?_ (Below.mono (by assumption) (by first | omega | (simp; done) | (simp; omega))))), asks_cap (by kernel_rfl) (x := ⟨4, n, v⟩) (Blk.new _ _ _) (Nat.le_refl _) (by simp) ?_⟩
    intro w' q c g hn hM hq hc hg
    rw [M]
    exact c_leaf3 hn _ hg
  · have M : leafM ⟨5, n, v⟩ = fun c _ => !decide ((fv c n).kind = 0) := by funext c g; simp [leafM]
    obtain ⟨f1, f2, f3⟩ := hfld (by omega)
    have HF := Lib.hid (show n = (n.toNat : Int) ∧ n.toNat < 8 by omega)
    clear hfld f1 f2 f3
    go_enter Try.func101, Try.ntmps101
    go_wp2_with (fail)
    go_ret
    refine ⟨_, rfl, (by repeat (first | exact Below.refl _ _ | refine Below.drew ?_ | refine Below.alloc ?_ (by first | omega | (simp; done) | (simp; omega)) _ | refine Below.setCell ?_ (by first | omega | (simp; done) | (simp; omega)) _ | refine Below.trans ?_ (Below.mono (by assumption) (by first | omega | (simp; done) | (simp; omega))))), asks_cap (by kernel_rfl) (x := ⟨5, n, v⟩) (Blk.new _ _ _) (Nat.le_refl _) (by simp) ?_⟩
    intro w' q c g hn hM hq hc hg
    rw [M]
    exact c_leaf4 (x := ⟨5, n, v⟩) hn hq HF.out.1 hc.1 HF.out.2 _
  · have M : leafM ⟨6, n, v⟩ = fun c _ => decide (fv c n = v) := by funext c g; simp [leafM]
    obtain ⟨f1, f2, f3⟩ := hfld (by omega)
    have HF := Lib.hid (show n = (n.toNat : Int) ∧ n.toNat < 8 by omega)
    clear hfld f1 f2 f3
    go_enter Try.func101, Try.ntmps101
    go_wp2_with (fail)
    go_ret
    refine ⟨_, rfl, (by repeat (first | exact Below.refl _ _ | refine Below.drew ?_ | refine Below.alloc ?_ (by first | omega | (simp; done) | (simp; omega)) _ | refine Below.setCell ?_ (by first | omega | (simp; done) | (simp; omega)) _ | refine Below.trans ?_ (Below.mono (by assumption) (by first | omega | (simp; done) | (simp; omega))))), asks_cap (by kernel_rfl) (x := ⟨6, n, v⟩) (Blk.new _ _ _) (Nat.le_refl _) (by simp) ?_⟩
    intro w' q c g hn hM hq hc hg
    rw [M]
    exact c_leaf5 (x := ⟨6, n, v⟩) hn hq HF.out.1 hc.1 HF.out.2 _
  · have M : leafM ⟨7, n, v⟩ = fun c _ => (fv c n).less v := by funext c g; simp [leafM]
    obtain ⟨f1, f2, f3⟩ := hfld (by omega)
    have HF := Lib.hid (show n = (n.toNat : Int) ∧ n.toNat < 8 by omega)
    clear hfld f1 f2 f3
    go_enter Try.func101, Try.ntmps101
    go_wp2_with (fail)
    go_ret
    refine ⟨_, rfl, (by repeat (first | exact Below.refl _ _ | refine Below.drew ?_ | refine Below.alloc ?_ (by first | omega | (simp; done) | (simp; omega)) _ | refine Below.setCell ?_ (by first | omega | (simp; done) | (simp; omega)) _ | refine Below.trans ?_ (Below.mono (by assumption) (by first | omega | (simp; done) | (simp; omega))))), asks_cap (by kernel_rfl) (x := ⟨7, n, v⟩) (Blk.new _ _ _) (Nat.le_refl _) (by simp) ?_⟩
    intro w' q c g hn hM hq hc hg
    rw [M]
    exact c_leaf6 (x := ⟨7, n, v⟩) hn hq HF.out.1 hc.1 HF.out.2 _
  · have M : leafM ⟨8, n, v⟩ = fun c _ => v.less (fv c n) := by funext c g; simp [leafM]
    obtain ⟨f1, f2, f3⟩ := hfld (by omega)
    have HF := Lib.hid (show n = (n.toNat : Int) ∧ n.toNat < 8 by omega)
    clear hfld f1 f2 f3
    go_enter Try.func101, Try.ntmps101
    go_wp2_with (fail)
    go_ret
    refine ⟨_, rfl, (by repeat (first | exact Below.refl _ _ | refine Below.drew ?_ | refine Below.alloc ?_ (by first | omega | (simp; done) | (simp; omega)) _ | refine Below.setCell ?_ (by first | omega | (simp; done) | (simp; omega)) _ | refine Below.trans ?_ (Below.mono (by assumption) (by first | omega | (simp; done) | (simp; omega))))), asks_cap (by kernel_rfl) (x := ⟨8, n, v⟩) (Blk.new _ _ _) (Nat.le_refl _) (by simp) ?_⟩
    intro w' q c g hn hM hq hc hg
    rw [M]
    exact c_leaf7 (x := ⟨8, n, v⟩) hn hq HF.out.1 hc.1 HF.out.2 _
  · have M : leafM ⟨9, n, v⟩ = fun c _ => (fv c n).holds v := by funext c g; simp [leafM]
    obtain ⟨f1, f2, f3⟩ := hfld (by omega)
    have HF := Lib.hid (show n = (n.toNat : Int) ∧ n.toNat < 8 ∧ v.s.length ≤ 24 from ⟨by omega, by omega, f3⟩)
    clear hfld f1 f2 f3
    go_enter Try.func101, Try.ntmps101
    go_wp2_with (fail)
    go_ret
    refine ⟨_, rfl, (by repeat (first | exact Below.refl _ _ | refine Below.drew ?_ | refine Below.alloc ?_ (by first | omega | (simp; done) | (simp; omega)) _ | refine Below.setCell ?_ (by first | omega | (simp; done) | (simp; omega)) _ | refine Below.trans ?_ (Below.mono (by assumption) (by first | omega | (simp; done) | (simp; omega))))), asks_cap (by kernel_rfl) (x := ⟨9, n, v⟩) (Blk.new _ _ _) (Nat.le_refl _) (by simp) ?_⟩
    intro w' q c g hn hM hq hc hg
    rw [M]
    exact c_leaf8 (x := ⟨9, n, v⟩) hn hq HF.out.1 hc HF.out.2.1 HF.out.2.2 hM _
  · have M : leafM ⟨op, n, v⟩ = fun _ _ => false := by funext c g; simp [leafM, *]
    have b1 : (op == 1) = false := by simpa using n1
    have b3 : (op == 3) = false := by simpa using n3
    have b4 : (op == 4) = false := by simpa using n4
    have b5 : (op == 5) = false := by simpa using n5
    have b6 : (op == 6) = false := by simpa using n6
    have b7 : (op == 7) = false := by simpa using n7
    have b8 : (op == 8) = false := by simpa using n8
    have b9 : (op == 9) = false := by simpa using n9
    clear hfld n1 n3 n4 n5 n6 n7 n8 n9
    go_enter Try.func101, Try.ntmps101
    go_wp2_with (fail)
    go_ret
    exact ⟨_, rfl, (by repeat (first | exact Below.refl _ _ | refine Below.drew ?_ | refine Below.alloc ?_ (by first | omega | (simp; done) | (simp; omega)) _ | refine Below.setCell ?_ (by first | omega | (simp; done) | (simp; omega)) _ | refine Below.trans ?_ (Below.mono (by assumption) (by first | omega | (simp; done) | (simp; omega))))), asks_bare (by kernel_rfl) (fun w' q g c n => by rw [M]; exact c_leaf9 _ _ _)⟩
end Go.Proofs.Ytldoedmclfbgpaa
namespace Go.Proofs.Ytldoedmclfbgpaa
open Go.RowKit

theorem stop_callV {P : Program} {ops : Array Oper} {rest : List Oper} {o : Oper} {a : Act} {w : World} {Q : Exit → Act → World → Prop} (t : Tmp) (args : Array Operand) (ts : Array TypeId) (_ : o.op = .call { callee := .value (.tmp t), args := args, argTypes := ts })
    (h : Stop (wpList P ops Q (o :: rest) a w)) : wpList P ops Q (o :: rest) a w := h
section
variable {p p1 p2 f f1 f2 : Nat} {caps caps1 caps2 : Array Value} {w : World} {q g : Value} {b b1 b2 : Bool}
set_option maxHeartbeats 1000000 in
theorem c_built1 (hb : Blk w p #[.func (.func f) #[] caps]) (hp : plainFn Try.prog f = true) (h : Calls Try.prog f (#[q, g] ++ caps) w (RetV w (.bool b))) :
    Calls Try.prog 102 #[q, g, .pointer (some ⟨p, 0, none⟩)] w (RetV w (.bool (!b))) := by
  have e0 := hb.cell (i := 0) rfl
  have H := Lib.hid h
  clear h
  go_enter Try.func102, Try.ntmps102
  go_wp2_with (with_reducible refine stop_callV _ _ _ rfl ?_)
  refine Stop.mk (wpList_callV (vs := #[q, g]) (by rfl) rfl rfl hp (by first | (simp [Act.eval]; done) | (simp only [List.map_toArray, List.map_cons, List.map_nil]; rfl)) (H.out.mono ?_))
  rintro e w1 ⟨rfl, hb1⟩
  refine ⟨_, rfl, ?_⟩
  go_wp2_with (fail)
  go_ret
  exact RetV.bool rfl hb1
set_option maxHeartbeats 1000000 in
theorem c_built2 (h1 : Blk w p1 #[.func (.func f1) #[] caps1]) (h2 : Blk w p2 #[.func (.func f2) #[] caps2]) (hp1 : plainFn Try.prog f1 = true) (hp2 : plainFn Try.prog f2 = true)
    (H1 : Calls Try.prog f1 (#[q, g] ++ caps1) w (RetV w (.bool b1))) (H2 : ∀ w1, Below w.heap.size w w1 → Calls Try.prog f2 (#[q, g] ++ caps2) w1 (RetV w1 (.bool b2))) :
    Calls Try.prog 103 #[q, g, .pointer (some ⟨p1, 0, none⟩), .pointer (some ⟨p2, 0, none⟩)] w (RetV w (.bool (b1 && b2))) := by
  have e1 := h1.cell (i := 0) rfl
  have H1 := Lib.hid H1
  have H2 := Lib.hid H2
  have B2 := Lib.hid h2
  clear h1 h2
  cases b1
  · go_enter Try.func103, Try.ntmps103
    go_wp2_with (with_reducible refine stop_callV _ _ _ rfl ?_)
    refine Stop.mk (wpList_callV (vs := #[q, g]) (by rfl) rfl rfl hp1 (by first | (simp [Act.eval]; done) | (simp only [List.map_toArray, List.map_cons, List.map_nil]; rfl)) (H1.out.mono ?_))
    rintro e w1 ⟨rfl, hb1⟩
    refine ⟨_, rfl, ?_⟩
    go_wp2_with (fail)
    go_ret
    exact RetV.bool (by simp) hb1
  · go_enter Try.func103, Try.ntmps103
    go_wp2_with (with_reducible refine stop_callV _ _ _ rfl ?_)
    refine Stop.mk (wpList_callV (vs := #[q, g]) (by rfl) rfl rfl hp1 (by first | (simp [Act.eval]; done) | (simp only [List.map_toArray, List.map_cons, List.map_nil]; rfl)) (H1.out.mono ?_))
    rintro e w1 ⟨rfl, hb1⟩
    refine ⟨_, rfl, ?_⟩
    have e2 := (B2.out.below hb1 B2.out.lt).cell (i := 0) rfl
    go_wp2_with (with_reducible refine stop_callV _ _ _ rfl ?_)
    refine Stop.mk (wpList_callV (vs := #[q, g]) (by rfl) rfl rfl hp2 (by first | (simp [Act.eval]; done) | (simp only [List.map_toArray, List.map_cons, List.map_nil]; rfl)) ((H2.out _ hb1).mono ?_))
    rintro e w2 ⟨rfl, hb2⟩
    refine ⟨_, rfl, ?_⟩
    go_wp2_with (fail)
    go_ret
    exact RetV.bool (by simp) (hb1.trans (hb2.mono hb1.size))
set_option maxHeartbeats 1000000 in
theorem c_built3 (h1 : Blk w p1 #[.func (.func f1) #[] caps1]) (h2 : Blk w p2 #[.func (.func f2) #[] caps2]) (hp1 : plainFn Try.prog f1 = true) (hp2 : plainFn Try.prog f2 = true)
    (H1 : Calls Try.prog f1 (#[q, g] ++ caps1) w (RetV w (.bool b1))) (H2 : ∀ w1, Below w.heap.size w w1 → Calls Try.prog f2 (#[q, g] ++ caps2) w1 (RetV w1 (.bool b2))) :
    Calls Try.prog 104 #[q, g, .pointer (some ⟨p1, 0, none⟩), .pointer (some ⟨p2, 0, none⟩)] w (RetV w (.bool (b1 || b2))) := by
  have e1 := h1.cell (i := 0) rfl
  have H1 := Lib.hid H1
  have H2 := Lib.hid H2
  have B2 := Lib.hid h2
  clear h1 h2
  cases b1
  · go_enter Try.func104, Try.ntmps104
    go_wp2_with (with_reducible refine stop_callV _ _ _ rfl ?_)
    refine Stop.mk (wpList_callV (vs := #[q, g]) (by rfl) rfl rfl hp1 (by first | (simp [Act.eval]; done) | (simp only [List.map_toArray, List.map_cons, List.map_nil]; rfl)) (H1.out.mono ?_))
    rintro e w1 ⟨rfl, hb1⟩
    refine ⟨_, rfl, ?_⟩
    have e2 := (B2.out.below hb1 B2.out.lt).cell (i := 0) rfl
    go_wp2_with (with_reducible refine stop_callV _ _ _ rfl ?_)
    refine Stop.mk (wpList_callV (vs := #[q, g]) (by rfl) rfl rfl hp2 (by first | (simp [Act.eval]; done) | (simp only [List.map_toArray, List.map_cons, List.map_nil]; rfl)) ((H2.out _ hb1).mono ?_))
    rintro e w2 ⟨rfl, hb2⟩
    refine ⟨_, rfl, ?_⟩
    go_wp2_with (fail)
    go_ret
    exact RetV.bool (by simp) (hb1.trans (hb2.mono hb1.size))
  · go_enter Try.func104, Try.ntmps104
    go_wp2_with (with_reducible refine stop_callV _ _ _ rfl ?_)
    refine Stop.mk (wpList_callV (vs := #[q, g]) (by rfl) rfl rfl hp1 (by first | (simp [Act.eval]; done) | (simp only [List.map_toArray, List.map_cons, List.map_nil]; rfl)) (H1.out.mono ?_))
    rintro e w1 ⟨rfl, hb1⟩
    refine ⟨_, rfl, ?_⟩
    go_wp2_with (fail)
    go_ret
    exact RetV.bool (by simp) hb1
end
/-- The closures of trees. -/
theorem asks_not {B E p : Nat} {w : World} {v : Value} {m : Card → Nat → Bool} (h : AsksM B E w v m) (hb : Blk w p #[v]) (hB : B ≤ p) (hE : p < E) :
    AsksM B E w (.func (.func 102) #[] #[.pointer (some ⟨p, 0, none⟩)]) (fun c g => !m c g) := by
  obtain ⟨f, caps, rfl, h2, h3⟩ := h
  exact ⟨_, _, rfl, by kernel_rfl, fun w' hk hs hM q c g hq hc hg => c_built1 (hb.held (hk p hB hE)) h2 (h3 w' hk hs hM q c g hq hc hg)⟩
theorem held_below {B E : Nat} {w w' w2 : World} (hk : ∀ k, B ≤ k → k < E → w'.heap[k]? = w.heap[k]?) (hs : E ≤ w'.heap.size) (hb : Below w'.heap.size w' w2) : ∀ k, B ≤ k → k < E → w2.heap[k]? = w.heap[k]? :=
  fun k k1 k2 => (hb.block k (by omega)).trans (hk k k1 k2)
theorem asks_and {B E p1 p2 : Nat} {w : World} {v1 v2 : Value} {m1 m2 : Card → Nat → Bool} (h1 : AsksM B E w v1 m1) (h2 : AsksM B E w v2 m2) (hb1 : Blk w p1 #[v1]) (hb2 : Blk w p2 #[v2]) (hB1 : B ≤ p1) (hE1 : p1 < E) (hB2 : B ≤ p2) (hE2 : p2 < E) :
    AsksM B E w (.func (.func 103) #[] #[.pointer (some ⟨p1, 0, none⟩), .pointer (some ⟨p2, 0, none⟩)]) (fun c g => m1 c g && m2 c g) := by
  obtain ⟨f1, caps1, rfl, a2, a3⟩ := h1
  obtain ⟨f2, caps2, rfl, c2, c3⟩ := h2
  exact ⟨_, _, rfl, by kernel_rfl, fun w' hk hs hM q c g hq hc hg => c_built2 (hb1.held (hk p1 hB1 hE1)) (hb2.held (hk p2 hB2 hE2)) a2 c2 (a3 w' hk hs hM q c g hq hc hg)
    (fun w2 hb => c3 w2 (held_below hk hs hb) (Nat.le_trans hs hb.size) (hM.below hb) q c g (hq.below hb hq.lt) hc hg)⟩
theorem asks_or {B E p1 p2 : Nat} {w : World} {v1 v2 : Value} {m1 m2 : Card → Nat → Bool} (h1 : AsksM B E w v1 m1) (h2 : AsksM B E w v2 m2) (hb1 : Blk w p1 #[v1]) (hb2 : Blk w p2 #[v2]) (hB1 : B ≤ p1) (hE1 : p1 < E) (hB2 : B ≤ p2) (hE2 : p2 < E) :
    AsksM B E w (.func (.func 104) #[] #[.pointer (some ⟨p1, 0, none⟩), .pointer (some ⟨p2, 0, none⟩)]) (fun c g => m1 c g || m2 c g) := by
  obtain ⟨f1, caps1, rfl, a2, a3⟩ := h1
  obtain ⟨f2, caps2, rfl, c2, c3⟩ := h2
  exact ⟨_, _, rfl, by kernel_rfl, fun w' hk hs hM q c g hq hc hg => c_built3 (hb1.held (hk p1 hB1 hE1)) (hb2.held (hk p2 hB2 hE2)) a2 c2 (a3 w' hk hs hM q c g hq hc hg)
    (fun w2 hb => c3 w2 (held_below hk hs hb) (Nat.le_trans hs hb.size) (hM.below hb) q c g (hq.below hb hq.lt) hc hg)⟩
end Go.Proofs.Ytldoedmclfbgpaa
