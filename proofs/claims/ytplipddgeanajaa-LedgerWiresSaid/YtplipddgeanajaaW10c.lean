/-
  The walks of chapter 10's functions: what is wrong with a filter (the program's), whether a list holds a node that may not be.
-/
import Derived.Test.YtplipddgeanajaaW10b
import Derived.Test.YtplipddgeanajaaDep
import Derived.Test.YtplipddgeanajaaOwn
namespace Go.Proofs.Ytplipddgeanajaa
open Go.RowKit

set_option maxHeartbeats 400000 in
theorem c_pred_Check1 (x : Node) (w : World) (hs : x.v.s.length ≤ 9223372036854775807) : Calls Try.prog 67 #[x.val] w (RetV w (.bool (!x.ok))) := by
  unfold Node.val
  go_enter Try.func67, Try.ntmps67
  go_wp2_with (go_at_call 68; refine (c_pred_Node x _ hs).mono ?_; rintro e w1 ⟨rfl, hb1⟩)
  go_ret
  exact RetV.bool rfl (by repeat (first | exact Below.refl _ _ | refine Below.drew ?_ | refine Below.alloc ?_ (by first | omega | (simp; done) | (simp; omega)) _ | refine Below.setCell ?_ (by first | omega | (simp; done) | (simp; omega)) _ | refine Below.trans ?_ (Below.mono (by assumption) (by first | omega | (simp; done) | (simp; omega)))))
set_option maxHeartbeats 400000 in
theorem c_IndexFuncN (l : List Node) (A : Option Addr) (c : Nat) (w : World) (h : InN w A c l) (hs : ∀ x ∈ l, x.v.s.length ≤ 9223372036854775807) :
    Calls Try.prog 105 #[.slice A l.length c, .func (.func 67) #[] #[]] w (RetV w (.int .i64 (firstBad l 0))) := by
  have hL := h.1
  have hC := h.2.1
  have hS := h.2.2.1
  go_enter Try.func105, Try.ntmps105
  go_wp2_with (fail)
  go_loopw [8] (fun i wr => ∃ k : Nat, k ≤ l.length ∧ i = .int .i64 k ∧ Hid (firstBad (l.drop k) k = firstBad l 0) ∧ Below w.heap.size w wr) (fun i _ => l.length - (intOf i).toNat)
  case atStart => exact ⟨0, by omega, rfl, rfl, Below.refl _ _⟩
  case round =>
    obtain ⟨k, hk, rfl, H, hbl⟩ := hrel
    have hbz := hbl.size
    by_cases hlt : k < l.length
    · obtain ⟨b, off, rfl, hb, hrow⟩ := h.at hlt
      obtain ⟨e0, e1, e2, e3, e4⟩ := (hrow.below hbl hb).node hlt rfl
      have hs1 := hs l[k] (List.getElem_mem hlt)
      have hf := H.out
      rw [firstBad_at l k hlt] at hf
      clear h hs H
      cases hok : l[k].ok
      · rw [if_neg (by rw [hok]; simp)] at hf
        have HF := Lib.hid hf
        clear hf
        go_wp2_with (go_at_call 67; refine (c_pred_Check1 l[k] _ hs1).mono ?_; rintro e w1 ⟨rfl, hb1⟩)
        go_ret
        exact RetV.int HF.out (by repeat (first | exact Below.refl _ _ | refine Below.drew ?_ | refine Below.alloc ?_ (by first | omega | (simp; done) | (simp; omega)) _ | refine Below.setCell ?_ (by first | omega | (simp; done) | (simp; omega)) _ | refine Below.trans ?_ (Below.mono (by assumption) (by first | omega | (simp; done) | (simp; omega)))))
      · rw [if_pos hok] at hf
        have HF := Lib.hid hf
        clear hf
        go_wp2_with (go_at_call 67; refine (c_pred_Check1 l[k] _ hs1).mono ?_; rintro e w1 ⟨rfl, hb1⟩)
        go_roundw
        case rel => exact ⟨k + 1, by omega, by go_num, HF.out, (by repeat (first | exact Below.refl _ _ | refine Below.drew ?_ | refine Below.alloc ?_ (by first | omega | (simp; done) | (simp; omega)) _ | refine Below.setCell ?_ (by first | omega | (simp; done) | (simp; omega)) _ | refine Below.trans ?_ (Below.mono (by assumption) (by first | omega | (simp; done) | (simp; omega)))))⟩
        case measure => simp [intOf]; omega
    · have hf := H.out
      rw [List.drop_of_length_le (by omega)] at hf
      have HF := Lib.hid hf
      clear hf H
      go_wp2_with (fail)
      go_ret
      exact RetV.int HF.out hbl
set_option maxHeartbeats 400000 in
theorem c_ContainsFuncN (l : List Node) (A : Option Addr) (c : Nat) (w : World) (h : InN w A c l) (hs : ∀ x ∈ l, x.v.s.length ≤ 9223372036854775807) :
    Calls Try.prog 66 #[.slice A l.length c, .func (.func 67) #[] #[]] w (RetV w (.bool (l.any fun x => !x.ok))) := by
  have H := Lib.hid (firstBad_any l 0)
  go_enter Try.func66, Try.ntmps66
  go_wp2_with (go_at_call 105; refine (c_IndexFuncN l A c _ h hs).mono ?_; rintro e w1 ⟨rfl, hb1⟩)
  go_ret
  exact RetV.bool H.out (by repeat (first | exact Below.refl _ _ | refine Below.drew ?_ | refine Below.alloc ?_ (by first | omega | (simp; done) | (simp; omega)) _ | refine Below.setCell ?_ (by first | omega | (simp; done) | (simp; omega)) _ | refine Below.trans ?_ (Below.mono (by assumption) (by first | omega | (simp; done) | (simp; omega)))))
set_option maxHeartbeats 1000000 in
theorem c_pred_Depth (l : List Node) (A : Option Addr) (c : Nat) (w : World) (h : InN w A c l) :
    Calls Try.prog 69 #[.slice A l.length c] w (RetV w (.int .i64 (depth l))) := by
  have hL := h.1
  have hC := h.2.1
  have hS := h.2.2.1
  by_cases h0 : l.length = 0
  · have H : Hid (depth l = 0) := by have := List.eq_nil_of_length_eq_zero h0; subst this; rfl
    go_enter Try.func69, Try.ntmps69
    go_wp2_with (fail)
    go_ret
    exact RetV.int H.out.symm (Below.refl _ _)
  by_cases h1 : endAt l 0 = l.length
  case neg =>
    have H : Hid (depth l = 0) := by unfold Hid depth; rw [if_pos (.inr h1)]
    have hn : ((endAt l 0 : Int) != (l.length : Int)) = true := by simpa using h1
    go_enter Try.func69, Try.ntmps69
    go_wp2_with (go_at_call 65; refine (c_pred_End l A c 0 _ h).mono ?_; rintro e w1 ⟨rfl, hb1⟩)
    go_ret
    exact RetV.int H.out.symm (by repeat (first | exact Below.refl _ _ | refine Below.drew ?_ | refine Below.alloc ?_ (by first | omega | (simp; done) | (simp; omega)) _ | refine Below.setCell ?_ (by first | omega | (simp; done) | (simp; omega)) _ | refine Below.trans ?_ (Below.mono (by assumption) (by first | omega | (simp; done) | (simp; omega)))))
  have HD : Hid (deepFold l [] 0 = depth l) := by
    show _ = _
    unfold depth
    rw [if_neg (by
      rintro (e | e)
      · subst e; simp at h0
      · exact e h1)]
  have hn : ((endAt l 0 : Int) != (l.length : Int)) = false := by simpa using h1
  have hl0 : ((l.length : Int) == 0) = false := by simpa using h0
  have EI : Elem Try.prog 68 3 1 8 := Elem.mk' Try.underlying68 (z := .int .i64 0) (by kernel_rfl) rfl (by omega) (by omega)
  clear h1
  go_enter Try.func69, Try.ntmps69
  go_wp2_with (go_at_call 65; refine (c_pred_End l A c 0 _ h).mono ?_; rintro e w1 ⟨rfl, hb1⟩)
  go_loopw [3, 4, 19] (fun v dp i wr => ∃ (k : Nat) (st : List Int) (d : Int), k ≤ l.length ∧ i = .int .i64 k ∧ dp = .int .i64 d ∧ 0 ≤ d ∧ d ≤ k ∧ st.length ≤ k ∧ (∀ x ∈ st, 1 ≤ x ∧ x ≤ 2) ∧
      wr.ownsRow w.heap.size 3 1 v st.length (st.map (Value.int .i64)) ∧ Hid (deepFold (l.drop k) st.reverse d = depth l) ∧ Below w.heap.size w wr) (fun _ _ i _ => l.length - (intOf i).toNat)
  case atStart => exact ⟨0, [], 0, by omega, rfl, rfl, by omega, by omega, by simp, by simp, World.ownsRow_nil _ _ _ _, HD.out, (by repeat (first | exact Below.refl _ _ | refine Below.drew ?_ | refine Below.alloc ?_ (by first | omega | (simp; done) | (simp; omega)) _ | refine Below.setCell ?_ (by first | omega | (simp; done) | (simp; omega)) _ | refine Below.trans ?_ (Below.mono (by assumption) (by first | omega | (simp; done) | (simp; omega)))))⟩
  case round =>
    obtain ⟨k, st, d, hk, rfl, rfl, hd0, hdk, hst, hent, hown, H, hbl⟩ := hrel
    have hbz := hbl.size
    have Hent := Lib.hid hent
    have hbh := Lib.hid hb1
    clear hent hb1
    by_cases hlt : k < l.length
    · obtain ⟨b, off, rfl, hb, hrow⟩ := h.at hlt
      obtain ⟨e0, e1, e2, e3, e4⟩ := (hrow.below hbl hb).node hlt rfl
      have hf := H.out
      rw [List.drop_eq_getElem_cons hlt] at hf
      have HF : Hid (deepFold (l.drop (k+1)) (push (parts l[k].op) st.reverse) (max d ((st.length : Int) + 1)) = depth l) := by
        have : deepFold (l[k] :: l.drop (k+1)) st.reverse d = depth l := hf
        show _ = _
        simpa [deepFold] using this
      clear h hf H
      have hpb := parts_bd l[k].op
      obtain ⟨p, hp⟩ : ∃ p, parts l[k].op = p := ⟨_, rfl⟩
      have Hp := Lib.hid hp
      rw [hp] at hpb
      have hpb1 := hpb.1
      have hpb2 := hpb.2
      clear hp hpb
      obtain ⟨Av, cv, rfl, hcv1, hcv2⟩ := own_form hown
      have hown0 := Lib.hid hown
      clear hown
      go_wp2_with (first
        | (go_at_call 104; refine (c_pred_Parts _ _).mono ?_; rintro e w2 ⟨rfl, hb2⟩; rw [Hp.out]; have hz2 := hb2.size; simp only [World.size_alloc] at hz2)
        | (at_builtin
           refine wpList_app _ rfl (.tmp 28) (.tmp 32) EI rfl w.heap.size (.slice Av st.length cv) st.length (st.map (Value.int .i64)) rfl ((own_below (own_below (own_below hown0.out ((Below.refl _ _).alloc (Nat.le_refl _) _)) hb2) ((Below.refl _ _).alloc (Nat.le_refl _) _))) _ 1 1 [.int .i64 p] rfl (Src.new _ _ _ _ rfl) (by simp [Value.oneCell']) (by omega) ?_ ?_
           · simp only [World.size_alloc]; omega
           intro v3 w3 hown3 hg3 hb3 hat3))
      have hbw3 : Below w.heap.size w w3 := (by repeat (first | exact Below.refl _ _ | refine Below.drew ?_ | refine Below.alloc ?_ (by first | omega | (simp; done) | (simp; omega)) _ | refine Below.setCell ?_ (by first | omega | (simp; done) | (simp; omega)) _ | refine Below.trans ?_ (Below.mono (by assumption) (by first | omega | (simp; done) | (simp; omega)))))
      have HN : Hid (norm (st ++ [p]).reverse = push p st.reverse) := by
        show _ = _
        rw [List.reverse_append]
        rfl
      have hent2 : ∀ x ∈ st ++ [p], 0 ≤ x ∧ x ≤ 2 := by
        intro x hx
        rcases List.mem_append.1 hx with hx | hx
        · have := Hent.out x hx; omega
        · simp at hx; omega
      have hent3 : ∀ x ∈ (st ++ [p]).dropLast, 1 ≤ x := by
        intro x hx
        rw [List.dropLast_concat] at hx
        exact (Hent.out x hx).1
      have Hent2 := Lib.hid hent2
      have Hent3 := Lib.hid hent3
      have hown3' : w3.ownsRow w.heap.size 3 1 v3 (st ++ [p]).length ((st ++ [p]).map (Value.int .i64)) := by simpa using hown3
      have Hown := Lib.hid hown3'
      clear e0 e1 e2 e3 e4 hb2 hz2 hown3 hown3' hg3 hb3 hat3 hown0 hbl hbz hent2 hent3 Hent hrow hb
      obtain ⟨wo, rfl⟩ : ∃ wo : World, wo = wr := ⟨_, rfl⟩
      go_loopw [3] (fun v wi => ∃ st2 : List Int, st2.length ≤ k + 1 ∧ Hid (∀ x ∈ st2, 0 ≤ x ∧ x ≤ 2) ∧ Hid (∀ x ∈ st2.dropLast, 1 ≤ x) ∧
          Hid (wi.ownsRow w.heap.size 3 1 v st2.length (st2.map (Value.int .i64))) ∧ Hid (norm st2.reverse = push p st.reverse) ∧ Below w.heap.size w wi) (fun v _ => lenOf v)
      case atStart => exact ⟨st ++ [p], by simp; omega, Hent2, Hent3, Hown, HN, hbw3⟩
      case round =>
        obtain ⟨st2, hl2, E2, E3, O2, N2, hb2⟩ := hrel
        have hz2 := hb2.size
        have hnext : ∀ t r, st2 = r ++ [t] → t ≠ 0 → (∀ x ∈ st2, 1 ≤ x ∧ x ≤ 2) ∧ deepFold (l.drop (k+1)) st2.reverse (max d ((st.length : Int) + 1)) = depth l := by
          rintro t r rfl ht
          refine ⟨fun x hx => ?_, ?_⟩
          · have h1 := E2.out x hx
            rcases List.mem_append.1 hx with hx | hx
            · have := E3.out x (by rw [List.dropLast_concat]; exact hx); omega
            · simp at hx; omega
          · have hf := HF.out
            rw [Hp.out, ← N2.out] at hf
            have hr : (r ++ [t]).reverse = t :: r.reverse := by simp
            rw [hr, norm_keep ht, ← hr] at hf
            exact hf
        have HX := Lib.hid hnext
        clear hnext
        rcases snoc_cases st2 with rfl | ⟨rest, t, rfl⟩
        · obtain ⟨A2, c2, rfl, _, _⟩ := own_form O2.out
          clear HX
          go_wp2_with (fail)
          go_roundw
          case rel =>
            have hf := HF.out
            rw [Hp.out, ← N2.out] at hf
            exact ⟨k + 1, [], _, by omega, by go_num, rfl, by omega, by omega, by simp, by simp, O2.out, hf, hb2⟩
          case measure => simp [intOf]; omega
        · have Et := E2.out t (by simp)
          rcases snoc_cases rest with rfl | ⟨r2, y, rfl⟩
          · obtain ⟨g, c2, rfl, hc2, hc2', hg1, hg2⟩ := own_form' O2.out (by simp)
            have O2' : wr.ownsRow w.heap.size 3 1 (.slice (some ⟨g, 0, none⟩) 1 c2) 1 [.int .i64 t] := O2.out
            have hcell : wr.cell? ⟨g, 0, none⟩ = some (.int .i64 t) := by
              rw [O2'.cellAt _ (by omega)]
              rfl
            have hpop := Lib.hid (ownsRow_pop (xs := []) (n := 0) (by simp) O2')
            have O3 := Lib.hid O2'
            clear O2' O2
            simp only [List.nil_append, List.length_singleton] at hc2
            by_cases ht : t = 0
            · subst ht
              go_wp2_with (fail)
              go_roundw
              case rel =>
                have hn := N2.out
                exact ⟨[], by simp, (fun x hx => by cases hx), (fun x hx => by cases hx), hpop.out, by rw [← hn]; rfl, hb2⟩
              case measure => simp [lenOf]
            · have htb : ((t : Int) == 0) = false := by simpa using ht
              go_wp2_with (fail)
              go_roundw
              case rel =>
                obtain ⟨h1, h2⟩ := HX.out t [] rfl ht
                exact ⟨k + 1, [t], _, by omega, by go_num, rfl, by omega, by omega, by simp, h1, O3.out, h2, hb2⟩
              case measure => simp [intOf]; omega
          · have hl2' : r2.length + 2 ≤ k + 1 := by simpa using hl2
            obtain ⟨q, hq⟩ : ∃ q, r2.length = q := ⟨_, rfl⟩
            have hlen : (r2 ++ [y] ++ [t]).length = q + 2 := by simp [hq]
            have O2' := O2.out
            rw [hlen] at O2'
            simp only [List.map_append, List.map_cons, List.map_nil] at O2'
            obtain ⟨g, c2, rfl, hc2, hc2', hg1, hg2⟩ := own_form' O2' (by omega)
            rw [hq] at hl2'
            have hcell : wr.cell? ⟨g, q + 1, none⟩ = some (.int .i64 t) := by
              rw [O2'.cellAt _ (by omega)]
              rw [List.getElem?_append_right (by simp [hq])]
              simp [hq]
            have hcy : wr.cell? ⟨g, q, none⟩ = some (.int .i64 y) := by
              rw [O2'.cellAt _ (by omega)]
              rw [List.getElem?_append_left (by simp [hq]), List.getElem?_append_right (by simp [hq])]
              simp [hq]
            have hfz := fun j => O2'.frozenAt j
            have hpop := ownsRow_pop (n := q + 1) (by simp [hq]) O2'
            have hst2 := hpop.stored q (.int .i64 (y - 1))
            have ST := Lib.hid hst2
            have O3 := Lib.hid O2'
            have Hq := Lib.hid hq
            have Hlen := Lib.hid hlen
            have hy := E3.out y (by simp)
            have hy2 := (E2.out y (by simp)).2
            clear O2' O2 hpop hst2 hq hlen hl2
            by_cases ht : t = 0
            · subst ht
              clear HX
              go_wp2_with (fail)
              go_roundw
              case rel =>
                refine ⟨r2 ++ [y - 1], by simp [Hq.out]; omega, ?_, ?_, ?_, ?_, (by repeat (first | exact Below.refl _ _ | refine Below.drew ?_ | refine Below.alloc ?_ (by first | omega | (simp; done) | (simp; omega)) _ | refine Below.setCell ?_ (by first | omega | (simp; done) | (simp; omega)) _ | refine Below.trans ?_ (Below.mono (by assumption) (by first | omega | (simp; done) | (simp; omega)))))⟩
                · intro x hx
                  rcases List.mem_append.1 hx with hx | hx
                  · exact E2.out x (by simp [hx])
                  · simp at hx; omega
                · intro x hx
                  rw [List.dropLast_concat] at hx
                  exact E3.out x (by rw [List.dropLast_concat]; simp [hx])
                · show World.ownsRow _ _ _ _ _ _ _
                  rw [show q + 2 - 1 = q + 1 by omega, show (r2 ++ [y - 1]).length = q + 1 by simp [Hq.out]]
                  have h1 := ST.out.1
                  have e : ((r2.map (Value.int .i64) ++ [Value.int .i64 y]).set q (.int .i64 (y - 1))) = (r2 ++ [y - 1]).map (Value.int .i64) := by
                    rw [List.set_append_right _ _ (by simp [Hq.out])]
                    simp [Hq.out]
                  rw [e] at h1
                  exact h1
                · have hn := N2.out
                  have e1 : (r2 ++ [y] ++ [0]).reverse = 0 :: y :: r2.reverse := by simp
                  have e2 : (r2 ++ [y - 1]).reverse = (y - 1) :: r2.reverse := by simp
                  show _ = _
                  rw [← hn, e1, e2, norm_zero, dec_norm]
              case measure => simp [lenOf]
            · have htb : ((t : Int) == 0) = false := by simpa using ht
              go_wp2_with (fail)
              go_roundw
              case rel =>
                obtain ⟨h1, h2⟩ := HX.out t _ rfl ht
                refine ⟨k + 1, r2 ++ [y] ++ [t], _, by omega, by go_num, rfl, by omega, by omega, by rw [Hlen.out]; omega, h1, ?_, h2, hb2⟩
                rw [Hlen.out]
                simpa using O3.out
              case measure => simp [intOf]; omega
    · have hf := H.out
      rw [List.drop_of_length_le (by omega)] at hf
      have HF : Hid (d = depth l) := by simpa [deepFold, Hid] using hf
      clear hf H
      go_wp2_with (fail)
      go_ret
      exact RetV.int HF.out hbl
end Go.Proofs.Ytplipddgeanajaa
