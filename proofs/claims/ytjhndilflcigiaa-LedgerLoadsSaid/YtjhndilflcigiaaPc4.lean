/-
  Lemmas (walks and plain laws), in one text.
-/
import Derived.Test.YtjhndilflcigiaaPc3
import Derived.Test.YtjhndilflcigiaaRows
import Derived.WalkKit
import Derived.WalkSpells
import Derived.WalkLawsBesides
import Derived.Lib.Hide
import Derived.Deep.QuietTactic
import Derived.BigQuiet
import Derived.Maps.AppendAt
import Derived.WalkSmall
import Derived.ProofKit
import Derived.OpenShut
import Derived.JoinedCond
import Derived.Deep.Slices
import Derived.Deep.Fields
import Derived.Carry
import Derived.Test.YtjhndilflcigiaaProg
import Derived.Deep.CutBlock
import Derived.Deep.DeepCutAuto
import Derived.Deep.AppendSrc
import Derived.Lib.AppendStr
import Derived.Laws.BytesArg
import Derived.Laws.CopyOwn
import Derived.Outline
import Derived.IntWalk
import Derived.Lib.EndianBits
import Derived.Laws.Tables
import Derived.Laws.Rows
import Derived.Shelf.Spec.TrailingZeros
import Derived.StillTail
import Derived.Lib.AppendZeros
import Derived.Deep.Quiet
import Derived.ChangeKeysEq
import Derived.Laws.StructEq
import Derived.Laws.LoneSync
namespace Go.Proofs.Ytjhndilflcigiaa
open Go.RowKit

set_option maxHeartbeats 400000 in
theorem c_pred_Check1 (x : Node) (w : World) (hs : x.v.s.length ≤ 9223372036854775807) : Calls Try.prog 98 #[x.val] w (RetV w (.bool (!x.ok))) := by
  unfold Node.val
  go_enter Try.func98, Try.ntmps98
  go_wp2_with (go_at_call 99; refine (c_pred_Node x _ hs).mono ?_; rintro e w1 ⟨rfl, hb1⟩)
  go_ret
  exact RetV.bool rfl (by repeat (first | exact Below.refl _ _ | refine Below.drew ?_ | refine Below.alloc ?_ (by first | omega | (simp; done) | (simp; omega)) _ | refine Below.setCell ?_ (by first | omega | (simp; done) | (simp; omega)) _ | refine Below.trans ?_ (Below.mono (by assumption) (by first | omega | (simp; done) | (simp; omega)))))
set_option maxHeartbeats 400000 in
theorem c_IndexFuncN (l : List Node) (A : Option Addr) (c : Nat) (w : World) (h : InN w A c l) (hs : ∀ x ∈ l, x.v.s.length ≤ 9223372036854775807) :
    Calls Try.prog 130 #[.slice A l.length c, .func (.func 98) #[] #[]] w (RetV w (.int .i64 (firstBad l 0))) := by
  have hL := h.1
  have hC := h.2.1
  have hS := h.2.2.1
  go_enter Try.func130, Try.ntmps130
  go_wp2_with (fail)
  go_loopw [8] (fun i wr => ∃ k : Nat, k ≤ l.length ∧ i = .int .i64 k ∧ Hid (firstBad (l.drop k) k = firstBad l 0) ∧ Below w.heap.size w wr) (fun i _ => l.length - (intOf i).toNat)
  case atStart => exact ⟨0, by omega, rfl, rfl, Below.refl _ _⟩
  case round =>
    obtain ⟨k, hk, rfl, H, hbl⟩ := hrel
    have hbz := hbl.size
    by_cases hlt : k < l.length
    · obtain ⟨b, off, rfl, hb, hrow⟩ := h.at hlt
      obtain ⟨e0, e1, e2, e3, e4⟩ := (hrow.below hbl hb).node hlt rfl
      have hs1 := hs l[k] (List.getElem_mem hlt)
      have hf := H.out
      rw [firstBad_at l k hlt] at hf
      clear h hs H
      cases hok : l[k].ok
      · rw [if_neg (by rw [hok]; simp)] at hf
        have HF := Lib.hid hf
        clear hf
        go_wp2_with (go_at_call 98; refine (c_pred_Check1 l[k] _ hs1).mono ?_; rintro e w1 ⟨rfl, hb1⟩)
        go_ret
        exact RetV.int HF.out (by repeat (first | exact Below.refl _ _ | refine Below.drew ?_ | refine Below.alloc ?_ (by first | omega | (simp; done) | (simp; omega)) _ | refine Below.setCell ?_ (by first | omega | (simp; done) | (simp; omega)) _ | refine Below.trans ?_ (Below.mono (by assumption) (by first | omega | (simp; done) | (simp; omega)))))
      · rw [if_pos hok] at hf
        have HF := Lib.hid hf
        clear hf
        go_wp2_with (go_at_call 98; refine (c_pred_Check1 l[k] _ hs1).mono ?_; rintro e w1 ⟨rfl, hb1⟩)
        go_roundw
        case rel => exact ⟨k + 1, by omega, by go_num, HF.out, (by repeat (first | exact Below.refl _ _ | refine Below.drew ?_ | refine Below.alloc ?_ (by first | omega | (simp; done) | (simp; omega)) _ | refine Below.setCell ?_ (by first | omega | (simp; done) | (simp; omega)) _ | refine Below.trans ?_ (Below.mono (by assumption) (by first | omega | (simp; done) | (simp; omega)))))⟩
        case measure => simp [intOf]; omega
    · have hf := H.out
      rw [List.drop_of_length_le (by omega)] at hf
      have HF := Lib.hid hf
      clear hf H
      go_wp2_with (fail)
      go_ret
      exact RetV.int HF.out hbl
set_option maxHeartbeats 400000 in
theorem c_ContainsFuncN (l : List Node) (A : Option Addr) (c : Nat) (w : World) (h : InN w A c l) (hs : ∀ x ∈ l, x.v.s.length ≤ 9223372036854775807) :
    Calls Try.prog 97 #[.slice A l.length c, .func (.func 98) #[] #[]] w (RetV w (.bool (l.any fun x => !x.ok))) := by
  have H := Lib.hid (firstBad_any l 0)
  go_enter Try.func97, Try.ntmps97
  go_wp2_with (go_at_call 130; refine (c_IndexFuncN l A c _ h hs).mono ?_; rintro e w1 ⟨rfl, hb1⟩)
  go_ret
  exact RetV.bool H.out (by repeat (first | exact Below.refl _ _ | refine Below.drew ?_ | refine Below.alloc ?_ (by first | omega | (simp; done) | (simp; omega)) _ | refine Below.setCell ?_ (by first | omega | (simp; done) | (simp; omega)) _ | refine Below.trans ?_ (Below.mono (by assumption) (by first | omega | (simp; done) | (simp; omega)))))
set_option maxHeartbeats 1000000 in
theorem c_pred_Depth (l : List Node) (A : Option Addr) (c : Nat) (w : World) (h : InN w A c l) :
    Calls Try.prog 100 #[.slice A l.length c] w (RetV w (.int .i64 (depth l))) := by
  have hL := h.1
  have hC := h.2.1
  have hS := h.2.2.1
  by_cases h0 : l.length = 0
  · have H : Hid (depth l = 0) := by have := List.eq_nil_of_length_eq_zero h0; subst this; rfl
    go_enter Try.func100, Try.ntmps100
    go_wp2_with (fail)
    go_ret
    exact RetV.int H.out.symm (Below.refl _ _)
  by_cases h1 : endAt l 0 = l.length
  case neg =>
    have H : Hid (depth l = 0) := by unfold Hid depth; rw [if_pos (.inr h1)]
    have hn : ((endAt l 0 : Int) != (l.length : Int)) = true := by simpa using h1
    go_enter Try.func100, Try.ntmps100
    go_wp2_with (go_at_call 96; refine (c_pred_End l A c 0 _ h).mono ?_; rintro e w1 ⟨rfl, hb1⟩)
    go_ret
    exact RetV.int H.out.symm (by repeat (first | exact Below.refl _ _ | refine Below.drew ?_ | refine Below.alloc ?_ (by first | omega | (simp; done) | (simp; omega)) _ | refine Below.setCell ?_ (by first | omega | (simp; done) | (simp; omega)) _ | refine Below.trans ?_ (Below.mono (by assumption) (by first | omega | (simp; done) | (simp; omega)))))
  have HD : Hid (deepFold l [] 0 = depth l) := by
    show _ = _
    unfold depth
    rw [if_neg (by
      rintro (e | e)
      · subst e; simp at h0
      · exact e h1)]
  have hn : ((endAt l 0 : Int) != (l.length : Int)) = false := by simpa using h1
  have hl0 : ((l.length : Int) == 0) = false := by simpa using h0
  have EI : Elem Try.prog 22 3 1 8 := Elem.mk' Try.underlying22 (z := .int .i64 0) (by kernel_rfl) rfl (by omega) (by omega)
  clear h1
  go_enter Try.func100, Try.ntmps100
  go_wp2_with (go_at_call 96; refine (c_pred_End l A c 0 _ h).mono ?_; rintro e w1 ⟨rfl, hb1⟩)
  go_loopw [3, 4, 19] (fun v dp i wr => ∃ (k : Nat) (st : List Int) (d : Int), k ≤ l.length ∧ i = .int .i64 k ∧ dp = .int .i64 d ∧ 0 ≤ d ∧ d ≤ k ∧ st.length ≤ k ∧ (∀ x ∈ st, 1 ≤ x ∧ x ≤ 2) ∧
      wr.ownsRow w.heap.size 3 1 v st.length (st.map (Value.int .i64)) ∧ Hid (deepFold (l.drop k) st.reverse d = depth l) ∧ Below w.heap.size w wr) (fun _ _ i _ => l.length - (intOf i).toNat)
  case atStart => exact ⟨0, [], 0, by omega, rfl, rfl, by omega, by omega, by simp, by simp, World.ownsRow_nil _ _ _ _, HD.out, (by repeat (first | exact Below.refl _ _ | refine Below.drew ?_ | refine Below.alloc ?_ (by first | omega | (simp; done) | (simp; omega)) _ | refine Below.setCell ?_ (by first | omega | (simp; done) | (simp; omega)) _ | refine Below.trans ?_ (Below.mono (by assumption) (by first | omega | (simp; done) | (simp; omega)))))⟩
  case round =>
    obtain ⟨k, st, d, hk, rfl, rfl, hd0, hdk, hst, hent, hown, H, hbl⟩ := hrel
    have hbz := hbl.size
    have Hent := Lib.hid hent
    have hbh := Lib.hid hb1
    clear hent hb1
    by_cases hlt : k < l.length
    · obtain ⟨b, off, rfl, hb, hrow⟩ := h.at hlt
      obtain ⟨e0, e1, e2, e3, e4⟩ := (hrow.below hbl hb).node hlt rfl
      have hf := H.out
      rw [List.drop_eq_getElem_cons hlt] at hf
      have HF : Hid (deepFold (l.drop (k+1)) (push (parts l[k].op) st.reverse) (max d ((st.length : Int) + 1)) = depth l) := by
        have : deepFold (l[k] :: l.drop (k+1)) st.reverse d = depth l := hf
        show _ = _
        simpa [deepFold] using this
      clear h hf H
      have hpb := parts_bd l[k].op
      obtain ⟨p, hp⟩ : ∃ p, parts l[k].op = p := ⟨_, rfl⟩
      have Hp := Lib.hid hp
      rw [hp] at hpb
      have hpb1 := hpb.1
      have hpb2 := hpb.2
      clear hp hpb
      obtain ⟨Av, cv, rfl, hcv1, hcv2⟩ := own_form hown
      have hown0 := Lib.hid hown
      clear hown
      go_wp2_with (first
        | (go_at_call 129; refine (c_pred_Parts _ _).mono ?_; rintro e w2 ⟨rfl, hb2⟩; rw [Hp.out]; have hz2 := hb2.size; simp only [World.size_alloc] at hz2)
        | (at_builtin
           refine wpList_app _ rfl (.tmp 28) (.tmp 32) EI rfl w.heap.size (.slice Av st.length cv) st.length (st.map (Value.int .i64)) rfl ((own_below (own_below (own_below hown0.out ((Below.refl _ _).alloc (Nat.le_refl _) _)) hb2) ((Below.refl _ _).alloc (Nat.le_refl _) _))) _ 1 1 [.int .i64 p] rfl (Src.new _ _ _ _ rfl) (by simp [Value.oneCell']) (by omega) ?_ ?_
           · simp only [World.size_alloc]; omega
           intro v3 w3 hown3 hg3 hb3 hat3))
      have hbw3 : Below w.heap.size w w3 := (by repeat (first | exact Below.refl _ _ | refine Below.drew ?_ | refine Below.alloc ?_ (by first | omega | (simp; done) | (simp; omega)) _ | refine Below.setCell ?_ (by first | omega | (simp; done) | (simp; omega)) _ | refine Below.trans ?_ (Below.mono (by assumption) (by first | omega | (simp; done) | (simp; omega)))))
      have HN : Hid (norm (st ++ [p]).reverse = push p st.reverse) := by
        show _ = _
        rw [List.reverse_append]
        rfl
      have hent2 : ∀ x ∈ st ++ [p], 0 ≤ x ∧ x ≤ 2 := by
        intro x hx
        rcases List.mem_append.1 hx with hx | hx
        · have := Hent.out x hx; omega
        · simp at hx; omega
      have hent3 : ∀ x ∈ (st ++ [p]).dropLast, 1 ≤ x := by
        intro x hx
        rw [List.dropLast_concat] at hx
        exact (Hent.out x hx).1
      have Hent2 := Lib.hid hent2
      have Hent3 := Lib.hid hent3
      have hown3' : w3.ownsRow w.heap.size 3 1 v3 (st ++ [p]).length ((st ++ [p]).map (Value.int .i64)) := by simpa using hown3
      have Hown := Lib.hid hown3'
      clear e0 e1 e2 e3 e4 hb2 hz2 hown3 hown3' hg3 hb3 hat3 hown0 hbl hbz hent2 hent3 Hent hrow hb
      obtain ⟨wo, rfl⟩ : ∃ wo : World, wo = wr := ⟨_, rfl⟩
      go_loopw [3] (fun v wi => ∃ st2 : List Int, st2.length ≤ k + 1 ∧ Hid (∀ x ∈ st2, 0 ≤ x ∧ x ≤ 2) ∧ Hid (∀ x ∈ st2.dropLast, 1 ≤ x) ∧
          Hid (wi.ownsRow w.heap.size 3 1 v st2.length (st2.map (Value.int .i64))) ∧ Hid (norm st2.reverse = push p st.reverse) ∧ Below w.heap.size w wi) (fun v _ => lenOf v)
      case atStart => exact ⟨st ++ [p], by simp; omega, Hent2, Hent3, Hown, HN, hbw3⟩
      case round =>
        obtain ⟨st2, hl2, E2, E3, O2, N2, hb2⟩ := hrel
        have hz2 := hb2.size
        have hnext : ∀ t r, st2 = r ++ [t] → t ≠ 0 → (∀ x ∈ st2, 1 ≤ x ∧ x ≤ 2) ∧ deepFold (l.drop (k+1)) st2.reverse (max d ((st.length : Int) + 1)) = depth l := by
          rintro t r rfl ht
          refine ⟨fun x hx => ?_, ?_⟩
          · have h1 := E2.out x hx
            rcases List.mem_append.1 hx with hx | hx
            · have := E3.out x (by rw [List.dropLast_concat]; exact hx); omega
            · simp at hx; omega
          · have hf := HF.out
            rw [Hp.out, ← N2.out] at hf
            have hr : (r ++ [t]).reverse = t :: r.reverse := by simp
            rw [hr, norm_keep ht, ← hr] at hf
            exact hf
        have HX := Lib.hid hnext
        clear hnext
        rcases snoc_cases st2 with rfl | ⟨rest, t, rfl⟩
        · obtain ⟨A2, c2, rfl, _, _⟩ := own_form O2.out
          clear HX
          go_wp2_with (fail)
          go_roundw
          case rel =>
            have hf := HF.out
            rw [Hp.out, ← N2.out] at hf
            exact ⟨k + 1, [], _, by omega, by go_num, rfl, by omega, by omega, by simp, by simp, O2.out, hf, hb2⟩
          case measure => simp [intOf]; omega
        · have Et := E2.out t (by simp)
          rcases snoc_cases rest with rfl | ⟨r2, y, rfl⟩
          · obtain ⟨g, c2, rfl, hc2, hc2', hg1, hg2⟩ := own_form' O2.out (by simp)
            have O2' : wr.ownsRow w.heap.size 3 1 (.slice (some ⟨g, 0, none⟩) 1 c2) 1 [.int .i64 t] := O2.out
            have hcell : wr.cell? ⟨g, 0, none⟩ = some (.int .i64 t) := by
              rw [O2'.cellAt _ (by omega)]
              rfl
            have hpop := Lib.hid (ownsRow_pop (xs := []) (n := 0) (by simp) O2')
            have O3 := Lib.hid O2'
            clear O2' O2
            simp only [List.nil_append, List.length_singleton] at hc2
            by_cases ht : t = 0
            · subst ht
              go_wp2_with (fail)
              go_roundw
              case rel =>
                have hn := N2.out
                exact ⟨[], by simp, (fun x hx => by cases hx), (fun x hx => by cases hx), hpop.out, by rw [← hn]; rfl, hb2⟩
              case measure => simp [lenOf]
            · have htb : ((t : Int) == 0) = false := by simpa using ht
              go_wp2_with (fail)
              go_roundw
              case rel =>
                obtain ⟨h1, h2⟩ := HX.out t [] rfl ht
                exact ⟨k + 1, [t], _, by omega, by go_num, rfl, by omega, by omega, by simp, h1, O3.out, h2, hb2⟩
              case measure => simp [intOf]; omega
          · have hl2' : r2.length + 2 ≤ k + 1 := by simpa using hl2
            obtain ⟨q, hq⟩ : ∃ q, r2.length = q := ⟨_, rfl⟩
            have hlen : (r2 ++ [y] ++ [t]).length = q + 2 := by simp [hq]
            have O2' := O2.out
            rw [hlen] at O2'
            simp only [List.map_append, List.map_cons, List.map_nil] at O2'
            obtain ⟨g, c2, rfl, hc2, hc2', hg1, hg2⟩ := own_form' O2' (by omega)
            rw [hq] at hl2'
            have hcell : wr.cell? ⟨g, q + 1, none⟩ = some (.int .i64 t) := by
              rw [O2'.cellAt _ (by omega)]
              rw [List.getElem?_append_right (by simp [hq])]
              simp [hq]
            have hcy : wr.cell? ⟨g, q, none⟩ = some (.int .i64 y) := by
              rw [O2'.cellAt _ (by omega)]
              rw [List.getElem?_append_left (by simp [hq]), List.getElem?_append_right (by simp [hq])]
              simp [hq]
            have hfz := fun j => O2'.frozenAt j
            have hpop := ownsRow_pop (n := q + 1) (by simp [hq]) O2'
            have hst2 := hpop.stored q (.int .i64 (y - 1))
            have ST := Lib.hid hst2
            have O3 := Lib.hid O2'
            have Hq := Lib.hid hq
            have Hlen := Lib.hid hlen
            have hy := E3.out y (by simp)
            have hy2 := (E2.out y (by simp)).2
            clear O2' O2 hpop hst2 hq hlen hl2
            by_cases ht : t = 0
            · subst ht
              clear HX
              go_wp2_with (fail)
              go_roundw
              case rel =>
                refine ⟨r2 ++ [y - 1], by simp [Hq.out]; omega, ?_, ?_, ?_, ?_, (by repeat (first | exact Below.refl _ _ | refine Below.drew ?_ | refine Below.alloc ?_ (by first | omega | (simp; done) | (simp; omega)) _ | refine Below.setCell ?_ (by first | omega | (simp; done) | (simp; omega)) _ | refine Below.trans ?_ (Below.mono (by assumption) (by first | omega | (simp; done) | (simp; omega)))))⟩
                · intro x hx
                  rcases List.mem_append.1 hx with hx | hx
                  · exact E2.out x (by simp [hx])
                  · simp at hx; omega
                · intro x hx
                  rw [List.dropLast_concat] at hx
                  exact E3.out x (by rw [List.dropLast_concat]; simp [hx])
                · show World.ownsRow _ _ _ _ _ _ _
                  rw [show q + 2 - 1 = q + 1 by omega, show (r2 ++ [y - 1]).length = q + 1 by simp [Hq.out]]
                  have h1 := ST.out.1
                  have e : ((r2.map (Value.int .i64) ++ [Value.int .i64 y]).set q (.int .i64 (y - 1))) = (r2 ++ [y - 1]).map (Value.int .i64) := by
                    rw [List.set_append_right _ _ (by simp [Hq.out])]
                    simp [Hq.out]
                  rw [e] at h1
                  exact h1
                · have hn := N2.out
                  have e1 : (r2 ++ [y] ++ [0]).reverse = 0 :: y :: r2.reverse := by simp
                  have e2 : (r2 ++ [y - 1]).reverse = (y - 1) :: r2.reverse := by simp
                  show _ = _
                  rw [← hn, e1, e2, norm_zero, dec_norm]
              case measure => simp [lenOf]
            · have htb : ((t : Int) == 0) = false := by simpa using ht
              go_wp2_with (fail)
              go_roundw
              case rel =>
                obtain ⟨h1, h2⟩ := HX.out t _ rfl ht
                refine ⟨k + 1, r2 ++ [y] ++ [t], _, by omega, by go_num, rfl, by omega, by omega, by rw [Hlen.out]; omega, h1, ?_, h2, hb2⟩
                rw [Hlen.out]
                simpa using O3.out
              case measure => simp [intOf]; omega
    · have hf := H.out
      rw [List.drop_of_length_le (by omega)] at hf
      have HF : Hid (d = depth l) := by simpa [deepFold, Hid] using hf
      clear hf H
      go_wp2_with (fail)
      go_ret
      exact RetV.int HF.out hbl
end Go.Proofs.Ytjhndilflcigiaa
namespace Go.Proofs.Ytjhndilflcigiaa
open Go.RowKit

set_option maxHeartbeats 400000 in
theorem c_pred_Check (l : List Node) (A : Option Addr) (c : Nat) (w : World) (h : InN w A c l) (hs : ∀ x ∈ l, x.v.s.length ≤ 9223372036854775807) :
    Calls Try.prog 69 #[.slice A l.length c] w (RetV w (.int .i64 (check l))) := by
  have hL := h.1
  have hC := h.2.1
  have hS := h.2.2.1
  have hdb := (depth_bd l).1
  have Hs := Lib.hid hs
  clear hs
  go_enter Try.func69, Try.ntmps69
  go_wp2_with (first
    | (go_at_call 96; refine (c_pred_End l A c 0 _ h).mono ?_; rintro e w1 ⟨rfl, hb1⟩)
    | (go_at_call 97; refine (c_ContainsFuncN l A c _ (h.below hb1) Hs.out).mono ?_; rintro e w2 ⟨rfl, hb2⟩)
    | (go_at_call 100; refine (c_pred_Depth l A c _ ((h.below hb1).below hb2)).mono ?_; rintro e w3 ⟨rfl, hb3⟩))
  all_goals (go_ret; (try have hz1 := hb1.size); (try have hz2 := hb2.size); refine RetV.int ?_ (by repeat (first | exact Below.refl _ _ | refine Below.drew ?_ | refine Below.alloc ?_ (by first | omega | (simp; done) | (simp; omega)) _ | refine Below.setCell ?_ (by first | omega | (simp; done) | (simp; omega)) _ | refine Below.trans ?_ (Below.mono (by assumption) (by first | omega | (simp; done) | (simp; omega))))); (simp_all [check] <;> first | omega | (intros; omega) | decide | grind))
set_option maxHeartbeats 1000000 in
theorem c_ref10_Kids (l : List Node) (a : Nat) (A : Option Addr) (c : Nat) (w : World) (h : InN w A c l) (ha : a < l.length) (mid : List Node) (d : Nat) (ht : Trees (parts l[a].op).toNat (l.drop (a + 1)) mid d) :
    Calls Try.prog 132 #[.slice A l.length c, .int .i64 a] w (RetK 44 w (cut (parts l[a].op).toNat (l.drop (a + 1)))) := by
  have hL := h.1
  have hC := h.2.1
  have hS := h.2.2.1
  obtain ⟨b, off, rfl, hb, hrow⟩ := h.at ha
  have hpb := parts_bd l[a].op
  obtain ⟨p, hp⟩ : ∃ p : Nat, (parts l[a].op).toNat = p := ⟨_, rfl⟩
  have hpi : parts l[a].op = (p : Int) := by rw [← hp]; omega
  have Hp := Lib.hid hpi
  rw [hp] at ht ⊢
  have hp2 : p ≤ 2 := by omega
  have Ht := Lib.hid ht
  have EN : Elem Try.prog 44 102 5 48 := Elem.mk' Try.underlying44 (z := .agg #[.int .i64 0, .int .i64 0, .int .i64 0, .int .i64 0, .string ⟨#[]⟩]) (by kernel_rfl) rfl (by omega) (by omega)
  have EK : Elem Try.prog 197 44 1 24 := Elem.mk' Try.underlying197 (z := .slice none 0 0) (by kernel_rfl) rfl (by omega) (by omega)
  clear hpb hp hpi ht
  have ha0 : decide ((a : Int) < 0) = false := by simp
  have ha1 : decide (l.length ≤ a) = false := by simpa using ha
  go_enter Try.func132, Try.ntmps132
  go_wp2_with (fail)
  go_loopw [5, 6, 7] (fun v fr i wr => ∃ (j : Nat) (f : Nat) (os : List Kid) (d' : Nat), j ≤ p ∧ i = .int .i64 j ∧ fr = .int .i64 f ∧ os.length = j ∧ Hid (Trees (p - j) (l.drop f) mid d') ∧
      Hid (os.map (·.2.2) ++ cut (p - j) (l.drop f) = cut p (l.drop (a + 1))) ∧ Hid (wr.ownsRow w.heap.size 44 1 v os.length (os.flatMap Kid.cells)) ∧
      Hid (∀ o ∈ os, o.2.2.length ≤ l.length ∧ wr.ownsRow w.heap.size 102 5 (Kid.val o) o.2.2.length (o.2.2.flatMap Node.cells)) ∧ f ≤ l.length ∧ Below w.heap.size w wr)
    (fun _ _ i _ => p - (intOf i).toNat)
  case atStart =>
    refine ⟨0, a + 1, [], d, by omega, rfl, by go_num, rfl, Ht.out, rfl, ?_, ?_, by omega, (by repeat (first | exact Below.refl _ _ | refine Below.drew ?_ | refine Below.alloc ?_ (by first | omega | (simp; done) | (simp; omega)) _ | refine Below.setCell ?_ (by first | omega | (simp; done) | (simp; omega)) _ | refine Below.trans ?_ (Below.mono (by assumption) (by first | omega | (simp; done) | (simp; omega)))))⟩
    · exact World.ownsRow_lit w #[] 0 (Nat.le_refl _) (by unfold maxLen; omega) (by simp)
    · intro o ho; cases ho
  case round =>
    obtain ⟨j, f, os, d', hj, rfl, rfl, hos, T, N, O, K, hf, hbl⟩ := hrel
    have hbz := hbl.size
    have e0 := ((hrow.below hbl hb).node ha rfl).1
    by_cases hlt : j < p
    · obtain ⟨n, hn⟩ : ∃ n, p - j = n + 1 := ⟨p - j - 1, by omega⟩
      have T' := T.out
      have N' := N.out
      rw [hn] at T' N'
      obtain ⟨s, d1, d2, hs1, hs2, hend, hcut, T2, Tr⟩ := cut_step T'
      rw [hcut] at N'
      have Hend := Lib.hid hend
      have NN := Lib.hid N'
      have TT := Lib.hid T2
      have Hn := Lib.hid hn
      have hlk : ((l.drop f).take s).length = s := by rw [List.length_take, List.length_drop]; omega
      have Hlk := Lib.hid hlk
      obtain ⟨Av, cv, rfl, hcv1, hcv2⟩ := own_form O.out
      obtain ⟨m, hm⟩ : ∃ m, os.length = m := ⟨_, rfl⟩
      have hO := O.out
      rw [hm] at hO
      have O2 := Lib.hid hO
      have hmj : m = j := by rw [← hm]; exact hos
      have Hm := Lib.hid hm
      have Hmj := Lib.hid hmj
      rw [hm] at hcv1 ⊢
      have hm2 : m ≤ 2 := by omega
      clear T N O T' N' hend hcut T2 hn hlk hO hos hmj hm e0
      have e0 := ((hrow.below hbl hb).node ha rfl).1
      go_wp2_with (first
        | (go_at_call 131; refine (c_ref10_Parts _ _).mono ?_; rintro e w2 ⟨rfl, hb2⟩; rw [Hp.out]; have hz2 := hb2.size)
        | (go_at_call 103; refine (c_ref10_End l _ c _ _ (h.below (by repeat (first | exact Below.refl _ _ | refine Below.drew ?_ | refine Below.alloc ?_ (by first | omega | (simp; done) | (simp; omega)) _ | refine Below.setCell ?_ (by first | omega | (simp; done) | (simp; omega)) _ | refine Below.trans ?_ (Below.mono (by assumption) (by first | omega | (simp; done) | (simp; omega))))))).mono ?_; rintro e w3 ⟨rfl, hb3⟩; rw [Hend.out]; have hz3 := hb3.size)
        | (at_builtin; refine Stop.out ?_))
      refine Stop.mk (wpList_app _ rfl (.tmp 34) (.tmp 38) EN rfl w3.heap.size (.slice (some ⟨w3.heap.size, 0, none⟩) 0 0) 0 [] rfl (World.ownsRow_lit w3 #[] 0 (Nat.le_refl _) (by unfold maxLen; omega) (by simp)) _ _ _ (((l.drop f).take s).flatMap Node.cells) rfl ?_ (nodes_one _) (by omega) ?_ ?_)
      · have hB : Below w.heap.size w (w3.alloc (.cells #[] 102)) := (by repeat (first | exact Below.refl _ _ | refine Below.drew ?_ | refine Below.alloc ?_ (by first | omega | (simp; done) | (simp; omega)) _ | refine Below.setCell ?_ (by first | omega | (simp; done) | (simp; omega)) _ | refine Below.trans ?_ (Below.mono (by assumption) (by first | omega | (simp; done) | (simp; omega)))))
        have hsub := (h.below hB).sub (i := f) (j := f + s) (by omega) hs2 ⟨by simp only [World.size_alloc]; omega, hrow.below hB hb⟩
        rw [show f + s - f = s by omega] at hsub ⊢
        have h1 := Src.of_in Node.cells_len (by omega) hsub
        rw [Hlk.out] at h1
        exact h1
      · simp only [World.size_alloc]; omega
      intro v4 w4 own4 g4 b4 at4
      obtain ⟨A4, c4, rfl, _, _⟩ := own_form own4
      rw [show 0 + (f + s - f) = s by omega, List.nil_append] at own4
      have hz4 := g4.size
      simp only [World.size_alloc] at hz4
      have hb4 : Below w.heap.size w w4 := by
        refine Below.trans (b := w3.alloc (.cells #[] 102)) (by repeat (first | exact Below.refl _ _ | refine Below.drew ?_ | refine Below.alloc ?_ (by first | omega | (simp; done) | (simp; omega)) _ | refine Below.setCell ?_ (by first | omega | (simp; done) | (simp; omega)) _ | refine Below.trans ?_ (Below.mono (by assumption) (by first | omega | (simp; done) | (simp; omega))))) (b4.mono (by omega))
      have keep4 : ∀ (b1 : Nat) (e1 : TypeId) (s1 n1 : Nat) (v1 : Value) (x1 : List Value), wr.ownsRow b1 e1 s1 v1 n1 x1 → w4.ownsRow b1 e1 s1 v1 n1 x1 := by
        intro b1 e1 s1 n1 v1 x1 h1
        have h2 := own_below (own_below h1 hb2) hb3
        refine own_kept_lt (g := w3.heap.size) (own_below h2 ((Below.refl _ _).alloc (Nat.le_refl _) _)) g4 (fun k hk => ?_)
        have := (h2.lt k hk).2
        omega
      have K4 := Lib.hid keep4
      have O4 := Lib.hid own4
      clear own4 keep4 at4 b4 g4
      go_wp2_with ((at_builtin; refine Stop.out ?_))
      refine Stop.mk (wpList_app _ rfl (.tmp 33) (.tmp 40) EK rfl w.heap.size (.slice Av m cv) m (os.flatMap Kid.cells) rfl (own_below (K4.out _ _ _ _ _ _ O2.out) ((Below.refl _ _).alloc (Nat.le_refl _) _)) _ 1 1 [.slice A4 s c4] rfl (Src.new _ _ _ _ rfl) (by simp [Value.oneCell']) (by omega) ?_ ?_)
      · simp only [World.size_alloc]; omega
      intro v5 w5 own5 g5 b5 at5
      go_wp2_with (fail)
      have hz5 := g5.size
      have hb5 : Below w.heap.size w w5 := by
        refine Below.trans (b := w4.alloc (.cells #[.slice A4 s c4] 44)) (by repeat (first | exact Below.refl _ _ | refine Below.drew ?_ | refine Below.alloc ?_ (by first | omega | (simp; done) | (simp; omega)) _ | refine Below.setCell ?_ (by first | omega | (simp; done) | (simp; omega)) _ | refine Below.trans ?_ (Below.mono (by assumption) (by first | omega | (simp; done) | (simp; omega))))) (b5.mono (by omega))
      go_roundw
      case rel =>
        have hnn := NN.out
        refine ⟨j + 1, f + s, os ++ [(A4, c4, (l.drop f).take s)], d1, by omega, by go_num, by go_num, by have := Hmj.out; simp [Hm.out, this], ?_, ?_, ?_, ?_, by omega, hb5⟩
        · show Trees _ _ _ _
          rw [show p - (j + 1) = n by have := Hn.out; omega]; exact TT.out
        · show _ = _
          rw [show p - (j + 1) = n by have := Hn.out; omega, ← hnn]
          simp
        · show World.ownsRow _ _ _ _ _ _ _
          have e : (os ++ [((A4, c4, (l.drop f).take s) : Kid)]).flatMap Kid.cells = os.flatMap Kid.cells ++ [.slice A4 s c4] := by
            simp only [List.flatMap_append, List.flatMap_cons, List.flatMap_nil, Kid.cells, Kid.val, Hlk.out, List.append_nil]
          rw [e, List.length_append, Hm.out]
          exact own5
        · intro o ho
          have keep5 : ∀ {b1 : Nat} {s1 n1 : Nat} {v1 : Value} {x1 : List Value}, w4.ownsRow b1 102 s1 v1 n1 x1 → w5.ownsRow b1 102 s1 v1 n1 x1 := by
            intro b1 s1 n1 v1 x1 h1
            exact own_kept_ne (own_below h1 ((Below.refl _ _).alloc (Nat.le_refl _) _)) (own_below (K4.out _ _ _ _ _ _ O2.out) ((Below.refl _ _).alloc (Nat.le_refl _) _)) (by decide) g5
          rcases List.mem_append.1 ho with ho | ho
          · exact ⟨(K.out o ho).1, keep5 (K4.out _ _ _ _ _ _ (K.out o ho).2)⟩
          · simp only [List.mem_singleton] at ho
            subst ho
            refine ⟨by show _ ≤ _; rw [Hlk.out]; omega, ?_⟩
            show World.ownsRow _ _ _ _ (.slice A4 (List.length _) c4) _ _
            rw [Hlk.out]
            exact own_base (keep5 O4.out) (by omega)
      case measure => simp [intOf]; omega
    · have hjp : j = p := by omega
      have hp0 : p - j = 0 := by omega
      have N' := N.out
      rw [hp0] at N'
      obtain ⟨Av, cv, rfl, hcv1, hcv2⟩ := own_form O.out
      have e0 := ((hrow.below hbl hb).node ha rfl).1
      have NN := Lib.hid N'
      clear N N' T Ht hp0 hos
      go_wp2_with (first
        | (go_at_call 131; refine (c_ref10_Parts _ _).mono ?_; rintro e w2 ⟨rfl, hb2⟩; rw [Hp.out]; have hz2 := hb2.size))
      go_ret
      refine ⟨os, ?_, ⟨_, rfl, own_below O.out hb2, (by repeat (first | exact Below.refl _ _ | refine Below.drew ?_ | refine Below.alloc ?_ (by first | omega | (simp; done) | (simp; omega)) _ | refine Below.setCell ?_ (by first | omega | (simp; done) | (simp; omega)) _ | refine Below.trans ?_ (Below.mono (by assumption) (by first | omega | (simp; done) | (simp; omega)))))⟩, fun o ho => ?_⟩
      · have := NN.out; simpa [cut] using this
      · obtain ⟨h1, h2⟩ := K.out o ho
        obtain ⟨A', c', he, hin⟩ := In.of_own Node.cells_len (own_below h2 hb2) (by omega)
        have e1 : o.1 = A' ∧ o.2.1 = c' := by
          have := he
          simp only [Kid.val, Value.slice.injEq, true_and] at this
          exact this
        rw [e1.1, e1.2]; exact hin
end Go.Proofs.Ytjhndilflcigiaa
