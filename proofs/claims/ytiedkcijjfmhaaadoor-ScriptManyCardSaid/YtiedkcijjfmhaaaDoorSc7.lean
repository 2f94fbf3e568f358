/-
  Lemmas (walks and plain laws), in one text.
-/
import Derived.Test.YtiedkcijjfmhaaaDoorSc1
import Derived.Test.YtiedkcijjfmhaaaDoorSc2
import Derived.Test.YtiedkcijjfmhaaaDoorSc3
import Derived.Test.YtiedkcijjfmhaaaDoorSc6
import Derived.Lib.AppendZeros
namespace Go.Proofs.YtiedkcijjfmhaaaDoor
open Go.RowKit

set_option maxHeartbeats 400000 in
theorem c_pred_Check (l : List Node) (A : Option Addr) (c : Nat) (w : World) (h : InN w A c l) (hs : ∀ x ∈ l, x.v.s.length ≤ 9223372036854775807) :
    Calls Tryd.prog 23 #[.slice A l.length c] w (RetV w (.int .i64 (check l))) := by
  have hL := h.1
  have hC := h.2.1
  have hS := h.2.2.1
  have hdb := (depth_bd l).1
  have Hs := Lib.hid hs
  clear hs
  go_enter Tryd.func23, Tryd.ntmps23
  go_wp2_with (first
    | (go_at_call 49; refine (c_pred_End l A c 0 _ h).mono ?_; rintro e w1 ⟨rfl, hb1⟩)
    | (go_at_call 50; refine (c_ContainsFuncN l A c _ (h.below hb1) Hs.out).mono ?_; rintro e w2 ⟨rfl, hb2⟩)
    | (go_at_call 53; refine (c_pred_Depth l A c _ ((h.below hb1).below hb2)).mono ?_; rintro e w3 ⟨rfl, hb3⟩))
  all_goals (go_ret; (try have hz1 := hb1.size); (try have hz2 := hb2.size); refine RetV.int ?_ (by repeat (first | exact Below.refl _ _ | refine Below.drew ?_ | refine Below.alloc ?_ (by first | omega | (simp; done) | (simp; omega)) _ | refine Below.setCell ?_ (by first | omega | (simp; done) | (simp; omega)) _ | refine Below.trans ?_ (Below.mono (by assumption) (by first | omega | (simp; done) | (simp; omega))))); (simp_all [check] <;> first | omega | (intros; omega) | decide | grind))
set_option maxHeartbeats 1000000 in
theorem c_ref10_Kids (l : List Node) (a : Nat) (A : Option Addr) (c : Nat) (w : World) (h : InN w A c l) (ha : a < l.length) (mid : List Node) (d : Nat) (ht : Trees (parts l[a].op).toNat (l.drop (a + 1)) mid d) :
    Calls Tryd.prog 90 #[.slice A l.length c, .int .i64 a] w (RetK 31 w (cut (parts l[a].op).toNat (l.drop (a + 1)))) := by
  have hL := h.1
  have hC := h.2.1
  have hS := h.2.2.1
  obtain ⟨b, off, rfl, hb, hrow⟩ := h.at ha
  have hpb := parts_bd l[a].op
  obtain ⟨p, hp⟩ : ∃ p : Nat, (parts l[a].op).toNat = p := ⟨_, rfl⟩
  have hpi : parts l[a].op = (p : Int) := by rw [← hp]; omega
  have Hp := Lib.hid hpi
  rw [hp] at ht ⊢
  have hp2 : p ≤ 2 := by omega
  have Ht := Lib.hid ht
  have EN : Elem Tryd.prog 31 80 5 48 := Elem.mk' Tryd.underlying31 (z := .agg #[.int .i64 0, .int .i64 0, .int .i64 0, .int .i64 0, .string ⟨#[]⟩]) (by kernel_rfl) rfl (by omega) (by omega)
  have EK : Elem Tryd.prog 114 31 1 24 := Elem.mk' Tryd.underlying114 (z := .slice none 0 0) (by kernel_rfl) rfl (by omega) (by omega)
  clear hpb hp hpi ht
  have ha0 : decide ((a : Int) < 0) = false := by simp
  have ha1 : decide (l.length ≤ a) = false := by simpa using ha
  go_enter Tryd.func90, Tryd.ntmps90
  go_wp2_with (fail)
  go_loopw [5, 6, 7] (fun v fr i wr => ∃ (j : Nat) (f : Nat) (os : List Kid) (d' : Nat), j ≤ p ∧ i = .int .i64 j ∧ fr = .int .i64 f ∧ os.length = j ∧ Hid (Trees (p - j) (l.drop f) mid d') ∧
      Hid (os.map (·.2.2) ++ cut (p - j) (l.drop f) = cut p (l.drop (a + 1))) ∧ Hid (wr.ownsRow w.heap.size 31 1 v os.length (os.flatMap Kid.cells)) ∧
      Hid (∀ o ∈ os, o.2.2.length ≤ l.length ∧ wr.ownsRow w.heap.size 80 5 (Kid.val o) o.2.2.length (o.2.2.flatMap Node.cells)) ∧ f ≤ l.length ∧ Below w.heap.size w wr)
    (fun _ _ i _ => p - (intOf i).toNat)
  case atStart =>
    refine ⟨0, a + 1, [], d, by omega, rfl, by go_num, rfl, Ht.out, rfl, ?_, ?_, by omega, (by repeat (first | exact Below.refl _ _ | refine Below.drew ?_ | refine Below.alloc ?_ (by first | omega | (simp; done) | (simp; omega)) _ | refine Below.setCell ?_ (by first | omega | (simp; done) | (simp; omega)) _ | refine Below.trans ?_ (Below.mono (by assumption) (by first | omega | (simp; done) | (simp; omega)))))⟩
    · exact World.ownsRow_lit w #[] 0 (Nat.le_refl _) (by unfold maxLen; omega) (by simp)
    · intro o ho; cases ho
  case round =>
    obtain ⟨j, f, os, d', hj, rfl, rfl, hos, T, N, O, K, hf, hbl⟩ := hrel
    have hbz := hbl.size
    have e0 := ((hrow.below hbl hb).node ha rfl).1
    by_cases hlt : j < p
    · obtain ⟨n, hn⟩ : ∃ n, p - j = n + 1 := ⟨p - j - 1, by omega⟩
      have T' := T.out
      have N' := N.out
      rw [hn] at T' N'
      obtain ⟨s, d1, d2, hs1, hs2, hend, hcut, T2, Tr⟩ := cut_step T'
      rw [hcut] at N'
      have Hend := Lib.hid hend
      have NN := Lib.hid N'
      have TT := Lib.hid T2
      have Hn := Lib.hid hn
      have hlk : ((l.drop f).take s).length = s := by rw [List.length_take, List.length_drop]; omega
      have Hlk := Lib.hid hlk
      obtain ⟨Av, cv, rfl, hcv1, hcv2⟩ := own_form O.out
      obtain ⟨m, hm⟩ : ∃ m, os.length = m := ⟨_, rfl⟩
      have hO := O.out
      rw [hm] at hO
      have O2 := Lib.hid hO
      have hmj : m = j := by rw [← hm]; exact hos
      have Hm := Lib.hid hm
      have Hmj := Lib.hid hmj
      rw [hm] at hcv1 ⊢
      have hm2 : m ≤ 2 := by omega
      clear T N O T' N' hend hcut T2 hn hlk hO hos hmj hm e0
      have e0 := ((hrow.below hbl hb).node ha rfl).1
      go_wp2_with (first
        | (go_at_call 89; refine (c_ref10_Parts _ _).mono ?_; rintro e w2 ⟨rfl, hb2⟩; rw [Hp.out]; have hz2 := hb2.size)
        | (go_at_call 62; refine (c_ref10_End l _ c _ _ (h.below (by repeat (first | exact Below.refl _ _ | refine Below.drew ?_ | refine Below.alloc ?_ (by first | omega | (simp; done) | (simp; omega)) _ | refine Below.setCell ?_ (by first | omega | (simp; done) | (simp; omega)) _ | refine Below.trans ?_ (Below.mono (by assumption) (by first | omega | (simp; done) | (simp; omega))))))).mono ?_; rintro e w3 ⟨rfl, hb3⟩; rw [Hend.out]; have hz3 := hb3.size)
        | (at_builtin; refine Stop.out ?_))
      refine Stop.mk (wpList_app _ rfl (.tmp 34) (.tmp 38) EN rfl w3.heap.size (.slice (some ⟨w3.heap.size, 0, none⟩) 0 0) 0 [] rfl (World.ownsRow_lit w3 #[] 0 (Nat.le_refl _) (by unfold maxLen; omega) (by simp)) _ _ _ (((l.drop f).take s).flatMap Node.cells) rfl ?_ (nodes_one _) (by omega) ?_ ?_)
      · have hB : Below w.heap.size w (w3.alloc (.cells #[] 80)) := (by repeat (first | exact Below.refl _ _ | refine Below.drew ?_ | refine Below.alloc ?_ (by first | omega | (simp; done) | (simp; omega)) _ | refine Below.setCell ?_ (by first | omega | (simp; done) | (simp; omega)) _ | refine Below.trans ?_ (Below.mono (by assumption) (by first | omega | (simp; done) | (simp; omega)))))
        have hsub := (h.below hB).sub (i := f) (j := f + s) (by omega) hs2 ⟨by simp only [World.size_alloc]; omega, hrow.below hB hb⟩
        rw [show f + s - f = s by omega] at hsub ⊢
        have h1 := Src.of_in Node.cells_len (by omega) hsub
        rw [Hlk.out] at h1
        exact h1
      · simp only [World.size_alloc]; omega
      intro v4 w4 own4 g4 b4 at4
      obtain ⟨A4, c4, rfl, _, _⟩ := own_form own4
      rw [show 0 + (f + s - f) = s by omega, List.nil_append] at own4
      have hz4 := g4.size
      simp only [World.size_alloc] at hz4
      have hb4 : Below w.heap.size w w4 := by
        refine Below.trans (b := w3.alloc (.cells #[] 80)) (by repeat (first | exact Below.refl _ _ | refine Below.drew ?_ | refine Below.alloc ?_ (by first | omega | (simp; done) | (simp; omega)) _ | refine Below.setCell ?_ (by first | omega | (simp; done) | (simp; omega)) _ | refine Below.trans ?_ (Below.mono (by assumption) (by first | omega | (simp; done) | (simp; omega))))) (b4.mono (by omega))
      have keep4 : ∀ (b1 : Nat) (e1 : TypeId) (s1 n1 : Nat) (v1 : Value) (x1 : List Value), wr.ownsRow b1 e1 s1 v1 n1 x1 → w4.ownsRow b1 e1 s1 v1 n1 x1 := by
        intro b1 e1 s1 n1 v1 x1 h1
        have h2 := own_below (own_below h1 hb2) hb3
        refine own_kept_lt (g := w3.heap.size) (own_below h2 ((Below.refl _ _).alloc (Nat.le_refl _) _)) g4 (fun k hk => ?_)
        have := (h2.lt k hk).2
        omega
      have K4 := Lib.hid keep4
      have O4 := Lib.hid own4
      clear own4 keep4 at4 b4 g4
      go_wp2_with ((at_builtin; refine Stop.out ?_))
      refine Stop.mk (wpList_app _ rfl (.tmp 33) (.tmp 40) EK rfl w.heap.size (.slice Av m cv) m (os.flatMap Kid.cells) rfl (own_below (K4.out _ _ _ _ _ _ O2.out) ((Below.refl _ _).alloc (Nat.le_refl _) _)) _ 1 1 [.slice A4 s c4] rfl (Src.new _ _ _ _ rfl) (by simp [Value.oneCell']) (by omega) ?_ ?_)
      · simp only [World.size_alloc]; omega
      intro v5 w5 own5 g5 b5 at5
      go_wp2_with (fail)
      have hz5 := g5.size
      have hb5 : Below w.heap.size w w5 := by
        refine Below.trans (b := w4.alloc (.cells #[.slice A4 s c4] 31)) (by repeat (first | exact Below.refl _ _ | refine Below.drew ?_ | refine Below.alloc ?_ (by first | omega | (simp; done) | (simp; omega)) _ | refine Below.setCell ?_ (by first | omega | (simp; done) | (simp; omega)) _ | refine Below.trans ?_ (Below.mono (by assumption) (by first | omega | (simp; done) | (simp; omega))))) (b5.mono (by omega))
      go_roundw
      case rel =>
        have hnn := NN.out
        refine ⟨j + 1, f + s, os ++ [(A4, c4, (l.drop f).take s)], d1, by omega, by go_num, by go_num, by have := Hmj.out; simp [Hm.out, this], ?_, ?_, ?_, ?_, by omega, hb5⟩
        · show Trees _ _ _ _
          rw [show p - (j + 1) = n by have := Hn.out; omega]; exact TT.out
        · show _ = _
          rw [show p - (j + 1) = n by have := Hn.out; omega, ← hnn]
          simp
        · show World.ownsRow _ _ _ _ _ _ _
          have e : (os ++ [((A4, c4, (l.drop f).take s) : Kid)]).flatMap Kid.cells = os.flatMap Kid.cells ++ [.slice A4 s c4] := by
            simp only [List.flatMap_append, List.flatMap_cons, List.flatMap_nil, Kid.cells, Kid.val, Hlk.out, List.append_nil]
          rw [e, List.length_append, Hm.out]
          exact own5
        · intro o ho
          have keep5 : ∀ {b1 : Nat} {s1 n1 : Nat} {v1 : Value} {x1 : List Value}, w4.ownsRow b1 80 s1 v1 n1 x1 → w5.ownsRow b1 80 s1 v1 n1 x1 := by
            intro b1 s1 n1 v1 x1 h1
            exact own_kept_ne (own_below h1 ((Below.refl _ _).alloc (Nat.le_refl _) _)) (own_below (K4.out _ _ _ _ _ _ O2.out) ((Below.refl _ _).alloc (Nat.le_refl _) _)) (by decide) g5
          rcases List.mem_append.1 ho with ho | ho
          · exact ⟨(K.out o ho).1, keep5 (K4.out _ _ _ _ _ _ (K.out o ho).2)⟩
          · simp only [List.mem_singleton] at ho
            subst ho
            refine ⟨by show _ ≤ _; rw [Hlk.out]; omega, ?_⟩
            show World.ownsRow _ _ _ _ (.slice A4 (List.length _) c4) _ _
            rw [Hlk.out]
            exact own_base (keep5 O4.out) (by omega)
      case measure => simp [intOf]; omega
    · have hjp : j = p := by omega
      have hp0 : p - j = 0 := by omega
      have N' := N.out
      rw [hp0] at N'
      obtain ⟨Av, cv, rfl, hcv1, hcv2⟩ := own_form O.out
      have e0 := ((hrow.below hbl hb).node ha rfl).1
      have NN := Lib.hid N'
      clear N N' T Ht hp0 hos
      go_wp2_with (first
        | (go_at_call 89; refine (c_ref10_Parts _ _).mono ?_; rintro e w2 ⟨rfl, hb2⟩; rw [Hp.out]; have hz2 := hb2.size))
      go_ret
      refine ⟨os, ?_, ⟨_, rfl, own_below O.out hb2, (by repeat (first | exact Below.refl _ _ | refine Below.drew ?_ | refine Below.alloc ?_ (by first | omega | (simp; done) | (simp; omega)) _ | refine Below.setCell ?_ (by first | omega | (simp; done) | (simp; omega)) _ | refine Below.trans ?_ (Below.mono (by assumption) (by first | omega | (simp; done) | (simp; omega)))))⟩, fun o ho => ?_⟩
      · have := NN.out; simpa [cut] using this
      · obtain ⟨h1, h2⟩ := K.out o ho
        obtain ⟨A', c', he, hin⟩ := In.of_own Node.cells_len (own_below h2 hb2) (by omega)
        have e1 : o.1 = A' ∧ o.2.1 = c' := by
          have := he
          simp only [Kid.val, Value.slice.injEq, true_and] at this
          exact this
        rw [e1.1, e1.2]; exact hin
end Go.Proofs.YtiedkcijjfmhaaaDoor
namespace Go.Proofs.YtiedkcijjfmhaaaDoor
open Go.RowKit

set_option maxHeartbeats 1000000 in
theorem c_ref10_Depth (n : Nat) : ∀ (l : List Node) (A : Option Addr) (c : Nat) (w : World), l.length ≤ n → InN w A c l →
    Calls Tryd.prog 63 #[.slice A l.length c] w (RetV w (.int .i64 (depth l))) := by
  induction n with
  | zero =>
    intro l A c w hn h
    have h0 : l.length = 0 := by omega
    have H : Hid (depth l = 0) := by have := List.eq_nil_of_length_eq_zero h0; subst this; rfl
    go_enter Tryd.func63, Tryd.ntmps63
    go_wp2_with (fail)
    go_ret
    exact RetV.int H.out.symm (Below.refl _ _)
  | succ n ih =>
    intro l A c w hn h
    have IH := Lib.hid ih
    clear ih
    have hL := h.1
    have hC := h.2.1
    have hS := h.2.2.1
    by_cases h0 : l.length = 0
    · have H : Hid (depth l = 0) := by have := List.eq_nil_of_length_eq_zero h0; subst this; rfl
      go_enter Tryd.func63, Tryd.ntmps63
      go_wp2_with (fail)
      go_ret
      exact RetV.int H.out.symm (Below.refl _ _)
    have hl0 : ((l.length : Int) == 0) = false := by simpa using h0
    by_cases h1 : endAt l 0 = l.length
    case neg =>
      have H : Hid (depth l = 0) := by unfold Hid depth; rw [if_pos (.inr h1)]
      have hne : ((endAt l 0 : Int) != (l.length : Int)) = true := by simpa using h1
      go_enter Tryd.func63, Tryd.ntmps63
      go_wp2_with (go_at_call 62; refine (c_ref10_End l A c 0 _ h).mono ?_; rintro e w1 ⟨rfl, hb1⟩)
      go_ret
      exact RetV.int H.out.symm (by repeat (first | exact Below.refl _ _ | refine Below.drew ?_ | refine Below.alloc ?_ (by first | omega | (simp; done) | (simp; omega)) _ | refine Below.setCell ?_ (by first | omega | (simp; done) | (simp; omega)) _ | refine Below.trans ?_ (Below.mono (by assumption) (by first | omega | (simp; done) | (simp; omega)))))
    obtain ⟨d, ht⟩ := tree_of_end (by rintro rfl; simp at h0) h1
    have hlt : 0 < l.length := by omega
    have hdt := depth_tree ht
    obtain ⟨x, r, d', hl, htr, hd⟩ := ht.head
    have hx : l[0] = x := by subst hl; rfl
    have hr : l.drop 1 = r := by subst hl; rfl
    rw [← hx, ← hr] at htr
    obtain ⟨hc1, hc2, hc3⟩ := cut_trees htr
    have hdc := depth_cut htr 0 (by omega)
    have hne : ((endAt l 0 : Int) != (l.length : Int)) = false := by simpa using h1
    obtain ⟨ks, hks⟩ : ∃ ks, cut (parts l[0].op).toNat (l.drop (0 + 1)) = ks := ⟨_, rfl⟩
    have hks' : cut (parts l[0].op).toNat (l.drop 1) = ks := hks
    rw [hks'] at hc1 hc2 hc3 hdc
    have hkl : ∀ k ∈ ks, k.length ≤ n := by
      intro k hk
      have := flatten_len ks k hk
      have h2 := congrArg List.length hc2
      simp only [List.append_nil, List.length_drop] at h2
      omega
    have HD : Hid (depth l = (ks.map depth).foldl max 0 + 1) := by
      show _ = _
      rw [hdt, hdc, hd]; omega
    have Hks := Lib.hid hks
    have Hkl := Lib.hid hkl
    have htr0 := Lib.hid htr
    have hp2 := parts_bd l[0].op
    have hkl2 : ks.length ≤ 2 := by omega
    have hpos : ∀ k, 0 ≤ depth k := fun k => (depth_bd k).1
    have hbd : ∀ k ∈ ks, depth k ≤ 4294967296 := by
      intro k hk
      have h3 := (depth_bd k).2
      have h4 := flatten_len ks k hk
      have h2 := congrArg List.length hc2
      simp only [List.append_nil, List.length_drop] at h2
      omega
    have Hpos := Lib.hid hpos
    have Hbd := Lib.hid hbd
    clear h1 ht hdt hl htr hd hx hr hc1 hc2 hc3 hdc hks hks' hkl hp2 hpos hbd
    go_enter Tryd.func63, Tryd.ntmps63
    go_wp2_with (go_at_call 62; refine (c_ref10_End l A c 0 _ h).mono ?_; rintro e w1 ⟨rfl, hb1⟩)
    refine (c_ref10_Kids l 0 A c _ (h.below hb1) hlt _ _ htr0.out).mono ?_
    rintro e w2 ⟨os, hos, ⟨v, rfl, own, hb2⟩, hin⟩
    rw [Hks.out] at hos
    have hol : os.length = ks.length := by rw [← hos]; simp
    obtain ⟨Av, cv, rfl, hv1, hv2⟩ := own_form own
    have Hb2 := Lib.hid hb2
    have Own := Lib.hid own
    have Hin := Lib.hid hin
    have Hos := Lib.hid hos
    have hbw : Below w.heap.size w w2 := by refine Below.trans hb1 (hb2.mono hb1.size)
    have Hbw := Lib.hid hbw
    have hol2 : os.length ≤ 2 := by omega
    have Hol := Lib.hid hol
    clear hb1 hb2 own hin hos hol hbw
    go_wp2_with (fail)
    go_loopw [4, 5] (fun m i wr => ∃ (k : Nat) (dm : Int), k ≤ os.length ∧ i = .int .i64 k ∧ m = .int .i64 dm ∧ 0 ≤ dm ∧ dm ≤ 4294967296 ∧ Hid (((ks.take k).map depth).foldl max 0 = dm) ∧ Below w2.heap.size w2 wr)
      (fun _ i _ => os.length - (intOf i).toNat)
    case atStart => exact ⟨0, 0, by omega, rfl, rfl, by omega, by omega, rfl, Below.refl _ _⟩
    case round =>
      obtain ⟨k, dm, hk, rfl, rfl, hd0, hd1, HM, hbl⟩ := hrel
      have hbz := hbl.size
      by_cases hlt2 : k < os.length
      · have hlk : k < ks.length := by have := Hol.out; omega
        have hkk : (os[k]).2.2 = ks[k] := by
          have := Hos.out
          subst this
          simp
        obtain ⟨g, cg, he, hg1, hg2, hg3, hg4⟩ := own_form' Own.out (by omega)
        have hAv : Av = some ⟨g, 0, none⟩ := by simp only [Value.slice.injEq] at he; exact he.1
        subst hAv
        have hcell : wr.cell? ⟨g, k, none⟩ = some (.slice os[k].1 os[k].2.2.length os[k].2.1) := by
          have h1 := Own.out.cells (g := g) rfl k
          rw [add_lit] at h1
          rw [hbl.cell (p := ⟨g, k, none⟩) hg4]
          refine h1 _ ?_
          have := flat_get (k := 1) (cs := Kid.cells) (fun _ => rfl) os k hlt2 0 (by omega)
          rw [Nat.mul_one, Nat.add_zero] at this
          rw [this]; rfl
        have hin := Hin.out os[k] (List.getElem_mem hlt2)
        have hle : (os[k]).2.2.length ≤ n := by rw [hkk]; exact Hkl.out _ (List.getElem_mem hlk)
        have hm2 : depth (os[k]).2.2 = depth ks[k] := by rw [hkk]
        have hpk := Hpos.out ks[k]
        have hbk := Hbd.out ks[k] (List.getElem_mem hlk)
        have Hm2 := Lib.hid hm2
        have Hin2 := Lib.hid (hin.below hbl)
        clear hin hkk hm2 he
        go_wp2_with (go_at_call 63; refine (IH.out _ _ _ _ hle Hin2.out).mono ?_; rintro e w3 ⟨rfl, hb3⟩; rw [Hm2.out])
        go_roundw
        case rel =>
          refine ⟨k + 1, _, by omega, by go_num, rfl, by omega, by omega, ?_, (by repeat (first | exact Below.refl _ _ | refine Below.drew ?_ | refine Below.alloc ?_ (by first | omega | (simp; done) | (simp; omega)) _ | refine Below.setCell ?_ (by first | omega | (simp; done) | (simp; omega)) _ | refine Below.trans ?_ (Below.mono (by assumption) (by first | omega | (simp; done) | (simp; omega)))))⟩
          show _ = _
          rw [List.take_succ_eq_append_getElem hlk, List.map_append, List.foldl_append, HM.out]
          rfl
        case measure => simp [intOf]; omega
      · have HM2 : Hid ((ks.map depth).foldl max 0 = dm) := by
          have h1 := HM.out
          rw [List.take_of_length_le (by have := Hol.out; omega)] at h1
          exact h1
        clear HM
        go_wp2_with (fail)
        go_ret
        refine RetV.int ?_ (Below.trans Hbw.out (hbl.mono Hbw.out.size))
        rw [HD.out, HM2.out]
set_option maxHeartbeats 1000000 in
theorem c_ref10_Check (l : List Node) (A : Option Addr) (c : Nat) (w : World) (h : InN w A c l) (hs : ∀ x ∈ l, x.v.s.length ≤ 9223372036854775807) :
    Calls Tryd.prog 31 #[.slice A l.length c] w (RetV w (.int .i64 (check l))) := by
  have hL := h.1
  have hC := h.2.1
  have hS := h.2.2.1
  have Hs := Lib.hid hs
  clear hs
  by_cases h31 : 31 < l.length
  · have H : Hid (check l = 4) := by unfold Hid check; rw [if_pos h31]
    go_enter Tryd.func31, Tryd.ntmps31
    go_wp2_with (fail)
    go_ret
    exact RetV.int H.out.symm (Below.refl _ _)
  have h31b : decide (31 < (l.length : Int)) = false := by simp; omega
  have hlt31 : l.length ≤ 31 := by omega
  have HC : Hid (check l = if (l.any fun x => !x.ok) = true then 1 else if l.length = 0 ∨ endAt l 0 ≠ l.length then 1 else if 8 < depth l then 5 else 0) := by
    unfold Hid check
    rw [if_neg h31]
    by_cases h1 : l.length = 0 ∨ endAt l 0 ≠ l.length <;> by_cases h2 : (l.any fun x => !x.ok) = true <;> simp only [h1, h2, if_true, if_false, ite_self]
  clear h31
  go_enter Tryd.func31, Tryd.ntmps31
  go_wp2_with (fail)
  go_loopw [3] (fun i wr => ∃ k : Nat, k ≤ l.length ∧ i = .int .i64 k ∧ Hid (((l.take k).any fun x => !x.ok) = false) ∧ Below w.heap.size w wr) (fun i _ => l.length - (intOf i).toNat)
  case atStart => exact ⟨0, by omega, rfl, by simp [Hid], Below.refl _ _⟩
  case round =>
    obtain ⟨k, hk, rfl, H, hbl⟩ := hrel
    have hbz := hbl.size
    by_cases hlt : k < l.length
    · obtain ⟨b, off, rfl, hb, hrow⟩ := h.at hlt
      obtain ⟨e0, e1, e2, e3, e4⟩ := (hrow.below hbl hb).node hlt rfl
      have hs1 := Hs.out l[k] (List.getElem_mem hlt)
      clear h
      cases hok : l[k].ok
      · have H1 : Hid (check l = 1) := by
          unfold Hid
          rw [HC.out, if_pos]
          rw [List.any_eq_true]
          exact ⟨l[k], List.getElem_mem hlt, by simp [hok]⟩
        go_wp2_with (go_at_call 61; refine (c_ref10_Node l[k] _ hs1).mono ?_; rintro e w1 ⟨rfl, hb1⟩)
        go_ret
        exact RetV.int H1.out.symm (by repeat (first | exact Below.refl _ _ | refine Below.drew ?_ | refine Below.alloc ?_ (by first | omega | (simp; done) | (simp; omega)) _ | refine Below.setCell ?_ (by first | omega | (simp; done) | (simp; omega)) _ | refine Below.trans ?_ (Below.mono (by assumption) (by first | omega | (simp; done) | (simp; omega)))))
      · go_wp2_with (go_at_call 61; refine (c_ref10_Node l[k] _ hs1).mono ?_; rintro e w1 ⟨rfl, hb1⟩)
        go_roundw
        case rel =>
          refine ⟨k + 1, by omega, by go_num, ?_, (by repeat (first | exact Below.refl _ _ | refine Below.drew ?_ | refine Below.alloc ?_ (by first | omega | (simp; done) | (simp; omega)) _ | refine Below.setCell ?_ (by first | omega | (simp; done) | (simp; omega)) _ | refine Below.trans ?_ (Below.mono (by assumption) (by first | omega | (simp; done) | (simp; omega)))))⟩
          show List.any _ _ = false
          rw [List.take_succ_eq_append_getElem hlt, List.any_append, H.out]
          simp [hok]
        case measure => simp [intOf]; omega
    · have HC2 : Hid (check l = if l.length = 0 ∨ endAt l 0 ≠ l.length then 1 else if 8 < depth l then 5 else 0) := by
        have h1 := H.out
        rw [List.take_of_length_le (by omega)] at h1
        unfold Hid
        rw [HC.out, h1]; simp
      clear H HC
      go_wp2_with (first
        | (go_at_call 62; refine (c_ref10_End l A c 0 _ (h.below hbl)).mono ?_; rintro e w1 ⟨rfl, hb1⟩)
        | (go_at_call 63; refine (c_ref10_Depth l.length l A c _ (Nat.le_refl _) ((h.below hbl).below hb1)).mono ?_; rintro e w3 ⟨rfl, hb3⟩))
      all_goals (go_ret; (try have hz1 := hb1.size); refine RetV.int ?_ (by repeat (first | exact Below.refl _ _ | refine Below.drew ?_ | refine Below.alloc ?_ (by first | omega | (simp; done) | (simp; omega)) _ | refine Below.setCell ?_ (by first | omega | (simp; done) | (simp; omega)) _ | refine Below.trans ?_ (Below.mono (by assumption) (by first | omega | (simp; done) | (simp; omega))))); have HC3 := HC2.out; (try simp only [ne_eq] at *); (simp_all [] <;> first | omega | (intros; omega) | decide | grind))
end Go.Proofs.YtiedkcijjfmhaaaDoor
namespace Go.Proofs.YtiedkcijjfmhaaaDoor
open Go.RowKit

def named (op : Int) : Bool := decide (3 ≤ op) && decide (op ≤ 9)
def valued (op : Int) : Bool := decide (6 ≤ op) && decide (op ≤ 9)
/-- A node's bytes, a filter's bytes. -/
def nodeB (x : Node) : List UInt8 := num x.op ++ ((if named x.op then num x.n else []) ++ (if valued x.op then valB x.v else []))
@[irreducible] def putB (l : List Node) : List UInt8 := if check l = 0 then num l.length ++ l.flatMap nodeB else []
theorem putB_bad {l : List Node} (h : check l ≠ 0) : putB l = [] := by unfold putB; rw [if_neg h]
theorem putB_ok {l : List Node} (h : check l = 0) : putB l = num l.length ++ l.flatMap nodeB := by unfold putB; rw [if_pos h]
theorem check_len {l : List Node} (h : check l = 0) : l.length ≤ 31 := by
  unfold check at h
  split at h
  · cases h
  · omega
theorem nodeB_len (x : Node) : (nodeB x).length ≤ 52 := by
  have h1 := num_len x.op
  have h2 := num_len x.n
  have h3 := valB_len x.v
  unfold nodeB
  rw [List.length_append, List.length_append]
  cases named x.op <;> cases valued x.op <;> simp <;> omega
theorem nodes_len : ∀ l : List Node, (l.flatMap nodeB).length ≤ 52 * l.length
  | [] => by simp
  | x :: l => by
    have := nodes_len l
    have := nodeB_len x
    rw [List.flatMap_cons, List.length_append, List.length_cons]; omega
theorem putB_len (l : List Node) : (putB l).length ≤ 1619 := by
  by_cases h : check l = 0
  · have h1 := check_len h
    have h2 := nodes_len l
    have h3 := num_len l.length
    rw [putB_ok h, List.length_append]; omega
  · rw [putB_bad h]; simp
theorem nodeB_A {x : Node} (h1 : named x.op = false) (h2 : valued x.op = false) : nodeB x = num x.op := by unfold nodeB; rw [h1, h2]; simp
theorem nodeB_B {x : Node} (h1 : named x.op = true) (h2 : valued x.op = false) : nodeB x = num x.op ++ num x.n := by unfold nodeB; rw [h1, h2]; simp
theorem nodeB_C {x : Node} (h1 : named x.op = true) (h2 : valued x.op = true) : nodeB x = num x.op ++ (num x.n ++ valB x.v) := by unfold nodeB; rw [h1, h2]; simp
theorem named_cases (op : Int) : (named op = false ∧ valued op = false) ∨ (named op = true ∧ valued op = false) ∨ (named op = true ∧ valued op = true) := by
  unfold named valued
  by_cases h1 : 3 ≤ op <;> by_cases h2 : op ≤ 9 <;> by_cases h3 : 6 ≤ op <;> simp [h1, h2, h3] <;> omega

set_option maxHeartbeats 400000 in
theorem c_predwire_named (op : Int) (w : World) : Calls Tryd.prog 94 #[.int .i64 op] w (RetV w (.bool (named op))) := by
  go_enter Tryd.func94, Tryd.ntmps94
  go_wp2
  all_goals (go_ret; refine RetV.bool ?_ (by repeat (first | exact Below.refl _ _ | refine Below.drew ?_ | refine Below.alloc ?_ (by first | omega | (simp; done) | (simp; omega)) _ | refine Below.setCell ?_ (by first | omega | (simp; done) | (simp; omega)) _ | refine Below.trans ?_ (Below.mono (by assumption) (by first | omega | (simp; done) | (simp; omega))))); simp_all [named]; try omega)
set_option maxHeartbeats 400000 in
theorem c_predwire_valued (op : Int) (w : World) : Calls Tryd.prog 95 #[.int .i64 op] w (RetV w (.bool (valued op))) := by
  go_enter Tryd.func95, Tryd.ntmps95
  go_wp2
  all_goals (go_ret; refine RetV.bool ?_ (by repeat (first | exact Below.refl _ _ | refine Below.drew ?_ | refine Below.alloc ?_ (by first | omega | (simp; done) | (simp; omega)) _ | refine Below.setCell ?_ (by first | omega | (simp; done) | (simp; omega)) _ | refine Below.trans ?_ (Below.mono (by assumption) (by first | omega | (simp; done) | (simp; omega))))); simp_all [valued]; try omega)
set_option maxHeartbeats 1000000 in
set_option maxRecDepth 4000 in
theorem c_predwire_Put (b : List UInt8) (B : Option Addr) (cb : Nat) (l : List Node) (A : Option Addr) (c : Nat) (w : World) (hb : InB w B cb b) (h : InN w A c l) (hbl : b.length ≤ 1000000) (hs : ∀ x ∈ l, x.v.s.length ≤ 4294967000) :
    Calls Tryd.prog 73 #[.slice B b.length cb, .slice A l.length c] w (RetS 1 bc 5 w (b ++ putB l)) := by
  have hL := h.1
  have hC := h.2.1
  have hS := h.2.2.1
  have hL' := hb.1
  have hC' := hb.2.1
  have hs' : ∀ x ∈ l, x.v.s.length ≤ 9223372036854775807 := fun x hx => by have := hs x hx; omega
  have Hs' := Lib.hid hs'
  clear hs'
  by_cases hok : check l = 0
  case neg =>
    have H : Hid (b = b ++ putB l) := by show _ = _; rw [putB_bad hok, List.append_nil]
    have hne : (check l != 0) = true := by simpa using hok
    clear hs hok
    go_enter Tryd.func73, Tryd.ntmps73
    go_wp2_with (first
      | (go_at_call 93; refine (c_Clone_b b B cb _ (hb.below hb1)).mono ?_; rintro e w2 ⟨v2, rfl, own2, hb2⟩)
      | (go_at_call 23; refine (c_pred_Check l A c _ h Hs'.out).mono ?_; rintro e w1 ⟨rfl, hb1⟩; have hz1 := hb1.size))
    go_ret
    exact RetS.of own2 (by omega) H.out (by repeat (first | exact Below.refl _ _ | refine Below.drew ?_ | refine Below.alloc ?_ (by first | omega | (simp; done) | (simp; omega)) _ | refine Below.setCell ?_ (by first | omega | (simp; done) | (simp; omega)) _ | refine Below.trans ?_ (Below.mono (by assumption) (by first | omega | (simp; done) | (simp; omega)))))
  have H : Hid (b ++ num l.length ++ (l.drop 0).flatMap nodeB = b ++ putB l) := by show _ = _; rw [putB_ok hok, List.drop_zero, List.append_assoc]
  have hne : (check l != 0) = false := by simpa using hok
  have hl31 := check_len hok
  have hn1 := (num_len l.length).2
  clear hok
  go_enter Tryd.func73, Tryd.ntmps73
  go_wp2_with (first
    | (go_at_call 38; refine (c_octet_Num b B cb _ _ (hb.below hb1)).mono ?_; rintro e w2 ⟨v2, rfl, own2, hb2⟩; have hz2 := hb2.size; obtain ⟨l2, A2, c2, H2, hl2, rfl, in2, own2'⟩ := own_open bc_len own2 (b.length + 7) (by simp only [List.length_append]; omega) (by omega); clear own2)
    | (go_at_call 23; refine (c_pred_Check l A c _ h Hs'.out).mono ?_; rintro e w1 ⟨rfl, hb1⟩; have hz1 := hb1.size))
  go_loopw [0, 18] (fun v i wr => ∃ (k : Nat) (acc : List UInt8), k ≤ l.length ∧ acc.length ≤ b.length + 7 + k * 52 ∧ i = .int .i64 k ∧ Hid (wr.ownsRow w.heap.size 5 1 v acc.length (acc.flatMap bc)) ∧ Hid (acc ++ (l.drop k).flatMap nodeB = b ++ putB l) ∧ Below w.heap.size w wr)
    (fun _ i _ => l.length - (intOf i).toNat)
  case atStart => exact ⟨0, l2, by omega, by omega, rfl, own_base own2'.out hz1, by show _ = _; rw [H2.out]; exact H.out, (by repeat (first | exact Below.refl _ _ | refine Below.drew ?_ | refine Below.alloc ?_ (by first | omega | (simp; done) | (simp; omega)) _ | refine Below.setCell ?_ (by first | omega | (simp; done) | (simp; omega)) _ | refine Below.trans ?_ (Below.mono (by assumption) (by first | omega | (simp; done) | (simp; omega)))))⟩
  case round =>
    obtain ⟨k, acc, hk, hac, rfl, O, N, hbl'⟩ := hrel
    have hbz := hbl'.size
    have hb1' := Lib.hid hb1
    have hb2' := Lib.hid hb2
    clear hb1 hb2 own2' in2
    by_cases hlt : k < l.length
    · obtain ⟨bl, off, rfl, hbb, hrow⟩ := h.at hlt
      obtain ⟨e0, e1, e2, e3, e4⟩ := (hrow.below hbl' hbb).node hlt rfl
      have hs1 := hs l[k] (List.getElem_mem hlt)
      have hN := N.out
      rw [List.drop_eq_getElem_cons hlt, List.flatMap_cons] at hN
      obtain ⟨A1, c1, rfl, in1⟩ := In.of_own bc_len O.out (by omega)
      clear h hs H N O hb
      rcases named_cases l[k].op with ⟨hnm, hvl⟩ | ⟨hnm, hvl⟩ | ⟨hnm, hvl⟩
      · rw [nodeB_A hnm hvl] at hN
        have HN := Lib.hid hN
        clear hN
        go_wp2_with (first | (go_at_call 38; refine (c_octet_Num acc A1 c1 _ _ (in1.below (by repeat (first | exact Below.refl _ _ | refine Below.drew ?_ | refine Below.alloc ?_ (by first | omega | (simp; done) | (simp; omega)) _ | refine Below.setCell ?_ (by first | omega | (simp; done) | (simp; omega)) _ | refine Below.trans ?_ (Below.mono (by assumption) (by first | omega | (simp; done) | (simp; omega))))))).mono ?_; rintro e w3 ⟨v3, rfl, own3, hb3⟩; have hz3 := hb3.size; simp only [World.size_alloc] at hz3; have q3 := fun o => hb3.cell (p := ⟨wr.heap.size, o, none⟩) (by simp); obtain ⟨l3, A3, c3, H3, hl3, rfl, in3, own3'⟩ := own_open bc_len own3 (acc.length + 7) (by have := (num_len l[k].op).2; simp only [List.length_append]; omega) (by omega); clear own3) | (go_at_call 94; refine (c_predwire_named _ _).mono ?_; rintro e w4 ⟨rfl, hb4⟩; have hz4 := hb4.size; have q4 := fun o => hb4.cell (p := ⟨wr.heap.size, o, none⟩) (by show wr.heap.size < _; omega)) | (go_at_call 95; refine (c_predwire_valued _ _).mono ?_; rintro e w5 ⟨rfl, hb5⟩; have hz5 := hb5.size))
        go_roundw
        case rel => exact ⟨k + 1, l3, by omega, by omega, by go_num, own_below (own_below (own_base own3'.out (by simp only [World.size_alloc]; omega)) hb4) hb5, by show _ = _; rw [H3.out, ← HN.out]; simp, (by repeat (first | exact Below.refl _ _ | refine Below.drew ?_ | refine Below.alloc ?_ (by first | omega | (simp; done) | (simp; omega)) _ | refine Below.setCell ?_ (by first | omega | (simp; done) | (simp; omega)) _ | refine Below.trans ?_ (Below.mono (by assumption) (by first | omega | (simp; done) | (simp; omega)))))⟩
        case measure => simp [intOf]; omega
      · rw [nodeB_B hnm hvl] at hN
        have HN := Lib.hid hN
        clear hN
        go_wp2_with (first | (go_at_call 38; refine (c_octet_Num l3 A3 c3 _ _ (in3.below hb4)).mono ?_; rintro e w6 ⟨v6, rfl, own6, hb6⟩; have hz6 := hb6.size; have q6 := fun o => hb6.cell (p := ⟨wr.heap.size, o, none⟩) (by show wr.heap.size < _; omega); obtain ⟨l6, A6, c6, H6, hl6, rfl, in6, own6'⟩ := own_open bc_len own6 (acc.length + 14) (by have := (num_len l[k].n).2; simp only [List.length_append]; omega) (by omega); clear own6) | (go_at_call 38; refine (c_octet_Num acc A1 c1 _ _ (in1.below (by repeat (first | exact Below.refl _ _ | refine Below.drew ?_ | refine Below.alloc ?_ (by first | omega | (simp; done) | (simp; omega)) _ | refine Below.setCell ?_ (by first | omega | (simp; done) | (simp; omega)) _ | refine Below.trans ?_ (Below.mono (by assumption) (by first | omega | (simp; done) | (simp; omega))))))).mono ?_; rintro e w3 ⟨v3, rfl, own3, hb3⟩; have hz3 := hb3.size; simp only [World.size_alloc] at hz3; have q3 := fun o => hb3.cell (p := ⟨wr.heap.size, o, none⟩) (by simp); obtain ⟨l3, A3, c3, H3, hl3, rfl, in3, own3'⟩ := own_open bc_len own3 (acc.length + 7) (by have := (num_len l[k].op).2; simp only [List.length_append]; omega) (by omega); clear own3) | (go_at_call 94; refine (c_predwire_named _ _).mono ?_; rintro e w4 ⟨rfl, hb4⟩; have hz4 := hb4.size; have q4 := fun o => hb4.cell (p := ⟨wr.heap.size, o, none⟩) (by show wr.heap.size < _; omega)) | (go_at_call 95; refine (c_predwire_valued _ _).mono ?_; rintro e w7 ⟨rfl, hb7⟩; have hz7 := hb7.size; have q7 := fun o => hb7.cell (p := ⟨wr.heap.size, o, none⟩) (by show wr.heap.size < _; omega)))
        go_roundw
        case rel => exact ⟨k + 1, l6, by omega, by omega, by go_num, own_below (own_base own6'.out (by omega)) hb7, by show _ = _; rw [H6.out, H3.out, ← HN.out]; simp, (by repeat (first | exact Below.refl _ _ | refine Below.drew ?_ | refine Below.alloc ?_ (by first | omega | (simp; done) | (simp; omega)) _ | refine Below.setCell ?_ (by first | omega | (simp; done) | (simp; omega)) _ | refine Below.trans ?_ (Below.mono (by assumption) (by first | omega | (simp; done) | (simp; omega)))))⟩
        case measure => simp [intOf]; omega
      · rw [nodeB_C hnm hvl] at hN
        have HN := Lib.hid hN
        clear hN
        go_wp2_with (first | (go_at_call 96; refine (c_cardwire_PutValue l6 A6 c6 l[k].v _ (in6.below hb7) (by omega) hs1).mono ?_; rintro e w8 ⟨v8, rfl, own8, hb8⟩; have hz8 := hb8.size; obtain ⟨l8, A8, c8, H8, hl8, rfl, in8, own8'⟩ := own_open bc_len own8 (acc.length + 52) (by have := valB_len l[k].v; simp only [List.length_append]; omega) (by omega); clear own8) | (go_at_call 38; refine (c_octet_Num l3 A3 c3 _ _ (in3.below hb4)).mono ?_; rintro e w6 ⟨v6, rfl, own6, hb6⟩; have hz6 := hb6.size; have q6 := fun o => hb6.cell (p := ⟨wr.heap.size, o, none⟩) (by show wr.heap.size < _; omega); obtain ⟨l6, A6, c6, H6, hl6, rfl, in6, own6'⟩ := own_open bc_len own6 (acc.length + 14) (by have := (num_len l[k].n).2; simp only [List.length_append]; omega) (by omega); clear own6) | (go_at_call 38; refine (c_octet_Num acc A1 c1 _ _ (in1.below (by repeat (first | exact Below.refl _ _ | refine Below.drew ?_ | refine Below.alloc ?_ (by first | omega | (simp; done) | (simp; omega)) _ | refine Below.setCell ?_ (by first | omega | (simp; done) | (simp; omega)) _ | refine Below.trans ?_ (Below.mono (by assumption) (by first | omega | (simp; done) | (simp; omega))))))).mono ?_; rintro e w3 ⟨v3, rfl, own3, hb3⟩; have hz3 := hb3.size; simp only [World.size_alloc] at hz3; have q3 := fun o => hb3.cell (p := ⟨wr.heap.size, o, none⟩) (by simp); obtain ⟨l3, A3, c3, H3, hl3, rfl, in3, own3'⟩ := own_open bc_len own3 (acc.length + 7) (by have := (num_len l[k].op).2; simp only [List.length_append]; omega) (by omega); clear own3) | (go_at_call 94; refine (c_predwire_named _ _).mono ?_; rintro e w4 ⟨rfl, hb4⟩; have hz4 := hb4.size; have q4 := fun o => hb4.cell (p := ⟨wr.heap.size, o, none⟩) (by show wr.heap.size < _; omega)) | (go_at_call 95; refine (c_predwire_valued _ _).mono ?_; rintro e w7 ⟨rfl, hb7⟩; have hz7 := hb7.size; have q7 := fun o => hb7.cell (p := ⟨wr.heap.size, o, none⟩) (by show wr.heap.size < _; omega)))
        go_roundw
        case rel => exact ⟨k + 1, l8, by omega, by omega, by go_num, own_base own8'.out (by omega), by show _ = _; rw [H8.out, H6.out, H3.out, ← HN.out]; simp, (by repeat (first | exact Below.refl _ _ | refine Below.drew ?_ | refine Below.alloc ?_ (by first | omega | (simp; done) | (simp; omega)) _ | refine Below.setCell ?_ (by first | omega | (simp; done) | (simp; omega)) _ | refine Below.trans ?_ (Below.mono (by assumption) (by first | omega | (simp; done) | (simp; omega)))))⟩
        case measure => simp [intOf]; omega
    · have hN := N.out
      rw [List.drop_of_length_le (by omega)] at hN
      have HN := Lib.hid hN
      obtain ⟨A1, c1, rfl, _, _⟩ := own_form O.out
      clear hN N H
      go_wp2_with (fail)
      go_ret
      exact RetS.of O.out (by omega) (by rw [← HN.out]; simp) hbl'
set_option maxHeartbeats 1000000 in
set_option maxRecDepth 4000 in
theorem c_ref16_Put (l : List Node) (A : Option Addr) (c : Nat) (w : World) (h : InN w A c l) (hs : ∀ x ∈ l, x.v.s.length ≤ 4294967000) :
    Calls Tryd.prog 77 #[.slice A l.length c] w (RetV w (.string (str (putB l)))) := by
  have hL := h.1
  have hC := h.2.1
  have hS := h.2.2.1
  have hs' : ∀ x ∈ l, x.v.s.length ≤ 9223372036854775807 := fun x hx => by have := hs x hx; omega
  have Hs' := Lib.hid hs'
  clear hs'
  by_cases hok : check l = 0
  case neg =>
    have H : Hid (([] : List UInt8) = putB l) := by show _ = _; rw [putB_bad hok]
    have hne : (check l != 0) = true := by simpa using hok
    clear hs hok
    go_enter Tryd.func77, Tryd.ntmps77
    go_wp2_with (first
      | (go_at_call 31; refine (c_ref10_Check l A c _ h Hs'.out).mono ?_; rintro e w1 ⟨rfl, hb1⟩; have hz1 := hb1.size))
    go_ret
    exact RetV.str H.out (by repeat (first | exact Below.refl _ _ | refine Below.drew ?_ | refine Below.alloc ?_ (by first | omega | (simp; done) | (simp; omega)) _ | refine Below.setCell ?_ (by first | omega | (simp; done) | (simp; omega)) _ | refine Below.trans ?_ (Below.mono (by assumption) (by first | omega | (simp; done) | (simp; omega)))))
  have H : Hid (num l.length ++ (l.drop 0).flatMap nodeB = putB l) := by show _ = _; rw [putB_ok hok, List.drop_zero]
  have hne : (check l != 0) = false := by simpa using hok
  have hl31 := check_len hok
  have hn1 := (num_len l.length).2
  clear hok
  go_enter Tryd.func77, Tryd.ntmps77
  go_wp2_with (first
    | (go_at_call 40; refine (c_ref01_Num _ _).mono ?_; rintro e w2 ⟨rfl, hb2⟩; have hz2 := hb2.size)
    | (go_at_call 31; refine (c_ref10_Check l A c _ h Hs'.out).mono ?_; rintro e w1 ⟨rfl, hb1⟩; have hz1 := hb1.size))
  go_loopw [3, 4] (fun v i wr => ∃ (k : Nat) (acc : List UInt8), k ≤ l.length ∧ acc.length ≤ 7 + k * 52 ∧ i = .int .i64 k ∧ v = .string (str acc) ∧ Hid (acc ++ (l.drop k).flatMap nodeB = putB l) ∧ Below w.heap.size w wr)
    (fun _ i _ => l.length - (intOf i).toNat)
  case atStart => exact ⟨0, num l.length, by omega, by omega, rfl, rfl, H.out, (by repeat (first | exact Below.refl _ _ | refine Below.drew ?_ | refine Below.alloc ?_ (by first | omega | (simp; done) | (simp; omega)) _ | refine Below.setCell ?_ (by first | omega | (simp; done) | (simp; omega)) _ | refine Below.trans ?_ (Below.mono (by assumption) (by first | omega | (simp; done) | (simp; omega)))))⟩
  case round =>
    obtain ⟨k, acc, hk, hac, rfl, rfl, N, hbl'⟩ := hrel
    have hbz := hbl'.size
    have hb1' := Lib.hid hb1
    have hb2' := Lib.hid hb2
    clear hb1 hb2
    by_cases hlt : k < l.length
    · obtain ⟨bl, off, rfl, hbb, hrow⟩ := h.at hlt
      obtain ⟨e0, e1, e2, e3, e4⟩ := (hrow.below hbl' hbb).node hlt rfl
      have hs1 := hs l[k] (List.getElem_mem hlt)
      have hN := N.out
      rw [List.drop_eq_getElem_cons hlt, List.flatMap_cons] at hN
      have hn2 := (num_len l[k].op).2
      have hn3 := (num_len l[k].n).2
      have hn4 := valB_len l[k].v
      clear h hs H N
      rcases named_cases l[k].op with ⟨hnm, hvl⟩ | ⟨hnm, hvl⟩ | ⟨hnm, hvl⟩
      · rw [nodeB_A hnm hvl] at hN
        have HN := Lib.hid hN
        clear hN
        have Hnm := Lib.hid hnm
        have Hvl := Lib.hid hvl
        simp only [named, valued, Bool.and_eq_false_iff, decide_eq_false_iff_not] at hnm hvl
        go_wp2_with (first | (go_at_call 40; refine (c_ref01_Num _ _).mono ?_; rintro e w3 ⟨rfl, hb3⟩; have hz3 := hb3.size; (try simp only [World.size_alloc] at hz3); have q3 := fun o => hb3.cell (p := ⟨wr.heap.size, o, none⟩) (by show wr.heap.size < _; first | (simp; done) | omega); have hB3 : Below w.heap.size w w3 := (by repeat (first | exact Below.refl _ _ | refine Below.drew ?_ | refine Below.alloc ?_ (by first | omega | (simp; done) | (simp; omega)) _ | refine Below.setCell ?_ (by first | omega | (simp; done) | (simp; omega)) _ | refine Below.trans ?_ (Below.mono (by assumption) (by first | omega | (simp; done) | (simp; omega))))); have hlt3 : wr.heap.size < w3.heap.size := by omega))
        all_goals first
          | (exfalso; omega)
          | (go_roundw
             case rel => exact ⟨k + 1, acc ++ num l[k].op, by omega, by simp only [List.length_append]; omega, by go_num, by simp, by show _ = _; rw [← HN.out]; simp, (by repeat (first | exact Below.refl _ _ | refine Below.drew ?_ | refine Below.alloc ?_ (by first | omega | (simp; done) | (simp; omega)) _ | refine Below.setCell ?_ (by first | omega | (simp; done) | (simp; omega)) _ | refine Below.trans ?_ (Below.mono (by assumption) (by first | omega | (simp; done) | (simp; omega)))))⟩
             case measure => simp [intOf]; omega)
      · rw [nodeB_B hnm hvl] at hN
        have HN := Lib.hid hN
        clear hN
        have Hnm := Lib.hid hnm
        have Hvl := Lib.hid hvl
        simp only [named, valued, Bool.and_eq_false_iff, Bool.and_eq_true, decide_eq_true_eq, decide_eq_false_iff_not] at hnm hvl
        go_wp2_with (first | (go_at_call 40; have hB4' := hB3; refine (c_ref01_Num _ _).mono ?_; rintro e w4 ⟨rfl, hb4⟩; have hz4 := hb4.size; have q4 := fun o => hb4.cell (p := ⟨wr.heap.size, o, none⟩) (by show wr.heap.size < _; first | (simp; done) | omega); have hB4 : Below w.heap.size w w4 := hB3.trans (hb4.mono (by omega))) | (go_at_call 40; refine (c_ref01_Num _ _).mono ?_; rintro e w3 ⟨rfl, hb3⟩; have hz3 := hb3.size; (try simp only [World.size_alloc] at hz3); have q3 := fun o => hb3.cell (p := ⟨wr.heap.size, o, none⟩) (by show wr.heap.size < _; first | (simp; done) | omega); have hB3 : Below w.heap.size w w3 := (by repeat (first | exact Below.refl _ _ | refine Below.drew ?_ | refine Below.alloc ?_ (by first | omega | (simp; done) | (simp; omega)) _ | refine Below.setCell ?_ (by first | omega | (simp; done) | (simp; omega)) _ | refine Below.trans ?_ (Below.mono (by assumption) (by first | omega | (simp; done) | (simp; omega))))); have hlt3 : wr.heap.size < w3.heap.size := by omega))
        all_goals first
          | (exfalso; omega)
          | (go_roundw
             case rel => exact ⟨k + 1, acc ++ num l[k].op ++ num l[k].n, by omega, by simp only [List.length_append]; omega, by go_num, by simp, by show _ = _; rw [← HN.out]; simp, (by repeat (first | exact Below.refl _ _ | refine Below.drew ?_ | refine Below.alloc ?_ (by first | omega | (simp; done) | (simp; omega)) _ | refine Below.setCell ?_ (by first | omega | (simp; done) | (simp; omega)) _ | refine Below.trans ?_ (Below.mono (by assumption) (by first | omega | (simp; done) | (simp; omega)))))⟩
             case measure => simp [intOf]; omega)
      · rw [nodeB_C hnm hvl] at hN
        have HN := Lib.hid hN
        clear hN
        have Hnm := Lib.hid hnm
        have Hvl := Lib.hid hvl
        simp only [named, valued, Bool.and_eq_true, decide_eq_true_eq] at hnm hvl
        go_wp2_with (first | (go_at_call 98; refine (c_ref08_PutValue l[k].v _ hs1).mono ?_; rintro e w5 ⟨rfl, hb5⟩; have hz5 := hb5.size; have hB5 : Below w.heap.size w w5 := hB4.trans (hb5.mono (by omega))) | (go_at_call 40; have hB4' := hB3; refine (c_ref01_Num _ _).mono ?_; rintro e w4 ⟨rfl, hb4⟩; have hz4 := hb4.size; have q4 := fun o => hb4.cell (p := ⟨wr.heap.size, o, none⟩) (by show wr.heap.size < _; first | (simp; done) | omega); have hB4 : Below w.heap.size w w4 := hB3.trans (hb4.mono (by omega))) | (go_at_call 40; refine (c_ref01_Num _ _).mono ?_; rintro e w3 ⟨rfl, hb3⟩; have hz3 := hb3.size; (try simp only [World.size_alloc] at hz3); have q3 := fun o => hb3.cell (p := ⟨wr.heap.size, o, none⟩) (by show wr.heap.size < _; first | (simp; done) | omega); have hB3 : Below w.heap.size w w3 := (by repeat (first | exact Below.refl _ _ | refine Below.drew ?_ | refine Below.alloc ?_ (by first | omega | (simp; done) | (simp; omega)) _ | refine Below.setCell ?_ (by first | omega | (simp; done) | (simp; omega)) _ | refine Below.trans ?_ (Below.mono (by assumption) (by first | omega | (simp; done) | (simp; omega))))); have hlt3 : wr.heap.size < w3.heap.size := by omega))
        all_goals first
          | (exfalso; omega)
          | (go_roundw
             case rel => exact ⟨k + 1, acc ++ num l[k].op ++ num l[k].n ++ valB l[k].v, by omega, by simp only [List.length_append]; omega, by go_num, by simp, by show _ = _; rw [← HN.out]; simp, (by repeat (first | exact Below.refl _ _ | refine Below.drew ?_ | refine Below.alloc ?_ (by first | omega | (simp; done) | (simp; omega)) _ | refine Below.setCell ?_ (by first | omega | (simp; done) | (simp; omega)) _ | refine Below.trans ?_ (Below.mono (by assumption) (by first | omega | (simp; done) | (simp; omega)))))⟩
             case measure => simp [intOf]; omega)
    · have hN := N.out
      rw [List.drop_of_length_le (by omega)] at hN
      have HN := Lib.hid hN
      clear hN N H
      go_wp2_with (fail)
      go_ret
      exact RetV.str (by rw [← HN.out]; simp) hbl'
end Go.Proofs.YtiedkcijjfmhaaaDoor
namespace Go.Proofs.YtiedkcijjfmhaaaDoor
open Go.RowKit

def belowOf (op : Int) : Int := if op = 3 ∨ op = 4 then 16 else 8
def ndA (st : Rd) : Rd := if rdN st 12 = 0 then rdF (rdN' st 12) 3 else rdN' st 12
def ndN (st : Rd) : Int := if named (rdN st 12) then rdN (ndA st) (belowOf (rdN st 12) - 1) else 0
def ndB (st : Rd) : Rd := if named (rdN st 12) then rdN' (ndA st) (belowOf (rdN st 12) - 1) else ndA st
def ndV (st : Rd) : Val := if valued (rdN st 12) then rdVal (ndB st) else ⟨0, 0, []⟩
def ndC (st : Rd) : Rd := if valued (rdN st 12) then rdVal' (ndB st) else ndB st
def ndNode (st : Rd) : Node := ⟨rdN st 12, ndN st, ndV st⟩
def ndD (st : Rd) : Rd := if valued (rdN st 12) ∧ (ndNode st).ok = false then rdF (ndC st) 3 else ndC st
def rdNodes : Nat → Rd → List Node
  | 0, _ => []
  | k + 1, st => if st.e = 0 then ndNode st :: rdNodes k (ndD st) else []
def rdNodes' : Nat → Rd → Rd
  | 0, st => st
  | k + 1, st => if st.e = 0 then rdNodes' k (ndD st) else st
def pdA (st : Rd) : Rd := if rdN st 31 = 0 then rdF (rdN' st 31) 3 else rdN' st 31
def pdL (st : Rd) : List Node := rdNodes (rdN st 31).toNat (pdA st)
def pdS (st : Rd) : Rd := rdNodes' (rdN st 31).toNat (pdA st)
@[irreducible] def rdPred (st : Rd) : List Node := if (pdS st).e = 0 ∧ check (pdL st) = 0 then pdL st else []
@[irreducible] def rdPred' (st : Rd) : Rd := if (pdS st).e = 0 then (if check (pdL st) = 0 then pdS st else if check (pdL st) = 5 then ⟨(pdS st).s, 5⟩ else ⟨(pdS st).s, 3⟩) else pdS st

theorem Kept.low {p : Option Nat} {B : Nat} {a w w' : World} (h : Kept p B a w) (k : Below B w w') : Kept p B a w' := h.trans (.of_below k)
/-! The ends of the calls that read a slice. -/
end Go.Proofs.YtiedkcijjfmhaaaDoor
namespace Go.Proofs.YtiedkcijjfmhaaaDoor
open Go.RowKit

structure Cmd where
  kind : Int
  e : Edit
  dev : Int
  req : Int
  id : Int
  base : Int
  keep : Int
  p : Patch
  f : List Node
  mask : Nat
deriving DecidableEq
abbrev cmdz : Cmd := ⟨0, ez, 0, 0, 0, 0, 0, pz, [], 0⟩
/-- Which fields of a command are zero. -/
def Cmd.eZ (c : Cmd) : Bool := decide (c.e = ez)
def Cmd.pZ (c : Cmd) : Bool := decide (c.p = pz)
def Cmd.fZ (c : Cmd) : Bool := decide (c.f = [] ∧ c.mask = 0)
def Cmd.bare (c : Cmd) : Bool := decide (c.dev = 0 ∧ c.req = 0 ∧ c.id = 0 ∧ c.base = 0 ∧ c.keep = 0) && (c.eZ && (c.pZ && c.fZ))
def Cmd.rq (c : Cmd) : Bool := decide (0 ≤ c.dev ∧ c.dev ≤ 5 ∧ 1 ≤ c.req ∧ c.req ≤ 1099511627776)
def Cmd.okEdit (c : Cmd) : Bool := ({ c with e := ez } : Cmd).bare && decide (c.e.code = 0)
def Cmd.okTrim (c : Cmd) : Bool := ({ c with keep := 0 } : Cmd).bare && decide (0 ≤ c.keep ∧ c.keep ≤ 1099511627776)
def Cmd.okPut (c : Cmd) : Bool := ({ c with dev := 0, req := 0, id := 0, base := 0, p := pz } : Cmd).bare && (decide (1 ≤ c.id ∧ c.id ≤ 1073741823 ∧ 1 ≤ c.base ∧ c.base ≤ 1099511627776) && decide (c.p.code = 0))
def Cmd.okSub (c : Cmd) : Bool := ({ c with dev := 0, req := 0, f := [], mask := 0 } : Cmd).bare && decide (check c.f = 0 ∧ c.mask < 512)
def Cmd.okLeave (c : Cmd) : Bool := ({ c with dev := 0, req := 0 } : Cmd).bare
def Cmd.ok (c : Cmd) : Bool :=
  if c.kind = 1 then c.okEdit else if c.kind = 5 then c.okTrim
  else if c.kind = 2 then c.rq && c.okPut else if c.kind = 3 then c.rq && c.okSub else if c.kind = 4 then c.rq && c.okLeave else false
theorem Cmd.ok_no {c : Cmd} (h : ¬ (1 ≤ c.kind ∧ c.kind ≤ 5)) : c.ok = false := by unfold Cmd.ok; rw [if_neg (by omega), if_neg (by omega), if_neg (by omega), if_neg (by omega), if_neg (by omega)]
theorem Cmd.ok_kind {c : Cmd} (h : c.ok = true) : 1 ≤ c.kind ∧ c.kind ≤ 5 := by
  rcases Classical.em (1 ≤ c.kind ∧ c.kind ≤ 5) with h' | h'
  · exact h'
  · rw [Cmd.ok_no h'] at h; cases h
theorem editB_len' (e : Edit) : (editB e).length ≤ 353 := by
  have h1 := (num_len e.kind).2
  have h2 := (num_len e.group).2
  have h3 := (num_len e.id).2
  have h4 := patchB_len e.p
  unfold editB
  cases hasG e.kind <;> cases hasI e.kind <;> cases hasP e.kind <;> split <;> simp <;> omega
/-! What is read as a command. -/
def cmK (st : Rd) : Int := rdN st 5
def cmA (st : Rd) : Rd := rdAb' st 5
def cmB (st : Rd) : Rd := rdN' (cmA st) 5
def cmC (st : Rd) : Rd := rdAb' (cmB st) 1099511627776
def cmD (st : Rd) : Rd := rdAb' (cmC st) 1073741823
def cmE (st : Rd) : Rd := rdAb' (cmD st) 1099511627776
def cmF (st : Rd) : Rd := rdPred' (cmC st)
def rdCmdRaw' (st : Rd) : Rd :=
  if cmK st = 1 then rdEdit' (cmA st) else if cmK st = 5 then rdN' (cmA st) 1099511627776
  else if cmK st = 2 then rdPatch' (cmE st) else if cmK st = 3 then rdN' (cmF st) 511 else cmC st
def rdCmdRaw (st : Rd) : Cmd :=
  if cmK st = 1 then { cmdz with kind := 1, e := rdEdit (cmA st) } else if cmK st = 5 then { cmdz with kind := 5, keep := rdN (cmA st) 1099511627776 }
  else if cmK st = 2 then { cmdz with kind := 2, dev := rdN (cmA st) 5, req := rdN (cmB st) 1099511627776, id := rdN (cmC st) 1073741823, base := rdN (cmD st) 1099511627776, p := rdPatch (cmE st) }
  else if cmK st = 3 then { cmdz with kind := 3, dev := rdN (cmA st) 5, req := rdN (cmB st) 1099511627776, f := rdPred (cmC st), mask := (rdN (cmF st) 511).toNat }
  else { cmdz with kind := cmK st, dev := rdN (cmA st) 5, req := rdN (cmB st) 1099511627776 }
@[irreducible] def rdCmd' (st : Rd) : Rd := rdCmdRaw' st
@[irreducible] def rdCmd (st : Rd) : Cmd := if (rdCmdRaw' st).e = 0 then rdCmdRaw st else cmdz
end Go.Proofs.YtiedkcijjfmhaaaDoor
namespace Go.Proofs.YtiedkcijjfmhaaaDoor
open Go.RowKit

structure Deed where
  kind : Int
  n : Int
  dev : Int
  id : Int
  e : Edit
  f : List Node
  mask : Nat
  p : Patch
  keep : List Int
  text : List UInt8
deriving DecidableEq
abbrev dz : Deed := ⟨0, 0, 0, 0, ez, [], 0, pz, [], []⟩
/-! What a kind has. -/
def dE (k : Int) : Bool := decide (k = 1)
def dN (k : Int) : Bool := decide (k = 2 ∨ (7 ≤ k ∧ k ≤ 10))
def dD (k : Int) : Bool := decide (3 ≤ k ∧ k ≤ 6)
def dF (k : Int) : Bool := decide (k = 3)
def dW (k : Int) : Bool := decide (k = 5)
def dK (k : Int) : Bool := decide (k = 11)
def dT (k : Int) : Bool := decide (k = 12)
/-- The act of which only that is left which its kind has. -/
def Deed.only (o : Deed) : Deed :=
  ⟨o.kind, if dN o.kind then o.n else 0, if dD o.kind then o.dev else 0, if dW o.kind then o.id else 0, if dE o.kind then o.e else ez,
   if dF o.kind then o.f else [], if dF o.kind then o.mask else 0, if dW o.kind then o.p else pz, if dK o.kind then o.keep else [], if dT o.kind then o.text else []⟩
def Deed.may (o : Deed) : Bool :=
  decide (1 ≤ o.kind ∧ o.kind ≤ 12) && ((!dE o.kind || decide (o.e.code = 0)) && ((!dN o.kind || decide (0 ≤ o.n ∧ o.n ≤ 1099511627776)) && ((!dD o.kind || decide (0 ≤ o.dev ∧ o.dev ≤ 5)) &&
    ((!dF o.kind || decide (check o.f = 0 ∧ o.mask < 512)) && ((!dW o.kind || decide (1 ≤ o.id ∧ o.id ≤ 1073741823 ∧ o.p.code = 0)) &&
      ((!dK o.kind || (decide (o.keep.length ≤ 40) && o.keep.all fun x => decide (0 ≤ x ∧ x ≤ 2))) && (!dT o.kind || decide (o.text.length ≤ 4096))))))))
def Deed.ok (o : Deed) : Bool := o.may && decide (o.only = o)
/-- An act's bytes behind its kind. -/
def deedT (o : Deed) : List UInt8 :=
  (if dE o.kind then editB o.e else []) ++ ((if dN o.kind then num o.n else []) ++ ((if dD o.kind then num o.dev else []) ++ ((if dF o.kind then putB o.f ++ num o.mask else []) ++
    ((if dW o.kind then num o.id ++ patchB o.p else []) ++ ((if dK o.kind then num o.keep.length ++ o.keep.flatMap num else []) ++ (if dT o.kind then strB o.text else []))))))
def deedB (o : Deed) : List UInt8 := num o.kind ++ deedT o
/-- A script's bytes. -/
def scriptB (l : List Deed) : List UInt8 := num l.length ++ l.flatMap deedB
def Deed.mayAll (l : List Deed) : Bool := decide (l.length ≤ 400) && l.all Deed.ok
/-! What is read as an act. -/
def rdInts (most : Int) : Nat → Rd → List Int
  | 0, _ => []
  | k + 1, st => rdN st most :: rdInts most k (rdN' st most)
def rdInts' (most : Int) : Nat → Rd → Rd
  | 0, st => st
  | k + 1, st => rdInts' most k (rdN' st most)
def ddK (st : Rd) : Int := rdN st 12
def ddA (st : Rd) : Rd := rdAb' st 12
def ddB (st : Rd) : Rd := rdN' (ddA st) 5
def ddF (st : Rd) : Rd := rdPred' (ddB st)
def ddW (st : Rd) : Rd := rdAb' (ddB st) 1073741823
def ddL (st : Rd) : Rd := rdN' (ddA st) 40
def ddC (st : Rd) : Nat := (rdN (ddA st) 40).toNat
@[irreducible] def rdDeed' (st : Rd) : Rd :=
  if ddK st = 1 then rdEdit' (ddA st) else if dN (ddK st) then rdN' (ddA st) 1099511627776
  else if ddK st = 3 then rdN' (ddF st) 511 else if ddK st = 5 then rdPatch' (ddW st) else if dD (ddK st) then ddB st
  else if ddK st = 11 then rdInts' 2 (ddC st) (ddL st) else if ddK st = 12 then rdS' (ddA st) 4096 else ddA st
@[irreducible] def rdDeed (st : Rd) : Deed :=
  if ddK st = 1 then { dz with kind := 1, e := rdEdit (ddA st) } else if dN (ddK st) then { dz with kind := ddK st, n := rdN (ddA st) 1099511627776 }
  else if ddK st = 3 then { dz with kind := 3, dev := rdN (ddA st) 5, f := rdPred (ddB st), mask := (rdN (ddF st) 511).toNat }
  else if ddK st = 5 then { dz with kind := 5, dev := rdN (ddA st) 5, id := rdN (ddB st) 1073741823, p := rdPatch (ddW st) } else if dD (ddK st) then { dz with kind := ddK st, dev := rdN (ddA st) 5 }
  else if ddK st = 11 then { dz with kind := 11, keep := rdInts 2 (ddC st) (ddL st) } else if ddK st = 12 then { dz with kind := 12, text := rdS (ddA st) 4096 } else { dz with kind := ddK st }
theorem Deed.may_iff {o : Deed} : o.may = true ↔ (1 ≤ o.kind ∧ o.kind ≤ 12) ∧ (dE o.kind = true → o.e.code = 0) ∧ (dN o.kind = true → 0 ≤ o.n ∧ o.n ≤ 1099511627776) ∧ (dD o.kind = true → 0 ≤ o.dev ∧ o.dev ≤ 5) ∧
    (dF o.kind = true → check o.f = 0 ∧ o.mask < 512) ∧ (dW o.kind = true → 1 ≤ o.id ∧ o.id ≤ 1073741823 ∧ o.p.code = 0) ∧ (dK o.kind = true → o.keep.length ≤ 40 ∧ ∀ x ∈ o.keep, 0 ≤ x ∧ x ≤ 2) ∧ (dT o.kind = true → o.text.length ≤ 4096) := by
  have imp : ∀ (a : Bool) (q : Bool), ((!a || q) = true) ↔ (a = true → q = true) := by intro a q; cases a <;> simp
  unfold Deed.may
  simp only [Bool.and_eq_true, imp, decide_eq_true_eq, List.all_eq_true]
theorem Deed.ok_iff {o : Deed} : o.ok = true ↔ o.may = true ∧ o.only = o := by unfold Deed.ok; simp only [Bool.and_eq_true, decide_eq_true_eq]
/-! Scripts. -/
end Go.Proofs.YtiedkcijjfmhaaaDoor
namespace Go.Proofs.YtiedkcijjfmhaaaDoor
open Go.RowKit

theorem Kid.cells_len (x : Kid) : x.cells.length = 1 := rfl
end Go.Proofs.YtiedkcijjfmhaaaDoor
namespace Go.Proofs.YtiedkcijjfmhaaaDoor
open Go.RowKit

theorem InN.lit (w : World) (l : List Node) (t : TypeId) (n : Nat) (hn : n = l.length) (hl : l.length ≤ 4294967296) : InN (w.alloc (.cells (l.flatMap Node.cells).toArray t)) (some ⟨w.heap.size, 0, none⟩) n l := by
  subst hn
  refine ⟨Nat.le_refl _, by omega, hl, .inr ⟨_, 0, rfl, by simp, fun i hi j u hu => ?_⟩⟩
  have hj : j < 5 := by rw [← Node.cells_len l[i]]; exact (List.getElem?_eq_some_iff.1 hu).1
  rw [World.cell?_alloc_new, Nat.zero_add]
  have := flat_get (k := 5) Node.cells_len l i hi j hj
  rw [List.getElem?_toArray, this]; exact hu
end Go.Proofs.YtiedkcijjfmhaaaDoor
