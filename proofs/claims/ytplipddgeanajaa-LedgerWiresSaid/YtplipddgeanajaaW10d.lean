/-
  The walks of chapter 10's functions: what is wrong with a filter (program and reference), and how deep the reference says that it is.
-/
import Derived.Test.YtplipddgeanajaaW10c
namespace Go.Proofs.Ytplipddgeanajaa
open Go.RowKit

set_option maxHeartbeats 400000 in
theorem c_pred_Check (l : List Node) (A : Option Addr) (c : Nat) (w : World) (h : InN w A c l) (hs : ∀ x ∈ l, x.v.s.length ≤ 9223372036854775807) :
    Calls Try.prog 35 #[.slice A l.length c] w (RetV w (.int .i64 (check l))) := by
  have hL := h.1
  have hC := h.2.1
  have hS := h.2.2.1
  have hdb := (depth_bd l).1
  have Hs := Lib.hid hs
  clear hs
  go_enter Try.func35, Try.ntmps35
  go_wp2_with (first
    | (go_at_call 65; refine (c_pred_End l A c 0 _ h).mono ?_; rintro e w1 ⟨rfl, hb1⟩)
    | (go_at_call 66; refine (c_ContainsFuncN l A c _ (h.below hb1) Hs.out).mono ?_; rintro e w2 ⟨rfl, hb2⟩)
    | (go_at_call 69; refine (c_pred_Depth l A c _ ((h.below hb1).below hb2)).mono ?_; rintro e w3 ⟨rfl, hb3⟩))
  all_goals (go_ret; (try have hz1 := hb1.size); (try have hz2 := hb2.size); refine RetV.int ?_ (by repeat (first | exact Below.refl _ _ | refine Below.drew ?_ | refine Below.alloc ?_ (by first | omega | (simp; done) | (simp; omega)) _ | refine Below.setCell ?_ (by first | omega | (simp; done) | (simp; omega)) _ | refine Below.trans ?_ (Below.mono (by assumption) (by first | omega | (simp; done) | (simp; omega))))); (simp_all [check] <;> first | omega | (intros; omega) | decide | grind))
set_option maxHeartbeats 1000000 in
theorem c_ref10_Kids (l : List Node) (a : Nat) (A : Option Addr) (c : Nat) (w : World) (h : InN w A c l) (ha : a < l.length) (mid : List Node) (d : Nat) (ht : Trees (parts l[a].op).toNat (l.drop (a + 1)) mid d) :
    Calls Try.prog 107 #[.slice A l.length c, .int .i64 a] w (RetK 34 w (cut (parts l[a].op).toNat (l.drop (a + 1)))) := by
  have hL := h.1
  have hC := h.2.1
  have hS := h.2.2.1
  obtain ⟨b, off, rfl, hb, hrow⟩ := h.at ha
  have hpb := parts_bd l[a].op
  obtain ⟨p, hp⟩ : ∃ p : Nat, (parts l[a].op).toNat = p := ⟨_, rfl⟩
  have hpi : parts l[a].op = (p : Int) := by rw [← hp]; omega
  have Hp := Lib.hid hpi
  rw [hp] at ht ⊢
  have hp2 : p ≤ 2 := by omega
  have Ht := Lib.hid ht
  have EN : Elem Try.prog 34 74 5 48 := Elem.mk' Try.underlying34 (z := .agg #[.int .i64 0, .int .i64 0, .int .i64 0, .int .i64 0, .string ⟨#[]⟩]) (by kernel_rfl) rfl (by omega) (by omega)
  have EK : Elem Try.prog 163 34 1 24 := Elem.mk' Try.underlying163 (z := .slice none 0 0) (by kernel_rfl) rfl (by omega) (by omega)
  clear hpb hp hpi ht
  have ha0 : decide ((a : Int) < 0) = false := by simp
  have ha1 : decide (l.length ≤ a) = false := by simpa using ha
  go_enter Try.func107, Try.ntmps107
  go_wp2_with (fail)
  go_loopw [5, 6, 7] (fun v fr i wr => ∃ (j : Nat) (f : Nat) (os : List Kid) (d' : Nat), j ≤ p ∧ i = .int .i64 j ∧ fr = .int .i64 f ∧ os.length = j ∧ Hid (Trees (p - j) (l.drop f) mid d') ∧
      Hid (os.map (·.2.2) ++ cut (p - j) (l.drop f) = cut p (l.drop (a + 1))) ∧ Hid (wr.ownsRow w.heap.size 34 1 v os.length (os.flatMap Kid.cells)) ∧
      Hid (∀ o ∈ os, o.2.2.length ≤ l.length ∧ wr.ownsRow w.heap.size 74 5 (Kid.val o) o.2.2.length (o.2.2.flatMap Node.cells)) ∧ f ≤ l.length ∧ Below w.heap.size w wr)
    (fun _ _ i _ => p - (intOf i).toNat)
  case atStart =>
    refine ⟨0, a + 1, [], d, by omega, rfl, by go_num, rfl, Ht.out, rfl, ?_, ?_, by omega, (by repeat (first | exact Below.refl _ _ | refine Below.drew ?_ | refine Below.alloc ?_ (by first | omega | (simp; done) | (simp; omega)) _ | refine Below.setCell ?_ (by first | omega | (simp; done) | (simp; omega)) _ | refine Below.trans ?_ (Below.mono (by assumption) (by first | omega | (simp; done) | (simp; omega)))))⟩
    · exact World.ownsRow_lit w #[] 0 (Nat.le_refl _) (by unfold maxLen; omega) (by simp)
    · intro o ho; cases ho
  case round =>
    obtain ⟨j, f, os, d', hj, rfl, rfl, hos, T, N, O, K, hf, hbl⟩ := hrel
    have hbz := hbl.size
    have e0 := ((hrow.below hbl hb).node ha rfl).1
    by_cases hlt : j < p
    · obtain ⟨n, hn⟩ : ∃ n, p - j = n + 1 := ⟨p - j - 1, by omega⟩
      have T' := T.out
      have N' := N.out
      rw [hn] at T' N'
      obtain ⟨s, d1, d2, hs1, hs2, hend, hcut, T2, Tr⟩ := cut_step T'
      rw [hcut] at N'
      have Hend := Lib.hid hend
      have NN := Lib.hid N'
      have TT := Lib.hid T2
      have Hn := Lib.hid hn
      have hlk : ((l.drop f).take s).length = s := by rw [List.length_take, List.length_drop]; omega
      have Hlk := Lib.hid hlk
      obtain ⟨Av, cv, rfl, hcv1, hcv2⟩ := own_form O.out
      obtain ⟨m, hm⟩ : ∃ m, os.length = m := ⟨_, rfl⟩
      have hO := O.out
      rw [hm] at hO
      have O2 := Lib.hid hO
      have hmj : m = j := by rw [← hm]; exact hos
      have Hm := Lib.hid hm
      have Hmj := Lib.hid hmj
      rw [hm] at hcv1 ⊢
      have hm2 : m ≤ 2 := by omega
      clear T N O T' N' hend hcut T2 hn hlk hO hos hmj hm e0
      have e0 := ((hrow.below hbl hb).node ha rfl).1
      go_wp2_with (first
        | (go_at_call 106; refine (c_ref10_Parts _ _).mono ?_; rintro e w2 ⟨rfl, hb2⟩; rw [Hp.out]; have hz2 := hb2.size)
        | (go_at_call 72; refine (c_ref10_End l _ c _ _ (h.below (by repeat (first | exact Below.refl _ _ | refine Below.drew ?_ | refine Below.alloc ?_ (by first | omega | (simp; done) | (simp; omega)) _ | refine Below.setCell ?_ (by first | omega | (simp; done) | (simp; omega)) _ | refine Below.trans ?_ (Below.mono (by assumption) (by first | omega | (simp; done) | (simp; omega))))))).mono ?_; rintro e w3 ⟨rfl, hb3⟩; rw [Hend.out]; have hz3 := hb3.size)
        | (at_builtin; refine Stop.out ?_))
      refine Stop.mk (wpList_app _ rfl (.tmp 34) (.tmp 38) EN rfl w3.heap.size (.slice (some ⟨w3.heap.size, 0, none⟩) 0 0) 0 [] rfl (World.ownsRow_lit w3 #[] 0 (Nat.le_refl _) (by unfold maxLen; omega) (by simp)) _ _ _ (((l.drop f).take s).flatMap Node.cells) rfl ?_ (nodes_one _) (by omega) ?_ ?_)
      · have hB : Below w.heap.size w (w3.alloc (.cells #[] 74)) := (by repeat (first | exact Below.refl _ _ | refine Below.drew ?_ | refine Below.alloc ?_ (by first | omega | (simp; done) | (simp; omega)) _ | refine Below.setCell ?_ (by first | omega | (simp; done) | (simp; omega)) _ | refine Below.trans ?_ (Below.mono (by assumption) (by first | omega | (simp; done) | (simp; omega)))))
        have hsub := (h.below hB).sub (i := f) (j := f + s) (by omega) hs2 ⟨by simp only [World.size_alloc]; omega, hrow.below hB hb⟩
        rw [show f + s - f = s by omega] at hsub ⊢
        have h1 := Src.of_in Node.cells_len (by omega) hsub
        rw [Hlk.out] at h1
        exact h1
      · simp only [World.size_alloc]; omega
      intro v4 w4 own4 g4 b4 at4
      obtain ⟨A4, c4, rfl, _, _⟩ := own_form own4
      rw [show 0 + (f + s - f) = s by omega, List.nil_append] at own4
      have hz4 := g4.size
      simp only [World.size_alloc] at hz4
      have hb4 : Below w.heap.size w w4 := by
        refine Below.trans (b := w3.alloc (.cells #[] 74)) (by repeat (first | exact Below.refl _ _ | refine Below.drew ?_ | refine Below.alloc ?_ (by first | omega | (simp; done) | (simp; omega)) _ | refine Below.setCell ?_ (by first | omega | (simp; done) | (simp; omega)) _ | refine Below.trans ?_ (Below.mono (by assumption) (by first | omega | (simp; done) | (simp; omega))))) (b4.mono (by omega))
      have keep4 : ∀ (b1 : Nat) (e1 : TypeId) (s1 n1 : Nat) (v1 : Value) (x1 : List Value), wr.ownsRow b1 e1 s1 v1 n1 x1 → w4.ownsRow b1 e1 s1 v1 n1 x1 := by
        intro b1 e1 s1 n1 v1 x1 h1
        have h2 := own_below (own_below h1 hb2) hb3
        refine own_kept_lt (g := w3.heap.size) (own_below h2 ((Below.refl _ _).alloc (Nat.le_refl _) _)) g4 (fun k hk => ?_)
        have := (h2.lt k hk).2
        omega
      have K4 := Lib.hid keep4
      have O4 := Lib.hid own4
      clear own4 keep4 at4 b4 g4
      go_wp2_with ((at_builtin; refine Stop.out ?_))
      refine Stop.mk (wpList_app _ rfl (.tmp 33) (.tmp 40) EK rfl w.heap.size (.slice Av m cv) m (os.flatMap Kid.cells) rfl (own_below (K4.out _ _ _ _ _ _ O2.out) ((Below.refl _ _).alloc (Nat.le_refl _) _)) _ 1 1 [.slice A4 s c4] rfl (Src.new _ _ _ _ rfl) (by simp [Value.oneCell']) (by omega) ?_ ?_)
      · simp only [World.size_alloc]; omega
      intro v5 w5 own5 g5 b5 at5
      go_wp2_with (fail)
      have hz5 := g5.size
      have hb5 : Below w.heap.size w w5 := by
        refine Below.trans (b := w4.alloc (.cells #[.slice A4 s c4] 34)) (by repeat (first | exact Below.refl _ _ | refine Below.drew ?_ | refine Below.alloc ?_ (by first | omega | (simp; done) | (simp; omega)) _ | refine Below.setCell ?_ (by first | omega | (simp; done) | (simp; omega)) _ | refine Below.trans ?_ (Below.mono (by assumption) (by first | omega | (simp; done) | (simp; omega))))) (b5.mono (by omega))
      go_roundw
      case rel =>
        have hnn := NN.out
        refine ⟨j + 1, f + s, os ++ [(A4, c4, (l.drop f).take s)], d1, by omega, by go_num, by go_num, by have := Hmj.out; simp [Hm.out, this], ?_, ?_, ?_, ?_, by omega, hb5⟩
        · show Trees _ _ _ _
          rw [show p - (j + 1) = n by have := Hn.out; omega]; exact TT.out
        · show _ = _
          rw [show p - (j + 1) = n by have := Hn.out; omega, ← hnn]
          simp
        · show World.ownsRow _ _ _ _ _ _ _
          have e : (os ++ [((A4, c4, (l.drop f).take s) : Kid)]).flatMap Kid.cells = os.flatMap Kid.cells ++ [.slice A4 s c4] := by
            simp only [List.flatMap_append, List.flatMap_cons, List.flatMap_nil, Kid.cells, Kid.val, Hlk.out, List.append_nil]
          rw [e, List.length_append, Hm.out]
          exact own5
        · intro o ho
          have keep5 : ∀ {b1 : Nat} {s1 n1 : Nat} {v1 : Value} {x1 : List Value}, w4.ownsRow b1 74 s1 v1 n1 x1 → w5.ownsRow b1 74 s1 v1 n1 x1 := by
            intro b1 s1 n1 v1 x1 h1
            exact own_kept_ne (own_below h1 ((Below.refl _ _).alloc (Nat.le_refl _) _)) (own_below (K4.out _ _ _ _ _ _ O2.out) ((Below.refl _ _).alloc (Nat.le_refl _) _)) (by decide) g5
          rcases List.mem_append.1 ho with ho | ho
          · exact ⟨(K.out o ho).1, keep5 (K4.out _ _ _ _ _ _ (K.out o ho).2)⟩
          · simp only [List.mem_singleton] at ho
            subst ho
            refine ⟨by show _ ≤ _; rw [Hlk.out]; omega, ?_⟩
            show World.ownsRow _ _ _ _ (.slice A4 (List.length _) c4) _ _
            rw [Hlk.out]
            exact own_base (keep5 O4.out) (by omega)
      case measure => simp [intOf]; omega
    · have hjp : j = p := by omega
      have hp0 : p - j = 0 := by omega
      have N' := N.out
      rw [hp0] at N'
      obtain ⟨Av, cv, rfl, hcv1, hcv2⟩ := own_form O.out
      have e0 := ((hrow.below hbl hb).node ha rfl).1
      have NN := Lib.hid N'
      clear N N' T Ht hp0 hos
      go_wp2_with (first
        | (go_at_call 106; refine (c_ref10_Parts _ _).mono ?_; rintro e w2 ⟨rfl, hb2⟩; rw [Hp.out]; have hz2 := hb2.size))
      go_ret
      refine ⟨os, ?_, ⟨_, rfl, own_below O.out hb2, (by repeat (first | exact Below.refl _ _ | refine Below.drew ?_ | refine Below.alloc ?_ (by first | omega | (simp; done) | (simp; omega)) _ | refine Below.setCell ?_ (by first | omega | (simp; done) | (simp; omega)) _ | refine Below.trans ?_ (Below.mono (by assumption) (by first | omega | (simp; done) | (simp; omega)))))⟩, fun o ho => ?_⟩
      · have := NN.out; simpa [cut] using this
      · obtain ⟨h1, h2⟩ := K.out o ho
        obtain ⟨A', c', he, hin⟩ := In.of_own Node.cells_len (own_below h2 hb2) (by omega)
        have e1 : o.1 = A' ∧ o.2.1 = c' := by
          have := he
          simp only [Kid.val, Value.slice.injEq, true_and] at this
          exact this
        rw [e1.1, e1.2]; exact hin
end Go.Proofs.Ytplipddgeanajaa
