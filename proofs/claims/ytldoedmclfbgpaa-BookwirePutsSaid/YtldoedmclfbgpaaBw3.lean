/-
  Lemmas (walks and plain laws), in one text.
-/
import Derived.Test.YtldoedmclfbgpaaBw2
import Derived.BigQuiet
namespace Go.Proofs.Ytldoedmclfbgpaa
open Go.RowKit

set_option maxHeartbeats 1000000 in
theorem c_ids_Check (l : List Int) (A : Option Addr) (c : Nat) (w : World) (h : InI w A c l) : Calls Try.prog 126 #[.slice A l.length c] w (RetV w (.bool (idsOk 0 l))) := by
  have hL := h.1
  have hC := h.2.1
  have hS := h.2.2.1
  have H := Lib.hid h
  clear h
  go_enter Try.func126, Try.ntmps126
  go_wp2_with (fail)
  go_loopw [3, 5, 8] (fun v _ i wr => ∃ (k : Nat) (last : Int), k ≤ l.length ∧ i = .int .i64 k ∧ v = .int .i64 last ∧ Hid (idsOk last (l.drop k) = idsOk 0 l) ∧ Hid (Below w.heap.size w wr)) (fun _ _ i _ => l.length - (intOf i).toNat)
  case atStart => exact ⟨0, 0, by omega, rfl, rfl, rfl, Below.refl _ _⟩
  case round =>
    obtain ⟨k, last, hk, rfl, rfl, R, S⟩ := hrel
    by_cases hlt : k < l.length
    · have d1 : decide ((k : Int) < (l.length : Int)) = true := by simp; omega
      obtain ⟨b, off, hA, hb, hrow⟩ := (H.out.below S.out).at hlt
      have e0 : wr.cell? ⟨b, off + k, none⟩ = some (.int .i64 l[k]) := by have := hrow k hlt 0 _ rfl; simpa using this
      have R2 := Lib.hid ((idsOk_at hlt last).symm.trans R.out)
      obtain ⟨x, hx⟩ : ∃ x, x = l[k] := ⟨_, rfl⟩
      rw [← hx] at e0 R2
      have hi1 : (0 : Int) ≤ (k : Int) := by omega
      have hi2 : (k : Int) < (l.length : Int) := by omega
      clear hx hrow R
      subst hA
      by_cases h1 : last < x
      · by_cases h2 : x < 1073741824
        · have t1 : decide (x ≤ last) = false := by simp; omega
          have t2 : decide (1073741824 ≤ x) = false := by simp; omega
          have R3 := Lib.hid (show idsOk x (l.drop (k + 1)) = idsOk 0 l by have := R2.out; rwa [decide_eq_true (show last < x ∧ x < 1073741824 from ⟨h1, h2⟩), Bool.true_and] at this)
          clear h1 h2
          go_wp2_with (fail)
          go_roundw
          case rel => exact ⟨k + 1, x, by omega, by go_num, rfl, R3.out, S.out⟩
          case measure => simp [intOf]; omega
        · have t1 : decide (x ≤ last) = false := by simp; omega
          have t2 : decide (1073741824 ≤ x) = true := by simp; omega
          have R3 := Lib.hid (show idsOk 0 l = false by have := R2.out; rw [decide_eq_false (show ¬ (last < x ∧ x < 1073741824) by omega), Bool.false_and] at this; exact this.symm)
          clear h1 h2
          go_wp2_with (fail)
          go_ret
          exact RetV.bool R3.out.symm S.out
      · have t1 : decide (x ≤ last) = true := by simp; omega
        have R3 := Lib.hid (show idsOk 0 l = false by have := R2.out; rw [decide_eq_false (show ¬ (last < x ∧ x < 1073741824) by omega), Bool.false_and] at this; exact this.symm)
        clear h1
        go_wp2_with (fail)
        go_ret
        exact RetV.bool R3.out.symm S.out
    · obtain rfl : k = l.length := by omega
      have d1 : decide ((l.length : Int) < (l.length : Int)) = false := by simp
      have R3 := Lib.hid (show idsOk 0 l = true by rw [← R.out]; exact idsOk_end last)
      go_wp2_with (fail)
      go_ret
      exact RetV.bool R3.out.symm S.out
set_option maxHeartbeats 1000000 in
theorem c_ref07_Check (l : List Int) (A : Option Addr) (c : Nat) (w : World) (h : InI w A c l) : Calls Try.prog 134 #[.slice A l.length c] w (RetV w (.bool (idsOk 0 l))) := by
  have hL := h.1
  have hC := h.2.1
  have hS := h.2.2.1
  have H := Lib.hid h
  clear h
  go_enter Try.func134, Try.ntmps134
  go_wp2_with (fail)
  go_loopw [3] (fun i wr => ∃ (k : Nat) (last : Int), k ≤ l.length ∧ i = .int .i64 k ∧ Hid ((k = 0 ∧ last = 0) ∨ (∃ h : k - 1 < l.length, 0 < k ∧ last = l[k - 1] ∧ 1 ≤ last)) ∧ Hid (idsOk last (l.drop k) = idsOk 0 l) ∧ Hid (Below w.heap.size w wr)) (fun i _ => l.length - (intOf i).toNat)
  case atStart => exact ⟨0, 0, by omega, rfl, .inl ⟨rfl, rfl⟩, rfl, Below.refl _ _⟩
  case round =>
    obtain ⟨k, last, hk, rfl, PV, R, S⟩ := hrel
    by_cases hlt : k < l.length
    · have d1 : decide ((k : Int) < (l.length : Int)) = true := by simp; omega
      obtain ⟨b, off, hA, hb, hrow⟩ := (H.out.below S.out).at hlt
      have e0 : wr.cell? ⟨b, off + k, none⟩ = some (.int .i64 l[k]) := by have := hrow k hlt 0 _ rfl; simpa using this
      have R2 := Lib.hid ((idsOk_at hlt last).symm.trans R.out)
      obtain ⟨x, hx⟩ : ∃ x, x = l[k] := ⟨_, rfl⟩
      have NX : Hid (1 ≤ x → ∃ h : k + 1 - 1 < l.length, 0 < k + 1 ∧ x = l[k + 1 - 1] ∧ 1 ≤ x) := Lib.hid (fun h1 => ⟨by omega, by omega, by rw [hx]; simp, h1⟩)
      rw [← hx] at e0 R2
      have hi1 : (0 : Int) ≤ (k : Int) := by omega
      have hi2 : (k : Int) < (l.length : Int) := by omega
      have hz := S.out.size
      clear hx R
      subst hA
      have fin : ∀ (B : Bool), B = decide (last < x ∧ x < 1073741824) → (B = false → idsOk 0 l = false) ∧ (B = true → idsOk x (l.drop (k + 1)) = idsOk 0 l) := by
        intro B hB
        have := R2.out
        rw [← hB] at this
        refine ⟨fun e => by rw [e, Bool.false_and] at this; exact this.symm, fun e => by rw [e, Bool.true_and] at this; exact this⟩
      have FIN := Lib.hid fin
      clear fin
      rcases PV.out with ⟨rfl, rfl⟩ | ⟨hp, h0k, hlast, h1l⟩
      · have z0 : decide ((0 : Int) < (0 : Int)) = false := by simp
        rw [Nat.add_zero] at e0
        clear hrow
        by_cases h1 : 1 ≤ x
        · have t1 : decide (x < 1) = false := by simp; omega
          by_cases h2 : x < 1073741824
          · have t2 : decide (1073741824 ≤ x) = false := by simp; omega
            have R3 := Lib.hid ((FIN.out true (by symm; simp; omega)).2 rfl)
            have N3 := Lib.hid (NX.out h1)
            clear h1 h2
            go_wp2_with (fail)
            refine wp_region_grow (by kernel_rfl) (by kernel_rfl) ?_
            repeat (go_big_quiet_step ((first | (fail))))
            refine wpQuiet_nil ?_
            intro w2 hb2
            have S2 := Lib.hid (S.out.trans (hb2.mono hz))
            clear hb2
            go_wp2_with (fail)
            go_roundw
            case rel => exact ⟨1, x, by omega, by go_num, .inr N3.out, R3.out, S2.out⟩
            case measure => simp [intOf]; omega
          · have t2 : decide (1073741824 ≤ x) = true := by simp; omega
            have R3 := Lib.hid ((FIN.out false (by symm; simp; omega)).1 rfl)
            clear h1 h2
            go_wp2_with (fail)
            refine wp_region_grow (by kernel_rfl) (by kernel_rfl) ?_
            repeat (go_big_quiet_step ((first | (fail))))
            refine wpQuiet_nil ?_
            intro w2 hb2
            have S2 := Lib.hid (S.out.trans (hb2.mono hz))
            clear hb2
            go_wp2_with (fail)
            go_ret
            exact RetV.bool R3.out.symm S2.out
        · have t1 : decide (x < 1) = true := by simp; omega
          have R3 := Lib.hid ((FIN.out false (by symm; simp; omega)).1 rfl)
          clear h1
          go_wp2_with (fail)
          refine wp_region_grow (by kernel_rfl) (by kernel_rfl) ?_
          repeat (go_big_quiet_step ((first | (fail))))
          refine wpQuiet_nil ?_
          intro w2 hb2
          have S2 := Lib.hid (S.out.trans (hb2.mono hz))
          clear hb2
          go_wp2_with (fail)
          go_ret
          exact RetV.bool R3.out.symm S2.out
      · have z0 : decide ((0 : Int) < (k : Int)) = true := by simp; omega
        obtain ⟨m, hkm⟩ : ∃ m, m = k - 1 := ⟨_, rfl⟩
        have e1 : wr.cell? ⟨b, off + m, none⟩ = some (.int .i64 last) := by have := hrow m (by omega) 0 _ rfl; subst hkm; rw [hlast]; simpa using this
        have hm1 : (k : Int) - 1 = (m : Int) := by omega
        have hi3 : (0 : Int) ≤ (m : Int) := by omega
        have hi4 : (m : Int) < (l.length : Int) := by omega
        clear hrow hlast hp PV hkm
        by_cases h1 : 1 ≤ x
        · have t1 : decide (x < 1) = false := by simp; omega
          by_cases h2 : x < 1073741824
          · have t2 : decide (1073741824 ≤ x) = false := by simp; omega
            by_cases h3 : last < x
            · have t3 : decide (x ≤ last) = false := by simp; omega
              have R3 := Lib.hid ((FIN.out true (by symm; simp; omega)).2 rfl)
              have N3 := Lib.hid (NX.out h1)
              clear h1 h2 h3
              go_wp2_with (fail)
              refine wp_region_grow (by kernel_rfl) (by kernel_rfl) ?_
              repeat (go_big_quiet_step ((first | (fail))))
              refine wpQuiet_nil ?_
              intro w2 hb2
              have S2 := Lib.hid (S.out.trans (hb2.mono hz))
              clear hb2
              go_wp2_with (fail)
              go_roundw
              case rel => exact ⟨k + 1, x, by omega, by go_num, .inr N3.out, R3.out, S2.out⟩
              case measure => simp [intOf]; omega
            · have t3 : decide (x ≤ last) = true := by simp; omega
              have R3 := Lib.hid ((FIN.out false (by symm; simp; omega)).1 rfl)
              clear h1 h2 h3
              go_wp2_with (fail)
              refine wp_region_grow (by kernel_rfl) (by kernel_rfl) ?_
              repeat (go_big_quiet_step ((first | (fail))))
              refine wpQuiet_nil ?_
              intro w2 hb2
              have S2 := Lib.hid (S.out.trans (hb2.mono hz))
              clear hb2
              go_wp2_with (fail)
              go_ret
              exact RetV.bool R3.out.symm S2.out
          · have t2 : decide (1073741824 ≤ x) = true := by simp; omega
            have R3 := Lib.hid ((FIN.out false (by symm; simp; omega)).1 rfl)
            clear h1 h2
            go_wp2_with (fail)
            refine wp_region_grow (by kernel_rfl) (by kernel_rfl) ?_
            repeat (go_big_quiet_step ((first | (fail))))
            refine wpQuiet_nil ?_
            intro w2 hb2
            have S2 := Lib.hid (S.out.trans (hb2.mono hz))
            clear hb2
            go_wp2_with (fail)
            go_ret
            exact RetV.bool R3.out.symm S2.out
        · have t1 : decide (x < 1) = true := by simp; omega
          have R3 := Lib.hid ((FIN.out false (by symm; simp; omega)).1 rfl)
          clear h1
          go_wp2_with (fail)
          refine wp_region_grow (by kernel_rfl) (by kernel_rfl) ?_
          repeat (go_big_quiet_step ((first | (fail))))
          refine wpQuiet_nil ?_
          intro w2 hb2
          have S2 := Lib.hid (S.out.trans (hb2.mono hz))
          clear hb2
          go_wp2_with (fail)
          go_ret
          exact RetV.bool R3.out.symm S2.out
    · obtain rfl : k = l.length := by omega
      have d1 : decide ((l.length : Int) < (l.length : Int)) = false := by simp
      have R3 := Lib.hid (show idsOk 0 l = true by rw [← R.out]; exact idsOk_end last)
      go_wp2_with (fail)
      go_ret
      exact RetV.bool R3.out.symm S.out
end Go.Proofs.Ytldoedmclfbgpaa
namespace Go.Proofs.Ytldoedmclfbgpaa
open Go.RowKit

theorem elemInt : Elem Try.prog 87 3 1 8 := Elem.mk' (z := .int .i64 0) Try.underlying87 (by kernel_rfl) rfl (by omega) (by omega)
theorem ic_ones (l : List Int) : ∀ u ∈ l.flatMap ic, u.oneCell' = true := by
  intro u hu
  obtain ⟨x, _, hx⟩ := List.mem_flatMap.1 hu
  simp only [ic, List.mem_singleton] at hx
  subst hx
  rfl
/-- What is told of the values that a region's operations hand back. -/
def VB (l : List (Option Value)) (j : Nat) (v : Value) : Prop := match l[j]? with | some (some x) => v = x | _ => True
theorem ownB_kept {w w' : World} {B g : Nat} {e : TypeId} {size n : Nat} {v : Value} {xs : List Value} (h : w.ownsRow B e size v n xs) (k : Kept (some g) w.heap.size w w') (hg : g < B) : w'.ownsRow B e size v n xs := by
  obtain ⟨h1, h2⟩ := h
  refine ⟨h1, ?_⟩
  rcases h2 with h2 | ⟨q, cap, cur, hv, hq, hh, r⟩
  · exact .inl h2
  · exact .inr ⟨q, cap, cur, hv, hq, by
      have hlt : q < w.heap.size := by
        rcases Nat.lt_or_ge q w.heap.size with hlt | hge
        · exact hlt
        · rw [Array.getElem?_eq_none hge] at hh; cases hh
      rw [k.block q hlt (fun e => by injection e with e; omega)]
      exact hh, r⟩
set_option maxHeartbeats 400000 in
theorem c_take (x : Int) (is : Bool) (O : Nat) (l : List Int) (v : Value) (w : World) (hb : Blk w O #[v]) (ho : w.ownsRow (O + 1) 3 1 v l.length (l.flatMap ic)) (hl : l.length ≤ 1000000) :
    Calls Try.prog 170 #[.int .i64 x, .bool is, .pointer (some ⟨O, 0, none⟩)] w fun e w' => (∃ u, e = .returned u) ∧ Below O w w' ∧ ∃ v', Blk w' O #[v'] ∧ w'.ownsRow (O + 1) 3 1 v' (if is = true then l ++ [x] else l).length ((if is = true then l ++ [x] else l).flatMap ic) := by
  have hlt := hb.lt
  have HB := Lib.hid hb
  have HO := Lib.hid ho
  cases is
  · clear ho hb
    go_enter Try.func170, Try.ntmps170
    go_wp2_with (fail)
    go_end0
    exact ⟨⟨_, rfl⟩, Below.refl _ _, v, HB.out, HO.out⟩
  · obtain ⟨A, c, rfl, -⟩ := own_form ho
    have e0 := hb.cell (i := 0) rfl
    have f0 := fun i => hb.frozen i
    clear ho hb
    go_enter Try.func170, Try.ntmps170
    go_wp2_with ((at_builtin; refine Stop.out ?_))
    refine Stop.mk (wpList_app _ rfl _ _ elemInt rfl (O + 1) (.slice A l.length c) l.length _ rfl (own_below HO.out ((Below.refl _ _).alloc (Nat.le_refl _) _)) _ 1 1 (ic x) rfl (Src.new w (ic x) _ 1 rfl) (by simp [ic, Value.oneCell']) (by omega) (by simp; omega) ?_)
    intro v2 w2 own2 _ hb2 _
    have B2 : Blk w2 O #[.slice A l.length c] := (HB.out.below ((Below.refl _ _).alloc (Nat.le_refl _) _) hlt).below hb2 (by omega)
    have H2 := Lib.hid B2
    have hb3 : Below O w w2 := Below.trans (b := w.alloc _) ((Below.refl _ _).alloc (by omega) _) (hb2.mono (by omega))
    have O2 := Lib.hid own2
    clear e0 f0 hb2 own2
    have e2 := B2.cell (i := 0) rfl
    have f2 := fun i => B2.frozen i
    clear B2
    obtain ⟨A2, c2, rfl, -⟩ := own_form O2.out
    go_wp2_with (fail)
    go_end0
    refine ⟨⟨_, rfl⟩, hb3.setCell (Nat.le_refl _) _, _, H2.out.store 0 _, ?_⟩
    have := ownB_kept O2.out (kept_set w2 O 0 (.slice A2 (l.length + 1) c2)) (by omega)
    simpa using this
/-- While a number is handed to the closure, in a region that draws its order. -/
structure TK (w : World) (O : Nat) (l l' : List Int) (L : Nat → Bool) (u : Nat → Value) (w1 : World) : Prop where
  S : Below w.heap.size w w1
  hO : w.heap.size < O
  K : Blk w1 w.heap.size #[.bool true, .bool false, .bool false]
  box : ∃ v, Blk w1 O #[v] ∧ w1.ownsRow (O + 1) 3 1 v (if L 7 = true then l' else l).length ((if L 7 = true then l' else l).flatMap ic)
section
variable {w w1 w2 : World} {O : Nat} {l l' : List Int} {L : Nat → Bool} {u : Nat → Value} {v : Value} {j : Nat}
theorem TK.pure (h : TK w O l l' L u w1) (hj : j ≠ 7) : TK w O l l' (upd L j true) (upd u j v) w1 := by
  have e : upd L j true 7 = L 7 := upd_other _ _ (Ne.symm hj)
  exact ⟨h.S, h.hO, h.K, by rw [e]; exact h.box⟩
theorem TK.call (h : TK w O l l' L u w1) (k : Below O w1 w2) (hv : ∃ v', Blk w2 O #[v'] ∧ w2.ownsRow (O + 1) 3 1 v' l'.length (l'.flatMap ic)) : TK w O l l' (upd L 7 true) (upd u 7 v) w2 :=
  ⟨h.S.trans (k.mono (Nat.le_of_lt h.hO)), h.hO, h.K.below k h.hO, by rw [upd_same, if_pos rfl]; exact hv⟩
end
end Go.Proofs.Ytldoedmclfbgpaa
namespace Go.Proofs.Ytldoedmclfbgpaa
open Go.RowKit

set_option maxHeartbeats 400000 in
theorem c_shelf_New (w : World) : Calls Try.prog 124 #[] w (fun e w' => e = .returned (.pointer (some ⟨w.heap.size + 1, 0, none⟩)) ∧ Below w.heap.size w w' ∧ MapAt w' w.heap.size #[] 0 ∧ Blk w' (w.heap.size + 1) #[.int .i64 1, .map (some w.heap.size), .slice none 0 0] ∧ w'.heap.size = w.heap.size + 2) := by
  go_enter Try.func124, Try.ntmps124
  go_wp2_with (with_reducible refine stop_makeMap _ rfl ?_)
  refine Stop.mk (wpList_makeMapI rfl _ rfl ?_)
  intro w1 hm hb hz
  go_wp2_with (fail)
  go_ret
  have b2 := (Below.refl w1.heap.size w1).alloc (Nat.le_refl _) (.cells #[.int .i64 1, .map (some w.heap.size), .slice none 0 0] 199)
  refine ⟨rfl, hb.trans (b2.mono (by omega)), hm.below b2 (by omega), ?_, by simp [hz]⟩
  have := Blk.new w1 199 #[.int .i64 1, .map (some w.heap.size), .slice none 0 0]
  rwa [hz] at this
/-- Is this dead card the one that is looked for? -/
theorem c_Get1 (d : Dead) (id : Int) (q : Nat) (w : World) (hq : Blk w q #[.int .i64 id]) : Calls Try.prog 169 #[.agg #[.int .i64 d.id, .int .i64 d.ver, .int .i64 d.seq], .pointer (some ⟨q, 0, none⟩)] w (RetV w (.bool (decide (d.id = id)))) := by
  have e0 := hq.cell (i := 0) rfl
  have hlt := hq.lt
  have HD := Lib.hid (show (d.id == id) = decide (d.id = id) from rfl)
  clear hq
  go_enter Try.func169, Try.ntmps169
  go_wp2_with (fail)
  go_ret
  exact RetV.bool HD.out (by repeat (first | exact Below.refl _ _ | refine Below.drew ?_ | refine Below.alloc ?_ (by first | omega | (simp; done) | (simp; omega)) _ | refine Below.setCell ?_ (by first | omega | (simp; done) | (simp; omega)) _ | refine Below.trans ?_ (Below.mono (by assumption) (by first | omega | (simp; done) | (simp; omega)))))
def RetIdxD (l : List Dead) (id : Int) (w : World) (e : Ending) (w' : World) : Prop := ∃ z : Int, e = .returned (.int .i64 z) ∧ decide (0 ≤ z) = hasDead l id ∧ Below w.heap.size w w'
set_option maxHeartbeats 400000 in
theorem c_IndexFuncD (l : List Dead) (id : Int) (q : Nat) (A : Option Addr) (c : Nat) (w : World) (h : In 3 Dead.cells w A c l) (hq : Blk w q #[.int .i64 id]) :
    Calls Try.prog 188 #[.slice A l.length c, .func (.func 169) #[] #[.pointer (some ⟨q, 0, none⟩)]] w (RetIdxD l id w) := by
  have hL := h.1
  have hC := h.2.1
  have hS := h.2.2.1
  have H := Lib.hid h
  have HQ := Lib.hid hq
  have hql := hq.lt
  clear h hq
  go_enter Try.func188, Try.ntmps188
  go_wp2_with (fail)
  go_loopw [5, 8] (fun _ i wr => ∃ k : Nat, k ≤ l.length ∧ i = .int .i64 k ∧ Hid (hasDead (l.drop k) id = hasDead l id) ∧ Hid (Below w.heap.size w wr)) (fun _ i _ => l.length - (intOf i).toNat)
  case atStart => exact ⟨0, by omega, rfl, rfl, Below.refl _ _⟩
  case round =>
    obtain ⟨k, hk, rfl, R, S⟩ := hrel
    have hz := S.out.size
    by_cases hlt : k < l.length
    · obtain ⟨b, off, hA, hbb, hrow⟩ := H.out.at hlt
      have d0 := hrow.belowB S.out hbb k hlt 0 _ rfl
      have d1 := hrow.belowB S.out hbb k hlt 1 _ rfl
      have d2 := hrow.belowB S.out hbb k hlt 2 _ rfl
      simp only [Nat.add_zero] at d0
      have R2 := Lib.hid (show (decide (l[k].id = id) || hasDead (l.drop (k + 1)) id) = hasDead l id by rw [← R.out, drop_at hlt]; rfl)
      obtain ⟨x, hx⟩ : ∃ x, x = l[k] := ⟨_, rfl⟩
      rw [← hx] at d0 d1 d2 R2
      have t0 : decide ((k : Int) < (l.length : Int)) = true := by simp; omega
      have hi1 : (0 : Int) ≤ (k : Int) := by omega
      have hi2 : (k : Int) < (l.length : Int) := by omega
      have hbw : b < wr.heap.size := by omega
      clear hrow hx R
      subst hA
      cases hv : decide (x.id = id)
      · have R3 := Lib.hid (show hasDead (l.drop (k + 1)) id = hasDead l id by rw [← R2.out, hv]; rfl)
        go_wp2_with (go_at_call 169; refine (c_Get1 x id q _ (HQ.out.below S.out hql)).mono ?_; rintro e w1 ⟨rfl, hb1⟩)
        go_roundw
        case rel => exact ⟨k + 1, by omega, by go_num, R3.out, S.out.trans (hb1.mono hz)⟩
        case measure => simp [intOf]; omega
      · have R3 := Lib.hid (show hasDead l id = true by rw [← R2.out, hv]; rfl)
        go_wp2_with (go_at_call 169; refine (c_Get1 x id q _ (HQ.out.below S.out hql)).mono ?_; rintro e w1 ⟨rfl, hb1⟩)
        go_ret
        exact ⟨k, rfl, by rw [R3.out]; simp, S.out.trans (hb1.mono hz)⟩
    · obtain rfl : k = l.length := by omega
      have t0 : decide ((l.length : Int) < (l.length : Int)) = false := by simp
      have R3 := Lib.hid (show hasDead l id = false by rw [← R.out, List.drop_length]; rfl)
      go_wp2_with (fail)
      go_ret
      exact ⟨-1, rfl, by rw [R3.out]; rfl, S.out⟩
set_option maxHeartbeats 400000 in
theorem c_ContainsFuncD (l : List Dead) (id : Int) (q : Nat) (A : Option Addr) (c : Nat) (w : World) (h : In 3 Dead.cells w A c l) (hq : Blk w q #[.int .i64 id]) :
    Calls Try.prog 168 #[.slice A l.length c, .func (.func 169) #[] #[.pointer (some ⟨q, 0, none⟩)]] w (RetV w (.bool (hasDead l id))) := by
  go_enter Try.func168, Try.ntmps168
  go_wp2_with (go_at_call 188; refine (c_IndexFuncD l id q A c _ h hq).mono ?_; rintro e w1 ⟨z, rfl, hz, hb1⟩; have HZ := Lib.hid hz; clear hz)
  go_ret
  exact RetV.bool HZ.out hb1
/-! A look for a card. -/
def zcA : Array Value := #[.int .i64 0, .int .i64 0, .int .u32 0, .int .i64 0, .int .i64 0, .string (str []), .int .i64 0, .int .i64 0, .string (str []), .int .i64 0, .int .i64 0, .string (str []), .int .i64 0, .int .i64 0, .string (str []), .int .i64 0, .int .i64 0, .string (str []), .int .i64 0, .int .i64 0, .string (str []), .int .i64 0, .int .i64 0, .string (str []), .int .i64 0, .int .i64 0, .string (str [])]
theorem zcA_size : zcA.size = 27 := rfl
theorem zcA_one : zcA.all (·.oneCell') = true := by simp [zcA, Value.oneCell']
theorem CQ.size (x : CQ) : x.c.arr.size = 27 := by rw [Card.arr_size, x.wf]
theorem CQ.ones (x : CQ) : x.c.arr.all (·.oneCell') = true := by
  rw [← Array.all_toList, List.all_eq_true]
  intro v hv
  unfold Card.arr at hv
  simp only [List.cons_append, List.nil_append, List.mem_cons, List.mem_flatMap] at hv
  rcases hv with rfl | rfl | rfl | ⟨y, -, hy⟩
  · rfl
  · rfl
  · rfl
  · simp only [Val.cells, List.mem_cons, List.not_mem_nil, or_false] at hy
    rcases hy with rfl | rfl | rfl <;> rfl
theorem built_zc : Try.prog.built 39 [] = some zcA := by kernel_rfl
theorem zero_zc (w : World) : (zeroValue 39).run Try.prog w = .ok (.agg zcA) w := by kernel_rfl
end Go.Proofs.Ytldoedmclfbgpaa
namespace Go.Proofs.Ytldoedmclfbgpaa
open Go.RowKit

/-- A shelf in memory: its block, its map, its dead. -/
structure ShelfAt (w : World) (s m : Nat) (next : Int) (l : List CQ) (v : Value) (dead : List Dead) : Prop where
  blk : Blk w s #[.int .i64 next, .map (some m), v]
  map : MapAt w m (esA l) l.length
  dead : ∃ A c, v = .slice A dead.length c ∧ In 3 Dead.cells w A c dead
theorem ShelfAt.below {w w' : World} {s m : Nat} {next : Int} {l : List CQ} {v : Value} {dead : List Dead} (h : ShelfAt w s m next l v dead) (hb : Below w.heap.size w w') : ShelfAt w' s m next l v dead := by
  obtain ⟨A, c, hv, hd⟩ := h.dead
  exact ⟨h.blk.below hb h.blk.lt, h.map.below hb h.map.lt, A, c, hv, hd.below hb⟩
/-- While an entry is looked up, and a box is made for it. -/
structure LM (w : World) (cs : Array Value) (L : Nat → Bool) (u : Nat → Value) (w1 : World) : Prop where
  S : Below w.heap.size w w1
  c10 : L 10 = true → L 9 = true
  box : L 9 = true → ∃ g, u 9 = .pointer (some ⟨g, 0, none⟩) ∧ w.heap.size ≤ g ∧ Blk w1 g (if L 10 = true then cs else zcA)
section
variable {w w1 w2 : World} {cs : Array Value} {L : Nat → Bool} {u : Nat → Value} {v : Value} {j : Nat}
theorem LM.start (hb : Below w.heap.size w w1) : LM w cs (fun _ => false) u w1 := ⟨hb, (fun h => (by first | cases h | simp at h)), (fun h => (by first | cases h | simp at h))⟩
theorem LM.pure (h : LM w cs L u w1) (h1 : j ≠ 9) (h2 : j ≠ 10) : LM w cs (upd L j true) (upd u j v) w1 := by
  have e9 : upd L j true 9 = L 9 := upd_other _ _ (Ne.symm h1)
  have e10 : upd L j true 10 = L 10 := upd_other _ _ (Ne.symm h2)
  have f9 : upd u j v 9 = u 9 := upd_other _ _ (Ne.symm h1)
  exact ⟨h.S, by rw [e9, e10]; exact h.c10, by rw [e9, e10, f9]; exact h.box⟩
theorem LM.no10 (h : LM w cs L u w1) (h9 : L 9 = false) : L 10 = false := by
  cases e : L 10
  · rfl
  · have := h.c10 e; rw [h9] at this; cases this
theorem LM.make (h : LM w cs L u w1) (h9 : L 9 = false) (t : TypeId) : LM w cs (upd L 9 true) (upd u 9 (.pointer (some ⟨w1.heap.size, 0, none⟩))) (w1.alloc (.cells zcA t)) := by
  have e10 : upd L 9 true 10 = false := (upd_other _ _ (by decide)).trans (h.no10 h9)
  refine ⟨h.S.trans (((Below.refl w1.heap.size w1).alloc (Nat.le_refl _) _).mono h.S.size), (fun e => by rw [e10] at e; cases e), fun _ => ⟨w1.heap.size, upd_same .., h.S.size, ?_⟩⟩
  rw [if_neg (by rw [e10]; simp)]
  exact Blk.new _ _ _
theorem LM.put (h : LM w cs L u w1) {g : Nat} (h9 : L 9 = true) (hg : u 9 = .pointer (some ⟨g, 0, none⟩)) (hw : w.heap.size ≤ g) (b : Blk w2 g cs) (k : Kept (some g) w1.heap.size w1 w2) : LM w cs (upd L 10 true) (upd u 10 v) w2 := by
  have e9 : upd L 10 true 9 = true := (upd_other _ _ (by decide)).trans h9
  have f9 : upd u 10 v 9 = u 9 := upd_other _ _ (by decide)
  refine ⟨h.S.trans (k.oneB h.S.size hw), fun _ => e9, fun _ => ⟨g, f9.trans hg, hw, ?_⟩⟩
  rw [if_pos (upd_same ..)]
  exact b
end
def RetGet (w : World) (e : Int) (x : Ending) (w' : World) : Prop := ∃ cs : Array Value, x = .returned (.tuple #[.agg cs, .int .i64 e]) ∧ cs.size = 27 ∧ cs.all (·.oneCell') = true ∧ Below w.heap.size w w'
theorem ShelfAt.I0 {w : World} {id : Int} (W0 : World) (h : W0 = ((w.alloc (.cells #[.int .i64 id] 3)).alloc (.cells zcA 39))) :
    Below w.heap.size w W0 ∧ Blk W0 w.heap.size #[.int .i64 id] ∧ Blk W0 (w.heap.size + 1) zcA ∧ W0.heap.size = w.heap.size + 2 := by
  subst h
  have b1 : Below w.heap.size w (w.alloc (.cells #[.int .i64 id] 3)) := (Below.refl _ _).alloc (Nat.le_refl _) _
  have b2 : Below (w.heap.size + 1) (w.alloc (.cells #[.int .i64 id] 3)) ((w.alloc (.cells #[.int .i64 id] 3)).alloc (.cells zcA 39)) := (Below.refl _ _).alloc (by simp) _
  refine ⟨b1.trans (b2.mono (by omega)), (Blk.new w _ _).below b2 (by omega), ?_, by simp⟩
  have := Blk.new (w.alloc (.cells #[.int .i64 id] 3)) 39 zcA
  simpa using this
set_option maxHeartbeats 1000000 in
theorem c_shelf_Get (s m : Nat) (next : Int) (l : List CQ) (v : Value) (dead : List Dead) (id : Int) (w : World) (h : ShelfAt w s m next l v dead) :
    Calls Try.prog 125 #[.pointer (some ⟨s, 0, none⟩), .int .i64 id] w (RetGet w (getE (l.map CQ.c) dead id)) := by
  have H := Lib.hid h
  have hsl := h.blk.lt
  clear h
  cases hc : hasCard (l.map CQ.c) id
  · have FN := Lib.hid (find_none hc)
    have HE := Lib.hid (show getE (l.map CQ.c) dead id = if hasDead dead id then 9 else 6 by unfold getE; rw [hc]; rfl)
    clear hc
    go_enter Try.func125, Try.ntmps125
    go_wp2_with (fail)
    rw [show (#[.int .i64 0, .int .i64 0, .int .u32 0, .int .i64 0, .int .i64 0, .string (str []), .int .i64 0, .int .i64 0, .string (str []), .int .i64 0, .int .i64 0, .string (str []), .int .i64 0, .int .i64 0, .string (str []), .int .i64 0, .int .i64 0, .string (str []), .int .i64 0, .int .i64 0, .string (str []), .int .i64 0, .int .i64 0, .string (str []), .int .i64 0, .int .i64 0, .string (str [])] : Array Value) = zcA from rfl]
    obtain ⟨w0, hw0⟩ : ∃ x, x = ((w.alloc (.cells #[.int .i64 id] 3)).alloc (.cells zcA 39)) := ⟨_, rfl⟩
    rw [← hw0]
    obtain ⟨i1, i2, i3, i4⟩ := ShelfAt.I0 w0 hw0
    have B0 := Lib.hid (H.out.below i1)
    have I0 := Lib.hid i2
    have I1 := Lib.hid i3
    have S0 := Lib.hid i1
    clear hw0 i1 i2 i3
    refine wp_region_relM (VB [some (.pointer (some ⟨s, 0, none⟩)), some (.pointer (some ⟨s, 0, none⟩)), some (.pointer (some ⟨s, 1, none⟩)), some (.map (some m)), some (.int .i64 id), some (.tuple #[.agg zcA, .bool false]), some (.tuple #[.agg zcA, .bool false]), some (.agg zcA), some (.bool false), none, none, some (.bool false)]) (LM w0 zcA) 30 (by kernel_rfl) (by kernel_rfl) rfl ?_ ?_ ?_
    · intro u w' hb hh
      exact LM.start hb
    · refine ⟨?_, ?_, ?_, ?_, ?_, ?_, ?_, ?_, ?_, ?_, ?_, ?_, trivial⟩
      all_goals
        rintro L u W1 hM hL hd
        have M := Lib.hid hM
        clear hM
        simp [DepsM, Region.binds, VB] at hd
        simp only [putDeps, dstOf, Region.binds]
      case refine_4 =>
        obtain ⟨-, hu2⟩ := hd
        have q1 := (B0.out.blk.below M.out.S B0.out.blk.lt).cell (i := 1) rfl
        go_wp2_with (fail)
        exact EndM.mk rfl ⟨rfl, M.out.pure (by decide) (by decide)⟩
      case refine_5 =>
        have q1 := (I0.out.below M.out.S I0.out.lt).cell (i := 0) rfl
        go_wp2_with (fail)
        exact EndM.mk rfl ⟨rfl, M.out.pure (by decide) (by decide)⟩
      case refine_6 =>
        obtain ⟨⟨-, hu3⟩, -, hu4⟩ := hd
        rw [hu3, hu4]
        go_wp2_with (with_reducible refine stop_lookup2 _ _ _ rfl ?_)
        refine Stop.mk (wpList_lookup2N rfl _ _ _ rfl _ _ Try.underlying197 Try.underlying3 _ (zero_zc _) m _ _ rfl id rfl (B0.out.map.below M.out.S B0.out.map.lt) FN.out ?_)
        exact EndM.mk rfl ⟨rfl, M.out.pure (by decide) (by decide)⟩
      case refine_10 =>
        go_wp2_with (fail)
        exact EndM.mk rfl ⟨trivial, M.out.make hL _⟩
      case refine_11 =>
        obtain ⟨h9, hd2⟩ := hd
        have hu7 : u 7 = .agg zcA := by first | exact hd2.1.2 | exact hd2.2
        obtain ⟨g, hg, hwg, hB⟩ := M.out.box h9
        rw [if_neg (by rw [hL]; simp)] at hB
        have HB := Lib.hid hB
        have HG := Lib.hid hg
        clear hB hg
        rw [HG.out, hu7]
        go_wp2_with (with_reducible refine stS 39 _ _ rfl rfl ?_)
        refine Stop.mk (wsB rfl _ _ _ rfl g _ rfl rfl _ HB.out strC zcA_size (by first | rfl | (rw [zcA_size]; rfl)) zcA_one ?_)
        intro w9 hb9 hk9
        exact EndM.mk0 rfl ⟨trivial, M.out.put h9 HG.out hwg hb9 hk9⟩
      all_goals
        go_wp2_with (fail)
        exact EndM.mk rfl ⟨by first | exact hd.2 | rfl | trivial, M.out.pure (by decide) (by decide)⟩
    rintro u W1 hv hM
    have h8 : u 11 = .bool false := hv 11 (by simp)
    clear hv
    have Y := Lib.hid hM
    clear hM
    simp only [putAll, Act.put, Nat.reduceAdd, List.setIfInBounds_toArray, List.set_cons_zero, List.set_cons_succ]
    obtain ⟨g, hg, hgw, hgb⟩ := Y.out.box rfl
    rw [h8, hg]
    clear h8 hg hgb
    have B1 := Lib.hid (B0.out.below Y.out.S)
    have I2 := Lib.hid (I0.out.below Y.out.S I0.out.lt)
    have I3 := Lib.hid (I1.out.below Y.out.S I1.out.lt)
    have S1 := Lib.hid (S0.out.trans (Y.out.S.mono (by omega)))
    have hlw : w.heap.size < W1.heap.size := I2.out.lt
    clear Y B0 I0 I1 S0
    obtain ⟨A, c, rfl, hdin⟩ := B1.out.dead
    have HD := Lib.hid hdin
    have q2 := B1.out.blk.cell (i := 2) rfl
    clear hdin
    go_wp2_with (fail)
    refine (c_ContainsFuncD dead id w.heap.size A c _ HD.out I2.out).mono ?_
    rintro e w2 ⟨rfl, hb2⟩
    have I4 := Lib.hid (I3.out.below hb2 I3.out.lt)
    have S2 := Lib.hid (S1.out.trans (hb2.mono S1.out.size))
    clear hb2 q2
    cases hd : hasDead dead id
    all_goals
      rw [hd] at HE
      go_wp2_with (with_reducible refine stop_build 39 _ rfl ?_)
      refine Stop.mk (wpList_buildD rfl _ _ rfl [] (by rfl) zcA built_zc ?_)
      go_wp2_with (with_reducible refine stS 39 _ _ rfl rfl ?_)
      refine Stop.mk (wsB rfl _ _ _ rfl (w.heap.size + 1) _ rfl rfl _ I4.out strC zcA_size rfl zcA_one ?_)
      intro w9 hb9 hk9
      have S3 := Lib.hid (S2.out.trans (hk9.oneB S2.out.size (by omega)))
      clear hk9
      go_wp2_with (fail)
      rw [HE.out]
      exact bodyPost_ret (results_B2 rfl rfl rfl hb9 strC zcA_size) rfl ⟨zcA, rfl, zcA_size, zcA_one, S3.out⟩
  · obtain ⟨i, x, hx, hf⟩ := find_some hc
    have FN := Lib.hid hf
    have HE := Lib.hid (show getE (l.map CQ.c) dead id = 0 by unfold getE; rw [hc]; rfl)
    clear hc hx hf
    go_enter Try.func125, Try.ntmps125
    go_wp2_with (fail)
    rw [show (#[.int .i64 0, .int .i64 0, .int .u32 0, .int .i64 0, .int .i64 0, .string (str []), .int .i64 0, .int .i64 0, .string (str []), .int .i64 0, .int .i64 0, .string (str []), .int .i64 0, .int .i64 0, .string (str []), .int .i64 0, .int .i64 0, .string (str []), .int .i64 0, .int .i64 0, .string (str []), .int .i64 0, .int .i64 0, .string (str []), .int .i64 0, .int .i64 0, .string (str [])] : Array Value) = zcA from rfl]
    obtain ⟨w0, hw0⟩ : ∃ x, x = ((w.alloc (.cells #[.int .i64 id] 3)).alloc (.cells zcA 39)) := ⟨_, rfl⟩
    rw [← hw0]
    obtain ⟨i1, i2, i3, i4⟩ := ShelfAt.I0 w0 hw0
    have B0 := Lib.hid (H.out.below i1)
    have I0 := Lib.hid i2
    have I1 := Lib.hid i3
    have S0 := Lib.hid i1
    clear hw0 i1 i2 i3
    refine wp_region_relM (VB [some (.pointer (some ⟨s, 0, none⟩)), some (.pointer (some ⟨s, 0, none⟩)), some (.pointer (some ⟨s, 1, none⟩)), some (.map (some m)), some (.int .i64 id), some (.tuple #[.agg x.c.arr, .bool true]), some (.tuple #[.agg x.c.arr, .bool true]), some (.agg x.c.arr), some (.bool true), none, none, some (.bool true)]) (LM w0 x.c.arr) 30 (by kernel_rfl) (by kernel_rfl) rfl ?_ ?_ ?_
    · intro u w' hb hh
      exact LM.start hb
    · refine ⟨?_, ?_, ?_, ?_, ?_, ?_, ?_, ?_, ?_, ?_, ?_, ?_, trivial⟩
      all_goals
        rintro L u W1 hM hL hd
        have M := Lib.hid hM
        clear hM
        simp [DepsM, Region.binds, VB] at hd
        simp only [putDeps, dstOf, Region.binds]
      case refine_4 =>
        obtain ⟨-, hu2⟩ := hd
        have q1 := (B0.out.blk.below M.out.S B0.out.blk.lt).cell (i := 1) rfl
        go_wp2_with (fail)
        exact EndM.mk rfl ⟨rfl, M.out.pure (by decide) (by decide)⟩
      case refine_5 =>
        have q1 := (I0.out.below M.out.S I0.out.lt).cell (i := 0) rfl
        go_wp2_with (fail)
        exact EndM.mk rfl ⟨rfl, M.out.pure (by decide) (by decide)⟩
      case refine_6 =>
        obtain ⟨⟨-, hu3⟩, -, hu4⟩ := hd
        rw [hu3, hu4]
        go_wp2_with (with_reducible refine stop_lookup2 _ _ _ rfl ?_)
        refine Stop.mk (wpList_lookup2I rfl _ _ _ rfl _ _ Try.underlying197 Try.underlying3 m _ _ rfl id rfl (B0.out.map.below M.out.S B0.out.map.lt) i (.agg x.c.arr) FN.out ?_)
        exact EndM.mk rfl ⟨rfl, M.out.pure (by decide) (by decide)⟩
      case refine_10 =>
        go_wp2_with (fail)
        exact EndM.mk rfl ⟨trivial, M.out.make hL _⟩
      case refine_11 =>
        obtain ⟨h9, hd2⟩ := hd
        have hu7 : u 7 = .agg x.c.arr := by first | exact hd2.1.2 | exact hd2.2
        obtain ⟨g, hg, hwg, hB⟩ := M.out.box h9
        rw [if_neg (by rw [hL]; simp)] at hB
        have HB := Lib.hid hB
        have HG := Lib.hid hg
        clear hB hg
        rw [HG.out, hu7]
        go_wp2_with (with_reducible refine stS 39 _ _ rfl rfl ?_)
        refine Stop.mk (wsB rfl _ _ _ rfl g _ rfl rfl _ HB.out strC x.size (by first | rfl | (rw [x.size]; rfl)) x.ones ?_)
        intro w9 hb9 hk9
        exact EndM.mk0 rfl ⟨trivial, M.out.put h9 HG.out hwg hb9 hk9⟩
      all_goals
        go_wp2_with (fail)
        exact EndM.mk rfl ⟨by first | exact hd.2 | rfl | trivial, M.out.pure (by decide) (by decide)⟩
    rintro u W1 hv hM
    have h8 : u 11 = .bool true := hv 11 (by simp)
    clear hv
    have Y := Lib.hid hM
    clear hM
    simp only [putAll, Act.put, Nat.reduceAdd, List.setIfInBounds_toArray, List.set_cons_zero, List.set_cons_succ]
    obtain ⟨g, hg, hgw, hgb⟩ := Y.out.box rfl
    rw [h8, hg]
    clear h8 hg
    have I3 := Lib.hid (I1.out.below Y.out.S I1.out.lt)
    have S1 := Lib.hid (S0.out.trans (Y.out.S.mono (by omega)))
    have HG := Lib.hid hgb
    clear Y B0 I0 I1 S0 hgb
    go_wp2_with (with_reducible refine stop_load 39 _ rfl rfl ?_)
    refine Stop.mk (wpList_loadB rfl _ _ rfl g rfl _ HG.out strC x.size ?_)
    go_wp2_with (with_reducible refine stS 39 _ _ rfl rfl ?_)
    refine Stop.mk (wsB rfl _ _ _ rfl (w.heap.size + 1) _ rfl rfl _ I3.out strC x.size (by rw [x.size]; rfl) x.ones ?_)
    intro w9 hb9 hk9
    have S3 := Lib.hid (S1.out.trans (hk9.oneB S1.out.size (by omega)))
    clear hk9
    go_wp2_with (fail)
    rw [HE.out]
    exact bodyPost_ret (results_B2 rfl rfl rfl hb9 strC x.size) rfl ⟨_, rfl, x.size, x.ones, S3.out⟩
end Go.Proofs.Ytldoedmclfbgpaa
namespace Go.Proofs.Ytldoedmclfbgpaa
open Go.RowKit

/-- iB: the row of one is laid; iA: the append; iS: the store. R: what the rest of the memory is, kept by whatever works above B. T: what is kept until the append. -/
structure DM (ps : List (Nat × Nat)) (iL iB iA iS : Nat) (w : World) (s B : Nat) (X : Array Value) (f : Nat) (t : TypeId) (n : Nat) (v : Value) (len : Nat) (xs : List Value) (Nw : List Value → Prop) (R T : World → Prop) (L : Nat → Bool) (u : Nat → Value) (w1 : World) : Prop where
  cS : L iS = true → L iA = true
  cA : L iA = true → L iB = true ∧ L iL = true
  S : Below w.heap.size w w1
  lo : w.heap.size ≤ s
  hs : s < B
  hB : B ≤ w1.heap.size
  blk : Blk w1 s (if L iS = true then X.setIfInBounds f (u iA) else X)
  own : if L iA = true then ∃ nn, Nw nn ∧ w1.ownsRow B t n (u iA) (len + 1) (xs ++ nn) else w1.ownsRow B t n v len xs
  lit : L iB = true → L iA = false → ∃ g nn, Nw nn ∧ u iB = .slice (some ⟨g, 0, none⟩) 1 1 ∧ Src w1 (some ⟨g, 0, none⟩) 1 n nn
  keep : R w1
  top : L iA = false → T w1
  ch : ∀ p ∈ ps, L p.1 = true → L p.2 = true
section
variable {ps : List (Nat × Nat)} {iL iB iA iS : Nat} {w w1 w2 : World} {s B : Nat} {X : Array Value} {f : Nat} {t : TypeId} {n : Nat} {v : Value} {len : Nat} {xs : List Value} {Nw : List Value → Prop} {R T : World → Prop} {L : Nat → Bool} {u : Nat → Value} {j : Nat} {z : Value}
theorem upd_ch {ps : List (Nat × Nat)} {L : Nat → Bool} {j : Nat} (h : ∀ p ∈ ps, L p.1 = true → L p.2 = true) (hj : ∀ p ∈ ps, p.1 = j → L p.2 = true) : ∀ p ∈ ps, upd L j true p.1 = true → upd L j true p.2 = true := by
  intro p hp e
  have key : L p.2 = true := by
    by_cases e1 : p.1 = j
    · exact hj p hp e1
    · rw [upd_other _ _ e1] at e; exact h p hp e
  by_cases e2 : p.2 = j
  · rw [e2]; exact upd_same ..
  · rw [upd_other _ _ e2]; exact key
theorem DM.start (S : Below w.heap.size w w1) (lo : w.heap.size ≤ s) (hs : s < B) (hB : B ≤ w1.heap.size) (b : Blk w1 s X) (o : w1.ownsRow B t n v len xs) (hR : R w1) (hT : T w1) : DM ps iL iB iA iS w s B X f t n v len xs Nw R T (fun _ => false) u w1 :=
  ⟨(fun h => (by first | cases h | simp at h)), (fun h => (by first | cases h | simp at h)), S, lo, hs, hB, b, o, (fun h => (by first | cases h | simp at h)), hR, fun _ => hT, fun _ _ h => (by first | cases h | simp at h)⟩
theorem DM.noA (h : DM ps iL iB iA iS w s B X f t n v len xs Nw R T L u w1) (hb : L iB = false) : L iA = false := by
  cases e : L iA
  · rfl
  · have := (h.cA e).1; rw [hb] at this; cases this
theorem upd_mono {L : Nat → Bool} {i j : Nat} (h : L i = true) : upd L j true i = true := by
  by_cases e : i = j
  · subst e; exact upd_same ..
  · rw [upd_other _ _ e]; exact h
theorem DM.noL (h : DM ps iL iB iA iS w s B X f t n v len xs Nw R T L u w1) (hb : L iL = false) : L iA = false := by
  cases e : L iA
  · rfl
  · have := (h.cA e).2; rw [hb] at this; cases this
theorem DM.no (h : DM ps iL iB iA iS w s B X f t n v len xs Nw R T L u w1) {i k : Nat} (hp : (i, k) ∈ ps) (hb : L k = false) : L i = false := by
  cases e : L i
  · rfl
  · have := h.ch _ hp e; simp only at this; rw [hb] at this; cases this
theorem DM.noS (h : DM ps iL iB iA iS w s B X f t n v len xs Nw R T L u w1) (hb : L iA = false) : L iS = false := by
  cases e : L iS
  · rfl
  · have := h.cS e; rw [hb] at this; cases this
theorem DM.blk0 (h : DM ps iL iB iA iS w s B X f t n v len xs Nw R T L u w1) (hS : L iS = false) : Blk w1 s X := by
  have := h.blk
  rwa [if_neg (by rw [hS]; simp)] at this
theorem DM.own0 (h : DM ps iL iB iA iS w s B X f t n v len xs Nw R T L u w1) (hA : L iA = false) : w1.ownsRow B t n v len xs := by
  have := h.own
  rwa [if_neg (by rw [hA]; simp)] at this
theorem DM.pure (h : DM ps iL iB iA iS w s B X f t n v len xs Nw R T L u w1) (h1 : j ≠ iB) (h2 : j ≠ iA) (h3 : j ≠ iS) (hj : ∀ p ∈ ps, p.1 = j → L p.2 = true) : DM ps iL iB iA iS w s B X f t n v len xs Nw R T (upd L j true) (upd u j z) w1 := by
  have e1 : upd L j true iB = L iB := upd_other _ _ (Ne.symm h1)
  have e2 : upd L j true iA = L iA := upd_other _ _ (Ne.symm h2)
  have e3 : upd L j true iS = L iS := upd_other _ _ (Ne.symm h3)
  have f1 : upd u j z iB = u iB := upd_other _ _ (Ne.symm h1)
  have f2 : upd u j z iA = u iA := upd_other _ _ (Ne.symm h2)
  exact ⟨by rw [e2, e3]; exact h.cS, by rw [e1, e2]; exact fun e => ⟨(h.cA e).1, upd_mono (h.cA e).2⟩, h.S, h.lo, h.hs, h.hB, by rw [e3, f2]; exact h.blk, by rw [e2, f2]; exact h.own, by rw [e1, e2, f1]; exact h.lit, h.keep, by rw [e2]; exact h.top, upd_ch h.ch hj⟩
/-- A call, or memory made, ahead of the append. -/
theorem DM.call (h : DM ps iL iB iA iS w s B X f t n v len xs Nw R T L u w1) (h1 : j ≠ iB) (h2 : j ≠ iA) (h3 : j ≠ iS) (hb : L iB = false) (k : Below w1.heap.size w1 w2) (hR : R w2) (hT : T w2) (hj : ∀ p ∈ ps, p.1 = j → L p.2 = true) : DM ps iL iB iA iS w s B X f t n v len xs Nw R T (upd L j true) (upd u j z) w2 := by
  have hA := h.noA hb
  have hS := h.noS hA
  have e1 : upd L j true iB = false := (upd_other _ _ (Ne.symm h1)).trans hb
  have e2 : upd L j true iA = false := (upd_other _ _ (Ne.symm h2)).trans hA
  have e3 : upd L j true iS = false := (upd_other _ _ (Ne.symm h3)).trans hS
  refine ⟨(fun e => by rw [e3] at e; cases e), (fun e => by rw [e2] at e; cases e), h.S.trans (k.mono h.S.size), h.lo, h.hs, Nat.le_trans h.hB k.size, ?_, ?_, (fun e => by rw [e1] at e; cases e), hR, fun _ => hT, upd_ch h.ch hj⟩
  · rw [if_neg (by rw [e3]; simp)]; exact (h.blk0 hS).below k (h.blk0 hS).lt
  · rw [if_neg (by rw [e2]; simp)]; exact own_below (h.own0 hA) k
theorem DM.make (h : DM ps iL iB iA iS w s B X f t n v len xs Nw R T L u w1) (h12 : iB ≠ iA) (h13 : iB ≠ iS) {news : List Value} (hnw : Nw news) (hb : L iB = false) (hn : news.length = n) (hR : R (w1.alloc (.cells news.toArray t))) (hT : T (w1.alloc (.cells news.toArray t))) (hj : ∀ p ∈ ps, p.1 = iB → L p.2 = true) :
    DM ps iL iB iA iS w s B X f t n v len xs Nw R T (upd L iB true) (upd u iB (.slice (some ⟨w1.heap.size, 0, none⟩) 1 1)) (w1.alloc (.cells news.toArray t)) := by
  have hA := h.noA hb
  have hS := h.noS hA
  have e2 : upd L iB true iA = false := (upd_other _ _ (Ne.symm h12)).trans hA
  have e3 : upd L iB true iS = false := (upd_other _ _ (Ne.symm h13)).trans hS
  have k : Below w1.heap.size w1 (w1.alloc (.cells news.toArray t)) := (Below.refl _ _).alloc (Nat.le_refl _) _
  refine ⟨(fun e => by rw [e3] at e; cases e), (fun e => by rw [e2] at e; cases e), h.S.trans (k.mono h.S.size), h.lo, h.hs, Nat.le_trans h.hB k.size, ?_, ?_, fun _ _ => ⟨w1.heap.size, news, hnw, upd_same .., Src.new w1 news t n hn⟩, hR, fun _ => hT, upd_ch h.ch hj⟩
  · rw [if_neg (by rw [e3]; simp)]; exact (h.blk0 hS).below k (h.blk0 hS).lt
  · rw [if_neg (by rw [e2]; simp)]; exact own_below (h.own0 hA) k
theorem DM.app (h : DM ps iL iB iA iS w s B X f t n v len xs Nw R T L u w1) (h12 : iB ≠ iA) (h23 : iA ≠ iS) (hb : L iB = true) (hl : L iL = true) (hA : L iA = false) {news : List Value} (hnw : Nw news) (o : w2.ownsRow B t n z (len + 1) (xs ++ news)) (k : Below B w1 w2) (hR : R w2) (hj : ∀ p ∈ ps, p.1 = iA → L p.2 = true) :
    DM ps iL iB iA iS w s B X f t n v len xs Nw R T (upd L iA true) (upd u iA z) w2 := by
  have hS := h.noS hA
  have e1 : upd L iA true iB = true := (upd_other _ _ h12).trans hb
  have e2 : upd L iA true iA = true := upd_same ..
  have e3 : upd L iA true iS = false := (upd_other _ _ (Ne.symm h23)).trans hS
  refine ⟨(fun e => by rw [e3] at e; cases e), fun _ => ⟨e1, upd_mono hl⟩, h.S.trans (k.mono (by have := h.lo; have := h.hs; omega)), h.lo, h.hs, Nat.le_trans h.hB k.size, ?_, ?_, (fun _ e => by rw [e2] at e; cases e), hR, (fun e => by rw [e2] at e; cases e), upd_ch h.ch hj⟩
  · rw [if_neg (by rw [e3]; simp)]; exact (h.blk0 hS).below k h.hs
  · rw [if_pos e2, upd_same]; exact ⟨_, hnw, o⟩
theorem DM.put (h : DM ps iL iB iA iS w s B X f t n v len xs Nw R T L u w1) (h13 : iB ≠ iS) (h23 : iA ≠ iS) (hA : L iA = true) (hS : L iS = false) (hR : R (w1.setCell ⟨s, f, none⟩ (u iA))) (hj : ∀ p ∈ ps, p.1 = iS → L p.2 = true) :
    DM ps iL iB iA iS w s B X f t n v len xs Nw R T (upd L iS true) (upd u iS z) (w1.setCell ⟨s, f, none⟩ (u iA)) := by
  have hb := (h.cA hA).1
  have hl := (h.cA hA).2
  have e1 : upd L iS true iB = true := (upd_other _ _ h13).trans hb
  have e2 : upd L iS true iA = true := (upd_other _ _ h23).trans hA
  have e3 : upd L iS true iS = true := upd_same ..
  have f2 : upd u iS z iA = u iA := upd_other _ _ h23
  have k := kept_set w1 s f (u iA)
  have o := h.own
  rw [if_pos hA] at o
  refine ⟨fun _ => e2, fun _ => ⟨e1, upd_mono hl⟩, h.S.trans (k.oneB h.S.size h.lo), h.lo, h.hs, Nat.le_trans h.hB k.size, ?_, ?_, (fun _ e => by rw [e2] at e; cases e), hR, (fun e => by rw [e2] at e; cases e), upd_ch h.ch hj⟩
  · rw [if_pos e3, f2]; exact (h.blk0 hS).store f _
  · rw [if_pos e2, f2]
    obtain ⟨nn, hn, o⟩ := o
    exact ⟨nn, hn, ownB_kept o k h.hs⟩
theorem DM.done {N : Nat} (h : DM ps iL iB iA iS w s B X f t n v len xs Nw R T (fun j => decide (j < N)) u w1) (hS : iS < N) (hA : iA < N) : Blk w1 s (X.setIfInBounds f (u iA)) ∧ ∃ nn, Nw nn ∧ w1.ownsRow B t n (u iA) (len + 1) (xs ++ nn) := by
  have b := h.blk
  have o := h.own
  rw [if_pos (by simpa using hS)] at b
  rw [if_pos (by simpa using hA)] at o
  exact ⟨b, o⟩
end
end Go.Proofs.Ytldoedmclfbgpaa
namespace Go.Proofs.Ytldoedmclfbgpaa
open Go.RowKit

theorem elemDead : Elem Try.prog 23 86 3 24 := Elem.mk' (z := .agg #[.int .i64 0, .int .i64 0, .int .i64 0]) Try.underlying23 (by kernel_rfl) rfl (by omega) (by omega)
def RetLoad (w : World) (ok : Bool) (e : Ending) (w' : World) : Prop := ∃ p : Option Addr, e = .returned (.tuple #[.pointer p, .bool ok]) ∧ Below w.heap.size w w'
theorem shelf_bad {next : Int} {cards : List Card} {dead : List Dead} (h : ¬ (1 ≤ next ∧ next ≤ 1073741824 ∧ cards.length ≤ 48 ∧ dead.length ≤ 40)) : shelfOk next cards dead = false := by unfold shelfOk; rw [decide_eq_false h]; rfl
theorem shelf_good {next : Int} {cards : List Card} {dead : List Dead} (h : 1 ≤ next ∧ next ≤ 1073741824 ∧ cards.length ≤ 48 ∧ dead.length ≤ 40) : shelfOk next cards dead = (cardsOk next 0 cards && deadsOk next cards [] 0 dead) := by unfold shelfOk; rw [decide_eq_true h]; rfl
def cs (l : List CQ) : List Card := l.map CQ.c
theorem cs_len (l : List CQ) : (cs l).length = l.length := by unfold cs; simp
theorem cs_get {l : List CQ} {k : Nat} (h : k < l.length) : (cs l)[k]'(by rw [cs_len]; exact h) = l[k].c := by show (l.map CQ.c)[k]'(by simpa using h) = _; simp
/-- What one round says of a card. -/
theorem card_fin {next last : Int} {c : Card} {r z : Bool} (h : (cardAt next last c && r) = z) : (c.ok = false → z = false) ∧ (¬ last < c.id → z = false) ∧ (¬ c.id < next → z = false) ∧ (c.ok = true → last < c.id → c.id < next → r = z) := by
  unfold cardAt at h
  refine ⟨fun e => ?_, fun e => ?_, fun e => ?_, fun e1 e2 e3 => ?_⟩
  · rw [e] at h; simpa using h.symm
  · rw [decide_eq_false e] at h; simpa using h.symm
  · rw [decide_eq_false e] at h; simpa using h.symm
  · rw [e1, decide_eq_true e2, decide_eq_true e3] at h; simpa using h
/-- A card of a slice, cell by cell. -/
theorem CQ.at {w : World} {A : Option Addr} {c : Nat} {l : List CQ} (h : In 27 CQ.cells w A c l) {k : Nat} (hk : k < l.length) :
    ∃ b off, A = some ⟨b, off, none⟩ ∧ b < w.heap.size ∧ ∀ w', Below w.heap.size w w' → ∀ j u, (l[k].c.arr)[j]? = some u → w'.cell? ⟨b, off + k * 27 + j, none⟩ = some u := by
  obtain ⟨b, off, hA, hb, hrow⟩ := h.at hk
  refine ⟨b, off, hA, hb, fun w' hw j u hu => ?_⟩
  exact (hrow.below hw hb) k hk j u (by unfold CQ.cells; rw [Array.getElem?_toList]; exact hu)
/-- The shelf while cards are put on it. -/
structure SL (w w1 : World) (s m : Nat) (next : Int) (l : List CQ) : Prop where
  S : Below w.heap.size w w1
  lo : w.heap.size ≤ m
  ms : m < s
  blk : Blk w1 s #[.int .i64 next, .map (some m), .slice none 0 0]
  map : MapAt w1 m (esA l) l.length
theorem SL.below {w w1 w2 : World} {s m : Nat} {next : Int} {l : List CQ} (h : SL w w1 s m next l) (hb : Below w1.heap.size w1 w2) : SL w w2 s m next l := ⟨h.S.trans (hb.mono h.S.size), h.lo, h.ms, h.blk.below hb h.blk.lt, h.map.below hb h.map.lt⟩
/-- A block that is none of them turns. -/
theorem SL.kept {w w1 w2 : World} {s m g : Nat} {next : Int} {l : List CQ} (h : SL w w1 s m next l) (hg : w.heap.size ≤ g) (h1 : g ≠ s) (h2 : g ≠ m) (k : Kept (some g) w1.heap.size w1 w2) : SL w w2 s m next l :=
  ⟨h.S.trans (k.oneB h.S.size hg), h.lo, h.ms, h.blk.kept k h.blk.lt (fun e => by injection e with e; exact h1 e), h.map.kept k h.map.lt (fun e => by injection e with e; exact h2 e)⟩
theorem SL.ins {w w1 w2 : World} {s m : Nat} {next : Int} {l : List CQ} {x : CQ} (h : SL w w1 s m next l) (hm : MapAt w2 m ((esA l).push { key := .int .i64 x.c.id, val := .agg x.c.arr, born := l.length }) (l.length + 1)) (k : Kept (some m) w1.heap.size w1 w2) : SL w w2 s m next (l ++ [x]) := by
  refine ⟨h.S.trans (k.oneB h.S.size h.lo), h.lo, h.ms, h.blk.kept k h.blk.lt (fun e => by injection e with e; have := h.ms; omega), ?_⟩
  rw [esA_push] at hm
  rw [List.length_append]
  exact hm
/-- While a card is put in. -/
structure IM (w : World) (s m g : Nat) (next : Int) (l : List CQ) (x : CQ) (L : Nat → Bool) (u : Nat → Value) (w1 : World) : Prop where
  sl : SL w w1 s m next (if L 7 = true then l ++ [x] else l)
  box : Blk w1 g x.c.arr
theorem IM.pure {w w1 : World} {s m g : Nat} {next : Int} {l : List CQ} {x : CQ} {L : Nat → Bool} {u : Nat → Value} {j : Nat} {z : Value} (h : IM w s m g next l x L u w1) (hj : j ≠ 7) : IM w s m g next l x (upd L j true) (upd u j z) w1 := by
  have e : upd L j true 7 = L 7 := upd_other _ _ (Ne.symm hj)
  exact ⟨by rw [e]; exact h.sl, h.box⟩
theorem IM.sl0 {w w1 : World} {s m g : Nat} {next : Int} {l : List CQ} {x : CQ} {L : Nat → Bool} {u : Nat → Value} (h : IM w s m g next l x L u w1) (h7 : L 7 = false) : SL w w1 s m next l := by
  have := h.sl
  rwa [if_neg (by rw [h7]; simp)] at this
theorem hasCard_above {l : List Card} {last id : Int} (h : ∀ x ∈ l, x.id ≤ last) (hl : last < id) : hasCard l id = false := by
  unfold hasCard
  rw [List.any_eq_false]
  intro x hx
  have := h x hx
  simp
  omega
/-- The shelf while the dead are put on it. -/
structure SD (w w1 : World) (s m : Nat) (next : Int) (l : List CQ) (v : Value) (d : List Dead) : Prop where
  S : Below w.heap.size w w1
  lo : w.heap.size ≤ m
  ms : m < s
  blk : Blk w1 s #[.int .i64 next, .map (some m), v]
  map : MapAt w1 m (esA l) l.length
  own : w1.ownsRow (s + 1) 86 3 v d.length (d.flatMap Dead.cells)
theorem SD.below {w w1 w2 : World} {s m : Nat} {next : Int} {l : List CQ} {v : Value} {d : List Dead} (h : SD w w1 s m next l v d) (hb : Below w1.heap.size w1 w2) : SD w w2 s m next l v d := ⟨h.S.trans (hb.mono h.S.size), h.lo, h.ms, h.blk.below hb h.blk.lt, h.map.below hb h.map.lt, own_below h.own hb⟩
theorem SD.at_ {w w1 : World} {s m : Nat} {next : Int} {l : List CQ} {v : Value} {d : List Dead} (h : SD w w1 s m next l v d) (hd : d.length ≤ 4294967296) : ShelfAt w1 s m next l v d := by
  obtain ⟨A, c, hv, hi⟩ := In.of_own Dead.cells_len h.own hd
  exact ⟨h.blk, h.map, A, c, hv, hi⟩
end Go.Proofs.Ytldoedmclfbgpaa
namespace Go.Proofs.Ytldoedmclfbgpaa
open Go.RowKit

def grps (l : List GQ) : List Grp := l.map GQ.g
theorem grps_at {l : List GQ} {k : Nat} (h : k < l.length) (last : Int) : grpsOk last ((grps l).drop k) = ((decide (last < l[k].no ∧ l[k].no < 16) && idsOk 0 l[k].mem) && grpsOk l[k].no ((grps l).drop (k + 1))) := by
  have h2 : k < (grps l).length := by unfold grps; simpa using h
  rw [grpsOk_at h2]
  have : (grps l)[k] = l[k].g := by show (l.map GQ.g)[k]'(by simpa using h) = _; simp
  rw [this]
  rfl
theorem grps_end {l : List GQ} (last : Int) : grpsOk last ((grps l).drop l.length) = true := by
  rw [List.drop_of_length_le (by unfold grps; simp)]; rfl
theorem grp_cells {w : World} {b off k : Nat} {l : List GQ} (hrow : Row 2 GQ.cells w b off l) (h : k < l.length) : w.cell? ⟨b, off + k * 2, none⟩ = some (.int .i64 l[k].no) ∧ w.cell? ⟨b, off + k * 2 + 1, none⟩ = some (.slice l[k].A l[k].mem.length l[k].c) :=
  ⟨hrow k h 0 _ rfl, hrow k h 1 _ rfl⟩
/-- What one round makes of the rest. -/
theorem grp_fin {last no : Int} {a r z : Bool} (h : ((decide (last < no ∧ no < 16) && a) && r) = z) :
    (¬ (last < no ∧ no < 16) → z = false) ∧ (a = false → z = false) ∧ ((last < no ∧ no < 16) → a = true → r = z) := by
  refine ⟨fun e => ?_, fun e => ?_, fun e1 e2 => ?_⟩
  · rw [decide_eq_false e] at h; simpa using h.symm
  · rw [e] at h; simpa using h.symm
  · rw [decide_eq_true e1, e2] at h; simpa using h
set_option maxHeartbeats 1000000 in
theorem c_group_Check (l : List GQ) (A : Option Addr) (c : Nat) (w : World) (h : In 2 GQ.cells w A c l) (hm : ∀ x ∈ l, InI w x.A x.c x.mem) : Calls Try.prog 79 #[.slice A l.length c] w (RetV w (.bool (grpsOk (-1) (grps l)))) := by
  have hL := h.1
  have hC := h.2.1
  have hS := h.2.2.1
  have H := Lib.hid h
  have HM := Lib.hid hm
  clear h hm
  go_enter Try.func79, Try.ntmps79
  go_wp2_with (fail)
  go_loopw [3, 5, 8] (fun v _ i wr => ∃ (k : Nat) (last : Int), k ≤ l.length ∧ i = .int .i64 k ∧ v = .int .i64 last ∧ Hid (grpsOk last ((grps l).drop k) = grpsOk (-1) (grps l)) ∧ Hid (Below w.heap.size w wr)) (fun _ _ i _ => l.length - (intOf i).toNat)
  case atStart => exact ⟨0, -1, by omega, rfl, rfl, rfl, Below.refl _ _⟩
  case round =>
    obtain ⟨k, last, hk, rfl, rfl, R, S⟩ := hrel
    by_cases hlt : k < l.length
    · have d1 : decide ((k : Int) < (l.length : Int)) = true := by simp; omega
      obtain ⟨b, off, hA, hb, hrow⟩ := (H.out.below S.out).at hlt
      obtain ⟨e0, e1⟩ := grp_cells hrow hlt
      have HI := Lib.hid ((HM.out _ (List.getElem_mem hlt)).below S.out)
      have FIN := Lib.hid (grp_fin ((grps_at hlt last).symm.trans R.out))
      obtain ⟨x, hx⟩ : ∃ x, x = l[k] := ⟨_, rfl⟩
      rw [← hx] at e0 e1 FIN HI
      have hi1 : (0 : Int) ≤ (k : Int) := by omega
      have hi2 : (k : Int) < (l.length : Int) := by omega
      have hz := S.out.size
      clear hx hrow R
      subst hA
      by_cases h1 : last < x.no
      · by_cases h2 : x.no < 16
        · have t1 : decide (x.no ≤ last) = false := by simp; omega
          have t2 : decide (16 ≤ x.no) = false := by simp; omega
          have HRG := Lib.hid (show last < x.no ∧ x.no < 16 from ⟨h1, h2⟩)
          clear h1 h2
          cases hid : idsOk 0 x.mem
          · have R3 := Lib.hid (FIN.out.2.1 hid)
            go_wp2_with (go_at_call 126; refine (c_ids_Check x.mem x.A x.c _ (HI.out.alloc _)).mono ?_; rintro e w2 ⟨rfl, hb2⟩)
            go_ret
            exact RetV.bool R3.out.symm (S.out.trans ((((Below.refl _ wr).alloc (Nat.le_refl _) _).trans (hb2.mono (by simp))).mono hz))
          · have R3 := Lib.hid (FIN.out.2.2 HRG.out hid)
            go_wp2_with (go_at_call 126; refine (c_ids_Check x.mem x.A x.c _ (HI.out.alloc _)).mono ?_; rintro e w2 ⟨rfl, hb2⟩; have q2 := fun o => hb2.cell (p := ⟨wr.heap.size, o, none⟩) (by simp))
            go_roundw
            case rel => exact ⟨k + 1, x.no, by omega, by go_num, rfl, R3.out, S.out.trans ((((Below.refl _ wr).alloc (Nat.le_refl _) _).trans (hb2.mono (by simp))).mono hz)⟩
            case measure => simp [intOf]; omega
        · have t1 : decide (x.no ≤ last) = false := by simp; omega
          have t2 : decide (16 ≤ x.no) = true := by simp; omega
          have R3 := Lib.hid (FIN.out.1 (by omega))
          clear h1 h2
          go_wp2_with (fail)
          go_ret
          exact RetV.bool R3.out.symm (S.out.trans (by repeat (first | exact Below.refl _ _ | refine Below.drew ?_ | refine Below.alloc ?_ (by first | omega | (simp; done) | (simp; omega)) _ | refine Below.setCell ?_ (by first | omega | (simp; done) | (simp; omega)) _ | refine Below.trans ?_ (Below.mono (by assumption) (by first | omega | (simp; done) | (simp; omega))))))
      · have t1 : decide (x.no ≤ last) = true := by simp; omega
        have R3 := Lib.hid (FIN.out.1 (by omega))
        clear h1
        go_wp2_with (fail)
        go_ret
        exact RetV.bool R3.out.symm (S.out.trans (by repeat (first | exact Below.refl _ _ | refine Below.drew ?_ | refine Below.alloc ?_ (by first | omega | (simp; done) | (simp; omega)) _ | refine Below.setCell ?_ (by first | omega | (simp; done) | (simp; omega)) _ | refine Below.trans ?_ (Below.mono (by assumption) (by first | omega | (simp; done) | (simp; omega))))))
    · obtain rfl : k = l.length := by omega
      have d1 : decide ((l.length : Int) < (l.length : Int)) = false := by simp
      have R3 := Lib.hid (show grpsOk (-1) (grps l) = true by rw [← R.out]; exact grps_end last)
      go_wp2_with (fail)
      go_ret
      exact RetV.bool R3.out.symm S.out
set_option maxHeartbeats 1000000 in
theorem c_ref17_Check (l : List GQ) (A : Option Addr) (c : Nat) (w : World) (h : In 2 GQ.cells w A c l) (hm : ∀ x ∈ l, InI w x.A x.c x.mem) : Calls Try.prog 87 #[.slice A l.length c] w (RetV w (.bool (grpsOk (-1) (grps l)))) := by
  have hL := h.1
  have hC := h.2.1
  have hS := h.2.2.1
  have H := Lib.hid h
  have HM := Lib.hid hm
  clear h hm
  go_enter Try.func87, Try.ntmps87
  go_wp2_with (fail)
  go_loopw [3] (fun i wr => ∃ (k : Nat) (last : Int), k ≤ l.length ∧ i = .int .i64 k ∧ Hid ((k = 0 ∧ last = -1) ∨ (∃ h : k - 1 < l.length, 0 < k ∧ last = l[k - 1].no ∧ 0 ≤ last)) ∧ Hid (grpsOk last ((grps l).drop k) = grpsOk (-1) (grps l)) ∧ Hid (Below w.heap.size w wr)) (fun i _ => l.length - (intOf i).toNat)
  case atStart => exact ⟨0, -1, by omega, rfl, .inl ⟨rfl, rfl⟩, rfl, Below.refl _ _⟩
  case round =>
    obtain ⟨k, last, hk, rfl, PV, R, S⟩ := hrel
    by_cases hlt : k < l.length
    · have d1 : decide ((k : Int) < (l.length : Int)) = true := by simp; omega
      obtain ⟨b, off, hA, hb, hrow⟩ := (H.out.below S.out).at hlt
      obtain ⟨e0, e1⟩ := grp_cells hrow hlt
      have HI := Lib.hid ((HM.out _ (List.getElem_mem hlt)).below S.out)
      have FIN := Lib.hid (grp_fin ((grps_at hlt last).symm.trans R.out))
      obtain ⟨x, hx⟩ : ∃ x, x = l[k] := ⟨_, rfl⟩
      have NX : Hid (0 ≤ x.no → ∃ h : k + 1 - 1 < l.length, 0 < k + 1 ∧ x.no = l[k + 1 - 1].no ∧ 0 ≤ x.no) := Lib.hid (fun h1 => ⟨by omega, by omega, by rw [hx]; simp, h1⟩)
      rw [← hx] at e0 e1 FIN HI
      have hi1 : (0 : Int) ≤ (k : Int) := by omega
      have hi2 : (k : Int) < (l.length : Int) := by omega
      have hz := S.out.size
      clear hx R
      subst hA
      by_cases h1 : 0 ≤ x.no
      case neg =>
        have t1 : decide (x.no < 0) = true := by simp; omega
        have hlast : -1 ≤ last := by rcases PV.out with ⟨-, e⟩ | ⟨-, -, -, e⟩ <;> omega
        have R3 := Lib.hid (FIN.out.1 (by omega))
        clear h1 hrow hlast
        go_wp2_with (fail)
        refine wp_region_grow (by kernel_rfl) (by kernel_rfl) ?_
        repeat (go_big_quiet_step ((first | (fail))))
        refine wpQuiet_nil ?_
        intro w2 hb2
        have S2 := Lib.hid (S.out.trans (hb2.mono hz))
        clear hb2
        go_wp2_with (fail)
        go_ret
        exact RetV.bool R3.out.symm S2.out
      case pos =>
      have t1 : decide (x.no < 0) = false := by simp; omega
      by_cases h2 : x.no < 16
      case neg =>
        have t2 : decide (16 ≤ x.no) = true := by simp; omega
        have R3 := Lib.hid (FIN.out.1 (by omega))
        clear h1 h2 hrow
        go_wp2_with (fail)
        refine wp_region_grow (by kernel_rfl) (by kernel_rfl) ?_
        repeat (go_big_quiet_step ((first | (fail))))
        refine wpQuiet_nil ?_
        intro w2 hb2
        have S2 := Lib.hid (S.out.trans (hb2.mono hz))
        clear hb2
        go_wp2_with (fail)
        go_ret
        exact RetV.bool R3.out.symm S2.out
      case pos =>
      have t2 : decide (16 ≤ x.no) = false := by simp; omega
      have N3 := Lib.hid (NX.out h1)
      rcases PV.out with ⟨rfl, rfl⟩ | ⟨hp, h0k, hlast, h0l⟩
      · have z0 : decide ((0 : Int) < (0 : Int)) = false := by simp
        rw [Nat.zero_mul, Nat.add_zero] at e0 e1
        have HRG := Lib.hid (show (-1 : Int) < x.no ∧ x.no < 16 from ⟨by omega, h2⟩)
        clear hrow h1 h2
        cases hid : idsOk 0 x.mem
        · have R3 := Lib.hid (FIN.out.2.1 hid)
          go_wp2_with (fail)
          refine wp_region_grow (by kernel_rfl) (by kernel_rfl) ?_
          repeat (go_big_quiet_step ((first | (go_at_call 134; exact quiet_grow (c_ref07_Check x.mem x.A x.c _ (HI.out.grow _))))))
          refine wpQuiet_nil ?_
          intro w2 hb2
          have S2 := Lib.hid (S.out.trans (hb2.mono hz))
          clear hb2 hid
          go_wp2_with (fail)
          go_ret
          exact RetV.bool R3.out.symm S2.out
        · have R3 := Lib.hid (FIN.out.2.2 HRG.out hid)
          go_wp2_with (fail)
          refine wp_region_grow (by kernel_rfl) (by kernel_rfl) ?_
          repeat (go_big_quiet_step ((first | (go_at_call 134; exact quiet_grow (c_ref07_Check x.mem x.A x.c _ (HI.out.grow _))))))
          refine wpQuiet_nil ?_
          intro w2 hb2
          have S2 := Lib.hid (S.out.trans (hb2.mono hz))
          clear hb2 hid
          go_wp2_with (fail)
          go_roundw
          case rel => exact ⟨1, x.no, by omega, by go_num, .inr N3.out, R3.out, S2.out⟩
          case measure => simp [intOf]; omega
      · have z0 : decide ((0 : Int) < (k : Int)) = true := by simp; omega
        obtain ⟨m, hkm⟩ : ∃ m, m = k - 1 := ⟨_, rfl⟩
        have e2 : wr.cell? ⟨b, off + m * 2, none⟩ = some (.int .i64 last) := by have := (grp_cells hrow (show m < l.length by omega)).1; subst hkm; rw [hlast]; simpa using this
        have hm1 : (k : Int) - 1 = (m : Int) := by omega
        have hi3 : (0 : Int) ≤ (m : Int) := by omega
        have hi4 : (m : Int) < (l.length : Int) := by omega
        clear hrow hlast hp PV hkm
        by_cases h3 : last < x.no
        · have t3 : decide (x.no ≤ last) = false := by simp; omega
          have HRG := Lib.hid (show last < x.no ∧ x.no < 16 from ⟨h3, h2⟩)
          clear h1 h2 h3
          cases hid : idsOk 0 x.mem
          · have R3 := Lib.hid (FIN.out.2.1 hid)
            go_wp2_with (fail)
            refine wp_region_grow (by kernel_rfl) (by kernel_rfl) ?_
            repeat (go_big_quiet_step ((first | (go_at_call 134; exact quiet_grow (c_ref07_Check x.mem x.A x.c _ (HI.out.grow _))))))
            refine wpQuiet_nil ?_
            intro w2 hb2
            have S2 := Lib.hid (S.out.trans (hb2.mono hz))
            clear hb2 hid
            go_wp2_with (fail)
            go_ret
            exact RetV.bool R3.out.symm S2.out
          · have R3 := Lib.hid (FIN.out.2.2 HRG.out hid)
            go_wp2_with (fail)
            refine wp_region_grow (by kernel_rfl) (by kernel_rfl) ?_
            repeat (go_big_quiet_step ((first | (go_at_call 134; exact quiet_grow (c_ref07_Check x.mem x.A x.c _ (HI.out.grow _))))))
            refine wpQuiet_nil ?_
            intro w2 hb2
            have S2 := Lib.hid (S.out.trans (hb2.mono hz))
            clear hb2 hid
            go_wp2_with (fail)
            go_roundw
            case rel => exact ⟨k + 1, x.no, by omega, by go_num, .inr N3.out, R3.out, S2.out⟩
            case measure => simp [intOf]; omega
        · have t3 : decide (x.no ≤ last) = true := by simp; omega
          have R3 := Lib.hid (FIN.out.1 (by omega))
          clear h1 h2 h3
          go_wp2_with (fail)
          refine wp_region_grow (by kernel_rfl) (by kernel_rfl) ?_
          repeat (go_big_quiet_step ((first | (fail))))
          refine wpQuiet_nil ?_
          intro w2 hb2
          have S2 := Lib.hid (S.out.trans (hb2.mono hz))
          clear hb2
          go_wp2_with (fail)
          go_ret
          exact RetV.bool R3.out.symm S2.out
    · obtain rfl : k = l.length := by omega
      have d1 : decide ((l.length : Int) < (l.length : Int)) = false := by simp
      have R3 := Lib.hid (show grpsOk (-1) (grps l) = true by rw [← R.out]; exact grps_end last)
      go_wp2_with (fail)
      go_ret
      exact RetV.bool R3.out.symm S.out
end Go.Proofs.Ytldoedmclfbgpaa
namespace Go.Proofs.Ytldoedmclfbgpaa
open Go.RowKit

theorem wpQuiet_loadAt {P : Program} {ops : Array Oper} {C : World → Prop} {Q : Act → Prop} {o : Oper} {rest : List Oper} {a : Act} (hw : Region.wanted o (yielded ops a.tmps) = true) (ty : TypeId) (x : Operand) (ho : o.op = .load ty x)
    (g off : Nat) (hx : a.eval x = .pointer (some ⟨g, off, none⟩)) (cs : Array Value) (hcell : ∀ w, C w → ∀ (j : Nat) u, cs[j]? = some u → w.cell? ⟨g, off + j, none⟩ = some u) {n : Nat} (S : Str P ty n) (hn : cs.size = n)
    (h : wpQuiet P ops C Q rest (a.put o.dst (.agg cs))) : wpQuiet P ops C Q (o :: rest) a := by
  refine BigFrame.wpQuiet_want hw fun K hK => ⟨.agg cs, fun w hc => ?_, hK _ h⟩
  unfold Oper.quietAt execOp
  simp only [ho, hx, Instr.loadAt, Instr.sureAddr, Sem.run_bind, Sem.run_pure, Result.andThen_ok, run_loadVar_at g off cs ty (hcell w hc) S hn]
  exact ⟨rfl, rfl⟩
theorem CQ.id_at {w : World} {b off k : Nat} {l : List CQ} (hrow : Row 27 CQ.cells w b off l) (h : k < l.length) : w.cell? ⟨b, off + k * 27, none⟩ = some (.int .i64 l[k].c.id) :=
  hrow k h 0 _ (by unfold CQ.cells; rw [Array.getElem?_toList]; exact l[k].c.arr_head.1)
set_option maxHeartbeats 1000000 in
theorem c_ref18_place (next : Int) (l : List CQ) (A : Option Addr) (c : Nat) (v : Value) (id : Int) (w : World) (hc : In 27 CQ.cells w A c l) : Calls Try.prog 133 #[.agg #[.int .i64 next, .slice A l.length c, v], .int .i64 id] w (RetV w (.int .i64 (placeI id (cs l) 0))) := by
  have hL := hc.1
  have hC := hc.2.1
  have hS := hc.2.2.1
  have HC := Lib.hid hc
  have B0 := Lib.hid (At.new w 164 #[.int .i64 next, .slice A l.length c, v])
  clear hc
  go_enter Try.func133, Try.ntmps133
  go_wp2_with (fail)
  go_loopw [5] (fun i wr => ∃ k : Nat, k ≤ l.length ∧ i = .int .i64 k ∧ Hid (placeI id ((cs l).drop k) k = placeI id (cs l) 0) ∧ Hid (At w wr #[.int .i64 next, .slice A l.length c, v])) (fun i _ => l.length - (intOf i).toNat)
  case atStart => exact ⟨0, by omega, rfl, rfl, B0.out⟩
  case round =>
    clear B0
    obtain ⟨k, hk, rfl, R, X⟩ := hrel
    have q1 := X.out.2.cell (i := 1) rfl
    have bl := X.out.2.lt
    by_cases hlt : k < l.length
    · have d1 : decide ((k : Int) < (l.length : Int)) = true := by simp; omega
      obtain ⟨b, off, hA, hb, hrow⟩ := HC.out.at hlt
      have e0 := (X.out.1.cell (p := ⟨b, off + k * 27, none⟩) hb).trans (CQ.id_at hrow hlt)
      have R2 := Lib.hid (show (if l[k].c.id = id then (k : Int) else placeI id ((cs l).drop (k + 1)) (k + 1)) = placeI id (cs l) 0 by rw [← R.out, placeI_at (l := cs l) (k := k) id (by rw [cs_len]; exact hlt), cs_get hlt])
      obtain ⟨y, hy⟩ : ∃ y, y = l[k].c.id := ⟨_, rfl⟩
      rw [← hy] at e0 R2
      have hi1 : (0 : Int) ≤ (k : Int) := by omega
      have hi2 : (k : Int) < (l.length : Int) := by omega
      have hbw : b < wr.heap.size := Nat.lt_of_lt_of_le hb X.out.1.size
      clear hy hrow R
      subst hA
      by_cases h1 : y = id
      · have t1 : (y == id) = true := by simpa using h1
        have R3 := Lib.hid (show placeI id (cs l) 0 = (k : Int) by rw [← R2.out, if_pos h1])
        clear h1 R2
        go_wp2_with (fail)
        go_ret
        rw [R3.out]
        exact RetV.of rfl X.out.1
      · have t1 : (y == id) = false := by simpa using h1
        have R3 := Lib.hid (show placeI id ((cs l).drop (k + 1)) (k + 1) = placeI id (cs l) 0 by rw [← R2.out, if_neg h1])
        clear h1 R2
        go_wp2_with (fail)
        go_roundw
        case rel => exact ⟨k + 1, by omega, by go_num, R3.out, X.out⟩
        case measure => simp [intOf]; omega
    · obtain rfl : k = l.length := by omega
      have d1 : decide ((l.length : Int) < (l.length : Int)) = false := by simp
      have R3 := Lib.hid (show placeI id (cs l) 0 = -1 by rw [← R.out, List.drop_of_length_le (by rw [cs_len]; exact Nat.le_refl _)]; rfl)
      go_wp2_with (fail)
      go_ret
      rw [R3.out]
      exact RetV.of rfl X.out.1
end Go.Proofs.Ytldoedmclfbgpaa
namespace Go.Proofs.Ytldoedmclfbgpaa
open Go.RowKit

def hasI (l : List Int) (x : Int) : Bool := l.any fun y => decide (y = x)
def minusI (a b : List Int) : List Int := a.filter fun x => !hasI b x
set_option maxHeartbeats 400000 in
theorem c_ref07_Has (l : List Int) (A : Option Addr) (c : Nat) (x : Int) (w : World) (h : InI w A c l) : Calls Try.prog 135 #[.slice A l.length c, .int .i64 x] w (RetV w (.bool (hasI l x))) := by
  have hL := h.1
  have hC := h.2.1
  have hS := h.2.2.1
  have H := Lib.hid h
  clear h
  go_enter Try.func135, Try.ntmps135
  go_wp2_with (fail)
  go_loopw [5] (fun i wr => ∃ (k : Nat), k ≤ l.length ∧ i = .int .i64 k ∧ Hid (hasI (l.drop k) x = hasI l x) ∧ Hid (Below w.heap.size w wr)) (fun i _ => l.length - (intOf i).toNat)
  case atStart => exact ⟨0, by omega, rfl, rfl, Below.refl _ _⟩
  case round =>
    obtain ⟨k, hk, rfl, R, S⟩ := hrel
    by_cases hlt : k < l.length
    · have d1 : decide ((k : Int) < (l.length : Int)) = true := by simp; omega
      obtain ⟨b, off, hA, hb, hrow⟩ := (H.out.below S.out).at hlt
      have e0 : wr.cell? ⟨b, off + k, none⟩ = some (.int .i64 l[k]) := by have := hrow k hlt 0 _ rfl; simpa using this
      have R2 := Lib.hid (show (decide (l[k] = x) || hasI (l.drop (k + 1)) x) = hasI l x by rw [← R.out, drop_at hlt]; rfl)
      obtain ⟨y, hy⟩ : ∃ y, y = l[k] := ⟨_, rfl⟩
      rw [← hy] at e0 R2
      have hi1 : (0 : Int) ≤ (k : Int) := by omega
      have hi2 : (k : Int) < (l.length : Int) := by omega
      clear hy hrow R
      subst hA
      by_cases h1 : y = x
      · have t1 : (y == x) = true := by simpa using h1
        have R3 := Lib.hid (show hasI l x = true by rw [← R2.out, decide_eq_true h1]; rfl)
        clear h1
        go_wp2_with (fail)
        go_ret
        exact RetV.bool R3.out.symm S.out
      · have t1 : (y == x) = false := by simpa using h1
        have R3 := Lib.hid (show hasI (l.drop (k + 1)) x = hasI l x by rw [← R2.out, decide_eq_false h1]; rfl)
        clear h1
        go_wp2_with (fail)
        go_roundw
        case rel => exact ⟨k + 1, by omega, by go_num, R3.out, S.out⟩
        case measure => simp [intOf]; omega
    · obtain rfl : k = l.length := by omega
      have d1 : decide ((l.length : Int) < (l.length : Int)) = false := by simp
      have R3 := Lib.hid (show hasI l x = false by rw [← R.out, List.drop_length]; rfl)
      go_wp2_with (fail)
      go_ret
      exact RetV.bool R3.out.symm S.out
theorem minus_at {a b : List Int} {k : Nat} (h : k < a.length) : minusI (a.take (k + 1)) b = minusI (a.take k) b ++ (if hasI b a[k] then [] else [a[k]]) := by
  unfold minusI
  rw [List.take_succ_eq_append_getElem h, List.filter_append]
  cases e : hasI b a[k] <;> simp [e]
theorem minus_len (a b : List Int) : (minusI a b).length ≤ a.length := List.length_filter_le _ _
set_option maxHeartbeats 400000 in
theorem c_ref07_Minus (a b : List Int) (A B : Option Addr) (ca cb : Nat) (w : World) (ha : InI w A ca a) (hb : InI w B cb b) (hal : a.length ≤ 1000000) :
    Calls Try.prog 88 #[.slice A a.length ca, .slice B b.length cb] w (RetS 1 ic 3 w (minusI a b)) := by
  have hL := ha.1
  have hC := ha.2.1
  have hS := ha.2.2.1
  have HA := Lib.hid ha
  have HB := Lib.hid hb
  clear ha hb
  go_enter Try.func88, Try.ntmps88
  go_wp2_with (fail)
  have B0 := Lib.hid (show Below w.heap.size w (w.alloc (.cells #[] 3)) from (Below.refl _ _).alloc (Nat.le_refl _) _)
  have O0 := Lib.hid (World.ownsRow_lit w (e := 3) (size := 1) #[] 0 (Nat.le_refl _) (by unfold maxLen; omega) (by simp))
  go_loopw [5, 6] (fun v i wr => ∃ (k : Nat), k ≤ a.length ∧ i = .int .i64 k ∧ Hid (wr.ownsRow w.heap.size 3 1 v (minusI (a.take k) b).length ((minusI (a.take k) b).flatMap ic)) ∧ Hid (Below w.heap.size w wr)) (fun _ i _ => a.length - (intOf i).toNat)
  case atStart => exact ⟨0, by omega, rfl, O0.out, B0.out⟩
  case round =>
    clear B0 O0
    obtain ⟨k, hk, rfl, O, S⟩ := hrel
    obtain ⟨l, hl⟩ : ∃ l, l = minusI (a.take k) b := ⟨_, rfl⟩
    have hll : l.length ≤ 1000000 := by have := minus_len (a.take k) b; rw [← hl, List.length_take] at this; omega
    rw [← hl] at O
    have hz := S.out.size
    obtain ⟨A1, c1, rfl, -⟩ := own_form O.out
    by_cases hlt : k < a.length
    · have d1 : decide ((k : Int) < (a.length : Int)) = true := by simp; omega
      obtain ⟨bb, off, hA, hbb, hrow⟩ := HA.out.at hlt
      have e0 : w.cell? ⟨bb, off + k, none⟩ = some (.int .i64 a[k]) := by have := hrow k hlt 0 _ rfl; simpa using this
      have HM := Lib.hid (show minusI (a.take (k + 1)) b = l ++ (if hasI b a[k] then [] else [a[k]]) by rw [minus_at hlt, hl])
      obtain ⟨y, hy⟩ : ∃ y, y = a[k] := ⟨_, rfl⟩
      rw [← hy] at e0 HM
      have e1 := (S.out.cell (p := ⟨bb, off + k, none⟩) hbb).trans e0
      have hi1 : (0 : Int) ≤ (k : Int) := by omega
      have hi2 : (k : Int) < (a.length : Int) := by omega
      have hbb2 : bb < wr.heap.size := by omega
      clear hy hrow e0 hl
      subst hA
      go_wp2_with (fail)
      refine (c_ref07_Has b B cb y _ (HB.out.below S.out)).mono ?_
      rintro e w2 ⟨rfl, hb2⟩
      have e2 := (hb2.cell (p := ⟨bb, off + k, none⟩) hbb2).trans e1
      have hbb3 : bb < w2.heap.size := by have := hb2.size; omega
      replace O := Lib.hid (own_below O.out hb2)
      replace S := Lib.hid (S.out.trans (hb2.mono hz))
      have hz2 := S.out.size
      clear hb2 e1
      cases hh : hasI b y
      · have HM2 := Lib.hid (show minusI (a.take (k + 1)) b = l ++ [y] by rw [HM.out, hh]; rfl)
        clear hh
        go_wp2_with ((at_builtin; refine Stop.out ?_))
        refine Stop.mk (wpList_app _ rfl _ _ elemInt rfl w.heap.size (.slice A1 l.length c1) l.length _ rfl (own_below O.out ((Below.refl _ _).alloc (Nat.le_refl _) _)) _ 1 1 (ic y) rfl (Src.new w2 (ic y) _ 1 rfl) (by simp [ic, Value.oneCell']) (by omega) (by simp; omega) ?_)
        intro v3 w3 own3 _ hb3 _
        have S3 := Lib.hid (S.out.trans (Below.trans (b := w2.alloc (.cells #[.int .i64 y] 3)) ((Below.refl _ _).alloc hz2 _) hb3))
        have O3 := Lib.hid (show w3.ownsRow w.heap.size 3 1 v3 (minusI (a.take (k + 1)) b).length ((minusI (a.take (k + 1)) b).flatMap ic) by rw [HM2.out]; simpa [ic] using own3)
        clear own3 hb3
        go_wp2_with (fail)
        go_roundw
        case rel => exact ⟨k + 1, by omega, by go_num, O3.out, S3.out⟩
        case measure => simp [intOf]; omega
      · have O3 := Lib.hid (show w2.ownsRow w.heap.size 3 1 (.slice A1 l.length c1) (minusI (a.take (k + 1)) b).length ((minusI (a.take (k + 1)) b).flatMap ic) by rw [HM.out, hh]; simpa using O.out)
        clear hh
        go_wp2_with (fail)
        go_roundw
        case rel => exact ⟨k + 1, by omega, by go_num, O3.out, S.out⟩
        case measure => simp [intOf]; omega
    · obtain rfl : k = a.length := by omega
      have d1 : decide ((a.length : Int) < (a.length : Int)) = false := by simp
      have HL := Lib.hid (show l = minusI a b by rw [hl, List.take_length])
      clear hl
      go_wp2_with (fail)
      go_ret
      rw [← HL.out]
      exact ⟨_, rfl, O.out, S.out⟩
end Go.Proofs.Ytldoedmclfbgpaa
namespace Go.Proofs.Ytldoedmclfbgpaa
open Go.RowKit

theorem i64w {n : Int} (h0 : 0 ≤ n) (h : n ≤ 9223372036854775807) : IntKind.i64.wrap n = n := by
  simp [IntKind.wrap, IntKind.signed, IntKind.bits]; omega
theorem Card.row {p : Card} {w : World} {g : Nat} (h : Blk w g p.arr) {k : Nat} (hk : k < p.f.length) : w.cell? ⟨g, 3 + k * 3, none⟩ = some (.int .i64 p.f[k].kind) ∧ w.cell? ⟨g, 3 + k * 3 + 1, none⟩ = some (.int .i64 p.f[k].n) ∧ w.cell? ⟨g, 3 + k * 3 + 2, none⟩ = some (.string (str p.f[k].s)) := by
  obtain ⟨h0, h1, h2⟩ := Card.arr_val (c := p) hk
  exact ⟨h.cell h0, h.cell h1, h.cell h2⟩
theorem Card.part {p : Card} {w : World} {g : Nat} (h : Blk w g p.arr) (j : Nat) (u : Value) (hu : (farr p.f)[j]? = some u) : w.cell? ⟨g, 3 + j, none⟩ = some u := h.cell (by rw [Card.arr_tail]; exact hu)
set_option maxHeartbeats 2000000 in
set_option maxRecDepth 4000 in
theorem c_cardwire_PutCard (b : List UInt8) (B : Option Addr) (cb : Nat) (p : Card) (w : World) (hb : InB w B cb b) (hbl : b.length ≤ 1000000) (hf : p.f.length = 8) (hs : ∀ x ∈ p.f, x.s.length ≤ 4294967000) :
    Calls Try.prog 47 #[.slice B b.length cb, .agg p.arr] w (RetS 1 bc 5 w (b ++ cardB p)) := by
  have hL' := hb.1
  have hC' := hb.2.1
  obtain ⟨h0, h1, h2⟩ := p.arr_head
  have HF := Lib.hid hf
  have hsz : p.arr.size = 27 := by rw [Card.arr_size, hf]
  have HZ := Lib.hid hsz
  clear hsz
  by_cases hok : p.ok = true
  case neg =>
    have H : Hid (b = b ++ cardB p) := by show _ = _; rw [cardB_bad (by simpa using hok), List.append_nil]
    have hne : p.ok = false := by simpa using hok
    clear hok hf
    go_enter Try.func47, Try.ntmps47
    go_wp2_with (first
      | (with_reducible refine stop_load 39 (.tmp 3) rfl rfl ?_))
    refine Stop.mk (wpList_loadB rfl _ _ rfl w.heap.size rfl p.arr (Blk.new _ _ _) strC HZ.out ?_)
    go_wp2_with (first
      | (go_at_call 45; refine (c_Clone_b b B cb _ ((hb.below (by repeat (first | exact Below.refl _ _ | refine Below.drew ?_ | refine Below.alloc ?_ (by first | omega | (simp; done) | (simp; omega)) _ | refine Below.setCell ?_ (by first | omega | (simp; done) | (simp; omega)) _ | refine Below.trans ?_ (Below.mono (by assumption) (by first | omega | (simp; done) | (simp; omega)))))).below hb1)).mono ?_; rintro e w2 ⟨v2, rfl, own2, hb2⟩)
      | (go_at_call 82; refine (c_card_Check p _ HF.out hs).mono ?_; rintro e w1 ⟨rfl, hb1⟩; have hz1 := hb1.size; simp only [World.size_alloc] at hz1))
    go_ret
    exact RetS.of own2 (by omega) H.out (by repeat (first | exact Below.refl _ _ | refine Below.drew ?_ | refine Below.alloc ?_ (by first | omega | (simp; done) | (simp; omega)) _ | refine Below.setCell ?_ (by first | omega | (simp; done) | (simp; omega)) _ | refine Below.trans ?_ (Below.mono (by assumption) (by first | omega | (simp; done) | (simp; omega)))))
  obtain ⟨a1, a2, a3, a4, a5, a6⟩ := Card.ok_bds hok
  have a6' := Lib.hid a6
  have Hok := Lib.hid hok
  clear hf a6
  have hn1 := (num_len p.id).2
  have hn2 := (num_len p.ver).2
  have hn3 := (num_len p.lab).2
  have hn4 := (num_len (maskTo p.f 8)).2
  have EI : Elem Try.prog 87 3 1 8 := Elem.mk' (z := .int .i64 0) Try.underlying87 (by kernel_rfl) rfl (by omega) (by omega)
  have H : Hid (b ++ num p.id ++ num p.ver ++ num p.lab ++ num (maskTo p.f 8) ++ bodyF p.f ((kindsTo p.f 8).drop 0) = b ++ cardB p) := by show _ = _; rw [cardB_ok Hok.out, List.drop_zero]; simp
  go_enter Try.func47, Try.ntmps47
  go_wp2_with (first
    | (with_reducible refine stop_load 39 (.tmp 3) rfl rfl ?_))
  refine Stop.mk (wpList_loadB rfl _ _ rfl w.heap.size rfl p.arr (Blk.new _ _ _) strC HZ.out ?_)
  go_wp2_with (first
    | (with_reducible refine stop_load 37 (.tmp 15) rfl rfl ?_)
    | (go_at_call 82; refine (c_card_Check p _ HF.out hs).mono ?_; rintro e w1 ⟨rfl, hb1⟩; have hz1 := hb1.size; simp only [World.size_alloc] at hz1; have B1 := Lib.hid ((Blk.new w 39 p.arr).below hb1 (by simp)); have hb1' : Below w.heap.size w w1 := ((Below.refl _ _).alloc (Nat.le_refl _) _).trans (hb1.mono (by simp))))
  refine Stop.mk (wpList_loadAt rfl _ _ rfl w.heap.size 3 rfl (farr p.f) (Card.part B1.out) strF (by rw [farr_size, HF.out]) ?_)
  go_wp2
  go_loopw [5, 6, 7, 17] (fun v _ _ i wr => ∃ k : Nat, k ≤ 8 ∧ i = .int .i64 k ∧ Hid (wr.ownsRow (w.heap.size + 1) 3 1 v (kindsTo p.f k).length ((ints (kindsTo p.f k)).flatMap ic)) ∧ Below w.heap.size w wr ∧ Blk wr w.heap.size p.arr) (fun _ _ _ i _ => 8 - (intOf i).toNat)
  case atStart => exact ⟨0, by omega, rfl, World.ownsRow_nil _ _ _ _, hb1', B1.out⟩
  case round =>
    clear hb1 hb1' B1
    obtain ⟨k, hk, rfl, O, hbl', hB⟩ := hrel
    have hbz := hbl'.size
    have hzl := hB.lt
    by_cases hlt : k < 8
    · have hnf : k < p.f.length := by have := HF.out; omega
      have ki := fun w => index_farr HF.out k hlt w
      have hkl := kindsTo_len p.f k
      obtain ⟨A1, c1, rfl, hc1, hc2⟩ := own_form O.out
      by_cases hkd : p.f[k].kind = 0
      · have hx : (p.f[k].kind != 0) = false := by simp [hkd]
        have EK := Lib.hid (kindsTo_no (f := p.f) (k := k) (by rw [at8_eq hnf]; exact hkd))
        have HK := Lib.hid hkd
        clear hkd
        go_wp2
        go_roundw
        case rel => exact ⟨k + 1, by omega, by go_num, by show World.ownsRow _ _ _ _ _ _ _; rw [EK.out]; exact own_below O.out (by repeat (first | exact Below.refl _ _ | refine Below.drew ?_ | refine Below.alloc ?_ (by first | omega | (simp; done) | (simp; omega)) _ | refine Below.setCell ?_ (by first | omega | (simp; done) | (simp; omega)) _ | refine Below.trans ?_ (Below.mono (by assumption) (by first | omega | (simp; done) | (simp; omega))))), hbl'.trans (by repeat (first | exact Below.refl _ _ | refine Below.drew ?_ | refine Below.alloc ?_ (by first | omega | (simp; done) | (simp; omega)) _ | refine Below.setCell ?_ (by first | omega | (simp; done) | (simp; omega)) _ | refine Below.trans ?_ (Below.mono (by assumption) (by first | omega | (simp; done) | (simp; omega))))), hB.below ((Below.refl _ _).alloc (Nat.le_refl _) _) hB.lt⟩
        case measure => simp [intOf]; omega
      · have hx : (p.f[k].kind != 0) = true := by simpa using hkd
        have EK := Lib.hid (kindsTo_yes (f := p.f) (k := k) (by rw [at8_eq hnf]; exact hkd))
        clear hkd
        go_wp2_with ((at_builtin; refine Stop.out ?_))
        refine Stop.mk (wpList_app _ rfl (.tmp 24) (.tmp 26) EI rfl (w.heap.size + 1) (.slice A1 (kindsTo p.f k).length c1) (kindsTo p.f k).length ((ints (kindsTo p.f k)).flatMap ic) rfl (own_below (own_below O.out ((Below.refl _ _).alloc (Nat.le_refl _) _)) ((Below.refl _ _).alloc (Nat.le_refl _) _)) _ 1 1 [.int .i64 k] rfl (by have := Src.new (wr.alloc (.cells #[.int .i64 p.f[k].kind, .int .i64 p.f[k].n, .string (str p.f[k].s)] 36)) [.int .i64 k] 3 1 rfl; simpa using this) (by simp [Value.oneCell']) (by omega) ?_ ?_)
        · simp only [World.size_alloc]; omega
        intro v2 w2 own2 _ hb2 _
        have hb2' : Below w.heap.size w w2 := (hbl'.trans (by repeat (first | exact Below.refl _ _ | refine Below.drew ?_ | refine Below.alloc ?_ (by first | omega | (simp; done) | (simp; omega)) _ | refine Below.setCell ?_ (by first | omega | (simp; done) | (simp; omega)) _ | refine Below.trans ?_ (Below.mono (by assumption) (by first | omega | (simp; done) | (simp; omega)))))).trans (hb2.mono (by omega))
        have B2 := ((hB.below ((Below.refl _ _).alloc (Nat.le_refl _) _) hB.lt).below ((Below.refl _ _).alloc (Nat.le_refl _) (.cells #[.int .i64 k] 3)) (by simp; omega)).below hb2 (Nat.lt_succ_self _)
        go_wp2_with (fail)
        go_roundw
        case rel => exact ⟨k + 1, by omega, by go_num, by show World.ownsRow _ _ _ _ _ _ _; rw [EK.out]; simpa [ints, ic] using own2, hb2', B2⟩
        case measure => simp [intOf]; omega
    · have : k = 8 := by omega
      subst this
      go_wp2
      have hO := O.out
      rw [show (kindsTo p.f 8).length = (ints (kindsTo p.f 8)).length by simp] at hO
      obtain ⟨AL, cL, rfl, inL⟩ := In.of_own ic_len hO (by have := kindsTo_len p.f 8; simp; omega)
      clear hO
      have IL := Lib.hid inL
      have Bw := Lib.hid hB
      have q0 := hB.cell h0
      have q1 := hB.cell h1
      have q2 := hB.cell h2
      obtain ⟨l1, hl1⟩ : ∃ l1, l1 = b ++ num p.id := ⟨_, rfl⟩
      obtain ⟨l2, hl2⟩ : ∃ l2, l2 = l1 ++ num p.ver := ⟨_, rfl⟩
      obtain ⟨l3, hl3⟩ : ∃ l3, l3 = l2 ++ num p.lab := ⟨_, rfl⟩
      have hl1n : l1.length ≤ b.length + 7 := by rw [hl1]; simp only [List.length_append]; omega
      have hl2n : l2.length ≤ b.length + 14 := by rw [hl2]; simp only [List.length_append]; omega
      have hl3n : l3.length ≤ b.length + 21 := by rw [hl3]; simp only [List.length_append]; omega
      have L1 := Lib.hid hl1
      have L2 := Lib.hid hl2
      have L3 := Lib.hid hl3
      have H3 := Lib.hid (show l3 = b ++ num p.id ++ num p.ver ++ num p.lab by rw [hl3, hl2, hl1])
      clear hl1 hl2 hl3
      refine wp_region_rel [Sp.slice 1 bc b, Sp.eq (.pointer (some ⟨w.heap.size, 0, none⟩)), Sp.eq (.int .i64 p.id), Sp.slice 1 bc l1, Sp.eq (.pointer (some ⟨w.heap.size, 1, none⟩)), Sp.eq (.int .i64 p.ver), Sp.slice 1 bc l2,
        Sp.eq (.pointer (some ⟨w.heap.size, 2, none⟩)), Sp.eq (.int .u32 p.lab), Sp.eq (.int .i64 p.lab), Sp.slice 1 bc l3, Sp.slice 1 bc l3] 59 (by kernel_rfl) (by kernel_rfl) rfl rfl ?_ ?_
      · refine ⟨?_, ?_, ?_, ?_, ?_, ?_, ?_, ?_, ?_, ?_, ?_, ?_, trivial⟩
        all_goals (intro u w2 hb2 hd; simp [Deps, Region.binds, Sp.slice_holds, Sp.eq_holds] at hd; simp only [putDeps, dstOf, Region.binds])
        case refine_1 => go_wp2_with (fail); exact RelEnd.mk rfl (Below.refl _ _) ⟨B, cb, rfl, (hb.below (hbl'.trans (hb2.mono hbz)))⟩
        case refine_2 => go_wp2_with (fail); exact RelEnd.mk rfl (Below.refl _ _) rfl
        case refine_3 =>
          have q := (Bw.out.below hb2 Bw.out.lt).cell h0
          go_wp2_with (fail)
          exact RelEnd.mk rfl (Below.refl _ _) rfl
        case refine_4 =>
          obtain ⟨⟨A4, c4, d0, d1⟩, d2⟩ := hd
          go_wp2_with (go_at_call 46; refine (c_octet_Num b A4 c4 _ _ d1).mono ?_; rintro e w3 ⟨v3, rfl, own3, hb3⟩)
          rw [← L1.out] at own3
          exact RelEnd.mk rfl hb3 (In.of_own bc_len own3 (by omega))
        case refine_5 => go_wp2_with (fail); exact RelEnd.mk rfl (Below.refl _ _) rfl
        case refine_6 =>
          have q := (Bw.out.below hb2 Bw.out.lt).cell h1
          go_wp2_with (fail)
          exact RelEnd.mk rfl (Below.refl _ _) rfl
        case refine_7 =>
          obtain ⟨⟨A4, c4, d0, d1⟩, d2⟩ := hd
          go_wp2_with (go_at_call 46; refine (c_octet_Num l1 A4 c4 _ _ d1).mono ?_; rintro e w3 ⟨v3, rfl, own3, hb3⟩)
          rw [← L2.out] at own3
          exact RelEnd.mk rfl hb3 (In.of_own bc_len own3 (by omega))
        case refine_8 => go_wp2_with (fail); exact RelEnd.mk rfl (Below.refl _ _) rfl
        case refine_9 =>
          have q := (Bw.out.below hb2 Bw.out.lt).cell h2
          go_wp2_with (fail)
          exact RelEnd.mk rfl (Below.refl _ _) rfl
        case refine_10 => go_wp2_with (fail); exact RelEnd.mk rfl (Below.refl _ _) rfl
        case refine_11 =>
          obtain ⟨⟨A4, c4, d0, d1⟩, d2⟩ := hd
          go_wp2_with (go_at_call 46; refine (c_octet_Num l2 A4 c4 _ _ d1).mono ?_; rintro e w3 ⟨v3, rfl, own3, hb3⟩)
          rw [← L3.out] at own3
          exact RelEnd.mk rfl hb3 (In.of_own bc_len own3 (by omega))
        case refine_12 =>
          obtain ⟨⟨A4, c4, d0, d1⟩, -⟩ := hd
          go_wp2_with (fail)
          exact RelEnd.mk rfl (Below.refl _ _) ⟨A4, c4, rfl, d1⟩
      · intro u w2 hb2 hold
        simp only [RelHold, Sp.eq_holds, Sp.slice_holds] at hold
        obtain ⟨-, -, -, -, -, -, -, -, -, -, -, ⟨A3, c3, e3, in3⟩, -⟩ := hold
        have B2 := Lib.hid (Bw.out.below hb2 Bw.out.lt)
        have I2 := Lib.hid (IL.out.below hb2)
        have hbl2 : Below w.heap.size w w2 := hbl'.trans (hb2.mono hbz)
        have hmk : ∀ w', InI w' AL cL (ints (kindsTo p.f 8)) → Calls Try.prog 83 #[.bool false, .slice AL (kindsTo p.f 8).length cL] w' (RetV w' (.int .u32 ((maskTo p.f 8 : Nat) : Int))) := fun w' h => by
          have h' := c_mask_Make (ints (kindsTo p.f 8)) AL cL w' (fun n hn => by obtain ⟨k, hk, rfl⟩ := List.mem_map.1 hn; have := kindsTo_bd hk; simp; omega) h
          rw [List.length_map, show maskOf (ints (kindsTo p.f 8)) &&& 255 = maskTo p.f 8 from maskTo_255 p.f] at h'
          exact h'
        have hml := maskTo_lt p.f 8 (by omega)
        have hkl := kindsTo_len p.f 8
        have LL := Lib.hid (show (ints (kindsTo p.f 8)).length = (kindsTo p.f 8).length by simp)
        simp only [putAll, Act.put, Nat.reduceAdd, List.setIfInBounds_toArray, List.set_cons_zero, List.set_cons_succ]
        rw [e3, LL.out]
        have E3 := Lib.hid e3
        clear e3 q0 q1 q2 O hbl' hB
        go_wp2_with (first
          | (go_at_call 83; refine (hmk _ I2.out).mono ?_; rintro e w4 ⟨rfl, hb4⟩; have hz4 := hb4.size)
          | (go_at_call 46; refine (c_octet_Num l3 A3 c3 _ _ (in3.below hb4)).mono ?_; rintro e w6 ⟨v6, rfl, own6, hb6⟩; have hz6 := hb6.size; obtain ⟨l6, A6, c6, H6, hl6, rfl, in6, own6'⟩ := own_open bc_len own6 (b.length + 28) (by simp only [List.length_append]; omega) (by omega); clear own6))
        have hz2 := hbl2.size
        go_loopw [0, 9, 47] (fun v _ i wr => ∃ (k : Nat) (acc : List UInt8), k ≤ (kindsTo p.f 8).length ∧ acc.length ≤ b.length + 28 + k * 38 ∧ i = .int .i64 k ∧ Hid (wr.ownsRow w.heap.size 5 1 v acc.length (acc.flatMap bc)) ∧ Hid (acc ++ bodyF p.f ((kindsTo p.f 8).drop k) = b ++ cardB p) ∧ Below w.heap.size w wr ∧ Blk wr w.heap.size p.arr ∧ InI wr AL cL (ints (kindsTo p.f 8)))
          (fun _ _ i _ => (kindsTo p.f 8).length - (intOf i).toNat)
        case atStart => exact ⟨0, l6, by omega, by omega, rfl, Lib.hid (own_base own6'.out (by omega)), by show _ = _; rw [H6.out, H3.out]; exact H.out, hbl2.trans ((hb4.trans (hb6.mono hz4)).mono hz2), (B2.out.below hb4 B2.out.lt).below hb6 (by have := B2.out.lt; omega), (I2.out.below hb4).below hb6⟩
        case round =>
          obtain ⟨k, acc, hk, hac, rfl, O, N, hbl', hB, hI⟩ := hrel
          have hbz := hbl'.size
          clear hb4 hb6 own6' in6 in3
          by_cases hlt : k < (kindsTo p.f 8).length
          · obtain ⟨bl, off, rfl, hbb, hrow⟩ := hI.at (i := k) (by simpa using hlt)
            have hc0 := hrow k (by simpa using hlt) 0 _ rfl
            obtain ⟨n, hn⟩ : ∃ n, n = (kindsTo p.f 8)[k] := ⟨_, rfl⟩
            have hn8 : n < 8 := by rw [hn]; exact kindsTo_bd (List.getElem_mem hlt)
            have hin : (ints (kindsTo p.f 8))[k]'(by simpa using hlt) = (n : Int) := by simp [hn]
            rw [hin] at hc0
            simp only [Nat.mul_one, Nat.add_zero] at hc0
            have hnf : n < p.f.length := by have := HF.out; omega
            obtain ⟨d0, d1, d2⟩ := Card.row hB hnf
            have hs1 := hs _ (List.getElem_mem hnf)
            have hN := N.out
            rw [List.drop_eq_getElem_cons hlt, ← hn] at hN
            have HN := Lib.hid (show (acc ++ valB p.f[n]) ++ bodyF p.f ((kindsTo p.f 8).drop (k + 1)) = b ++ cardB p by rw [← hN, ← at8_eq hnf]; simp [bodyF])
            obtain ⟨A1, c1, rfl, in1⟩ := In.of_own bc_len O.out (by omega)
            have hvl := valB_len p.f[n]
            clear hN N hn hin hrow H O
            go_wp2_with (go_at_call 84; refine (c_cardwire_PutValue acc A1 c1 p.f[n] _ in1 (by omega) hs1).mono ?_; rintro e w8 ⟨v8, rfl, own8, hb8⟩)
            go_roundw
            case rel => exact ⟨k + 1, acc ++ valB p.f[n], by omega, by simp only [List.length_append]; omega, by go_num, Lib.hid (own_base own8 (by omega)), HN, hbl'.trans (hb8.mono hbz), hB.below hb8 hB.lt, hI.below hb8⟩
            case measure => simp [intOf]; omega
          · have hN := N.out
            rw [List.drop_of_length_le (by omega)] at hN
            have HN := Lib.hid hN
            obtain ⟨A1, c1, rfl, _, _⟩ := own_form O.out
            clear hN N H
            go_wp2_with (fail)
            go_ret
            exact RetS.of O.out (by omega) (by rw [← HN.out]; simp [bodyF]) hbl'
set_option maxHeartbeats 2000000 in
set_option maxRecDepth 4000 in
theorem c_ref08_PutCard (p : Card) (w : World) (hf : p.f.length = 8) (hs : ∀ x ∈ p.f, x.s.length ≤ 4294967000) :
    Calls Try.prog 50 #[.agg p.arr] w (RetV w (.string (str (cardB p)))) := by
  obtain ⟨h0, h1, h2⟩ := p.arr_head
  have HF := Lib.hid hf
  have hsz : p.arr.size = 27 := by rw [Card.arr_size, hf]
  have HZ := Lib.hid hsz
  clear hsz
  by_cases hok : p.ok = true
  case neg =>
    have H : Hid (([] : List UInt8) = cardB p) := by show _ = _; rw [cardB_bad (by simpa using hok)]
    have hne : p.ok = false := by simpa using hok
    clear hok hf
    go_enter Try.func50, Try.ntmps50
    go_wp2_with (first
      | (with_reducible refine stop_load 39 (.tmp 1) rfl rfl ?_))
    refine Stop.mk (wpList_loadB rfl _ _ rfl w.heap.size rfl p.arr (Blk.new _ _ _) strC HZ.out ?_)
    go_wp2_with (first
      | (go_at_call 89; refine (c_ref06_Check p _ HF.out hs).mono ?_; rintro e w1 ⟨rfl, hb1⟩; have hz1 := hb1.size; simp only [World.size_alloc] at hz1))
    go_ret
    exact RetV.str H.out (((Below.refl _ _).alloc (Nat.le_refl _) _).trans (hb1.mono (by simp)))
  obtain ⟨a1, a2, a3, a4, a5, a6⟩ := Card.ok_bds hok
  have a6' := Lib.hid a6
  have Hok := Lib.hid hok
  clear hf a6
  have hn1 := (num_len p.id).2
  have hn2 := (num_len p.ver).2
  have hn3 := (num_len p.lab).2
  have hn4 := (num_len (maskTo p.f 8)).2
  have H : Hid (num p.id ++ num p.ver ++ num p.lab ++ num (maskTo p.f 8) ++ bodyF p.f (kindsTo p.f 8) = cardB p) := by show _ = _; rw [cardB_ok Hok.out]
  go_enter Try.func50, Try.ntmps50
  go_wp2_with (first
    | (with_reducible refine stop_load 39 (.tmp 1) rfl rfl ?_))
  refine Stop.mk (wpList_loadB rfl _ _ rfl w.heap.size rfl p.arr (Blk.new _ _ _) strC HZ.out ?_)
  go_wp2_with (first
    | (go_at_call 89; refine (c_ref06_Check p _ HF.out hs).mono ?_; rintro e w1 ⟨rfl, hb1⟩; have hz1 := hb1.size; simp only [World.size_alloc] at hz1; have B1 := Lib.hid ((Blk.new w 39 p.arr).below hb1 (by simp)); have hb1' : Below w.heap.size w w1 := ((Below.refl _ _).alloc (Nat.le_refl _) _).trans (hb1.mono (by simp))))
  go_loopw [3, 4, 5] (fun m v i wr => ∃ (k : Nat) (acc : List UInt8), k ≤ 8 ∧ acc.length ≤ k * 38 ∧ i = .int .i64 k ∧ m = .int .u32 ((maskTo p.f k : Nat) : Int) ∧ v = .string (str acc) ∧ Hid (acc = bodyF p.f (kindsTo p.f k)) ∧ Below w.heap.size w wr ∧ Blk wr w.heap.size p.arr)
    (fun _ _ i _ => 8 - (intOf i).toNat)
  case atStart => exact ⟨0, [], by omega, by simp, rfl, rfl, rfl, Lib.hid rfl, hb1', B1.out⟩
  case round =>
    clear hb1 hb1' B1
    obtain ⟨k, acc, hk, hac, rfl, rfl, rfl, N, hbl', hB⟩ := hrel
    have hbz := hbl'.size
    by_cases hlt : k < 8
    · have hnf : k < p.f.length := by have := HF.out; omega
      obtain ⟨d0, d1, d2⟩ := Card.row hB hnf
      have hs1 := hs _ (List.getElem_mem hnf)
      have hvl := valB_len p.f[k]
      by_cases hkd : p.f[k].kind = 0
      · have hx : (p.f[k].kind != 0) = false := by simp [hkd]
        have hk0 : (at8 p.f k).kind = 0 := by rw [at8_eq hnf]; exact hkd
        have EM := Lib.hid (maskTo_no hk0)
        have HN := Lib.hid (show acc = bodyF p.f (kindsTo p.f (k + 1)) by rw [kindsTo_no hk0]; exact N.out)
        have HK := Lib.hid hkd
        clear hkd hk0 N H
        go_wp2
        go_roundw
        case rel => exact ⟨k + 1, acc, by omega, by omega, by go_num, by rw [EM.out], rfl, HN, hbl', hB⟩
        case measure => simp [intOf]; omega
      · have hx : (p.f[k].kind != 0) = true := by simpa using hkd
        have hk0 : (at8 p.f k).kind ≠ 0 := by rw [at8_eq hnf]; exact hkd
        have hml := maskTo_lt p.f k (by omega)
        have hmp : (2 : Nat) ^ k ≤ 2 ^ 8 := Nat.pow_le_pow_right (by omega) (by omega)
        have hml2 := maskTo_lt p.f (k + 1) (by omega)
        have hmp2 : (2 : Nat) ^ (k + 1) ≤ 2 ^ 8 := Nat.pow_le_pow_right (by omega) (by omega)
        have hm9 : maskTo p.f k < 256 := by omega
        have hm92 : maskTo p.f (k + 1) < 256 := by omega
        have hw : ∀ w', Calls Try.prog 38 #[.int .u32 (maskTo p.f k), .int .i64 k] w' (RetV w' (.int .u32 ((maskTo p.f (k + 1) : Nat) : Int))) := fun w' => by
          have h' := c_ref03_With (maskTo p.f k) k (by omega) (by omega) w'
          rw [maskTo_with (by omega) hk0, Int.emod_eq_of_lt (by omega) (by omega)] at h'
          exact h'
        have HN := Lib.hid (show acc ++ valB p.f[k] = bodyF p.f (kindsTo p.f (k + 1)) by rw [kindsTo_yes hk0, bodyF_snoc, N.out, at8_eq hnf])
        clear hkd hk0 N H hml hmp hml2 hmp2
        go_wp2_with (first
          | (go_at_call 90; refine (c_ref08_PutValue p.f[k] _ hs1).mono ?_; rintro e w8 ⟨rfl, hb8⟩)
          | (go_at_call 38; refine (hw _).mono ?_; rintro e w5 ⟨rfl, hb5⟩; have B5 := hB.below hb5 hB.lt; obtain ⟨e0, e1, e2⟩ := Card.row B5 hnf))
        go_roundw
        case rel => exact ⟨k + 1, acc ++ valB p.f[k], by omega, by simp only [List.length_append]; omega, by go_num, rfl, rfl, HN, hbl'.trans ((hb5.trans (hb8.mono hb5.size)).mono hbz), B5.below hb8 B5.lt⟩
        case measure => simp [intOf]; omega
    · have : k = 8 := by omega
      subst this
      have HN := Lib.hid (show num p.id ++ num p.ver ++ num p.lab ++ num (maskTo p.f 8) ++ acc = cardB p by rw [N.out]; exact H.out)
      have hml := maskTo_lt p.f 8 (by omega)
      have hml' : ((maskTo p.f 8 : Nat) : Int) ≤ 255 := by omega
      have q0 := hB.cell h0
      have q1 := hB.cell h1
      have q2 := hB.cell h2
      have hlt0 := hB.lt
      have b1 : ¬ 9223372036854775807 < (num p.id).length + (num p.ver).length := by omega
      have b2 : ¬ 9223372036854775807 < (num p.id).length + (num p.ver).length + (num p.lab).length := by omega
      have b3 : ¬ 9223372036854775807 < (num p.id).length + (num p.ver).length + (num p.lab).length + (num (maskTo p.f 8)).length := by omega
      have b4 : ¬ 9223372036854775807 < (num p.id).length + (num p.ver).length + (num p.lab).length + (num (maskTo p.f 8)).length + acc.length := by omega
      have b2' : ¬ 9223372036854775807 < (num p.id).length + ((num p.ver).length + (num p.lab).length) := by omega
      have b3' : ¬ 9223372036854775807 < (num p.id).length + ((num p.ver).length + (num p.lab).length) + (num (maskTo p.f 8)).length := by omega
      have b4' : ¬ 9223372036854775807 < (num p.id).length + ((num p.ver).length + ((num p.lab).length + (num (maskTo p.f 8)).length)) + acc.length := by omega
      have kw1 : IntKind.i64.wrap (p.lab : Int) = p.lab := i64w (by omega) (by omega)
      have kw2 : IntKind.i64.wrap ((maskTo p.f 8 : Nat) : Int) = maskTo p.f 8 := i64w (by omega) (by omega)
      clear N H
      go_wp2
      refine wp_region_grow (by kernel_rfl) (by kernel_rfl) ?_
      repeat (quiet_step ((first | (go_at_call 49; exact quiet_grow (c_ref01_Num _ _)))))
      refine wpQuiet_nil ?_
      intro w2 hb2
      go_wp2_with (fail)
      go_ret
      refine RetV.str ?_ (hbl'.trans (hb2.mono hbz))
      rw [← HN.out]
      simp
end Go.Proofs.Ytldoedmclfbgpaa
namespace Go.Proofs.Ytldoedmclfbgpaa
open Go.RowKit

def largeG (l : List GQ) : Bool := decide (40 < l.length) || l.any fun g => decide (100 < g.mem.length)
theorem large_def (b : BQ) : b.book.large = (decide (60 < b.cards.length) || (decide (60 < b.dead.length) || (largeG b.groups || b.cards.any fun c => longF c.c.f))) := by
  unfold Book.large BQ.book largeG
  simp only [List.length_map, List.any_map]
  rfl
set_option maxHeartbeats 1000000 in
theorem c_law17_Large (l : List GQ) (A : Option Addr) (c : Nat) (w : World) (h : RawS 2 GQ.cells w A c l) : Calls Try.prog 43 #[.slice A l.length c] w (RetV w (.bool (largeG l))) := by
  by_cases h40 : 40 < l.length
  · have d1 : decide (40 < (l.length : Int)) = true := by simp; omega
    have HG := Lib.hid (show largeG l = true by unfold largeG; rw [decide_eq_true h40]; rfl)
    have h1 := h.1
    have h2 := h.2.1
    clear h h40
    go_enter Try.func43, Try.ntmps43
    go_wp2_with (fail)
    go_ret
    rw [HG.out]
    exact RetV.of rfl (Below.refl _ _)
  · have hf := h.fit (by omega)
    have hL := hf.1
    have hC := hf.2.1
    have hS := hf.2.2.1
    have H := Lib.hid hf
    have d1 : decide (40 < (l.length : Int)) = false := by simp; omega
    have HG := Lib.hid (show largeG l = l.any fun g => decide (100 < g.mem.length) by unfold largeG; rw [decide_eq_false h40]; rfl)
    clear h hf
    go_enter Try.func43, Try.ntmps43
    go_wp2_with (fail)
    go_loopw [3] (fun i wr => ∃ k : Nat, k ≤ l.length ∧ i = .int .i64 k ∧ Hid ((l.drop k).any (fun g => decide (100 < g.mem.length)) = largeG l) ∧ Hid (Below w.heap.size w wr)) (fun i _ => l.length - (intOf i).toNat)
    case atStart => exact ⟨0, by omega, rfl, HG.out.symm, Below.refl _ _⟩
    case round =>
      obtain ⟨k, hk, rfl, R, S⟩ := hrel
      by_cases hlt : k < l.length
      · have d2 : decide ((k : Int) < (l.length : Int)) = true := by simp; omega
        obtain ⟨b, off, hA, hb, hrow⟩ := H.out.at hlt
        have e1 := (S.out.cell (p := ⟨b, off + k * 2 + 1, none⟩) hb).trans (grp_cells hrow hlt).2
        have R2 := Lib.hid (show (decide (100 < l[k].mem.length) || (l.drop (k + 1)).any fun g => decide (100 < g.mem.length)) = largeG l by rw [← R.out, List.drop_eq_getElem_cons hlt]; rfl)
        obtain ⟨x, hx⟩ : ∃ x, x = l[k] := ⟨_, rfl⟩
        rw [← hx] at e1 R2
        have hi1 : (0 : Int) ≤ (k : Int) := by omega
        have hi2 : (k : Int) < (l.length : Int) := by omega
        have hbw : b < wr.heap.size := Nat.lt_of_lt_of_le hb S.out.size
        clear hrow hx R
        subst hA
        by_cases h9 : 100 < x.mem.length
        · have t9 : decide (100 < (x.mem.length : Int)) = true := by simp; omega
          have RF := Lib.hid (show largeG l = true by rw [← R2.out, decide_eq_true h9]; rfl)
          clear h9
          go_wp2_with (fail)
          go_ret
          rw [RF.out]
          exact RetV.of rfl S.out
        · have t9 : decide (100 < (x.mem.length : Int)) = false := by simp; omega
          have R3 := Lib.hid (show ((l.drop (k + 1)).any fun g => decide (100 < g.mem.length)) = largeG l by rw [← R2.out, decide_eq_false h9]; rfl)
          clear h9
          go_wp2_with (fail)
          go_roundw
          case rel => exact ⟨k + 1, by omega, by go_num, R3.out, S.out⟩
          case measure => simp [intOf]; omega
      · obtain rfl : k = l.length := by omega
        have d2 : decide ((l.length : Int) < (l.length : Int)) = false := by simp
        have RF := Lib.hid (show largeG l = false by rw [← R.out, List.drop_length]; rfl)
        go_wp2_with (fail)
        go_ret
        rw [RF.out]
        exact RetV.of rfl S.out
set_option maxHeartbeats 2000000 in
theorem c_law20_Large (b : BQ) (w : World) (h : b.raw w) : Calls Try.prog 11 #[.agg b.arr] w (RetV w (.bool b.book.large)) := by
  rw [large_def]
  obtain ⟨seq, next, cards, dead, groups, A, a, D, d, G, g⟩ := b
  have h1 : RawS 27 CQ.cells w A a cards := h.cards
  have h2 : RawS 3 Dead.cells w D d dead := h.dead
  have h3 : RawS 2 GQ.cells w G g groups := h.groups
  clear h
  have hA1 := h1.1
  have hA2 := h1.2.1
  have hD1 := h2.1
  have hD2 := h2.2.1
  have hG1 := h3.1
  have hG2 := h3.2.1
  have HG := Lib.hid h3
  have B0 := Lib.hid (At.new w 26 #[.int .i64 seq, .int .i64 next, .slice A cards.length a, .slice D dead.length d, .slice G groups.length g])
  have q2 := B0.out.2.cell (i := 2) rfl
  have q3 := B0.out.2.cell (i := 3) rfl
  have q4 := B0.out.2.cell (i := 4) rfl
  unfold BQ.arr
  dsimp only
  clear h2 h3
  by_cases n1 : 60 < cards.length
  · have d1 : decide (60 < (cards.length : Int)) = true := by simp; omega
    have RF := Lib.hid (decide_eq_true n1)
    clear n1 h1
    go_enter Try.func11, Try.ntmps11
    go_wp2_with (fail)
    go_ret
    rw [RF.out]
    exact RetV.of rfl B0.out.1
  have d1 : decide (60 < (cards.length : Int)) = false := by simp; omega
  rw [decide_eq_false n1, Bool.false_or]
  have HC := Lib.hid (h1.fit (by omega))
  clear h1
  by_cases n2 : 60 < dead.length
  · have d2 : decide (60 < (dead.length : Int)) = true := by simp; omega
    have RF := Lib.hid (decide_eq_true n2)
    clear n1 n2
    go_enter Try.func11, Try.ntmps11
    go_wp2_with (fail)
    go_ret
    rw [RF.out]
    exact RetV.of rfl B0.out.1
  have d2 : decide (60 < (dead.length : Int)) = false := by simp; omega
  rw [decide_eq_false n2, Bool.false_or]
  clear n1 n2
  cases hg : largeG groups
  all_goals
    have HL := Lib.hid hg
    clear hg
    go_enter Try.func11, Try.ntmps11
    go_wp2_with (fail)
    refine (c_law17_Large groups G g _ (HG.out.below B0.out.1)).mono ?_
    rintro e w1 ⟨rfl, hb1⟩
    replace B0 := Lib.hid (B0.out.step hb1)
    rw [HL.out]
    clear hb1 q2 q3 q4
  rotate_left
  · go_wp2_with (fail)
    go_ret
    exact RetV.bool rfl B0.out.1
  · go_wp2_with (fail)
    go_loopw [3] (fun i wr => ∃ k : Nat, k ≤ cards.length ∧ i = .int .i64 k ∧ Hid ((cards.drop k).any (fun c => longF c.c.f) = cards.any (fun c => longF c.c.f)) ∧ Hid (At w wr #[.int .i64 seq, .int .i64 next, .slice A cards.length a, .slice D dead.length d, .slice G groups.length g])) (fun i _ => cards.length - (intOf i).toNat)
    case atStart => exact ⟨0, by omega, rfl, rfl, B0.out⟩
    case round =>
      clear B0
      obtain ⟨k, hk, rfl, R, X⟩ := hrel
      have q2 := X.out.2.cell (i := 2) rfl
      have bl := X.out.2.lt
      by_cases hlt : k < cards.length
      · have d3 : decide ((k : Int) < (cards.length : Int)) = true := by simp; omega
        obtain ⟨b, off, hA, hb, hat⟩ := CQ.at HC.out hlt
        have R2 := Lib.hid (show (longF cards[k].c.f || (cards.drop (k + 1)).any fun c => longF c.c.f) = cards.any (fun c => longF c.c.f) by rw [← R.out, List.drop_eq_getElem_cons hlt]; rfl)
        have HAT := Lib.hid (hat _ X.out.1)
        obtain ⟨x, hx⟩ : ∃ x, x = cards[k] := ⟨_, rfl⟩
        rw [← hx] at HAT R2
        have hi1 : (0 : Int) ≤ (k : Int) := by omega
        have hi2 : (k : Int) < (cards.length : Int) := by omega
        have hbw : b < wr.heap.size := Nat.lt_of_lt_of_le hb X.out.1.size
        clear hat hx R
        subst hA
        go_wp2_with (with_reducible refine stop_load 37 _ rfl rfl ?_)
        refine Stop.mk (wpList_loadAt rfl _ _ rfl b (off + k * 27 + 3) rfl (farr x.c.f) (fun j u hu => by
          have := HAT.out (3 + j) u (by rw [Card.arr_tail]; exact hu)
          rw [show off + k * 27 + 3 + j = off + k * 27 + (3 + j) by omega]; exact this) strF (by rw [farr_size, x.wf]) ?_)
        go_wp2_with (fail)
        refine (c_Large x.c.f _ x.wf).mono ?_
        rintro e w2 ⟨rfl, hb2⟩
        replace X := Lib.hid (X.out.step hb2)
        clear hb2 q2 bl HAT
        cases hl : longF x.c.f
        all_goals
          have HL2 := Lib.hid hl
          clear hl
          go_wp2_with (fail)
        · have R3 := Lib.hid (show ((cards.drop (k + 1)).any fun c => longF c.c.f) = cards.any (fun c => longF c.c.f) by rw [← R2.out, HL2.out]; rfl)
          go_roundw
          case rel => exact ⟨k + 1, by omega, by go_num, R3.out, X.out⟩
          case measure => simp [intOf]; omega
        · have RF := Lib.hid (show cards.any (fun c => longF c.c.f) = true by rw [← R2.out, HL2.out]; rfl)
          go_ret
          exact RetV.bool (by rw [RF.out]; rfl) X.out.1
      · obtain rfl : k = cards.length := by omega
        have d3 : decide ((cards.length : Int) < (cards.length : Int)) = false := by simp
        have RF := Lib.hid (show cards.any (fun c => longF c.c.f) = false by rw [← R.out, List.drop_length]; rfl)
        go_wp2_with (fail)
        go_ret
        exact RetV.bool (by rw [RF.out]; rfl) X.out.1
end Go.Proofs.Ytldoedmclfbgpaa
