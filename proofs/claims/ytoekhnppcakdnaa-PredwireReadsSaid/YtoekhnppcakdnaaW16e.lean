/-
  The walk of the statement PredwireReads: it answers true, whatever the bytes.
-/
import Derived.Test.YtoekhnppcakdnaaW16b
import Derived.Test.YtoekhnppcakdnaaW16d
import Derived.Test.YtoekhnppcakdnaaW10h
import Derived.Test.YtoekhnppcakdnaaW01d
import Derived.Test.YtoekhnppcakdnaaW01f
import Derived.Deep.RegionWith
namespace Go.Proofs.Ytoekhnppcakdnaa
open Go.RowKit

set_option maxHeartbeats 400000 in
theorem c_law16_PredwireReads_long (n : Nat) (A : Option Addr) (c : Nat) (w : World) (hn : 1000 < n) (hL : n ≤ c) (hC : c ≤ 9223372036854775807) :
    Calls Try.prog 9 #[.slice A n c] w (RetV w (.bool true)) := by
  go_enter Try.func9, Try.ntmps9
  go_wp2_with (go_at_call 32; refine (c_law16_awake _).mono ?_; rintro e w2 ⟨rfl, hb2⟩)
  go_ret
  exact RetV.bool rfl (by repeat (first | exact Below.refl _ _ | refine Below.drew ?_ | refine Below.alloc ?_ (by first | omega | (simp; done) | (simp; omega)) _ | refine Below.setCell ?_ (by first | omega | (simp; done) | (simp; omega)) _ | refine Below.trans ?_ (Below.mono (by assumption) (by first | omega | (simp; done) | (simp; omega)))))
theorem In.own {α : Type} {k : Nat} {cs : α → List Value} {w : World} {base : Nat} {e : TypeId} {A : Option Addr} {c : Nat} {l : List α} (hk : ∀ x, (cs x).length = k) (h : w.ownsRow base e k (.slice A l.length c) l.length (l.flatMap cs)) (hs : l.length ≤ 4294967296) : In k cs w A c l := by
  obtain ⟨A', c', hv, hin⟩ := In.of_own hk h hs
  injection hv with e1 _ e2
  subst e1 e2
  exact hin
theorem RdR.e {w : World} {h : Nat} {st : Rd} (r : RdR w h st) : w.cell? ⟨h, 1, none⟩ = some (.int .i64 st.e) := r.1.cell rfl
theorem RdR.s {w : World} {h : Nat} {st : Rd} (r : RdR w h st) : w.cell? ⟨h, 0, none⟩ = some (.string (str st.s)) := r.1.cell rfl
/-- Behind both readers' calls. -/
def Both (w0 w : World) (g h : Nat) (st : Rd) : Prop := RdP w (some g) st ∧ RdR w h st ∧ Below w0.heap.size w0 w
theorem Both.below {w0 w w' : World} {g h : Nat} {st : Rd} (b : Both w0 w g h st) (hb : Below w.heap.size w w') : Both w0 w' g h st := ⟨b.1.below hb, b.2.1.below hb, b.2.2.trans (hb.mono b.2.2.size)⟩
section
variable {α : Type} {k : Nat} {cs : α → List Value} {et : TypeId} {w0 w w2 w3 : World} {g h : Nat} {st st' : Rd} {v : Value} {l : List α}
theorem read_one (own : w2.ownsRow w.heap.size et k v l.length (l.flatMap cs)) (hrp : RdP w2 (some g) st') (hk : Kept (some g) w.heap.size w w2) (hrr : RdR w h st) (hne : some g ≠ some h) (hb : Below w0.heap.size w0 w) (hz : w0.heap.size ≤ w.heap.size) (hg : ∀ x, some g = some x → w0.heap.size ≤ x)
    (hl : l.length ≤ 4294967296) (hnb : ∀ x, some h = some x → x < w.heap.size) :
    ∃ A c, v = .slice A l.length c ∧ Hid (RdP w2 (some g) st' ∧ RdR w2 h st ∧ Below w0.heap.size w0 w2 ∧ w2.ownsRow w.heap.size et k (.slice A l.length c) l.length (l.flatMap cs) ∧ ∀ x, some h = some x → x < w.heap.size) := by
  obtain ⟨A, c, rfl, _, _⟩ := own_form own
  exact ⟨A, c, rfl, hrp, hrr.kept hk hne, hb.trans (hk.below hz hg), own, hnb⟩
theorem read_two {et' : TypeId} {A : Option Addr} {c : Nat} {b : Nat} (hk0 : ∀ x, (cs x).length = k) (own : w3.ownsRow w2.heap.size et k v l.length (l.flatMap cs)) (hrr : RdR w3 h st') (hk : Kept (some h) w2.heap.size w2 w3)
    (F : RdP w2 (some g) st' ∧ RdR w2 h st ∧ Below w0.heap.size w0 w2 ∧ w2.ownsRow b et' k (.slice A l.length c) l.length (l.flatMap cs) ∧ ∀ x, some h = some x → x < b)
    (hgh : ∀ x y, some g = some x → some h = some y → x < y) (hg : ∀ x, some h = some x → w0.heap.size ≤ x) (hl : l.length ≤ 4294967296) :
    ∃ A' c', v = .slice A' l.length c' ∧ Hid (In k cs w3 A c l ∧ In k cs w3 A' c' l ∧ Both w0 w3 g h st') := by
  obtain ⟨f1, f2, f3, f4, f5⟩ := F
  obtain ⟨A', c', rfl, hin⟩ := In.of_own hk0 own hl
  exact ⟨A', c', rfl, In.own hk0 (own_kept f4 hk f5) hl, hin, f1.kept hk hgh, hrr, f3.trans (hk.below f3.size hg)⟩
end
theorem rdPred_len (st : Rd) : (rdPred st).length ≤ 31 := by
  unfold rdPred
  split
  · exact pdL_len st
  · simp
set_option maxHeartbeats 2000000 in
set_option maxRecDepth 4000 in
theorem c_law16_PredwireReads (b : List UInt8) (A : Option Addr) (c : Nat) (w : World) (h : InB w A c b) (hb : b.length ≤ 1000) :
    Calls Try.prog 9 #[.slice A b.length c] w (RetV w (.bool true)) := by
  have hL := h.1
  have hC := h.2.1
  have hS := h.2.2.1
  have H := Lib.hid h
  clear h
  go_enter Try.func9, Try.ntmps9
  go_wp2_with (fail)
  refine (c_octet_New b A c _ H.out).mono ?_
  rintro e w1 ⟨g, rfl, hg, hr1, hb1⟩
  have hz1 := hb1.size
  have hgl := hr1.lt rfl
  have kb := conv_str (P := Try.prog) w1 Try.underlying48 Try.underlying5 Try.underlying9 (H.out.below hb1)
  go_wp2_with (fail)
  have hgh : g < w1.heap.size := hgl
  go_loopw [5] (fun i wr => ∃ (k : Nat) (st : Rd), k ≤ 3 ∧ i = .int .i64 k ∧ RdP wr (some g) st ∧ RdR wr w1.heap.size st ∧ Below w.heap.size w wr)
    (fun i _ => 3 - (intOf i).toNat)
  case atStart => exact ⟨0, ⟨b, 0⟩, by omega, rfl, hr1.below ((Below.refl _ _).alloc (Nat.le_refl _) _), ⟨Blk.new _ _ _, by simp only; omega⟩, (by repeat (first | exact Below.refl _ _ | refine Below.drew ?_ | refine Below.alloc ?_ (by first | omega | (simp; done) | (simp; omega)) _ | refine Below.setCell ?_ (by first | omega | (simp; done) | (simp; omega)) _ | refine Below.trans ?_ (Below.mono (by assumption) (by first | omega | (simp; done) | (simp; omega)))))⟩
  case round =>
    obtain ⟨k, st, hk3, rfl, hrp, hrr, hbl⟩ := hrel
    have hz := hbl.size
    have hne : some g ≠ some w1.heap.size := by simp; omega
    have hnb : ∀ x, some w1.heap.size = some x → x < wr.drew.heap.size := fun x e => by injection e with e; have := hrr.lt; show x < wr.heap.size; omega
    have hgh2 : ∀ x y, some g = some x → some w1.heap.size = some y → x < y := fun x y e1 e2 => by injection e1 with e1; injection e2 with e2; omega
    have hg2 : ∀ x, some g = some x → w.heap.size ≤ x := fun x e => by injection e with e; omega
    have hg3 : ∀ x, some w1.heap.size = some x → w.heap.size ≤ x := fun x e => by injection e with e; omega
    by_cases hlt : k < 3
    · have hd : decide ((k : Int) < 3) = true := by simp; omega
      have hl1 := rdPred_len st
      have HZ : Hid (w.heap.size ≤ wr.drew.heap.size) := hz
      have HK := Lib.hid hk3
      have HLT := Lib.hid hlt
      have HNE := Lib.hid hne
      have HG2 := Lib.hid hg2
      have HG3 := Lib.hid hg3
      have HNB := Lib.hid hnb
      have HGH := Lib.hid hgh2
      have HB := Lib.hid hbl.drew
      have HRP := Lib.hid (hrp.below (Below.refl _ _).drew)
      have HRR := Lib.hid (hrr.below (Below.refl _ _).drew)
      clear hlt hr1 kb H hb hb1 hgl hgh hL hC hS hz1 hz hne hg2 hg3 hnb hgh2 hbl hrp hrr
      go_wp2_with (fail)
      go_region_with (first
        | (go_at_call 45; refine (c_predwire_Read (some g) st _ HRP.out).mono ?_; rintro e w2 ⟨v2, rfl, own2, hrp2, hk2⟩; have hf := read_one own2 hrp2 hk2 HRR.out HNE.out HB.out HZ.out HG2.out (by omega) HNB.out; clear own2 hrp2 hk2; obtain ⟨A2, c2, rfl, F2⟩ := hf)
        | (go_at_call 46; refine (c_ref16_Read w1.heap.size st _ F2.out.2.1).mono ?_; rintro e w3 ⟨v3, rfl, own3, hrr3, hk3⟩; have hf := read_two Node.cells_len own3 hrr3 hk3 F2.out HGH.out HG3.out (by omega); clear own3 hrr3 hk3; obtain ⟨A3, c3, rfl, F3⟩ := hf)
        | (go_at_call 41; refine (c_ref10_Same _ _ A2 A3 c2 c3 _ F3.out.1 F3.out.2.1).mono ?_; rintro e w4 ⟨rfl, hb4⟩; rw [decide_eq_true (rfl : rdPred st = rdPred st)]; have F4 := Lib.hid (F3.out.2.2.below hb4); clear hb4; have c41 := F4.out.2.1.e; have c40 := F4.out.2.1.s)
        | (go_at_call 47; refine (c_octet_Err' (some g) _ _ F4.out.1).mono ?_; rintro e w5 ⟨rfl, hb5⟩; have F5 := Lib.hid (F4.out.below hb5); clear hb5 c41 c40; have c51 := F5.out.2.1.e; have c50 := F5.out.2.1.s)
        | (go_at_call 48; refine (c_octet_Left' (some g) _ _ F5.out.1).mono ?_; rintro e w6 ⟨rfl, hb6⟩; have F6 := Lib.hid (F5.out.below hb6); clear hb6 c51 c50; have c61 := F6.out.2.1.e; have c60 := F6.out.2.1.s))
      all_goals
        go_wp2_with (fail)
        go_roundw
        case rel => exact ⟨k + 1, rdPred' st, by have := HLT.out; omega, by go_num, F6.out.1, F6.out.2.1, F6.out.2.2⟩
        case measure => have := HLT.out; simp [intOf]; omega
    · have hd : decide ((k : Int) < 3) = false := by simp; omega
      have hnil := c_predwire_Read none ⟨[], 1⟩ wr (RdP.nilmk wr)
      have hn0 : rdPred ⟨[], 1⟩ = [] := by decide +kernel
      clear hr1 kb
      go_wp2_with (fail)
      refine hnil.mono ?_
      rintro e w2 ⟨v2, rfl, own2, _, hk2⟩
      rw [hn0] at own2
      obtain ⟨A2, c2, rfl, _, _⟩ := own_form own2
      have hz2 := hk2.size
      have hb2 : Below wr.heap.size wr w2 := hk2.below (Nat.le_refl _) (fun _ h => by cases h)
      go_wp2_with (go_at_call 32; refine (c_law16_awake _).mono ?_; rintro e w3 ⟨rfl, hb3⟩)
      go_ret
      exact RetV.bool rfl (by repeat (first | exact Below.refl _ _ | refine Below.drew ?_ | refine Below.alloc ?_ (by first | omega | (simp; done) | (simp; omega)) _ | refine Below.setCell ?_ (by first | omega | (simp; done) | (simp; omega)) _ | refine Below.trans ?_ (Below.mono (by assumption) (by first | omega | (simp; done) | (simp; omega)))))
end Go.Proofs.Ytoekhnppcakdnaa
