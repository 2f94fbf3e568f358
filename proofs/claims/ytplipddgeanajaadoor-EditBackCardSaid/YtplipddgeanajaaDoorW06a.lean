/-
  The walks of chapter 6's functions: which cards and patches may be.
-/
import Derived.Test.YtplipddgeanajaaDoorCrd
import Derived.Test.YtplipddgeanajaaDoorW04a
import Derived.Test.YtplipddgeanajaaDoorW03m
import Derived.Test.YtplipddgeanajaaDoorRd
namespace Go.Proofs.YtplipddgeanajaaDoor
open Go.RowKit

def longF (f : List Val) : Bool := f.any fun x => decide (200 < x.s.length)
set_option maxHeartbeats 400000 in
theorem c_Large (f : List Val) (w : World) (hf : f.length = 8) : Calls Tryd.prog 12 #[.agg (farr f)] w (RetV w (.bool (longF f))) := by
  go_enter Tryd.func12, Tryd.ntmps12
  go_wp2
  go_loopw [3] (fun i wr => ∃ k : Nat, k ≤ 8 ∧ i = .int .i64 k ∧ (f.take k).any (fun x => decide (200 < x.s.length)) = false ∧ wr = w.alloc (.cells (farr f) 25)) (fun i _ => 8 - (intOf i).toNat)
  case atStart => exact ⟨0, by omega, rfl, rfl, rfl⟩
  case round =>
    obtain ⟨k, hk, rfl, hno, rfl⟩ := hrel
    have NO := Lib.hid hno
    clear hno
    by_cases hlt : k < 8
    · obtain ⟨c0, c1, c2⟩ := farr_get (f := f) (k := k) (by omega)
      have T := Lib.hid (show f.take (k + 1) = f.take k ++ [f[k]'(by omega)] from List.take_succ_eq_append_getElem (by omega))
      have M := Lib.hid (List.getElem_mem (l := f) (n := k) (by omega))
      by_cases hb : 200 < (f[k]'(by omega)).s.length
      · go_wp2
        go_ret
        refine RetV.bool ?_ (by repeat (first | exact Below.refl _ _ | refine Below.drew ?_ | refine Below.alloc ?_ (by first | omega | (simp; done) | (simp; omega)) _ | refine Below.setCell ?_ (by first | omega | (simp; done) | (simp; omega)) _ | refine Below.trans ?_ (Below.mono (by assumption) (by first | omega | (simp; done) | (simp; omega)))))
        symm
        exact List.any_eq_true.2 ⟨_, M.out, by simpa using hb⟩
      · go_wp2
        go_roundw
        case rel => exact ⟨k + 1, by omega, by go_num, by rw [T.out, List.any_append, NO.out]; simpa using hb, by first | rfl | trivial⟩
        case measure => simp [intOf]; omega
    · have : k = 8 := by omega
      subst this
      go_wp2
      go_ret
      refine RetV.bool ?_ (by repeat (first | exact Below.refl _ _ | refine Below.drew ?_ | refine Below.alloc ?_ (by first | omega | (simp; done) | (simp; omega)) _ | refine Below.setCell ?_ (by first | omega | (simp; done) | (simp; omega)) _ | refine Below.trans ?_ (Below.mono (by assumption) (by first | omega | (simp; done) | (simp; omega)))))
      have := NO.out
      rw [List.take_of_length_le (by omega)] at this
      exact this.symm
def vals (f : List Val) : Bool := f.all Val.ok
def Card.ok (c : Card) : Bool := decide (1 ≤ c.id) && decide (c.id < 1073741824) && decide (1 ≤ c.ver) && decide (c.ver ≤ 1099511627776) && decide (c.lab < 65536) && vals c.f
theorem Card.ok_bad {c : Card} (h : ¬ (1 ≤ c.id ∧ c.id < 1073741824 ∧ 1 ≤ c.ver ∧ c.ver ≤ 1099511627776 ∧ c.lab < 65536)) : c.ok = false := by
  unfold Card.ok
  cases hv : vals c.f
  · simp
  · simp; omega
theorem Card.ok_head {c : Card} (h : 1 ≤ c.id ∧ c.id < 1073741824 ∧ 1 ≤ c.ver ∧ c.ver ≤ 1099511627776 ∧ c.lab < 65536) : c.ok = vals c.f := by
  unfold Card.ok
  simp [h]
set_option maxHeartbeats 1000000 in
theorem ref06_Check_bad (c : Card) (w : World) (h : ¬ (1 ≤ c.id ∧ c.id < 1073741824 ∧ 1 ≤ c.ver ∧ c.ver ≤ 1099511627776 ∧ c.lab < 65536)) : Calls Tryd.prog 167 #[.agg c.arr] w (RetV w (.bool c.ok)) := by
  obtain ⟨h0, h1, h2⟩ := c.arr_head
  have E := Lib.hid (Card.ok_bad h)
  have H := Lib.hid h
  clear h
  go_enter Tryd.func167, Tryd.ntmps167
  go_wp2
  all_goals first
    | (go_ret; exact RetV.bool E.out.symm (by repeat (first | exact Below.refl _ _ | refine Below.drew ?_ | refine Below.alloc ?_ (by first | omega | (simp; done) | (simp; omega)) _ | refine Below.setCell ?_ (by first | omega | (simp; done) | (simp; omega)) _ | refine Below.trans ?_ (Below.mono (by assumption) (by first | omega | (simp; done) | (simp; omega))))))
    | exact absurd ⟨by omega, by omega, by omega, by omega, by omega⟩ H.out
set_option maxHeartbeats 1000000 in
theorem ref06_Check_loop (c : Card) (w : World) (hf : c.f.length = 8) (hs : ∀ x ∈ c.f, x.s.length ≤ 4294967000) (h : 1 ≤ c.id ∧ c.id < 1073741824 ∧ 1 ≤ c.ver ∧ c.ver ≤ 1099511627776 ∧ c.lab < 65536) : Calls Tryd.prog 167 #[.agg c.arr] w (RetV w (.bool c.ok)) := by
  obtain ⟨h0, h1, h2⟩ := c.arr_head
  have E := Lib.hid (Card.ok_head h)
  obtain ⟨a1, a2, a3, a4, a5⟩ := h
  have b1 : decide (c.id < 1) = false := by simp; omega
  have b2 : decide (1073741824 ≤ c.id) = false := by simp; omega
  have b3 : decide (c.ver < 1) = false := by simp; omega
  have b4 : decide (1099511627776 < c.ver) = false := by simp; omega
  have b5 : decide (65536 ≤ (c.lab : Int)) = false := by simp; omega
  go_enter Tryd.func167, Tryd.ntmps167
  go_wp2
  go_loopw [3] (fun i wr => ∃ k : Nat, k ≤ 8 ∧ i = .int .i64 k ∧ Hid ((c.f.take k).all Val.ok = true) ∧ Below w.heap.size w wr ∧ Blk wr w.heap.size c.arr) (fun i _ => 8 - (intOf i).toNat)
  case atStart => exact ⟨0, by omega, rfl, rfl, (by repeat (first | exact Below.refl _ _ | refine Below.drew ?_ | refine Below.alloc ?_ (by first | omega | (simp; done) | (simp; omega)) _ | refine Below.setCell ?_ (by first | omega | (simp; done) | (simp; omega)) _ | refine Below.trans ?_ (Below.mono (by assumption) (by first | omega | (simp; done) | (simp; omega))))), Blk.new _ _ _⟩
  case round =>
    obtain ⟨k, hk, rfl, hno, hb, hB⟩ := hrel
    by_cases hlt : k < 8
    · obtain ⟨c0, c1, c2⟩ := Card.arr_val (c := c) (k := k) (by omega)
      have d0 := hB.cell c0
      have d1 := hB.cell c1
      have d2 := hB.cell c2
      have T := Lib.hid (show c.f.take (k + 1) = c.f.take k ++ [c.f[k]'(by omega)] from List.take_succ_eq_append_getElem (by omega))
      have M := Lib.hid (List.getElem_mem (l := c.f) (n := k) (by omega))
      have hsl := hs _ M.out
      cases hv : (c.f[k]'(by omega)).ok
      · go_wp2_with (go_at_call 129; refine (c_ref04_Check (c.f[k]'(by omega)) _ (by omega)).mono ?_; rintro e w1 ⟨rfl, hb1⟩)
        go_ret
        refine RetV.bool ?_ (hb.trans (hb1.mono hb.size))
        rw [E.out]
        symm
        exact List.all_eq_false.2 ⟨_, M.out, by simp [hv]⟩
      · go_wp2_with (go_at_call 129; refine (c_ref04_Check (c.f[k]'(by omega)) _ (by omega)).mono ?_; rintro e w1 ⟨rfl, hb1⟩)
        go_roundw
        case rel => exact ⟨k + 1, by omega, by go_num, Lib.hid (by rw [T.out, List.all_append, hno.out]; simpa using hv), hb.trans (hb1.mono hb.size), hB.below hb1 hB.lt⟩
        case measure => simp [intOf]; omega
    · have : k = 8 := by omega
      subst this
      go_wp2
      go_ret
      refine RetV.bool ?_ hb
      have := hno.out
      rw [List.take_of_length_le (by omega)] at this
      rw [E.out]; exact this.symm
theorem c_ref06_Check (c : Card) (w : World) (hf : c.f.length = 8) (hs : ∀ x ∈ c.f, x.s.length ≤ 4294967000) : Calls Tryd.prog 167 #[.agg c.arr] w (RetV w (.bool c.ok)) := by
  by_cases h : 1 ≤ c.id ∧ c.id < 1073741824 ∧ 1 ≤ c.ver ∧ c.ver ≤ 1099511627776 ∧ c.lab < 65536
  · exact ref06_Check_loop c w hf hs h
  · exact ref06_Check_bad c w h

/-! The program's. -/
set_option maxHeartbeats 400000 in
theorem c_card_Check1 (x : Val) (w : World) (hs : x.s.length ≤ 4294967000) : Calls Tryd.prog 197 #[x.val] w (RetV w (.bool !x.ok)) := by
  unfold Val.val
  go_enter Tryd.func197, Tryd.ntmps197
  go_wp2_with (go_at_call 127; refine (c_value_Check x _ (by omega)).mono ?_; rintro e w1 ⟨rfl, hb1⟩)
  go_ret
  exact RetV.of rfl (by repeat (first | exact Below.refl _ _ | refine Below.drew ?_ | refine Below.alloc ?_ (by first | omega | (simp; done) | (simp; omega)) _ | refine Below.setCell ?_ (by first | omega | (simp; done) | (simp; omega)) _ | refine Below.trans ?_ (Below.mono (by assumption) (by first | omega | (simp; done) | (simp; omega)))))
def RetIdx (l : List Val) (w : World) (e : Ending) (w' : World) : Prop := ∃ z : Int, e = .returned (.int .i64 z) ∧ decide (0 ≤ z) = !vals l ∧ Below w.heap.size w w'
set_option maxHeartbeats 1000000 in
theorem c_IndexFunc (l : List Val) (A : Option Addr) (c : Nat) (w : World) (h : In 3 Val.cells w A c l) (hl : l.length ≤ 100) (hs : ∀ x ∈ l, x.s.length ≤ 4294967000) :
    Calls Tryd.prog 213 #[.slice A l.length c, .func (.func 197) #[] #[]] w (RetIdx l w) := by
  go_enter Tryd.func213, Tryd.ntmps213
  go_wp2
  go_loopw [5, 8] (fun _ i wr => ∃ k : Nat, k ≤ l.length ∧ i = .int .i64 k ∧ Hid ((l.take k).all Val.ok = true) ∧ Below w.heap.size w wr) (fun _ i _ => l.length - (intOf i).toNat)
  case atStart => exact ⟨0, by omega, rfl, rfl, (by repeat (first | exact Below.refl _ _ | refine Below.drew ?_ | refine Below.alloc ?_ (by first | omega | (simp; done) | (simp; omega)) _ | refine Below.setCell ?_ (by first | omega | (simp; done) | (simp; omega)) _ | refine Below.trans ?_ (Below.mono (by assumption) (by first | omega | (simp; done) | (simp; omega)))))⟩
  case round =>
    obtain ⟨k, hk, rfl, hno, hb⟩ := hrel
    by_cases hlt : k < l.length
    · obtain ⟨b, off, rfl, hbb, hrow⟩ := h.at hlt
      have d0 := hrow.belowB hb hbb k hlt 0 _ rfl
      have d1 := hrow.belowB hb hbb k hlt 1 _ rfl
      have d2 := hrow.belowB hb hbb k hlt 2 _ rfl
      simp only [Nat.add_zero] at d0
      clear hrow h
      have T := Lib.hid (show l.take (k + 1) = l.take k ++ [l[k]] from List.take_succ_eq_append_getElem hlt)
      have M := Lib.hid (List.getElem_mem hlt)
      have hsl := hs _ M.out
      cases hv : l[k].ok
      · go_wp2_with (go_at_call 197; refine (c_card_Check1 l[k] _ hsl).mono ?_; rintro e w1 ⟨rfl, hb1⟩)
        go_ret
        refine ⟨k, rfl, ?_, hb.trans (hb1.mono hb.size)⟩
        have : vals l = false := List.all_eq_false.2 ⟨_, M.out, by simp [hv]⟩
        rw [this]; simp
      · go_wp2_with (go_at_call 197; refine (c_card_Check1 l[k] _ hsl).mono ?_; rintro e w1 ⟨rfl, hb1⟩)
        go_roundw
        case rel => exact ⟨k + 1, by omega, by go_num, Lib.hid (by rw [T.out, List.all_append, hno.out]; simpa using hv), hb.trans (hb1.mono hb.size)⟩
        case measure => simp [intOf]; omega
    · have : k = l.length := by omega
      subst this
      go_wp2
      go_ret
      refine ⟨-1, rfl, ?_, hb⟩
      have := hno.out
      rw [List.take_of_length_le (by omega)] at this
      unfold vals
      rw [this]; rfl
set_option maxHeartbeats 400000 in
theorem c_ContainsFunc (l : List Val) (A : Option Addr) (c : Nat) (w : World) (h : In 3 Val.cells w A c l) (hl : l.length ≤ 100) (hs : ∀ x ∈ l, x.s.length ≤ 4294967000) :
    Calls Tryd.prog 196 #[.slice A l.length c, .func (.func 197) #[] #[]] w (RetV w (.bool !vals l)) := by
  go_enter Tryd.func196, Tryd.ntmps196
  go_wp2_with (go_at_call 213; refine (c_IndexFunc l A c _ h hl hs).mono ?_; rintro e w1 ⟨z, rfl, hz, hb1⟩; have HZ := Lib.hid hz; clear hz)
  go_ret
  exact RetV.bool HZ.out hb1
theorem card_Check_bad (c : Card) (w : World) (h : ¬ (1 ≤ c.id ∧ c.id < 1073741824 ∧ 1 ≤ c.ver ∧ c.ver ≤ 1099511627776 ∧ c.lab < 65536)) : Calls Tryd.prog 171 #[.agg c.arr] w (RetV w (.bool c.ok)) := by
  obtain ⟨h0, h1, h2⟩ := c.arr_head
  have E := Lib.hid (Card.ok_bad h)
  have H := Lib.hid h
  clear h
  go_enter Tryd.func171, Tryd.ntmps171
  go_wp2
  all_goals first
    | (go_ret; exact RetV.bool E.out.symm (by repeat (first | exact Below.refl _ _ | refine Below.drew ?_ | refine Below.alloc ?_ (by first | omega | (simp; done) | (simp; omega)) _ | refine Below.setCell ?_ (by first | omega | (simp; done) | (simp; omega)) _ | refine Below.trans ?_ (Below.mono (by assumption) (by first | omega | (simp; done) | (simp; omega))))))
    | (have hx : (((1 ≤ c.id ∧ c.id < 1073741824) ∧ 1 ≤ c.ver) ∧ c.ver ≤ 1099511627776) ∧ ((c.lab : Int) / 65536 != 0) = false := by assumption
       have hx2 := hx.2
       simp at hx2
       exact absurd ⟨by omega, by omega, by omega, by omega, by omega⟩ H.out)
theorem Row.of_card {c : Card} {w : World} {g : Nat} (h : Blk w g c.arr) : Row 3 Val.cells w g 3 c.f := fun i hi j u hu => by
  have hj : j < 3 := (List.getElem?_eq_some_iff.1 hu).1
  obtain ⟨h0, h1, h2⟩ := Card.arr_val (c := c) hi
  rcases j with _ | _ | _ | j
  · simp [Val.cells] at hu; subst hu; exact h.cell h0
  · simp [Val.cells] at hu; subst hu; exact h.cell h1
  · simp [Val.cells] at hu; subst hu; exact h.cell h2
  · omega
theorem In.of_card {c : Card} {w : World} {g : Nat} (h : Blk w g c.arr) (hf : c.f.length = 8) : In 3 Val.cells w (some ⟨g, 3, none⟩) 8 c.f :=
  ⟨by omega, by omega, by omega, .inr ⟨g, 3, rfl, h.lt, .of_card h⟩⟩
set_option maxHeartbeats 1000000 in
theorem card_Check_ok (c : Card) (w : World) (hf : c.f.length = 8) (hs : ∀ x ∈ c.f, x.s.length ≤ 4294967000) (h : 1 ≤ c.id ∧ c.id < 1073741824 ∧ 1 ≤ c.ver ∧ c.ver ≤ 1099511627776 ∧ c.lab < 65536) : Calls Tryd.prog 171 #[.agg c.arr] w (RetV w (.bool c.ok)) := by
  obtain ⟨h0, h1, h2⟩ := c.arr_head
  have E := Lib.hid (Card.ok_head h)
  obtain ⟨a1, a2, a3, a4, a5⟩ := h
  have b1 : decide (c.id < 1) = false := by simp; omega
  have b2 : decide (1073741824 ≤ c.id) = false := by simp; omega
  have b3 : decide (c.ver < 1) = false := by simp; omega
  have b4 : decide (1099511627776 < c.ver) = false := by simp; omega
  have b5 : ((c.lab : Int) / 65536 != 0) = false := by simp; omega
  have hc := fun w' h => c_ContainsFunc c.f (some ⟨w.heap.size, 3, none⟩) 8 w' h (by omega) hs
  rw [hf] at hc
  have HF := Lib.hid hf
  clear hf
  go_enter Tryd.func171, Tryd.ntmps171
  go_wp2_with (go_at_call 196; refine (hc _ (.of_card (Blk.new _ _ _) HF.out)).mono ?_; rintro e w1 ⟨rfl, hb1⟩; have hb2 : Below w.heap.size w w1 := ((Below.refl _ _).alloc (Nat.le_refl _) _).trans (hb1.mono (by simp)))
  go_ret
  refine RetV.bool ?_ hb2
  rw [E.out]
theorem c_card_Check (c : Card) (w : World) (hf : c.f.length = 8) (hs : ∀ x ∈ c.f, x.s.length ≤ 4294967000) : Calls Tryd.prog 171 #[.agg c.arr] w (RetV w (.bool c.ok)) := by
  by_cases h : 1 ≤ c.id ∧ c.id < 1073741824 ∧ 1 ≤ c.ver ∧ c.ver ≤ 1099511627776 ∧ c.lab < 65536
  · exact card_Check_ok c w hf hs h
  · exact card_Check_bad c w h
end Go.Proofs.YtplipddgeanajaaDoor
