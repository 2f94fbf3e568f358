/-
  The walks of chapter 8's small readers: numbers that are not 0, labels, and one field.
-/
import Derived.Test.YtplipddgeanajaaDoorW08b
import Derived.Test.YtplipddgeanajaaDoorAgg
import Derived.Test.YtplipddgeanajaaDoorRc
namespace Go.Proofs.YtplipddgeanajaaDoor
open Go.RowKit

set_option maxHeartbeats 1000000 in
theorem c_cardwire_above (p : Option Nat) (st : Rd) (most : Int) (w : World) (h : RdP w p st) : Calls Tryd.prog 123 #[ptr p, .int .i64 most] w (RetP p (rdAb' st most) w (.int .i64 (rdN st most))) := by
  by_cases h0 : rdN st most = 0
  · rw [rdAb'_zero h0]
    have k : (rdN st most == 0) = true := by simpa using h0
    clear h0
    go_enter Tryd.func123, Tryd.ntmps123
    go_wp2_with (fail)
    refine (c_octet_RNum p st most _ h).mono ?_
    rintro e w1 ⟨rfl, hr1, hk1⟩
    have hz1 := hk1.size
    go_wp2_with (fail)
    refine (c_octet_Fail p (rdN' st most) 3 _ hr1).mono ?_
    rintro e w2 ⟨rfl, hr2, hk2⟩
    have hz2 := hk2.size
    go_wp2_with (fail)
    go_ret
    exact ⟨rfl, hr2, (by repeat (first | exact Kept.refl _ _ _ | refine Kept.drew ?_ | refine Kept.alloc ?_ (by first | omega | (simp; done) | (simp; omega)) _ | refine Kept.setCell ?_ (by first | (right; rfl) | (left; first | omega | (simp; done) | (simp; omega))) _ | refine Kept.then_kept ?_ (by assumption) (by first | omega | (simp; done) | (simp; omega)) | refine Kept.then_below ?_ (by assumption) (by first | omega | (simp; done) | (simp; omega)) | refine Kept.low ?_ (by assumption)))⟩
  · rw [rdAb'_pos h0]
    have k : (rdN st most == 0) = false := by simpa using h0
    clear h0
    go_enter Tryd.func123, Tryd.ntmps123
    go_wp2_with (fail)
    refine (c_octet_RNum p st most _ h).mono ?_
    rintro e w1 ⟨rfl, hr1, hk1⟩
    have hz1 := hk1.size
    go_wp2_with (fail)
    go_ret
    exact ⟨rfl, hr1, (by repeat (first | exact Kept.refl _ _ _ | refine Kept.drew ?_ | refine Kept.alloc ?_ (by first | omega | (simp; done) | (simp; omega)) _ | refine Kept.setCell ?_ (by first | (right; rfl) | (left; first | omega | (simp; done) | (simp; omega))) _ | refine Kept.then_kept ?_ (by assumption) (by first | omega | (simp; done) | (simp; omega)) | refine Kept.then_below ?_ (by assumption) (by first | omega | (simp; done) | (simp; omega)) | refine Kept.low ?_ (by assumption)))⟩
set_option maxHeartbeats 1000000 in
theorem c_cardwire_labels (p : Option Nat) (st : Rd) (w : World) (h : RdP w p st) : Calls Tryd.prog 125 #[ptr p] w (RetP p (rdN' st 65535) w (.int .u32 (rdN st 65535).toNat)) := by
  have hb := rdN_bd st 65535
  go_enter Tryd.func125, Tryd.ntmps125
  go_wp2_with (fail)
  refine (c_octet_RNum p st 65535 _ h).mono ?_
  rintro e w1 ⟨rfl, hr1, hk1⟩
  have hz1 := hk1.size
  go_wp2_with (fail)
  go_ret
  have hc : ((rdN st 65535).toNat : Int) = rdN st 65535 := by omega
  rw [hc]
  exact ⟨rfl, hr1, (by repeat (first | exact Kept.refl _ _ _ | refine Kept.drew ?_ | refine Kept.alloc ?_ (by first | omega | (simp; done) | (simp; omega)) _ | refine Kept.setCell ?_ (by first | (right; rfl) | (left; first | omega | (simp; done) | (simp; omega))) _ | refine Kept.then_kept ?_ (by assumption) (by first | omega | (simp; done) | (simp; omega)) | refine Kept.then_below ?_ (by assumption) (by first | omega | (simp; done) | (simp; omega)) | refine Kept.low ?_ (by assumption)))⟩
set_option maxHeartbeats 1000000 in
theorem c_ref08_above (h : Nat) (st : Rd) (most : Int) (w : World) (r : RdR w h st) : Calls Tryd.prog 194 #[.pointer (some ⟨h, 0, none⟩), .int .i64 most] w (RetR h (rdAb' st most) w (.int .i64 (rdN st most))) := by
  by_cases he : (rdN' st most).e = 0
  · have ke : ((rdN' st most).e == 0) = true := by simpa using he
    by_cases h0 : rdN st most = 0
    · rw [rdAb'_zero h0]
      have k : (rdN st most == 0) = true := by simpa using h0
      clear h0 he
      go_enter Tryd.func194, Tryd.ntmps194
      go_wp2_with (fail)
      refine (c_ref01_RNum h st most _ r).mono ?_
      rintro e w1 ⟨rfl, hr1, hk1⟩
      have hz1 := hk1.size
      have hc := hr1.1.cell (i := 1) rfl
      go_wp2_with (fail)
      refine (c_ref01_Fail h (rdN' st most) 3 _ hr1).mono ?_
      rintro e w2 ⟨rfl, hr2, hk2⟩
      have hz2 := hk2.size
      go_wp2_with (fail)
      go_ret
      exact ⟨rfl, hr2, (by repeat (first | exact Kept.refl _ _ _ | refine Kept.drew ?_ | refine Kept.alloc ?_ (by first | omega | (simp; done) | (simp; omega)) _ | refine Kept.setCell ?_ (by first | (right; rfl) | (left; first | omega | (simp; done) | (simp; omega))) _ | refine Kept.then_kept ?_ (by assumption) (by first | omega | (simp; done) | (simp; omega)) | refine Kept.then_below ?_ (by assumption) (by first | omega | (simp; done) | (simp; omega)) | refine Kept.low ?_ (by assumption)))⟩
    · rw [rdAb'_pos h0]
      have k : (rdN st most == 0) = false := by simpa using h0
      clear h0 he
      go_enter Tryd.func194, Tryd.ntmps194
      go_wp2_with (fail)
      refine (c_ref01_RNum h st most _ r).mono ?_
      rintro e w1 ⟨rfl, hr1, hk1⟩
      have hz1 := hk1.size
      have hc := hr1.1.cell (i := 1) rfl
      go_wp2_with (fail)
      go_ret
      exact ⟨rfl, hr1, (by repeat (first | exact Kept.refl _ _ _ | refine Kept.drew ?_ | refine Kept.alloc ?_ (by first | omega | (simp; done) | (simp; omega)) _ | refine Kept.setCell ?_ (by first | (right; rfl) | (left; first | omega | (simp; done) | (simp; omega))) _ | refine Kept.then_kept ?_ (by assumption) (by first | omega | (simp; done) | (simp; omega)) | refine Kept.then_below ?_ (by assumption) (by first | omega | (simp; done) | (simp; omega)) | refine Kept.low ?_ (by assumption)))⟩
  · have ke : ((rdN' st most).e == 0) = false := by simpa using he
    rw [rdAb'_zero (rdN_err' he), rdF_err he]
    clear he
    go_enter Tryd.func194, Tryd.ntmps194
    go_wp2_with (fail)
    refine (c_ref01_RNum h st most _ r).mono ?_
    rintro e w1 ⟨rfl, hr1, hk1⟩
    have hz1 := hk1.size
    have hc := hr1.1.cell (i := 1) rfl
    go_wp2_with (fail)
    go_ret
    exact ⟨rfl, hr1, (by repeat (first | exact Kept.refl _ _ _ | refine Kept.drew ?_ | refine Kept.alloc ?_ (by first | omega | (simp; done) | (simp; omega)) _ | refine Kept.setCell ?_ (by first | (right; rfl) | (left; first | omega | (simp; done) | (simp; omega))) _ | refine Kept.then_kept ?_ (by assumption) (by first | omega | (simp; done) | (simp; omega)) | refine Kept.then_below ?_ (by assumption) (by first | omega | (simp; done) | (simp; omega)) | refine Kept.low ?_ (by assumption)))⟩

/-! One field, by the closure. -/
theorem farr_put {f : List Val} {k : Nat} (h : k < f.length) (x : Val) : putAt (farr f) (k * 3) [.int .i64 x.kind, .int .i64 x.n, .string (str x.s)] = farr (f.set k x) := by
  have hs := farr_size f
  have hs' := farr_size (f.set k x)
  rw [List.length_set] at hs'
  apply Array.ext_getElem?
  intro i
  by_cases hi : i < f.length * 3
  · obtain ⟨q, r, hr, rfl⟩ : ∃ q r, r < 3 ∧ i = q * 3 + r := ⟨i / 3, i % 3, by omega, by omega⟩
    have hq : q < f.length := by omega
    obtain ⟨a0, a1, a2⟩ := farr_get (f := f.set k x) (k := q) (by rw [List.length_set]; exact hq)
    obtain ⟨b0, b1, b2⟩ := farr_get (f := f) (k := q) hq
    by_cases hk : q = k
    · subst hk
      have hp : (putAt (farr f) (q * 3) [.int .i64 x.kind, .int .i64 x.n, .string (str x.s)])[q * 3 + r]? = ([.int .i64 x.kind, .int .i64 x.n, .string (str x.s)] : List Value)[r]? := putAt_in _ _ _ r (by rw [hs]; simp; omega) (by simpa using hr)
      rw [hp]
      simp only [List.getElem_set_self] at a0 a1 a2
      obtain rfl | rfl | rfl : r = 0 ∨ r = 1 ∨ r = 2 := by omega
      · rw [Nat.add_zero, a0]; rfl
      · rw [a1]; rfl
      · rw [a2]; rfl
    · rw [putAt_far _ _ _ _ (by simp; omega)]
      rw [List.getElem_set_ne (fun e => hk e.symm)] at a0 a1 a2
      obtain rfl | rfl | rfl : r = 0 ∨ r = 1 ∨ r = 2 := by omega
      · rw [Nat.add_zero, a0, b0]
      · rw [a1, b1]
      · rw [a2, b2]
  · rw [Array.getElem?_eq_none (by rw [putAt_size, hs]; omega), Array.getElem?_eq_none (by rw [hs']; omega)]
/-- One field was read: the reader, the fields; the worlds on the way. -/
def RetOne (b : Bool) (p : Option Nat) (st : Rd) (f : List Val) (k bo : Nat) (w : World) (e : Ending) (w' : World) : Prop :=
  e = .returned (.tuple #[]) ∧ RdP w' p (fldS b st) ∧ Blk w' bo (farr (f.set k (rdVal st))) ∧ ∃ w1 w2, Kept p w.heap.size w w1 ∧ Kept (some bo) w1.heap.size w1 w2 ∧ Kept p w2.heap.size w2 w'
theorem farr_row {f : List Val} {w : World} {g : Nat} (h : Blk w g (farr f)) {k : Nat} (hk : k < f.length) : w.cell? ⟨g, k * 3, none⟩ = some (.int .i64 f[k].kind) := h.cell (farr_get hk).1
set_option maxHeartbeats 2000000 in
set_option maxRecDepth 4000 in
theorem c_fields_one (b : Bool) (p : Option Nat) (st : Rd) (f : List Val) (k bp bn bo : Nat) (w : World) (hf : f.length = 8) (hk : k < 8) (hr : RdP w p st) (hp : Blk w bp #[ptr p]) (hn : Blk w bn #[.bool b]) (ho : Blk w bo (farr f))
    (h1 : ∀ g, p = some g → g < bp) (h2 : bp < bn) (h3 : bn < bo) :
    Calls Tryd.prog 176 #[.int .i64 k, .pointer (some ⟨bp, 0, none⟩), .pointer (some ⟨bo, 0, none⟩), .pointer (some ⟨bn, 0, none⟩)] w (RetOne b p st f k bo w) := by
  have d1 : p ≠ some bp := fun e => by have := h1 _ e; omega
  have d2 : p ≠ some bn := fun e => by have := h1 _ e; omega
  have d3 : p ≠ some bo := fun e => by have := h1 _ e; omega
  have c0 := hp.cell (i := 0) rfl
  have HF := Lib.hid hf
  have hfs : (f.set k (rdVal st)).length = 8 := by rw [List.length_set]; exact hf
  have HS := Lib.hid hfs
  have hkf : k < f.length := by omega
  have HX := Lib.hid (show (f.set k (rdVal st))[k]'(by rw [List.length_set]; exact hkf) = rdVal st from List.getElem_set_self ..)
  clear hfs hf
  cases b
  case true =>
    have Fz := Lib.hid (fldS_true st)
    go_enter Tryd.func176, Tryd.ntmps176
    go_wp2_with (fail)
    refine (c_cardwire_Value p st _ hr).mono ?_
    rintro e w1 ⟨rfl, hr1, hk1⟩
    have hp1 := hp.kept hk1 hp.lt d1
    have hn1 := hn.kept hk1 hn.lt d2
    have O1 := Lib.hid (ho.kept hk1 ho.lt d3)
    unfold Val.val
    go_wp2_with (with_reducible refine stop_store 24 (.tmp 8) (.tmp 7) rfl rfl ?_)
    refine Stop.mk (wpList_storeAt rfl _ _ _ rfl bo (k * 3) _ rfl rfl _ O1.out strV rfl (by rw [farr_size, HF.out]; simp; omega) (by simp [Value.oneCell']) ?_)
    intro w2 hb2 hk2
    rw [farr_put (by have := HF.out; omega)] at hb2
    have O2 := Lib.hid hb2
    have hz2 := hk2.size
    have cn := (hn1.kept hk2 hn1.lt (by simp; omega)).cell (i := 0) rfl
    have hr2 : RdP w2 p (rdVal' st) := hr1.kept hk2 (fun g h hg hh => by injection hh with hh; have := h1 g hg; omega)
    clear hb2
    go_wp2_with (fail)
    go_end0
    exact ⟨rfl, by rw [Fz.out]; exact hr2, O2.out, w1, w2, hk1, hk2, Kept.refl _ _ _⟩
  case false =>
    by_cases hv : (rdVal st).kind = 0
    · have Fz := Lib.hid (fldS_zero hv)
      have kv : ((rdVal st).kind == 0) = true := by simpa using hv
      clear hv
      go_enter Tryd.func176, Tryd.ntmps176
      go_wp2_with (fail)
      refine (c_cardwire_Value p st _ hr).mono ?_
      rintro e w1 ⟨rfl, hr1, hk1⟩
      have hp1 := hp.kept hk1 hp.lt d1
      have hn1 := hn.kept hk1 hn.lt d2
      have O1 := Lib.hid (ho.kept hk1 ho.lt d3)
      unfold Val.val
      go_wp2_with (with_reducible refine stop_store 24 (.tmp 8) (.tmp 7) rfl rfl ?_)
      refine Stop.mk (wpList_storeAt rfl _ _ _ rfl bo (k * 3) _ rfl rfl _ O1.out strV rfl (by rw [farr_size, HF.out]; simp; omega) (by simp [Value.oneCell']) ?_)
      intro w2 hb2 hk2
      rw [farr_put (by have := HF.out; omega)] at hb2
      have O2 := Lib.hid hb2
      have hz2 := hk2.size
      have cn := (hn1.kept hk2 hn1.lt (by simp; omega)).cell (i := 0) rfl
      have cp := (hp1.kept hk2 hp1.lt (by simp; omega)).cell (i := 0) rfl
      have cv := farr_row hb2 (k := k) (by rw [HS.out]; exact hk)
      rw [HX.out] at cv
      have hr2 : RdP w2 p (rdVal' st) := hr1.kept hk2 (fun g h hg hh => by injection hh with hh; have := h1 g hg; omega)
      clear hb2
      go_wp2_with (fail)
      refine (c_octet_Fail p (rdVal' st) 3 _ hr2).mono ?_
      rintro e w3 ⟨rfl, hr3, hk3⟩
      have O3 := Lib.hid (O2.out.kept hk3 O2.out.lt d3)
      go_wp2_with (fail)
      go_end0
      exact ⟨rfl, by rw [Fz.out]; exact hr3, O3.out, w1, w2, hk1, hk2, hk3⟩
    · have Fz := Lib.hid (fldS_pos (b := false) hv)
      have kv : ((rdVal st).kind == 0) = false := by simpa using hv
      clear hv
      go_enter Tryd.func176, Tryd.ntmps176
      go_wp2_with (fail)
      refine (c_cardwire_Value p st _ hr).mono ?_
      rintro e w1 ⟨rfl, hr1, hk1⟩
      have hp1 := hp.kept hk1 hp.lt d1
      have hn1 := hn.kept hk1 hn.lt d2
      have O1 := Lib.hid (ho.kept hk1 ho.lt d3)
      unfold Val.val
      go_wp2_with (with_reducible refine stop_store 24 (.tmp 8) (.tmp 7) rfl rfl ?_)
      refine Stop.mk (wpList_storeAt rfl _ _ _ rfl bo (k * 3) _ rfl rfl _ O1.out strV rfl (by rw [farr_size, HF.out]; simp; omega) (by simp [Value.oneCell']) ?_)
      intro w2 hb2 hk2
      rw [farr_put (by have := HF.out; omega)] at hb2
      have O2 := Lib.hid hb2
      have hz2 := hk2.size
      have cn := (hn1.kept hk2 hn1.lt (by simp; omega)).cell (i := 0) rfl
      have cp := (hp1.kept hk2 hp1.lt (by simp; omega)).cell (i := 0) rfl
      have cv := farr_row hb2 (k := k) (by rw [HS.out]; exact hk)
      rw [HX.out] at cv
      have hr2 : RdP w2 p (rdVal' st) := hr1.kept hk2 (fun g h hg hh => by injection hh with hh; have := h1 g hg; omega)
      clear hb2
      go_wp2_with (fail)
      go_end0
      exact ⟨rfl, by rw [Fz.out]; exact hr2, O2.out, w1, w2, hk1, hk2, Kept.refl _ _ _⟩
end Go.Proofs.YtplipddgeanajaaDoor
