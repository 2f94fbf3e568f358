/-
  Lemmas (walks and plain laws), in one text.
-/
import Derived.Test.YtjhndilflcigiaaDoorQc14
import Derived.Test.YtjhndilflcigiaaDoorRows
import Derived.WalkKit
import Derived.WalkSpells
import Derived.WalkLawsBesides
import Derived.Lib.Hide
import Derived.Deep.QuietTactic
import Derived.BigQuiet
import Derived.Maps.AppendAt
import Derived.WalkSmall
import Derived.ProofKit
import Derived.OpenShut
import Derived.JoinedCond
import Derived.Deep.Slices
import Derived.Deep.Fields
import Derived.Carry
import Derived.Deep.AppendSrc
import Derived.Lib.AppendStr
import Derived.Laws.BytesArg
import Derived.Test.YtjhndilflcigiaaDoorProg
import Derived.Shelf.Spec.TrailingZeros
import Derived.RangeFuncNested
import Derived.RangeFuncBound
import Derived.RangeFuncCalls
import Derived.RangeFuncLeaves
import Derived.Shelf.Abstract
import Derived.Shelf.RegionOpen
import Derived.OwnWalkIn
import Derived.TacticsInMore
import Derived.LoopNIn
import Derived.LoopIn
import Derived.Test.YtjhndilflcigiaaDoorTie
import Derived.Lib.LaidTab
import Derived.LaidMore
import Derived.SevenTiedAt
import Derived.Test.YtjhndilflcigiaaDoorCards
import Derived.Laws.Tables
import Derived.Laws.Rows
import Derived.ChangeKeysEq
import Derived.Laws.StructEq
import Derived.Deep.CutBlock
import Derived.Deep.DeepCutAuto
import Derived.Laws.CopyOwn
import Derived.Outline
import Derived.IntWalk
import Derived.Lib.EndianBits
import Derived.StillTail
import Derived.Lib.AppendZeros
import Derived.Deep.Quiet
import Derived.Maps.Own
import Derived.WalkMore
namespace Go.Proofs.YtjhndilflcigiaaDoor
open Go.RowKit

theorem RdP.nil {w : World} {st : Rd} (h : RdP w none st) : st = ⟨[], 1⟩ := by
  rcases h with ⟨_, h⟩ | ⟨g, _, _, _, _, h, _⟩
  · exact h
  · cases h
theorem RdP.at {w : World} {g : Nat} {st : Rd} (h : RdP w (some g) st) : ∃ A c B pos, RdA w g A c B pos st.e ∧ st.s = B.drop pos := by
  rcases h with ⟨h, _⟩ | ⟨g', A, c, B, pos, h, ha, hs⟩
  · cases h
  · injection h with h; subst h; exact ⟨A, c, B, pos, ha, hs⟩
theorem RdP.mk {w : World} {g : Nat} {A : Option Addr} {c : Nat} {B : List UInt8} {pos : Nat} {st : Rd} (ha : RdA w g A c B pos st.e) (hs : st.s = B.drop pos) : RdP w (some g) st := .inr ⟨g, A, c, B, pos, rfl, ha, hs⟩
theorem RdP.nilmk (w : World) : RdP w none ⟨[], 1⟩ := .inl ⟨rfl, rfl⟩
theorem RetP.nil {w w' : World} {st' : Rd} {v : Value} (h : st' = ⟨[], 1⟩) (hb : Below w.heap.size w w') : RetP none st' w v (.returned v) w' := by subst h; exact ⟨rfl, RdP.nilmk _, .of_below hb⟩
theorem RetP.same {w w' : World} {p : Option Nat} {st : Rd} {v : Value} (h : RdP w p st) (hb : Below w.heap.size w w') : RetP p st w v (.returned v) w' := ⟨rfl, h.below hb, .of_below hb⟩

/-- The nil reader, or the one at g. -/
theorem RdA.fail {w : World} {g : Nat} {A : Option Addr} {c : Nat} {B : List UInt8} {pos : Nat} {st : Rd} {e : Int} (ha : RdA w g A c B pos st.e) (hs : st.s = B.drop pos) : RdP (w.setCell ⟨g, 2, none⟩ (.int .i64 e)) (some g) ⟨st.s, e⟩ ∧ Kept (some g) w.heap.size w (w.setCell ⟨g, 2, none⟩ (.int .i64 e)) :=
  ⟨RdP.mk (ha.store2 e) hs, (Kept.refl _ _ _).setCell (q := ⟨g, 2, none⟩) (.inr rfl) _⟩
set_option maxHeartbeats 400000 in
theorem c_octet_Err (p : Option Nat) (st : Rd) (w : World) (h : RdP w p st) : Calls Tryd.prog 19 #[ptr p] w (RetP p st w (.int .i64 st.e)) := by
  rcases p with _ | g
  · have hs := h.nil
    subst hs
    rw [ptr_none]
    go_enter Tryd.func19, Tryd.ntmps19
    go_wp2_with (fail)
    go_ret
    exact RetP.same h (by repeat (first | exact Below.refl _ _ | refine Below.drew ?_ | refine Below.alloc ?_ (by first | omega | (simp; done) | (simp; omega)) _ | refine Below.setCell ?_ (by first | omega | (simp; done) | (simp; omega)) _ | refine Below.trans ?_ (Below.mono (by assumption) (by first | omega | (simp; done) | (simp; omega)))))
  · obtain ⟨A, c, B, pos, ha, hs⟩ := h.at
    have c2 : w.cell? ⟨g, 2, none⟩ = some (.int .i64 st.e) := ha.1.cell rfl
    have Hs := Lib.hid hs
    clear hs
    rw [ptr_some]
    go_enter Tryd.func19, Tryd.ntmps19
    go_wp2_with (fail)
    go_ret
    exact RetP.same h (by repeat (first | exact Below.refl _ _ | refine Below.drew ?_ | refine Below.alloc ?_ (by first | omega | (simp; done) | (simp; omega)) _ | refine Below.setCell ?_ (by first | omega | (simp; done) | (simp; omega)) _ | refine Below.trans ?_ (Below.mono (by assumption) (by first | omega | (simp; done) | (simp; omega)))))
/-- Nothing is handed back; the program's reader is then st'. -/
def RetF (p : Option Nat) (st' : Rd) (w : World) (e : Ending) (w' : World) : Prop := e = .returned (.tuple #[]) ∧ RdP w' p st' ∧ Kept p w.heap.size w w'
set_option maxHeartbeats 400000 in
theorem c_octet_Fail (p : Option Nat) (st : Rd) (e : Int) (w : World) (h : RdP w p st) : Calls Tryd.prog 50 #[ptr p, .int .i64 e] w (RetF p (rdF st e) w) := by
  rcases p with _ | g
  · have hs := h.nil
    subst hs
    rw [ptr_none, rdF_err (by decide)]
    go_enter Tryd.func50, Tryd.ntmps50
    go_wp2_with (fail)
    go_end0
    exact ⟨rfl, RdP.nilmk _, Kept.refl _ _ _⟩
  · obtain ⟨A, c, B, pos, ha, hs⟩ := h.at
    have c2 : w.cell? ⟨g, 2, none⟩ = some (.int .i64 st.e) := ha.1.cell rfl
    have f2 := ha.1.frozen 2
    have hgl := ha.1.lt
    have Hs := Lib.hid hs
    clear hs
    rw [ptr_some]
    by_cases h0 : st.e = 0
    · have hb : (st.e == 0) = true := by simpa using h0
      have hf := rdF_ok (e := e) h0
      have H0 := Lib.hid h0
      rw [hf]
      clear h0 hf
      go_enter Tryd.func50, Tryd.ntmps50
      go_wp2_with (fail)
      go_end0
      exact ⟨rfl, (ha.fail Hs.out).1, (ha.fail Hs.out).2⟩
    · have hb : (st.e == 0) = false := by simpa using h0
      rw [rdF_err h0]
      clear h0
      go_enter Tryd.func50, Tryd.ntmps50
      go_wp2_with (fail)
      go_end0
      exact ⟨rfl, h, Kept.refl _ _ _⟩
set_option maxHeartbeats 400000 in
theorem c_octet_RNum (p : Option Nat) (st : Rd) (most : Int) (w : World) (h : RdP w p st) : Calls Tryd.prog 49 #[ptr p, .int .i64 most] w (RetP p (rdN' st most) w (.int .i64 (rdN st most))) := by
  rcases p with _ | g
  · have hs := h.nil
    subst hs
    rw [ptr_none, (rdN_err (by decide)).1, (rdN_err (by decide)).2]
    go_enter Tryd.func49, Tryd.ntmps49
    go_wp2_with (fail)
    go_ret
    exact RetP.same h (by repeat (first | exact Below.refl _ _ | refine Below.drew ?_ | refine Below.alloc ?_ (by first | omega | (simp; done) | (simp; omega)) _ | refine Below.setCell ?_ (by first | omega | (simp; done) | (simp; omega)) _ | refine Below.trans ?_ (Below.mono (by assumption) (by first | omega | (simp; done) | (simp; omega)))))
  · obtain ⟨A, c, B, pos, ha, hs⟩ := h.at
    have c2 : w.cell? ⟨g, 2, none⟩ = some (.int .i64 st.e) := ha.1.cell rfl
    have Hs := Lib.hid hs
    clear hs
    rw [ptr_some]
    by_cases h0 : st.e = 0
    · have hb : (st.e != 0) = false := by simpa using h0
      have h1 : rdN st most = nVal st.s most := by unfold rdN; rw [if_pos h0]
      have h2 : rdN' st most = ⟨st.s.drop (nLen st.s most), nErr st.s most⟩ := by unfold rdN'; rw [if_pos h0]
      have ha0 : RdA w g A c B pos 0 := by rw [← h0]; exact ha
      rw [h1, h2, Hs.out]
      have H0 := Lib.hid h0
      clear h0 h1 h2
      go_enter Tryd.func49, Tryd.ntmps49
      go_wp2_with (fail)
      refine (c_octet_peek g A c B pos most _ ha0).mono ?_
      rintro e w1 ⟨rfl, hr, hk⟩
      have f1 := hr.1.frozen 1
      have c1 : w1.cell? ⟨g, 1, none⟩ = some (.int .i64 pos) := hr.1.cell rfl
      go_wp2_with (fail)
      go_ret
      refine ⟨rfl, RdP.mk (hr.store1 _ ?_) ?_, hk.setCell (q := ⟨g, 1, none⟩) (.inr rfl) _⟩
      · have := nLen_le (B.drop pos) most
        have := ha0.2.1
        rw [List.length_drop] at *; omega
      · rw [List.drop_drop]
    · have hb : (st.e != 0) = true := by simpa using h0
      rw [(rdN_err h0).1, (rdN_err h0).2]
      clear h0
      go_enter Tryd.func49, Tryd.ntmps49
      go_wp2_with (fail)
      go_ret
      exact RetP.same h (by repeat (first | exact Below.refl _ _ | refine Below.drew ?_ | refine Below.alloc ?_ (by first | omega | (simp; done) | (simp; omega)) _ | refine Below.setCell ?_ (by first | omega | (simp; done) | (simp; omega)) _ | refine Below.trans ?_ (Below.mono (by assumption) (by first | omega | (simp; done) | (simp; omega)))))
theorem bytes_elem : Tryd.prog.underlying 33 = some (.slice (Tryd.prog.elem 33)) := by kernel_rfl
theorem bytes_size (x : World) : (sizeOf (Tryd.prog.elem 33)).run Tryd.prog x = .ok 1 x := by kernel_rfl
/-- Where bytes out of bytes lie, whatever the capacity. -/
def cutA (A : Option Addr) (c i : Nat) : Option Addr := if c = i then A else A.map (·.add i)
theorem cut_run (A : Option Addr) (c len i n : Nat) (hn : i + n ≤ len) (hc : len ≤ c) (x : World) :
    (Instr.slice 33 (.slice A len c) (some (.int .i64 i)) (some (.int .i64 ((i : Int) + (n : Int)))) none).run Tryd.prog x = .ok (.slice (cutA A c i) n (c - i)) x := by
  have hr := run_slice_lh (P := Tryd.prog) (w := x) 33 A len c bytes_elem .i64 .i64 (i : Int) ((i : Int) + (n : Int)) (by omega) (by omega) (by omega)
  rw [hr, bytes_size]
  simp only [Result.andThen, sliced]
  rw [show ((i : Int)).toNat = i by omega, show ((i : Int) + (n : Int)).toNat - i = n by omega, Nat.mul_one]
  rfl
theorem cut_in {w : World} {A : Option Addr} {c : Nat} {B : List UInt8} (h : InB w A c B) (i n : Nat) (hn : i + n ≤ B.length) : InB w (cutA A c i) (c - i) ((B.drop i).take n) := by
  have hc := h.1
  unfold cutA
  by_cases hci : c = i
  · rw [if_pos hci]
    have h0 : n = 0 := by omega
    subst h0
    rw [List.take_zero]
    exact In.nil (by have := h.2.1; omega)
  · rw [if_neg hci]
    rcases Nat.eq_zero_or_pos n with h0 | h0
    · subst h0
      rw [List.take_zero]
      exact In.nil (by have := h.2.1; omega)
    · obtain ⟨b, off, rfl, hb, hrow⟩ := h.at (i := i) (by omega)
      have := h.sub (i := i) (j := i + n) (by omega) hn ⟨hb, hrow⟩
      rw [show i + n - i = n by omega] at this
      simpa [add_lit'] using this
theorem RdA.in {w : World} {g : Nat} {A : Option Addr} {c : Nat} {B : List UInt8} {pos : Nat} {e : Int} (ha : RdA w g A c B pos e) : InB w A c B :=
  ⟨ha.2.2.1, ha.2.2.2.1, ha.2.2.2.2.1, ha.2.2.2.2.2.imp id fun ⟨b, off, hA, hb, hr⟩ => ⟨b, off, hA, by have := ha.1.lt; omega, hr⟩⟩
set_option maxHeartbeats 400000 in
theorem c_octet_RStr (p : Option Nat) (st : Rd) (most : Int) (w : World) (h : RdP w p st) : Calls Tryd.prog 184 #[ptr p, .int .i64 most] w (RetP p (rdS' st most) w (.string (str (rdS st most)))) := by
  rcases p with _ | g
  · have hs := h.nil
    subst hs
    rw [ptr_none, (rdS_err (by decide)).1, (rdS_err (by decide)).2]
    go_enter Tryd.func184, Tryd.ntmps184
    go_wp2_with (fail)
    go_ret
    exact RetP.same h (by repeat (first | exact Below.refl _ _ | refine Below.drew ?_ | refine Below.alloc ?_ (by first | omega | (simp; done) | (simp; omega)) _ | refine Below.setCell ?_ (by first | omega | (simp; done) | (simp; omega)) _ | refine Below.trans ?_ (Below.mono (by assumption) (by first | omega | (simp; done) | (simp; omega)))))
  · obtain ⟨A, c, B, pos, ha, hs⟩ := h.at
    have c2 : w.cell? ⟨g, 2, none⟩ = some (.int .i64 st.e) := ha.1.cell rfl
    have Hs := Lib.hid hs
    clear hs
    rw [ptr_some]
    by_cases h0 : st.e = 0
    case neg =>
      have hb : (st.e != 0) = true := by simpa using h0
      rw [(rdS_err h0).1, (rdS_err h0).2]
      clear h0
      go_enter Tryd.func184, Tryd.ntmps184
      go_wp2_with (fail)
      go_ret
      exact RetP.same h (by repeat (first | exact Below.refl _ _ | refine Below.drew ?_ | refine Below.alloc ?_ (by first | omega | (simp; done) | (simp; omega)) _ | refine Below.setCell ?_ (by first | omega | (simp; done) | (simp; omega)) _ | refine Below.trans ?_ (Below.mono (by assumption) (by first | omega | (simp; done) | (simp; omega)))))
    have hb : (st.e != 0) = false := by simpa using h0
    have ha0 : RdA w g A c B pos 0 := by rw [← h0]; exact ha
    have H0 := Lib.hid h0
    clear h0 ha
    have hL := ha0.2.1
    have hC := ha0.2.2.1
    have hC' := ha0.2.2.2.1
    have hS := ha0.2.2.2.2.1
    obtain ⟨er, her⟩ : ∃ er, er = nErr (B.drop pos) most := ⟨_, rfl⟩
    obtain ⟨v, hv⟩ : ∃ v, v = nVal (B.drop pos) most := ⟨_, rfl⟩
    obtain ⟨tt, hto⟩ : ∃ tt, tt = pos + nLen (B.drop pos) most := ⟨_, rfl⟩
    by_cases he : er = 0
    case neg =>
      have h1 : rdS st most = [] := by unfold rdS tErr; rw [if_neg]; rw [Hs.out]; intro k; rw [← her, if_neg he] at k; exact he k.2
      have h2 : rdS' st most = ⟨st.s, er⟩ := by unfold rdS' tErr; rw [Hs.out, if_pos H0.out, ← her, if_neg he, if_neg he]
      rw [h1, h2]
      have hne : (er != 0) = true := by simpa using he
      clear h1 h2 he
      have Her := Lib.hid her
      have Hv := Lib.hid hv
      have Hto := Lib.hid hto
      clear her hv hto
      go_enter Tryd.func184, Tryd.ntmps184
      go_wp2_with (fail)
      refine (c_octet_peek g A c B pos most _ ha0).mono ?_
      rintro e w1 ⟨rfl, hr, hk⟩
      rw [← Hto.out, ← Hv.out]
      rw [← Her.out] at hr
      have d2 : w1.cell? ⟨g, 2, none⟩ = some (.int .i64 er) := hr.1.cell rfl
      clear c2
      go_wp2_with (fail)
      go_ret
      exact ⟨rfl, RdP.mk hr Hs.out, hk⟩
    have hn0 : nErr (B.drop pos) most = 0 := her.symm.trans he
    have hv' : v = nxV 6 (B.drop pos) := hv.trans (nVal_ok hn0)
    have hto' : tt = pos + nxK 6 (B.drop pos) := by rw [hto, nLen_ok hn0]
    obtain ⟨n, hn⟩ : ∃ n : Nat, n = nxV 6 (B.drop pos) := ⟨_, rfl⟩
    have hvn : v = (n : Int) := by rw [hv', hn]
    have hn40 : n ≤ 1099511627776 := by rw [hn]; exact (nErr_ok hn0).2.1
    have htl : tt ≤ B.length := by have := nxK_le 6 (B.drop pos); rw [List.length_drop] at this; omega
    have hdl : (B.drop pos).length - nxK 6 (B.drop pos) = B.length - tt := by rw [List.length_drop]; omega
    by_cases hlong : n ≤ B.length - tt
    case neg =>
      have ht : tErr st.s most = 2 := by unfold tErr; rw [Hs.out, if_pos hn0, ← hn, hdl, if_neg hlong]
      have h1 : rdS st most = [] := by unfold rdS; rw [if_neg]; intro k; rw [ht] at k; exact absurd k.2 (by decide)
      have h2 : rdS' st most = ⟨st.s, 2⟩ := by unfold rdS'; rw [if_pos H0.out, if_neg (by rw [ht]; decide), ht]
      rw [h1, h2]
      have hgt : (B.length : Int) - (tt : Int) < (n : Int) := by omega
      clear h1 h2 ht hdl hv' hto' hn hlong
      have Hn0 := Lib.hid hn0
      have Hv := Lib.hid (hv.symm.trans hvn)
      have Hto := Lib.hid hto
      clear her hv hto hn0 hvn he
      go_enter Tryd.func184, Tryd.ntmps184
      go_wp2_with (fail)
      refine (c_octet_peek g A c B pos most _ ha0).mono ?_
      rintro e w1 ⟨rfl, hr, hk⟩
      rw [← Hto.out, Hv.out]
      rw [Hn0.out] at hr
      have d2 : w1.cell? ⟨g, 2, none⟩ = some (.int .i64 0) := hr.1.cell rfl
      have d0 : w1.cell? ⟨g, 0, none⟩ = some (.slice A B.length c) := hr.1.cell rfl
      have f2 := hr.1.frozen 2
      clear c2
      go_wp2_with (fail)
      go_ret
      exact ⟨rfl, RdP.mk (hr.store2 2) Hs.out, hk.setCell (q := ⟨g, 2, none⟩) (.inr rfl) _⟩
    have ht : tErr st.s most = 0 := by unfold tErr; rw [Hs.out, if_pos hn0, ← hn, hdl, if_pos hlong]
    have h1 : rdS st most = (B.drop tt).take n := by unfold rdS; rw [if_pos ⟨H0.out, ht⟩, Hs.out, List.drop_drop, ← hto', ← hn]
    have h2 : rdS' st most = ⟨B.drop (tt + n), 0⟩ := by unfold rdS'; rw [if_pos H0.out, if_pos ht, Hs.out, List.drop_drop, ← hn, hto', Nat.add_assoc]
    have hle : tt + n ≤ B.length := by omega
    have hgt : ¬ (B.length : Int) - (tt : Int) < (n : Int) := by omega
    rw [h1, h2]
    clear h1 h2 ht hdl hv' hto' hn hlong
    have Hn0 := Lib.hid hn0
    have Hv := Lib.hid (hv.symm.trans hvn)
    have Hto := Lib.hid hto
    clear her hv hto hn0 hvn he
    go_enter Tryd.func184, Tryd.ntmps184
    go_wp2_with (fail)
    refine (c_octet_peek g A c B pos most _ ha0).mono ?_
    rintro e w1 ⟨rfl, hr, hk⟩
    rw [← Hto.out, Hv.out]
    rw [Hn0.out] at hr
    have d2 : w1.cell? ⟨g, 2, none⟩ = some (.int .i64 0) := hr.1.cell rfl
    have d0 : w1.cell? ⟨g, 0, none⟩ = some (.slice A B.length c) := hr.1.cell rfl
    have d1 : w1.cell? ⟨g, 1, none⟩ = some (.int .i64 pos) := hr.1.cell rfl
    have f1 := hr.1.frozen 1
    have hg1 := hr.1.lt
    have hlen : ((B.drop tt).take n).length = n := by rw [List.length_take, List.length_drop]; omega
    have hcut := cut_run A c B.length tt n hle hC
    have r2 : RdA (w1.setCell ⟨g, 1, none⟩ (.int .i64 ((tt : Int) + (n : Int)))) g A c B (tt + n) 0 := by have := hr.store1 (tt + n) hle; rwa [Int.natCast_add] at this
    have hin2 := cut_in r2.in tt n hle
    obtain ⟨txt, htxt⟩ : ∃ txt, txt = (B.drop tt).take n := ⟨_, rfl⟩
    obtain ⟨A', hA'⟩ : ∃ A', A' = cutA A c tt := ⟨_, rfl⟩
    rw [← htxt] at hin2 hlen ⊢
    rw [← hA'] at hin2 hcut
    have kc : ∀ x : World, InB x A' (c - tt) txt → (convert 33 9 (.slice A' n (c - tt))).run Tryd.prog x = .ok (.string (str txt)) x := fun x hx => by
      have := conv_str (P := Tryd.prog) x (src := 33) (dst := 9) (e := 5) Tryd.underlying33 Tryd.underlying5 Tryd.underlying9 hx
      rw [hlen] at this
      exact this
    have hw : IntKind.i64.wrap ((tt : Int) + (n : Int)) = (tt : Int) + (n : Int) := IntWalk.i64_in _ (by omega)
    have kc2 := fun y : Grow (w1.setCell ⟨g, 1, none⟩ (.int .i64 ((tt : Int) + (n : Int)))) => kc _ (In.grow hin2 y)
    have Htxt := Lib.hid htxt
    clear c2 hlen htxt hA' kc
    have Hin2 := Lib.hid hin2
    have R2 := Lib.hid r2
    have Hle := Lib.hid hle
    clear hin2 r2 hle
    go_wp2_with (fail)
    refine wp_region_grow (by kernel_rfl) (by kernel_rfl) ?_
    repeat (quiet_step ((first | (fail))))
    refine wpQuiet_nil ?_
    intro w3 hb3
    go_wp2_with (fail)
    go_ret
    exact ⟨by rw [← Htxt.out]; rfl, (RdP.mk R2.out rfl).below hb3, (hk.setCell (q := ⟨g, 1, none⟩) (.inr rfl) _).then_below hb3 (by simp [World.setCell]; exact hk.size)⟩
end Go.Proofs.YtjhndilflcigiaaDoor
namespace Go.Proofs.YtjhndilflcigiaaDoor
open Go.RowKit

/-- next's end. -/
def RetNx (s : List UInt8) (most : Int) (w : World) (e : Ending) (w' : World) : Prop :=
  e = .returned (.tuple #[.int .i64 (nVal s most), .int .i64 (nLen s most), .int .i64 (nErr s most)]) ∧ w = w'
theorem RetNx.bad {s : List UInt8} {most : Int} {w : World} {e : Int} (h : nErr s most = e) (h0 : e ≠ 0) : RetNx s most w (.returned (.tuple #[.int .i64 0, .int .i64 0, .int .i64 e])) w := by
  refine ⟨?_, rfl⟩
  rw [nVal_bad (by omega), nLen_bad (by omega), h]; rfl

end Go.Proofs.YtjhndilflcigiaaDoor
