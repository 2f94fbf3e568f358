/-
  The walk of the statement EvalJoins, of two filters and a card that are looked at.
-/
import Derived.Test.YtldoedmclfbgpaaEj5
namespace Go.Proofs.Ytldoedmclfbgpaa
open Go.RowKit

theorem Tr.flat_ok_len {t : Tr} (h : ∀ x ∈ t.flat, x.ok = true) : ∀ x ∈ t.flat, x.v.s.length ≤ 9223372036854775807 := fun x hx => by have := Node.ok_len (h x hx); omega
/-- A joined list, of the call's own. -/
def RetT (w : World) (t : Tr) (e : Ending) (w' : World) : Prop := ∃ g c, e = .returned (.slice (some ⟨g, 0, none⟩) t.flat.length c) ∧ Below w.heap.size w w' ∧ InN w' (some ⟨g, 0, none⟩) c t.flat
theorem retT {w : World} {t : Tr} {l : List Node} {et : TypeId} (h : t.flat = l) (hl : l.length ≤ 4294967296) {e : Ending} {w' : World} (r : RetS 5 Node.cells et w l e w') : RetT w t e w' := by
  obtain ⟨v, rfl, own, hb⟩ := r
  have hp : 1 ≤ l.length := by rw [← h]; exact t.flat_len
  obtain ⟨g, c, rfl, -, hi⟩ := own_in5 own hp hl
  rw [← h] at hi ⊢
  exact ⟨g, c, rfl, hb, hi⟩
theorem one_ok {a : Tr} (h : ∀ x ∈ a.flat, x.ok = true) : ∀ x ∈ (Tr.one (jn 10) a).flat, x.ok = true := by
  intro x hx
  rcases List.mem_cons.1 hx with rfl | hx
  · exact jn_ok (.inl rfl)
  · exact h x hx
theorem two_ok {op : Int} (ho : op = 11 ∨ op = 12) {a b : Tr} (ha : ∀ x ∈ a.flat, x.ok = true) (hb : ∀ x ∈ b.flat, x.ok = true) : ∀ x ∈ (Tr.two (jn op) a b).flat, x.ok = true := by
  intro x hx
  rcases List.mem_cons.1 hx with rfl | hx
  · exact jn_ok (.inr ho)
  · rcases List.mem_append.1 hx with hx | hx
    · exact ha x hx
    · exact hb x hx
theorem longF_short' {c : Card} (h8 : c.f.length = 8) (hlab : c.lab < 4294967296) (h : longF c.f = false) : shortC c :=
  ⟨h8, hlab, fun x hx => by have := List.any_eq_false.1 h x hx; simpa using this⟩
set_option maxRecDepth 10000 in
set_option maxHeartbeats 4000000 in
theorem law13_EvalJoins_main (ta tb : Tr) (wa : ta.wf) (wb : tb.wf) (oka : ∀ x ∈ ta.flat, x.ok = true) (okb : ∀ x ∈ tb.flat, x.ok = true) (chka : check ta.flat = 0) (chkb : check tb.flat = 0) (la : ta.flat.length ≤ 31) (lb : tb.flat.length ≤ 31) (A B : Option Addr) (ca cb : Nat) (c : Card) (g : Nat) (w : World)
    (hA : InN w A ca ta.flat) (hB : InN w B cb tb.flat) (h8 : c.f.length = 8) (hlab : c.lab < 4294967296) (hg : g < 4294967296) (hf : longF c.f = false) (hM : MaxV w) :
    Calls Try.prog 4 #[.slice A ta.flat.length ca, .slice B tb.flat.length cb, .agg (askA c g)] w (RetV w (.bool true)) := by
  have ka : ∀ w', Below w.heap.size w w' → Calls Try.prog 15 #[.slice A ta.flat.length ca] w' (RetV w' (.int .i64 0)) := fun w' hb => by
    have := c_ref10_Check ta.flat A ca w' (hA.below hb) (Tr.flat_ok_len oka)
    rw [chka] at this; exact this
  have kb : ∀ w', Below w.heap.size w w' → Calls Try.prog 15 #[.slice B tb.flat.length cb] w' (RetV w' (.int .i64 0)) := fun w' hb => by
    have := c_ref10_Check tb.flat B cb w' (hB.below hb) (Tr.flat_ok_len okb)
    rw [chkb] at this; exact this
  have hsh := longF_short' h8 hlab hf
  have HA := Lib.hid hA
  have HB := Lib.hid hB
  clear hA hB
  obtain ⟨ma, hma⟩ : ∃ m, m = ta.mat c g := ⟨_, rfl⟩
  obtain ⟨mb, hmb⟩ : ∃ m, m = tb.mat c g := ⟨_, rfl⟩
  obtain ⟨t10, h10⟩ : ∃ t, t = Tr.one (jn 10) ta := ⟨_, rfl⟩
  obtain ⟨t11, h11⟩ : ∃ t, t = Tr.two (jn 11) ta tb := ⟨_, rfl⟩
  obtain ⟨t12, h12⟩ : ∃ t, t = Tr.two (jn 12) ta tb := ⟨_, rfl⟩
  have W10 : t10.wf ∧ (∀ x ∈ t10.flat, x.ok = true) ∧ t10.mat c g = !ma := by
    subst h10 hma
    exact ⟨⟨rfl, wa⟩, one_ok oka, rfl⟩
  have W11 : t11.wf ∧ (∀ x ∈ t11.flat, x.ok = true) ∧ t11.mat c g = (ma && mb) := by
    subst h11 hma hmb
    exact ⟨⟨.inl rfl, wa, wb⟩, two_ok (.inl rfl) oka okb, rfl⟩
  have W12 : t12.wf ∧ (∀ x ∈ t12.flat, x.ok = true) ∧ t12.mat c g = (ma || mb) := by
    subst h12 hma hmb
    exact ⟨⟨.inr rfl, wa, wb⟩, two_ok (.inr rfl) oka okb, rfl⟩
  have W10 := Lib.hid W10
  have W11 := Lib.hid W11
  have W12 := Lib.hid W12
  have HM := Lib.hid (fun w' (hb : Below w.heap.size w w') => hM.below hb)
  have KA := Lib.hid ka
  have KB := Lib.hid kb
  clear ka kb hM
  obtain ⟨w1, hw1⟩ : ∃ w1, w1 = w.alloc (.cells (askA c g) 41) := ⟨_, rfl⟩
  have b1 : Below w.heap.size w w1 := by rw [hw1]; exact (by repeat (first | exact Below.refl _ _ | refine Below.drew ?_ | refine Below.alloc ?_ (by first | omega | (simp; done) | (simp; omega)) _ | refine Below.setCell ?_ (by first | omega | (simp; done) | (simp; omega)) _ | refine Below.trans ?_ (Below.mono (by assumption) (by first | omega | (simp; done) | (simp; omega)))))
  have C1 := Lib.hid (show Blk w1 w.heap.size (askA c g) by rw [hw1]; exact Blk.new w _ _)
  have S1 := Lib.hid b1
  have s1 := b1.size
  clear b1
  have CF := Lib.hid (fun w => c_Large c.f w h8)
  rw [hf] at CF
  go_enter Try.func4, Try.ntmps4
  go_wp2_with (rw [← hw1]; clear hw1)
  refine (KA.out w1 S1.out).mono ?_
  rintro e w2 ⟨rfl, hb2⟩
  have S2 := Lib.hid (S1.out.trans (hb2.mono s1))
  have C2 := Lib.hid (C1.out.below hb2 C1.out.lt)
  clear hb2
  go_wp2_with (fail)
  refine (KB.out w2 S2.out).mono ?_
  rintro e w3 ⟨rfl, hb3⟩
  have S3 := Lib.hid (S2.out.trans (hb3.mono S2.out.size))
  have C3 := Lib.hid (C2.out.below hb3 C2.out.lt)
  clear hb3
  go_wp2_with (with_reducible refine slG 37 _ rfl ?_)
  refine Stop.mk (wlG rfl _ _ rfl w.heap.size 3 rfl (farr c.f) (fun j u hu => C3.out.cell (askA_card (by rw [Card.arr_tail]; exact hu))) strF (by rw [farr_size, h8]) ?_)
  go_wp2_with (fail)
  refine (CF.out _).mono ?_
  rintro e w4 ⟨rfl, hb4⟩
  have S4 := Lib.hid (S3.out.trans (hb4.mono S3.out.size))
  have C4 := Lib.hid (C3.out.below hb4 C3.out.lt)
  clear hb4 CF KA KB C1 C2 C3 S1 S2 S3
  obtain ⟨w5, hw5⟩ : ∃ w5, w5 = w4.alloc (.cells #[.slice A ta.flat.length ca, .slice B tb.flat.length cb] 33) := ⟨_, rfl⟩
  have b5 : Below w4.heap.size w4 w5 := by rw [hw5]; exact (by repeat (first | exact Below.refl _ _ | refine Below.drew ?_ | refine Below.alloc ?_ (by first | omega | (simp; done) | (simp; omega)) _ | refine Below.setCell ?_ (by first | omega | (simp; done) | (simp; omega)) _ | refine Below.trans ?_ (Below.mono (by assumption) (by first | omega | (simp; done) | (simp; omega)))))
  have L2 : In 1 Kid.cells w5 (some ⟨w4.heap.size, 0, none⟩) 2 [(A, ca, ta.flat), (B, cb, tb.flat)] := by
    rw [hw5]; exact In.lit (k := 1) (cs := Kid.cells) Kid.cells_len w4 [(A, ca, ta.flat), (B, cb, tb.flat)] _ 2 rfl (by simp)
  have L1 : In 1 Kid.cells w5 (some ⟨w4.heap.size, 0, none⟩) 2 [(A, ca, ta.flat)] := by
    obtain ⟨b, off, hA', hb, hrow⟩ := L2.at (i := 0) (by simp)
    have := L2.sub (i := 0) (j := 1) (by omega) (by simp) (by rw [hA'] at L2; injection hA' with e1; injection e1 with e1 e2 _; subst e1 e2; exact ⟨hb, hrow⟩)
    simpa using this
  have T5 := S4.out.trans (b5.mono S4.out.size)
  have A5 := HA.out.below T5
  have B5 := HB.out.below T5
  have J10 := Lib.hid (fun w' (hb : Below w5.heap.size w5 w') => (c_ref10_Join 10 [(A, ca, ta.flat)] (some ⟨w4.heap.size, 0, none⟩) 2 w' (L1.below hb) (fun o ho => by
    rw [List.mem_singleton.1 ho]; exact A5.below hb) (by simp [sumLen]; omega)).mono fun e w'' r => retT (t := t10) (by rw [h10]; simp [Tr.one_flat]) (by simp [joined]; omega) r)
  have J11 := Lib.hid (fun w' (hb : Below w5.heap.size w5 w') => (c_ref10_Join 11 [(A, ca, ta.flat), (B, cb, tb.flat)] (some ⟨w4.heap.size, 0, none⟩) 2 w' (L2.below hb) (fun o ho => by
    simp only [List.mem_cons, List.not_mem_nil, or_false] at ho
    rcases ho with rfl | rfl
    · exact A5.below hb
    · exact B5.below hb) (by simp [sumLen]; omega)).mono fun e w'' r => retT (t := t11) (by rw [h11]; simp [Tr.two_flat]) (by simp [joined]; omega) r)
  have J12 := Lib.hid (fun w' (hb : Below w5.heap.size w5 w') => (c_ref10_Join 12 [(A, ca, ta.flat), (B, cb, tb.flat)] (some ⟨w4.heap.size, 0, none⟩) 2 w' (L2.below hb) (fun o ho => by
    simp only [List.mem_cons, List.not_mem_nil, or_false] at ho
    rcases ho with rfl | rfl
    · exact A5.below hb
    · exact B5.below hb) (by simp [sumLen]; omega)).mono fun e w'' r => retT (t := t12) (by rw [h12]; simp [Tr.two_flat]) (by simp [joined]; omega) r)
  have HA5 := Lib.hid A5
  have HB5 := Lib.hid B5
  have HT5 := Lib.hid T5
  have C5 := Lib.hid (C4.out.below b5 C4.out.lt)
  have M5 := Lib.hid (fun w' (hb : Below w5.heap.size w5 w') => (HM.out _ T5).below hb)
  have s5 := b5.size
  have HMA := Lib.hid hma
  have HMB := Lib.hid hmb
  clear hma hmb h10 h11 h12 b5 L1 L2 T5 A5 B5 C4 HM HA HB
  go_wp2_with (fail)
  rw [← hw5]
  clear hw5
  refine (J10.out w5 (Below.refl _ _)).mono ?_
  rintro e w6 ⟨g6, c6, rfl, hb6, i6⟩
  have T6 := Lib.hid hb6
  have I6 := Lib.hid i6
  clear hb6 i6
  go_wp2_with (fail)
  refine (c_NewO t10 _ _ w6 I6.out (Tr.flat_ok_len W10.out.2.1) (M5.out _ T6.out)).mono ?_
  rintro e w7 ⟨v8, rfl, hb7, O8⟩
  have s6 := T6.out.size
  have T7 := Lib.hid (T6.out.trans (hb7.mono s6))
  have s7 := hb7.size
  have O8 := Lib.hid O8
  clear hb7
  go_wp2_with (fail)
  refine (J11.out w7 T7.out).mono ?_
  rintro e w8 ⟨g8, c8, rfl, hb8, i8⟩
  have T8 := Lib.hid (T7.out.trans (hb8.mono T7.out.size))
  have s8 := hb8.size
  have I8 := Lib.hid i8
  have X8 := Lib.hid hb8
  clear hb8 i8
  go_wp2_with (fail)
  refine (c_NewO t11 _ _ w8 I8.out (Tr.flat_ok_len W11.out.2.1) (M5.out _ T8.out)).mono ?_
  rintro e w9 ⟨v9, rfl, hb9, O9⟩
  have T9 := Lib.hid (T8.out.trans (hb9.mono T8.out.size))
  have s9 := hb9.size
  have X9 := Lib.hid (X8.out.trans (hb9.mono s8))
  have O9 := Lib.hid O9
  clear hb9
  go_wp2_with (fail)
  refine (J12.out w9 T9.out).mono ?_
  rintro e w10 ⟨g10, c10, rfl, hb10, i10⟩
  have T10 := Lib.hid (T9.out.trans (hb10.mono T9.out.size))
  have s10 := hb10.size
  have I10 := Lib.hid i10
  have X10 := Lib.hid (X9.out.trans (hb10.mono X9.out.size))
  have Y10 := Lib.hid hb10
  clear hb10 i10
  go_wp2_with (fail)
  refine (c_NewO t12 _ _ w10 I10.out (Tr.flat_ok_len W12.out.2.1) (M5.out _ T10.out)).mono ?_
  rintro e w11 ⟨v10, rfl, hb11, O10⟩
  have T11 := Lib.hid (T10.out.trans (hb11.mono T10.out.size))
  have s11 := hb11.size
  have X11 := Lib.hid (X10.out.trans (hb11.mono X10.out.size))
  have Y11 := Lib.hid (Y10.out.trans (hb11.mono s10))
  have O10 := Lib.hid O10
  clear hb11 X8 X9 X10 Y10 I6 I8 I10
  go_wp2_with (fail)
  have O8' := Lib.hid (show (check t10.flat ≠ 0 ∧ v8 = .pointer none) ∨ (check t10.flat = 0 ∧ ∃ b, v8 = .pointer (some ⟨b, 0, none⟩) ∧ b < w8.heap.size ∧ FltL w6.heap.size w11 b t10) from O8.out.imp id fun ⟨h, b, e, f⟩ => ⟨h, b, e, by have := f.1.lt; omega, f.below X11.out⟩)
  have O9' := Lib.hid (show (check t11.flat ≠ 0 ∧ v9 = .pointer none) ∨ (check t11.flat = 0 ∧ ∃ b, v9 = .pointer (some ⟨b, 0, none⟩) ∧ b < w10.heap.size ∧ FltL w8.heap.size w11 b t11) from O9.out.imp id fun ⟨h, b, e, f⟩ => ⟨h, b, e, by have := f.1.lt; omega, f.below Y11.out⟩)
  have AX := Lib.hid (C5.out.below T11.out C5.out.lt)
  have z5 : w.heap.size < w5.heap.size := C5.out.lt
  clear O8 O9 X11 Y11 T6 T7 T8 T9 T10
  refine wp_region_relM (VW [some (.slice A ta.flat.length ca), none, some (.pointer (some ⟨w.heap.size, 0, none⟩)), some (.agg c.arr), some (.pointer (some ⟨w.heap.size, 27, none⟩)), some (.int .u32 g), some (.bool ma),
    some (.slice B tb.flat.length cb), none, some (.pointer (some ⟨w.heap.size, 0, none⟩)), some (.agg c.arr), some (.pointer (some ⟨w.heap.size, 27, none⟩)), some (.int .u32 g), some (.bool mb), some (.bool ma), some (.bool mb)]) (JM w11 ta tb) 111 (by kernel_rfl) (by kernel_rfl) rfl ?_ ?_ ?_
  · intro u w' hb hh
    exact ⟨hb, (fun e => (by first | cases e | simp at e)), (fun e => (by first | cases e | simp at e)), (fun e => (by first | cases e | simp at e)), (fun e => (by first | cases e | simp at e)), (fun e => (by first | cases e | simp at e))⟩
  · refine ⟨?_, ?_, ?_, ?_, ?_, ?_, ?_, ?_, ?_, ?_, ?_, ?_, ?_, ?_, ?_, ?_, trivial⟩
    all_goals
      rintro L u W1 hM hL hd
      have M := Lib.hid hM
      have hz := hM.S.size
      have qg := (AX.out.below hM.S AX.out.lt).cell (askA_grp h8 g)
      clear hM
      simp [DepsM, Region.binds, VW] at hd
      simp only [putDeps, dstOf, Region.binds]
      try simp only [hd]
    case refine_2 =>
      have CX := Lib.hid (c_New ta A ca W1 ((HA5.out.below T11.out).below M.out.S) (Tr.flat_ok_len oka) chka (M5.out _ (T11.out.trans (M.out.S.mono T11.out.size))))
      go_wp2_with (fail)
      refine CX.out.mono ?_
      rintro e W2 ⟨b, rfl, hb, hbl, hf⟩
      go_wp2_with (fail)
      exact EndM.mk rfl ⟨trivial, M.out.new1 hL hb hbl hf⟩
    case refine_9 =>
      have h6 : L 6 = true := by first | exact hd.1 | exact hd.2.1 | exact hd.1.1 | exact hd.2 | exact hd.2.2.1 | exact hd.2.2
      have CX := Lib.hid (c_New tb B cb W1 ((HB5.out.below T11.out).below M.out.S) (Tr.flat_ok_len okb) chkb (M5.out _ (T11.out.trans (M.out.S.mono T11.out.size))))
      go_wp2_with (fail)
      refine CX.out.mono ?_
      rintro e W2 ⟨b, rfl, hb, hbl, hf⟩
      go_wp2_with (fail)
      exact EndM.mk rfl ⟨trivial, M.out.new8 hL h6 hb hbl hf⟩
    case refine_4 =>
      have CB := Lib.hid (AX.out.below M.out.S AX.out.lt)
      go_wp2_with (with_reducible refine slG 39 _ rfl ?_)
      refine Stop.mk (wlG rfl _ _ rfl w.heap.size 0 rfl c.arr (fun j u hu => by rw [Nat.zero_add]; exact CB.out.cell (askA_card hu)) strC (by rw [Card.arr_size, h8]) ?_)
      go_wp2_with (fail)
      exact EndM.mk rfl ⟨rfl, M.out.pure (by decide) (by decide) (by decide) (by decide)⟩
    case refine_11 =>
      have CB := Lib.hid (AX.out.below M.out.S AX.out.lt)
      go_wp2_with (with_reducible refine slG 39 _ rfl ?_)
      refine Stop.mk (wlG rfl _ _ rfl w.heap.size 0 rfl c.arr (fun j u hu => by rw [Nat.zero_add]; exact CB.out.cell (askA_card hu)) strC (by rw [Card.arr_size, h8]) ?_)
      go_wp2_with (fail)
      exact EndM.mk rfl ⟨rfl, M.out.pure (by decide) (by decide) (by decide) (by decide)⟩
    case refine_7 =>
      have h1 : L 1 = true := by first | exact hd.1 | exact hd.2.1 | exact hd.1.1 | exact hd.2 | exact hd.2.2.1 | exact hd.2.2 | exact hd.2.2.2
      obtain ⟨b, hub, hbg, hf⟩ := M.out.n1 h1 hL
      rw [hub]
      have CX := c_Match_first ta wa oka b c g hsh hg W1 (M5.out _ (T11.out.trans (M.out.S.mono T11.out.size))) hf
      rw [← HMA.out] at CX
      have CX := Lib.hid CX
      clear hub hf
      go_wp2_with (fail)
      refine CX.out.mono ?_
      rintro e W2 ⟨rfl, hk, -⟩
      go_wp2_with (fail)
      exact EndM.mk rfl ⟨rfl, M.out.ask1 hL h1 hk hbg⟩
    case refine_14 =>
      have h8' : L 8 = true := by first | exact hd.1 | exact hd.2.1 | exact hd.1.1 | exact hd.2 | exact hd.2.2.1 | exact hd.2.2 | exact hd.2.2.2
      obtain ⟨b, hub, hbg, hf⟩ := M.out.n8 h8' hL
      rw [hub]
      have CX := c_Match_first tb wb okb b c g hsh hg W1 (M5.out _ (T11.out.trans (M.out.S.mono T11.out.size))) hf
      rw [← HMB.out] at CX
      have CX := Lib.hid CX
      clear hub hf
      go_wp2_with (fail)
      refine CX.out.mono ?_
      rintro e W2 ⟨rfl, hk, -⟩
      go_wp2_with (fail)
      exact EndM.mk rfl ⟨rfl, M.out.ask8 h8' hk hbg⟩
    all_goals
      go_wp2_with (fail)
      exact EndM.mk rfl ⟨by first | rfl | trivial | (show _ = _; simp), M.out.pure (by decide) (by decide) (by decide) (by decide)⟩
  rintro u W1 hv hM
  have h14 : u 14 = .bool ma := hv 14 (by simp)
  have h15 : u 15 = .bool mb := hv 15 (by simp)
  have hS := hM.S
  have hz := hS.size
  clear hv hM
  simp only [putAll, Act.put, Nat.reduceAdd, List.setIfInBounds_toArray, List.set_cons_zero, List.set_cons_succ]
  rw [h14, h15]
  clear h14 h15
  have T := Lib.hid (T11.out.trans (hS.mono T11.out.size))
  have P8 := Lib.hid (show (check t10.flat ≠ 0 ∧ v8 = .pointer none) ∨ (check t10.flat = 0 ∧ ∃ b, v8 = .pointer (some ⟨b, 0, none⟩) ∧ b < w8.heap.size ∧ FltL w6.heap.size W1 b t10) from O8'.out.imp id fun ⟨h, b, e, l, f⟩ => ⟨h, b, e, l, f.below hS⟩)
  have P9 := Lib.hid (show (check t11.flat ≠ 0 ∧ v9 = .pointer none) ∨ (check t11.flat = 0 ∧ ∃ b, v9 = .pointer (some ⟨b, 0, none⟩) ∧ b < w10.heap.size ∧ FltL w8.heap.size W1 b t11) from O9'.out.imp id fun ⟨h, b, e, l, f⟩ => ⟨h, b, e, l, f.below hS⟩)
  have P10 := Lib.hid (show (check t12.flat ≠ 0 ∧ v10 = .pointer none) ∨ (check t12.flat = 0 ∧ ∃ b, v10 = .pointer (some ⟨b, 0, none⟩) ∧ FltL w10.heap.size W1 b t12) from O10.out.imp id fun ⟨h, b, e, f⟩ => ⟨h, b, e, f.below hS⟩)
  replace AX := Lib.hid (C5.out.below T.out C5.out.lt)
  clear O8' O9' O10 hS hz T11 HA5 HB5 J10 J12 HMA HMB
  have r5 : w5.heap.size ≤ w6.heap.size := s6
  cases ma
  all_goals
    rcases P8.out with ⟨k8, rfl⟩ | ⟨k8, b8, rfl, l8, F8⟩
    all_goals
      rcases P9.out with ⟨k9, rfl⟩ | ⟨k9, b9, rfl, l9, F9⟩
      all_goals
        rcases P10.out with ⟨k10, rfl⟩ | ⟨k10, b10, rfl, F10⟩
        all_goals clear P8 P9 P10
  · have hck : (check t11.flat != 0) = true := by first | (simpa using k9) | (rw [k9]; rfl)
    go_wp2_with (fail)
    refine (J11.out _ T.out).mono ?_
    rintro e W3 ⟨gz, cz, rfl, hbz, iz⟩
    replace T := Lib.hid (T.out.trans (hbz.mono T.out.size))
    have IZ := Lib.hid iz
    clear hbz iz
    go_wp2_with (fail)
    refine (c_ref10_Check t11.flat _ _ _ IZ.out (Tr.flat_ok_len W11.out.2.1)).mono ?_
    rintro e W4 ⟨rfl, hbz⟩
    replace T := Lib.hid (T.out.trans (hbz.mono T.out.size))
    clear hbz
    go_wp2_with (fail)
    refine (c_law13_awake _ (M5.out _ T.out)).mono ?_
    rintro e W5 ⟨rfl, hbz⟩
    replace T := Lib.hid (T.out.trans (hbz.mono T.out.size))
    clear hbz
    go_wp2_with (fail)
    go_ret
    exact RetV.bool rfl (HT5.out.trans (T.out.mono HT5.out.size))
  · go_wp2_with (with_reducible refine slG 39 _ rfl ?_)
    refine Stop.mk (wlG rfl _ _ rfl w.heap.size 0 rfl c.arr (fun j u hu => by rw [Nat.zero_add]; exact AX.out.cell (askA_card hu)) strC (by rw [Card.arr_size, h8]) ?_)
    have qg := AX.out.cell (askA_grp h8 g)
    go_wp2_with (fail)
    have CX := c_Match_first t12 W12.out.1 W12.out.2.1 b10 c g hsh hg _ (M5.out _ T.out) F10.1
    rw [W12.out.2.2] at CX
    refine CX.mono ?_
    clear CX qg
    rintro e W2 ⟨rfl, hk, -⟩
    have hz := T.out.size
    have hq := F10.2.1
    replace T := Lib.hid (T.out.trans (hk.oneB hz (by omega)))
    replace AX := Lib.hid (C5.out.below T.out C5.out.lt)
    have hck : (check t11.flat != 0) = true := by first | (simpa using k9) | (rw [k9]; rfl)
    go_wp2_with (fail)
    refine (J11.out _ T.out).mono ?_
    rintro e W3 ⟨gz, cz, rfl, hbz, iz⟩
    replace T := Lib.hid (T.out.trans (hbz.mono T.out.size))
    have IZ := Lib.hid iz
    clear hbz iz
    go_wp2_with (fail)
    refine (c_ref10_Check t11.flat _ _ _ IZ.out (Tr.flat_ok_len W11.out.2.1)).mono ?_
    rintro e W4 ⟨rfl, hbz⟩
    replace T := Lib.hid (T.out.trans (hbz.mono T.out.size))
    clear hbz
    go_wp2_with (fail)
    refine (c_law13_awake _ (M5.out _ T.out)).mono ?_
    rintro e W5 ⟨rfl, hbz⟩
    replace T := Lib.hid (T.out.trans (hbz.mono T.out.size))
    clear hbz
    go_wp2_with (fail)
    go_ret
    exact RetV.bool rfl (HT5.out.trans (T.out.mono HT5.out.size))
  · go_wp2_with (with_reducible refine slG 39 _ rfl ?_)
    refine Stop.mk (wlG rfl _ _ rfl w.heap.size 0 rfl c.arr (fun j u hu => by rw [Nat.zero_add]; exact AX.out.cell (askA_card hu)) strC (by rw [Card.arr_size, h8]) ?_)
    have qg := AX.out.cell (askA_grp h8 g)
    go_wp2_with (fail)
    have CX := c_Match_first t11 W11.out.1 W11.out.2.1 b9 c g hsh hg _ (M5.out _ T.out) F9.1
    rw [W11.out.2.2] at CX
    refine CX.mono ?_
    clear CX qg
    rintro e W2 ⟨rfl, hk, -⟩
    have hz := T.out.size
    have hq := F9.2.1
    replace T := Lib.hid (T.out.trans (hk.oneB hz (by omega)))
    replace AX := Lib.hid (C5.out.below T.out C5.out.lt)
    have hck : (check t11.flat != 0) = false := by first | (simpa using k9) | (rw [k9]; rfl)
    go_wp2_with (fail)
    refine (J11.out _ T.out).mono ?_
    rintro e W3 ⟨gz, cz, rfl, hbz, iz⟩
    replace T := Lib.hid (T.out.trans (hbz.mono T.out.size))
    have IZ := Lib.hid iz
    clear hbz iz
    go_wp2_with (fail)
    refine (c_ref10_Check t11.flat _ _ _ IZ.out (Tr.flat_ok_len W11.out.2.1)).mono ?_
    rintro e W4 ⟨rfl, hbz⟩
    replace T := Lib.hid (T.out.trans (hbz.mono T.out.size))
    clear hbz
    go_wp2_with (fail)
    refine (c_law13_awake _ (M5.out _ T.out)).mono ?_
    rintro e W5 ⟨rfl, hbz⟩
    replace T := Lib.hid (T.out.trans (hbz.mono T.out.size))
    clear hbz
    go_wp2_with (fail)
    go_ret
    exact RetV.bool rfl (HT5.out.trans (T.out.mono HT5.out.size))
  · go_wp2_with (with_reducible refine slG 39 _ rfl ?_)
    refine Stop.mk (wlG rfl _ _ rfl w.heap.size 0 rfl c.arr (fun j u hu => by rw [Nat.zero_add]; exact AX.out.cell (askA_card hu)) strC (by rw [Card.arr_size, h8]) ?_)
    have qg := AX.out.cell (askA_grp h8 g)
    go_wp2_with (fail)
    have CX := c_Match_first t11 W11.out.1 W11.out.2.1 b9 c g hsh hg _ (M5.out _ T.out) F9.1
    rw [W11.out.2.2] at CX
    refine CX.mono ?_
    clear CX qg
    rintro e W2 ⟨rfl, hk, -⟩
    have hz := T.out.size
    have hq := F9.2.1
    replace T := Lib.hid (T.out.trans (hk.oneB hz (by omega)))
    replace AX := Lib.hid (C5.out.below T.out C5.out.lt)
    have F10 := F10.kept hk l9
    go_wp2_with (with_reducible refine slG 39 _ rfl ?_)
    refine Stop.mk (wlG rfl _ _ rfl w.heap.size 0 rfl c.arr (fun j u hu => by rw [Nat.zero_add]; exact AX.out.cell (askA_card hu)) strC (by rw [Card.arr_size, h8]) ?_)
    have qg := AX.out.cell (askA_grp h8 g)
    go_wp2_with (fail)
    have CX := c_Match_first t12 W12.out.1 W12.out.2.1 b10 c g hsh hg _ (M5.out _ T.out) F10.1
    rw [W12.out.2.2] at CX
    refine CX.mono ?_
    clear CX qg
    rintro e W2 ⟨rfl, hk, -⟩
    have hz := T.out.size
    have hq := F10.2.1
    replace T := Lib.hid (T.out.trans (hk.oneB hz (by omega)))
    replace AX := Lib.hid (C5.out.below T.out C5.out.lt)
    have hck : (check t11.flat != 0) = false := by first | (simpa using k9) | (rw [k9]; rfl)
    go_wp2_with (fail)
    refine (J11.out _ T.out).mono ?_
    rintro e W3 ⟨gz, cz, rfl, hbz, iz⟩
    replace T := Lib.hid (T.out.trans (hbz.mono T.out.size))
    have IZ := Lib.hid iz
    clear hbz iz
    go_wp2_with (fail)
    refine (c_ref10_Check t11.flat _ _ _ IZ.out (Tr.flat_ok_len W11.out.2.1)).mono ?_
    rintro e W4 ⟨rfl, hbz⟩
    replace T := Lib.hid (T.out.trans (hbz.mono T.out.size))
    clear hbz
    go_wp2_with (fail)
    refine (c_law13_awake _ (M5.out _ T.out)).mono ?_
    rintro e W5 ⟨rfl, hbz⟩
    replace T := Lib.hid (T.out.trans (hbz.mono T.out.size))
    clear hbz
    go_wp2_with (fail)
    go_ret
    exact RetV.bool rfl (HT5.out.trans (T.out.mono HT5.out.size))
  · go_wp2_with (with_reducible refine slG 39 _ rfl ?_)
    refine Stop.mk (wlG rfl _ _ rfl w.heap.size 0 rfl c.arr (fun j u hu => by rw [Nat.zero_add]; exact AX.out.cell (askA_card hu)) strC (by rw [Card.arr_size, h8]) ?_)
    have qg := AX.out.cell (askA_grp h8 g)
    go_wp2_with (fail)
    have CX := c_Match_first t10 W10.out.1 W10.out.2.1 b8 c g hsh hg _ (M5.out _ T.out) F8.1
    rw [W10.out.2.2] at CX
    refine CX.mono ?_
    clear CX qg
    rintro e W2 ⟨rfl, hk, -⟩
    have hz := T.out.size
    have hq := F8.2.1
    replace T := Lib.hid (T.out.trans (hk.oneB hz (by omega)))
    replace AX := Lib.hid (C5.out.below T.out C5.out.lt)
    have hck : (check t11.flat != 0) = true := by first | (simpa using k9) | (rw [k9]; rfl)
    go_wp2_with (fail)
    refine (J11.out _ T.out).mono ?_
    rintro e W3 ⟨gz, cz, rfl, hbz, iz⟩
    replace T := Lib.hid (T.out.trans (hbz.mono T.out.size))
    have IZ := Lib.hid iz
    clear hbz iz
    go_wp2_with (fail)
    refine (c_ref10_Check t11.flat _ _ _ IZ.out (Tr.flat_ok_len W11.out.2.1)).mono ?_
    rintro e W4 ⟨rfl, hbz⟩
    replace T := Lib.hid (T.out.trans (hbz.mono T.out.size))
    clear hbz
    go_wp2_with (fail)
    refine (c_law13_awake _ (M5.out _ T.out)).mono ?_
    rintro e W5 ⟨rfl, hbz⟩
    replace T := Lib.hid (T.out.trans (hbz.mono T.out.size))
    clear hbz
    go_wp2_with (fail)
    go_ret
    exact RetV.bool rfl (HT5.out.trans (T.out.mono HT5.out.size))
  · go_wp2_with (with_reducible refine slG 39 _ rfl ?_)
    refine Stop.mk (wlG rfl _ _ rfl w.heap.size 0 rfl c.arr (fun j u hu => by rw [Nat.zero_add]; exact AX.out.cell (askA_card hu)) strC (by rw [Card.arr_size, h8]) ?_)
    have qg := AX.out.cell (askA_grp h8 g)
    go_wp2_with (fail)
    have CX := c_Match_first t10 W10.out.1 W10.out.2.1 b8 c g hsh hg _ (M5.out _ T.out) F8.1
    rw [W10.out.2.2] at CX
    refine CX.mono ?_
    clear CX qg
    rintro e W2 ⟨rfl, hk, -⟩
    have hz := T.out.size
    have hq := F8.2.1
    replace T := Lib.hid (T.out.trans (hk.oneB hz (by omega)))
    replace AX := Lib.hid (C5.out.below T.out C5.out.lt)
    have F10 := F10.kept hk (by omega)
    go_wp2_with (with_reducible refine slG 39 _ rfl ?_)
    refine Stop.mk (wlG rfl _ _ rfl w.heap.size 0 rfl c.arr (fun j u hu => by rw [Nat.zero_add]; exact AX.out.cell (askA_card hu)) strC (by rw [Card.arr_size, h8]) ?_)
    have qg := AX.out.cell (askA_grp h8 g)
    go_wp2_with (fail)
    have CX := c_Match_first t12 W12.out.1 W12.out.2.1 b10 c g hsh hg _ (M5.out _ T.out) F10.1
    rw [W12.out.2.2] at CX
    refine CX.mono ?_
    clear CX qg
    rintro e W2 ⟨rfl, hk, -⟩
    have hz := T.out.size
    have hq := F10.2.1
    replace T := Lib.hid (T.out.trans (hk.oneB hz (by omega)))
    replace AX := Lib.hid (C5.out.below T.out C5.out.lt)
    have hck : (check t11.flat != 0) = true := by first | (simpa using k9) | (rw [k9]; rfl)
    go_wp2_with (fail)
    refine (J11.out _ T.out).mono ?_
    rintro e W3 ⟨gz, cz, rfl, hbz, iz⟩
    replace T := Lib.hid (T.out.trans (hbz.mono T.out.size))
    have IZ := Lib.hid iz
    clear hbz iz
    go_wp2_with (fail)
    refine (c_ref10_Check t11.flat _ _ _ IZ.out (Tr.flat_ok_len W11.out.2.1)).mono ?_
    rintro e W4 ⟨rfl, hbz⟩
    replace T := Lib.hid (T.out.trans (hbz.mono T.out.size))
    clear hbz
    go_wp2_with (fail)
    refine (c_law13_awake _ (M5.out _ T.out)).mono ?_
    rintro e W5 ⟨rfl, hbz⟩
    replace T := Lib.hid (T.out.trans (hbz.mono T.out.size))
    clear hbz
    go_wp2_with (fail)
    go_ret
    exact RetV.bool rfl (HT5.out.trans (T.out.mono HT5.out.size))
  · go_wp2_with (with_reducible refine slG 39 _ rfl ?_)
    refine Stop.mk (wlG rfl _ _ rfl w.heap.size 0 rfl c.arr (fun j u hu => by rw [Nat.zero_add]; exact AX.out.cell (askA_card hu)) strC (by rw [Card.arr_size, h8]) ?_)
    have qg := AX.out.cell (askA_grp h8 g)
    go_wp2_with (fail)
    have CX := c_Match_first t10 W10.out.1 W10.out.2.1 b8 c g hsh hg _ (M5.out _ T.out) F8.1
    rw [W10.out.2.2] at CX
    refine CX.mono ?_
    clear CX qg
    rintro e W2 ⟨rfl, hk, -⟩
    have hz := T.out.size
    have hq := F8.2.1
    replace T := Lib.hid (T.out.trans (hk.oneB hz (by omega)))
    replace AX := Lib.hid (C5.out.below T.out C5.out.lt)
    have F9 := F9.kept hk l8
    go_wp2_with (with_reducible refine slG 39 _ rfl ?_)
    refine Stop.mk (wlG rfl _ _ rfl w.heap.size 0 rfl c.arr (fun j u hu => by rw [Nat.zero_add]; exact AX.out.cell (askA_card hu)) strC (by rw [Card.arr_size, h8]) ?_)
    have qg := AX.out.cell (askA_grp h8 g)
    go_wp2_with (fail)
    have CX := c_Match_first t11 W11.out.1 W11.out.2.1 b9 c g hsh hg _ (M5.out _ T.out) F9.1
    rw [W11.out.2.2] at CX
    refine CX.mono ?_
    clear CX qg
    rintro e W2 ⟨rfl, hk, -⟩
    have hz := T.out.size
    have hq := F9.2.1
    replace T := Lib.hid (T.out.trans (hk.oneB hz (by omega)))
    replace AX := Lib.hid (C5.out.below T.out C5.out.lt)
    have hck : (check t11.flat != 0) = false := by first | (simpa using k9) | (rw [k9]; rfl)
    go_wp2_with (fail)
    refine (J11.out _ T.out).mono ?_
    rintro e W3 ⟨gz, cz, rfl, hbz, iz⟩
    replace T := Lib.hid (T.out.trans (hbz.mono T.out.size))
    have IZ := Lib.hid iz
    clear hbz iz
    go_wp2_with (fail)
    refine (c_ref10_Check t11.flat _ _ _ IZ.out (Tr.flat_ok_len W11.out.2.1)).mono ?_
    rintro e W4 ⟨rfl, hbz⟩
    replace T := Lib.hid (T.out.trans (hbz.mono T.out.size))
    clear hbz
    go_wp2_with (fail)
    refine (c_law13_awake _ (M5.out _ T.out)).mono ?_
    rintro e W5 ⟨rfl, hbz⟩
    replace T := Lib.hid (T.out.trans (hbz.mono T.out.size))
    clear hbz
    go_wp2_with (fail)
    go_ret
    exact RetV.bool rfl (HT5.out.trans (T.out.mono HT5.out.size))
  · go_wp2_with (with_reducible refine slG 39 _ rfl ?_)
    refine Stop.mk (wlG rfl _ _ rfl w.heap.size 0 rfl c.arr (fun j u hu => by rw [Nat.zero_add]; exact AX.out.cell (askA_card hu)) strC (by rw [Card.arr_size, h8]) ?_)
    have qg := AX.out.cell (askA_grp h8 g)
    go_wp2_with (fail)
    have CX := c_Match_first t10 W10.out.1 W10.out.2.1 b8 c g hsh hg _ (M5.out _ T.out) F8.1
    rw [W10.out.2.2] at CX
    refine CX.mono ?_
    clear CX qg
    rintro e W2 ⟨rfl, hk, -⟩
    have hz := T.out.size
    have hq := F8.2.1
    replace T := Lib.hid (T.out.trans (hk.oneB hz (by omega)))
    replace AX := Lib.hid (C5.out.below T.out C5.out.lt)
    have F9 := F9.kept hk l8
    have F10 := F10.kept hk (by omega)
    go_wp2_with (with_reducible refine slG 39 _ rfl ?_)
    refine Stop.mk (wlG rfl _ _ rfl w.heap.size 0 rfl c.arr (fun j u hu => by rw [Nat.zero_add]; exact AX.out.cell (askA_card hu)) strC (by rw [Card.arr_size, h8]) ?_)
    have qg := AX.out.cell (askA_grp h8 g)
    go_wp2_with (fail)
    have CX := c_Match_first t11 W11.out.1 W11.out.2.1 b9 c g hsh hg _ (M5.out _ T.out) F9.1
    rw [W11.out.2.2] at CX
    refine CX.mono ?_
    clear CX qg
    rintro e W2 ⟨rfl, hk, -⟩
    have hz := T.out.size
    have hq := F9.2.1
    replace T := Lib.hid (T.out.trans (hk.oneB hz (by omega)))
    replace AX := Lib.hid (C5.out.below T.out C5.out.lt)
    have F10 := F10.kept hk l9
    go_wp2_with (with_reducible refine slG 39 _ rfl ?_)
    refine Stop.mk (wlG rfl _ _ rfl w.heap.size 0 rfl c.arr (fun j u hu => by rw [Nat.zero_add]; exact AX.out.cell (askA_card hu)) strC (by rw [Card.arr_size, h8]) ?_)
    have qg := AX.out.cell (askA_grp h8 g)
    go_wp2_with (fail)
    have CX := c_Match_first t12 W12.out.1 W12.out.2.1 b10 c g hsh hg _ (M5.out _ T.out) F10.1
    rw [W12.out.2.2] at CX
    refine CX.mono ?_
    clear CX qg
    rintro e W2 ⟨rfl, hk, -⟩
    have hz := T.out.size
    have hq := F10.2.1
    replace T := Lib.hid (T.out.trans (hk.oneB hz (by omega)))
    replace AX := Lib.hid (C5.out.below T.out C5.out.lt)
    have hck : (check t11.flat != 0) = false := by first | (simpa using k9) | (rw [k9]; rfl)
    go_wp2_with (fail)
    refine (J11.out _ T.out).mono ?_
    rintro e W3 ⟨gz, cz, rfl, hbz, iz⟩
    replace T := Lib.hid (T.out.trans (hbz.mono T.out.size))
    have IZ := Lib.hid iz
    clear hbz iz
    go_wp2_with (fail)
    refine (c_ref10_Check t11.flat _ _ _ IZ.out (Tr.flat_ok_len W11.out.2.1)).mono ?_
    rintro e W4 ⟨rfl, hbz⟩
    replace T := Lib.hid (T.out.trans (hbz.mono T.out.size))
    clear hbz
    go_wp2_with (fail)
    refine (c_law13_awake _ (M5.out _ T.out)).mono ?_
    rintro e W5 ⟨rfl, hbz⟩
    replace T := Lib.hid (T.out.trans (hbz.mono T.out.size))
    clear hbz
    go_wp2_with (fail)
    go_ret
    exact RetV.bool rfl (HT5.out.trans (T.out.mono HT5.out.size))
  · have hck : (check t11.flat != 0) = true := by first | (simpa using k9) | (rw [k9]; rfl)
    go_wp2_with (fail)
    refine (J11.out _ T.out).mono ?_
    rintro e W3 ⟨gz, cz, rfl, hbz, iz⟩
    replace T := Lib.hid (T.out.trans (hbz.mono T.out.size))
    have IZ := Lib.hid iz
    clear hbz iz
    go_wp2_with (fail)
    refine (c_ref10_Check t11.flat _ _ _ IZ.out (Tr.flat_ok_len W11.out.2.1)).mono ?_
    rintro e W4 ⟨rfl, hbz⟩
    replace T := Lib.hid (T.out.trans (hbz.mono T.out.size))
    clear hbz
    go_wp2_with (fail)
    refine (c_law13_awake _ (M5.out _ T.out)).mono ?_
    rintro e W5 ⟨rfl, hbz⟩
    replace T := Lib.hid (T.out.trans (hbz.mono T.out.size))
    clear hbz
    go_wp2_with (fail)
    go_ret
    exact RetV.bool rfl (HT5.out.trans (T.out.mono HT5.out.size))
  · go_wp2_with (with_reducible refine slG 39 _ rfl ?_)
    refine Stop.mk (wlG rfl _ _ rfl w.heap.size 0 rfl c.arr (fun j u hu => by rw [Nat.zero_add]; exact AX.out.cell (askA_card hu)) strC (by rw [Card.arr_size, h8]) ?_)
    have qg := AX.out.cell (askA_grp h8 g)
    go_wp2_with (fail)
    have CX := c_Match_first t12 W12.out.1 W12.out.2.1 b10 c g hsh hg _ (M5.out _ T.out) F10.1
    rw [W12.out.2.2] at CX
    refine CX.mono ?_
    clear CX qg
    rintro e W2 ⟨rfl, hk, -⟩
    have hz := T.out.size
    have hq := F10.2.1
    replace T := Lib.hid (T.out.trans (hk.oneB hz (by omega)))
    replace AX := Lib.hid (C5.out.below T.out C5.out.lt)
    have hck : (check t11.flat != 0) = true := by first | (simpa using k9) | (rw [k9]; rfl)
    go_wp2_with (fail)
    refine (J11.out _ T.out).mono ?_
    rintro e W3 ⟨gz, cz, rfl, hbz, iz⟩
    replace T := Lib.hid (T.out.trans (hbz.mono T.out.size))
    have IZ := Lib.hid iz
    clear hbz iz
    go_wp2_with (fail)
    refine (c_ref10_Check t11.flat _ _ _ IZ.out (Tr.flat_ok_len W11.out.2.1)).mono ?_
    rintro e W4 ⟨rfl, hbz⟩
    replace T := Lib.hid (T.out.trans (hbz.mono T.out.size))
    clear hbz
    go_wp2_with (fail)
    refine (c_law13_awake _ (M5.out _ T.out)).mono ?_
    rintro e W5 ⟨rfl, hbz⟩
    replace T := Lib.hid (T.out.trans (hbz.mono T.out.size))
    clear hbz
    go_wp2_with (fail)
    go_ret
    exact RetV.bool rfl (HT5.out.trans (T.out.mono HT5.out.size))
  · go_wp2_with (with_reducible refine slG 39 _ rfl ?_)
    refine Stop.mk (wlG rfl _ _ rfl w.heap.size 0 rfl c.arr (fun j u hu => by rw [Nat.zero_add]; exact AX.out.cell (askA_card hu)) strC (by rw [Card.arr_size, h8]) ?_)
    have qg := AX.out.cell (askA_grp h8 g)
    go_wp2_with (fail)
    have CX := c_Match_first t11 W11.out.1 W11.out.2.1 b9 c g hsh hg _ (M5.out _ T.out) F9.1
    rw [W11.out.2.2] at CX
    refine CX.mono ?_
    clear CX qg
    rintro e W2 ⟨rfl, hk, -⟩
    have hz := T.out.size
    have hq := F9.2.1
    replace T := Lib.hid (T.out.trans (hk.oneB hz (by omega)))
    replace AX := Lib.hid (C5.out.below T.out C5.out.lt)
    have hck : (check t11.flat != 0) = false := by first | (simpa using k9) | (rw [k9]; rfl)
    go_wp2_with (fail)
    refine (J11.out _ T.out).mono ?_
    rintro e W3 ⟨gz, cz, rfl, hbz, iz⟩
    replace T := Lib.hid (T.out.trans (hbz.mono T.out.size))
    have IZ := Lib.hid iz
    clear hbz iz
    go_wp2_with (fail)
    refine (c_ref10_Check t11.flat _ _ _ IZ.out (Tr.flat_ok_len W11.out.2.1)).mono ?_
    rintro e W4 ⟨rfl, hbz⟩
    replace T := Lib.hid (T.out.trans (hbz.mono T.out.size))
    clear hbz
    go_wp2_with (fail)
    refine (c_law13_awake _ (M5.out _ T.out)).mono ?_
    rintro e W5 ⟨rfl, hbz⟩
    replace T := Lib.hid (T.out.trans (hbz.mono T.out.size))
    clear hbz
    go_wp2_with (fail)
    go_ret
    exact RetV.bool rfl (HT5.out.trans (T.out.mono HT5.out.size))
  · go_wp2_with (with_reducible refine slG 39 _ rfl ?_)
    refine Stop.mk (wlG rfl _ _ rfl w.heap.size 0 rfl c.arr (fun j u hu => by rw [Nat.zero_add]; exact AX.out.cell (askA_card hu)) strC (by rw [Card.arr_size, h8]) ?_)
    have qg := AX.out.cell (askA_grp h8 g)
    go_wp2_with (fail)
    have CX := c_Match_first t11 W11.out.1 W11.out.2.1 b9 c g hsh hg _ (M5.out _ T.out) F9.1
    rw [W11.out.2.2] at CX
    refine CX.mono ?_
    clear CX qg
    rintro e W2 ⟨rfl, hk, -⟩
    have hz := T.out.size
    have hq := F9.2.1
    replace T := Lib.hid (T.out.trans (hk.oneB hz (by omega)))
    replace AX := Lib.hid (C5.out.below T.out C5.out.lt)
    have F10 := F10.kept hk l9
    go_wp2_with (with_reducible refine slG 39 _ rfl ?_)
    refine Stop.mk (wlG rfl _ _ rfl w.heap.size 0 rfl c.arr (fun j u hu => by rw [Nat.zero_add]; exact AX.out.cell (askA_card hu)) strC (by rw [Card.arr_size, h8]) ?_)
    have qg := AX.out.cell (askA_grp h8 g)
    go_wp2_with (fail)
    have CX := c_Match_first t12 W12.out.1 W12.out.2.1 b10 c g hsh hg _ (M5.out _ T.out) F10.1
    rw [W12.out.2.2] at CX
    refine CX.mono ?_
    clear CX qg
    rintro e W2 ⟨rfl, hk, -⟩
    have hz := T.out.size
    have hq := F10.2.1
    replace T := Lib.hid (T.out.trans (hk.oneB hz (by omega)))
    replace AX := Lib.hid (C5.out.below T.out C5.out.lt)
    have hck : (check t11.flat != 0) = false := by first | (simpa using k9) | (rw [k9]; rfl)
    go_wp2_with (fail)
    refine (J11.out _ T.out).mono ?_
    rintro e W3 ⟨gz, cz, rfl, hbz, iz⟩
    replace T := Lib.hid (T.out.trans (hbz.mono T.out.size))
    have IZ := Lib.hid iz
    clear hbz iz
    go_wp2_with (fail)
    refine (c_ref10_Check t11.flat _ _ _ IZ.out (Tr.flat_ok_len W11.out.2.1)).mono ?_
    rintro e W4 ⟨rfl, hbz⟩
    replace T := Lib.hid (T.out.trans (hbz.mono T.out.size))
    clear hbz
    go_wp2_with (fail)
    refine (c_law13_awake _ (M5.out _ T.out)).mono ?_
    rintro e W5 ⟨rfl, hbz⟩
    replace T := Lib.hid (T.out.trans (hbz.mono T.out.size))
    clear hbz
    go_wp2_with (fail)
    go_ret
    exact RetV.bool rfl (HT5.out.trans (T.out.mono HT5.out.size))
  · go_wp2_with (with_reducible refine slG 39 _ rfl ?_)
    refine Stop.mk (wlG rfl _ _ rfl w.heap.size 0 rfl c.arr (fun j u hu => by rw [Nat.zero_add]; exact AX.out.cell (askA_card hu)) strC (by rw [Card.arr_size, h8]) ?_)
    have qg := AX.out.cell (askA_grp h8 g)
    go_wp2_with (fail)
    have CX := c_Match_first t10 W10.out.1 W10.out.2.1 b8 c g hsh hg _ (M5.out _ T.out) F8.1
    rw [W10.out.2.2] at CX
    refine CX.mono ?_
    clear CX qg
    rintro e W2 ⟨rfl, hk, -⟩
    have hz := T.out.size
    have hq := F8.2.1
    replace T := Lib.hid (T.out.trans (hk.oneB hz (by omega)))
    replace AX := Lib.hid (C5.out.below T.out C5.out.lt)
    have hck : (check t11.flat != 0) = true := by first | (simpa using k9) | (rw [k9]; rfl)
    go_wp2_with (fail)
    refine (J11.out _ T.out).mono ?_
    rintro e W3 ⟨gz, cz, rfl, hbz, iz⟩
    replace T := Lib.hid (T.out.trans (hbz.mono T.out.size))
    have IZ := Lib.hid iz
    clear hbz iz
    go_wp2_with (fail)
    refine (c_ref10_Check t11.flat _ _ _ IZ.out (Tr.flat_ok_len W11.out.2.1)).mono ?_
    rintro e W4 ⟨rfl, hbz⟩
    replace T := Lib.hid (T.out.trans (hbz.mono T.out.size))
    clear hbz
    go_wp2_with (fail)
    refine (c_law13_awake _ (M5.out _ T.out)).mono ?_
    rintro e W5 ⟨rfl, hbz⟩
    replace T := Lib.hid (T.out.trans (hbz.mono T.out.size))
    clear hbz
    go_wp2_with (fail)
    go_ret
    exact RetV.bool rfl (HT5.out.trans (T.out.mono HT5.out.size))
  · go_wp2_with (with_reducible refine slG 39 _ rfl ?_)
    refine Stop.mk (wlG rfl _ _ rfl w.heap.size 0 rfl c.arr (fun j u hu => by rw [Nat.zero_add]; exact AX.out.cell (askA_card hu)) strC (by rw [Card.arr_size, h8]) ?_)
    have qg := AX.out.cell (askA_grp h8 g)
    go_wp2_with (fail)
    have CX := c_Match_first t10 W10.out.1 W10.out.2.1 b8 c g hsh hg _ (M5.out _ T.out) F8.1
    rw [W10.out.2.2] at CX
    refine CX.mono ?_
    clear CX qg
    rintro e W2 ⟨rfl, hk, -⟩
    have hz := T.out.size
    have hq := F8.2.1
    replace T := Lib.hid (T.out.trans (hk.oneB hz (by omega)))
    replace AX := Lib.hid (C5.out.below T.out C5.out.lt)
    have F10 := F10.kept hk (by omega)
    go_wp2_with (with_reducible refine slG 39 _ rfl ?_)
    refine Stop.mk (wlG rfl _ _ rfl w.heap.size 0 rfl c.arr (fun j u hu => by rw [Nat.zero_add]; exact AX.out.cell (askA_card hu)) strC (by rw [Card.arr_size, h8]) ?_)
    have qg := AX.out.cell (askA_grp h8 g)
    go_wp2_with (fail)
    have CX := c_Match_first t12 W12.out.1 W12.out.2.1 b10 c g hsh hg _ (M5.out _ T.out) F10.1
    rw [W12.out.2.2] at CX
    refine CX.mono ?_
    clear CX qg
    rintro e W2 ⟨rfl, hk, -⟩
    have hz := T.out.size
    have hq := F10.2.1
    replace T := Lib.hid (T.out.trans (hk.oneB hz (by omega)))
    replace AX := Lib.hid (C5.out.below T.out C5.out.lt)
    have hck : (check t11.flat != 0) = true := by first | (simpa using k9) | (rw [k9]; rfl)
    go_wp2_with (fail)
    refine (J11.out _ T.out).mono ?_
    rintro e W3 ⟨gz, cz, rfl, hbz, iz⟩
    replace T := Lib.hid (T.out.trans (hbz.mono T.out.size))
    have IZ := Lib.hid iz
    clear hbz iz
    go_wp2_with (fail)
    refine (c_ref10_Check t11.flat _ _ _ IZ.out (Tr.flat_ok_len W11.out.2.1)).mono ?_
    rintro e W4 ⟨rfl, hbz⟩
    replace T := Lib.hid (T.out.trans (hbz.mono T.out.size))
    clear hbz
    go_wp2_with (fail)
    refine (c_law13_awake _ (M5.out _ T.out)).mono ?_
    rintro e W5 ⟨rfl, hbz⟩
    replace T := Lib.hid (T.out.trans (hbz.mono T.out.size))
    clear hbz
    go_wp2_with (fail)
    go_ret
    exact RetV.bool rfl (HT5.out.trans (T.out.mono HT5.out.size))
  · go_wp2_with (with_reducible refine slG 39 _ rfl ?_)
    refine Stop.mk (wlG rfl _ _ rfl w.heap.size 0 rfl c.arr (fun j u hu => by rw [Nat.zero_add]; exact AX.out.cell (askA_card hu)) strC (by rw [Card.arr_size, h8]) ?_)
    have qg := AX.out.cell (askA_grp h8 g)
    go_wp2_with (fail)
    have CX := c_Match_first t10 W10.out.1 W10.out.2.1 b8 c g hsh hg _ (M5.out _ T.out) F8.1
    rw [W10.out.2.2] at CX
    refine CX.mono ?_
    clear CX qg
    rintro e W2 ⟨rfl, hk, -⟩
    have hz := T.out.size
    have hq := F8.2.1
    replace T := Lib.hid (T.out.trans (hk.oneB hz (by omega)))
    replace AX := Lib.hid (C5.out.below T.out C5.out.lt)
    have F9 := F9.kept hk l8
    go_wp2_with (with_reducible refine slG 39 _ rfl ?_)
    refine Stop.mk (wlG rfl _ _ rfl w.heap.size 0 rfl c.arr (fun j u hu => by rw [Nat.zero_add]; exact AX.out.cell (askA_card hu)) strC (by rw [Card.arr_size, h8]) ?_)
    have qg := AX.out.cell (askA_grp h8 g)
    go_wp2_with (fail)
    have CX := c_Match_first t11 W11.out.1 W11.out.2.1 b9 c g hsh hg _ (M5.out _ T.out) F9.1
    rw [W11.out.2.2] at CX
    refine CX.mono ?_
    clear CX qg
    rintro e W2 ⟨rfl, hk, -⟩
    have hz := T.out.size
    have hq := F9.2.1
    replace T := Lib.hid (T.out.trans (hk.oneB hz (by omega)))
    replace AX := Lib.hid (C5.out.below T.out C5.out.lt)
    have hck : (check t11.flat != 0) = false := by first | (simpa using k9) | (rw [k9]; rfl)
    go_wp2_with (fail)
    refine (J11.out _ T.out).mono ?_
    rintro e W3 ⟨gz, cz, rfl, hbz, iz⟩
    replace T := Lib.hid (T.out.trans (hbz.mono T.out.size))
    have IZ := Lib.hid iz
    clear hbz iz
    go_wp2_with (fail)
    refine (c_ref10_Check t11.flat _ _ _ IZ.out (Tr.flat_ok_len W11.out.2.1)).mono ?_
    rintro e W4 ⟨rfl, hbz⟩
    replace T := Lib.hid (T.out.trans (hbz.mono T.out.size))
    clear hbz
    go_wp2_with (fail)
    refine (c_law13_awake _ (M5.out _ T.out)).mono ?_
    rintro e W5 ⟨rfl, hbz⟩
    replace T := Lib.hid (T.out.trans (hbz.mono T.out.size))
    clear hbz
    go_wp2_with (fail)
    go_ret
    exact RetV.bool rfl (HT5.out.trans (T.out.mono HT5.out.size))
  · go_wp2_with (with_reducible refine slG 39 _ rfl ?_)
    refine Stop.mk (wlG rfl _ _ rfl w.heap.size 0 rfl c.arr (fun j u hu => by rw [Nat.zero_add]; exact AX.out.cell (askA_card hu)) strC (by rw [Card.arr_size, h8]) ?_)
    have qg := AX.out.cell (askA_grp h8 g)
    go_wp2_with (fail)
    have CX := c_Match_first t10 W10.out.1 W10.out.2.1 b8 c g hsh hg _ (M5.out _ T.out) F8.1
    rw [W10.out.2.2] at CX
    refine CX.mono ?_
    clear CX qg
    rintro e W2 ⟨rfl, hk, -⟩
    have hz := T.out.size
    have hq := F8.2.1
    replace T := Lib.hid (T.out.trans (hk.oneB hz (by omega)))
    replace AX := Lib.hid (C5.out.below T.out C5.out.lt)
    have F9 := F9.kept hk l8
    have F10 := F10.kept hk (by omega)
    go_wp2_with (with_reducible refine slG 39 _ rfl ?_)
    refine Stop.mk (wlG rfl _ _ rfl w.heap.size 0 rfl c.arr (fun j u hu => by rw [Nat.zero_add]; exact AX.out.cell (askA_card hu)) strC (by rw [Card.arr_size, h8]) ?_)
    have qg := AX.out.cell (askA_grp h8 g)
    go_wp2_with (fail)
    have CX := c_Match_first t11 W11.out.1 W11.out.2.1 b9 c g hsh hg _ (M5.out _ T.out) F9.1
    rw [W11.out.2.2] at CX
    refine CX.mono ?_
    clear CX qg
    rintro e W2 ⟨rfl, hk, -⟩
    have hz := T.out.size
    have hq := F9.2.1
    replace T := Lib.hid (T.out.trans (hk.oneB hz (by omega)))
    replace AX := Lib.hid (C5.out.below T.out C5.out.lt)
    have F10 := F10.kept hk l9
    go_wp2_with (with_reducible refine slG 39 _ rfl ?_)
    refine Stop.mk (wlG rfl _ _ rfl w.heap.size 0 rfl c.arr (fun j u hu => by rw [Nat.zero_add]; exact AX.out.cell (askA_card hu)) strC (by rw [Card.arr_size, h8]) ?_)
    have qg := AX.out.cell (askA_grp h8 g)
    go_wp2_with (fail)
    have CX := c_Match_first t12 W12.out.1 W12.out.2.1 b10 c g hsh hg _ (M5.out _ T.out) F10.1
    rw [W12.out.2.2] at CX
    refine CX.mono ?_
    clear CX qg
    rintro e W2 ⟨rfl, hk, -⟩
    have hz := T.out.size
    have hq := F10.2.1
    replace T := Lib.hid (T.out.trans (hk.oneB hz (by omega)))
    replace AX := Lib.hid (C5.out.below T.out C5.out.lt)
    have hck : (check t11.flat != 0) = false := by first | (simpa using k9) | (rw [k9]; rfl)
    go_wp2_with (fail)
    refine (J11.out _ T.out).mono ?_
    rintro e W3 ⟨gz, cz, rfl, hbz, iz⟩
    replace T := Lib.hid (T.out.trans (hbz.mono T.out.size))
    have IZ := Lib.hid iz
    clear hbz iz
    go_wp2_with (fail)
    refine (c_ref10_Check t11.flat _ _ _ IZ.out (Tr.flat_ok_len W11.out.2.1)).mono ?_
    rintro e W4 ⟨rfl, hbz⟩
    replace T := Lib.hid (T.out.trans (hbz.mono T.out.size))
    clear hbz
    go_wp2_with (fail)
    refine (c_law13_awake _ (M5.out _ T.out)).mono ?_
    rintro e W5 ⟨rfl, hbz⟩
    replace T := Lib.hid (T.out.trans (hbz.mono T.out.size))
    clear hbz
    go_wp2_with (fail)
    go_ret
    exact RetV.bool rfl (HT5.out.trans (T.out.mono HT5.out.size))
end Go.Proofs.Ytldoedmclfbgpaa
