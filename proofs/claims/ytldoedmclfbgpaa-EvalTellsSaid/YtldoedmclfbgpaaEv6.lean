/-
  Lemmas (walks and plain laws), in one text.
-/
import Derived.Test.YtldoedmclfbgpaaEv2
import Derived.Test.YtldoedmclfbgpaaEv4
import Derived.Test.YtldoedmclfbgpaaEv5
namespace Go.Proofs.Ytldoedmclfbgpaa
open Go.RowKit

theorem wpQuiet_loadC {P : Program} {ops : Array Oper} {C : World → Prop} {Q : Act → Prop} {o : Oper} {rest : List Oper} {a : Act} (hw : Region.wanted o (yielded ops a.tmps) = true) (ty : TypeId) (x : Operand) (ho : o.op = .load ty x)
    (g off : Nat) (hx : a.eval x = .pointer (some ⟨g, off, none⟩)) (cs : Array Value) (hcell : ∀ w, C w → ∀ (j : Nat) u, cs[j]? = some u → w.cell? ⟨g, off + j, none⟩ = some u) {n : Nat} (S : Str P ty n) (hn : cs.size = n)
    (h : wpQuiet P ops C Q rest (a.put o.dst (.agg cs))) : wpQuiet P ops C Q (o :: rest) a := by
  refine BigFrame.wpQuiet_want hw fun K hK => ⟨.agg cs, fun w hc => ?_, hK _ h⟩
  unfold Oper.quietAt execOp
  simp only [ho, hx, Instr.loadAt, Instr.sureAddr, Sem.run_bind, Sem.run_pure, Result.andThen_ok, run_loadVar_at g off cs ty (hcell w hc) S hn]
  exact ⟨rfl, rfl⟩
/-- What stands in a slice of slices. -/
theorem kid_cell {w : World} {base : Nat} {t : TypeId} {os : List Kid} {g c : Nat} (h : w.ownsRow base t 1 (.slice (some ⟨g, 0, none⟩) os.length c) os.length (os.flatMap Kid.cells)) {k : Nat} (hk : k < os.length) : w.cell? ⟨g, k, none⟩ = some (.slice os[k].1 os[k].2.2.length os[k].2.1) := by
  have h1 := h.cells (g := g) rfl k
  rw [add_lit] at h1
  refine h1 _ ?_
  have := flat_get (k := 1) (cs := Kid.cells) (fun _ => rfl) os k hk 0 (by omega)
  rw [Nat.mul_one, Nat.add_zero] at this
  rw [this]; rfl
theorem one_of_map {α β : Type} {f : α → β} {x : β} {l : List α} (h : l.map f = [x]) : ∃ o, l = [o] ∧ f o = x := by
  match l, h with
  | [o], h => exact ⟨o, rfl, by simpa using h⟩
theorem two_of_map {α β : Type} {f : α → β} {x y : β} {l : List α} (h : l.map f = [x, y]) : ∃ o p, l = [o, p] ∧ f o = x ∧ f p = y := by
  match l, h with
  | [o, p], h => exact ⟨o, p, rfl, by simpa using h⟩
theorem Tr.mat_and {x : Node} {a b : Tr} {c : Card} {g : Nat} (h : x.op = 11) : (Tr.two x a b).mat c g = (a.mat c g && b.mat c g) := by
  show (if x.op = 11 then _ else _) = _
  rw [if_pos h]
theorem Tr.mat_or {x : Node} {a b : Tr} {c : Card} {g : Nat} (h : x.op ≠ 11) : (Tr.two x a b).mat c g = (a.mat c g || b.mat c g) := by
  show (if x.op = 11 then _ else _) = _
  rw [if_neg h]
set_option maxHeartbeats 1000000 in
theorem ref13_Match_leaf (x : Node) (hw : (Tr.leaf x).wf) (hok : x.ok = true) (A : Option Addr) (n : Nat) (c : Card) (g : Nat) (w : World) (hc : shortC c) (hg : g < 4294967296) (h : InN w A n (Tr.leaf x).flat) :
    Calls Try.prog 31 #[.slice A (Tr.leaf x).flat.length n, .agg c.arr, .int .u32 g] w (RetV w (.bool ((Tr.leaf x).mat c g))) := by
  have CL := Lib.hid (fun w => c_ref13_leaf x hok c hc g hg w)
  have hp := parts_zero.1 (show parts x.op = 0 from hw)
  have b10 : (x.op == 10) = false := by simpa using hp.1
  have b11 : (x.op == 11) = false := by simpa using hp.2.1
  have b12 : (x.op == 12) = false := by simpa using hp.2.2
  clear hok hp
  have hL := h.1
  have hC := h.2.1
  have hS := h.2.2.1
  have hpos := (Tr.flat_len (Tr.leaf x))
  obtain ⟨b, off, rfl, hb, hrow⟩ := h.at (i := 0) (by omega)
  obtain ⟨e0, e1, e2, e3, e4⟩ := hrow.node (i := 0) (by omega) (by rw [Nat.zero_mul, Nat.add_zero])
  have hx0 : (Tr.leaf x).flat[0]'hpos = x := Tr.flat_head (Tr.leaf x)
  rw [hx0] at e0 e1 e2 e3 e4
  obtain ⟨d, ht⟩ := Tr.rest (t := Tr.leaf x) hw
  have h8 := hc.1
  obtain ⟨w1, hw1⟩ : ∃ w1, w1 = w.alloc (.cells c.arr 39) := ⟨_, rfl⟩
  have b1 : Below w.heap.size w w1 := by rw [hw1]; exact (by repeat (first | exact Below.refl _ _ | refine Below.drew ?_ | refine Below.alloc ?_ (by first | omega | (simp; done) | (simp; omega)) _ | refine Below.setCell ?_ (by first | omega | (simp; done) | (simp; omega)) _ | refine Below.trans ?_ (Below.mono (by assumption) (by first | omega | (simp; done) | (simp; omega)))))
  have z1 : w1.heap.size = w.heap.size + 1 := by rw [hw1]; simp
  have C1 : Blk w1 w.heap.size c.arr := by rw [hw1]; exact Blk.new w _ _
  have ht0 : Trees (parts (((Tr.leaf x).flat[0]'hpos).op)).toNat ((Tr.leaf x).flat.drop (0 + 1)) [] d := by rw [hx0]; exact ht
  have KD := Lib.hid (c_ref10_Kids (Tr.leaf x).flat 0 _ n w1 (h.below b1) hpos [] d ht0)
  rw [hx0] at KD
  rw [show cut (parts x.op).toNat ((Tr.leaf x).flat.drop (0 + 1)) = [] from Tr.kids_leaf hw] at KD
  have S1 := Lib.hid b1
  have HC1 := Lib.hid C1
  have HR := Lib.hid hrow
  clear b1 C1 ht ht0 hrow h hx0
  go_enter Try.func31, Try.ntmps31
  go_wp2_with (rw [← hw1]; clear hw1)
  refine KD.out.mono ?_
  rintro e w2 ⟨os, hos, ⟨v, rfl, own, hb2⟩, hin⟩
  have hz2 := hb2.size
  have S2 := Lib.hid (S1.out.trans (hb2.mono (by omega)))
  have HC2 := Lib.hid (HC1.out.below hb2 HC1.out.lt)
  have q0 := (S2.out.cell (p := ⟨b, off, none⟩) hb).trans e0
  have q1 := (S2.out.cell (p := ⟨b, off + 1, none⟩) hb).trans e1
  have q2 := (S2.out.cell (p := ⟨b, off + 2, none⟩) hb).trans e2
  have q3 := (S2.out.cell (p := ⟨b, off + 3, none⟩) hb).trans e3
  have q4 := (S2.out.cell (p := ⟨b, off + 4, none⟩) hb).trans e4
  have hb' : b < w2.heap.size := by omega
  clear e0 e1 e2 e3 e4 KD HC1 hb2
  clear own hin hos
  go_wp2_with (fail)
  refine wp_region_grow (by kernel_rfl) (by kernel_rfl) ?_
  go_big_quiet_step (fail)
  go_big_quiet_step (fail)
  go_big_quiet_step (fail)
  refine wpQuiet_loadC rfl _ _ rfl w.heap.size 0 rfl c.arr (fun w' hy j u hu => by
    obtain ⟨y, rfl⟩ := hy
    exact (HC2.out.below (grow_below _ y) HC2.out.lt).all j u hu) strC (by rw [Card.arr_size, h8]) ?_
  simp only [Act.put, List.setIfInBounds_toArray, List.set_cons_zero, List.set_cons_succ]
  repeat (go_big_quiet_step ((first | (go_at_call 69; exact quiet_grow (CL.out _)))))
  refine wpQuiet_nil ?_
  intro w3 hb3
  go_wp2_with (fail)
  go_ret
  exact RetV.bool rfl (S2.out.trans (hb3.mono (by omega)))
set_option maxHeartbeats 1000000 in
theorem ref13_Match_one (x : Node) (a : Tr) (hw : (Tr.one x a).wf) (A : Option Addr) (n : Nat) (c : Card) (g : Nat) (w : World) (hc : shortC c) (_hg : g < 4294967296) (h : InN w A n (Tr.one x a).flat)
    (CA : ∀ A n w, InN w A n a.flat → Calls Try.prog 31 #[.slice A a.flat.length n, .agg c.arr, .int .u32 g] w (RetV w (.bool (a.mat c g)))) :
    Calls Try.prog 31 #[.slice A (Tr.one x a).flat.length n, .agg c.arr, .int .u32 g] w (RetV w (.bool ((Tr.one x a).mat c g))) := by
  have CA := Lib.hid CA
  have b10 : (x.op == 10) = true := by simpa using hw.1
  have hL := h.1
  have hC := h.2.1
  have hS := h.2.2.1
  have hpos := (Tr.flat_len (Tr.one x a))
  obtain ⟨b, off, rfl, hb, hrow⟩ := h.at (i := 0) (by omega)
  obtain ⟨e0, e1, e2, e3, e4⟩ := hrow.node (i := 0) (by omega) (by rw [Nat.zero_mul, Nat.add_zero])
  have hx0 : (Tr.one x a).flat[0]'hpos = x := Tr.flat_head (Tr.one x a)
  rw [hx0] at e0 e1 e2 e3 e4
  obtain ⟨d, ht⟩ := Tr.rest (t := Tr.one x a) hw
  have h8 := hc.1
  obtain ⟨w1, hw1⟩ : ∃ w1, w1 = w.alloc (.cells c.arr 39) := ⟨_, rfl⟩
  have b1 : Below w.heap.size w w1 := by rw [hw1]; exact (by repeat (first | exact Below.refl _ _ | refine Below.drew ?_ | refine Below.alloc ?_ (by first | omega | (simp; done) | (simp; omega)) _ | refine Below.setCell ?_ (by first | omega | (simp; done) | (simp; omega)) _ | refine Below.trans ?_ (Below.mono (by assumption) (by first | omega | (simp; done) | (simp; omega)))))
  have z1 : w1.heap.size = w.heap.size + 1 := by rw [hw1]; simp
  have C1 : Blk w1 w.heap.size c.arr := by rw [hw1]; exact Blk.new w _ _
  have ht0 : Trees (parts (((Tr.one x a).flat[0]'hpos).op)).toNat ((Tr.one x a).flat.drop (0 + 1)) [] d := by rw [hx0]; exact ht
  have KD := Lib.hid (c_ref10_Kids (Tr.one x a).flat 0 _ n w1 (h.below b1) hpos [] d ht0)
  rw [hx0] at KD
  rw [show cut (parts x.op).toNat ((Tr.one x a).flat.drop (0 + 1)) = [a.flat] from Tr.kids_one hw] at KD
  have S1 := Lib.hid b1
  have HC1 := Lib.hid C1
  have HR := Lib.hid hrow
  clear b1 C1 ht ht0 hrow h hx0
  go_enter Try.func31, Try.ntmps31
  go_wp2_with (rw [← hw1]; clear hw1)
  refine KD.out.mono ?_
  rintro e w2 ⟨os, hos, ⟨v, rfl, own, hb2⟩, hin⟩
  have hz2 := hb2.size
  have S2 := Lib.hid (S1.out.trans (hb2.mono (by omega)))
  have HC2 := Lib.hid (HC1.out.below hb2 HC1.out.lt)
  have q0 := (S2.out.cell (p := ⟨b, off, none⟩) hb).trans e0
  have q1 := (S2.out.cell (p := ⟨b, off + 1, none⟩) hb).trans e1
  have q2 := (S2.out.cell (p := ⟨b, off + 2, none⟩) hb).trans e2
  have q3 := (S2.out.cell (p := ⟨b, off + 3, none⟩) hb).trans e3
  have q4 := (S2.out.cell (p := ⟨b, off + 4, none⟩) hb).trans e4
  have hb' : b < w2.heap.size := by omega
  clear e0 e1 e2 e3 e4 KD HC1 hb2
  obtain ⟨o, rfl, ho⟩ := one_of_map hos
  obtain ⟨g1, c1, rfl, -, -, -, hg1⟩ := own_form' own (by simp)
  have k0 := kid_cell own (k := 0) (by simp)
  have hn1 : 1 ≤ c1 := by
    obtain ⟨A', c', hv, h1, -⟩ := own_form own
    injection hv with _ _ e; subst e; simpa using h1
  have I0 := Lib.hid (show InN w2 o.1 o.2.1 a.flat by rw [← ho]; exact hin o (by simp))
  simp only [List.getElem_cons_zero, ho] at k0
  simp only [List.length_cons, List.length_nil, Nat.zero_add]
  clear own hin hos
  go_wp2_with (fail)
  refine wp_region_grow (by kernel_rfl) (by kernel_rfl) ?_
  go_big_quiet_step (fail)
  go_big_quiet_step (fail)
  go_big_quiet_step (fail)
  refine wpQuiet_loadC rfl _ _ rfl w.heap.size 0 rfl c.arr (fun w' hy j u hu => by
    obtain ⟨y, rfl⟩ := hy
    exact (HC2.out.below (grow_below _ y) HC2.out.lt).all j u hu) strC (by rw [Card.arr_size, h8]) ?_
  simp only [Act.put, List.setIfInBounds_toArray, List.set_cons_zero, List.set_cons_succ]
  repeat (go_big_quiet_step ((first | (go_at_call 31; exact quiet_grow (CA.out _ _ _ (I0.out.below (grow_below _ _)))))))
  refine wpQuiet_nil ?_
  intro w3 hb3
  go_wp2_with (fail)
  go_ret
  exact RetV.bool rfl (S2.out.trans (hb3.mono (by omega)))
set_option maxHeartbeats 1000000 in
theorem ref13_Match_and (x : Node) (a b2 : Tr) (hw : (Tr.two x a b2).wf) (h11 : x.op = 11) (A : Option Addr) (n : Nat) (c : Card) (g : Nat) (w : World) (hc : shortC c) (_hg : g < 4294967296) (h : InN w A n (Tr.two x a b2).flat)
    (CA : ∀ A n w, InN w A n a.flat → Calls Try.prog 31 #[.slice A a.flat.length n, .agg c.arr, .int .u32 g] w (RetV w (.bool (a.mat c g))))
    (CB : ∀ A n w, InN w A n b2.flat → Calls Try.prog 31 #[.slice A b2.flat.length n, .agg c.arr, .int .u32 g] w (RetV w (.bool (b2.mat c g)))) :
    Calls Try.prog 31 #[.slice A (Tr.two x a b2).flat.length n, .agg c.arr, .int .u32 g] w (RetV w (.bool ((Tr.two x a b2).mat c g))) := by
  have CA := Lib.hid CA
  have CB := Lib.hid CB
  have b10 : (x.op == 10) = false := by rw [h11]; rfl
  have b11 : (x.op == 11) = true := by rw [h11]; rfl
  rw [Tr.mat_and h11]
  clear h11
  obtain ⟨ma, hma⟩ : ∃ m, m = a.mat c g := ⟨_, rfl⟩
  rw [← hma] at CA ⊢
  clear hma
  cases ma
  · have hL := h.1
    have hC := h.2.1
    have hS := h.2.2.1
    have hpos := (Tr.flat_len (Tr.two x a b2))
    obtain ⟨b, off, rfl, hb, hrow⟩ := h.at (i := 0) (by omega)
    obtain ⟨e0, e1, e2, e3, e4⟩ := hrow.node (i := 0) (by omega) (by rw [Nat.zero_mul, Nat.add_zero])
    have hx0 : (Tr.two x a b2).flat[0]'hpos = x := Tr.flat_head (Tr.two x a b2)
    rw [hx0] at e0 e1 e2 e3 e4
    obtain ⟨d, ht⟩ := Tr.rest (t := Tr.two x a b2) hw
    have h8 := hc.1
    obtain ⟨w1, hw1⟩ : ∃ w1, w1 = w.alloc (.cells c.arr 39) := ⟨_, rfl⟩
    have b1 : Below w.heap.size w w1 := by rw [hw1]; exact (by repeat (first | exact Below.refl _ _ | refine Below.drew ?_ | refine Below.alloc ?_ (by first | omega | (simp; done) | (simp; omega)) _ | refine Below.setCell ?_ (by first | omega | (simp; done) | (simp; omega)) _ | refine Below.trans ?_ (Below.mono (by assumption) (by first | omega | (simp; done) | (simp; omega)))))
    have z1 : w1.heap.size = w.heap.size + 1 := by rw [hw1]; simp
    have C1 : Blk w1 w.heap.size c.arr := by rw [hw1]; exact Blk.new w _ _
    have ht0 : Trees (parts (((Tr.two x a b2).flat[0]'hpos).op)).toNat ((Tr.two x a b2).flat.drop (0 + 1)) [] d := by rw [hx0]; exact ht
    have KD := Lib.hid (c_ref10_Kids (Tr.two x a b2).flat 0 _ n w1 (h.below b1) hpos [] d ht0)
    rw [hx0] at KD
    rw [show cut (parts x.op).toNat ((Tr.two x a b2).flat.drop (0 + 1)) = [a.flat, b2.flat] from Tr.kids_two hw] at KD
    have S1 := Lib.hid b1
    have HC1 := Lib.hid C1
    have HR := Lib.hid hrow
    clear b1 C1 ht ht0 hrow h hx0
    go_enter Try.func31, Try.ntmps31
    go_wp2_with (rw [← hw1]; clear hw1)
    refine KD.out.mono ?_
    rintro e w2 ⟨os, hos, ⟨v, rfl, own, hb2⟩, hin⟩
    have hz2 := hb2.size
    have S2 := Lib.hid (S1.out.trans (hb2.mono (by omega)))
    have HC2 := Lib.hid (HC1.out.below hb2 HC1.out.lt)
    have q0 := (S2.out.cell (p := ⟨b, off, none⟩) hb).trans e0
    have q1 := (S2.out.cell (p := ⟨b, off + 1, none⟩) hb).trans e1
    have q2 := (S2.out.cell (p := ⟨b, off + 2, none⟩) hb).trans e2
    have q3 := (S2.out.cell (p := ⟨b, off + 3, none⟩) hb).trans e3
    have q4 := (S2.out.cell (p := ⟨b, off + 4, none⟩) hb).trans e4
    have hb' : b < w2.heap.size := by omega
    clear e0 e1 e2 e3 e4 KD HC1 hb2
    obtain ⟨o, p, rfl, ho, hp⟩ := two_of_map hos
    obtain ⟨g1, c1, rfl, -, -, -, hg1⟩ := own_form' own (by simp)
    have k0 := kid_cell own (k := 0) (by simp)
    have k1 := kid_cell own (k := 1) (by simp)
    have hn1 : 2 ≤ c1 := by
      obtain ⟨A', c', hv, h1, -⟩ := own_form own
      injection hv with _ _ e; subst e; simpa using h1
    have I0 := Lib.hid (show InN w2 o.1 o.2.1 a.flat by rw [← ho]; exact hin o (by simp))
    have I1 := Lib.hid (show InN w2 p.1 p.2.1 b2.flat by rw [← hp]; exact hin p (by simp))
    simp only [List.getElem_cons_zero, ho] at k0
    simp only [List.getElem_cons_succ, List.getElem_cons_zero, hp] at k1
    simp only [List.length_cons, List.length_nil, Nat.zero_add, Nat.reduceAdd]
    clear own hin hos
    go_wp2_with (fail)
    refine wp_region_grow (by kernel_rfl) (by kernel_rfl) ?_
    go_big_quiet_step (fail)
    go_big_quiet_step (fail)
    go_big_quiet_step (fail)
    refine wpQuiet_loadC rfl _ _ rfl w.heap.size 0 rfl c.arr (fun w' hy j u hu => by
      obtain ⟨y, rfl⟩ := hy
      exact (HC2.out.below (grow_below _ y) HC2.out.lt).all j u hu) strC (by rw [Card.arr_size, h8]) ?_
    simp only [Act.put, List.setIfInBounds_toArray, List.set_cons_zero, List.set_cons_succ]
    repeat (go_big_quiet_step ((first | (go_at_call 31; exact quiet_grow (CA.out _ _ _ (I0.out.below (grow_below _ _)))))))
    refine wpQuiet_nil ?_
    intro w3 hb3
    go_wp2_with (fail)
    go_ret
    exact RetV.bool (by simp) (S2.out.trans (hb3.mono (by omega)))
  · have hL := h.1
    have hC := h.2.1
    have hS := h.2.2.1
    have hpos := (Tr.flat_len (Tr.two x a b2))
    obtain ⟨b, off, rfl, hb, hrow⟩ := h.at (i := 0) (by omega)
    obtain ⟨e0, e1, e2, e3, e4⟩ := hrow.node (i := 0) (by omega) (by rw [Nat.zero_mul, Nat.add_zero])
    have hx0 : (Tr.two x a b2).flat[0]'hpos = x := Tr.flat_head (Tr.two x a b2)
    rw [hx0] at e0 e1 e2 e3 e4
    obtain ⟨d, ht⟩ := Tr.rest (t := Tr.two x a b2) hw
    have h8 := hc.1
    obtain ⟨w1, hw1⟩ : ∃ w1, w1 = w.alloc (.cells c.arr 39) := ⟨_, rfl⟩
    have b1 : Below w.heap.size w w1 := by rw [hw1]; exact (by repeat (first | exact Below.refl _ _ | refine Below.drew ?_ | refine Below.alloc ?_ (by first | omega | (simp; done) | (simp; omega)) _ | refine Below.setCell ?_ (by first | omega | (simp; done) | (simp; omega)) _ | refine Below.trans ?_ (Below.mono (by assumption) (by first | omega | (simp; done) | (simp; omega)))))
    have z1 : w1.heap.size = w.heap.size + 1 := by rw [hw1]; simp
    have C1 : Blk w1 w.heap.size c.arr := by rw [hw1]; exact Blk.new w _ _
    have ht0 : Trees (parts (((Tr.two x a b2).flat[0]'hpos).op)).toNat ((Tr.two x a b2).flat.drop (0 + 1)) [] d := by rw [hx0]; exact ht
    have KD := Lib.hid (c_ref10_Kids (Tr.two x a b2).flat 0 _ n w1 (h.below b1) hpos [] d ht0)
    rw [hx0] at KD
    rw [show cut (parts x.op).toNat ((Tr.two x a b2).flat.drop (0 + 1)) = [a.flat, b2.flat] from Tr.kids_two hw] at KD
    have S1 := Lib.hid b1
    have HC1 := Lib.hid C1
    have HR := Lib.hid hrow
    clear b1 C1 ht ht0 hrow h hx0
    go_enter Try.func31, Try.ntmps31
    go_wp2_with (rw [← hw1]; clear hw1)
    refine KD.out.mono ?_
    rintro e w2 ⟨os, hos, ⟨v, rfl, own, hb2⟩, hin⟩
    have hz2 := hb2.size
    have S2 := Lib.hid (S1.out.trans (hb2.mono (by omega)))
    have HC2 := Lib.hid (HC1.out.below hb2 HC1.out.lt)
    have q0 := (S2.out.cell (p := ⟨b, off, none⟩) hb).trans e0
    have q1 := (S2.out.cell (p := ⟨b, off + 1, none⟩) hb).trans e1
    have q2 := (S2.out.cell (p := ⟨b, off + 2, none⟩) hb).trans e2
    have q3 := (S2.out.cell (p := ⟨b, off + 3, none⟩) hb).trans e3
    have q4 := (S2.out.cell (p := ⟨b, off + 4, none⟩) hb).trans e4
    have hb' : b < w2.heap.size := by omega
    clear e0 e1 e2 e3 e4 KD HC1 hb2
    obtain ⟨o, p, rfl, ho, hp⟩ := two_of_map hos
    obtain ⟨g1, c1, rfl, -, -, -, hg1⟩ := own_form' own (by simp)
    have k0 := kid_cell own (k := 0) (by simp)
    have k1 := kid_cell own (k := 1) (by simp)
    have hn1 : 2 ≤ c1 := by
      obtain ⟨A', c', hv, h1, -⟩ := own_form own
      injection hv with _ _ e; subst e; simpa using h1
    have I0 := Lib.hid (show InN w2 o.1 o.2.1 a.flat by rw [← ho]; exact hin o (by simp))
    have I1 := Lib.hid (show InN w2 p.1 p.2.1 b2.flat by rw [← hp]; exact hin p (by simp))
    simp only [List.getElem_cons_zero, ho] at k0
    simp only [List.getElem_cons_succ, List.getElem_cons_zero, hp] at k1
    simp only [List.length_cons, List.length_nil, Nat.zero_add, Nat.reduceAdd]
    clear own hin hos
    go_wp2_with (fail)
    refine wp_region_grow (by kernel_rfl) (by kernel_rfl) ?_
    go_big_quiet_step (fail)
    go_big_quiet_step (fail)
    go_big_quiet_step (fail)
    refine wpQuiet_loadC rfl _ _ rfl w.heap.size 0 rfl c.arr (fun w' hy j u hu => by
      obtain ⟨y, rfl⟩ := hy
      exact (HC2.out.below (grow_below _ y) HC2.out.lt).all j u hu) strC (by rw [Card.arr_size, h8]) ?_
    simp only [Act.put, List.setIfInBounds_toArray, List.set_cons_zero, List.set_cons_succ]
    go_big_quiet_step (fail)
    go_big_quiet_step ((first | (go_at_call 31; exact quiet_grow (CA.out _ _ _ (I0.out.below (grow_below _ _))))))
    go_big_quiet_step (fail)
    go_big_quiet_step (fail)
    go_big_quiet_step (fail)
    go_big_quiet_step (fail)
    refine wpQuiet_loadC rfl _ _ rfl w.heap.size 0 rfl c.arr (fun w' hy j u hu => by
      obtain ⟨y, rfl⟩ := hy
      exact (HC2.out.below (grow_below _ y) HC2.out.lt).all j u hu) strC (by rw [Card.arr_size, h8]) ?_
    simp only [Act.put, List.setIfInBounds_toArray, List.set_cons_zero, List.set_cons_succ]
    repeat (go_big_quiet_step ((first | (go_at_call 31; exact quiet_grow (CB.out _ _ _ (I1.out.below (grow_below _ _)))))))
    refine wpQuiet_nil ?_
    intro w3 hb3
    go_wp2_with (fail)
    go_ret
    exact RetV.bool (by simp) (S2.out.trans (hb3.mono (by omega)))
set_option maxHeartbeats 1000000 in
theorem ref13_Match_or (x : Node) (a b2 : Tr) (hw : (Tr.two x a b2).wf) (h11 : x.op = 12) (A : Option Addr) (n : Nat) (c : Card) (g : Nat) (w : World) (hc : shortC c) (_hg : g < 4294967296) (h : InN w A n (Tr.two x a b2).flat)
    (CA : ∀ A n w, InN w A n a.flat → Calls Try.prog 31 #[.slice A a.flat.length n, .agg c.arr, .int .u32 g] w (RetV w (.bool (a.mat c g))))
    (CB : ∀ A n w, InN w A n b2.flat → Calls Try.prog 31 #[.slice A b2.flat.length n, .agg c.arr, .int .u32 g] w (RetV w (.bool (b2.mat c g)))) :
    Calls Try.prog 31 #[.slice A (Tr.two x a b2).flat.length n, .agg c.arr, .int .u32 g] w (RetV w (.bool ((Tr.two x a b2).mat c g))) := by
  have CA := Lib.hid CA
  have CB := Lib.hid CB
  have b10 : (x.op == 10) = false := by rw [h11]; rfl
  have b11 : (x.op == 11) = false := by rw [h11]; rfl
  have b12 : (x.op == 12) = true := by rw [h11]; rfl
  rw [Tr.mat_or (by omega)]
  clear h11
  obtain ⟨ma, hma⟩ : ∃ m, m = a.mat c g := ⟨_, rfl⟩
  rw [← hma] at CA ⊢
  clear hma
  cases ma
  · have hL := h.1
    have hC := h.2.1
    have hS := h.2.2.1
    have hpos := (Tr.flat_len (Tr.two x a b2))
    obtain ⟨b, off, rfl, hb, hrow⟩ := h.at (i := 0) (by omega)
    obtain ⟨e0, e1, e2, e3, e4⟩ := hrow.node (i := 0) (by omega) (by rw [Nat.zero_mul, Nat.add_zero])
    have hx0 : (Tr.two x a b2).flat[0]'hpos = x := Tr.flat_head (Tr.two x a b2)
    rw [hx0] at e0 e1 e2 e3 e4
    obtain ⟨d, ht⟩ := Tr.rest (t := Tr.two x a b2) hw
    have h8 := hc.1
    obtain ⟨w1, hw1⟩ : ∃ w1, w1 = w.alloc (.cells c.arr 39) := ⟨_, rfl⟩
    have b1 : Below w.heap.size w w1 := by rw [hw1]; exact (by repeat (first | exact Below.refl _ _ | refine Below.drew ?_ | refine Below.alloc ?_ (by first | omega | (simp; done) | (simp; omega)) _ | refine Below.setCell ?_ (by first | omega | (simp; done) | (simp; omega)) _ | refine Below.trans ?_ (Below.mono (by assumption) (by first | omega | (simp; done) | (simp; omega)))))
    have z1 : w1.heap.size = w.heap.size + 1 := by rw [hw1]; simp
    have C1 : Blk w1 w.heap.size c.arr := by rw [hw1]; exact Blk.new w _ _
    have ht0 : Trees (parts (((Tr.two x a b2).flat[0]'hpos).op)).toNat ((Tr.two x a b2).flat.drop (0 + 1)) [] d := by rw [hx0]; exact ht
    have KD := Lib.hid (c_ref10_Kids (Tr.two x a b2).flat 0 _ n w1 (h.below b1) hpos [] d ht0)
    rw [hx0] at KD
    rw [show cut (parts x.op).toNat ((Tr.two x a b2).flat.drop (0 + 1)) = [a.flat, b2.flat] from Tr.kids_two hw] at KD
    have S1 := Lib.hid b1
    have HC1 := Lib.hid C1
    have HR := Lib.hid hrow
    clear b1 C1 ht ht0 hrow h hx0
    go_enter Try.func31, Try.ntmps31
    go_wp2_with (rw [← hw1]; clear hw1)
    refine KD.out.mono ?_
    rintro e w2 ⟨os, hos, ⟨v, rfl, own, hb2⟩, hin⟩
    have hz2 := hb2.size
    have S2 := Lib.hid (S1.out.trans (hb2.mono (by omega)))
    have HC2 := Lib.hid (HC1.out.below hb2 HC1.out.lt)
    have q0 := (S2.out.cell (p := ⟨b, off, none⟩) hb).trans e0
    have q1 := (S2.out.cell (p := ⟨b, off + 1, none⟩) hb).trans e1
    have q2 := (S2.out.cell (p := ⟨b, off + 2, none⟩) hb).trans e2
    have q3 := (S2.out.cell (p := ⟨b, off + 3, none⟩) hb).trans e3
    have q4 := (S2.out.cell (p := ⟨b, off + 4, none⟩) hb).trans e4
    have hb' : b < w2.heap.size := by omega
    clear e0 e1 e2 e3 e4 KD HC1 hb2
    obtain ⟨o, p, rfl, ho, hp⟩ := two_of_map hos
    obtain ⟨g1, c1, rfl, -, -, -, hg1⟩ := own_form' own (by simp)
    have k0 := kid_cell own (k := 0) (by simp)
    have k1 := kid_cell own (k := 1) (by simp)
    have hn1 : 2 ≤ c1 := by
      obtain ⟨A', c', hv, h1, -⟩ := own_form own
      injection hv with _ _ e; subst e; simpa using h1
    have I0 := Lib.hid (show InN w2 o.1 o.2.1 a.flat by rw [← ho]; exact hin o (by simp))
    have I1 := Lib.hid (show InN w2 p.1 p.2.1 b2.flat by rw [← hp]; exact hin p (by simp))
    simp only [List.getElem_cons_zero, ho] at k0
    simp only [List.getElem_cons_succ, List.getElem_cons_zero, hp] at k1
    simp only [List.length_cons, List.length_nil, Nat.zero_add, Nat.reduceAdd]
    clear own hin hos
    go_wp2_with (fail)
    refine wp_region_grow (by kernel_rfl) (by kernel_rfl) ?_
    go_big_quiet_step (fail)
    go_big_quiet_step (fail)
    go_big_quiet_step (fail)
    refine wpQuiet_loadC rfl _ _ rfl w.heap.size 0 rfl c.arr (fun w' hy j u hu => by
      obtain ⟨y, rfl⟩ := hy
      exact (HC2.out.below (grow_below _ y) HC2.out.lt).all j u hu) strC (by rw [Card.arr_size, h8]) ?_
    simp only [Act.put, List.setIfInBounds_toArray, List.set_cons_zero, List.set_cons_succ]
    go_big_quiet_step (fail)
    go_big_quiet_step ((first | (go_at_call 31; exact quiet_grow (CA.out _ _ _ (I0.out.below (grow_below _ _))))))
    go_big_quiet_step (fail)
    go_big_quiet_step (fail)
    go_big_quiet_step (fail)
    go_big_quiet_step (fail)
    refine wpQuiet_loadC rfl _ _ rfl w.heap.size 0 rfl c.arr (fun w' hy j u hu => by
      obtain ⟨y, rfl⟩ := hy
      exact (HC2.out.below (grow_below _ y) HC2.out.lt).all j u hu) strC (by rw [Card.arr_size, h8]) ?_
    simp only [Act.put, List.setIfInBounds_toArray, List.set_cons_zero, List.set_cons_succ]
    repeat (go_big_quiet_step ((first | (go_at_call 31; exact quiet_grow (CB.out _ _ _ (I1.out.below (grow_below _ _)))))))
    refine wpQuiet_nil ?_
    intro w3 hb3
    go_wp2_with (fail)
    go_ret
    exact RetV.bool (by simp) (S2.out.trans (hb3.mono (by omega)))
  · have hL := h.1
    have hC := h.2.1
    have hS := h.2.2.1
    have hpos := (Tr.flat_len (Tr.two x a b2))
    obtain ⟨b, off, rfl, hb, hrow⟩ := h.at (i := 0) (by omega)
    obtain ⟨e0, e1, e2, e3, e4⟩ := hrow.node (i := 0) (by omega) (by rw [Nat.zero_mul, Nat.add_zero])
    have hx0 : (Tr.two x a b2).flat[0]'hpos = x := Tr.flat_head (Tr.two x a b2)
    rw [hx0] at e0 e1 e2 e3 e4
    obtain ⟨d, ht⟩ := Tr.rest (t := Tr.two x a b2) hw
    have h8 := hc.1
    obtain ⟨w1, hw1⟩ : ∃ w1, w1 = w.alloc (.cells c.arr 39) := ⟨_, rfl⟩
    have b1 : Below w.heap.size w w1 := by rw [hw1]; exact (by repeat (first | exact Below.refl _ _ | refine Below.drew ?_ | refine Below.alloc ?_ (by first | omega | (simp; done) | (simp; omega)) _ | refine Below.setCell ?_ (by first | omega | (simp; done) | (simp; omega)) _ | refine Below.trans ?_ (Below.mono (by assumption) (by first | omega | (simp; done) | (simp; omega)))))
    have z1 : w1.heap.size = w.heap.size + 1 := by rw [hw1]; simp
    have C1 : Blk w1 w.heap.size c.arr := by rw [hw1]; exact Blk.new w _ _
    have ht0 : Trees (parts (((Tr.two x a b2).flat[0]'hpos).op)).toNat ((Tr.two x a b2).flat.drop (0 + 1)) [] d := by rw [hx0]; exact ht
    have KD := Lib.hid (c_ref10_Kids (Tr.two x a b2).flat 0 _ n w1 (h.below b1) hpos [] d ht0)
    rw [hx0] at KD
    rw [show cut (parts x.op).toNat ((Tr.two x a b2).flat.drop (0 + 1)) = [a.flat, b2.flat] from Tr.kids_two hw] at KD
    have S1 := Lib.hid b1
    have HC1 := Lib.hid C1
    have HR := Lib.hid hrow
    clear b1 C1 ht ht0 hrow h hx0
    go_enter Try.func31, Try.ntmps31
    go_wp2_with (rw [← hw1]; clear hw1)
    refine KD.out.mono ?_
    rintro e w2 ⟨os, hos, ⟨v, rfl, own, hb2⟩, hin⟩
    have hz2 := hb2.size
    have S2 := Lib.hid (S1.out.trans (hb2.mono (by omega)))
    have HC2 := Lib.hid (HC1.out.below hb2 HC1.out.lt)
    have q0 := (S2.out.cell (p := ⟨b, off, none⟩) hb).trans e0
    have q1 := (S2.out.cell (p := ⟨b, off + 1, none⟩) hb).trans e1
    have q2 := (S2.out.cell (p := ⟨b, off + 2, none⟩) hb).trans e2
    have q3 := (S2.out.cell (p := ⟨b, off + 3, none⟩) hb).trans e3
    have q4 := (S2.out.cell (p := ⟨b, off + 4, none⟩) hb).trans e4
    have hb' : b < w2.heap.size := by omega
    clear e0 e1 e2 e3 e4 KD HC1 hb2
    obtain ⟨o, p, rfl, ho, hp⟩ := two_of_map hos
    obtain ⟨g1, c1, rfl, -, -, -, hg1⟩ := own_form' own (by simp)
    have k0 := kid_cell own (k := 0) (by simp)
    have k1 := kid_cell own (k := 1) (by simp)
    have hn1 : 2 ≤ c1 := by
      obtain ⟨A', c', hv, h1, -⟩ := own_form own
      injection hv with _ _ e; subst e; simpa using h1
    have I0 := Lib.hid (show InN w2 o.1 o.2.1 a.flat by rw [← ho]; exact hin o (by simp))
    have I1 := Lib.hid (show InN w2 p.1 p.2.1 b2.flat by rw [← hp]; exact hin p (by simp))
    simp only [List.getElem_cons_zero, ho] at k0
    simp only [List.getElem_cons_succ, List.getElem_cons_zero, hp] at k1
    simp only [List.length_cons, List.length_nil, Nat.zero_add, Nat.reduceAdd]
    clear own hin hos
    go_wp2_with (fail)
    refine wp_region_grow (by kernel_rfl) (by kernel_rfl) ?_
    go_big_quiet_step (fail)
    go_big_quiet_step (fail)
    go_big_quiet_step (fail)
    refine wpQuiet_loadC rfl _ _ rfl w.heap.size 0 rfl c.arr (fun w' hy j u hu => by
      obtain ⟨y, rfl⟩ := hy
      exact (HC2.out.below (grow_below _ y) HC2.out.lt).all j u hu) strC (by rw [Card.arr_size, h8]) ?_
    simp only [Act.put, List.setIfInBounds_toArray, List.set_cons_zero, List.set_cons_succ]
    repeat (go_big_quiet_step ((first | (go_at_call 31; exact quiet_grow (CA.out _ _ _ (I0.out.below (grow_below _ _)))))))
    refine wpQuiet_nil ?_
    intro w3 hb3
    go_wp2_with (fail)
    go_ret
    exact RetV.bool (by simp) (S2.out.trans (hb3.mono (by omega)))
theorem c_ref13_Match (t : Tr) : ∀ (A : Option Addr) (n : Nat) (c : Card) (g : Nat) (w : World), t.wf → (∀ x ∈ t.flat, x.ok = true) → shortC c → g < 4294967296 → InN w A n t.flat →
    Calls Try.prog 31 #[.slice A t.flat.length n, .agg c.arr, .int .u32 g] w (RetV w (.bool (t.mat c g))) := by
  induction t with
  | leaf x => exact fun A n c g w hw hok hc hg h => ref13_Match_leaf x hw (hok x (by simp [Tr.flat])) A n c g w hc hg h
  | one x a ih => exact fun A n c g w hw hok hc hg h => ref13_Match_one x a hw A n c g w hc hg h (fun A n w h => ih A n c g w hw.2 (fun y hy => hok y (by simp [Tr.flat, hy])) hc hg h)
  | two x a b iha ihb =>
    intro A n c g w hw hok hc hg h
    have CA := fun A n w h => iha A n c g w hw.2.1 (fun y hy => hok y (by simp [Tr.flat, hy])) hc hg h
    have CB := fun A n w h => ihb A n c g w hw.2.2 (fun y hy => hok y (by simp [Tr.flat, hy])) hc hg h
    rcases hw.1 with h1 | h1
    · exact ref13_Match_and x a b hw h1 A n c g w hc hg h CA CB
    · exact ref13_Match_or x a b hw h1 A n c g w hc hg h CA CB
end Go.Proofs.Ytldoedmclfbgpaa
namespace Go.Proofs.Ytldoedmclfbgpaa
open Go.RowKit

def vz13 : Val := ⟨0, 0, []⟩
def card1 : Card := ⟨1, 0, 0, List.replicate 8 vz13⟩
theorem card1_arr : Card.arr card1 = #[.int .i64 1, .int .i64 0, .int .u32 0, .int .i64 0, .int .i64 0, .string (str []), .int .i64 0, .int .i64 0, .string (str []), .int .i64 0, .int .i64 0, .string (str []), .int .i64 0, .int .i64 0, .string (str []), .int .i64 0, .int .i64 0, .string (str []), .int .i64 0, .int .i64 0, .string (str []), .int .i64 0, .int .i64 0, .string (str []), .int .i64 0, .int .i64 0, .string (str [])] := by
  unfold Card.arr; rfl
theorem card1_short : shortC card1 := ⟨rfl, by decide, fun x hx => by rw [List.eq_of_mem_replicate hx]; decide⟩
def exTr : Tr := .two ⟨12, 0, vz13⟩ (.leaf ⟨3, 1, vz13⟩) (.leaf ⟨4, 2, vz13⟩)
theorem exTr_wf : exTr.wf := ⟨.inr rfl, by show parts 3 = 0; decide, by show parts 4 = 0; decide⟩
theorem exTr_check : check exTr.flat = 0 := by decide
theorem exTr_ok : ∀ x ∈ exTr.flat, x.ok = true := by decide
theorem exTr_mat4 : exTr.mat card1 4 = true := by decide
theorem exTr_mat2 : exTr.mat card1 2 = false := by decide
set_option maxHeartbeats 1000000 in
theorem c_law13_awake (w : World) (hM : MaxV w) : Calls Try.prog 17 #[] w (RetV w (.bool true)) := by
  have i1 := InN.lit w exTr.flat 94 3 rfl (by decide)
  have HM := Lib.hid (fun w' (hb : Below w.heap.size w w') => hM.below hb)
  obtain ⟨w1, hw1⟩ : ∃ w1, w1 = w.alloc (.cells (exTr.flat.flatMap Node.cells).toArray 94) := ⟨_, rfl⟩
  have b1 : Below w.heap.size w w1 := by rw [hw1]; exact (by repeat (first | exact Below.refl _ _ | refine Below.drew ?_ | refine Below.alloc ?_ (by first | omega | (simp; done) | (simp; omega)) _ | refine Below.setCell ?_ (by first | omega | (simp; done) | (simp; omega)) _ | refine Below.trans ?_ (Below.mono (by assumption) (by first | omega | (simp; done) | (simp; omega)))))
  rw [← hw1] at i1
  have CN := Lib.hid (c_New exTr (some ⟨w.heap.size, 0, none⟩) 3 w1 i1 (by decide) exTr_check (hM.below b1))
  have S1 := Lib.hid b1
  have hw2 : w1 = w.alloc (.cells #[.int .i64 12, .int .i64 0, .int .i64 0, .int .i64 0, .string (str []), .int .i64 3, .int .i64 1, .int .i64 0, .int .i64 0, .string (str []), .int .i64 4, .int .i64 2, .int .i64 0, .int .i64 0, .string (str [])] 94) := hw1
  have M4 := Lib.hid (fun w b h hM => c_Match_first exTr exTr_wf exTr_ok b card1 4 card1_short (by decide) w hM h)
  have M2 := Lib.hid (fun w b h hM => c_Match_again exTr b card1 2 card1_short (by decide) w hM h)
  rw [card1_arr, exTr_mat4] at M4
  rw [card1_arr, exTr_mat2] at M2
  clear hM hw1 i1 b1
  go_enter Try.func17, Try.ntmps17
  go_wp2_with (rw [← hw2]; clear hw2)
  refine CN.out.mono ?_
  rintro e w2 ⟨b, rfl, hb2, hbw, FN⟩
  have s1 := S1.out.size
  have s2 := hb2.size
  have S2 := Lib.hid (S1.out.trans (hb2.mono s1))
  clear hb2
  go_wp2_with (fail)
  refine (M4.out w2 b FN (HM.out _ S2.out)).mono ?_
  rintro e w3 ⟨rfl, K3, FD⟩
  have S3 := Lib.hid (S2.out.trans (K3.oneB (by omega) (by omega)))
  clear K3
  go_wp2_with (fail)
  refine (M2.out w3 b FD (HM.out _ S3.out)).mono ?_
  rintro e w4 ⟨rfl, hb4⟩
  go_wp2_with (fail)
  go_ret
  exact RetV.bool rfl (S3.out.trans (hb4.mono S3.out.size))
end Go.Proofs.Ytldoedmclfbgpaa
namespace Go.Proofs.Ytldoedmclfbgpaa
open Go.RowKit

theorem Flt.nodes {w : World} {b : Nat} {t : Tr} (h : FltN w b t ∨ FltD w b t) : ∃ A c, w.cell? ⟨b, 0, none⟩ = some (.slice A t.flat.length c) ∧ InN w A c t.flat := by
  rcases h with ⟨A, c, h1, h2, -⟩ | ⟨A, c, f, k, B, E, h1, h2, -⟩
  · exact ⟨A, c, h1.cell rfl, h2.1⟩
  · exact ⟨A, c, h1.cell rfl, h2.1⟩
theorem Flt.below {w w' : World} {b : Nat} {t : Tr} (h : FltN w b t ∨ FltD w b t) (k : Below w.heap.size w w') : FltN w' b t ∨ FltD w' b t := h.imp (·.below k) (·.below k)
theorem c_Match (t : Tr) (hw : t.wf) (hok : ∀ x ∈ t.flat, x.ok = true) (b : Nat) (c : Card) (g : Nat) (hc : shortC c) (hg : g < 4294967296) (w : World) (hM : MaxV w) (h : FltN w b t ∨ FltD w b t) :
    Calls Try.prog 20 #[.pointer (some ⟨b, 0, none⟩), .agg c.arr, .int .u32 g] w (RetF w b t (t.mat c g)) := by
  rcases h with h | h
  · exact c_Match_first t hw hok b c g hc hg w hM h
  · exact (c_Match_again t b c g hc hg w hM h).mono fun e w' ⟨he, hb⟩ => ⟨he, Kept.of_below hb, h.below hb⟩
/-- While a filter is asked for all that it tells. -/
structure EvM (w0 : World) (b : Nat) (t : Tr) (l : List Node) (L : Nat → Bool) (u : Nat → Value) (w1 : World) : Prop where
  K : Kept (some b) w0.heap.size w0 w1
  F : FltN w1 b t ∨ FltD w1 b t
  n1 : L 1 = true → ∃ A c, u 1 = .slice A l.length c ∧ InF w1 b A c l
section
variable {w0 w1 w2 : World} {b j : Nat} {t : Tr} {l : List Node} {L : Nat → Bool} {u : Nat → Value} {v : Value}
theorem EvM.below (h : EvM w0 b t l L u w1) (h1 : j ≠ 1) (hb : Below w1.heap.size w1 w2) : EvM w0 b t l (upd L j true) (upd u j v) w2 :=
  ⟨h.K.then_below hb h.K.size, Flt.below h.F hb, by rw [upd_other _ _ (Ne.symm h1), upd_other _ _ (Ne.symm h1)]; intro e; obtain ⟨A, c, e1, e2⟩ := h.n1 e; exact ⟨A, c, e1, e2.below hb⟩⟩
theorem EvM.pure (h : EvM w0 b t l L u w1) (h1 : j ≠ 1) : EvM w0 b t l (upd L j true) (upd u j v) w1 := h.below h1 (Below.refl _ _)
theorem EvM.nodes (h : EvM w0 b t l L u w1) {A : Option Addr} {c : Nat} (hb : Below w1.heap.size w1 w2) (hi : InF w2 b A c l) : EvM w0 b t l (upd L 1 true) (upd u 1 (.slice A l.length c)) w2 :=
  ⟨h.K.then_below hb h.K.size, Flt.below h.F hb, fun _ => ⟨A, c, upd_same .., hi⟩⟩
theorem EvM.asked (h : EvM w0 b t l L u w1) (h1 : j ≠ 1) (hk : Kept (some b) w1.heap.size w1 w2) (hf : FltD w2 b t) : EvM w0 b t l (upd L j true) (upd u j v) w2 :=
  ⟨h.K.then_kept hk h.K.size, .inr hf, by rw [upd_other _ _ (Ne.symm h1), upd_other _ _ (Ne.symm h1)]; intro e; obtain ⟨A, c, e1, e2⟩ := h.n1 e; exact ⟨A, c, e1, e2.kept hk e2.2⟩⟩
end
theorem own_in5 {w : World} {base : Nat} {et : TypeId} {v : Value} {l : List Node} (h : w.ownsRow base et 5 v l.length (l.flatMap Node.cells)) (hn : 1 ≤ l.length) (hs : l.length ≤ 4294967296) : ∃ g c, v = .slice (some ⟨g, 0, none⟩) l.length c ∧ base ≤ g ∧ InN w (some ⟨g, 0, none⟩) c l := by
  obtain ⟨g, c, rfl, -, -, hg, -⟩ := own_form' h (by omega)
  obtain ⟨A', c', hv, hin⟩ := In.of_own Node.cells_len h hs
  injection hv with e1 _ e2
  subst e1 e2
  exact ⟨g, c, rfl, hg, hin⟩
theorem MaxV.kept {w w' : World} {q : Nat} (h : MaxV w) (k : Kept (some q) w.heap.size w w') (hq : 0 ≠ q) : MaxV w' := by
  obtain ⟨m, hm⟩ := h
  exact ⟨m, (k.cell (q := ⟨_, 0, none⟩) (World.block_lt_of_cell? w _ hm) (fun e => by injection e with e; exact hq e.symm)).trans hm⟩
set_option maxHeartbeats 1000000 in
theorem law13_EvalTells_large (l : List Node) (A : Option Addr) (n : Nat) (c : Card) (g : Nat) (w : World) (hI : InN w A n l) (hsw : ∀ x ∈ l, x.v.s.length ≤ 9223372036854775807) (hM : MaxV w) (hl : large l = true) :
    Calls Try.prog 7 #[.slice A l.length n, .agg c.arr, .int .u32 g] w (RetV w (.bool true)) := by
  have HM := Lib.hid (fun w' (hb : Below w.heap.size w w') => hM.below hb)
  have HI := Lib.hid hI
  have HW := Lib.hid hsw
  clear hM hI hsw
  obtain ⟨w1, hw1⟩ : ∃ w1, w1 = w.alloc (.cells c.arr 39) := ⟨_, rfl⟩
  have b1 : Below w.heap.size w w1 := by rw [hw1]; exact (by repeat (first | exact Below.refl _ _ | refine Below.drew ?_ | refine Below.alloc ?_ (by first | omega | (simp; done) | (simp; omega)) _ | refine Below.setCell ?_ (by first | omega | (simp; done) | (simp; omega)) _ | refine Below.trans ?_ (Below.mono (by assumption) (by first | omega | (simp; done) | (simp; omega)))))
  have C1 := Lib.hid (show Blk w1 w.heap.size c.arr by rw [hw1]; exact Blk.new w _ _)
  have S1 := Lib.hid b1
  clear b1
  have CL := Lib.hid (c_law10_Large l A n w1 (HI.out.below S1.out) HW.out)
  rw [hl] at CL
  go_enter Try.func7, Try.ntmps7
  go_wp2_with (rw [← hw1]; clear hw1)
  refine CL.out.mono ?_
  rintro e w2 ⟨rfl, hb2⟩
  have s1 := S1.out.size
  have S2 := Lib.hid (S1.out.trans (hb2.mono s1))
  clear hb2
  go_wp2_with (fail)
  refine (c_law13_awake _ (HM.out _ S2.out)).mono ?_
  rintro e w3 ⟨rfl, hb3⟩
  go_wp2_with (fail)
  go_ret
  exact RetV.bool rfl (S2.out.trans (hb3.mono S2.out.size))
set_option maxHeartbeats 1000000 in
theorem law13_EvalTells_long (l : List Node) (A : Option Addr) (n : Nat) (c : Card) (g : Nat) (w : World) (h8 : c.f.length = 8) (hI : InN w A n l) (hsw : ∀ x ∈ l, x.v.s.length ≤ 9223372036854775807) (hM : MaxV w) (hl : large l = false) (hf : longF c.f = true) :
    Calls Try.prog 7 #[.slice A l.length n, .agg c.arr, .int .u32 g] w (RetV w (.bool true)) := by
  have HM := Lib.hid (fun w' (hb : Below w.heap.size w w') => hM.below hb)
  have HI := Lib.hid hI
  have HW := Lib.hid hsw
  clear hM hI hsw
  obtain ⟨w1, hw1⟩ : ∃ w1, w1 = w.alloc (.cells c.arr 39) := ⟨_, rfl⟩
  have b1 : Below w.heap.size w w1 := by rw [hw1]; exact (by repeat (first | exact Below.refl _ _ | refine Below.drew ?_ | refine Below.alloc ?_ (by first | omega | (simp; done) | (simp; omega)) _ | refine Below.setCell ?_ (by first | omega | (simp; done) | (simp; omega)) _ | refine Below.trans ?_ (Below.mono (by assumption) (by first | omega | (simp; done) | (simp; omega)))))
  have C1 := Lib.hid (show Blk w1 w.heap.size c.arr by rw [hw1]; exact Blk.new w _ _)
  have S1 := Lib.hid b1
  clear b1
  have CL := Lib.hid (c_law10_Large l A n w1 (HI.out.below S1.out) HW.out)
  rw [hl] at CL
  have CF := Lib.hid (fun w => c_Large c.f w h8)
  rw [hf] at CF
  go_enter Try.func7, Try.ntmps7
  go_wp2_with (rw [← hw1]; clear hw1)
  refine CL.out.mono ?_
  rintro e w2 ⟨rfl, hb2⟩
  have s1 := S1.out.size
  have S2 := Lib.hid (S1.out.trans (hb2.mono s1))
  have C2 := Lib.hid (C1.out.below hb2 C1.out.lt)
  clear hb2
  go_wp2_with (with_reducible refine slG 37 _ rfl ?_)
  refine Stop.mk (wlG rfl _ _ rfl w.heap.size 3 rfl (farr c.f) (fun j u hu => C2.out.cell (by rw [Card.arr_tail]; exact hu)) strF (by rw [farr_size, h8]) ?_)
  go_wp2_with (fail)
  refine (CF.out _).mono ?_
  rintro e w3 ⟨rfl, hb3⟩
  have S3 := Lib.hid (S2.out.trans (hb3.mono S2.out.size))
  clear hb3
  go_wp2_with (fail)
  refine (c_law13_awake _ (HM.out _ S3.out)).mono ?_
  rintro e w4 ⟨rfl, hb4⟩
  go_wp2_with (fail)
  go_ret
  exact RetV.bool rfl (S3.out.trans (hb4.mono S3.out.size))
end Go.Proofs.Ytldoedmclfbgpaa
namespace Go.Proofs.Ytldoedmclfbgpaa
open Go.RowKit

set_option maxHeartbeats 1000000 in
theorem law13_EvalTells_bad (l : List Node) (A : Option Addr) (n : Nat) (c : Card) (g : Nat) (w : World) (h8 : c.f.length = 8) (hI : InN w A n l) (hsw : ∀ x ∈ l, x.v.s.length ≤ 9223372036854775807) (hM : MaxV w) (hl : large l = false) (hf : longF c.f = false) (hk : check l ≠ 0) :
    Calls Try.prog 7 #[.slice A l.length n, .agg c.arr, .int .u32 g] w (RetV w (.bool true)) := by
  have hkb : (check l == 0) = false := by simpa using hk
  have HM := Lib.hid (fun w' (hb : Below w.heap.size w w') => hM.below hb)
  have HI := Lib.hid hI
  have HW := Lib.hid (show ∀ x ∈ l, x.v.s.length ≤ 9223372036854775807 from hsw)
  clear hM hI hsw
  obtain ⟨w1, hw1⟩ : ∃ w1, w1 = w.alloc (.cells c.arr 39) := ⟨_, rfl⟩
  have b1 : Below w.heap.size w w1 := by rw [hw1]; exact (by repeat (first | exact Below.refl _ _ | refine Below.drew ?_ | refine Below.alloc ?_ (by first | omega | (simp; done) | (simp; omega)) _ | refine Below.setCell ?_ (by first | omega | (simp; done) | (simp; omega)) _ | refine Below.trans ?_ (Below.mono (by assumption) (by first | omega | (simp; done) | (simp; omega)))))
  have C1 := Lib.hid (show Blk w1 w.heap.size c.arr by rw [hw1]; exact Blk.new w _ _)
  have S1 := Lib.hid b1
  clear b1
  have CL := Lib.hid (c_law10_Large l A n w1 (HI.out.below S1.out) HW.out)
  rw [hl] at CL
  have CF := Lib.hid (fun w => c_Large c.f w h8)
  rw [hf] at CF
  go_enter Try.func7, Try.ntmps7
  go_wp2_with (rw [← hw1]; clear hw1)
  refine CL.out.mono ?_
  rintro e w2 ⟨rfl, hb2⟩
  have s1 := S1.out.size
  have S2 := Lib.hid (S1.out.trans (hb2.mono s1))
  have C2 := Lib.hid (C1.out.below hb2 C1.out.lt)
  clear hb2
  go_wp2_with (with_reducible refine slG 37 _ rfl ?_)
  refine Stop.mk (wlG rfl _ _ rfl w.heap.size 3 rfl (farr c.f) (fun j u hu => C2.out.cell (by rw [Card.arr_tail]; exact hu)) strF (by rw [farr_size, h8]) ?_)
  go_wp2_with (fail)
  refine (CF.out _).mono ?_
  rintro e w3 ⟨rfl, hb3⟩
  have s2 := S2.out.size
  have S3 := Lib.hid (S2.out.trans (hb3.mono s2))
  have C3 := Lib.hid (C2.out.below hb3 C2.out.lt)
  clear hb3 CL CF S1 C1 C2
  have s3 := S3.out.size
  go_wp2_with (fail)
  refine (c_New_bad l A n w3 (HI.out.below S3.out) HW.out hk).mono ?_
  rintro e w4 ⟨rfl, hb4⟩
  have C4 := Lib.hid (C3.out.below hb4 C3.out.lt)
  have S4 := Lib.hid (S3.out.trans (hb4.mono s3))
  have s4 := hb4.size
  clear hb4
  have CK := Lib.hid (fun w' (hb : Below w4.heap.size w4 w') => c_ref10_Check l A n w' ((HI.out.below S4.out).below hb) HW.out)
  clear hk
  go_wp2_with (with_reducible refine stop_load 39 _ rfl rfl ?_)
  refine Stop.mk (wpList_loadB rfl _ _ rfl w.heap.size rfl c.arr C4.out strC (by rw [Card.arr_size, h8]) ?_)
  go_wp2_with (fail)
  refine (c_Match_nil c _ _).mono ?_
  rintro e w5 ⟨rfl, hb5⟩
  have S5 := Lib.hid hb5
  clear hb5
  go_wp2_with (fail)
  refine (c_Fields_nil _).mono ?_
  rintro e w6 ⟨rfl, hb6⟩
  have S6 := Lib.hid (S5.out.trans (hb6.mono S5.out.size))
  clear hb6
  go_wp2_with (fail)
  refine (c_Groups_nil _).mono ?_
  rintro e w7 ⟨rfl, hb7⟩
  have S7 := Lib.hid (S6.out.trans (hb7.mono S6.out.size))
  clear hb7
  go_wp2_with (fail)
  refine (c_Nodes_nil _).mono ?_
  rintro e w8 ⟨rfl, hb8⟩
  have S8 := Lib.hid (S7.out.trans (hb8.mono S7.out.size))
  clear hb8 S5 S6 S7
  go_wp2_with (fail)
  refine (CK.out _ S8.out).mono ?_
  rintro e w9 ⟨rfl, hb9⟩
  have S9 := Lib.hid (S8.out.trans (hb9.mono S8.out.size))
  clear hb9 S8
  go_wp2_with (fail)
  refine (c_law13_awake _ (HM.out _ (S4.out.trans (S9.out.mono (by omega))))).mono ?_
  rintro e w10 ⟨rfl, hb10⟩
  go_wp2_with (fail)
  go_ret
  exact RetV.bool rfl ((S4.out.trans (S9.out.mono (by omega))).trans (hb10.mono (by have := S9.out.size; omega)))
theorem longF_short {c : Card} (h8 : c.f.length = 8) (hlab : c.lab < 4294967296) (h : longF c.f = false) : shortC c :=
  ⟨h8, hlab, fun x hx => by have := List.any_eq_false.1 h x hx; simpa using this⟩
set_option maxRecDepth 10000 in
set_option maxHeartbeats 1000000 in
theorem law13_EvalTells_good (t : Tr) (hw : t.wf) (hok : ∀ x ∈ t.flat, x.ok = true) (l : List Node) (htl : t.flat = l) (A : Option Addr) (n : Nat) (c : Card) (g : Nat) (w : World) (hlab : c.lab < 4294967296) (hg : g < 4294967296) (h8 : c.f.length = 8) (hI : InN w A n l) (hsw : ∀ x ∈ l, x.v.s.length ≤ 9223372036854775807) (hM : MaxV w) (hl : large l = false) (hf : longF c.f = false) (hk : check l = 0) :
    Calls Try.prog 7 #[.slice A l.length n, .agg c.arr, .int .u32 g] w (RetV w (.bool true)) := by
  have hkb : (check l == 0) = true := by simpa using hk
  have hS := hI.2.2.1
  have hsh := longF_short h8 hlab hf
  obtain ⟨mx, hmx⟩ := hM
  have hmxl := World.block_lt_of_cell? w _ hmx
  have hM : MaxV w := ⟨mx, hmx⟩
  clear hmx
  subst htl
  have hpos := t.flat_len
  obtain ⟨l, hle⟩ : ∃ l, l = t.flat := ⟨_, rfl⟩
  rw [← hle] at hI hsw hl hkb hS hpos ⊢
  have HLE := Lib.hid hle
  have HK := Lib.hid hk
  clear hle hk
  have HM := Lib.hid (fun w' (hb : Below w.heap.size w w') => hM.below hb)
  have HI := Lib.hid hI
  have HW := Lib.hid (show ∀ x ∈ l, x.v.s.length ≤ 9223372036854775807 from hsw)
  clear hM hI hsw
  obtain ⟨w1, hw1⟩ : ∃ w1, w1 = w.alloc (.cells c.arr 39) := ⟨_, rfl⟩
  have b1 : Below w.heap.size w w1 := by rw [hw1]; exact (by repeat (first | exact Below.refl _ _ | refine Below.drew ?_ | refine Below.alloc ?_ (by first | omega | (simp; done) | (simp; omega)) _ | refine Below.setCell ?_ (by first | omega | (simp; done) | (simp; omega)) _ | refine Below.trans ?_ (Below.mono (by assumption) (by first | omega | (simp; done) | (simp; omega)))))
  have C1 := Lib.hid (show Blk w1 w.heap.size c.arr by rw [hw1]; exact Blk.new w _ _)
  have S1 := Lib.hid b1
  clear b1
  have CL := Lib.hid (c_law10_Large l A n w1 (HI.out.below S1.out) HW.out)
  rw [hl] at CL
  have CF := Lib.hid (fun w => c_Large c.f w h8)
  rw [hf] at CF
  go_enter Try.func7, Try.ntmps7
  go_wp2_with (rw [← hw1]; clear hw1)
  refine CL.out.mono ?_
  rintro e w2 ⟨rfl, hb2⟩
  have s1 := S1.out.size
  have S2 := Lib.hid (S1.out.trans (hb2.mono s1))
  have C2 := Lib.hid (C1.out.below hb2 C1.out.lt)
  clear hb2
  go_wp2_with (with_reducible refine slG 37 _ rfl ?_)
  refine Stop.mk (wlG rfl _ _ rfl w.heap.size 3 rfl (farr c.f) (fun j u hu => C2.out.cell (by rw [Card.arr_tail]; exact hu)) strF (by rw [farr_size, h8]) ?_)
  go_wp2_with (fail)
  refine (CF.out _).mono ?_
  rintro e w3 ⟨rfl, hb3⟩
  have s2 := S2.out.size
  have S3 := Lib.hid (S2.out.trans (hb3.mono s2))
  have C3 := Lib.hid (C2.out.below hb3 C2.out.lt)
  clear hb3 CL CF S1 C1 C2
  have s3 := S3.out.size
  go_wp2_with (fail)
  have z3 : w.heap.size < w3.heap.size := C3.out.lt
  have CN := c_New t A n w3 (by rw [← HLE.out]; exact HI.out.below S3.out) (by rw [← HLE.out]; exact HW.out) HK.out (HM.out _ S3.out)
  rw [← HLE.out] at CN
  refine CN.mono ?_
  clear CN
  rintro e w4 ⟨b, rfl, hb4, hb3, FN⟩
  have C4 := Lib.hid (C3.out.below hb4 C3.out.lt)
  have S4 := Lib.hid (S3.out.trans (hb4.mono s3))
  have s4 := hb4.size
  clear hb4
  have CK := Lib.hid (fun w' (hb : Below w4.heap.size w4 w') => c_ref10_Check l A n w' ((HI.out.below S4.out).below hb) HW.out)
  have FN := Lib.hid FN
  go_wp2_with (with_reducible refine stop_load 39 _ rfl rfl ?_)
  refine Stop.mk (wpList_loadB rfl _ _ rfl w.heap.size rfl c.arr C4.out strC (by rw [Card.arr_size, h8]) ?_)
  go_wp2_with (fail)
  refine (c_Match_nil c _ _).mono ?_
  rintro e w5 ⟨rfl, hb5⟩
  have S5 := Lib.hid hb5
  clear hb5
  go_wp2_with (fail)
  refine (c_Fields_nil _).mono ?_
  rintro e w6 ⟨rfl, hb6⟩
  have S6 := Lib.hid (S5.out.trans (hb6.mono S5.out.size))
  clear hb6
  go_wp2_with (fail)
  refine (c_Groups_nil _).mono ?_
  rintro e w7 ⟨rfl, hb7⟩
  have S7 := Lib.hid (S6.out.trans (hb7.mono S6.out.size))
  clear hb7
  go_wp2_with (fail)
  refine (c_Nodes_nil _).mono ?_
  rintro e w8 ⟨rfl, hb8⟩
  have S8 := Lib.hid (S7.out.trans (hb8.mono S7.out.size))
  clear hb8 S5 S6 S7
  go_wp2_with (fail)
  refine (CK.out _ S8.out).mono ?_
  rintro e w9 ⟨rfl, hb9⟩
  have S9 := Lib.hid (S8.out.trans (hb9.mono S8.out.size))
  clear hb9 S8
  go_wp2_with (fail)
  have s9 := S9.out.size
  have F9 := Lib.hid (FN.out.below S9.out)
  have T9 := Lib.hid (S4.out.trans (S9.out.mono (by omega)))
  have C9 := Lib.hid (C4.out.below S9.out C4.out.lt)
  have I9 := Lib.hid (HI.out.below T9.out)
  have bw9 := F9.out.lt
  have IF9 := Lib.hid (show InF w9 b A n l from ⟨I9.out, fun ad e => by
    rcases HI.out.2.2.2 with h0 | ⟨q, off, hA, hq, -⟩
    · rw [h0] at hpos; simp at hpos
    · rw [hA] at e; injection e with e; subst e; show q ≠ b; omega⟩)
  have M9 := Lib.hid (HM.out _ T9.out)
  have hgb : 0 ≠ b := by omega
  clear S9 S4 C4 FN CK S3 C3 HI
  obtain ⟨ma, hma⟩ : ∃ m, m = t.mat c g := ⟨_, rfl⟩
  obtain ⟨mk, hmk⟩ : ∃ m, m = maskL l 0 := ⟨_, rfl⟩
  obtain ⟨mg, hmg⟩ : ∃ m, m = grpL l 0 := ⟨_, rfl⟩
  have HMA := Lib.hid hma
  have HMK := Lib.hid hmk
  have HMG := Lib.hid hmg
  clear hma hmk hmg
  refine wp_region_relM (VW [some (.pointer (some ⟨b, 0, none⟩)), none, some (.slice A l.length n), some (.bool true), some (.bool true),
    some (.pointer (some ⟨b, 0, none⟩)), some (.agg c.arr), some (.int .u32 g), some (.bool ma), some (.slice A l.length n), some (.agg c.arr), some (.int .u32 g), some (.bool ma), some (.bool true), some (.bool true), some (.bool true),
    some (.pointer (some ⟨b, 0, none⟩)), some (.int .u32 mk), some (.slice A l.length n), some (.int .u32 mk), some (.bool true), some (.bool true), some (.bool true),
    some (.pointer (some ⟨b, 0, none⟩)), some (.int .u32 mg), some (.slice A l.length n), some (.int .u32 mg), some (.bool true), some (.bool true), some (.bool true), some (.bool true), some (.bool true), some (.bool true)]) (EvM w9 b t l) 82 (by kernel_rfl) (by kernel_rfl) rfl ?_ ?_ ?_
  · intro u w' hb hh
    exact ⟨Kept.of_below hb, .inl (F9.out.below hb), fun e => (by first | cases e | simp at e)⟩
  · refine ⟨?_, ?_, ?_, ?_, ?_, ?_, ?_, ?_, ?_, ?_, ?_, ?_, ?_, ?_, ?_, ?_, ?_, ?_, ?_, ?_, ?_, ?_, ?_, ?_, ?_, ?_, ?_, ?_, ?_, ?_, ?_, ?_, ?_, trivial⟩
    all_goals
      rintro L u W1 hM hL hd
      have M := Lib.hid hM
      clear hM
      simp [DepsM, Region.binds, VW] at hd
      simp only [putDeps, dstOf, Region.binds]
      try simp only [hd]
    case refine_2 =>
      obtain ⟨A1, c1, hc1, hi1⟩ := Flt.nodes M.out.F
      rw [← HLE.out] at hc1 hi1
      have CX := Lib.hid (c_Nodes l b A1 c1 W1 hi1 hc1)
      have hW1 := M.out.K.size
      clear hc1 hi1
      go_wp2_with (fail)
      refine CX.out.mono ?_
      rintro e W2 ⟨v, rfl, own, hb⟩
      obtain ⟨q, cq, rfl, hq, hi⟩ := own_in5 own hpos hS
      have hW2 := hb.size
      go_wp2_with (fail)
      exact EndM.mk rfl ⟨trivial, M.out.nodes hb ⟨hi, fun ad e => by injection e with e; subst e; show q ≠ b; omega⟩⟩
    case refine_4 =>
      have h1 : L 1 = true := by first | exact hd.1 | exact hd.1.1 | exact hd.2.1 | exact hd
      obtain ⟨A1, c1, e1, i1⟩ := M.out.n1 h1
      rw [e1]
      have CX := Lib.hid (c_ref10_Same l l A1 A c1 n W1 i1.1 (IF9.out.kept M.out.K IF9.out.2).1)
      clear e1 i1
      go_wp2_with (fail)
      refine CX.out.mono ?_
      rintro e W2 ⟨rfl, hb⟩
      go_wp2_with (fail)
      exact EndM.mk rfl ⟨by show _ = _; simp, M.out.below (by decide) hb⟩
    case refine_7 =>
      have CB := Lib.hid (C9.out.kept M.out.K C9.out.lt (fun e => by injection e with e; omega))
      go_wp2_with (with_reducible refine slG 39 _ rfl ?_)
      refine Stop.mk (wlG rfl _ _ rfl w.heap.size 0 rfl c.arr CB.out.all strC (by rw [Card.arr_size, h8]) ?_)
      go_wp2_with (fail)
      exact EndM.mk rfl ⟨rfl, M.out.pure (by decide)⟩
    case refine_11 =>
      have CB := Lib.hid (C9.out.kept M.out.K C9.out.lt (fun e => by injection e with e; omega))
      go_wp2_with (with_reducible refine slG 39 _ rfl ?_)
      refine Stop.mk (wlG rfl _ _ rfl w.heap.size 0 rfl c.arr CB.out.all strC (by rw [Card.arr_size, h8]) ?_)
      go_wp2_with (fail)
      exact EndM.mk rfl ⟨rfl, M.out.pure (by decide)⟩
    case refine_9 =>
      have CX := c_Match t hw hok b c g hsh hg W1 (M9.out.kept M.out.K hgb) M.out.F
      rw [← HMA.out] at CX
      have CX := Lib.hid CX
      go_wp2_with (fail)
      refine CX.out.mono ?_
      rintro e W2 ⟨rfl, hk, hf⟩
      go_wp2_with (fail)
      exact EndM.mk rfl ⟨rfl, M.out.asked (by decide) hk hf⟩
    case refine_13 =>
      have CX := c_ref13_Match t A n c g W1 hw hok hsh hg (by rw [← HLE.out]; exact (IF9.out.kept M.out.K IF9.out.2).1)
      rw [← HMA.out, ← HLE.out] at CX
      have CX := Lib.hid CX
      go_wp2_with (fail)
      refine CX.out.mono ?_
      rintro e W2 ⟨rfl, hb⟩
      go_wp2_with (fail)
      exact EndM.mk rfl ⟨rfl, M.out.below (by decide) hb⟩
    case refine_18 =>
      obtain ⟨A1, c1, hc1, hi1⟩ := Flt.nodes M.out.F
      rw [← HLE.out] at hc1 hi1
      have CX := c_Fields l b A1 c1 W1 hi1 hc1
      rw [← HMK.out] at CX
      have CX := Lib.hid CX
      clear hc1 hi1
      go_wp2_with (fail)
      refine CX.out.mono ?_
      rintro e W2 ⟨rfl, hb⟩
      go_wp2_with (fail)
      exact EndM.mk rfl ⟨rfl, M.out.below (by decide) hb⟩
    case refine_20 =>
      have CX := c_ref13_Fields l A n W1 (IF9.out.kept M.out.K IF9.out.2).1
      rw [← HMK.out] at CX
      have CX := Lib.hid CX
      go_wp2_with (fail)
      refine CX.out.mono ?_
      rintro e W2 ⟨rfl, hb⟩
      go_wp2_with (fail)
      exact EndM.mk rfl ⟨rfl, M.out.below (by decide) hb⟩
    case refine_25 =>
      obtain ⟨A1, c1, hc1, hi1⟩ := Flt.nodes M.out.F
      rw [← HLE.out] at hc1 hi1
      have CX := c_Groups l b A1 c1 W1 hi1 hc1
      rw [← HMG.out] at CX
      have CX := Lib.hid CX
      clear hc1 hi1
      go_wp2_with (fail)
      refine CX.out.mono ?_
      rintro e W2 ⟨rfl, hb⟩
      go_wp2_with (fail)
      exact EndM.mk rfl ⟨rfl, M.out.below (by decide) hb⟩
    case refine_27 =>
      have CX := c_ref13_Groups l A n W1 (IF9.out.kept M.out.K IF9.out.2).1
      rw [← HMG.out] at CX
      have CX := Lib.hid CX
      go_wp2_with (fail)
      refine CX.out.mono ?_
      rintro e W2 ⟨rfl, hb⟩
      go_wp2_with (fail)
      exact EndM.mk rfl ⟨rfl, M.out.below (by decide) hb⟩
    case refine_31 =>
      have CX := Lib.hid (c_law13_awake W1 (M9.out.kept M.out.K hgb))
      go_wp2_with (fail)
      refine CX.out.mono ?_
      rintro e W2 ⟨rfl, hb⟩
      go_wp2_with (fail)
      exact EndM.mk rfl ⟨rfl, M.out.below (by decide) hb⟩
    all_goals
      go_wp2_with (fail)
      exact EndM.mk rfl ⟨by first | rfl | trivial | (show _ = _; simp), M.out.pure (by decide)⟩
  rintro u W1 hv hM
  have h32 : u 32 = .bool true := hv 32 (by simp)
  have hK := hM.K
  clear hv hM
  simp only [putAll, Act.put, Nat.reduceAdd, List.setIfInBounds_toArray, List.set_cons_zero, List.set_cons_succ]
  rw [h32]
  go_wp2_with (fail)
  go_ret
  exact RetV.bool rfl (T9.out.trans (hK.oneB (by omega) (by omega)))
theorem c_law13_EvalTells (l : List Node) (A : Option Addr) (n : Nat) (c : Card) (g : Nat) (w : World) (hlab : c.lab < 4294967296) (hg : g < 4294967296) (h8 : c.f.length = 8) (hI : InN w A n l) (hsw : ∀ x ∈ l, x.v.s.length ≤ 9223372036854775807) (hM : MaxV w) :
    Calls Try.prog 7 #[.slice A l.length n, .agg c.arr, .int .u32 g] w (RetV w (.bool true)) := by
  cases hl : large l
  case true => exact law13_EvalTells_large l A n c g w hI hsw hM hl
  case false =>
  cases hf : longF c.f
  case true => exact law13_EvalTells_long l A n c g w h8 hI hsw hM hl hf
  case false =>
  by_cases hk : check l = 0
  · obtain ⟨t, hw, htl, -, hok⟩ := Tr.of_check hk
    exact law13_EvalTells_good t hw (by rw [htl]; exact hok) l htl A n c g w hlab hg h8 hI hsw hM hl hf hk
  · exact law13_EvalTells_bad l A n c g w h8 hI hsw hM hl hf hk
set_option maxHeartbeats 1000000 in
theorem c_law13_EvalTells_long (n : Nat) (A : Option Addr) (m : Nat) (c : Card) (g : Value) (w : World) (hn : 100 < n) (hL : n ≤ m) (hC : m ≤ 9223372036854775807) (hM : MaxV w) :
    Calls Try.prog 7 #[.slice A n m, .agg c.arr, g] w (RetV w (.bool true)) := by
  have HM := Lib.hid (fun w' (hb : Below w.heap.size w w') => hM.below hb)
  clear hM
  obtain ⟨w1, hw1⟩ : ∃ w1, w1 = w.alloc (.cells c.arr 39) := ⟨_, rfl⟩
  have b1 : Below w.heap.size w w1 := by rw [hw1]; exact (by repeat (first | exact Below.refl _ _ | refine Below.drew ?_ | refine Below.alloc ?_ (by first | omega | (simp; done) | (simp; omega)) _ | refine Below.setCell ?_ (by first | omega | (simp; done) | (simp; omega)) _ | refine Below.trans ?_ (Below.mono (by assumption) (by first | omega | (simp; done) | (simp; omega)))))
  have C1 := Lib.hid (show Blk w1 w.heap.size c.arr by rw [hw1]; exact Blk.new w _ _)
  have S1 := Lib.hid b1
  clear b1
  go_enter Try.func7, Try.ntmps7
  go_wp2_with (rw [← hw1]; clear hw1)
  refine (c_law10_Large_long n A m w1 hn hL hC).mono ?_
  rintro e w2 ⟨rfl, hb2⟩
  have s1 := S1.out.size
  have S2 := Lib.hid (S1.out.trans (hb2.mono s1))
  clear hb2
  go_wp2_with (fail)
  refine (c_law13_awake _ (HM.out _ S2.out)).mono ?_
  rintro e w3 ⟨rfl, hb3⟩
  go_wp2_with (fail)
  go_ret
  exact RetV.bool rfl (S2.out.trans (hb3.mono S2.out.size))
end Go.Proofs.Ytldoedmclfbgpaa
