/-
  The walk of the reference's Same of acts. (Printed by gen47b.py.)
-/
import Derived.Test.YtiedkcijjfmhaaaDoorSy17
namespace Go.Proofs.YtiedkcijjfmhaaaDoor
open Go.RowKit

set_option maxHeartbeats 8000000 in
set_option maxRecDepth 4000 in
theorem c_ref47_Same (a b : Deed) (q r : Where) (w : World) (ha : a.wf) (hb : b.wf) (hq : a.at_ w q) (hr : b.at_ w r) :
    Calls Tryd.prog 12 #[.agg (a.arr q), .agg (b.arr r)] w (RetV w (.bool (decide (a = b)))) := by
  have B0 := lh (At2.new w 34 34 (a.arr q) (b.arr r))
  have HA := lh ha
  have HB := lh hb
  have ps := dcs HA.out B0.out.2.1; obtain ⟨q0, q1, q2, q3, q4, q5, q6, q7⟩ := dcs HB.out B0.out.2.2
  have HQ := lh hq
  have HR := lh hr
  clear ha hb hq hr
  by_cases hkind : a.kind = b.kind
  case neg =>
    have H := lh (show decide (a = b) = false from decide_eq_false (fun e => hkind (by rw [e])))
    have jjkind : (a.kind == b.kind) = false := by simpa using hkind
    have iikind : (a.kind != b.kind) = true := by simpa using hkind
    clear hkind
    go_enter Tryd.func12, Tryd.ntmps12
    simp only [List.append_eq, List.cons_append, List.nil_append]
    go_wp2_with (fail)
    go_ret
    exact RetV.bool H.out.symm B0.out.1
  by_cases hn : a.n = b.n
  case neg =>
    have H := lh (show decide (a = b) = false from decide_eq_false (fun e => hn (by rw [e])))
    have jjkind : (a.kind == b.kind) = true := by simpa using hkind
    have iikind : (a.kind != b.kind) = false := by simpa using hkind
    have jjn : (a.n == b.n) = false := by simpa using hn
    have iin : (a.n != b.n) = true := by simpa using hn
    clear hkind hn
    go_enter Tryd.func12, Tryd.ntmps12
    simp only [List.append_eq, List.cons_append, List.nil_append]
    go_wp2_with (fail)
    go_ret
    exact RetV.bool H.out.symm B0.out.1
  by_cases hdev : a.dev = b.dev
  case neg =>
    have H := lh (show decide (a = b) = false from decide_eq_false (fun e => hdev (by rw [e])))
    have jjkind : (a.kind == b.kind) = true := by simpa using hkind
    have iikind : (a.kind != b.kind) = false := by simpa using hkind
    have jjn : (a.n == b.n) = true := by simpa using hn
    have iin : (a.n != b.n) = false := by simpa using hn
    have jjdev : (a.dev == b.dev) = false := by simpa using hdev
    have iidev : (a.dev != b.dev) = true := by simpa using hdev
    clear hkind hn hdev
    go_enter Tryd.func12, Tryd.ntmps12
    simp only [List.append_eq, List.cons_append, List.nil_append]
    go_wp2_with (fail)
    go_ret
    exact RetV.bool H.out.symm B0.out.1
  by_cases hid : a.id = b.id
  case neg =>
    have H := lh (show decide (a = b) = false from decide_eq_false (fun e => hid (by rw [e])))
    have jjkind : (a.kind == b.kind) = true := by simpa using hkind
    have iikind : (a.kind != b.kind) = false := by simpa using hkind
    have jjn : (a.n == b.n) = true := by simpa using hn
    have iin : (a.n != b.n) = false := by simpa using hn
    have jjdev : (a.dev == b.dev) = true := by simpa using hdev
    have iidev : (a.dev != b.dev) = false := by simpa using hdev
    have jjid : (a.id == b.id) = false := by simpa using hid
    have iiid : (a.id != b.id) = true := by simpa using hid
    clear hkind hn hdev hid
    go_enter Tryd.func12, Tryd.ntmps12
    simp only [List.append_eq, List.cons_append, List.nil_append]
    go_wp2_with (fail)
    go_ret
    exact RetV.bool H.out.symm B0.out.1
  by_cases he : a.e = b.e
  case neg =>
    have H := lh (show decide (a = b) = false from decide_eq_false (fun e => he (by rw [e])))
    have jjkind : (a.kind == b.kind) = true := by simpa using hkind
    have iikind : (a.kind != b.kind) = false := by simpa using hkind
    have jjn : (a.n == b.n) = true := by simpa using hn
    have iin : (a.n != b.n) = false := by simpa using hn
    have jjdev : (a.dev == b.dev) = true := by simpa using hdev
    have iidev : (a.dev != b.dev) = false := by simpa using hdev
    have jjid : (a.id == b.id) = true := by simpa using hid
    have iiid : (a.id != b.id) = false := by simpa using hid
    have De := lh he
    clear hkind hn hdev hid he
    go_enter Tryd.func12, Tryd.ntmps12
    simp only [List.append_eq, List.cons_append, List.nil_append]
    go_wp2_with (with_reducible refine slG 30 (.tmp 32) rfl ?_)
    refine Stop.mk (wlG (by first | rfl | (simp [Region.wanted, yielded, *]; done)) _ _ rfl w.heap.size 4 rfl a.e.arr (deed_edit HA.out B0.out.2.1) strE (by rw [Edit.arr_size, HA.out.e]) ?_)
    go_wp2_with (with_reducible refine slG 30 (.tmp 34) rfl ?_)
    refine Stop.mk (wlG (by first | rfl | (simp [Region.wanted, yielded, *]; done)) _ _ rfl (w.heap.size + 1) 4 rfl b.e.arr (deed_edit HB.out B0.out.2.2) strE (by rw [Edit.arr_size, HB.out.e]) ?_)
    go_wp2_with (with_reducible refine stop_bin .eql 30 (.tmp 33) (.tmp 35) 30 rfl ?_)
    refine Stop.mk (wpList_eqlS (by first | rfl | (simp [Region.wanted, yielded, *]; done)) _ _ _ _ rfl a.e.arr b.e.arr rfl rfl gE false ((eq_edit HA.out.e HB.out.e 9995 _).trans (by rw [decide_eq_false De.out])) ?_)
    go_wp2_with (fail)
    go_ret
    exact RetV.bool H.out.symm B0.out.1
  by_cases hf : a.f = b.f
  case neg =>
    have H := lh (show decide (a = b) = false from decide_eq_false (fun e => hf (by rw [e])))
    have jjkind : (a.kind == b.kind) = true := by simpa using hkind
    have iikind : (a.kind != b.kind) = false := by simpa using hkind
    have jjn : (a.n == b.n) = true := by simpa using hn
    have iin : (a.n != b.n) = false := by simpa using hn
    have jjdev : (a.dev == b.dev) = true := by simpa using hdev
    have iidev : (a.dev != b.dev) = false := by simpa using hdev
    have jjid : (a.id == b.id) = true := by simpa using hid
    have iiid : (a.id != b.id) = false := by simpa using hid
    have De := lh he
    have Df := lh hf
    clear hkind hn hdev hid he hf
    go_enter Tryd.func12, Tryd.ntmps12
    simp only [List.append_eq, List.cons_append, List.nil_append]
    go_wp2_with (with_reducible refine slG 30 (.tmp 32) rfl ?_)
    refine Stop.mk (wlG (by first | rfl | (simp [Region.wanted, yielded, *]; done)) _ _ rfl w.heap.size 4 rfl a.e.arr (deed_edit HA.out B0.out.2.1) strE (by rw [Edit.arr_size, HA.out.e]) ?_)
    go_wp2_with (with_reducible refine slG 30 (.tmp 34) rfl ?_)
    refine Stop.mk (wlG (by first | rfl | (simp [Region.wanted, yielded, *]; done)) _ _ rfl (w.heap.size + 1) 4 rfl b.e.arr (deed_edit HB.out B0.out.2.2) strE (by rw [Edit.arr_size, HB.out.e]) ?_)
    go_wp2_with (with_reducible refine stop_bin .eql 30 (.tmp 33) (.tmp 35) 30 rfl ?_)
    refine Stop.mk (wpList_eqlS (by first | rfl | (simp [Region.wanted, yielded, *]; done)) _ _ _ _ rfl a.e.arr b.e.arr rfl rfl gE true ((eq_edit HA.out.e HB.out.e 9995 _).trans (by rw [decide_eq_true De.out])) ?_)
    go_wp2_with (fail)
    refine (c_ref10_Same a.f b.f q.A r.A q.n r.n _ (HQ.out.below B0.out.1).f (HR.out.below B0.out.1).f).mono ?_
    rintro e w1 ⟨rfl, hb1⟩
    replace B0 := lh (B0.out.step hb1); clear ps q0 q1 q2 q3 q4 q5 q6 q7 hb1; have ps := dcs HA.out B0.out.2.1; obtain ⟨q0, q1, q2, q3, q4, q5, q6, q7⟩ := dcs HB.out B0.out.2.2
    rw [decide_eq_false Df.out]
    go_wp2_with (fail)
    go_ret
    exact RetV.bool H.out.symm B0.out.1
  by_cases hmask : a.mask = b.mask
  case neg =>
    have H := lh (show decide (a = b) = false from decide_eq_false (fun e => hmask (by rw [e])))
    have jjkind : (a.kind == b.kind) = true := by simpa using hkind
    have iikind : (a.kind != b.kind) = false := by simpa using hkind
    have jjn : (a.n == b.n) = true := by simpa using hn
    have iin : (a.n != b.n) = false := by simpa using hn
    have jjdev : (a.dev == b.dev) = true := by simpa using hdev
    have iidev : (a.dev != b.dev) = false := by simpa using hdev
    have jjid : (a.id == b.id) = true := by simpa using hid
    have iiid : (a.id != b.id) = false := by simpa using hid
    have jjmask : ((a.mask : Int) == (b.mask : Int)) = false := by simp only [ne_eq, beq_eq_false_iff_ne, Int.natCast_inj]; exact hmask
    have iimask : ((a.mask : Int) != (b.mask : Int)) = true := by simp only [bne_iff_ne, ne_eq, Int.natCast_inj]; exact hmask
    have De := lh he
    have Df := lh hf
    clear hkind hn hdev hid he hf hmask
    go_enter Tryd.func12, Tryd.ntmps12
    simp only [List.append_eq, List.cons_append, List.nil_append]
    go_wp2_with (with_reducible refine slG 30 (.tmp 32) rfl ?_)
    refine Stop.mk (wlG (by first | rfl | (simp [Region.wanted, yielded, *]; done)) _ _ rfl w.heap.size 4 rfl a.e.arr (deed_edit HA.out B0.out.2.1) strE (by rw [Edit.arr_size, HA.out.e]) ?_)
    go_wp2_with (with_reducible refine slG 30 (.tmp 34) rfl ?_)
    refine Stop.mk (wlG (by first | rfl | (simp [Region.wanted, yielded, *]; done)) _ _ rfl (w.heap.size + 1) 4 rfl b.e.arr (deed_edit HB.out B0.out.2.2) strE (by rw [Edit.arr_size, HB.out.e]) ?_)
    go_wp2_with (with_reducible refine stop_bin .eql 30 (.tmp 33) (.tmp 35) 30 rfl ?_)
    refine Stop.mk (wpList_eqlS (by first | rfl | (simp [Region.wanted, yielded, *]; done)) _ _ _ _ rfl a.e.arr b.e.arr rfl rfl gE true ((eq_edit HA.out.e HB.out.e 9995 _).trans (by rw [decide_eq_true De.out])) ?_)
    go_wp2_with (fail)
    refine (c_ref10_Same a.f b.f q.A r.A q.n r.n _ (HQ.out.below B0.out.1).f (HR.out.below B0.out.1).f).mono ?_
    rintro e w1 ⟨rfl, hb1⟩
    replace B0 := lh (B0.out.step hb1); clear ps q0 q1 q2 q3 q4 q5 q6 q7 hb1; have ps := dcs HA.out B0.out.2.1; obtain ⟨q0, q1, q2, q3, q4, q5, q6, q7⟩ := dcs HB.out B0.out.2.2
    rw [decide_eq_true Df.out]
    go_wp2_with (fail)
    go_ret
    exact RetV.bool H.out.symm B0.out.1
  by_cases hp : a.p = b.p
  case neg =>
    have H := lh (show decide (a = b) = false from decide_eq_false (fun e => hp (by rw [e])))
    have jjkind : (a.kind == b.kind) = true := by simpa using hkind
    have iikind : (a.kind != b.kind) = false := by simpa using hkind
    have jjn : (a.n == b.n) = true := by simpa using hn
    have iin : (a.n != b.n) = false := by simpa using hn
    have jjdev : (a.dev == b.dev) = true := by simpa using hdev
    have iidev : (a.dev != b.dev) = false := by simpa using hdev
    have jjid : (a.id == b.id) = true := by simpa using hid
    have iiid : (a.id != b.id) = false := by simpa using hid
    have jjmask : ((a.mask : Int) == (b.mask : Int)) = true := by simp only [beq_iff_eq, Int.natCast_inj]; exact hmask
    have iimask : ((a.mask : Int) != (b.mask : Int)) = false := by simp only [bne_eq_false_iff_eq, Int.natCast_inj]; exact hmask
    have De := lh he
    have Df := lh hf
    have Dp := lh hp
    clear hkind hn hdev hid he hf hmask hp
    go_enter Tryd.func12, Tryd.ntmps12
    simp only [List.append_eq, List.cons_append, List.nil_append]
    go_wp2_with (with_reducible refine slG 30 (.tmp 32) rfl ?_)
    refine Stop.mk (wlG (by first | rfl | (simp [Region.wanted, yielded, *]; done)) _ _ rfl w.heap.size 4 rfl a.e.arr (deed_edit HA.out B0.out.2.1) strE (by rw [Edit.arr_size, HA.out.e]) ?_)
    go_wp2_with (with_reducible refine slG 30 (.tmp 34) rfl ?_)
    refine Stop.mk (wlG (by first | rfl | (simp [Region.wanted, yielded, *]; done)) _ _ rfl (w.heap.size + 1) 4 rfl b.e.arr (deed_edit HB.out B0.out.2.2) strE (by rw [Edit.arr_size, HB.out.e]) ?_)
    go_wp2_with (with_reducible refine stop_bin .eql 30 (.tmp 33) (.tmp 35) 30 rfl ?_)
    refine Stop.mk (wpList_eqlS (by first | rfl | (simp [Region.wanted, yielded, *]; done)) _ _ _ _ rfl a.e.arr b.e.arr rfl rfl gE true ((eq_edit HA.out.e HB.out.e 9995 _).trans (by rw [decide_eq_true De.out])) ?_)
    go_wp2_with (fail)
    refine (c_ref10_Same a.f b.f q.A r.A q.n r.n _ (HQ.out.below B0.out.1).f (HR.out.below B0.out.1).f).mono ?_
    rintro e w1 ⟨rfl, hb1⟩
    replace B0 := lh (B0.out.step hb1); clear ps q0 q1 q2 q3 q4 q5 q6 q7 hb1; have ps := dcs HA.out B0.out.2.1; obtain ⟨q0, q1, q2, q3, q4, q5, q6, q7⟩ := dcs HB.out B0.out.2.2
    rw [decide_eq_true Df.out]
    go_wp2_with (with_reducible refine slG 28 (.tmp 53) rfl ?_)
    refine Stop.mk (wlG (by first | rfl | (simp [Region.wanted, yielded, *]; done)) _ _ rfl w.heap.size 35 rfl a.p.arr (deed_patch HA.out B0.out.2.1) strP (by rw [Patch.arr_size, HA.out.p]) ?_)
    go_wp2_with (with_reducible refine slG 28 (.tmp 55) rfl ?_)
    refine Stop.mk (wlG (by first | rfl | (simp [Region.wanted, yielded, *]; done)) _ _ rfl (w.heap.size + 1) 35 rfl b.p.arr (deed_patch HB.out B0.out.2.2) strP (by rw [Patch.arr_size, HB.out.p]) ?_)
    go_wp2_with (with_reducible refine stop_bin .eql 28 (.tmp 54) (.tmp 56) 28 rfl ?_)
    refine Stop.mk (wpList_eqlS (by first | rfl | (simp [Region.wanted, yielded, *]; done)) _ _ _ _ rfl a.p.arr b.p.arr rfl rfl gP false ((eq_patch HA.out.p HB.out.p 9996 _).trans (by rw [decide_eq_false Dp.out])) ?_)
    go_wp2_with (fail)
    go_ret
    exact RetV.bool H.out.symm B0.out.1
  by_cases hkeep : a.keep = b.keep
  case neg =>
    have H := lh (show decide (a = b) = false from decide_eq_false (fun e => hkeep (by rw [e])))
    have jjkind : (a.kind == b.kind) = true := by simpa using hkind
    have iikind : (a.kind != b.kind) = false := by simpa using hkind
    have jjn : (a.n == b.n) = true := by simpa using hn
    have iin : (a.n != b.n) = false := by simpa using hn
    have jjdev : (a.dev == b.dev) = true := by simpa using hdev
    have iidev : (a.dev != b.dev) = false := by simpa using hdev
    have jjid : (a.id == b.id) = true := by simpa using hid
    have iiid : (a.id != b.id) = false := by simpa using hid
    have jjmask : ((a.mask : Int) == (b.mask : Int)) = true := by simp only [beq_iff_eq, Int.natCast_inj]; exact hmask
    have iimask : ((a.mask : Int) != (b.mask : Int)) = false := by simp only [bne_eq_false_iff_eq, Int.natCast_inj]; exact hmask
    have De := lh he
    have Df := lh hf
    have Dp := lh hp
    have Dkeep := lh hkeep
    clear hkind hn hdev hid he hf hmask hp hkeep
    go_enter Tryd.func12, Tryd.ntmps12
    simp only [List.append_eq, List.cons_append, List.nil_append]
    go_wp2_with (with_reducible refine slG 30 (.tmp 32) rfl ?_)
    refine Stop.mk (wlG (by first | rfl | (simp [Region.wanted, yielded, *]; done)) _ _ rfl w.heap.size 4 rfl a.e.arr (deed_edit HA.out B0.out.2.1) strE (by rw [Edit.arr_size, HA.out.e]) ?_)
    go_wp2_with (with_reducible refine slG 30 (.tmp 34) rfl ?_)
    refine Stop.mk (wlG (by first | rfl | (simp [Region.wanted, yielded, *]; done)) _ _ rfl (w.heap.size + 1) 4 rfl b.e.arr (deed_edit HB.out B0.out.2.2) strE (by rw [Edit.arr_size, HB.out.e]) ?_)
    go_wp2_with (with_reducible refine stop_bin .eql 30 (.tmp 33) (.tmp 35) 30 rfl ?_)
    refine Stop.mk (wpList_eqlS (by first | rfl | (simp [Region.wanted, yielded, *]; done)) _ _ _ _ rfl a.e.arr b.e.arr rfl rfl gE true ((eq_edit HA.out.e HB.out.e 9995 _).trans (by rw [decide_eq_true De.out])) ?_)
    go_wp2_with (fail)
    refine (c_ref10_Same a.f b.f q.A r.A q.n r.n _ (HQ.out.below B0.out.1).f (HR.out.below B0.out.1).f).mono ?_
    rintro e w1 ⟨rfl, hb1⟩
    replace B0 := lh (B0.out.step hb1); clear ps q0 q1 q2 q3 q4 q5 q6 q7 hb1; have ps := dcs HA.out B0.out.2.1; obtain ⟨q0, q1, q2, q3, q4, q5, q6, q7⟩ := dcs HB.out B0.out.2.2
    rw [decide_eq_true Df.out]
    go_wp2_with (with_reducible refine slG 28 (.tmp 53) rfl ?_)
    refine Stop.mk (wlG (by first | rfl | (simp [Region.wanted, yielded, *]; done)) _ _ rfl w.heap.size 35 rfl a.p.arr (deed_patch HA.out B0.out.2.1) strP (by rw [Patch.arr_size, HA.out.p]) ?_)
    go_wp2_with (with_reducible refine slG 28 (.tmp 55) rfl ?_)
    refine Stop.mk (wlG (by first | rfl | (simp [Region.wanted, yielded, *]; done)) _ _ rfl (w.heap.size + 1) 35 rfl b.p.arr (deed_patch HB.out B0.out.2.2) strP (by rw [Patch.arr_size, HB.out.p]) ?_)
    go_wp2_with (with_reducible refine stop_bin .eql 28 (.tmp 54) (.tmp 56) 28 rfl ?_)
    refine Stop.mk (wpList_eqlS (by first | rfl | (simp [Region.wanted, yielded, *]; done)) _ _ _ _ rfl a.p.arr b.p.arr rfl rfl gP true ((eq_patch HA.out.p HB.out.p 9996 _).trans (by rw [decide_eq_true Dp.out])) ?_)
    go_wp2_with (fail)
    refine (c_ref01_IntsA a.keep b.keep q.K r.K q.m r.m _ (HQ.out.below B0.out.1).k (HR.out.below B0.out.1).k).mono ?_
    rintro e w1 ⟨rfl, hb1⟩
    replace B0 := lh (B0.out.step hb1); clear ps q0 q1 q2 q3 q4 q5 q6 q7 hb1; have ps := dcs HA.out B0.out.2.1; obtain ⟨q0, q1, q2, q3, q4, q5, q6, q7⟩ := dcs HB.out B0.out.2.2
    rw [decide_eq_false Dkeep.out]
    go_wp2_with (fail)
    go_ret
    exact RetV.bool H.out.symm B0.out.1
  have H := lh (show decide (a = b) = decide (a.text = b.text) from deed_eq_r hkind hn hdev hid he hf hmask hp hkeep)
  have jjkind : (a.kind == b.kind) = true := by simpa using hkind
  have iikind : (a.kind != b.kind) = false := by simpa using hkind
  have jjn : (a.n == b.n) = true := by simpa using hn
  have iin : (a.n != b.n) = false := by simpa using hn
  have jjdev : (a.dev == b.dev) = true := by simpa using hdev
  have iidev : (a.dev != b.dev) = false := by simpa using hdev
  have jjid : (a.id == b.id) = true := by simpa using hid
  have iiid : (a.id != b.id) = false := by simpa using hid
  have jjmask : ((a.mask : Int) == (b.mask : Int)) = true := by simp only [beq_iff_eq, Int.natCast_inj]; exact hmask
  have iimask : ((a.mask : Int) != (b.mask : Int)) = false := by simp only [bne_eq_false_iff_eq, Int.natCast_inj]; exact hmask
  have jt : (a.text == b.text) = decide (a.text = b.text) := by rw [Bool.eq_iff_iff]; simp
  obtain ⟨V, hV⟩ : ∃ V, decide (a.text = b.text) = V := ⟨_, rfl⟩
  rw [hV] at jt H
  clear hV
  have De := lh he
  have Df := lh hf
  have Dp := lh hp
  have Dkeep := lh hkeep
  clear hkind hn hdev hid he hf hmask hp hkeep
  go_enter Tryd.func12, Tryd.ntmps12
  simp only [List.append_eq, List.cons_append, List.nil_append]
  go_wp2_with (with_reducible refine slG 30 (.tmp 32) rfl ?_)
  refine Stop.mk (wlG (by first | rfl | (simp [Region.wanted, yielded, *]; done)) _ _ rfl w.heap.size 4 rfl a.e.arr (deed_edit HA.out B0.out.2.1) strE (by rw [Edit.arr_size, HA.out.e]) ?_)
  go_wp2_with (with_reducible refine slG 30 (.tmp 34) rfl ?_)
  refine Stop.mk (wlG (by first | rfl | (simp [Region.wanted, yielded, *]; done)) _ _ rfl (w.heap.size + 1) 4 rfl b.e.arr (deed_edit HB.out B0.out.2.2) strE (by rw [Edit.arr_size, HB.out.e]) ?_)
  go_wp2_with (with_reducible refine stop_bin .eql 30 (.tmp 33) (.tmp 35) 30 rfl ?_)
  refine Stop.mk (wpList_eqlS (by first | rfl | (simp [Region.wanted, yielded, *]; done)) _ _ _ _ rfl a.e.arr b.e.arr rfl rfl gE true ((eq_edit HA.out.e HB.out.e 9995 _).trans (by rw [decide_eq_true De.out])) ?_)
  go_wp2_with (fail)
  refine (c_ref10_Same a.f b.f q.A r.A q.n r.n _ (HQ.out.below B0.out.1).f (HR.out.below B0.out.1).f).mono ?_
  rintro e w1 ⟨rfl, hb1⟩
  replace B0 := lh (B0.out.step hb1); clear ps q0 q1 q2 q3 q4 q5 q6 q7 hb1; have ps := dcs HA.out B0.out.2.1; obtain ⟨q0, q1, q2, q3, q4, q5, q6, q7⟩ := dcs HB.out B0.out.2.2
  rw [decide_eq_true Df.out]
  go_wp2_with (with_reducible refine slG 28 (.tmp 53) rfl ?_)
  refine Stop.mk (wlG (by first | rfl | (simp [Region.wanted, yielded, *]; done)) _ _ rfl w.heap.size 35 rfl a.p.arr (deed_patch HA.out B0.out.2.1) strP (by rw [Patch.arr_size, HA.out.p]) ?_)
  go_wp2_with (with_reducible refine slG 28 (.tmp 55) rfl ?_)
  refine Stop.mk (wlG (by first | rfl | (simp [Region.wanted, yielded, *]; done)) _ _ rfl (w.heap.size + 1) 35 rfl b.p.arr (deed_patch HB.out B0.out.2.2) strP (by rw [Patch.arr_size, HB.out.p]) ?_)
  go_wp2_with (with_reducible refine stop_bin .eql 28 (.tmp 54) (.tmp 56) 28 rfl ?_)
  refine Stop.mk (wpList_eqlS (by first | rfl | (simp [Region.wanted, yielded, *]; done)) _ _ _ _ rfl a.p.arr b.p.arr rfl rfl gP true ((eq_patch HA.out.p HB.out.p 9996 _).trans (by rw [decide_eq_true Dp.out])) ?_)
  go_wp2_with (fail)
  refine (c_ref01_IntsA a.keep b.keep q.K r.K q.m r.m _ (HQ.out.below B0.out.1).k (HR.out.below B0.out.1).k).mono ?_
  rintro e w1 ⟨rfl, hb1⟩
  replace B0 := lh (B0.out.step hb1); clear ps q0 q1 q2 q3 q4 q5 q6 q7 hb1; have ps := dcs HA.out B0.out.2.1; obtain ⟨q0, q1, q2, q3, q4, q5, q6, q7⟩ := dcs HB.out B0.out.2.2
  rw [decide_eq_true Dkeep.out]
  go_wp2_with (fail)
  go_ret
  exact RetV.bool H.out.symm B0.out.1
end Go.Proofs.YtiedkcijjfmhaaaDoor
