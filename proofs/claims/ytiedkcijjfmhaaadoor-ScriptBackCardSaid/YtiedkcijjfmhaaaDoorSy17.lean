/-
  The walks of lists of ints and of acts, held against each other. (Printed by gen47b.py.)
-/
import Derived.Test.YtiedkcijjfmhaaaDoorSy1
import Derived.Test.YtiedkcijjfmhaaaDoorSy2
import Derived.Test.YtiedkcijjfmhaaaDoorSy10
import Derived.Test.YtiedkcijjfmhaaaDoorSy11
import Derived.Test.YtiedkcijjfmhaaaDoorSy16
namespace Go.Proofs.YtiedkcijjfmhaaaDoor
open Go.RowKit

set_option maxHeartbeats 1000000 in
set_option maxRecDepth 4000 in
theorem c_Equal_ints (l1 l2 : List Int) (A1 A2 : Option Addr) (c1 c2 : Nat) (w : World) (h1 : InI w A1 c1 l1) (h2 : InI w A2 c2 l2) :
    Calls Tryd.prog 35 #[.slice A1 l1.length c1, .slice A2 l2.length c2] w (RetV w (.bool (decide (l1 = l2)))) := by
  have hL1 := h1.1
  have hC1 := h1.2.1
  have hS1 := h1.2.2.1
  have hL2 := h2.1
  have hC2 := h2.2.1
  have hS2 := h2.2.2.1
  by_cases hlen : l1.length = l2.length
  case neg =>
    have H : Hid (false = decide (l1 = l2)) := by
      show _ = _
      symm
      rw [decide_eq_false_iff_not]
      exact fun e => hlen (by rw [e])
    go_enter Tryd.func35, Tryd.ntmps35
    go_wp2_with (fail)
    go_ret
    exact RetV.bool H.out (by repeat (first | exact Below.refl _ _ | refine Below.drew ?_ | refine Below.alloc ?_ (by first | omega | (simp; done) | (simp; omega)) _ | refine Below.setCell ?_ (by first | omega | (simp; done) | (simp; omega)) _ | refine Below.trans ?_ (Below.mono (by assumption) (by first | omega | (simp; done) | (simp; omega)))))
  have hd : ((l1.length : Int) != (l2.length : Int)) = false := by rw [hlen]; simp
  have HL := lh hlen
  clear hlen
  go_enter Tryd.func35, Tryd.ntmps35
  go_wp2_with (fail)
  go_loopw [5, 13] (fun _ i wr => ∃ k : Nat, k ≤ l1.length ∧ i = .int .i64 k ∧ Hid (decide (l1.drop k = l2.drop k) = decide (l1 = l2)) ∧ Below w.heap.size w wr) (fun _ i _ => l1.length - (intOf i).toNat)
  case atStart => exact ⟨0, by omega, rfl, by simp [Hid], Below.refl _ _⟩
  case round =>
    obtain ⟨k, hk, rfl, H, hbl⟩ := hrel
    have hbz := hbl.size
    by_cases hlt : k < l1.length
    · have hlt2 : k < l2.length := by have := HL.out; omega
      obtain ⟨b1, off1, rfl, hb1, hrow1⟩ := h1.at hlt
      obtain ⟨b2, off2, rfl, hb2, hrow2⟩ := h2.at hlt2
      have e0 : wr.cell? ⟨b1, off1 + k, none⟩ = some (.int .i64 l1[k]) := by have := (hrow1.below hbl hb1) k hlt 0 _ rfl; simpa using this
      have f0 : wr.cell? ⟨b2, off2 + k, none⟩ = some (.int .i64 l2[k]) := by have := (hrow2.below hbl hb2) k hlt2 0 _ rfl; simpa using this
      have hbr1 : b1 < wr.heap.size := by omega
      have hbr2 : b2 < wr.heap.size := by omega
      have hi1 : (0 : Int) ≤ (k : Int) := by omega
      have hi2 : (k : Int) < (l1.length : Int) := by omega
      have hi3 : (k : Int) < (l2.length : Int) := by omega
      have hH := H.out
      rw [List.drop_eq_getElem_cons hlt, List.drop_eq_getElem_cons hlt2] at hH
      clear h1 h2 H hrow1 hrow2
      obtain ⟨x, hx⟩ : ∃ x, x = l1[k] := ⟨_, rfl⟩
      obtain ⟨y, hy⟩ : ∃ y, y = l2[k] := ⟨_, rfl⟩
      rw [← hx] at e0 hH
      rw [← hy] at f0 hH
      clear hx hy
      by_cases hxy : x = y
      · have HN : Hid (decide (l1.drop (k + 1) = l2.drop (k + 1)) = decide (l1 = l2)) := by show _ = _; rw [← hH, hxy]; simp only [List.cons.injEq, true_and]
        have j : (x != y) = false := by simpa using hxy
        clear hH hxy
        go_wp2_with (fail)
        refine wp_region_grow (by kernel_rfl) (by kernel_rfl) ?_
        repeat (quiet_step ((first | fail)))
        refine wpQuiet_nil ?_
        intro w2 hb2
        go_wp2_with (fail)
        go_roundw
        case rel => exact ⟨k + 1, by omega, by go_num, HN.out, (by repeat (first | exact Below.refl _ _ | refine Below.drew ?_ | refine Below.alloc ?_ (by first | omega | (simp; done) | (simp; omega)) _ | refine Below.setCell ?_ (by first | omega | (simp; done) | (simp; omega)) _ | refine Below.trans ?_ (Below.mono (by assumption) (by first | omega | (simp; done) | (simp; omega)))))⟩
        case measure => simp [intOf]; omega
      · have HN : Hid (false = decide (l1 = l2)) := by show _ = _; rw [← hH]; symm; rw [decide_eq_false_iff_not]; intro e; injection e with e; exact hxy e
        have j : (x != y) = true := by simpa using hxy
        clear hH hxy
        go_wp2_with (fail)
        refine wp_region_grow (by kernel_rfl) (by kernel_rfl) ?_
        repeat (quiet_step ((first | fail)))
        refine wpQuiet_nil ?_
        intro w2 hb2
        go_wp2_with (fail)
        go_ret
        exact RetV.bool HN.out (by repeat (first | exact Below.refl _ _ | refine Below.drew ?_ | refine Below.alloc ?_ (by first | omega | (simp; done) | (simp; omega)) _ | refine Below.setCell ?_ (by first | omega | (simp; done) | (simp; omega)) _ | refine Below.trans ?_ (Below.mono (by assumption) (by first | omega | (simp; done) | (simp; omega)))))
    · have hH := H.out
      rw [List.drop_of_length_le (by omega), List.drop_of_length_le (by have := HL.out; omega)] at hH
      have HN : Hid (true = decide (l1 = l2)) := by show _ = _; rw [← hH]; simp
      clear hH H
      go_wp2_with (fail)
      go_ret
      exact RetV.bool HN.out hbl
set_option maxHeartbeats 1000000 in
set_option maxRecDepth 4000 in
theorem c_ref01_IntsA (l1 l2 : List Int) (A1 A2 : Option Addr) (c1 c2 : Nat) (w : World) (h1 : InI w A1 c1 l1) (h2 : InI w A2 c2 l2) :
    Calls Tryd.prog 37 #[.slice A1 l1.length c1, .slice A2 l2.length c2] w (RetV w (.bool (decide (l1 = l2)))) := by
  have hL1 := h1.1
  have hC1 := h1.2.1
  have hS1 := h1.2.2.1
  have hL2 := h2.1
  have hC2 := h2.2.1
  have hS2 := h2.2.2.1
  by_cases hlen : l1.length = l2.length
  case neg =>
    have H : Hid (false = decide (l1 = l2)) := by
      show _ = _
      symm
      rw [decide_eq_false_iff_not]
      exact fun e => hlen (by rw [e])
    go_enter Tryd.func37, Tryd.ntmps37
    go_wp2_with (fail)
    go_ret
    exact RetV.bool H.out (by repeat (first | exact Below.refl _ _ | refine Below.drew ?_ | refine Below.alloc ?_ (by first | omega | (simp; done) | (simp; omega)) _ | refine Below.setCell ?_ (by first | omega | (simp; done) | (simp; omega)) _ | refine Below.trans ?_ (Below.mono (by assumption) (by first | omega | (simp; done) | (simp; omega)))))
  have hd : ((l1.length : Int) != (l2.length : Int)) = false := by rw [hlen]; simp
  have HL := lh hlen
  clear hlen
  go_enter Tryd.func37, Tryd.ntmps37
  go_wp2_with (fail)
  go_loopw [5] (fun i wr => ∃ k : Nat, k ≤ l1.length ∧ i = .int .i64 k ∧ Hid (decide (l1.drop k = l2.drop k) = decide (l1 = l2)) ∧ Below w.heap.size w wr) (fun i _ => l1.length - (intOf i).toNat)
  case atStart => exact ⟨0, by omega, rfl, by simp [Hid], Below.refl _ _⟩
  case round =>
    obtain ⟨k, hk, rfl, H, hbl⟩ := hrel
    have hbz := hbl.size
    by_cases hlt : k < l1.length
    · have hlt2 : k < l2.length := by have := HL.out; omega
      obtain ⟨b1, off1, rfl, hb1, hrow1⟩ := h1.at hlt
      obtain ⟨b2, off2, rfl, hb2, hrow2⟩ := h2.at hlt2
      have e0 : wr.cell? ⟨b1, off1 + k, none⟩ = some (.int .i64 l1[k]) := by have := (hrow1.below hbl hb1) k hlt 0 _ rfl; simpa using this
      have f0 : wr.cell? ⟨b2, off2 + k, none⟩ = some (.int .i64 l2[k]) := by have := (hrow2.below hbl hb2) k hlt2 0 _ rfl; simpa using this
      have hbr1 : b1 < wr.heap.size := by omega
      have hbr2 : b2 < wr.heap.size := by omega
      have hi1 : (0 : Int) ≤ (k : Int) := by omega
      have hi2 : (k : Int) < (l1.length : Int) := by omega
      have hi3 : (k : Int) < (l2.length : Int) := by omega
      have hH := H.out
      rw [List.drop_eq_getElem_cons hlt, List.drop_eq_getElem_cons hlt2] at hH
      clear h1 h2 H hrow1 hrow2
      obtain ⟨x, hx⟩ : ∃ x, x = l1[k] := ⟨_, rfl⟩
      obtain ⟨y, hy⟩ : ∃ y, y = l2[k] := ⟨_, rfl⟩
      rw [← hx] at e0 hH
      rw [← hy] at f0 hH
      clear hx hy
      by_cases hxy : x = y
      · have HN : Hid (decide (l1.drop (k + 1) = l2.drop (k + 1)) = decide (l1 = l2)) := by show _ = _; rw [← hH, hxy]; simp only [List.cons.injEq, true_and]
        have j : (x != y) = false := by simpa using hxy
        clear hH hxy
        go_wp2_with (fail)
        refine wp_region_grow (by kernel_rfl) (by kernel_rfl) ?_
        repeat (quiet_step ((first | fail)))
        refine wpQuiet_nil ?_
        intro w2 hb2
        go_wp2_with (fail)
        go_roundw
        case rel => exact ⟨k + 1, by omega, by go_num, HN.out, (by repeat (first | exact Below.refl _ _ | refine Below.drew ?_ | refine Below.alloc ?_ (by first | omega | (simp; done) | (simp; omega)) _ | refine Below.setCell ?_ (by first | omega | (simp; done) | (simp; omega)) _ | refine Below.trans ?_ (Below.mono (by assumption) (by first | omega | (simp; done) | (simp; omega)))))⟩
        case measure => simp [intOf]; omega
      · have HN : Hid (false = decide (l1 = l2)) := by show _ = _; rw [← hH]; symm; rw [decide_eq_false_iff_not]; intro e; injection e with e; exact hxy e
        have j : (x != y) = true := by simpa using hxy
        clear hH hxy
        go_wp2_with (fail)
        refine wp_region_grow (by kernel_rfl) (by kernel_rfl) ?_
        repeat (quiet_step ((first | fail)))
        refine wpQuiet_nil ?_
        intro w2 hb2
        go_wp2_with (fail)
        go_ret
        exact RetV.bool HN.out (by repeat (first | exact Below.refl _ _ | refine Below.drew ?_ | refine Below.alloc ?_ (by first | omega | (simp; done) | (simp; omega)) _ | refine Below.setCell ?_ (by first | omega | (simp; done) | (simp; omega)) _ | refine Below.trans ?_ (Below.mono (by assumption) (by first | omega | (simp; done) | (simp; omega)))))
    · have hH := H.out
      rw [List.drop_of_length_le (by omega), List.drop_of_length_le (by have := HL.out; omega)] at hH
      have HN : Hid (true = decide (l1 = l2)) := by show _ = _; rw [← hH]; simp
      clear hH H
      go_wp2_with (fail)
      go_ret
      exact RetV.bool HN.out hbl
theorem deed_eq_p {a b : Deed} (hkind : a.kind = b.kind) (hn : a.n = b.n) (hdev : a.dev = b.dev) (hid : a.id = b.id) (hmask : a.mask = b.mask) (htext : a.text = b.text) (he : a.e = b.e) (hp : a.p = b.p) (hf : a.f = b.f) : decide (a = b) = decide (a.keep = b.keep) := by
  obtain ⟨a0, a1, a2, a3, a4, a5, a6, a7, a8, a9⟩ := a
  obtain ⟨b0, b1, b2, b3, b4, b5, b6, b7, b8, b9⟩ := b
  simp only at *
  subst hkind hn hdev hid hmask htext he hp hf
  simp
theorem deed_eq_r {a b : Deed} (hkind : a.kind = b.kind) (hn : a.n = b.n) (hdev : a.dev = b.dev) (hid : a.id = b.id) (he : a.e = b.e) (hf : a.f = b.f) (hmask : a.mask = b.mask) (hp : a.p = b.p) (hkeep : a.keep = b.keep) : decide (a = b) = decide (a.text = b.text) := by
  obtain ⟨a0, a1, a2, a3, a4, a5, a6, a7, a8, a9⟩ := a
  obtain ⟨b0, b1, b2, b3, b4, b5, b6, b7, b8, b9⟩ := b
  simp only at *
  subst hkind hn hdev hid he hf hmask hp hkeep
  simp
set_option maxHeartbeats 8000000 in
set_option maxRecDepth 4000 in
theorem c_script_Same (a b : Deed) (q r : Where) (w : World) (ha : a.wf) (hb : b.wf) (hq : a.at_ w q) (hr : b.at_ w r) :
    Calls Tryd.prog 11 #[.agg (a.arr q), .agg (b.arr r)] w (RetV w (.bool (decide (a = b)))) := by
  have B0 := lh (At2.new w 38 38 (a.arr q) (b.arr r))
  have HA := lh ha
  have HB := lh hb
  have ps := dcs HA.out B0.out.2.1; obtain ⟨q0, q1, q2, q3, q4, q5, q6, q7⟩ := dcs HB.out B0.out.2.2
  have HQ := lh hq
  have HR := lh hr
  clear ha hb hq hr
  by_cases hkind : a.kind = b.kind
  case neg =>
    have H := lh (show decide (a = b) = false from decide_eq_false (fun e => hkind (by rw [e])))
    have jjkind : (a.kind == b.kind) = false := by simpa using hkind
    have iikind : (a.kind != b.kind) = true := by simpa using hkind
    clear hkind
    go_enter Tryd.func11, Tryd.ntmps11
    go_wp2_with (fail)
    go_ret
    exact RetV.bool H.out.symm B0.out.1
  by_cases hn : a.n = b.n
  case neg =>
    have H := lh (show decide (a = b) = false from decide_eq_false (fun e => hn (by rw [e])))
    have jjkind : (a.kind == b.kind) = true := by simpa using hkind
    have iikind : (a.kind != b.kind) = false := by simpa using hkind
    have jjn : (a.n == b.n) = false := by simpa using hn
    have iin : (a.n != b.n) = true := by simpa using hn
    clear hkind hn
    go_enter Tryd.func11, Tryd.ntmps11
    go_wp2_with (fail)
    go_ret
    exact RetV.bool H.out.symm B0.out.1
  by_cases hdev : a.dev = b.dev
  case neg =>
    have H := lh (show decide (a = b) = false from decide_eq_false (fun e => hdev (by rw [e])))
    have jjkind : (a.kind == b.kind) = true := by simpa using hkind
    have iikind : (a.kind != b.kind) = false := by simpa using hkind
    have jjn : (a.n == b.n) = true := by simpa using hn
    have iin : (a.n != b.n) = false := by simpa using hn
    have jjdev : (a.dev == b.dev) = false := by simpa using hdev
    have iidev : (a.dev != b.dev) = true := by simpa using hdev
    clear hkind hn hdev
    go_enter Tryd.func11, Tryd.ntmps11
    go_wp2_with (fail)
    go_ret
    exact RetV.bool H.out.symm B0.out.1
  by_cases hid : a.id = b.id
  case neg =>
    have H := lh (show decide (a = b) = false from decide_eq_false (fun e => hid (by rw [e])))
    have jjkind : (a.kind == b.kind) = true := by simpa using hkind
    have iikind : (a.kind != b.kind) = false := by simpa using hkind
    have jjn : (a.n == b.n) = true := by simpa using hn
    have iin : (a.n != b.n) = false := by simpa using hn
    have jjdev : (a.dev == b.dev) = true := by simpa using hdev
    have iidev : (a.dev != b.dev) = false := by simpa using hdev
    have jjid : (a.id == b.id) = false := by simpa using hid
    have iiid : (a.id != b.id) = true := by simpa using hid
    clear hkind hn hdev hid
    go_enter Tryd.func11, Tryd.ntmps11
    go_wp2_with (fail)
    go_ret
    exact RetV.bool H.out.symm B0.out.1
  by_cases hmask : a.mask = b.mask
  case neg =>
    have H := lh (show decide (a = b) = false from decide_eq_false (fun e => hmask (by rw [e])))
    have jjkind : (a.kind == b.kind) = true := by simpa using hkind
    have iikind : (a.kind != b.kind) = false := by simpa using hkind
    have jjn : (a.n == b.n) = true := by simpa using hn
    have iin : (a.n != b.n) = false := by simpa using hn
    have jjdev : (a.dev == b.dev) = true := by simpa using hdev
    have iidev : (a.dev != b.dev) = false := by simpa using hdev
    have jjid : (a.id == b.id) = true := by simpa using hid
    have iiid : (a.id != b.id) = false := by simpa using hid
    have jjmask : ((a.mask : Int) == (b.mask : Int)) = false := by simp only [ne_eq, beq_eq_false_iff_ne, Int.natCast_inj]; exact hmask
    have iimask : ((a.mask : Int) != (b.mask : Int)) = true := by simp only [bne_iff_ne, ne_eq, Int.natCast_inj]; exact hmask
    clear hkind hn hdev hid hmask
    go_enter Tryd.func11, Tryd.ntmps11
    go_wp2_with (fail)
    go_ret
    exact RetV.bool H.out.symm B0.out.1
  by_cases htext : a.text = b.text
  case neg =>
    have H := lh (show decide (a = b) = false from decide_eq_false (fun e => htext (by rw [e])))
    have jjkind : (a.kind == b.kind) = true := by simpa using hkind
    have iikind : (a.kind != b.kind) = false := by simpa using hkind
    have jjn : (a.n == b.n) = true := by simpa using hn
    have iin : (a.n != b.n) = false := by simpa using hn
    have jjdev : (a.dev == b.dev) = true := by simpa using hdev
    have iidev : (a.dev != b.dev) = false := by simpa using hdev
    have jjid : (a.id == b.id) = true := by simpa using hid
    have iiid : (a.id != b.id) = false := by simpa using hid
    have jjmask : ((a.mask : Int) == (b.mask : Int)) = true := by simp only [beq_iff_eq, Int.natCast_inj]; exact hmask
    have iimask : ((a.mask : Int) != (b.mask : Int)) = false := by simp only [bne_eq_false_iff_eq, Int.natCast_inj]; exact hmask
    have jjtext : (a.text == b.text) = false := by simpa using htext
    have iitext : (a.text != b.text) = true := by simpa using htext
    clear hkind hn hdev hid hmask htext
    go_enter Tryd.func11, Tryd.ntmps11
    go_wp2_with (fail)
    go_ret
    exact RetV.bool H.out.symm B0.out.1
  by_cases he : a.e = b.e
  case neg =>
    have H := lh (show decide (a = b) = false from decide_eq_false (fun e => he (by rw [e])))
    have jjkind : (a.kind == b.kind) = true := by simpa using hkind
    have iikind : (a.kind != b.kind) = false := by simpa using hkind
    have jjn : (a.n == b.n) = true := by simpa using hn
    have iin : (a.n != b.n) = false := by simpa using hn
    have jjdev : (a.dev == b.dev) = true := by simpa using hdev
    have iidev : (a.dev != b.dev) = false := by simpa using hdev
    have jjid : (a.id == b.id) = true := by simpa using hid
    have iiid : (a.id != b.id) = false := by simpa using hid
    have jjmask : ((a.mask : Int) == (b.mask : Int)) = true := by simp only [beq_iff_eq, Int.natCast_inj]; exact hmask
    have iimask : ((a.mask : Int) != (b.mask : Int)) = false := by simp only [bne_eq_false_iff_eq, Int.natCast_inj]; exact hmask
    have jjtext : (a.text == b.text) = true := by simpa using htext
    have iitext : (a.text != b.text) = false := by simpa using htext
    have De := lh he
    clear hkind hn hdev hid hmask htext he
    go_enter Tryd.func11, Tryd.ntmps11
    go_wp2_with (with_reducible refine slG 30 (.tmp 45) rfl ?_)
    refine Stop.mk (wlG (by first | rfl | (simp [Region.wanted, yielded, *]; done)) _ _ rfl w.heap.size 4 rfl a.e.arr (deed_edit HA.out B0.out.2.1) strE (by rw [Edit.arr_size, HA.out.e]) ?_)
    go_wp2_with (with_reducible refine slG 30 (.tmp 47) rfl ?_)
    refine Stop.mk (wlG (by first | rfl | (simp [Region.wanted, yielded, *]; done)) _ _ rfl (w.heap.size + 1) 4 rfl b.e.arr (deed_edit HB.out B0.out.2.2) strE (by rw [Edit.arr_size, HB.out.e]) ?_)
    go_wp2_with (with_reducible refine stop_bin .eql 30 (.tmp 46) (.tmp 48) 30 rfl ?_)
    refine Stop.mk (wpList_eqlS (by first | rfl | (simp [Region.wanted, yielded, *]; done)) _ _ _ _ rfl a.e.arr b.e.arr rfl rfl gE false ((eq_edit HA.out.e HB.out.e 9995 _).trans (by rw [decide_eq_false De.out])) ?_)
    go_wp2_with (fail)
    go_ret
    exact RetV.bool H.out.symm B0.out.1
  by_cases hp : a.p = b.p
  case neg =>
    have H := lh (show decide (a = b) = false from decide_eq_false (fun e => hp (by rw [e])))
    have jjkind : (a.kind == b.kind) = true := by simpa using hkind
    have iikind : (a.kind != b.kind) = false := by simpa using hkind
    have jjn : (a.n == b.n) = true := by simpa using hn
    have iin : (a.n != b.n) = false := by simpa using hn
    have jjdev : (a.dev == b.dev) = true := by simpa using hdev
    have iidev : (a.dev != b.dev) = false := by simpa using hdev
    have jjid : (a.id == b.id) = true := by simpa using hid
    have iiid : (a.id != b.id) = false := by simpa using hid
    have jjmask : ((a.mask : Int) == (b.mask : Int)) = true := by simp only [beq_iff_eq, Int.natCast_inj]; exact hmask
    have iimask : ((a.mask : Int) != (b.mask : Int)) = false := by simp only [bne_eq_false_iff_eq, Int.natCast_inj]; exact hmask
    have jjtext : (a.text == b.text) = true := by simpa using htext
    have iitext : (a.text != b.text) = false := by simpa using htext
    have De := lh he
    have Dp := lh hp
    clear hkind hn hdev hid hmask htext he hp
    go_enter Tryd.func11, Tryd.ntmps11
    go_wp2_with (with_reducible refine slG 30 (.tmp 45) rfl ?_)
    refine Stop.mk (wlG (by first | rfl | (simp [Region.wanted, yielded, *]; done)) _ _ rfl w.heap.size 4 rfl a.e.arr (deed_edit HA.out B0.out.2.1) strE (by rw [Edit.arr_size, HA.out.e]) ?_)
    go_wp2_with (with_reducible refine slG 30 (.tmp 47) rfl ?_)
    refine Stop.mk (wlG (by first | rfl | (simp [Region.wanted, yielded, *]; done)) _ _ rfl (w.heap.size + 1) 4 rfl b.e.arr (deed_edit HB.out B0.out.2.2) strE (by rw [Edit.arr_size, HB.out.e]) ?_)
    go_wp2_with (with_reducible refine stop_bin .eql 30 (.tmp 46) (.tmp 48) 30 rfl ?_)
    refine Stop.mk (wpList_eqlS (by first | rfl | (simp [Region.wanted, yielded, *]; done)) _ _ _ _ rfl a.e.arr b.e.arr rfl rfl gE true ((eq_edit HA.out.e HB.out.e 9995 _).trans (by rw [decide_eq_true De.out])) ?_)
    go_wp2_with (with_reducible refine slG 28 (.tmp 51) rfl ?_)
    refine Stop.mk (wlG (by first | rfl | (simp [Region.wanted, yielded, *]; done)) _ _ rfl w.heap.size 35 rfl a.p.arr (deed_patch HA.out B0.out.2.1) strP (by rw [Patch.arr_size, HA.out.p]) ?_)
    go_wp2_with (with_reducible refine slG 28 (.tmp 53) rfl ?_)
    refine Stop.mk (wlG (by first | rfl | (simp [Region.wanted, yielded, *]; done)) _ _ rfl (w.heap.size + 1) 35 rfl b.p.arr (deed_patch HB.out B0.out.2.2) strP (by rw [Patch.arr_size, HB.out.p]) ?_)
    go_wp2_with (with_reducible refine stop_bin .eql 28 (.tmp 52) (.tmp 54) 28 rfl ?_)
    refine Stop.mk (wpList_eqlS (by first | rfl | (simp [Region.wanted, yielded, *]; done)) _ _ _ _ rfl a.p.arr b.p.arr rfl rfl gP false ((eq_patch HA.out.p HB.out.p 9996 _).trans (by rw [decide_eq_false Dp.out])) ?_)
    go_wp2_with (fail)
    go_ret
    exact RetV.bool H.out.symm B0.out.1
  by_cases hf : a.f = b.f
  case neg =>
    have H := lh (show decide (a = b) = false from decide_eq_false (fun e => hf (by rw [e])))
    have jjkind : (a.kind == b.kind) = true := by simpa using hkind
    have iikind : (a.kind != b.kind) = false := by simpa using hkind
    have jjn : (a.n == b.n) = true := by simpa using hn
    have iin : (a.n != b.n) = false := by simpa using hn
    have jjdev : (a.dev == b.dev) = true := by simpa using hdev
    have iidev : (a.dev != b.dev) = false := by simpa using hdev
    have jjid : (a.id == b.id) = true := by simpa using hid
    have iiid : (a.id != b.id) = false := by simpa using hid
    have jjmask : ((a.mask : Int) == (b.mask : Int)) = true := by simp only [beq_iff_eq, Int.natCast_inj]; exact hmask
    have iimask : ((a.mask : Int) != (b.mask : Int)) = false := by simp only [bne_eq_false_iff_eq, Int.natCast_inj]; exact hmask
    have jjtext : (a.text == b.text) = true := by simpa using htext
    have iitext : (a.text != b.text) = false := by simpa using htext
    have De := lh he
    have Dp := lh hp
    have Df := lh hf
    clear hkind hn hdev hid hmask htext he hp hf
    go_enter Tryd.func11, Tryd.ntmps11
    go_wp2_with (with_reducible refine slG 30 (.tmp 45) rfl ?_)
    refine Stop.mk (wlG (by first | rfl | (simp [Region.wanted, yielded, *]; done)) _ _ rfl w.heap.size 4 rfl a.e.arr (deed_edit HA.out B0.out.2.1) strE (by rw [Edit.arr_size, HA.out.e]) ?_)
    go_wp2_with (with_reducible refine slG 30 (.tmp 47) rfl ?_)
    refine Stop.mk (wlG (by first | rfl | (simp [Region.wanted, yielded, *]; done)) _ _ rfl (w.heap.size + 1) 4 rfl b.e.arr (deed_edit HB.out B0.out.2.2) strE (by rw [Edit.arr_size, HB.out.e]) ?_)
    go_wp2_with (with_reducible refine stop_bin .eql 30 (.tmp 46) (.tmp 48) 30 rfl ?_)
    refine Stop.mk (wpList_eqlS (by first | rfl | (simp [Region.wanted, yielded, *]; done)) _ _ _ _ rfl a.e.arr b.e.arr rfl rfl gE true ((eq_edit HA.out.e HB.out.e 9995 _).trans (by rw [decide_eq_true De.out])) ?_)
    go_wp2_with (with_reducible refine slG 28 (.tmp 51) rfl ?_)
    refine Stop.mk (wlG (by first | rfl | (simp [Region.wanted, yielded, *]; done)) _ _ rfl w.heap.size 35 rfl a.p.arr (deed_patch HA.out B0.out.2.1) strP (by rw [Patch.arr_size, HA.out.p]) ?_)
    go_wp2_with (with_reducible refine slG 28 (.tmp 53) rfl ?_)
    refine Stop.mk (wlG (by first | rfl | (simp [Region.wanted, yielded, *]; done)) _ _ rfl (w.heap.size + 1) 35 rfl b.p.arr (deed_patch HB.out B0.out.2.2) strP (by rw [Patch.arr_size, HB.out.p]) ?_)
    go_wp2_with (with_reducible refine stop_bin .eql 28 (.tmp 52) (.tmp 54) 28 rfl ?_)
    refine Stop.mk (wpList_eqlS (by first | rfl | (simp [Region.wanted, yielded, *]; done)) _ _ _ _ rfl a.p.arr b.p.arr rfl rfl gP true ((eq_patch HA.out.p HB.out.p 9996 _).trans (by rw [decide_eq_true Dp.out])) ?_)
    go_wp2_with (fail)
    refine (c_pred_Compare a.f b.f q.A r.A q.n r.n _ (HQ.out.below B0.out.1).f (HR.out.below B0.out.1).f).mono ?_
    rintro e w1 ⟨rfl, hb1⟩
    replace B0 := lh (B0.out.step hb1); clear ps q0 q1 q2 q3 q4 q5 q6 q7 hb1; have ps := dcs HA.out B0.out.2.1; obtain ⟨q0, q1, q2, q3, q4, q5, q6, q7⟩ := dcs HB.out B0.out.2.2
    have kf : (cmpL a.f b.f == 0) = false := by rw [beq_eq_false_iff_ne]; exact fun e => Df.out ((cmpL_zero a.f b.f).1 e)
    go_wp2_with (fail)
    go_ret
    exact RetV.bool H.out.symm B0.out.1
  have H := lh (show decide (a = b) = decide (a.keep = b.keep) from deed_eq_p hkind hn hdev hid hmask htext he hp hf)
  have jjkind : (a.kind == b.kind) = true := by simpa using hkind
  have iikind : (a.kind != b.kind) = false := by simpa using hkind
  have jjn : (a.n == b.n) = true := by simpa using hn
  have iin : (a.n != b.n) = false := by simpa using hn
  have jjdev : (a.dev == b.dev) = true := by simpa using hdev
  have iidev : (a.dev != b.dev) = false := by simpa using hdev
  have jjid : (a.id == b.id) = true := by simpa using hid
  have iiid : (a.id != b.id) = false := by simpa using hid
  have jjmask : ((a.mask : Int) == (b.mask : Int)) = true := by simp only [beq_iff_eq, Int.natCast_inj]; exact hmask
  have iimask : ((a.mask : Int) != (b.mask : Int)) = false := by simp only [bne_eq_false_iff_eq, Int.natCast_inj]; exact hmask
  have jjtext : (a.text == b.text) = true := by simpa using htext
  have iitext : (a.text != b.text) = false := by simpa using htext
  have De := lh he
  have Dp := lh hp
  have Df := lh hf
  clear hkind hn hdev hid hmask htext he hp hf
  go_enter Tryd.func11, Tryd.ntmps11
  go_wp2_with (with_reducible refine slG 30 (.tmp 45) rfl ?_)
  refine Stop.mk (wlG (by first | rfl | (simp [Region.wanted, yielded, *]; done)) _ _ rfl w.heap.size 4 rfl a.e.arr (deed_edit HA.out B0.out.2.1) strE (by rw [Edit.arr_size, HA.out.e]) ?_)
  go_wp2_with (with_reducible refine slG 30 (.tmp 47) rfl ?_)
  refine Stop.mk (wlG (by first | rfl | (simp [Region.wanted, yielded, *]; done)) _ _ rfl (w.heap.size + 1) 4 rfl b.e.arr (deed_edit HB.out B0.out.2.2) strE (by rw [Edit.arr_size, HB.out.e]) ?_)
  go_wp2_with (with_reducible refine stop_bin .eql 30 (.tmp 46) (.tmp 48) 30 rfl ?_)
  refine Stop.mk (wpList_eqlS (by first | rfl | (simp [Region.wanted, yielded, *]; done)) _ _ _ _ rfl a.e.arr b.e.arr rfl rfl gE true ((eq_edit HA.out.e HB.out.e 9995 _).trans (by rw [decide_eq_true De.out])) ?_)
  go_wp2_with (with_reducible refine slG 28 (.tmp 51) rfl ?_)
  refine Stop.mk (wlG (by first | rfl | (simp [Region.wanted, yielded, *]; done)) _ _ rfl w.heap.size 35 rfl a.p.arr (deed_patch HA.out B0.out.2.1) strP (by rw [Patch.arr_size, HA.out.p]) ?_)
  go_wp2_with (with_reducible refine slG 28 (.tmp 53) rfl ?_)
  refine Stop.mk (wlG (by first | rfl | (simp [Region.wanted, yielded, *]; done)) _ _ rfl (w.heap.size + 1) 35 rfl b.p.arr (deed_patch HB.out B0.out.2.2) strP (by rw [Patch.arr_size, HB.out.p]) ?_)
  go_wp2_with (with_reducible refine stop_bin .eql 28 (.tmp 52) (.tmp 54) 28 rfl ?_)
  refine Stop.mk (wpList_eqlS (by first | rfl | (simp [Region.wanted, yielded, *]; done)) _ _ _ _ rfl a.p.arr b.p.arr rfl rfl gP true ((eq_patch HA.out.p HB.out.p 9996 _).trans (by rw [decide_eq_true Dp.out])) ?_)
  go_wp2_with (fail)
  refine (c_pred_Compare a.f b.f q.A r.A q.n r.n _ (HQ.out.below B0.out.1).f (HR.out.below B0.out.1).f).mono ?_
  rintro e w1 ⟨rfl, hb1⟩
  replace B0 := lh (B0.out.step hb1); clear ps q0 q1 q2 q3 q4 q5 q6 q7 hb1; have ps := dcs HA.out B0.out.2.1; obtain ⟨q0, q1, q2, q3, q4, q5, q6, q7⟩ := dcs HB.out B0.out.2.2
  rw [(cmpL_zero a.f b.f).2 Df.out]
  go_wp2_with (fail)
  refine (c_Equal_ints a.keep b.keep q.K r.K q.m r.m _ (HQ.out.below B0.out.1).k (HR.out.below B0.out.1).k).mono ?_
  rintro e w1 ⟨rfl, hb1⟩
  replace B0 := lh (B0.out.step hb1); clear ps q0 q1 q2 q3 q4 q5 q6 q7 hb1; have ps := dcs HA.out B0.out.2.1; obtain ⟨q0, q1, q2, q3, q4, q5, q6, q7⟩ := dcs HB.out B0.out.2.2
  go_wp2_with (fail)
  go_ret
  exact RetV.bool H.out.symm B0.out.1
end Go.Proofs.YtiedkcijjfmhaaaDoor
