/-
  Lemmas (walks and plain laws), in one text.
-/
import Derived.Test.YtjhndilflcigiaaDoorQa26
import Derived.Test.YtjhndilflcigiaaDoorRows
import Derived.WalkKit
import Derived.WalkSpells
import Derived.WalkLawsBesides
import Derived.Lib.Hide
import Derived.Deep.QuietTactic
import Derived.BigQuiet
import Derived.Maps.AppendAt
import Derived.WalkSmall
import Derived.ProofKit
import Derived.OpenShut
import Derived.JoinedCond
import Derived.Deep.Slices
import Derived.Deep.Fields
import Derived.Carry
import Derived.Deep.AppendSrc
import Derived.Lib.AppendStr
import Derived.Laws.BytesArg
import Derived.Test.YtjhndilflcigiaaDoorProg
import Derived.Shelf.Spec.TrailingZeros
import Derived.RangeFuncNested
import Derived.RangeFuncBound
import Derived.RangeFuncCalls
import Derived.RangeFuncLeaves
import Derived.Shelf.Abstract
import Derived.Shelf.RegionOpen
import Derived.OwnWalkIn
import Derived.TacticsInMore
import Derived.LoopNIn
import Derived.LoopIn
import Derived.Test.YtjhndilflcigiaaDoorTie
import Derived.Lib.LaidTab
import Derived.LaidMore
import Derived.SevenTiedAt
import Derived.Test.YtjhndilflcigiaaDoorCards
import Derived.Laws.Tables
import Derived.Laws.Rows
import Derived.ChangeKeysEq
import Derived.Laws.StructEq
import Derived.Deep.CutBlock
import Derived.Deep.DeepCutAuto
import Derived.Laws.CopyOwn
import Derived.Outline
import Derived.IntWalk
import Derived.Lib.EndianBits
import Derived.StillTail
import Derived.Lib.AppendZeros
import Derived.Deep.Quiet
namespace Go.Proofs.YtjhndilflcigiaaDoor
open Go.RowKit

def icn (x : Int) : List Value := [.int .i64 x]
theorem icn_len (x : Int) : (icn x).length = 1 := rfl
def orL : List Int → Int
  | [] => 0
  | x :: r => if x ≠ 0 then x else orL r
theorem orL_at (l : List Int) (k : Nat) (h : k < l.length) : orL (l.drop k) = if l[k] ≠ 0 then l[k] else orL (l.drop (k + 1)) := by
  rw [List.drop_eq_getElem_cons h]; rfl
theorem Row.int1 {w : World} {b off : Nat} {l : List Int} (h : Row 1 icn w b off l) {i : Nat} (hi : i < l.length) : w.cell? ⟨b, off + i, none⟩ = some (.int .i64 l[i]) := by
  have := h i hi 0 _ rfl
  simpa using this
set_option maxHeartbeats 400000 in
theorem c_cmp_Or (l : List Int) (A : Option Addr) (c : Nat) (w : World) (h : In 1 icn w A c l) : Calls Tryd.prog 108 #[.slice A l.length c] w (RetV w (.int .i64 (orL l))) := by
  have hL := h.1
  have hC := h.2.1
  have hS := h.2.2.1
  have H0 : Hid (orL (l.drop 0) = orL l) := rfl
  go_enter Tryd.func108, Tryd.ntmps108
  go_wp2_with (fail)
  go_loopw [5, 8] (fun v i wr => ∃ k : Nat, k ≤ l.length ∧ i = .int .i64 k ∧ Hid (orL (l.drop k) = orL l) ∧ Below w.heap.size w wr) (fun _ i _ => l.length - (intOf i).toNat)
  case atStart => exact ⟨0, by omega, rfl, H0, Below.refl _ _⟩
  case round =>
    obtain ⟨k, hk, rfl, H, hbl⟩ := hrel
    have hbz := hbl.size
    by_cases hlt : k < l.length
    · obtain ⟨b, off, rfl, hb, hrow⟩ := h.at hlt
      have e0 := (hrow.below hbl hb).int1 hlt
      have hH := H.out
      rw [orL_at l k hlt] at hH
      clear h H H0
      by_cases hx : l[k] = 0
      · rw [if_neg (fun h => h hx)] at hH
        have HN := Lib.hid hH
        have bx : (l[k] != 0) = false := by simpa using hx
        clear hH hx
        go_wp2_with (fail)
        go_roundw
        case rel => exact ⟨k + 1, by omega, by go_num, HN.out, hbl⟩
        case measure => simp [intOf]; omega
      · rw [if_pos hx] at hH
        have HN := Lib.hid hH
        have bx : (l[k] != 0) = true := by simpa using hx
        clear hH hx
        go_wp2_with (fail)
        go_ret
        exact RetV.int HN.out hbl
    · have hH := H.out
      rw [List.drop_of_length_le (by omega)] at hH
      have HN := Lib.hid hH
      clear hH H H0
      go_wp2_with (fail)
      go_ret
      exact RetV.int HN.out hbl
theorem Node.cmp_or (x y : Node) : orL [cmpI x.op y.op, cmpI x.n y.n, x.v.cmp y.v] = x.cmp y := by
  unfold Node.cmp orL orL orL orL
  by_cases h1 : cmpI x.op y.op = 0 <;> by_cases h2 : cmpI x.n y.n = 0 <;> by_cases h3 : x.v.cmp y.v = 0 <;> simp [h1, h2, h3]
set_option maxHeartbeats 1000000 in
theorem c_pred_Compare1 (x y : Node) (w : World) : Calls Tryd.prog 107 #[x.val, y.val] w (RetV w (.int .i64 (x.cmp y))) := by
  unfold Node.val
  have H := Lib.hid (Node.cmp_or x y)
  go_enter Tryd.func107, Tryd.ntmps107
  go_wp2_with (fail)
  have hs1 : w.heap.size < w.heap.size + 1 + 1 := by omega
  have hs2 : w.heap.size + 1 < w.heap.size + 1 + 1 := by omega
  refine wp_region_tail 15 (by kernel_rfl) (by kernel_rfl) ?_
  simp only [List.take_succ_cons, List.take_zero, List.drop_succ_cons, List.drop_zero]
  repeat (quiet_step ((first | (go_at_call 109; exact quiet_grow (c_cmp_int _ _ _)) | (go_at_call 110; exact quiet_grow (c_value_Compare x.v y.v _)))))
  refine wpQuiet_nil ?_
  intro w2 hb2
  have hz2 := hb2.size
  simp only [World.size_alloc] at hz2
  go_wp2_with (fail)
  refine (c_cmp_Or [cmpI x.op y.op, cmpI x.n y.n, x.v.cmp y.v] _ 3 _ (In.lit icn_len w2 [cmpI x.op y.op, cmpI x.n y.n, x.v.cmp y.v] 3 3 rfl (by simp))).mono ?_
  rintro e w3 ⟨rfl, hb3⟩
  go_wp2_with (fail)
  go_ret
  exact RetV.int H.out (by repeat (first | exact Below.refl _ _ | refine Below.drew ?_ | refine Below.alloc ?_ (by first | omega | (simp; done) | (simp; omega)) _ | refine Below.setCell ?_ (by first | omega | (simp; done) | (simp; omega)) _ | refine Below.trans ?_ (Below.mono (by assumption) (by first | omega | (simp; done) | (simp; omega)))))
set_option maxHeartbeats 1000000 in
theorem c_CompareFunc (l1 l2 : List Node) (A1 A2 : Option Addr) (c1 c2 : Nat) (w : World) (h1 : InN w A1 c1 l1) (h2 : InN w A2 c2 l2) :
    Calls Tryd.prog 106 #[.slice A1 l1.length c1, .slice A2 l2.length c2, .func (.func 107) #[] #[]] w (RetV w (.int .i64 (cmpL l1 l2))) := by
  have hL1 := h1.1
  have hC1 := h1.2.1
  have hS1 := h1.2.2.1
  have hL2 := h2.1
  have hC2 := h2.2.1
  have hS2 := h2.2.2.1
  have H0 : Hid (cmpL (l1.drop 0) (l2.drop 0) = cmpL l1 l2) := by show _ = _; rw [List.drop_zero, List.drop_zero]
  go_enter Tryd.func106, Tryd.ntmps106
  go_wp2_with (fail)
  go_loopw [13] (fun i wr => ∃ k : Nat, k ≤ l1.length ∧ k ≤ l2.length ∧ i = .int .i64 k ∧ Hid (cmpL (l1.drop k) (l2.drop k) = cmpL l1 l2) ∧ Below w.heap.size w wr) (fun i _ => l1.length - (intOf i).toNat)
  case atStart => exact ⟨0, by omega, by omega, rfl, H0, Below.refl _ _⟩
  case round =>
    obtain ⟨k, hk1, hk2, rfl, H, hbl⟩ := hrel
    have hbz := hbl.size
    have hH := H.out
    clear H H0
    by_cases hlt1 : k < l1.length
    · obtain ⟨b1, off1, rfl, hb1, hrow1⟩ := h1.at hlt1
      obtain ⟨e0, e1, e2, e3, e4⟩ := (hrow1.below hbl hb1).node hlt1 rfl
      by_cases hlt2 : k < l2.length
      · obtain ⟨b2, off2, rfl, hb2, hrow2⟩ := h2.at hlt2
        obtain ⟨f0, f1, f2, f3, f4⟩ := (hrow2.below hbl hb2).node hlt2 rfl
        have hbr1 : b1 < wr.heap.size := by omega
        have hbr2 : b2 < wr.heap.size := by omega
        rw [cmpL_at _ _ k hlt1 hlt2] at hH
        clear h1 h2
        by_cases hx : l1[k].cmp l2[k] = 0
        · rw [if_neg (fun h => h hx)] at hH
          have HN := Lib.hid hH
          have bx : (l1[k].cmp l2[k] != 0) = false := by simpa using hx
          clear hH hx
          go_wp2_with (go_at_call 107; refine (c_pred_Compare1 l1[k] l2[k] _).mono ?_; rintro e w3 ⟨rfl, hb3⟩)
          go_roundw
          case rel => exact ⟨k + 1, by omega, by omega, by go_num, HN.out, (by repeat (first | exact Below.refl _ _ | refine Below.drew ?_ | refine Below.alloc ?_ (by first | omega | (simp; done) | (simp; omega)) _ | refine Below.setCell ?_ (by first | omega | (simp; done) | (simp; omega)) _ | refine Below.trans ?_ (Below.mono (by assumption) (by first | omega | (simp; done) | (simp; omega)))))⟩
          case measure => simp [intOf]; omega
        · rw [if_pos hx] at hH
          have HN := Lib.hid hH
          have bx : (l1[k].cmp l2[k] != 0) = true := by simpa using hx
          clear hH hx
          go_wp2_with (go_at_call 107; refine (c_pred_Compare1 l1[k] l2[k] _).mono ?_; rintro e w3 ⟨rfl, hb3⟩)
          go_ret
          exact RetV.int HN.out (by repeat (first | exact Below.refl _ _ | refine Below.drew ?_ | refine Below.alloc ?_ (by first | omega | (simp; done) | (simp; omega)) _ | refine Below.setCell ?_ (by first | omega | (simp; done) | (simp; omega)) _ | refine Below.trans ?_ (Below.mono (by assumption) (by first | omega | (simp; done) | (simp; omega)))))
      · rw [cmpL_right _ _ k hlt1 (by omega)] at hH
        have HN := Lib.hid hH
        clear hH h1 h2
        go_wp2_with (fail)
        go_ret
        exact RetV.int HN.out (by repeat (first | exact Below.refl _ _ | refine Below.drew ?_ | refine Below.alloc ?_ (by first | omega | (simp; done) | (simp; omega)) _ | refine Below.setCell ?_ (by first | omega | (simp; done) | (simp; omega)) _ | refine Below.trans ?_ (Below.mono (by assumption) (by first | omega | (simp; done) | (simp; omega)))))
    · by_cases hlt2 : k < l2.length
      · rw [cmpL_left _ _ k (by omega) hlt2] at hH
        have HN := Lib.hid hH
        have g1 : l1.length < l2.length := by omega
        clear hH
        go_wp2_with (fail)
        go_ret
        exact RetV.int HN.out hbl
      · rw [List.drop_of_length_le (by omega), List.drop_of_length_le (by omega)] at hH
        have HN := Lib.hid hH
        have g1 : ¬ l1.length < l2.length := by omega
        clear hH
        go_wp2_with (fail)
        go_ret
        exact RetV.int HN.out hbl
set_option maxHeartbeats 400000 in
theorem c_pred_Compare (l1 l2 : List Node) (A1 A2 : Option Addr) (c1 c2 : Nat) (w : World) (h1 : InN w A1 c1 l1) (h2 : InN w A2 c2 l2) :
    Calls Tryd.prog 45 #[.slice A1 l1.length c1, .slice A2 l2.length c2] w (RetV w (.int .i64 (cmpL l1 l2))) := by
  have hL1 := h1.1
  have hC1 := h1.2.1
  have hL2 := h2.1
  have hC2 := h2.2.1
  have H1 := Lib.hid h1
  have H2 := Lib.hid h2
  clear h1 h2
  go_enter Tryd.func45, Tryd.ntmps45
  go_wp2_with (fail)
  refine (c_CompareFunc l1 l2 _ _ _ _ _ H1.out H2.out).mono ?_
  rintro e w3 ⟨rfl, hb3⟩
  go_wp2_with (fail)
  go_ret
  exact RetV.int rfl hb3
end Go.Proofs.YtjhndilflcigiaaDoor
namespace Go.Proofs.YtjhndilflcigiaaDoor
open Go.RowKit

theorem Cmd.eq_all (a b : Cmd) : decide (a = b) = ((a.kind == b.kind) && (decide (a.e = b.e) && ((a.dev == b.dev) && ((a.req == b.req) && ((a.id == b.id) && ((a.base == b.base) && ((a.keep == b.keep) && (decide (a.p = b.p) && (decide (a.f = b.f) && ((a.mask : Int) == (b.mask : Int))))))))))) := by
  rw [Bool.eq_iff_iff]
  obtain ⟨a0, a1, a2, a3, a4, a5, a6, a7, a8, a9⟩ := a
  obtain ⟨b0, b1, b2, b3, b4, b5, b6, b7, b8, b9⟩ := b
  simp only [decide_eq_true_eq, Cmd.mk.injEq, Bool.and_eq_true, beq_iff_eq, Int.natCast_inj]
/-- Two commands' blocks. -/
structure C2 (w w' : World) (a b : Cmd) (A B : Option Addr) (n m : Nat) : Prop where
  below : Below w.heap.size w w'
  a : Blk w' w.heap.size (a.arr A n)
  b : Blk w' (w.heap.size + 1) (b.arr B m)
theorem C2.step {w w1 w2 : World} {a b : Cmd} {A B : Option Addr} {n m : Nat} (h : C2 w w1 a b A B n m) (hb : Below w1.heap.size w1 w2) : C2 w w2 a b A B n m := ⟨h.below.trans (hb.mono h.below.size), h.a.below hb h.a.lt, h.b.below hb h.b.lt⟩
theorem C2.new (w : World) (s t : TypeId) (a b : Cmd) (A B : Option Addr) (n m : Nat) : C2 w ((w.alloc (.cells (a.arr A n) s)).alloc (.cells (b.arr B m) t)) a b A B n m := by
  obtain ⟨h1, h2, h3⟩ := At2.new w s t (a.arr A n) (b.arr B m)
  exact ⟨h1, h2, h3⟩
set_option maxHeartbeats 4000000 in
set_option maxRecDepth 4000 in
theorem c_cmdwire_Same (a b : Cmd) (A B : Option Addr) (n m : Nat) (w : World) (hwa : a.wf) (hwb : b.wf) (hia : InN w A n a.f) (hib : InN w B m b.f) :
    Calls Tryd.prog 13 #[.agg (a.arr A n), .agg (b.arr B m)] w (RetV w (.bool (decide (a = b)))) := by
  have B0 := Lib.hid (C2.new w 32 32 a b A B n m)
  have ha := Lib.hid hwa
  have hb := Lib.hid hwb
  have HA := Lib.hid hia
  have HB := Lib.hid hib
  have E := Lib.hid (Cmd.eq_all a b)
  obtain ⟨p0, p1, p2, p3, p4, p5, p6, p7⟩ := cmd_cells ha.out B0.out.a; obtain ⟨q0, q1, q2, q3, q4, q5, q6, q7⟩ := cmd_cells hb.out B0.out.b
  clear hwa hwb hia hib
  by_cases hf : a.f = b.f
  case neg =>
    have E2 := Lib.hid (show decide (a = b) = false by simp only [decide_eq_false_iff_not]; intro h; exact hf (by rw [h]))
    have k : (cmpL a.f b.f != 0) = true := by simp only [bne_iff_ne, ne_eq, cmpL_zero]; exact hf
    clear hf
    go_enter Tryd.func13, Tryd.ntmps13
    go_wp2_with (go_at_call 45; refine (c_pred_Compare a.f b.f A B n m _ (HA.out.below B0.out.below) (HB.out.below B0.out.below)).mono ?_; rintro e w1 ⟨rfl, hb1⟩; replace B0 := Lib.hid (B0.out.step hb1); clear p0 p1 p2 p3 p4 p5 p6 p7 q0 q1 q2 q3 q4 q5 q6 q7 hb1; obtain ⟨p0, p1, p2, p3, p4, p5, p6, p7⟩ := cmd_cells ha.out B0.out.a; obtain ⟨q0, q1, q2, q3, q4, q5, q6, q7⟩ := cmd_cells hb.out B0.out.b)
    go_ret
    refine RetV.bool ?_ B0.out.below
    rw [E2.out]
  case pos =>
    have F := Lib.hid (show decide (a.f = b.f) = true by simpa using hf)
    have C := Lib.hid ((cmpL_zero a.f b.f).2 hf)
    clear hf
    cases he : decide (a.e = b.e)
    all_goals
      have EE := Lib.hid he
      clear he
    case false =>
      go_enter Tryd.func13, Tryd.ntmps13
      go_wp2_with (fail)
      refine (c_pred_Compare a.f b.f A B n m _ (HA.out.below B0.out.below) (HB.out.below B0.out.below)).mono ?_
      rintro e w1 ⟨rfl, hb1⟩
      rw [C.out]
      replace B0 := Lib.hid (B0.out.step hb1); clear p0 p1 p2 p3 p4 p5 p6 p7 q0 q1 q2 q3 q4 q5 q6 q7 hb1; obtain ⟨p0, p1, p2, p3, p4, p5, p6, p7⟩ := cmd_cells ha.out B0.out.a; obtain ⟨q0, q1, q2, q3, q4, q5, q6, q7⟩ := cmd_cells hb.out B0.out.b
      go_wp2_with (with_reducible refine stop_loadG 29 (.tmp 12) rfl ?_)
      refine Stop.mk (wpList_loadAtG (by rfl) _ _ rfl w.heap.size 1 rfl a.e.arr (cmd_edit ha.out B0.out.a) strE (by rw [Edit.arr_size, (ha.out).e]) ?_)
      go_wp2_with (with_reducible refine stop_loadG 29 (.tmp 14) rfl ?_)
      refine Stop.mk (wpList_loadAtG (by rfl) _ _ rfl (w.heap.size + 1) 1 rfl b.e.arr (cmd_edit hb.out B0.out.b) strE (by rw [Edit.arr_size, (hb.out).e]) ?_)
      go_wp2_with (with_reducible refine stop_bin .neq 29 (.tmp 13) (.tmp 15) 29 rfl ?_)
      refine Stop.mk (wpList_neqS (by rfl) _ _ _ _ rfl a.e.arr b.e.arr rfl rfl gE false ((eq_edit ha.out.e hb.out.e 9995 _).trans (by rw [EE.out])) ?_)
      go_wp2_with (fail)
      go_ret
      refine RetV.bool ?_ B0.out.below
      rw [E.out, EE.out]
      simp
    case true =>
      obtain ⟨q, hq⟩ : ∃ q, q = decide (a.p = b.p) := ⟨_, rfl⟩
      have EP := Lib.hid hq
      clear hq
      go_enter Tryd.func13, Tryd.ntmps13
      go_wp2_with (fail)
      refine (c_pred_Compare a.f b.f A B n m _ (HA.out.below B0.out.below) (HB.out.below B0.out.below)).mono ?_
      rintro e w1 ⟨rfl, hb1⟩
      rw [C.out]
      replace B0 := Lib.hid (B0.out.step hb1); clear p0 p1 p2 p3 p4 p5 p6 p7 q0 q1 q2 q3 q4 q5 q6 q7 hb1; obtain ⟨p0, p1, p2, p3, p4, p5, p6, p7⟩ := cmd_cells ha.out B0.out.a; obtain ⟨q0, q1, q2, q3, q4, q5, q6, q7⟩ := cmd_cells hb.out B0.out.b
      go_wp2_with (with_reducible refine stop_loadG 29 (.tmp 12) rfl ?_)
      refine Stop.mk (wpList_loadAtG (by rfl) _ _ rfl w.heap.size 1 rfl a.e.arr (cmd_edit ha.out B0.out.a) strE (by rw [Edit.arr_size, (ha.out).e]) ?_)
      go_wp2_with (with_reducible refine stop_loadG 29 (.tmp 14) rfl ?_)
      refine Stop.mk (wpList_loadAtG (by rfl) _ _ rfl (w.heap.size + 1) 1 rfl b.e.arr (cmd_edit hb.out B0.out.b) strE (by rw [Edit.arr_size, (hb.out).e]) ?_)
      go_wp2_with (with_reducible refine stop_bin .neq 29 (.tmp 13) (.tmp 15) 29 rfl ?_)
      refine Stop.mk (wpList_neqS (by rfl) _ _ _ _ rfl a.e.arr b.e.arr rfl rfl gE true ((eq_edit ha.out.e hb.out.e 9995 _).trans (by rw [EE.out])) ?_)
      go_wp2_with (with_reducible refine stop_loadG 27 (.tmp 19) rfl ?_)
      refine Stop.mk (wpList_loadAtG (by rfl) _ _ rfl w.heap.size 35 rfl a.p.arr (cmd_patch ha.out B0.out.a) strP (by rw [Patch.arr_size, (ha.out).p]) ?_)
      go_wp2_with (with_reducible refine stop_loadG 27 (.tmp 21) rfl ?_)
      refine Stop.mk (wpList_loadAtG (by rfl) _ _ rfl (w.heap.size + 1) 35 rfl b.p.arr (cmd_patch hb.out B0.out.b) strP (by rw [Patch.arr_size, (hb.out).p]) ?_)
      go_wp2_with (with_reducible refine stop_bin .neq 27 (.tmp 20) (.tmp 22) 27 rfl ?_)
      refine Stop.mk (wpList_neqS (by rfl) _ _ _ _ rfl a.p.arr b.p.arr rfl rfl gP q ((eq_patch ha.out.p hb.out.p 9996 _).trans (by rw [EP.out])) ?_)
      cases q
      all_goals
        go_wp2_with (fail)
      all_goals
        go_ret
        refine RetV.bool ?_ B0.out.below
        rw [E.out, EE.out, F.out, ← EP.out]
        simp [*]
set_option maxHeartbeats 4000000 in
set_option maxRecDepth 4000 in
theorem c_ref33_Same (a b : Cmd) (A B : Option Addr) (n m : Nat) (w : World) (hwa : a.wf) (hwb : b.wf) (hia : InN w A n a.f) (hib : InN w B m b.f) :
    Calls Tryd.prog 14 #[.agg (a.arr A n), .agg (b.arr B m)] w (RetV w (.bool (decide (a = b)))) := by
  have B0 := Lib.hid (C2.new w 32 32 a b A B n m)
  have ha := Lib.hid hwa
  have hb := Lib.hid hwb
  have HA := Lib.hid hia
  have HB := Lib.hid hib
  have E := Lib.hid (Cmd.eq_all a b)
  obtain ⟨p0, p1, p2, p3, p4, p5, p6, p7⟩ := cmd_cells ha.out B0.out.a; obtain ⟨q0, q1, q2, q3, q4, q5, q6, q7⟩ := cmd_cells hb.out B0.out.b
  clear hwa hwb hia hib
  cases hk : (a.kind == b.kind)
  case false =>
    go_enter Tryd.func14, Tryd.ntmps14
    simp only [List.append_eq, List.cons_append, List.nil_append]
    go_wp2_with (fail)
    go_ret
    refine RetV.bool ?_ B0.out.below
    rw [E.out, hk]
    rfl
  case true =>
    have hkk := Lib.hid hk
    rw [eq_of_beq hk] at p0
    clear hk
    cases he : decide (a.e = b.e)
    all_goals
      have EE := Lib.hid he
      clear he
    case false =>
      go_enter Tryd.func14, Tryd.ntmps14
      simp only [List.append_eq, List.cons_append, List.nil_append]
      go_wp2_with (with_reducible refine stop_loadG 29 (.tmp 11) rfl ?_)
      refine Stop.mk (wpList_loadAtG (by rfl) _ _ rfl w.heap.size 1 rfl a.e.arr (cmd_edit ha.out B0.out.a) strE (by rw [Edit.arr_size, (ha.out).e]) ?_)
      go_wp2_with (with_reducible refine stop_loadG 29 (.tmp 13) rfl ?_)
      refine Stop.mk (wpList_loadAtG (by rfl) _ _ rfl (w.heap.size + 1) 1 rfl b.e.arr (cmd_edit hb.out B0.out.b) strE (by rw [Edit.arr_size, (hb.out).e]) ?_)
      go_wp2_with (with_reducible refine stop_bin .eql 29 (.tmp 12) (.tmp 14) 29 rfl ?_)
      refine Stop.mk (wpList_eqlS (by rfl) _ _ _ _ rfl a.e.arr b.e.arr rfl rfl gE false ((eq_edit ha.out.e hb.out.e 9995 _).trans (by rw [EE.out])) ?_)
      go_wp2_with (fail)
      go_ret
      refine RetV.bool ?_ B0.out.below
      rw [E.out, EE.out]
      simp
    case true =>
      cases hi : ((a.dev == b.dev) && ((a.req == b.req) && ((a.id == b.id) && ((a.base == b.base) && (a.keep == b.keep)))))
      case false =>
        have HI := Lib.hid hi
        go_enter Tryd.func14, Tryd.ntmps14
        simp only [List.append_eq, List.cons_append, List.nil_append]
        go_wp2_with (with_reducible refine stop_loadG 29 (.tmp 11) rfl ?_)
        refine Stop.mk (wpList_loadAtG (by rfl) _ _ rfl w.heap.size 1 rfl a.e.arr (cmd_edit ha.out B0.out.a) strE (by rw [Edit.arr_size, (ha.out).e]) ?_)
        go_wp2_with (with_reducible refine stop_loadG 29 (.tmp 13) rfl ?_)
        refine Stop.mk (wpList_loadAtG (by rfl) _ _ rfl (w.heap.size + 1) 1 rfl b.e.arr (cmd_edit hb.out B0.out.b) strE (by rw [Edit.arr_size, (hb.out).e]) ?_)
        go_wp2_with (with_reducible refine stop_bin .eql 29 (.tmp 12) (.tmp 14) 29 rfl ?_)
        refine Stop.mk (wpList_eqlS (by rfl) _ _ _ _ rfl a.e.arr b.e.arr rfl rfl gE true ((eq_edit ha.out.e hb.out.e 9995 _).trans (by rw [EE.out])) ?_)
        clear hi
        go_wp2_with (fail)
        all_goals first
          | (go_ret
             refine RetV.bool ?_ B0.out.below
             rw [E.out, EE.out, hkk.out]
             simp [*]
             done)
          | (exfalso
             have := HI.out
             simp_all
             done)
      case true =>
        obtain ⟨i1, i2, i3, i4, i5⟩ : (a.dev == b.dev) = true ∧ (a.req == b.req) = true ∧ (a.id == b.id) = true ∧ (a.base == b.base) = true ∧ (a.keep == b.keep) = true := by simpa only [Bool.and_eq_true] using hi
        rw [eq_of_beq i1] at p1
        rw [eq_of_beq i2] at p2
        rw [eq_of_beq i3] at p3
        rw [eq_of_beq i4] at p4
        rw [eq_of_beq i5] at p5
        have I1 := Lib.hid i1
        have I2 := Lib.hid i2
        have I3 := Lib.hid i3
        have I4 := Lib.hid i4
        have I5 := Lib.hid i5
        clear hi i1 i2 i3 i4 i5
        obtain ⟨q, hq⟩ : ∃ q, q = decide (a.p = b.p) := ⟨_, rfl⟩
        have EP := Lib.hid hq
        clear hq
        go_enter Tryd.func14, Tryd.ntmps14
        simp only [List.append_eq, List.cons_append, List.nil_append]
        go_wp2_with (with_reducible refine stop_loadG 29 (.tmp 11) rfl ?_)
        refine Stop.mk (wpList_loadAtG (by rfl) _ _ rfl w.heap.size 1 rfl a.e.arr (cmd_edit ha.out B0.out.a) strE (by rw [Edit.arr_size, (ha.out).e]) ?_)
        go_wp2_with (with_reducible refine stop_loadG 29 (.tmp 13) rfl ?_)
        refine Stop.mk (wpList_loadAtG (by rfl) _ _ rfl (w.heap.size + 1) 1 rfl b.e.arr (cmd_edit hb.out B0.out.b) strE (by rw [Edit.arr_size, (hb.out).e]) ?_)
        go_wp2_with (with_reducible refine stop_bin .eql 29 (.tmp 12) (.tmp 14) 29 rfl ?_)
        refine Stop.mk (wpList_eqlS (by rfl) _ _ _ _ rfl a.e.arr b.e.arr rfl rfl gE true ((eq_edit ha.out.e hb.out.e 9995 _).trans (by rw [EE.out])) ?_)
        go_wp2_with (with_reducible refine stop_loadG 27 (.tmp 53) rfl ?_)
        refine Stop.mk (wpList_loadAtG (by rfl) _ _ rfl w.heap.size 35 rfl a.p.arr (cmd_patch ha.out B0.out.a) strP (by rw [Patch.arr_size, (ha.out).p]) ?_)
        go_wp2_with (with_reducible refine stop_loadG 27 (.tmp 55) rfl ?_)
        refine Stop.mk (wpList_loadAtG (by rfl) _ _ rfl (w.heap.size + 1) 35 rfl b.p.arr (cmd_patch hb.out B0.out.b) strP (by rw [Patch.arr_size, (hb.out).p]) ?_)
        go_wp2_with (with_reducible refine stop_bin .eql 27 (.tmp 54) (.tmp 56) 27 rfl ?_)
        refine Stop.mk (wpList_eqlS (by rfl) _ _ _ _ rfl a.p.arr b.p.arr rfl rfl gP q ((eq_patch ha.out.p hb.out.p 9996 _).trans (by rw [EP.out])) ?_)
        cases q
        all_goals
          go_wp2_with (go_at_call 46; refine (c_ref10_Same a.f b.f A B n m _ (HA.out.below B0.out.below) (HB.out.below B0.out.below)).mono ?_; rintro e w1 ⟨rfl, hb1⟩; replace B0 := Lib.hid (B0.out.step hb1); clear p0 p1 p2 p3 p4 p5 p6 p7 q0 q1 q2 q3 q4 q5 q6 q7 hb1; obtain ⟨p0, p1, p2, p3, p4, p5, p6, p7⟩ := cmd_cells ha.out B0.out.a; obtain ⟨q0, q1, q2, q3, q4, q5, q6, q7⟩ := cmd_cells hb.out B0.out.b)
        all_goals
          go_ret
          refine RetV.bool ?_ B0.out.below
          rw [E.out, EE.out, ← EP.out, hkk.out, I1.out, I2.out, I3.out, I4.out, I5.out]
          simp [*]
end Go.Proofs.YtjhndilflcigiaaDoor
