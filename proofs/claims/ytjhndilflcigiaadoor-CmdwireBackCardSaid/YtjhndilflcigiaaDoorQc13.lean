/-
  Lemmas (walks and plain laws), in one text.
-/
import Derived.Test.YtjhndilflcigiaaDoorQc12
import Derived.Test.YtjhndilflcigiaaDoorRows
import Derived.WalkKit
import Derived.WalkSpells
import Derived.WalkLawsBesides
import Derived.Lib.Hide
import Derived.Deep.QuietTactic
import Derived.BigQuiet
import Derived.Maps.AppendAt
import Derived.WalkSmall
import Derived.ProofKit
import Derived.OpenShut
import Derived.JoinedCond
import Derived.Deep.Slices
import Derived.Deep.Fields
import Derived.Carry
import Derived.Deep.AppendSrc
import Derived.Lib.AppendStr
import Derived.Laws.BytesArg
import Derived.Test.YtjhndilflcigiaaDoorProg
import Derived.Shelf.Spec.TrailingZeros
import Derived.RangeFuncNested
import Derived.RangeFuncBound
import Derived.RangeFuncCalls
import Derived.RangeFuncLeaves
import Derived.Shelf.Abstract
import Derived.Shelf.RegionOpen
import Derived.OwnWalkIn
import Derived.TacticsInMore
import Derived.LoopNIn
import Derived.LoopIn
import Derived.Test.YtjhndilflcigiaaDoorTie
import Derived.Lib.LaidTab
import Derived.LaidMore
import Derived.SevenTiedAt
import Derived.Test.YtjhndilflcigiaaDoorCards
import Derived.Laws.Tables
import Derived.Laws.Rows
import Derived.ChangeKeysEq
import Derived.Laws.StructEq
import Derived.Deep.CutBlock
import Derived.Deep.DeepCutAuto
import Derived.Laws.CopyOwn
import Derived.Outline
import Derived.IntWalk
import Derived.Lib.EndianBits
import Derived.StillTail
import Derived.Lib.AppendZeros
import Derived.Deep.Quiet
import Derived.Maps.Own
import Derived.WalkMore
namespace Go.Proofs.YtjhndilflcigiaaDoor
open Go.RowKit

set_option maxHeartbeats 1000000 in
theorem c_ref10_Depth (n : Nat) : ∀ (l : List Node) (A : Option Addr) (c : Nat) (w : World), l.length ≤ n → InN w A c l →
    Calls Tryd.prog 142 #[.slice A l.length c] w (RetV w (.int .i64 (depth l))) := by
  induction n with
  | zero =>
    intro l A c w hn h
    have h0 : l.length = 0 := by omega
    have H : Hid (depth l = 0) := by have := List.eq_nil_of_length_eq_zero h0; subst this; rfl
    go_enter Tryd.func142, Tryd.ntmps142
    go_wp2_with (fail)
    go_ret
    exact RetV.int H.out.symm (Below.refl _ _)
  | succ n ih =>
    intro l A c w hn h
    have IH := Lib.hid ih
    clear ih
    have hL := h.1
    have hC := h.2.1
    have hS := h.2.2.1
    by_cases h0 : l.length = 0
    · have H : Hid (depth l = 0) := by have := List.eq_nil_of_length_eq_zero h0; subst this; rfl
      go_enter Tryd.func142, Tryd.ntmps142
      go_wp2_with (fail)
      go_ret
      exact RetV.int H.out.symm (Below.refl _ _)
    have hl0 : ((l.length : Int) == 0) = false := by simpa using h0
    by_cases h1 : endAt l 0 = l.length
    case neg =>
      have H : Hid (depth l = 0) := by unfold Hid depth; rw [if_pos (.inr h1)]
      have hne : ((endAt l 0 : Int) != (l.length : Int)) = true := by simpa using h1
      go_enter Tryd.func142, Tryd.ntmps142
      go_wp2_with (go_at_call 141; refine (c_ref10_End l A c 0 _ h).mono ?_; rintro e w1 ⟨rfl, hb1⟩)
      go_ret
      exact RetV.int H.out.symm (by repeat (first | exact Below.refl _ _ | refine Below.drew ?_ | refine Below.alloc ?_ (by first | omega | (simp; done) | (simp; omega)) _ | refine Below.setCell ?_ (by first | omega | (simp; done) | (simp; omega)) _ | refine Below.trans ?_ (Below.mono (by assumption) (by first | omega | (simp; done) | (simp; omega)))))
    obtain ⟨d, ht⟩ := tree_of_end (by rintro rfl; simp at h0) h1
    have hlt : 0 < l.length := by omega
    have hdt := depth_tree ht
    obtain ⟨x, r, d', hl, htr, hd⟩ := ht.head
    have hx : l[0] = x := by subst hl; rfl
    have hr : l.drop 1 = r := by subst hl; rfl
    rw [← hx, ← hr] at htr
    obtain ⟨hc1, hc2, hc3⟩ := cut_trees htr
    have hdc := depth_cut htr 0 (by omega)
    have hne : ((endAt l 0 : Int) != (l.length : Int)) = false := by simpa using h1
    obtain ⟨ks, hks⟩ : ∃ ks, cut (parts l[0].op).toNat (l.drop (0 + 1)) = ks := ⟨_, rfl⟩
    have hks' : cut (parts l[0].op).toNat (l.drop 1) = ks := hks
    rw [hks'] at hc1 hc2 hc3 hdc
    have hkl : ∀ k ∈ ks, k.length ≤ n := by
      intro k hk
      have := flatten_len ks k hk
      have h2 := congrArg List.length hc2
      simp only [List.append_nil, List.length_drop] at h2
      omega
    have HD : Hid (depth l = (ks.map depth).foldl max 0 + 1) := by
      show _ = _
      rw [hdt, hdc, hd]; omega
    have Hks := Lib.hid hks
    have Hkl := Lib.hid hkl
    have htr0 := Lib.hid htr
    have hp2 := parts_bd l[0].op
    have hkl2 : ks.length ≤ 2 := by omega
    have hpos : ∀ k, 0 ≤ depth k := fun k => (depth_bd k).1
    have hbd : ∀ k ∈ ks, depth k ≤ 4294967296 := by
      intro k hk
      have h3 := (depth_bd k).2
      have h4 := flatten_len ks k hk
      have h2 := congrArg List.length hc2
      simp only [List.append_nil, List.length_drop] at h2
      omega
    have Hpos := Lib.hid hpos
    have Hbd := Lib.hid hbd
    clear h1 ht hdt hl htr hd hx hr hc1 hc2 hc3 hdc hks hks' hkl hp2 hpos hbd
    go_enter Tryd.func142, Tryd.ntmps142
    go_wp2_with (go_at_call 141; refine (c_ref10_End l A c 0 _ h).mono ?_; rintro e w1 ⟨rfl, hb1⟩)
    refine (c_ref10_Kids l 0 A c _ (h.below hb1) hlt _ _ htr0.out).mono ?_
    rintro e w2 ⟨os, hos, ⟨v, rfl, own, hb2⟩, hin⟩
    rw [Hks.out] at hos
    have hol : os.length = ks.length := by rw [← hos]; simp
    obtain ⟨Av, cv, rfl, hv1, hv2⟩ := own_form own
    have Hb2 := Lib.hid hb2
    have Own := Lib.hid own
    have Hin := Lib.hid hin
    have Hos := Lib.hid hos
    have hbw : Below w.heap.size w w2 := by refine Below.trans hb1 (hb2.mono hb1.size)
    have Hbw := Lib.hid hbw
    have hol2 : os.length ≤ 2 := by omega
    have Hol := Lib.hid hol
    clear hb1 hb2 own hin hos hol hbw
    go_wp2_with (fail)
    go_loopw [4, 5] (fun m i wr => ∃ (k : Nat) (dm : Int), k ≤ os.length ∧ i = .int .i64 k ∧ m = .int .i64 dm ∧ 0 ≤ dm ∧ dm ≤ 4294967296 ∧ Hid (((ks.take k).map depth).foldl max 0 = dm) ∧ Below w2.heap.size w2 wr)
      (fun _ i _ => os.length - (intOf i).toNat)
    case atStart => exact ⟨0, 0, by omega, rfl, rfl, by omega, by omega, rfl, Below.refl _ _⟩
    case round =>
      obtain ⟨k, dm, hk, rfl, rfl, hd0, hd1, HM, hbl⟩ := hrel
      have hbz := hbl.size
      by_cases hlt2 : k < os.length
      · have hlk : k < ks.length := by have := Hol.out; omega
        have hkk : (os[k]).2.2 = ks[k] := by
          have := Hos.out
          subst this
          simp
        obtain ⟨g, cg, he, hg1, hg2, hg3, hg4⟩ := own_form' Own.out (by omega)
        have hAv : Av = some ⟨g, 0, none⟩ := by simp only [Value.slice.injEq] at he; exact he.1
        subst hAv
        have hcell : wr.cell? ⟨g, k, none⟩ = some (.slice os[k].1 os[k].2.2.length os[k].2.1) := by
          have h1 := Own.out.cells (g := g) rfl k
          rw [add_lit] at h1
          rw [hbl.cell (p := ⟨g, k, none⟩) hg4]
          refine h1 _ ?_
          have := flat_get (k := 1) (cs := Kid.cells) (fun _ => rfl) os k hlt2 0 (by omega)
          rw [Nat.mul_one, Nat.add_zero] at this
          rw [this]; rfl
        have hin := Hin.out os[k] (List.getElem_mem hlt2)
        have hle : (os[k]).2.2.length ≤ n := by rw [hkk]; exact Hkl.out _ (List.getElem_mem hlk)
        have hm2 : depth (os[k]).2.2 = depth ks[k] := by rw [hkk]
        have hpk := Hpos.out ks[k]
        have hbk := Hbd.out ks[k] (List.getElem_mem hlk)
        have Hm2 := Lib.hid hm2
        have Hin2 := Lib.hid (hin.below hbl)
        clear hin hkk hm2 he
        go_wp2_with (go_at_call 142; refine (IH.out _ _ _ _ hle Hin2.out).mono ?_; rintro e w3 ⟨rfl, hb3⟩; rw [Hm2.out])
        go_roundw
        case rel =>
          refine ⟨k + 1, _, by omega, by go_num, rfl, by omega, by omega, ?_, (by repeat (first | exact Below.refl _ _ | refine Below.drew ?_ | refine Below.alloc ?_ (by first | omega | (simp; done) | (simp; omega)) _ | refine Below.setCell ?_ (by first | omega | (simp; done) | (simp; omega)) _ | refine Below.trans ?_ (Below.mono (by assumption) (by first | omega | (simp; done) | (simp; omega)))))⟩
          show _ = _
          rw [List.take_succ_eq_append_getElem hlk, List.map_append, List.foldl_append, HM.out]
          rfl
        case measure => simp [intOf]; omega
      · have HM2 : Hid ((ks.map depth).foldl max 0 = dm) := by
          have h1 := HM.out
          rw [List.take_of_length_le (by have := Hol.out; omega)] at h1
          exact h1
        clear HM
        go_wp2_with (fail)
        go_ret
        refine RetV.int ?_ (Below.trans Hbw.out (hbl.mono Hbw.out.size))
        rw [HD.out, HM2.out]
set_option maxHeartbeats 1000000 in
theorem c_ref10_Check (l : List Node) (A : Option Addr) (c : Nat) (w : World) (h : InN w A c l) (hs : ∀ x ∈ l, x.v.s.length ≤ 9223372036854775807) :
    Calls Tryd.prog 87 #[.slice A l.length c] w (RetV w (.int .i64 (check l))) := by
  have hL := h.1
  have hC := h.2.1
  have hS := h.2.2.1
  have Hs := Lib.hid hs
  clear hs
  by_cases h31 : 31 < l.length
  · have H : Hid (check l = 4) := by unfold Hid check; rw [if_pos h31]
    go_enter Tryd.func87, Tryd.ntmps87
    go_wp2_with (fail)
    go_ret
    exact RetV.int H.out.symm (Below.refl _ _)
  have h31b : decide (31 < (l.length : Int)) = false := by simp; omega
  have hlt31 : l.length ≤ 31 := by omega
  have HC : Hid (check l = if (l.any fun x => !x.ok) = true then 1 else if l.length = 0 ∨ endAt l 0 ≠ l.length then 1 else if 8 < depth l then 5 else 0) := by
    unfold Hid check
    rw [if_neg h31]
    by_cases h1 : l.length = 0 ∨ endAt l 0 ≠ l.length <;> by_cases h2 : (l.any fun x => !x.ok) = true <;> simp only [h1, h2, if_true, if_false, ite_self]
  clear h31
  go_enter Tryd.func87, Tryd.ntmps87
  go_wp2_with (fail)
  go_loopw [3] (fun i wr => ∃ k : Nat, k ≤ l.length ∧ i = .int .i64 k ∧ Hid (((l.take k).any fun x => !x.ok) = false) ∧ Below w.heap.size w wr) (fun i _ => l.length - (intOf i).toNat)
  case atStart => exact ⟨0, by omega, rfl, by simp [Hid], Below.refl _ _⟩
  case round =>
    obtain ⟨k, hk, rfl, H, hbl⟩ := hrel
    have hbz := hbl.size
    by_cases hlt : k < l.length
    · obtain ⟨b, off, rfl, hb, hrow⟩ := h.at hlt
      obtain ⟨e0, e1, e2, e3, e4⟩ := (hrow.below hbl hb).node hlt rfl
      have hs1 := Hs.out l[k] (List.getElem_mem hlt)
      clear h
      cases hok : l[k].ok
      · have H1 : Hid (check l = 1) := by
          unfold Hid
          rw [HC.out, if_pos]
          rw [List.any_eq_true]
          exact ⟨l[k], List.getElem_mem hlt, by simp [hok]⟩
        go_wp2_with (go_at_call 140; refine (c_ref10_Node l[k] _ hs1).mono ?_; rintro e w1 ⟨rfl, hb1⟩)
        go_ret
        exact RetV.int H1.out.symm (by repeat (first | exact Below.refl _ _ | refine Below.drew ?_ | refine Below.alloc ?_ (by first | omega | (simp; done) | (simp; omega)) _ | refine Below.setCell ?_ (by first | omega | (simp; done) | (simp; omega)) _ | refine Below.trans ?_ (Below.mono (by assumption) (by first | omega | (simp; done) | (simp; omega)))))
      · go_wp2_with (go_at_call 140; refine (c_ref10_Node l[k] _ hs1).mono ?_; rintro e w1 ⟨rfl, hb1⟩)
        go_roundw
        case rel =>
          refine ⟨k + 1, by omega, by go_num, ?_, (by repeat (first | exact Below.refl _ _ | refine Below.drew ?_ | refine Below.alloc ?_ (by first | omega | (simp; done) | (simp; omega)) _ | refine Below.setCell ?_ (by first | omega | (simp; done) | (simp; omega)) _ | refine Below.trans ?_ (Below.mono (by assumption) (by first | omega | (simp; done) | (simp; omega)))))⟩
          show List.any _ _ = false
          rw [List.take_succ_eq_append_getElem hlt, List.any_append, H.out]
          simp [hok]
        case measure => simp [intOf]; omega
    · have HC2 : Hid (check l = if l.length = 0 ∨ endAt l 0 ≠ l.length then 1 else if 8 < depth l then 5 else 0) := by
        have h1 := H.out
        rw [List.take_of_length_le (by omega)] at h1
        unfold Hid
        rw [HC.out, h1]; simp
      clear H HC
      go_wp2_with (first
        | (go_at_call 141; refine (c_ref10_End l A c 0 _ (h.below hbl)).mono ?_; rintro e w1 ⟨rfl, hb1⟩)
        | (go_at_call 142; refine (c_ref10_Depth l.length l A c _ (Nat.le_refl _) ((h.below hbl).below hb1)).mono ?_; rintro e w3 ⟨rfl, hb3⟩))
      all_goals (go_ret; (try have hz1 := hb1.size); refine RetV.int ?_ (by repeat (first | exact Below.refl _ _ | refine Below.drew ?_ | refine Below.alloc ?_ (by first | omega | (simp; done) | (simp; omega)) _ | refine Below.setCell ?_ (by first | omega | (simp; done) | (simp; omega)) _ | refine Below.trans ?_ (Below.mono (by assumption) (by first | omega | (simp; done) | (simp; omega))))); have HC3 := HC2.out; (try simp only [ne_eq] at *); (simp_all [] <;> first | omega | (intros; omega) | decide | grind))
end Go.Proofs.YtjhndilflcigiaaDoor
namespace Go.Proofs.YtjhndilflcigiaaDoor
open Go.RowKit

def named (op : Int) : Bool := decide (3 ≤ op) && decide (op ≤ 9)
def valued (op : Int) : Bool := decide (6 ≤ op) && decide (op ≤ 9)
/-- A node's bytes, a filter's bytes. -/
def nodeB (x : Node) : List UInt8 := num x.op ++ ((if named x.op then num x.n else []) ++ (if valued x.op then valB x.v else []))
@[irreducible] def putB (l : List Node) : List UInt8 := if check l = 0 then num l.length ++ l.flatMap nodeB else []
theorem putB_bad {l : List Node} (h : check l ≠ 0) : putB l = [] := by unfold putB; rw [if_neg h]
theorem putB_ok {l : List Node} (h : check l = 0) : putB l = num l.length ++ l.flatMap nodeB := by unfold putB; rw [if_pos h]
theorem check_len {l : List Node} (h : check l = 0) : l.length ≤ 31 := by
  unfold check at h
  split at h
  · cases h
  · omega
theorem check_ok {l : List Node} (h : check l = 0) : ∀ x ∈ l, x.ok = true := by
  unfold check at h
  split at h
  · cases h
  · split at h
    · cases h
    · split at h
      · cases h
      · rename_i h3
        intro x hx
        simp only [List.any_eq_true, not_exists, not_and] at h3
        have := h3 x hx
        cases hok : x.ok
        · simp [hok] at this
        · rfl
theorem nodeB_len (x : Node) : (nodeB x).length ≤ 52 := by
  have h1 := num_len x.op
  have h2 := num_len x.n
  have h3 := valB_len x.v
  unfold nodeB
  rw [List.length_append, List.length_append]
  cases named x.op <;> cases valued x.op <;> simp <;> omega
theorem nodes_len : ∀ l : List Node, (l.flatMap nodeB).length ≤ 52 * l.length
  | [] => by simp
  | x :: l => by
    have := nodes_len l
    have := nodeB_len x
    rw [List.flatMap_cons, List.length_append, List.length_cons]; omega
theorem putB_len (l : List Node) : (putB l).length ≤ 1619 := by
  by_cases h : check l = 0
  · have h1 := check_len h
    have h2 := nodes_len l
    have h3 := num_len l.length
    rw [putB_ok h, List.length_append]; omega
  · rw [putB_bad h]; simp
theorem nodeB_A {x : Node} (h1 : named x.op = false) (h2 : valued x.op = false) : nodeB x = num x.op := by unfold nodeB; rw [h1, h2]; simp
theorem nodeB_B {x : Node} (h1 : named x.op = true) (h2 : valued x.op = false) : nodeB x = num x.op ++ num x.n := by unfold nodeB; rw [h1, h2]; simp
theorem nodeB_C {x : Node} (h1 : named x.op = true) (h2 : valued x.op = true) : nodeB x = num x.op ++ (num x.n ++ valB x.v) := by unfold nodeB; rw [h1, h2]; simp
theorem named_cases (op : Int) : (named op = false ∧ valued op = false) ∨ (named op = true ∧ valued op = false) ∨ (named op = true ∧ valued op = true) := by
  unfold named valued
  by_cases h1 : 3 ≤ op <;> by_cases h2 : op ≤ 9 <;> by_cases h3 : 6 ≤ op <;> simp [h1, h2, h3] <;> omega

set_option maxHeartbeats 400000 in
theorem c_predwire_named (op : Int) (w : World) : Calls Tryd.prog 98 #[.int .i64 op] w (RetV w (.bool (named op))) := by
  go_enter Tryd.func98, Tryd.ntmps98
  go_wp2
  all_goals (go_ret; refine RetV.bool ?_ (by repeat (first | exact Below.refl _ _ | refine Below.drew ?_ | refine Below.alloc ?_ (by first | omega | (simp; done) | (simp; omega)) _ | refine Below.setCell ?_ (by first | omega | (simp; done) | (simp; omega)) _ | refine Below.trans ?_ (Below.mono (by assumption) (by first | omega | (simp; done) | (simp; omega))))); simp_all [named]; try omega)
set_option maxHeartbeats 400000 in
theorem c_predwire_valued (op : Int) (w : World) : Calls Tryd.prog 99 #[.int .i64 op] w (RetV w (.bool (valued op))) := by
  go_enter Tryd.func99, Tryd.ntmps99
  go_wp2
  all_goals (go_ret; refine RetV.bool ?_ (by repeat (first | exact Below.refl _ _ | refine Below.drew ?_ | refine Below.alloc ?_ (by first | omega | (simp; done) | (simp; omega)) _ | refine Below.setCell ?_ (by first | omega | (simp; done) | (simp; omega)) _ | refine Below.trans ?_ (Below.mono (by assumption) (by first | omega | (simp; done) | (simp; omega))))); simp_all [valued]; try omega)
set_option maxHeartbeats 1000000 in
set_option maxRecDepth 4000 in
theorem c_predwire_Put (b : List UInt8) (B : Option Addr) (cb : Nat) (l : List Node) (A : Option Addr) (c : Nat) (w : World) (hb : InB w B cb b) (h : InN w A c l) (hbl : b.length ≤ 1000000) (hs : ∀ x ∈ l, x.v.s.length ≤ 4294967000) :
    Calls Tryd.prog 40 #[.slice B b.length cb, .slice A l.length c] w (RetS 1 bc 5 w (b ++ putB l)) := by
  have hL := h.1
  have hC := h.2.1
  have hS := h.2.2.1
  have hL' := hb.1
  have hC' := hb.2.1
  have hs' : ∀ x ∈ l, x.v.s.length ≤ 9223372036854775807 := fun x hx => by have := hs x hx; omega
  have Hs' := Lib.hid hs'
  clear hs'
  by_cases hok : check l = 0
  case neg =>
    have H : Hid (b = b ++ putB l) := by show _ = _; rw [putB_bad hok, List.append_nil]
    have hne : (check l != 0) = true := by simpa using hok
    clear hs hok
    go_enter Tryd.func40, Tryd.ntmps40
    go_wp2_with (first
      | (go_at_call 36; refine (c_Clone_b b B cb _ (hb.below hb1)).mono ?_; rintro e w2 ⟨v2, rfl, own2, hb2⟩)
      | (go_at_call 92; refine (c_pred_Check l A c _ h Hs'.out).mono ?_; rintro e w1 ⟨rfl, hb1⟩; have hz1 := hb1.size))
    go_ret
    exact RetS.of own2 (by omega) H.out (by repeat (first | exact Below.refl _ _ | refine Below.drew ?_ | refine Below.alloc ?_ (by first | omega | (simp; done) | (simp; omega)) _ | refine Below.setCell ?_ (by first | omega | (simp; done) | (simp; omega)) _ | refine Below.trans ?_ (Below.mono (by assumption) (by first | omega | (simp; done) | (simp; omega)))))
  have H : Hid (b ++ num l.length ++ (l.drop 0).flatMap nodeB = b ++ putB l) := by show _ = _; rw [putB_ok hok, List.drop_zero, List.append_assoc]
  have hne : (check l != 0) = false := by simpa using hok
  have hl31 := check_len hok
  have hn1 := (num_len l.length).2
  clear hok
  go_enter Tryd.func40, Tryd.ntmps40
  go_wp2_with (first
    | (go_at_call 37; refine (c_octet_Num b B cb _ _ (hb.below hb1)).mono ?_; rintro e w2 ⟨v2, rfl, own2, hb2⟩; have hz2 := hb2.size; obtain ⟨l2, A2, c2, H2, hl2, rfl, in2, own2'⟩ := own_open bc_len own2 (b.length + 7) (by simp only [List.length_append]; omega) (by omega); clear own2)
    | (go_at_call 92; refine (c_pred_Check l A c _ h Hs'.out).mono ?_; rintro e w1 ⟨rfl, hb1⟩; have hz1 := hb1.size))
  go_loopw [0, 18] (fun v i wr => ∃ (k : Nat) (acc : List UInt8), k ≤ l.length ∧ acc.length ≤ b.length + 7 + k * 52 ∧ i = .int .i64 k ∧ Hid (wr.ownsRow w.heap.size 5 1 v acc.length (acc.flatMap bc)) ∧ Hid (acc ++ (l.drop k).flatMap nodeB = b ++ putB l) ∧ Below w.heap.size w wr)
    (fun _ i _ => l.length - (intOf i).toNat)
  case atStart => exact ⟨0, l2, by omega, by omega, rfl, own_base own2'.out hz1, by show _ = _; rw [H2.out]; exact H.out, (by repeat (first | exact Below.refl _ _ | refine Below.drew ?_ | refine Below.alloc ?_ (by first | omega | (simp; done) | (simp; omega)) _ | refine Below.setCell ?_ (by first | omega | (simp; done) | (simp; omega)) _ | refine Below.trans ?_ (Below.mono (by assumption) (by first | omega | (simp; done) | (simp; omega)))))⟩
  case round =>
    obtain ⟨k, acc, hk, hac, rfl, O, N, hbl'⟩ := hrel
    have hbz := hbl'.size
    have hb1' := Lib.hid hb1
    have hb2' := Lib.hid hb2
    clear hb1 hb2 own2' in2
    by_cases hlt : k < l.length
    · obtain ⟨bl, off, rfl, hbb, hrow⟩ := h.at hlt
      obtain ⟨e0, e1, e2, e3, e4⟩ := (hrow.below hbl' hbb).node hlt rfl
      have hs1 := hs l[k] (List.getElem_mem hlt)
      have hN := N.out
      rw [List.drop_eq_getElem_cons hlt, List.flatMap_cons] at hN
      obtain ⟨A1, c1, rfl, in1⟩ := In.of_own bc_len O.out (by omega)
      clear h hs H N O hb
      rcases named_cases l[k].op with ⟨hnm, hvl⟩ | ⟨hnm, hvl⟩ | ⟨hnm, hvl⟩
      · rw [nodeB_A hnm hvl] at hN
        have HN := Lib.hid hN
        clear hN
        go_wp2_with (first | (go_at_call 37; refine (c_octet_Num acc A1 c1 _ _ (in1.below (by repeat (first | exact Below.refl _ _ | refine Below.drew ?_ | refine Below.alloc ?_ (by first | omega | (simp; done) | (simp; omega)) _ | refine Below.setCell ?_ (by first | omega | (simp; done) | (simp; omega)) _ | refine Below.trans ?_ (Below.mono (by assumption) (by first | omega | (simp; done) | (simp; omega))))))).mono ?_; rintro e w3 ⟨v3, rfl, own3, hb3⟩; have hz3 := hb3.size; simp only [World.size_alloc] at hz3; have q3 := fun o => hb3.cell (p := ⟨wr.heap.size, o, none⟩) (by simp); obtain ⟨l3, A3, c3, H3, hl3, rfl, in3, own3'⟩ := own_open bc_len own3 (acc.length + 7) (by have := (num_len l[k].op).2; simp only [List.length_append]; omega) (by omega); clear own3) | (go_at_call 98; refine (c_predwire_named _ _).mono ?_; rintro e w4 ⟨rfl, hb4⟩; have hz4 := hb4.size; have q4 := fun o => hb4.cell (p := ⟨wr.heap.size, o, none⟩) (by show wr.heap.size < _; omega)) | (go_at_call 99; refine (c_predwire_valued _ _).mono ?_; rintro e w5 ⟨rfl, hb5⟩; have hz5 := hb5.size))
        go_roundw
        case rel => exact ⟨k + 1, l3, by omega, by omega, by go_num, own_below (own_below (own_base own3'.out (by simp only [World.size_alloc]; omega)) hb4) hb5, by show _ = _; rw [H3.out, ← HN.out]; simp, (by repeat (first | exact Below.refl _ _ | refine Below.drew ?_ | refine Below.alloc ?_ (by first | omega | (simp; done) | (simp; omega)) _ | refine Below.setCell ?_ (by first | omega | (simp; done) | (simp; omega)) _ | refine Below.trans ?_ (Below.mono (by assumption) (by first | omega | (simp; done) | (simp; omega)))))⟩
        case measure => simp [intOf]; omega
      · rw [nodeB_B hnm hvl] at hN
        have HN := Lib.hid hN
        clear hN
        go_wp2_with (first | (go_at_call 37; refine (c_octet_Num l3 A3 c3 _ _ (in3.below hb4)).mono ?_; rintro e w6 ⟨v6, rfl, own6, hb6⟩; have hz6 := hb6.size; have q6 := fun o => hb6.cell (p := ⟨wr.heap.size, o, none⟩) (by show wr.heap.size < _; omega); obtain ⟨l6, A6, c6, H6, hl6, rfl, in6, own6'⟩ := own_open bc_len own6 (acc.length + 14) (by have := (num_len l[k].n).2; simp only [List.length_append]; omega) (by omega); clear own6) | (go_at_call 37; refine (c_octet_Num acc A1 c1 _ _ (in1.below (by repeat (first | exact Below.refl _ _ | refine Below.drew ?_ | refine Below.alloc ?_ (by first | omega | (simp; done) | (simp; omega)) _ | refine Below.setCell ?_ (by first | omega | (simp; done) | (simp; omega)) _ | refine Below.trans ?_ (Below.mono (by assumption) (by first | omega | (simp; done) | (simp; omega))))))).mono ?_; rintro e w3 ⟨v3, rfl, own3, hb3⟩; have hz3 := hb3.size; simp only [World.size_alloc] at hz3; have q3 := fun o => hb3.cell (p := ⟨wr.heap.size, o, none⟩) (by simp); obtain ⟨l3, A3, c3, H3, hl3, rfl, in3, own3'⟩ := own_open bc_len own3 (acc.length + 7) (by have := (num_len l[k].op).2; simp only [List.length_append]; omega) (by omega); clear own3) | (go_at_call 98; refine (c_predwire_named _ _).mono ?_; rintro e w4 ⟨rfl, hb4⟩; have hz4 := hb4.size; have q4 := fun o => hb4.cell (p := ⟨wr.heap.size, o, none⟩) (by show wr.heap.size < _; omega)) | (go_at_call 99; refine (c_predwire_valued _ _).mono ?_; rintro e w7 ⟨rfl, hb7⟩; have hz7 := hb7.size; have q7 := fun o => hb7.cell (p := ⟨wr.heap.size, o, none⟩) (by show wr.heap.size < _; omega)))
        go_roundw
        case rel => exact ⟨k + 1, l6, by omega, by omega, by go_num, own_below (own_base own6'.out (by omega)) hb7, by show _ = _; rw [H6.out, H3.out, ← HN.out]; simp, (by repeat (first | exact Below.refl _ _ | refine Below.drew ?_ | refine Below.alloc ?_ (by first | omega | (simp; done) | (simp; omega)) _ | refine Below.setCell ?_ (by first | omega | (simp; done) | (simp; omega)) _ | refine Below.trans ?_ (Below.mono (by assumption) (by first | omega | (simp; done) | (simp; omega)))))⟩
        case measure => simp [intOf]; omega
      · rw [nodeB_C hnm hvl] at hN
        have HN := Lib.hid hN
        clear hN
        go_wp2_with (first | (go_at_call 97; refine (c_cardwire_PutValue l6 A6 c6 l[k].v _ (in6.below hb7) (by omega) hs1).mono ?_; rintro e w8 ⟨v8, rfl, own8, hb8⟩; have hz8 := hb8.size; obtain ⟨l8, A8, c8, H8, hl8, rfl, in8, own8'⟩ := own_open bc_len own8 (acc.length + 52) (by have := valB_len l[k].v; simp only [List.length_append]; omega) (by omega); clear own8) | (go_at_call 37; refine (c_octet_Num l3 A3 c3 _ _ (in3.below hb4)).mono ?_; rintro e w6 ⟨v6, rfl, own6, hb6⟩; have hz6 := hb6.size; have q6 := fun o => hb6.cell (p := ⟨wr.heap.size, o, none⟩) (by show wr.heap.size < _; omega); obtain ⟨l6, A6, c6, H6, hl6, rfl, in6, own6'⟩ := own_open bc_len own6 (acc.length + 14) (by have := (num_len l[k].n).2; simp only [List.length_append]; omega) (by omega); clear own6) | (go_at_call 37; refine (c_octet_Num acc A1 c1 _ _ (in1.below (by repeat (first | exact Below.refl _ _ | refine Below.drew ?_ | refine Below.alloc ?_ (by first | omega | (simp; done) | (simp; omega)) _ | refine Below.setCell ?_ (by first | omega | (simp; done) | (simp; omega)) _ | refine Below.trans ?_ (Below.mono (by assumption) (by first | omega | (simp; done) | (simp; omega))))))).mono ?_; rintro e w3 ⟨v3, rfl, own3, hb3⟩; have hz3 := hb3.size; simp only [World.size_alloc] at hz3; have q3 := fun o => hb3.cell (p := ⟨wr.heap.size, o, none⟩) (by simp); obtain ⟨l3, A3, c3, H3, hl3, rfl, in3, own3'⟩ := own_open bc_len own3 (acc.length + 7) (by have := (num_len l[k].op).2; simp only [List.length_append]; omega) (by omega); clear own3) | (go_at_call 98; refine (c_predwire_named _ _).mono ?_; rintro e w4 ⟨rfl, hb4⟩; have hz4 := hb4.size; have q4 := fun o => hb4.cell (p := ⟨wr.heap.size, o, none⟩) (by show wr.heap.size < _; omega)) | (go_at_call 99; refine (c_predwire_valued _ _).mono ?_; rintro e w7 ⟨rfl, hb7⟩; have hz7 := hb7.size; have q7 := fun o => hb7.cell (p := ⟨wr.heap.size, o, none⟩) (by show wr.heap.size < _; omega)))
        go_roundw
        case rel => exact ⟨k + 1, l8, by omega, by omega, by go_num, own_base own8'.out (by omega), by show _ = _; rw [H8.out, H6.out, H3.out, ← HN.out]; simp, (by repeat (first | exact Below.refl _ _ | refine Below.drew ?_ | refine Below.alloc ?_ (by first | omega | (simp; done) | (simp; omega)) _ | refine Below.setCell ?_ (by first | omega | (simp; done) | (simp; omega)) _ | refine Below.trans ?_ (Below.mono (by assumption) (by first | omega | (simp; done) | (simp; omega)))))⟩
        case measure => simp [intOf]; omega
    · have hN := N.out
      rw [List.drop_of_length_le (by omega)] at hN
      have HN := Lib.hid hN
      obtain ⟨A1, c1, rfl, _, _⟩ := own_form O.out
      clear hN N H
      go_wp2_with (fail)
      go_ret
      exact RetS.of O.out (by omega) (by rw [← HN.out]; simp) hbl'
end Go.Proofs.YtjhndilflcigiaaDoor
