/-
  Lemmas (walks and plain laws), in one text.
-/
import Derived.Test.YtjhndilflcigiaaPc16
import Derived.Test.YtjhndilflcigiaaRows
import Derived.WalkKit
import Derived.WalkSpells
import Derived.WalkLawsBesides
import Derived.Lib.Hide
import Derived.Deep.QuietTactic
import Derived.BigQuiet
import Derived.Maps.AppendAt
import Derived.WalkSmall
import Derived.ProofKit
import Derived.OpenShut
import Derived.JoinedCond
import Derived.Deep.Slices
import Derived.Deep.Fields
import Derived.Carry
import Derived.Test.YtjhndilflcigiaaProg
import Derived.Deep.CutBlock
import Derived.Deep.DeepCutAuto
import Derived.Deep.AppendSrc
import Derived.Lib.AppendStr
import Derived.Laws.BytesArg
import Derived.Laws.CopyOwn
import Derived.Outline
import Derived.IntWalk
import Derived.Lib.EndianBits
import Derived.Laws.Tables
import Derived.Laws.Rows
import Derived.Shelf.Spec.TrailingZeros
import Derived.StillTail
import Derived.Lib.AppendZeros
import Derived.Deep.Quiet
import Derived.ChangeKeysEq
import Derived.Laws.StructEq
import Derived.Laws.LoneSync
namespace Go.Proofs.Ytjhndilflcigiaa
open Go.RowKit

theorem rows_eq_len {l m : List LR} (h : rowsOf l = rowsOf m) : l.length = m.length := by have := congrArg List.length h; simpa [rowsOf] using this
theorem rows_eq_at {l m : List LR} (h : rowsOf l = rowsOf m) {k : Nat} (hk : k < l.length) (hm : k < m.length) : l[k].1 = m[k].1 := by
  have := congrArg (fun r => r[k]?) h
  simpa [rowsOf, hk, hm] using this
set_option maxHeartbeats 4000000 in
set_option maxRecDepth 4000 in
theorem c_ref30_Rows (l m : List LR) (A B : Option Addr) (c d : Nat) (w : World) (hl : InRw w A c l) (hm : InRw w B d m) (he : rowsOf l = rowsOf m) :
    Calls Try.prog 26 #[.slice A l.length c, .slice B l.length d] w (RetV w (.bool true)) := by
  have hlen := rows_eq_len he
  obtain ⟨n, hn⟩ : ∃ n, n = l.length := ⟨_, rfl⟩
  have hL : n ≤ c := by rw [hn]; exact hl.1.1
  have hC := hl.1.2.1
  have hS : n ≤ 4294967296 := by rw [hn]; exact hl.1.2.2.1
  have hL' : n ≤ d := by rw [hn, hlen]; exact hm.1.1
  have hC' := hm.1.2.1
  have HNL := Lib.hid hn
  rw [← hn]
  have HL := Lib.hid hl
  have HM := Lib.hid hm
  have HE := Lib.hid he
  have HN := Lib.hid hlen
  clear hl hm he hlen hn
  go_enter Try.func26, Try.ntmps26
  go_wp2_with (fail)
  go_loopw [5] (fun i wr => ∃ k : Nat, k ≤ n ∧ i = .int .i64 k ∧ Hid (Below w.heap.size w wr))
    (fun i _ => n - (intOf i).toNat)
  case atStart => exact ⟨0, by omega, rfl, Below.refl _ _⟩
  case round =>
    obtain ⟨k, hk, rfl, B1⟩ := hrel
    by_cases hlt : k < n
    · have hd : decide (k < n) = true := by simpa using hlt
      have HLT := Lib.hid hlt
      have hkl : k < l.length := by rw [← HNL.out]; exact hlt
      have hkm : k < m.length := by rw [← HN.out]; exact hkl
      have L1 := Lib.hid (HL.out.below B1.out)
      have M1 := Lib.hid (HM.out.below B1.out)
      obtain ⟨b, off, rfl, RX⟩ := L1.out.row hkl
      obtain ⟨b', off', rfl, RY⟩ := M1.out.row hkm
      obtain ⟨x, hx⟩ : ∃ x, x = l[k] := ⟨_, rfl⟩
      obtain ⟨y, hy⟩ : ∃ y, y = m[k]'hkm := ⟨_, rfl⟩
      have hxy : x.1 = y.1 := by rw [hx, hy]; exact rows_eq_at HE.out hkl hkm
      replace RX : RowAt wr b (off + k * 12) x := by rw [hx]; exact RX
      replace RY : RowAt wr b' (off' + k * 12) y := by rw [hy]; exact RY
      have gx : InN wr x.2.1 x.2.2 x.1.a.f := by rw [hx]; exact L1.out.2 _ (List.getElem_mem hkl)
      have gy : InN wr y.2.1 y.2.2 y.1.a.f := by rw [hy]; exact M1.out.2 _ (List.getElem_mem hkm)
      obtain ⟨x0, xA, xc⟩ := x
      obtain ⟨y0, yA, yc⟩ := y
      simp only at hxy
      subst hxy
      have HX := Lib.hid RX
      have HY := Lib.hid RY
      have FX := Lib.hid gx
      have FY := Lib.hid gy
      clear gx gy hx hy hkl hkm
      clear RX RY hlt
      go_wp2_with (fail)
      refine wp_region_rel [Sp.eq (.slice (some ⟨b, off, none⟩) n c), Sp.eq (.int .i64 k), Sp.eq (.pointer (some ⟨b, off + k * 12, none⟩)), Sp.eq (.pointer (some ⟨b, off + k * 12, none⟩)), Sp.eq (.int .i64 x0.last), Sp.eq (.slice (some ⟨b', off', none⟩) n d), Sp.eq (.int .i64 k), Sp.eq (.pointer (some ⟨b', off' + k * 12, none⟩)), Sp.eq (.pointer (some ⟨b', off' + k * 12, none⟩)), Sp.eq (.int .i64 x0.last), Sp.eq (.bool false), Sp.eq (.bool false), Sp.eq (.slice (some ⟨b, off, none⟩) n c), Sp.eq (.int .i64 k), Sp.eq (.pointer (some ⟨b, off + k * 12, none⟩)), Sp.eq (.pointer (some ⟨b, off + k * 12 + 1, none⟩)), Sp.eq (.int .i64 x0.ep), Sp.eq (.slice (some ⟨b', off', none⟩) n d), Sp.eq (.int .i64 k), Sp.eq (.pointer (some ⟨b', off' + k * 12, none⟩)), Sp.eq (.pointer (some ⟨b', off' + k * 12 + 1, none⟩)), Sp.eq (.int .i64 x0.ep), Sp.eq (.bool false), Sp.eq (.bool false), Sp.eq (.bool false), Sp.eq (.slice (some ⟨b, off, none⟩) n c), Sp.eq (.int .i64 k), Sp.eq (.pointer (some ⟨b, off + k * 12, none⟩)), Sp.eq (.pointer (some ⟨b, off + k * 12 + 2, none⟩)), Sp.eq (.agg (x0.a.arr xA xc)), Sp.eq (.slice (some ⟨b', off', none⟩) n d), Sp.eq (.int .i64 k), Sp.eq (.pointer (some ⟨b', off' + k * 12, none⟩)), Sp.eq (.pointer (some ⟨b', off' + k * 12 + 2, none⟩)), Sp.eq (.agg (x0.a.arr yA yc)), Sp.eq (.bool true), Sp.eq (.bool false), Sp.eq (.bool false)] 55 (by kernel_rfl) (by kernel_rfl) rfl rfl ?_ ?_
      · refine ⟨?_, ?_, ?_, ?_, ?_, ?_, ?_, ?_, ?_, ?_, ?_, ?_, ?_, ?_, ?_, ?_, ?_, ?_, ?_, ?_, ?_, ?_, ?_, ?_, ?_, ?_, ?_, ?_, ?_, ?_, ?_, ?_, ?_, ?_, ?_, ?_, ?_, ?_, trivial⟩
        all_goals (intro u W2 hb2 hd; simp [Deps, Region.binds, Sp.eq_holds] at hd; simp only [putDeps, dstOf, Region.binds])
        case refine_1 =>
          go_wp2_with (fail); exact RelEnd.mk rfl (Below.refl _ _) rfl
        case refine_2 =>
          go_wp2_with (fail); exact RelEnd.mk rfl (Below.refl _ _) rfl
        case refine_3 =>
          go_wp2_with (fail); exact RelEnd.mk rfl (Below.refl _ _) rfl
        case refine_4 =>
          go_wp2_with (fail); exact RelEnd.mk rfl (Below.refl _ _) rfl
        case refine_5 =>
          have q : World.cell? W2 ⟨b, off + k * 12, none⟩ = some (.int .i64 x0.last) := (HX.out.2 _ hb2).1
          go_wp2_with (fail); exact RelEnd.mk rfl (Below.refl _ _) rfl
        case refine_6 =>
          go_wp2_with (fail); exact RelEnd.mk rfl (Below.refl _ _) rfl
        case refine_7 =>
          go_wp2_with (fail); exact RelEnd.mk rfl (Below.refl _ _) rfl
        case refine_8 =>
          go_wp2_with (fail); exact RelEnd.mk rfl (Below.refl _ _) rfl
        case refine_9 =>
          go_wp2_with (fail); exact RelEnd.mk rfl (Below.refl _ _) rfl
        case refine_10 =>
          have q : World.cell? W2 ⟨b', off' + k * 12, none⟩ = some (.int .i64 x0.last) := (HY.out.2 _ hb2).1
          go_wp2_with (fail); exact RelEnd.mk rfl (Below.refl _ _) rfl
        case refine_11 =>
          go_wp2_with (fail); exact RelEnd.mk rfl (Below.refl _ _) rfl
        case refine_12 =>
          go_wp2_with (fail); exact RelEnd.mk rfl (Below.refl _ _) rfl
        case refine_13 =>
          go_wp2_with (fail); exact RelEnd.mk rfl (Below.refl _ _) rfl
        case refine_14 =>
          go_wp2_with (fail); exact RelEnd.mk rfl (Below.refl _ _) rfl
        case refine_15 =>
          go_wp2_with (fail); exact RelEnd.mk rfl (Below.refl _ _) rfl
        case refine_16 =>
          go_wp2_with (fail); exact RelEnd.mk rfl (Below.refl _ _) rfl
        case refine_17 =>
          have q : World.cell? W2 ⟨b, off + k * 12 + 1, none⟩ = some (.int .i64 x0.ep) := (HX.out.2 _ hb2).2.1
          go_wp2_with (fail); exact RelEnd.mk rfl (Below.refl _ _) rfl
        case refine_18 =>
          go_wp2_with (fail); exact RelEnd.mk rfl (Below.refl _ _) rfl
        case refine_19 =>
          go_wp2_with (fail); exact RelEnd.mk rfl (Below.refl _ _) rfl
        case refine_20 =>
          go_wp2_with (fail); exact RelEnd.mk rfl (Below.refl _ _) rfl
        case refine_21 =>
          go_wp2_with (fail); exact RelEnd.mk rfl (Below.refl _ _) rfl
        case refine_22 =>
          have q : World.cell? W2 ⟨b', off' + k * 12 + 1, none⟩ = some (.int .i64 x0.ep) := (HY.out.2 _ hb2).2.1
          go_wp2_with (fail); exact RelEnd.mk rfl (Below.refl _ _) rfl
        case refine_23 =>
          go_wp2_with (fail); exact RelEnd.mk rfl (Below.refl _ _) rfl
        case refine_24 =>
          go_wp2_with (fail); exact RelEnd.mk rfl (Below.refl _ _) rfl
        case refine_25 =>
          go_wp2_with (fail); exact RelEnd.mk rfl (Below.refl _ _) rfl
        case refine_26 =>
          go_wp2_with (fail); exact RelEnd.mk rfl (Below.refl _ _) rfl
        case refine_27 =>
          go_wp2_with (fail); exact RelEnd.mk rfl (Below.refl _ _) rfl
        case refine_28 =>
          go_wp2_with (fail); exact RelEnd.mk rfl (Below.refl _ _) rfl
        case refine_29 =>
          go_wp2_with (fail); exact RelEnd.mk rfl (Below.refl _ _) rfl
        case refine_30 =>
          go_wp2_with (with_reducible refine stop_loadG 47 _ rfl ?_)
          refine Stop.mk (wpList_loadAtG (by simp [Region.wanted, yielded]) _ _ rfl b (off + k * 12 + 2) rfl (x0.a.arr xA xc) ((HX.out.2 _ hb2).2.2) strRp (rfl) ?_)
          go_wp2_with (fail); exact RelEnd.mk rfl (Below.refl _ _) rfl
        case refine_31 =>
          go_wp2_with (fail); exact RelEnd.mk rfl (Below.refl _ _) rfl
        case refine_32 =>
          go_wp2_with (fail); exact RelEnd.mk rfl (Below.refl _ _) rfl
        case refine_33 =>
          go_wp2_with (fail); exact RelEnd.mk rfl (Below.refl _ _) rfl
        case refine_34 =>
          go_wp2_with (fail); exact RelEnd.mk rfl (Below.refl _ _) rfl
        case refine_35 =>
          go_wp2_with (with_reducible refine stop_loadG 47 _ rfl ?_)
          refine Stop.mk (wpList_loadAtG (by simp [Region.wanted, yielded]) _ _ rfl b' (off' + k * 12 + 2) rfl (x0.a.arr yA yc) ((HY.out.2 _ hb2).2.2) strRp (rfl) ?_)
          go_wp2_with (fail); exact RelEnd.mk rfl (Below.refl _ _) rfl
        case refine_36 =>
          go_wp2_with (go_at_call 21; refine (c_ref30_Same x0.a x0.a xA yA xc yc _ (FX.out.below hb2) (FY.out.below hb2)).mono ?_; rintro e3 W3 ⟨rfl, hb3⟩)
          first | exact RelEnd.mk rfl hb3 rfl | (rw [decide_eq_true (rfl : x0.a = x0.a)]; exact RelEnd.mk rfl hb3 rfl)
        case refine_37 =>
          go_wp2_with (fail); exact RelEnd.mk rfl (Below.refl _ _) rfl
        case refine_38 =>
          go_wp2_with (fail); exact RelEnd.mk rfl (Below.refl _ _) rfl
      · intro u W2 hb2 hold
        simp only [RelHold, Sp.eq_holds, Nat.reduceAdd] at hold
        obtain ⟨-, -, -, -, -, -, -, -, -, -, -, -, -, -, -, -, -, -, -, -, -, -, -, -, -, -, -, -, -, -, -, -, -, -, -, -, -, hE, -⟩ := hold
        simp only [putAll, Act.put, Nat.reduceAdd, List.setIfInBounds_toArray, List.set_cons_zero, List.set_cons_succ]
        rw [hE]
        have B2 := Lib.hid (B1.out.trans (hb2.mono B1.out.size))
        have h4 : k < n := HLT.out
        clear hb2 HX HY FX FY L1 M1
        go_wp2_with (fail)
        go_roundw
        case rel => exact ⟨k + 1, by omega, by go_num, B2.out⟩
        case measure => simp [intOf]; omega
    · have hd : decide (k < n) = false := by simpa using hlt
      clear hlt
      go_wp2_with (fail)
      go_ret
      exact RetV.bool rfl B1.out
end Go.Proofs.Ytjhndilflcigiaa
namespace Go.Proofs.Ytjhndilflcigiaa
open Go.RowKit

abbrev lz : List LR := List.replicate 6 (⟨0, 0, rz⟩, none, 0)
theorem Lg.new {w : World} {g : Nat} (h : Blk w g (lgArr lz)) : Lg w g lz := ⟨rfl, h, fun x hx => by
  have := List.eq_of_mem_replicate hx
  subst this
  exact ⟨In.nil (by decide), .inl rfl⟩⟩
abbrev a30 : Rep := ⟨4, 0, 3, 0, 0, 0, 9, 0, [], 0⟩
abbrev r30 : List LRow := noteL (rowsOf lz) a30
theorem a30_ok : noteOk (rowsOf lz) a30 = true := by decide +kernel
theorem a30_1 : askE r30 0 2 = 13 := by decide +kernel
theorem a30_2 : askE r30 0 3 = 7 := by decide +kernel
theorem a30_3 : askE r30 0 4 = 0 := by decide +kernel
theorem a30_4 : askA r30 0 3 = a30 := by decide +kernel
set_option maxHeartbeats 2000000 in
set_option maxRecDepth 4000 in
theorem c_law30_awake (w : World) : Calls Try.prog 17 #[] w (RetV w (.bool true)) := by
  go_enter Try.func17, Try.ntmps17
  go_wp2_with (fail)
  refine (c_ledger_New _).mono ?_
  rintro e w1 ⟨rfl, bg, hb1⟩
  have L1 := Lib.hid (Lg.new bg)
  have H1 := Lib.hid hb1
  have hg1 := bg.lt
  obtain ⟨g, hg⟩ : ∃ g, g = w.heap.size := ⟨_, rfl⟩
  rw [← hg] at L1 hg1 ⊢
  have HG := Lib.hid hg
  clear bg hb1 hg
  go_wp2_with (with_reducible refine stop_store 47 (.tmp 2) (.tmp 11) rfl rfl ?_)
  refine Stop.mk (wpList_storeB rfl _ _ _ rfl w1.heap.size (a30.arr none 0) rfl rfl _ (Blk.new _ _ _) strRp rfl rfl (by simp [Value.oneCell']) ?_)
  intro w2 hb2 hk2
  have hB2 := fresh_below hk2
  have L2 := Lib.hid (L1.out.below hB2)
  have H2 := Lib.hid (H1.out.trans (hB2.mono H1.out.size))
  have B2 := Lib.hid hb2
  obtain ⟨p, hp⟩ : ∃ p, p = w1.heap.size := ⟨_, rfl⟩
  have hgp : g < p := by rw [hp]; exact hg1
  rw [← hp] at B2 ⊢
  clear hb2 hk2 hB2 L1 H1 hg1 hp
  go_wp2_with (with_reducible refine stop_load 47 (.tmp 2) rfl rfl ?_)
  refine Stop.mk (wpList_loadB rfl _ _ rfl p rfl _ B2.out strRp rfl ?_)
  go_wp2_with (fail)
  refine (c_ledger_Note g lz a30 none 0 _ L2.out (In.nil (by omega)) (by simp) (by decide) (by simp)).mono ?_
  rintro e w3 ⟨rfl, hk3, l3, hl3, hr3, -⟩
  rw [a30_ok]
  have L3 := Lib.hid hl3
  have R3 := Lib.hid hr3
  have H3 := Lib.hid (H2.out.trans (hk3.oneB H2.out.size (by have := HG.out; omega)))
  have B3 := Lib.hid (B2.out.kept hk3 B2.out.lt (by simp; omega))
  clear hk3 hl3 hr3 L2 H2 B2
  have ask := fun (req : Int) (w' : World) (h : Lg w' g l3) => c_ledger_Ask g l3 0 req w' h
  have HA := Lib.hid ask
  clear ask
  go_wp2_with (fail)
  refine (HA.out 2 _ L3.out).mono ?_
  rintro e w4 ⟨A4, c4, rfl, -, hb4⟩
  rw [R3.out, a30_1]
  go_wp2_with (with_reducible refine stop_store 47 (.tmp 4) (.tmp 18) rfl rfl ?_)
  refine Stop.mk (wpList_storeB rfl _ _ _ rfl w4.heap.size _ rfl rfl _ (Blk.new _ _ _) strRp rfl rfl (by simp [Value.oneCell']) ?_)
  intro w5 hb5 hk5
  have hB5 := hb4.trans ((fresh_below hk5).mono hb4.size)
  have L5 := Lib.hid (L3.out.below hB5)
  have H5 := Lib.hid (H3.out.trans (hB5.mono H3.out.size))
  have B5 := Lib.hid (B3.out.below hB5 B3.out.lt)
  clear hb4 hb5 hk5 hB5 L3 H3 B3
  go_wp2_with (fail)
  refine (HA.out 3 _ L5.out).mono ?_
  rintro e w6 ⟨A6, c6, rfl, own6, hb6⟩
  rw [R3.out, a30_2]
  rw [R3.out, a30_4] at own6
  rw [a30_4]
  go_wp2_with (with_reducible refine stop_store 47 (.tmp 6) (.tmp 23) rfl rfl ?_)
  refine Stop.mk (wpList_storeB rfl _ _ _ rfl w6.heap.size _ rfl rfl _ (Blk.new _ _ _) strRp rfl rfl (by simp [Value.oneCell']) ?_)
  intro w7 hb7 hk7
  have hB7 := hb6.trans ((fresh_below hk7).mono hb6.size)
  have L7 := Lib.hid (L5.out.below hB7)
  have H7 := Lib.hid (H5.out.trans (hB7.mono H5.out.size))
  have B7 := Lib.hid (B5.out.below hB7 B5.out.lt)
  have C7 := Lib.hid (show Blk w7 w6.heap.size (a30.arr A6 c6) from hb7)
  clear hb6 hb7 hk7 hB7 L5 H5 B5
  obtain ⟨q, hq⟩ : ∃ q, q = w6.heap.size := ⟨_, rfl⟩
  rw [← hq] at C7 ⊢
  clear hq
  go_wp2_with (fail)
  refine (HA.out 4 _ L7.out).mono ?_
  rintro e w8 ⟨A8, c8, rfl, -, hb8⟩
  rw [R3.out, a30_3]
  go_wp2_with (with_reducible refine stop_store 47 (.tmp 8) (.tmp 28) rfl rfl ?_)
  refine Stop.mk (wpList_storeB rfl _ _ _ rfl w8.heap.size _ rfl rfl _ (Blk.new _ _ _) strRp rfl rfl (by simp [Value.oneCell']) ?_)
  intro w9 hb9 hk9
  have hB9 := hb8.trans ((fresh_below hk9).mono hb8.size)
  have H9 := Lib.hid (H7.out.trans (hB9.mono H7.out.size))
  have B9 := Lib.hid (B7.out.below hB9 B7.out.lt)
  have C9 := Lib.hid (C7.out.below hB9 C7.out.lt)
  clear hb8 hb9 hk9 hB9 L7 H7 B7 C7
  go_wp2_with (with_reducible refine stop_loadG 47 (.tmp 6) rfl ?_)
  refine Stop.mk (wpList_loadAtG (by rfl) _ _ rfl q 0 rfl (a30.arr A6 c6) C9.out.all strRp rfl ?_)
  go_wp2_with (with_reducible refine stop_loadG 47 (.tmp 2) rfl ?_)
  refine Stop.mk (wpList_loadAtG (by rfl) _ _ rfl p 0 rfl (a30.arr none 0) B9.out.all strRp rfl ?_)
  go_wp2_with (fail)
  refine (c_ref30_Same a30 a30 A6 none c6 0 _ ?_ (In.nil (by omega))).mono ?_
  · exact In.nil (by
      have := own_form own6
      obtain ⟨_, _, hv, _, hc⟩ := this
      injection hv with _ _ hcc
      omega)
  rintro e w10 ⟨rfl, hb10⟩
  rw [decide_eq_true (rfl : a30 = a30)]
  go_wp2_with (fail)
  go_ret
  exact RetV.bool rfl (H9.out.trans (hb10.mono H9.out.size))
end Go.Proofs.Ytjhndilflcigiaa
namespace Go.Proofs.Ytjhndilflcigiaa
open Go.RowKit

theorem In.own3R {α : Type} {k : Nat} {cs : α → List Value} {w : World} {base : Nat} {e : TypeId} {A : Option Addr} {c : Nat} {l : List α} (hk : ∀ x, (cs x).length = k) (h : w.ownsRow base e k (.slice A l.length c) l.length (l.flatMap cs)) (hs : l.length ≤ 4294967296) : In k cs w A c l := by
  obtain ⟨A', c', hv, hin⟩ := In.of_own hk h hs
  injection hv with e1 _ e2
  subst e1 e2
  exact hin
/-- An act: its kind, an answer. -/
structure Dl where
  kind : Int
  a : Rep
abbrev DL := Dl × Option Addr × Nat
def DL.cells (x : DL) : List Value := [.int .i64 x.1.kind] ++ (x.1.a.arr x.2.1 x.2.2).toList
theorem DL.cells_len (x : DL) : (DL.cells x).length = 11 := rfl
/-- A filter that came in, of whatever length. -/
structure Flt (w : World) (A : Option Addr) (c : Nat) (f : List Node) : Prop where
  big : ∀ w', Below w.heap.size w w' → Calls Try.prog 16 #[.slice A f.length c] w' (RetV w' (.bool (large f)))
  inn : large f = false → InN w A c f
  shs : large f = false → ∀ x ∈ f, x.v.s.length ≤ 4294967000
theorem Flt.len {w : World} {A : Option Addr} {c : Nat} {f : List Node} (_ : Flt w A c f) (h : large f = false) : f.length ≤ 1000000 := by have := (large_short h).1; omega
structure InD (w : World) (A : Option Addr) (c : Nat) (l : List DL) : Prop where
  le : l.length ≤ c
  cap : c ≤ 9223372036854775807
  row : l = [] ∨ ∃ b off, A = some ⟨b, off, none⟩ ∧ b < w.heap.size ∧ Row 11 DL.cells w b off l
  flt : ∀ x ∈ l, Flt w x.2.1 x.2.2 x.1.a.f
  msk : ∀ x ∈ l, x.1.a.mask < 4294967296
/-- Where an act lies, and what its cells are. -/
def ActAt (w : World) (b o : Nat) (x : DL) : Prop := b < w.heap.size ∧ ∀ w', Below w.heap.size w w' → w'.cell? ⟨b, o, none⟩ = some (.int .i64 x.1.kind) ∧ ∀ j u, (x.1.a.arr x.2.1 x.2.2)[j]? = some u → w'.cell? ⟨b, o + 1 + j, none⟩ = some u
theorem InD.at {w : World} {A : Option Addr} {c : Nat} {l : List DL} (h : InD w A c l) {k : Nat} (hk : k < l.length) : ∃ b off, A = some ⟨b, off, none⟩ ∧ ActAt w b (off + k * 11) l[k] := by
  rcases h.row with h0 | ⟨b, off, hA, hb, hrow⟩
  · subst h0; simp at hk
  · refine ⟨b, off, hA, hb, fun w' hw => ?_⟩
    have hr := hrow.below hw hb
    refine ⟨hr k hk 0 _ rfl, fun j u hu => ?_⟩
    have := hr k hk (1 + j) u (by
      unfold DL.cells
      rw [List.getElem?_append_right (by simp)]
      simpa using hu)
    rwa [show off + k * 11 + (1 + j) = off + k * 11 + 1 + j by omega] at this
theorem In.off {α : Type} {k : Nat} {cs : α → List Value} {A : Option Addr} {c : Nat} {f : List α} {w : World} {g : Nat} (h : In k cs w A c f) (hg : w.heap.size ≤ g) : Off g A f := by
  rcases h.2.2.2 with h0 | ⟨b, off, rfl, hb, hr⟩
  · exact .inl h0
  · right; intro ad had; injection had with had; rw [← had]; show b ≠ g; omega
/-- The program's ledger and the reference's rows, side by side. -/
structure LP (w wr : World) (g : Nat) (lg lm : List LR) (A : Option Addr) (c : Nat) : Prop where
  below : Below w.heap.size w wr
  og : w.heap.size ≤ g
  L : Lg wr g lg
  M : InRw wr A c lm
  off : OffRw g A lm
  eq : rowsOf lg = rowsOf lm
  pos : ∀ x ∈ rowsOf lg, 0 ≤ x.ep
  fit : ∀ x ∈ rowsOf lg, x.a.f.length ≤ 1000000
theorem rowAt_mem {l : List LRow} {d : Int} (p : LRow → Prop) (h : ∀ x ∈ l, p x) (h0 : p ⟨0, 0, rz⟩) : p (rowAt l d) := by
  unfold rowAt
  rw [List.getD_eq_getElem?_getD]
  cases hx : l[d.toNat]? with
  | none => exact h0
  | some x => exact h x (List.mem_of_getElem? hx)
theorem noteL_all {l : List LRow} {a : Rep} (p : LRow → Prop) (h : ∀ x ∈ l, p x) (hn : p ⟨a.req, (rowAt l a.dev).ep, a⟩) : ∀ x ∈ noteL l a, p x := by
  unfold noteL
  split
  · intro x hx
    rcases List.mem_or_eq_of_mem_set hx with hx | rfl
    · exact h x hx
    · exact hn
  · exact h
section
variable {w wr w1 w2 : World} {g : Nat} {lg lm lg' lm' : List LR} {A A' : Option Addr} {c c' : Nat}
theorem LP.step (h : LP w wr g lg lm A c) (hb : Below wr.heap.size wr w1) : LP w w1 g lg lm A c :=
  ⟨h.below.trans (hb.mono h.below.size), h.og, h.L.below hb, h.M.below hb, h.off, h.eq, h.pos, h.fit⟩
theorem LP.len (h : LP w wr g lg lm A c) : lm.length = 6 := by rw [← rows_eq_len h.eq]; exact h.L.1
theorem LP.turn (h : LP w wr g lg lm A c) (hb : Below wr.heap.size wr w1) (hM : InRw w1 A' c' lm') (ho : OffRw g A' lm') (hk : Kept (some g) w1.heap.size w1 w2) (hL : Lg w2 g lg') (he : rowsOf lg' = rowsOf lm')
    (hp : ∀ x ∈ rowsOf lg', 0 ≤ x.ep) (hf : ∀ x ∈ rowsOf lg', x.a.f.length ≤ 1000000) : LP w w2 g lg' lm' A' c' :=
  have h1 := h.below.trans (hb.mono h.below.size)
  ⟨h1.trans (hk.oneB h1.size h.og), h.og, hL, hM.off_store ho hk, ho, he, hp, hf⟩
theorem LP.note (h : LP w wr g lg lm A c) {a : Rep} (hfl : a.f.length ≤ 1000000) (hb : Below wr.heap.size wr w1) (hM : InRw w1 A' c' lm') (r1 : rowsOf lm' = noteL (rowsOf lm) a) (ho : OffRw g A' lm') (hk : Kept (some g) w1.heap.size w1 w2) (hL : Lg w2 g lg') (r2 : rowsOf lg' = noteL (rowsOf lg) a) : LP w w2 g lg' lm' A' c' :=
  h.turn hb hM ho hk hL (by rw [r1, r2, h.eq]) (by rw [r2]; exact noteL_all (fun x => 0 ≤ x.ep) h.pos (rowAt_mem (fun x => 0 ≤ x.ep) h.pos (by simp))) (by rw [r2]; exact noteL_all (fun x => x.a.f.length ≤ 1000000) h.fit hfl)
/-- .. and the blocks of a round's own. -/
def LS (w wr : World) (g : Nat) (lg lm : List LR) (A : Option Addr) (c : Nat) (bl : List (Nat × Array Value)) : Prop := LP w wr g lg lm A c ∧ ∀ x ∈ bl, g < x.1 ∧ Blk wr x.1 x.2
variable {bl : List (Nat × Array Value)}
theorem LS.step (h : LS w wr g lg lm A c bl) (hb : Below wr.heap.size wr w1) : LS w w1 g lg lm A c bl := ⟨h.1.step hb, fun x hx => ⟨(h.2 x hx).1, (h.2 x hx).2.below hb (h.2 x hx).2.lt⟩⟩
theorem LS.new (h : LS w wr g lg lm A c bl) {cs : Array Value} {o : Obj} (B : Blk w1 wr.heap.size cs) (k : Kept (some wr.heap.size) (wr.alloc o).heap.size (wr.alloc o) w1) : LS w w1 g lg lm A c ((wr.heap.size, cs) :: bl) := by
  have h1 := h.step (fresh_below k)
  refine ⟨h1.1, fun x hx => ?_⟩
  rcases List.mem_cons.1 hx with rfl | hx
  · exact ⟨h.1.L.2.1.lt, B⟩
  · exact h1.2 x hx
theorem LS.b0 {x : Nat} {cs : Array Value} (h : LS w wr g lg lm A c ((x, cs) :: bl)) : Blk wr x cs := (h.2 _ (List.mem_cons_self ..)).2
theorem LS.b1 {x y : Nat} {cs ds : Array Value} (h : LS w wr g lg lm A c ((y, ds) :: (x, cs) :: bl)) : Blk wr x cs := (h.2 (x, cs) (by simp)).2
theorem LS.b2 {x y z : Nat} {cs ds es : Array Value} (h : LS w wr g lg lm A c ((z, es) :: (y, ds) :: (x, cs) :: bl)) : Blk wr x cs := (h.2 (x, cs) (by simp)).2
theorem LS.drop (h : LS w wr g lg lm A c bl) : LS w wr g lg lm A c [] := ⟨h.1, fun _ hx => by cases hx⟩
end
theorem c_ref30_Note6 (l : List LR) (B : Option Addr) (cb : Nat) (a : Rep) (A : Option Addr) (c : Nat) (w : World) (h : InRw w B cb l) (h6 : l.length = 6) (ha : InN w A c a.f) (hs : ∀ x ∈ a.f, x.v.s.length ≤ 4294967000) (hm : a.mask < 4294967296) :
    Calls Try.prog 24 #[.slice B 6 cb, .agg (a.arr A c)] w (RetRw w B l A a.f (noteL (rowsOf l) a) (.bool (noteOk (rowsOf l) a))) := by
  have := c_ref30_Note l B cb a A c w h h6 ha hs hm; rw [h6] at this; exact this
/-- The rows handed out are the reference's. -/
def RetData (w : World) (m : List LR) (e : Ending) (w' : World) : Prop :=
  ∃ A c, e = .returned (.slice A 6 c) ∧ Below w.heap.size w w' ∧ ∀ w2 B d, Below w'.heap.size w' w2 → InRw w2 B d m → Calls Try.prog 26 #[.slice A 6 c, .slice B 6 d] w2 (RetV w2 (.bool true))
theorem c_ledger_DataR {w wr : World} {g : Nat} {lg lm : List LR} {A : Option Addr} {c : Nat} (h : LP w wr g lg lm A c) : Calls Try.prog 27 #[.pointer (some ⟨g, 0, none⟩)] wr (RetData wr lm) := by
  have hfit : ∀ x ∈ lg, x.1.a.f.length ≤ 1000000 := fun x hx => h.fit _ (List.mem_map.2 ⟨x, hx, rfl⟩)
  refine (c_ledger_Data g lg wr h.L hfit).mono ?_
  rintro e w' ⟨os, hr, ⟨v, rfl, own, hb⟩, F⟩
  have hos : os.length = 6 := by rw [rows_eq_len hr]; exact h.L.1
  obtain ⟨A1, c1, rfl, -⟩ := own_form own
  have hin : InRw w' A1 c1 os := ⟨In.own3R LR.cells_len own (by omega), fun o ho => In.own3R Node.cells_len (F o ho) (by
    have : o.1 ∈ rowsOf lg := by rw [← hr]; exact List.mem_map.2 ⟨o, ho, rfl⟩
    have := h.fit _ this
    omega)⟩
  refine ⟨A1, c1, by rw [hos], hb, fun w2 B d hb2 hM => ?_⟩
  have := c_ref30_Rows os lm A1 B c1 d w2 (hin.below hb2) hM (hr.trans h.eq)
  rw [hos] at this
  exact this
end Go.Proofs.Ytjhndilflcigiaa
namespace Go.Proofs.Ytjhndilflcigiaa
open Go.ChangeShapes Go.WideShapes Go.ChangeAt Go.RowKit Go.Deep
open Go.ChangeMaps (open_string shut_string)

section
variable {H : Type} {enc : TypeId × Value → H} {w : World} {spare : Nat → Bool} {held : Bool}
/-- What the form says of a filter that came in. -/
def FltRaw (w : World) (A : Option Addr) (c : Nat) (f : List Node) : Prop := f.length ≤ c ∧ c ≤ 9223372036854775807 ∧ (f = [] ∨ ∃ b off, A = some ⟨b, off, none⟩ ∧ b < w.heap.size ∧ Row 5 Node.cells w b off f) ∧ ∀ v ∈ f, v.wf
theorem Flt.of {A : Option Addr} {c : Nat} {f : List Node} (h : FltRaw w A c f) : Flt w A c f := by
  obtain ⟨h1, h2, h3, h4⟩ := h
  refine ⟨fun w' hb => ?_, fun hl => ?_, fun hl x hx => ?_⟩
  · by_cases h100 : 100 < f.length
    · have : large f = true := by unfold large; simp [h100]
      rw [this]
      exact c_law10_Large_long f.length A c w' h100 h1 h2
    · have hin : InN w A c f := ⟨h1, h2, by omega, h3⟩
      exact c_law10_Large f A c w' (hin.below hb) (fun x hx => (h4 x hx).2.2.2.2)
  · have := (large_short hl).1
    exact ⟨h1, h2, by omega, h3⟩
  · have := (large_short hl).2 x hx
    omega
end
end Go.Proofs.Ytjhndilflcigiaa
namespace Go.Proofs.Ytjhndilflcigiaa
open Go.RowKit

/-- An answer, and where its filter lies. -/
abbrev OA := Rep × Option Addr × Nat
def OA.cells (x : OA) : List Value := (x.1.arr x.2.1 x.2.2).toList
theorem OA.cells_len (x : OA) : (OA.cells x).length = 10 := rfl
@[irreducible] def laArr (l : List OA) : Array Value := (l.flatMap OA.cells).toArray
theorem rowAt_set {l : List LRow} {k : Nat} (hk : k < l.length) (x : LRow) (j : Nat) : rowAt (l.set k x) j = if j = k then x else rowAt l j := by
  unfold rowAt
  simp only [Int.toNat_natCast, List.getD_eq_getElem?_getD]
  by_cases h : j = k
  · subst h; rw [if_pos rfl, List.getElem?_set_self hk]; rfl
  · rw [if_neg h, List.getElem?_set_ne (fun e => h e.symm)]
/-- What an answer of the array has to do with its row. -/
def RowFits (o : Rep) (r : LRow) : Prop := o = r.a ∧ r.last = o.req ∧ (o.req = 0 ∨ (1 ≤ o.req ∧ o.req ≤ 1099511627776))
/-- The ledger and the last answers. -/
structure LO (w wr : World) (g q : Nat) (lg : List LR) (ls : List OA) : Prop where
  below : Below w.heap.size w wr
  og : w.heap.size ≤ g
  L : Lg wr g lg
  gq : g < q
  Q : Blk wr q (laArr ls)
  len : ls.length = 6
  inn : ∀ x ∈ ls, InN w x.2.1 x.2.2 x.1.f
  row : ∀ k (h : k < ls.length), RowFits ls[k].1 (rowAt (rowsOf lg) k)
  pos : ∀ x ∈ rowsOf lg, 0 ≤ x.ep
  fit : ∀ x ∈ rowsOf lg, x.a.f.length ≤ 1000000
  off : ∀ x ∈ lg, OffF q x
section
variable {w wr w1 w2 : World} {g q : Nat} {lg lg' : List LR} {ls : List OA}
theorem LO.step (h : LO w wr g q lg ls) (hb : Below wr.heap.size wr w1) : LO w w1 g q lg ls :=
  ⟨h.below.trans (hb.mono h.below.size), h.og, h.L.below hb, h.gq, h.Q.below hb h.Q.lt, h.len, h.inn, h.row, h.pos, h.fit, h.off⟩
/-- The ledger turned, its rows fit as they did. -/
theorem LO.turn (h : LO w wr g q lg ls) (hk : Kept (some g) wr.heap.size wr w1) (hL : Lg w1 g lg') (hr : ∀ k : Nat, (rowAt (rowsOf lg') k).a = (rowAt (rowsOf lg) k).a ∧ (rowAt (rowsOf lg') k).last = (rowAt (rowsOf lg) k).last)
    (hp : ∀ x ∈ rowsOf lg', 0 ≤ x.ep) (hf : ∀ x ∈ rowsOf lg', x.a.f.length ≤ 1000000) (ho : ∀ x ∈ lg', OffF q x) : LO w w1 g q lg' ls :=
  ⟨h.below.trans (hk.oneB h.below.size h.og), h.og, hL, h.gq, h.Q.kept hk h.Q.lt (fun e => by injection e with e; have := h.gq; omega), h.len, h.inn, fun k hk => by
    obtain ⟨a1, a2, a3⟩ := h.row k hk
    obtain ⟨b1, b2⟩ := hr k
    exact ⟨by rw [b1, a1], by rw [b2, a2], a3⟩, hp, hf, ho⟩
theorem LO.ask (h : LO w wr g q lg ls) {k : Nat} (hk : k < ls.length) (h0 : ls[k].1.req ≠ 0) : askE (rowsOf lg) k ls[k].1.req = 7 ∧ askA (rowsOf lg) k ls[k].1.req = ls[k].1 := by
  obtain ⟨e1, e2, e3⟩ := h.row k hk
  have hl := h.len
  have hb : ¬ askBad k ls[k].1.req := by unfold askBad; omega
  unfold askE askA
  rw [if_neg hb, if_neg hb, if_neg (by omega), if_pos e2.symm, if_pos e2.symm]
  exact ⟨rfl, e1.symm⟩
/-- The array is stored into: the ledger stands. -/
theorem Lg.far {w w' : World} {g q : Nat} {l : List LR} (h : Lg w g l) (hk : Kept (some q) w.heap.size w w') (hg : g ≠ q) (ho : ∀ x ∈ l, OffF q x) : Lg w' g l :=
  ⟨h.1, h.2.1.kept hk h.2.1.lt (fun e => by injection e with e; exact hg e.symm), fun x hx => ⟨(h.2.2 x hx).1.off_store (ho x hx) hk, (h.2.2 x hx).2⟩⟩
end
end Go.Proofs.Ytjhndilflcigiaa
