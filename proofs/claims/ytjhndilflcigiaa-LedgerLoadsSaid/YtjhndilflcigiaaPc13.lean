/-
  The walk of (*Ledger).Note, when the answer is noted.
-/
import Derived.Test.YtjhndilflcigiaaPc12
import Derived.Test.YtjhndilflcigiaaRows
import Derived.WalkKit
import Derived.WalkSpells
import Derived.WalkLawsBesides
import Derived.Lib.Hide
import Derived.Deep.QuietTactic
import Derived.BigQuiet
import Derived.Maps.AppendAt
import Derived.WalkSmall
import Derived.ProofKit
import Derived.OpenShut
import Derived.JoinedCond
import Derived.Deep.Slices
import Derived.Deep.Fields
import Derived.Carry
import Derived.Test.YtjhndilflcigiaaProg
import Derived.Deep.CutBlock
import Derived.Deep.DeepCutAuto
import Derived.Deep.AppendSrc
import Derived.Lib.AppendStr
import Derived.Laws.BytesArg
import Derived.Laws.CopyOwn
import Derived.Outline
import Derived.IntWalk
import Derived.Lib.EndianBits
import Derived.Laws.Tables
import Derived.Laws.Rows
import Derived.Shelf.Spec.TrailingZeros
import Derived.StillTail
import Derived.Lib.AppendZeros
import Derived.Deep.Quiet
import Derived.ChangeKeysEq
import Derived.Laws.StructEq
import Derived.Laws.LoneSync
namespace Go.Proofs.Ytjhndilflcigiaa
open Go.RowKit

theorem note_rows {w w' : World} {base g : Nat} {l : List LR} {k : Nat} {req ep : Int} {a : Rep} {A : Option Addr} {c : Nat} (hL : Lg w g l) (hk : Kept (some g) w.heap.size w w') (O : w.ownsRow base 102 5 (.slice A a.f.length c) a.f.length (a.f.flatMap Node.cells)) (hg : g < base) (_hk : k < l.length) (hn : a.f.length ≤ 4294967296 := by omega) :
    ∀ x ∈ l.set k (⟨req, ep, a⟩, A, c), InN w' x.2.1 x.2.2 x.1.a.f ∧ (x.1.a.f = [] ∨ ∀ ad, x.2.1 = some ad → ad.block ≠ g) := by
  intro x hx
  rcases List.mem_or_eq_of_mem_set hx with hx | rfl
  · obtain ⟨h1, h2⟩ := hL.2.2 x hx
    exact ⟨h1.own_store h2 hk, h2⟩
  · have hf : a.f = [] ∨ ∀ ad, A = some ad → ad.block ≠ g := by
      by_cases h0 : a.f = []
      · exact .inl h0
      · right
        intro ad had
        have hpos : 0 < a.f.length := List.length_pos_iff.2 h0
        obtain ⟨b, c', hv, -, -, hb, -⟩ := own_form' O hpos
        injection hv with hv
        rw [hv] at had
        injection had with had
        rw [← had]
        show b ≠ g
        omega
    obtain ⟨A', c', hv, hin⟩ := In.of_own Node.cells_len O hn
    injection hv with hv1 _ hv2
    subst hv1 hv2
    exact ⟨hin.own_store hf hk, hf⟩
theorem note_off {w : World} {base : Nat} {l : List LR} {k : Nat} {req ep : Int} {a : Rep} {A : Option Addr} {c : Nat} (O : w.ownsRow base 102 5 (.slice A a.f.length c) a.f.length (a.f.flatMap Node.cells)) :
    ∀ q, q < base → (∀ x ∈ l, OffF q x) → ∀ x ∈ l.set k (⟨req, ep, a⟩, A, c), OffF q x := by
  intro q hq h x hx
  rcases List.mem_or_eq_of_mem_set hx with hx | rfl
  · exact h x hx
  · by_cases h0 : a.f = []
    · exact .inl h0
    · right
      intro ad had
      obtain ⟨b, c', hv, -, -, hb, -⟩ := own_form' O (List.length_pos_iff.2 h0)
      injection hv with hv
      rw [hv] at had
      injection had with had
      rw [← had]
      show b ≠ q
      omega
theorem note_plain {l : List LR} {k : Nat} {a : Rep} {A : Option Addr} {c : Nat} (hd : a.dev = k) (hk : k < l.length) (hy : noteOk (rowsOf l) a = true) : rowsOf (l.set k (⟨a.req, l[k].1.ep, a⟩, A, c)) = noteL (rowsOf l) a := by
  unfold noteL
  rw [if_pos hy, hd, rowAt_of hk]
  unfold rowsOf
  rw [List.map_set, Int.toNat_natCast]
set_option maxHeartbeats 4000000 in
set_option maxRecDepth 4000 in
theorem ledger_Note_yes (g : Nat) (l : List LR) (a : Rep) (A : Option Addr) (c : Nat) (w : World) (h : Lg w g l) (ha : InN w A c a.f) (hs : ∀ x ∈ a.f, x.v.s.length ≤ 4294967000) (hm : a.mask < 4294967296) (hfl : a.f.length ≤ 1000000) (hyes : noteOk (rowsOf l) a = true) :
    Calls Try.prog 18 #[.pointer (some ⟨g, 0, none⟩), .agg (a.arr A c)] w (RetNote g l a w) := by
  have B0 := Lib.hid (At.new w 47 (a.arr A c))
  have HL := Lib.hid h
  have HI := Lib.hid ha
  have Hs := Lib.hid hs
  have HY := Lib.hid hyes
  unfold noteOk at hyes
  obtain ⟨h0, h1⟩ := Bool.and_eq_true_iff.1 hyes
  have h0' : askE (rowsOf l) a.dev a.req = 0 := by simpa using h0
  have EE := Lib.hid h0'
  obtain ⟨V, hV⟩ : ∃ V, V = askA (rowsOf l) a.dev a.req := ⟨_, rfl⟩
  have EV := Lib.hid hV
  have hgood : ¬ askBad a.dev a.req := fun hb => by unfold askE at h0'; rw [if_pos hb] at h0'; cases h0'
  unfold askBad at hgood
  have Hok := Lib.hid h1
  obtain ⟨k, hk⟩ : ∃ k : Nat, a.dev = k := ⟨a.dev.toNat, by omega⟩
  have hk6 : k < 6 := by omega
  have HK := Lib.hid hk
  have hcs : k = 0 ∨ k = 1 ∨ k = 2 ∨ k = 3 ∨ k = 4 ∨ k = 5 := by omega
  have hgl := h.2.1.lt
  obtain ⟨q0, q1, q2, q3, q4, q5, q6, q7, q8, q9⟩ := B0.out.rep
  clear h ha hs hyes h0 h0' h1 hV hgood hk hk6
  go_enter Try.func18, Try.ntmps18
  go_wp2_with (fail)
  refine (c_ledger_Ask g l a.dev a.req _ (HL.out.below B0.out.1)).mono ?_
  rintro e w1 ⟨A1, c1, rfl, own, hb1⟩
  rw [EE.out, ← EV.out]
  replace B0 := Lib.hid (B0.out.step hb1)
  clear q0 q1 q2 q3 q4 q5 q6 q7 q8 q9 own hb1
  go_wp2_with (with_reducible refine stop_store 47 (.tmp 5) (.tmp 15) rfl rfl ?_)
  refine Stop.mk (wpList_storeB rfl _ _ _ rfl w1.heap.size _ rfl rfl _ (Blk.new _ _ _) strRp rfl rfl (by simp [Value.oneCell']) ?_)
  intro w2 hb2 hk2
  have hz := B0.out.1.size
  have hz2 := hk2.size
  have hg := B0.out.2.lt
  replace B0 := Lib.hid (show At w w2 (a.arr A c) from ⟨(B0.out.1.alloc hz _).trans (hk2.oneB (by simp; omega) (by omega)), (B0.out.2.below ((Below.refl _ _).alloc (Nat.le_refl _) _) hg).kept hk2 (by simp; omega) (by simp; omega)⟩)
  clear hb2 hk2 hz hz2 hg
  go_wp2_with (with_reducible refine stop_loadG 47 (.tmp 3) rfl ?_)
  refine Stop.mk (wpList_loadAtG (by rfl) _ _ rfl w.heap.size 0 rfl (a.arr A c) B0.out.2.all strRp rfl ?_)
  go_wp2_with (fail)
  refine (c_ledger_Check a A c _ (HI.out.below B0.out.1) Hs.out hm).mono ?_
  rintro e w3 ⟨rfl, hb3⟩
  rw [Hok.out]
  replace B0 := Lib.hid (B0.out.step hb3)
  clear hb3
  have hlt := B0.out.2.lt
  obtain ⟨q0, q1, q2, q3, q4, q5, q6, q7, q8, q9⟩ := B0.out.rep
  rw [HK.out] at q1
  go_wp2_with (fail)
  rcases hcs with rfl | rfl | rfl | rfl | rfl | rfl
  · skip
    refine wp_region_grow (by kernel_rfl) (by kernel_rfl) ?_
    repeat (quiet_step ((first | (fail))))
    refine wpQuiet_nil ?_
    intro w4 hb4
    replace B0 := Lib.hid (B0.out.step hb4)
    clear q0 q1 q2 q3 q4 q5 q6 q7 q8 q9 hb4 hlt
    go_wp2_with (fail)
    have hbw := B0.out.1.size
    have hgw : g < w.heap.size := hgl
    have Bg := Lib.hid (HL.out.below B0.out.1).2.1
    have HIw := Lib.hid (HI.out.below B0.out.1)
    refine wp_region_relF [Sp.eq (.pointer (some ⟨g, 0, none⟩)), Sp.eq (.pointer (some ⟨g, 0, none⟩)), Sp.eq (.pointer (some ⟨w.heap.size, 2, none⟩)), Sp.eq (.int .i64 a.req), Sp.eq (.agg (a.arr A c)), Sp.ownRep w.heap.size a] 40 6 1 (by kernel_rfl) (by decide) (by decide) (by kernel_rfl) (by kernel_rfl) (by kernel_rfl) (by kernel_rfl) (by kernel_rfl) rfl rfl (fun _ _ _ _ _ h => h) (by rintro o0 x h1 h2; injection h1 with h1; subst h1; injection h2 with h2; subst h2; rfl) ?_ ?_
    · refine ⟨?_, ?_, ?_, ?_, ?_, ?_, trivial⟩
      all_goals (intro u w5 hb5 hd; simp [Deps, Region.binds, Sp.eq_holds] at hd; simp only [putDeps, dstOf, Region.binds])
      case refine_1 => go_wp2_with (fail); exact RelEnd.mk rfl (Below.refl _ _) rfl
      case refine_2 => go_wp2_with (fail); exact RelEnd.mk rfl (Below.refl _ _) rfl
      case refine_3 => go_wp2_with (fail); exact RelEnd.mk rfl (Below.refl _ _) rfl
      case refine_4 =>
        have q := (B0.out.2.below hb5 B0.out.2.lt).cell (show (a.arr A c)[2]? = _ from rfl)
        go_wp2_with (fail); exact RelEnd.mk rfl (Below.refl _ _) rfl
      case refine_5 =>
        go_wp2_with (with_reducible refine stop_load 47 (.tmp 3) rfl rfl ?_)
        refine Stop.mk (wpList_loadB rfl _ _ rfl w.heap.size rfl _ (B0.out.2.below hb5 B0.out.2.lt) strRp rfl ?_)
        go_wp2_with (fail); exact RelEnd.mk rfl (Below.refl _ _) rfl
      case refine_6 =>
        go_wp2_with (go_at_call 40; refine (c_ledger_own a A c _ (HIw.out.below hb5)).mono ?_; rintro e w6 ⟨A6, c6, rfl, own6, hb6⟩)
        exact RelEnd.mk rfl hb6 ⟨A6, c6, rfl, own_base own6 (Nat.le_trans hbw hb5.size)⟩
    · intro u w5 hb5 hold
      simp only [RelHold, Sp.eq_holds, Sp.ownRep_holds, Nat.reduceAdd] at hold
      obtain ⟨e0, e1, -, e3, -, ⟨A6, c6, e5, own6⟩, -⟩ := hold
      have O6 := Lib.hid own6
      have hbw5 := Lib.hid (B0.out.1.trans (hb5.mono hbw))
      have B5 := Lib.hid (Bg.out.below hb5 Bg.out.lt)
      have HL5 := Lib.hid (HL.out.below hbw5.out)
      clear own6 hb5
      have hc := B5.out.cell (by have := lg_get (l := l) (by rw [HL.out.1]; decide) 0 (by omega) (k := 0); exact this)
      have hfz := B5.out.frozen
      simp only [Nat.reduceMul, Nat.reduceAdd] at hc
      simp only [List.drop, List.take, putAll, Act.put, Nat.reduceAdd, List.setIfInBounds_toArray, List.set_cons_zero, List.set_cons_succ]
      rw [e0, e1, e3, e5]
      have K6 := Lib.hid (kept_set w5 g 0 (.int .i64 a.req))
      have B6 := Lib.hid (B5.out.store 0 (.int .i64 a.req))
      have hk : 0 < l.length := by rw [HL.out.1]; decide
      have hz5 := B5.out.lt
      go_wp2_with (with_reducible refine stop_store 47 (.tmp 39) (.tmp 35) rfl rfl ?_)
      refine Stop.mk (wpList_storeAt rfl _ _ _ rfl g (0 + 2) (a.arr A6 c6) rfl rfl _ B6.out strRp rfl (by rw [Array.size_setIfInBounds, lg_size, HL.out.1]; show _ + 10 ≤ 72; omega) (by simp [Value.oneCell']) ?_)
      intro w7 hb7 hk7
      have B7 := Lib.hid (show Blk w7 g (lgArr (l.set 0 (⟨a.req, l[0].1.ep, a⟩, A6, c6))) by rw [← lg_put hk]; exact hb7)
      have KK := Lib.hid (K6.out.trans (hk7.mono (by simp [World.setCell])))
      clear hc hfz hb7 hk7 e0 e1 e3 e5
      go_wp2_with (fail)
      go_ret
      refine ⟨by rw [HY.out]; rfl, (Kept.of_below hbw5.out).trans (KK.out.mono hbw5.out.size), l.set 0 (⟨a.req, l[0].1.ep, a⟩, A6, c6), ⟨by rw [List.length_set]; exact HL.out.1, B7.out, ?_⟩, ?_, ?_⟩
      · exact note_rows HL5.out KK.out O6.out hgw hk
      · exact note_plain HK.out hk HY.out
      · exact note_off O6.out
  · skip
    refine wp_region_grow (by kernel_rfl) (by kernel_rfl) ?_
    repeat (quiet_step ((first | (fail))))
    refine wpQuiet_nil ?_
    intro w4 hb4
    replace B0 := Lib.hid (B0.out.step hb4)
    clear q0 q1 q2 q3 q4 q5 q6 q7 q8 q9 hb4 hlt
    go_wp2_with (fail)
    have hbw := B0.out.1.size
    have hgw : g < w.heap.size := hgl
    have Bg := Lib.hid (HL.out.below B0.out.1).2.1
    have HIw := Lib.hid (HI.out.below B0.out.1)
    refine wp_region_relF [Sp.eq (.pointer (some ⟨g, 12, none⟩)), Sp.eq (.pointer (some ⟨g, 12, none⟩)), Sp.eq (.pointer (some ⟨w.heap.size, 2, none⟩)), Sp.eq (.int .i64 a.req), Sp.eq (.agg (a.arr A c)), Sp.ownRep w.heap.size a] 40 6 1 (by kernel_rfl) (by decide) (by decide) (by kernel_rfl) (by kernel_rfl) (by kernel_rfl) (by kernel_rfl) (by kernel_rfl) rfl rfl (fun _ _ _ _ _ h => h) (by rintro o0 x h1 h2; injection h1 with h1; subst h1; injection h2 with h2; subst h2; rfl) ?_ ?_
    · refine ⟨?_, ?_, ?_, ?_, ?_, ?_, trivial⟩
      all_goals (intro u w5 hb5 hd; simp [Deps, Region.binds, Sp.eq_holds] at hd; simp only [putDeps, dstOf, Region.binds])
      case refine_1 => go_wp2_with (fail); exact RelEnd.mk rfl (Below.refl _ _) rfl
      case refine_2 => go_wp2_with (fail); exact RelEnd.mk rfl (Below.refl _ _) rfl
      case refine_3 => go_wp2_with (fail); exact RelEnd.mk rfl (Below.refl _ _) rfl
      case refine_4 =>
        have q := (B0.out.2.below hb5 B0.out.2.lt).cell (show (a.arr A c)[2]? = _ from rfl)
        go_wp2_with (fail); exact RelEnd.mk rfl (Below.refl _ _) rfl
      case refine_5 =>
        go_wp2_with (with_reducible refine stop_load 47 (.tmp 3) rfl rfl ?_)
        refine Stop.mk (wpList_loadB rfl _ _ rfl w.heap.size rfl _ (B0.out.2.below hb5 B0.out.2.lt) strRp rfl ?_)
        go_wp2_with (fail); exact RelEnd.mk rfl (Below.refl _ _) rfl
      case refine_6 =>
        go_wp2_with (go_at_call 40; refine (c_ledger_own a A c _ (HIw.out.below hb5)).mono ?_; rintro e w6 ⟨A6, c6, rfl, own6, hb6⟩)
        exact RelEnd.mk rfl hb6 ⟨A6, c6, rfl, own_base own6 (Nat.le_trans hbw hb5.size)⟩
    · intro u w5 hb5 hold
      simp only [RelHold, Sp.eq_holds, Sp.ownRep_holds, Nat.reduceAdd] at hold
      obtain ⟨e0, e1, -, e3, -, ⟨A6, c6, e5, own6⟩, -⟩ := hold
      have O6 := Lib.hid own6
      have hbw5 := Lib.hid (B0.out.1.trans (hb5.mono hbw))
      have B5 := Lib.hid (Bg.out.below hb5 Bg.out.lt)
      have HL5 := Lib.hid (HL.out.below hbw5.out)
      clear own6 hb5
      have hc := B5.out.cell (by have := lg_get (l := l) (by rw [HL.out.1]; decide) 0 (by omega) (k := 1); exact this)
      have hfz := B5.out.frozen
      simp only [Nat.reduceMul, Nat.reduceAdd] at hc
      simp only [List.drop, List.take, putAll, Act.put, Nat.reduceAdd, List.setIfInBounds_toArray, List.set_cons_zero, List.set_cons_succ]
      rw [e0, e1, e3, e5]
      have K6 := Lib.hid (kept_set w5 g 12 (.int .i64 a.req))
      have B6 := Lib.hid (B5.out.store 12 (.int .i64 a.req))
      have hk : 1 < l.length := by rw [HL.out.1]; decide
      have hz5 := B5.out.lt
      go_wp2_with (with_reducible refine stop_store 47 (.tmp 39) (.tmp 35) rfl rfl ?_)
      refine Stop.mk (wpList_storeAt rfl _ _ _ rfl g (12 + 2) (a.arr A6 c6) rfl rfl _ B6.out strRp rfl (by rw [Array.size_setIfInBounds, lg_size, HL.out.1]; show _ + 10 ≤ 72; omega) (by simp [Value.oneCell']) ?_)
      intro w7 hb7 hk7
      have B7 := Lib.hid (show Blk w7 g (lgArr (l.set 1 (⟨a.req, l[1].1.ep, a⟩, A6, c6))) by rw [← lg_put hk]; exact hb7)
      have KK := Lib.hid (K6.out.trans (hk7.mono (by simp [World.setCell])))
      clear hc hfz hb7 hk7 e0 e1 e3 e5
      go_wp2_with (fail)
      go_ret
      refine ⟨by rw [HY.out]; rfl, (Kept.of_below hbw5.out).trans (KK.out.mono hbw5.out.size), l.set 1 (⟨a.req, l[1].1.ep, a⟩, A6, c6), ⟨by rw [List.length_set]; exact HL.out.1, B7.out, ?_⟩, ?_, ?_⟩
      · exact note_rows HL5.out KK.out O6.out hgw hk
      · exact note_plain HK.out hk HY.out
      · exact note_off O6.out
  · skip
    refine wp_region_grow (by kernel_rfl) (by kernel_rfl) ?_
    repeat (quiet_step ((first | (fail))))
    refine wpQuiet_nil ?_
    intro w4 hb4
    replace B0 := Lib.hid (B0.out.step hb4)
    clear q0 q1 q2 q3 q4 q5 q6 q7 q8 q9 hb4 hlt
    go_wp2_with (fail)
    have hbw := B0.out.1.size
    have hgw : g < w.heap.size := hgl
    have Bg := Lib.hid (HL.out.below B0.out.1).2.1
    have HIw := Lib.hid (HI.out.below B0.out.1)
    refine wp_region_relF [Sp.eq (.pointer (some ⟨g, 24, none⟩)), Sp.eq (.pointer (some ⟨g, 24, none⟩)), Sp.eq (.pointer (some ⟨w.heap.size, 2, none⟩)), Sp.eq (.int .i64 a.req), Sp.eq (.agg (a.arr A c)), Sp.ownRep w.heap.size a] 40 6 1 (by kernel_rfl) (by decide) (by decide) (by kernel_rfl) (by kernel_rfl) (by kernel_rfl) (by kernel_rfl) (by kernel_rfl) rfl rfl (fun _ _ _ _ _ h => h) (by rintro o0 x h1 h2; injection h1 with h1; subst h1; injection h2 with h2; subst h2; rfl) ?_ ?_
    · refine ⟨?_, ?_, ?_, ?_, ?_, ?_, trivial⟩
      all_goals (intro u w5 hb5 hd; simp [Deps, Region.binds, Sp.eq_holds] at hd; simp only [putDeps, dstOf, Region.binds])
      case refine_1 => go_wp2_with (fail); exact RelEnd.mk rfl (Below.refl _ _) rfl
      case refine_2 => go_wp2_with (fail); exact RelEnd.mk rfl (Below.refl _ _) rfl
      case refine_3 => go_wp2_with (fail); exact RelEnd.mk rfl (Below.refl _ _) rfl
      case refine_4 =>
        have q := (B0.out.2.below hb5 B0.out.2.lt).cell (show (a.arr A c)[2]? = _ from rfl)
        go_wp2_with (fail); exact RelEnd.mk rfl (Below.refl _ _) rfl
      case refine_5 =>
        go_wp2_with (with_reducible refine stop_load 47 (.tmp 3) rfl rfl ?_)
        refine Stop.mk (wpList_loadB rfl _ _ rfl w.heap.size rfl _ (B0.out.2.below hb5 B0.out.2.lt) strRp rfl ?_)
        go_wp2_with (fail); exact RelEnd.mk rfl (Below.refl _ _) rfl
      case refine_6 =>
        go_wp2_with (go_at_call 40; refine (c_ledger_own a A c _ (HIw.out.below hb5)).mono ?_; rintro e w6 ⟨A6, c6, rfl, own6, hb6⟩)
        exact RelEnd.mk rfl hb6 ⟨A6, c6, rfl, own_base own6 (Nat.le_trans hbw hb5.size)⟩
    · intro u w5 hb5 hold
      simp only [RelHold, Sp.eq_holds, Sp.ownRep_holds, Nat.reduceAdd] at hold
      obtain ⟨e0, e1, -, e3, -, ⟨A6, c6, e5, own6⟩, -⟩ := hold
      have O6 := Lib.hid own6
      have hbw5 := Lib.hid (B0.out.1.trans (hb5.mono hbw))
      have B5 := Lib.hid (Bg.out.below hb5 Bg.out.lt)
      have HL5 := Lib.hid (HL.out.below hbw5.out)
      clear own6 hb5
      have hc := B5.out.cell (by have := lg_get (l := l) (by rw [HL.out.1]; decide) 0 (by omega) (k := 2); exact this)
      have hfz := B5.out.frozen
      simp only [Nat.reduceMul, Nat.reduceAdd] at hc
      simp only [List.drop, List.take, putAll, Act.put, Nat.reduceAdd, List.setIfInBounds_toArray, List.set_cons_zero, List.set_cons_succ]
      rw [e0, e1, e3, e5]
      have K6 := Lib.hid (kept_set w5 g 24 (.int .i64 a.req))
      have B6 := Lib.hid (B5.out.store 24 (.int .i64 a.req))
      have hk : 2 < l.length := by rw [HL.out.1]; decide
      have hz5 := B5.out.lt
      go_wp2_with (with_reducible refine stop_store 47 (.tmp 39) (.tmp 35) rfl rfl ?_)
      refine Stop.mk (wpList_storeAt rfl _ _ _ rfl g (24 + 2) (a.arr A6 c6) rfl rfl _ B6.out strRp rfl (by rw [Array.size_setIfInBounds, lg_size, HL.out.1]; show _ + 10 ≤ 72; omega) (by simp [Value.oneCell']) ?_)
      intro w7 hb7 hk7
      have B7 := Lib.hid (show Blk w7 g (lgArr (l.set 2 (⟨a.req, l[2].1.ep, a⟩, A6, c6))) by rw [← lg_put hk]; exact hb7)
      have KK := Lib.hid (K6.out.trans (hk7.mono (by simp [World.setCell])))
      clear hc hfz hb7 hk7 e0 e1 e3 e5
      go_wp2_with (fail)
      go_ret
      refine ⟨by rw [HY.out]; rfl, (Kept.of_below hbw5.out).trans (KK.out.mono hbw5.out.size), l.set 2 (⟨a.req, l[2].1.ep, a⟩, A6, c6), ⟨by rw [List.length_set]; exact HL.out.1, B7.out, ?_⟩, ?_, ?_⟩
      · exact note_rows HL5.out KK.out O6.out hgw hk
      · exact note_plain HK.out hk HY.out
      · exact note_off O6.out
  · skip
    refine wp_region_grow (by kernel_rfl) (by kernel_rfl) ?_
    repeat (quiet_step ((first | (fail))))
    refine wpQuiet_nil ?_
    intro w4 hb4
    replace B0 := Lib.hid (B0.out.step hb4)
    clear q0 q1 q2 q3 q4 q5 q6 q7 q8 q9 hb4 hlt
    go_wp2_with (fail)
    have hbw := B0.out.1.size
    have hgw : g < w.heap.size := hgl
    have Bg := Lib.hid (HL.out.below B0.out.1).2.1
    have HIw := Lib.hid (HI.out.below B0.out.1)
    refine wp_region_relF [Sp.eq (.pointer (some ⟨g, 36, none⟩)), Sp.eq (.pointer (some ⟨g, 36, none⟩)), Sp.eq (.pointer (some ⟨w.heap.size, 2, none⟩)), Sp.eq (.int .i64 a.req), Sp.eq (.agg (a.arr A c)), Sp.ownRep w.heap.size a] 40 6 1 (by kernel_rfl) (by decide) (by decide) (by kernel_rfl) (by kernel_rfl) (by kernel_rfl) (by kernel_rfl) (by kernel_rfl) rfl rfl (fun _ _ _ _ _ h => h) (by rintro o0 x h1 h2; injection h1 with h1; subst h1; injection h2 with h2; subst h2; rfl) ?_ ?_
    · refine ⟨?_, ?_, ?_, ?_, ?_, ?_, trivial⟩
      all_goals (intro u w5 hb5 hd; simp [Deps, Region.binds, Sp.eq_holds] at hd; simp only [putDeps, dstOf, Region.binds])
      case refine_1 => go_wp2_with (fail); exact RelEnd.mk rfl (Below.refl _ _) rfl
      case refine_2 => go_wp2_with (fail); exact RelEnd.mk rfl (Below.refl _ _) rfl
      case refine_3 => go_wp2_with (fail); exact RelEnd.mk rfl (Below.refl _ _) rfl
      case refine_4 =>
        have q := (B0.out.2.below hb5 B0.out.2.lt).cell (show (a.arr A c)[2]? = _ from rfl)
        go_wp2_with (fail); exact RelEnd.mk rfl (Below.refl _ _) rfl
      case refine_5 =>
        go_wp2_with (with_reducible refine stop_load 47 (.tmp 3) rfl rfl ?_)
        refine Stop.mk (wpList_loadB rfl _ _ rfl w.heap.size rfl _ (B0.out.2.below hb5 B0.out.2.lt) strRp rfl ?_)
        go_wp2_with (fail); exact RelEnd.mk rfl (Below.refl _ _) rfl
      case refine_6 =>
        go_wp2_with (go_at_call 40; refine (c_ledger_own a A c _ (HIw.out.below hb5)).mono ?_; rintro e w6 ⟨A6, c6, rfl, own6, hb6⟩)
        exact RelEnd.mk rfl hb6 ⟨A6, c6, rfl, own_base own6 (Nat.le_trans hbw hb5.size)⟩
    · intro u w5 hb5 hold
      simp only [RelHold, Sp.eq_holds, Sp.ownRep_holds, Nat.reduceAdd] at hold
      obtain ⟨e0, e1, -, e3, -, ⟨A6, c6, e5, own6⟩, -⟩ := hold
      have O6 := Lib.hid own6
      have hbw5 := Lib.hid (B0.out.1.trans (hb5.mono hbw))
      have B5 := Lib.hid (Bg.out.below hb5 Bg.out.lt)
      have HL5 := Lib.hid (HL.out.below hbw5.out)
      clear own6 hb5
      have hc := B5.out.cell (by have := lg_get (l := l) (by rw [HL.out.1]; decide) 0 (by omega) (k := 3); exact this)
      have hfz := B5.out.frozen
      simp only [Nat.reduceMul, Nat.reduceAdd] at hc
      simp only [List.drop, List.take, putAll, Act.put, Nat.reduceAdd, List.setIfInBounds_toArray, List.set_cons_zero, List.set_cons_succ]
      rw [e0, e1, e3, e5]
      have K6 := Lib.hid (kept_set w5 g 36 (.int .i64 a.req))
      have B6 := Lib.hid (B5.out.store 36 (.int .i64 a.req))
      have hk : 3 < l.length := by rw [HL.out.1]; decide
      have hz5 := B5.out.lt
      go_wp2_with (with_reducible refine stop_store 47 (.tmp 39) (.tmp 35) rfl rfl ?_)
      refine Stop.mk (wpList_storeAt rfl _ _ _ rfl g (36 + 2) (a.arr A6 c6) rfl rfl _ B6.out strRp rfl (by rw [Array.size_setIfInBounds, lg_size, HL.out.1]; show _ + 10 ≤ 72; omega) (by simp [Value.oneCell']) ?_)
      intro w7 hb7 hk7
      have B7 := Lib.hid (show Blk w7 g (lgArr (l.set 3 (⟨a.req, l[3].1.ep, a⟩, A6, c6))) by rw [← lg_put hk]; exact hb7)
      have KK := Lib.hid (K6.out.trans (hk7.mono (by simp [World.setCell])))
      clear hc hfz hb7 hk7 e0 e1 e3 e5
      go_wp2_with (fail)
      go_ret
      refine ⟨by rw [HY.out]; rfl, (Kept.of_below hbw5.out).trans (KK.out.mono hbw5.out.size), l.set 3 (⟨a.req, l[3].1.ep, a⟩, A6, c6), ⟨by rw [List.length_set]; exact HL.out.1, B7.out, ?_⟩, ?_, ?_⟩
      · exact note_rows HL5.out KK.out O6.out hgw hk
      · exact note_plain HK.out hk HY.out
      · exact note_off O6.out
  · skip
    refine wp_region_grow (by kernel_rfl) (by kernel_rfl) ?_
    repeat (quiet_step ((first | (fail))))
    refine wpQuiet_nil ?_
    intro w4 hb4
    replace B0 := Lib.hid (B0.out.step hb4)
    clear q0 q1 q2 q3 q4 q5 q6 q7 q8 q9 hb4 hlt
    go_wp2_with (fail)
    have hbw := B0.out.1.size
    have hgw : g < w.heap.size := hgl
    have Bg := Lib.hid (HL.out.below B0.out.1).2.1
    have HIw := Lib.hid (HI.out.below B0.out.1)
    refine wp_region_relF [Sp.eq (.pointer (some ⟨g, 48, none⟩)), Sp.eq (.pointer (some ⟨g, 48, none⟩)), Sp.eq (.pointer (some ⟨w.heap.size, 2, none⟩)), Sp.eq (.int .i64 a.req), Sp.eq (.agg (a.arr A c)), Sp.ownRep w.heap.size a] 40 6 1 (by kernel_rfl) (by decide) (by decide) (by kernel_rfl) (by kernel_rfl) (by kernel_rfl) (by kernel_rfl) (by kernel_rfl) rfl rfl (fun _ _ _ _ _ h => h) (by rintro o0 x h1 h2; injection h1 with h1; subst h1; injection h2 with h2; subst h2; rfl) ?_ ?_
    · refine ⟨?_, ?_, ?_, ?_, ?_, ?_, trivial⟩
      all_goals (intro u w5 hb5 hd; simp [Deps, Region.binds, Sp.eq_holds] at hd; simp only [putDeps, dstOf, Region.binds])
      case refine_1 => go_wp2_with (fail); exact RelEnd.mk rfl (Below.refl _ _) rfl
      case refine_2 => go_wp2_with (fail); exact RelEnd.mk rfl (Below.refl _ _) rfl
      case refine_3 => go_wp2_with (fail); exact RelEnd.mk rfl (Below.refl _ _) rfl
      case refine_4 =>
        have q := (B0.out.2.below hb5 B0.out.2.lt).cell (show (a.arr A c)[2]? = _ from rfl)
        go_wp2_with (fail); exact RelEnd.mk rfl (Below.refl _ _) rfl
      case refine_5 =>
        go_wp2_with (with_reducible refine stop_load 47 (.tmp 3) rfl rfl ?_)
        refine Stop.mk (wpList_loadB rfl _ _ rfl w.heap.size rfl _ (B0.out.2.below hb5 B0.out.2.lt) strRp rfl ?_)
        go_wp2_with (fail); exact RelEnd.mk rfl (Below.refl _ _) rfl
      case refine_6 =>
        go_wp2_with (go_at_call 40; refine (c_ledger_own a A c _ (HIw.out.below hb5)).mono ?_; rintro e w6 ⟨A6, c6, rfl, own6, hb6⟩)
        exact RelEnd.mk rfl hb6 ⟨A6, c6, rfl, own_base own6 (Nat.le_trans hbw hb5.size)⟩
    · intro u w5 hb5 hold
      simp only [RelHold, Sp.eq_holds, Sp.ownRep_holds, Nat.reduceAdd] at hold
      obtain ⟨e0, e1, -, e3, -, ⟨A6, c6, e5, own6⟩, -⟩ := hold
      have O6 := Lib.hid own6
      have hbw5 := Lib.hid (B0.out.1.trans (hb5.mono hbw))
      have B5 := Lib.hid (Bg.out.below hb5 Bg.out.lt)
      have HL5 := Lib.hid (HL.out.below hbw5.out)
      clear own6 hb5
      have hc := B5.out.cell (by have := lg_get (l := l) (by rw [HL.out.1]; decide) 0 (by omega) (k := 4); exact this)
      have hfz := B5.out.frozen
      simp only [Nat.reduceMul, Nat.reduceAdd] at hc
      simp only [List.drop, List.take, putAll, Act.put, Nat.reduceAdd, List.setIfInBounds_toArray, List.set_cons_zero, List.set_cons_succ]
      rw [e0, e1, e3, e5]
      have K6 := Lib.hid (kept_set w5 g 48 (.int .i64 a.req))
      have B6 := Lib.hid (B5.out.store 48 (.int .i64 a.req))
      have hk : 4 < l.length := by rw [HL.out.1]; decide
      have hz5 := B5.out.lt
      go_wp2_with (with_reducible refine stop_store 47 (.tmp 39) (.tmp 35) rfl rfl ?_)
      refine Stop.mk (wpList_storeAt rfl _ _ _ rfl g (48 + 2) (a.arr A6 c6) rfl rfl _ B6.out strRp rfl (by rw [Array.size_setIfInBounds, lg_size, HL.out.1]; show _ + 10 ≤ 72; omega) (by simp [Value.oneCell']) ?_)
      intro w7 hb7 hk7
      have B7 := Lib.hid (show Blk w7 g (lgArr (l.set 4 (⟨a.req, l[4].1.ep, a⟩, A6, c6))) by rw [← lg_put hk]; exact hb7)
      have KK := Lib.hid (K6.out.trans (hk7.mono (by simp [World.setCell])))
      clear hc hfz hb7 hk7 e0 e1 e3 e5
      go_wp2_with (fail)
      go_ret
      refine ⟨by rw [HY.out]; rfl, (Kept.of_below hbw5.out).trans (KK.out.mono hbw5.out.size), l.set 4 (⟨a.req, l[4].1.ep, a⟩, A6, c6), ⟨by rw [List.length_set]; exact HL.out.1, B7.out, ?_⟩, ?_, ?_⟩
      · exact note_rows HL5.out KK.out O6.out hgw hk
      · exact note_plain HK.out hk HY.out
      · exact note_off O6.out
  · skip
    refine wp_region_grow (by kernel_rfl) (by kernel_rfl) ?_
    repeat (quiet_step ((first | (fail))))
    refine wpQuiet_nil ?_
    intro w4 hb4
    replace B0 := Lib.hid (B0.out.step hb4)
    clear q0 q1 q2 q3 q4 q5 q6 q7 q8 q9 hb4 hlt
    go_wp2_with (fail)
    have hbw := B0.out.1.size
    have hgw : g < w.heap.size := hgl
    have Bg := Lib.hid (HL.out.below B0.out.1).2.1
    have HIw := Lib.hid (HI.out.below B0.out.1)
    refine wp_region_relF [Sp.eq (.pointer (some ⟨g, 60, none⟩)), Sp.eq (.pointer (some ⟨g, 60, none⟩)), Sp.eq (.pointer (some ⟨w.heap.size, 2, none⟩)), Sp.eq (.int .i64 a.req), Sp.eq (.agg (a.arr A c)), Sp.ownRep w.heap.size a] 40 6 1 (by kernel_rfl) (by decide) (by decide) (by kernel_rfl) (by kernel_rfl) (by kernel_rfl) (by kernel_rfl) (by kernel_rfl) rfl rfl (fun _ _ _ _ _ h => h) (by rintro o0 x h1 h2; injection h1 with h1; subst h1; injection h2 with h2; subst h2; rfl) ?_ ?_
    · refine ⟨?_, ?_, ?_, ?_, ?_, ?_, trivial⟩
      all_goals (intro u w5 hb5 hd; simp [Deps, Region.binds, Sp.eq_holds] at hd; simp only [putDeps, dstOf, Region.binds])
      case refine_1 => go_wp2_with (fail); exact RelEnd.mk rfl (Below.refl _ _) rfl
      case refine_2 => go_wp2_with (fail); exact RelEnd.mk rfl (Below.refl _ _) rfl
      case refine_3 => go_wp2_with (fail); exact RelEnd.mk rfl (Below.refl _ _) rfl
      case refine_4 =>
        have q := (B0.out.2.below hb5 B0.out.2.lt).cell (show (a.arr A c)[2]? = _ from rfl)
        go_wp2_with (fail); exact RelEnd.mk rfl (Below.refl _ _) rfl
      case refine_5 =>
        go_wp2_with (with_reducible refine stop_load 47 (.tmp 3) rfl rfl ?_)
        refine Stop.mk (wpList_loadB rfl _ _ rfl w.heap.size rfl _ (B0.out.2.below hb5 B0.out.2.lt) strRp rfl ?_)
        go_wp2_with (fail); exact RelEnd.mk rfl (Below.refl _ _) rfl
      case refine_6 =>
        go_wp2_with (go_at_call 40; refine (c_ledger_own a A c _ (HIw.out.below hb5)).mono ?_; rintro e w6 ⟨A6, c6, rfl, own6, hb6⟩)
        exact RelEnd.mk rfl hb6 ⟨A6, c6, rfl, own_base own6 (Nat.le_trans hbw hb5.size)⟩
    · intro u w5 hb5 hold
      simp only [RelHold, Sp.eq_holds, Sp.ownRep_holds, Nat.reduceAdd] at hold
      obtain ⟨e0, e1, -, e3, -, ⟨A6, c6, e5, own6⟩, -⟩ := hold
      have O6 := Lib.hid own6
      have hbw5 := Lib.hid (B0.out.1.trans (hb5.mono hbw))
      have B5 := Lib.hid (Bg.out.below hb5 Bg.out.lt)
      have HL5 := Lib.hid (HL.out.below hbw5.out)
      clear own6 hb5
      have hc := B5.out.cell (by have := lg_get (l := l) (by rw [HL.out.1]; decide) 0 (by omega) (k := 5); exact this)
      have hfz := B5.out.frozen
      simp only [Nat.reduceMul, Nat.reduceAdd] at hc
      simp only [List.drop, List.take, putAll, Act.put, Nat.reduceAdd, List.setIfInBounds_toArray, List.set_cons_zero, List.set_cons_succ]
      rw [e0, e1, e3, e5]
      have K6 := Lib.hid (kept_set w5 g 60 (.int .i64 a.req))
      have B6 := Lib.hid (B5.out.store 60 (.int .i64 a.req))
      have hk : 5 < l.length := by rw [HL.out.1]; decide
      have hz5 := B5.out.lt
      go_wp2_with (with_reducible refine stop_store 47 (.tmp 39) (.tmp 35) rfl rfl ?_)
      refine Stop.mk (wpList_storeAt rfl _ _ _ rfl g (60 + 2) (a.arr A6 c6) rfl rfl _ B6.out strRp rfl (by rw [Array.size_setIfInBounds, lg_size, HL.out.1]; show _ + 10 ≤ 72; omega) (by simp [Value.oneCell']) ?_)
      intro w7 hb7 hk7
      have B7 := Lib.hid (show Blk w7 g (lgArr (l.set 5 (⟨a.req, l[5].1.ep, a⟩, A6, c6))) by rw [← lg_put hk]; exact hb7)
      have KK := Lib.hid (K6.out.trans (hk7.mono (by simp [World.setCell])))
      clear hc hfz hb7 hk7 e0 e1 e3 e5
      go_wp2_with (fail)
      go_ret
      refine ⟨by rw [HY.out]; rfl, (Kept.of_below hbw5.out).trans (KK.out.mono hbw5.out.size), l.set 5 (⟨a.req, l[5].1.ep, a⟩, A6, c6), ⟨by rw [List.length_set]; exact HL.out.1, B7.out, ?_⟩, ?_, ?_⟩
      · exact note_rows HL5.out KK.out O6.out hgw hk
      · exact note_plain HK.out hk HY.out
      · exact note_off O6.out
theorem c_ledger_Note (g : Nat) (l : List LR) (a : Rep) (A : Option Addr) (c : Nat) (w : World) (h : Lg w g l) (ha : InN w A c a.f) (hs : ∀ x ∈ a.f, x.v.s.length ≤ 4294967000) (hm : a.mask < 4294967296) (hfl : a.f.length ≤ 1000000) :
    Calls Try.prog 18 #[.pointer (some ⟨g, 0, none⟩), .agg (a.arr A c)] w (RetNote g l a w) := by
  cases hy : noteOk (rowsOf l) a
  · exact ledger_Note_no g l a A c w h ha hs hm hy
  · exact ledger_Note_yes g l a A c w h ha hs hm hfl hy
end Go.Proofs.Ytjhndilflcigiaa
