/-
  The walk of the law BitsSets: it answers true, whatever the sets and the numbers.
-/
import Derived.Test.YtkofjkadmknmjaaDoorBs09
import Derived.Test.YtkofjkadmknmjaaDoorRows
import Derived.WalkKit
import Derived.WalkSpells
import Derived.WalkLawsBesides
import Derived.Lib.Hide
import Derived.Deep.QuietTactic
import Derived.BigQuiet
import Derived.Maps.AppendAt
import Derived.WalkSmall
import Derived.ProofKit
import Derived.OpenShut
import Derived.JoinedCond
import Derived.Deep.Slices
import Derived.Deep.Fields
import Derived.Carry
import Derived.HandedShaped
import Derived.Shelf.Small.Wraps
import Derived.Shelf.Utf8.RuneCount
import Derived.Shelf.Strconv.Itoa0
import Derived.Shelf.Strconv.Itoa1
import Derived.Shelf.LaysM
import Derived.Shelf.Strconv.Itoa2
import Derived.Shelf.Strconv.Itoa3
import Derived.Shelf.Strings.Search1
import Derived.Shelf.Strings.Search2
import Derived.Shelf.Strings.Search3
import Derived.Shelf.Strings.Count
import Derived.Shelf.Strings.Shaped
import Derived.Shelf.Strings.Prefix
import Derived.Shelf.Strings.Split
import Derived.Shelf.Strings.SplitShaped
import Derived.Shelf.Unicode.DecodeSlow
import Derived.Test.YtkofjkadmknmjaaDoorProg
import Derived.Deep.AppendSrc
import Derived.Lib.AppendStr
import Derived.Laws.BytesArg
import Derived.Lib.AppendIntMem
import Derived.Lib.ItoaLen
import Derived.Lib.TrailingZeros
import Derived.Lib.SplitLaws
import Derived.Lib.ItoaNum
import Derived.Shelf.Strings.PiecesUse
import Derived.Shelf.Spec.TrailingZeros
import Derived.RangeFuncNested
import Derived.RangeFuncBound
import Derived.RangeFuncCalls
import Derived.RangeFuncLeaves
import Derived.Shelf.Abstract
import Derived.Shelf.RegionOpen
import Derived.OwnWalkIn
import Derived.TacticsInMore
import Derived.LoopNIn
import Derived.LoopIn
import Derived.Test.YtkofjkadmknmjaaDoorTie
import Derived.Lib.LaidTab
import Derived.LaidMore
import Derived.Lay
import Derived.Stop.LaidErr
import Derived.SevenTiedAt
import Derived.Test.YtkofjkadmknmjaaDoorCards
import Derived.StillTail
import Derived.OrdersIn
import Derived.ControlIn
import Derived.Lib.BitFns
import Derived.Deep.CutBlock
import Derived.Deep.DeepCutAuto
import Derived.Laws.IdiomStrings
import Derived.Outline
import Derived.IntWalk
import Derived.Lib.Tables
namespace Go.Proofs.YtkofjkadmknmjaaDoor
open Go.RowKit Go.Shelf Go.Maps

theorem results_cell1 {P : Program} {w : World} {fn : Func} {p : Tmp} {ty : TypeId} (h : fn.results = #[.cell p ty]) {tmps : Array Value} {ad : Addr} {v : Value} (hp : tmps.getD p undef = .pointer (some ad)) (hl : (loadVar ty ad).run P w = .ok v w) : (results fn tmps).run P w = .ok v w := by
  have hp' : tmps[p]?.getD undef = .pointer (some ad) := by simpa using hp
  simp [results, h, hp', asAddr, hl]
theorem run_loadVar_bool {W : World} {a : Addr} {v : Value} (h : W.cell? a = some v) : (loadVar 4 a).run Tryd.prog W = .ok v W := by
  unfold loadVar
  rw [Sem.run_bind, Tryd.isAgg4]
  simp [h]
theorem load_res {w2 : World} {rb D : Nat} {t : TypeId} {o : Obj} (h : w2.heap[rb]? = some (.cells #[.bool false] t (0, 0))) (hD : rb ≠ D) : (loadVar 4 ⟨rb, 0, none⟩).run Tryd.prog ((w2.setCell ⟨rb, 0, none⟩ (.bool true)).putObj D o) = .ok (.bool true) ((w2.setCell ⟨rb, 0, none⟩ (.bool true)).putObj D o) :=
  run_loadVar_bool ((World.cell?_of_block (a := ⟨rb, 0, none⟩) (World.putObj_heap_other hD)).trans (box_cell (box_set _ h)).1)
theorem wp_named {P : Program} {c : Code} {Q : Exit → Act → World → Prop} {w : World} {tmps : Array Value} {ds : List Deferred} (h : ∀ ts, ts = tmps → c.wp P Q { tmps := ts, defers := ds } w) : c.wp P Q { tmps := tmps, defers := ds } w := h _ rfl
theorem h0cell {l : List Int} {A : Option Addr} {c : Nat} {w : World} (h : InI w A c l) {k : Nat} (hk : k < l.length) : ∃ b off, A = some ⟨b, off, none⟩ ∧ b < w.heap.size ∧ w.cell? ⟨b, off + k, none⟩ = some (.int .i64 l[k]) := by
  obtain ⟨b, off, hA, hbb, hrow⟩ := h.at (i := k) hk
  have := hrow k hk 0 _ rfl
  exact ⟨b, off, hA, hbb, by simpa using this⟩
set_option maxHeartbeats 4000000 in
set_option maxRecDepth 100000 in
theorem c_law03_BitsSets (a b : Nat) (l : List Int) (A : Option Addr) (c : Nat) (w : World) (ha : a < 4294967296) (hb : b < 4294967296) (h : InI w A c l) (hl : l.length ≤ 200) (hT : Tab w) (hP : PowTab w) (hM : MaxV w) :
    Calls Tryd.prog 9 #[.int .u32 a, .int .u32 b, .slice A l.length c] w (RetV w (.bool true)) := by
  have HT := Lib.hid (fun w' (hb : Below w.heap.size w w') => hT.below hb)
  have HP := Lib.hid (fun w' (hb : Below w.heap.size w w') => hP.below hb)
  have HM := Lib.hid (fun w' (hb : Below w.heap.size w w') => hM.below hb)
  have hL := h.1
  have hC := h.2.1
  have H := Lib.hid h
  clear hT hP hM h
  have d1 : decide ((200 : Int) < (l.length : Int)) = false := by simp; omega
  refine (callsIn_wide (n := 8)).1 ?_
  refine callsIn_of_wp_marks Tryd.func9 rfl trivial ?_ rfl
  simp only [Tryd.ntmps9, List.size_toArray, List.length_cons, List.length_nil, Nat.reduceAdd, Nat.reduceSub, Array.replicate_succ, Array.replicate_zero, List.push_toArray, List.append_toArray, List.nil_append, List.cons_append]
  refine wpIn_wide.2 ?_
  go_wp2_with (fail)
  have hcell0 := Lib.hid (fun (k : Nat) (hk : k < l.length) => h0cell H.out hk)
  go_loopw [7, 8] (fun o i wr => ∃ k : Nat, k ≤ l.length ∧ i = .int .i64 k ∧ o = .int .u32 (maskOf (l.take k)) ∧ Hid (Blk wr w.heap.size #[.bool false]) ∧ Hid (Below w.heap.size w wr)) (fun _ i _ => l.length - (intOf i).toNat)
  case atStart => exact ⟨0, Nat.zero_le _, rfl, rfl, Blk.new _ _ _, (by repeat (first | exact Below.refl _ _ | refine Below.drew ?_ | refine Below.alloc ?_ (by first | omega | (simp; done) | (simp; omega)) _ | refine Below.setCell ?_ (by first | omega | (simp; done) | (simp; omega)) _ | refine Below.trans ?_ (Below.mono (by assumption) (by first | omega | (simp; done) | (simp; omega)))))⟩
  case round =>
    obtain ⟨k, hk, rfl, rfl, HB, B1⟩ := hrel
    have hz := B1.out.size
    by_cases hlt : k < l.length
    · have d2 : decide (k < l.length) = true := by simpa using hlt
      obtain ⟨bk, off, rfl, hbb, hc0⟩ := hcell0.out k hlt
      replace hc0 := (B1.out.cell (p := ⟨bk, off + k, none⟩) hbb).trans hc0
      have hbr : bk < wr.heap.size := by omega
      obtain ⟨n, hnn⟩ : ∃ n : Int, l[k] = n := ⟨_, rfl⟩
      rw [hnn] at hc0
      have hb1 := maskOf_lt (l.take k)
      have H2 := Lib.hid (show maskOf (l.take (k + 1)) = maskOf (l.take k) ||| bitN n by
        rw [List.take_succ_eq_append_getElem hlt, maskOf_snoc, hnn])
      obtain ⟨m, hm⟩ : ∃ m, maskOf (l.take k) = m := ⟨_, rfl⟩
      rw [hm] at hb1 ⊢
      replace H2 := Lib.hid (by have := H2.out; rw [hm] at this; exact this)
      have hk0 : (0 : Int) ≤ (k : Int) := by omega
      have hk1 : (k : Int) < (l.length : Int) := by omega
      clear hnn hm
      go_wp2_with (fail)
      refine wp_region_grow (by kernel_rfl) (by kernel_rfl) ?_
      repeat (quiet_step ((first | (go_at_call 39; exact quiet_grow (c_bits_Has a n ha _)) | (go_at_call 40; exact quiet_grow (c_ref03_HasA a n ha _)) | (go_at_call 41; exact quiet_grow (c_bits_With a n ha _)) | (go_at_call 42; exact quiet_grow (c_ref03_WithA a n ha _)) | (go_at_call 43; exact quiet_grow (c_bits_Without a n ha _)) | (go_at_call 44; exact quiet_grow (c_ref03_Without a n ha _)))))
      refine wpQuiet_nil ?_
      intro w2 hb2
      have hc2 := (hb2.cell (p := ⟨bk, off + k, none⟩) hbr).trans hc0
      have HB2 := Lib.hid (HB.out.below hb2 HB.out.lt)
      have B2 := Lib.hid (B1.out.trans (hb2.mono hz))
      clear hb2 hc0 HB B1
      go_wp2_with (fail)
      refine (c_ref03_WithA m n hb1 _).mono ?_
      rintro e w3 ⟨rfl, hb3⟩
      have HB3 := Lib.hid (HB2.out.below hb3 HB2.out.lt)
      have B3 := Lib.hid (B2.out.trans (hb3.mono B2.out.size))
      clear hb3 hc2 HB2 B2
      go_wp2_with (fail)
      go_roundw
      case rel => exact ⟨k + 1, by omega, by go_num, by rw [H2.out], HB3.out, B3.out⟩
      case measure => simp [intOf]; omega
    · obtain rfl : k = l.length := by omega
      have d2 : decide (l.length < l.length) = false := by simp
      have HT2 := Lib.hid (List.take_of_length_le (Nat.le_refl l.length))
      rw [HT2.out]
      clear hlt
      go_wp2_with (fail)
      refine (c_ref03_List a ha _).mono ?_
      rintro e w1 ⟨v1, rfl, own1, hb1⟩
      have hil := idx_len a
      obtain ⟨A1, c1, rfl, hin⟩ := In.of_own ic_len own1 (by rw [List.length_map]; omega)
      rw [List.length_map]
      have HI1 := Lib.hid hin
      have HO := Lib.hid own1
      have B2 := Lib.hid hb1
      have hz1 := hb1.size
      clear own1 hin hb1
      go_wp2_with (fail)
      refine (c_bits_Each a _).mono ?_
      rintro e w2 ⟨rfl, rfl⟩
      have kneq : ∀ (x : World) (g : Nat), (binOp BinOp.eql 48 (.func (.func 82) #[] #[.pointer (some ⟨g, 0, none⟩)]) Value.nilFunc).run Tryd.prog x = .ok (.bool false) x := fun _ _ => by first | rfl | kernel_rfl
      go_wp2_with (fail)
      have hwr := HB.out.lt
      have hwb := hz1
      obtain ⟨nb, hnb⟩ : ∃ nb, nb = wr.heap.size := ⟨_, rfl⟩
      obtain ⟨W0, hW0⟩ : ∃ W0, (w1.alloc (.cells #[.slice A1 (idx a).length c1] 44)).alloc (.cells #[.int .u32 a] 35) = W0 := ⟨_, rfl⟩
      have hs0 : W0.heap.size = w1.heap.size + 2 := by rw [← hW0]; simp
      have hz1' : nb + 1 ≤ w1.heap.size := by rw [hnb]; simpa using hz1
      have hq0 : W0.heap[w1.heap.size + 1]? = some (.cells #[.int .u32 a] 35 (0, 0)) := by
        rw [← hW0]
        have := World.alloc_heap_new (w1.alloc (.cells #[.slice A1 (idx a).length c1] 44)) (.cells #[.int .u32 a] 35)
        rwa [World.size_alloc] at this
      have hwb0 : W0.heap[w1.heap.size]? = some (.cells #[.slice A1 (idx a).length c1] 44 (0, 0)) := by
        rw [← hW0]
        exact (Below.heap_alloc _ _ _ (by simp)).trans (World.alloc_heap_new w1 _)
      have hold : ∀ j, j < w1.heap.size → W0.heap[j]? = w1.heap[j]? := fun j hj => by
        rw [← hW0]
        exact (Below.heap_alloc _ _ _ (by simp; omega)).trans (Below.heap_alloc _ _ _ hj)
      have hnb0 : W0.heap[nb]? = some (.cells #[.int .i64 0] 3 (0, 0)) := by
        rw [hold nb (by omega), B2.out.block nb (by rw [hnb]; simp), hnb]
        exact World.alloc_heap_new wr _
      have hb0 : Below w.heap.size w W0 := by
        have h1 : Below w.heap.size w w1 := B1.out.trans ((((Below.refl _ _).alloc (Nat.le_refl _) (.cells #[.int .i64 0] 3)).trans (B2.out.mono (by simp))).mono B1.out.size)
        rw [← hW0]
        exact (h1.alloc h1.size _).alloc (by have := h1.size; simp; omega) _
      have hrb0 : ∃ t, W0.heap[w.heap.size]? = some (.cells #[.bool false] t (0, 0)) := by
        obtain ⟨t, ht⟩ := HB.out
        refine ⟨t, ?_⟩
        rw [hold _ (by omega), B2.out.block _ (by simp; omega)]
        exact (Below.heap_alloc _ _ _ hwr).trans ht
      have hlist : ∀ k (hk : k < (idx a).length), ∃ lb off, A1 = some ⟨lb, off, none⟩ ∧ lb < W0.heap.size ∧ lb ≠ nb ∧ lb ≠ w1.heap.size + 1 ∧ W0.cell? ⟨lb, off + k, none⟩ = some (.int .i64 (((idx a).getD k 0 : Nat) : Int)) := by
        intro k hk
        obtain ⟨g, cg, hv, -, -, hg1, hg2⟩ := own_form' HO.out (by rw [List.length_map]; omega)
        obtain ⟨b2, off, hA, hbb, hrow⟩ := HI1.out.at (i := k) (by rw [List.length_map]; exact hk)
        have hgb : b2 = g := by
          rw [hA] at hv
          injection hv with hv _ _
          injection hv with hv
          injection hv
        subst hgb
        have hg3 : nb + 1 ≤ b2 := by rw [hnb]; simpa using hg1
        refine ⟨b2, off, hA, by omega, by omega, by omega, ?_⟩
        have hc := hrow k (by rw [List.length_map]; exact hk) 0 _ rfl
        refine (World.cell?_of_block (w := w1) (a := ⟨b2, off + k, none⟩) (hold b2 hbb)).trans ?_
        rw [List.getElem_map] at hc
        rw [List.getD_eq_getElem?_getD, List.getElem?_eq_getElem hk]
        simpa using hc
      rw [← hnb, hW0]
      have eg : ∀ args W, (callFunc 82 args).run Tryd.prog W = .ok (.enter 82 args) W := enters_of Tryd.func82 (by kernel_rfl) rfl
      have hTW := HT.out w (Below.refl _ _)
      have hlt := hTW.lt
      have hwsz : w.heap.size < nb := by omega
      clear hW0 hold kneq hnb
      refine wp_named (fun ts hts => ?_)
      refine (wpIn_wide (n := 8)).1 ?_
      refine wpIn_rangeFunc_idx (F := Fence.wide) (n := 8) rfl (by omega) (gf := 82) (lb := #[.pointer (some ⟨w1.heap.size + 1, 0, none⟩)]) (by rw [hts]; rfl) trivial eg
        (each_seq 7 (by omega) (w1.heap.size + 1) a ha (by omega)) ?hq ?hT ?hKt ?hKb ?hps (fun k W => W.heap[nb]? = some (.cells #[.int .i64 k] 3 (0, 0)) ∧ (∀ j, j < W0.heap.size → j ≠ nb → j ≠ w1.heap.size + 1 → W.heap[j]? = W0.heap[j]?) ∧ Below w.heap.size w W ∧ W0.heap.size ≤ W.heap.size) ?hIq ?hI ?h0
        (fun k a' _ => a' = { tmps := (ts.setIfInBounds 79 (.int .i64 (((idx a).getD k 0 : Nat) : Int))).setIfInBounds 12 (.int .i64 (((idx a).getD k 0 : Nat) : Int)), defers := [] }) ?hAx ?hassign ?hbody ?hdone
      case hq =>
        intro k e
        injection e with e
        omega
      case hT =>
        intro W' hb
        exact ⟨(hb.block _ (by omega)).trans hq0, hTW.below (hb0.trans (hb.mono hb0.size))⟩
      case hKt => exact fun h k => h.trans k
      case hKb =>
        intro W l o o' hl _ _ _
        exact ⟨World.putObj_heap_other (by omega), World.putObj_heap_other (by omega)⟩
      case hps => intro x; rfl
      case hIq =>
        rintro k A B ⟨h1, h2, h3, h4⟩ hg
        refine ⟨grownBy_same hg h1 (fun e => by injection e with e; omega), fun j hj hj1 hj2 => ?_, h3.grown hg h3.size (fun j e => by injection e with e; omega), Nat.le_trans h4 hg.size⟩
        exact (hg.block j (by omega) (fun e => hj2 (by injection e))).trans (h2 j hj hj1 hj2)
      case hI =>
        rintro k W W' row ⟨h1, h2, h3, h4⟩ hg hr
        refine ⟨grownBy_same hg h1 (fun e => by have := (hr _ e).1; omega), fun j hj hj1 hj2 => ?_, h3.grown hg h3.size (fun j e => by have := (hr _ e).1; omega), Nat.le_trans h4 hg.size⟩
        exact (hg.block j (by omega) (fun e => by have := (hr _ e.symm).1; omega)).trans (h2 j hj hj1 hj2)
      case h0 => exact ⟨hnb0, fun j _ _ _ => rfl, hb0, Nat.le_refl _⟩
      case hAx => exact fun k a' _ _ _ _ h _ _ => h
      case hassign =>
        rintro l' k W K hk hI hK
        subst hts
        unfold eachEnc
        obtain ⟨x, hx⟩ : ∃ x, (idx a).getD k 0 = x := ⟨_, rfl⟩
        rw [hx]
        gi_wp2_with (rw [Oper.semAt_eq _ _ _ (fun c h => by cases h)]; go_simp; try go_bits)
        refine hK _ _ (KeepsFrom.refl _ _) ⟨rfl, rfl⟩ hI ?_
        rw [hx]
        simp
      case hbody =>
        rintro l' k a' W hk hl' ⟨h1, h2, h3, h4⟩ rfl
        obtain ⟨lb, off, hA1, hlb, hlbn, hlbq, hcell⟩ := hlist k hk
        obtain ⟨x, hx⟩ : ∃ x, (idx a).getD k 0 = x := ⟨_, rfl⟩
        rw [hx] at hcell ⊢
        obtain ⟨hcn, hfn⟩ := box_cell h1
        obtain ⟨hcw, -⟩ := box_cell ((h2 w1.heap.size (by omega) (by omega) (by omega)).trans hwb0)
        have hcx := (World.cell?_of_block (w := W0) (a := ⟨lb, off + k, none⟩) (h2 lb hlb hlbn hlbq)).trans hcell
        have dk : decide ((idx a).length ≤ k) = false := by simp; omega
        have dx : ((x : Int) != (x : Int)) = false := by simp
        have dx2 : ((x : Int) == (x : Int)) = true := by simp
        have hk0 : (0 : Int) ≤ (k : Int) := by omega
        have hk1 : (k : Int) < ((idx a).length : Int) := by omega
        subst hA1
        subst hts
        simp only [List.setIfInBounds_toArray, List.set_cons_zero, List.set_cons_succ]
        gi_wp2_with (rw [Oper.semAt_eq _ _ _ (fun c h => by cases h)]; go_simp; try go_bits)
        refine ⟨⟨by simp [World.setCell], fun j o hj hjo _ => ?_⟩, ⟨?_, ?_⟩, ?_, fun j hj hj1 hj2 => ?_, ?_, ?_⟩
        · exact (Below.heap_setCell _ _ _ _ (by show j ≠ nb; omega)).trans hjo
        · exact Below.heap_setCell _ _ _ _ (by show w1.heap.size + 1 ≠ nb; omega)
        · exact Below.heap_setCell _ _ _ _ (by show 0 ≠ nb; omega)
        · have := box_set (.int .i64 ((k + 1 : Nat) : Int)) h1
          push_cast at this
          exact this
        · exact (Below.heap_setCell _ _ _ _ (by show j ≠ nb; exact hj1)).trans (h2 j hj hj1 hj2)
        · exact h3.setCell (by show w.heap.size ≤ nb; omega) _
        · simpa [World.setCell] using h4
      case hdone =>
        rintro D W hD ⟨h1, h2, h3, h4⟩ hWD
        obtain ⟨hcn, hfn⟩ := box_cell h1
        obtain ⟨hcw, -⟩ := box_cell ((h2 w1.heap.size (by omega) (by omega) (by omega)).trans hwb0)
        obtain ⟨tr, hrb⟩ := hrb0
        replace hrb := (h2 w.heap.size (by omega) (by omega) (by omega)).trans hrb
        have HRB := Lib.hid hrb
        have HWD := Lib.hid hWD
        have hDl : D < W.heap.size := (Array.getElem?_eq_some_iff.1 hWD).1
        have hob : a ||| b < 4294967296 := Nat.or_lt_two_pow (n := 32) ha hb
        have WO := Lib.hid (fun w' => show Calls Tryd.prog 49 #[.int .u32 a, .int .u32 (a ||| b : Nat)] w' (RetV w' (.bool true)) by have := c_bits_WithinA a (a ||| b) ha hob w'; rw [within_or] at this; exact this)
        have ho := or_u32 a b ha hb
        subst hts
        clear hrb hWD hlist hcell0 eg HI1 hnb0 hwb0 hq0
        go_wp2_with (fail)
        refine wp_region_relT [Sp.eq (.slice A l.length c), Sp.eq (.int .u32 (maskOf l)), Sp.eq (.int .u32 (maskOf l)), Sp.eq (.bool true), Sp.eq (.bool true), Sp.eq (.int .i64 (idx a).length), Sp.eq (.slice A1 (idx a).length c1), Sp.eq (.int .i64 (idx a).length), Sp.eq (.bool true), Sp.eq (.bool true), Sp.eq (.bool true), Sp.eq (.int .u32 a), Sp.eq (.int .i64 (idx a).length), Sp.eq (.int .i64 (idx a).length), Sp.eq (.bool true), Sp.eq (.bool true), Sp.eq (.bool true), Sp.eq (.int .u32 a), Sp.eq (.int .u32 b), Sp.eq (.bool (within a b)), Sp.eq (.int .u32 a), Sp.eq (.int .u32 b), Sp.eq (.bool (within a b)), Sp.eq (.bool true), Sp.eq (.bool true), Sp.eq (.bool true), Sp.eq (.int .u32 a), Sp.eq (.int .u32 a), Sp.eq (.int .u32 b), Sp.eq (.int .u32 (a ||| b : Nat)), Sp.eq (.bool true), Sp.eq (.bool true), Sp.eq (.bool true), Sp.eq (.bool true), Sp.eq (.bool true)] 129 35 (by kernel_rfl) (by decide) (by kernel_rfl) (by kernel_rfl) (by kernel_rfl) (by kernel_rfl) rfl rfl ?_ ?_
        · refine ⟨?_, ?_, ?_, ?_, ?_, ?_, ?_, ?_, ?_, ?_, ?_, ?_, ?_, ?_, ?_, ?_, ?_, ?_, ?_, ?_, ?_, ?_, ?_, ?_, ?_, ?_, ?_, ?_, ?_, ?_, ?_, ?_, ?_, ?_, ?_, trivial⟩
          all_goals (intro u w2 hb2 hd; simp [Deps, Region.binds, Sp.eq_holds] at hd; simp only [putDeps, dstOf, Region.binds])
          case refine_1 =>
            (try (obtain ⟨d0, hd⟩ := hd; (try (obtain ⟨d1, hd⟩ := hd; (try (obtain ⟨d2, hd⟩ := hd; (try (obtain ⟨d3, hd⟩ := hd))))))))
            go_wp2_with (fail)
            exact RelEnd.mk rfl (Below.refl _ _) (by first | rfl | (simp; done))
          case refine_2 =>
            (try (obtain ⟨d0, hd⟩ := hd; (try (obtain ⟨d1, hd⟩ := hd; (try (obtain ⟨d2, hd⟩ := hd; (try (obtain ⟨d3, hd⟩ := hd))))))))
            go_wp2_with (fail)
            refine (c_bits_OfA l A c _ (H.out.below (h3.trans (hb2.mono h3.size)))).mono ?_
            rintro e w3 ⟨rfl, hb3⟩
            go_wp2_with (fail)
            exact RelEnd.mk rfl hb3 rfl
          case refine_3 =>
            (try (obtain ⟨d0, hd⟩ := hd; (try (obtain ⟨d1, hd⟩ := hd; (try (obtain ⟨d2, hd⟩ := hd; (try (obtain ⟨d3, hd⟩ := hd))))))))
            go_wp2_with (fail)
            exact RelEnd.mk rfl (Below.refl _ _) (by first | rfl | (simp; done))
          case refine_4 =>
            (try (obtain ⟨d0, hd⟩ := hd; (try (obtain ⟨d1, hd⟩ := hd; (try (obtain ⟨d2, hd⟩ := hd; (try (obtain ⟨d3, hd⟩ := hd))))))))
            go_wp2_with (fail)
            exact RelEnd.mk rfl (Below.refl _ _) (by first | rfl | (simp; done))
          case refine_5 =>
            (try (obtain ⟨d0, hd⟩ := hd; (try (obtain ⟨d1, hd⟩ := hd; (try (obtain ⟨d2, hd⟩ := hd; (try (obtain ⟨d3, hd⟩ := hd))))))))
            go_wp2_with (fail)
            exact RelEnd.mk rfl (Below.refl _ _) (by first | rfl | (simp; done))
          case refine_6 =>
            (try (obtain ⟨d0, hd⟩ := hd; (try (obtain ⟨d1, hd⟩ := hd; (try (obtain ⟨d2, hd⟩ := hd; (try (obtain ⟨d3, hd⟩ := hd))))))))
            have qn := (hb2.cell (p := ⟨nb, 0, none⟩) (by show nb < W.heap.size; omega)).trans hcn
            go_wp2_with (fail)
            exact RelEnd.mk rfl (Below.refl _ _) (by first | rfl | (simp; done))
          case refine_7 =>
            (try (obtain ⟨d0, hd⟩ := hd; (try (obtain ⟨d1, hd⟩ := hd; (try (obtain ⟨d2, hd⟩ := hd; (try (obtain ⟨d3, hd⟩ := hd))))))))
            have qw := (hb2.cell (p := ⟨w1.heap.size, 0, none⟩) (by show w1.heap.size < W.heap.size; omega)).trans hcw
            go_wp2_with (fail)
            exact RelEnd.mk rfl (Below.refl _ _) (by first | rfl | (simp; done))
          case refine_8 =>
            (try (obtain ⟨d0, hd⟩ := hd; (try (obtain ⟨d1, hd⟩ := hd; (try (obtain ⟨d2, hd⟩ := hd; (try (obtain ⟨d3, hd⟩ := hd))))))))
            go_wp2_with (fail)
            exact RelEnd.mk rfl (Below.refl _ _) (by first | rfl | (simp; done))
          case refine_9 =>
            (try (obtain ⟨d0, hd⟩ := hd; (try (obtain ⟨d1, hd⟩ := hd; (try (obtain ⟨d2, hd⟩ := hd; (try (obtain ⟨d3, hd⟩ := hd))))))))
            go_wp2_with (fail)
            exact RelEnd.mk rfl (Below.refl _ _) (by first | rfl | (simp; done))
          case refine_10 =>
            (try (obtain ⟨d0, hd⟩ := hd; (try (obtain ⟨d1, hd⟩ := hd; (try (obtain ⟨d2, hd⟩ := hd; (try (obtain ⟨d3, hd⟩ := hd))))))))
            go_wp2_with (fail)
            exact RelEnd.mk rfl (Below.refl _ _) (by first | rfl | (simp; done))
          case refine_11 =>
            (try (obtain ⟨d0, hd⟩ := hd; (try (obtain ⟨d1, hd⟩ := hd; (try (obtain ⟨d2, hd⟩ := hd; (try (obtain ⟨d3, hd⟩ := hd))))))))
            go_wp2_with (fail)
            exact RelEnd.mk rfl (Below.refl _ _) (by first | rfl | (simp; done))
          case refine_12 =>
            (try (obtain ⟨d0, hd⟩ := hd; (try (obtain ⟨d1, hd⟩ := hd; (try (obtain ⟨d2, hd⟩ := hd; (try (obtain ⟨d3, hd⟩ := hd))))))))
            go_wp2_with (fail)
            exact RelEnd.mk rfl (Below.refl _ _) (by first | rfl | (simp; done))
          case refine_13 =>
            (try (obtain ⟨d0, hd⟩ := hd; (try (obtain ⟨d1, hd⟩ := hd; (try (obtain ⟨d2, hd⟩ := hd; (try (obtain ⟨d3, hd⟩ := hd))))))))
            go_wp2_with (fail)
            refine (c_bits_Count a ha _).mono ?_
            rintro e w3 ⟨rfl, hb3⟩
            go_wp2_with (fail)
            exact RelEnd.mk rfl hb3 rfl
          case refine_14 =>
            (try (obtain ⟨d0, hd⟩ := hd; (try (obtain ⟨d1, hd⟩ := hd; (try (obtain ⟨d2, hd⟩ := hd; (try (obtain ⟨d3, hd⟩ := hd))))))))
            have qn := (hb2.cell (p := ⟨nb, 0, none⟩) (by show nb < W.heap.size; omega)).trans hcn
            go_wp2_with (fail)
            exact RelEnd.mk rfl (Below.refl _ _) (by first | rfl | (simp; done))
          case refine_15 =>
            (try (obtain ⟨d0, hd⟩ := hd; (try (obtain ⟨d1, hd⟩ := hd; (try (obtain ⟨d2, hd⟩ := hd; (try (obtain ⟨d3, hd⟩ := hd))))))))
            go_wp2_with (fail)
            exact RelEnd.mk rfl (Below.refl _ _) (by first | rfl | (simp; done))
          case refine_16 =>
            (try (obtain ⟨d0, hd⟩ := hd; (try (obtain ⟨d1, hd⟩ := hd; (try (obtain ⟨d2, hd⟩ := hd; (try (obtain ⟨d3, hd⟩ := hd))))))))
            go_wp2_with (fail)
            exact RelEnd.mk rfl (Below.refl _ _) (by first | rfl | (simp; done))
          case refine_17 =>
            (try (obtain ⟨d0, hd⟩ := hd; (try (obtain ⟨d1, hd⟩ := hd; (try (obtain ⟨d2, hd⟩ := hd; (try (obtain ⟨d3, hd⟩ := hd))))))))
            go_wp2_with (fail)
            exact RelEnd.mk rfl (Below.refl _ _) (by first | rfl | (simp; done))
          case refine_18 =>
            (try (obtain ⟨d0, hd⟩ := hd; (try (obtain ⟨d1, hd⟩ := hd; (try (obtain ⟨d2, hd⟩ := hd; (try (obtain ⟨d3, hd⟩ := hd))))))))
            go_wp2_with (fail)
            exact RelEnd.mk rfl (Below.refl _ _) (by first | rfl | (simp; done))
          case refine_19 =>
            (try (obtain ⟨d0, hd⟩ := hd; (try (obtain ⟨d1, hd⟩ := hd; (try (obtain ⟨d2, hd⟩ := hd; (try (obtain ⟨d3, hd⟩ := hd))))))))
            go_wp2_with (fail)
            exact RelEnd.mk rfl (Below.refl _ _) (by first | rfl | (simp; done))
          case refine_20 =>
            (try (obtain ⟨d0, hd⟩ := hd; (try (obtain ⟨d1, hd⟩ := hd; (try (obtain ⟨d2, hd⟩ := hd; (try (obtain ⟨d3, hd⟩ := hd))))))))
            go_wp2_with (fail)
            refine (c_bits_WithinA a b ha hb _).mono ?_
            rintro e w3 ⟨rfl, hb3⟩
            go_wp2_with (fail)
            exact RelEnd.mk rfl hb3 rfl
          case refine_21 =>
            (try (obtain ⟨d0, hd⟩ := hd; (try (obtain ⟨d1, hd⟩ := hd; (try (obtain ⟨d2, hd⟩ := hd; (try (obtain ⟨d3, hd⟩ := hd))))))))
            go_wp2_with (fail)
            exact RelEnd.mk rfl (Below.refl _ _) (by first | rfl | (simp; done))
          case refine_22 =>
            (try (obtain ⟨d0, hd⟩ := hd; (try (obtain ⟨d1, hd⟩ := hd; (try (obtain ⟨d2, hd⟩ := hd; (try (obtain ⟨d3, hd⟩ := hd))))))))
            go_wp2_with (fail)
            exact RelEnd.mk rfl (Below.refl _ _) (by first | rfl | (simp; done))
          case refine_23 =>
            (try (obtain ⟨d0, hd⟩ := hd; (try (obtain ⟨d1, hd⟩ := hd; (try (obtain ⟨d2, hd⟩ := hd; (try (obtain ⟨d3, hd⟩ := hd))))))))
            go_wp2_with (fail)
            refine (c_ref03_Within a b ha hb _).mono ?_
            rintro e w3 ⟨rfl, hb3⟩
            go_wp2_with (fail)
            exact RelEnd.mk rfl hb3 rfl
          case refine_24 =>
            (try (obtain ⟨d0, hd⟩ := hd; (try (obtain ⟨d1, hd⟩ := hd; (try (obtain ⟨d2, hd⟩ := hd; (try (obtain ⟨d3, hd⟩ := hd))))))))
            go_wp2_with (fail)
            exact RelEnd.mk rfl (Below.refl _ _) (by first | rfl | (simp; done))
          case refine_25 =>
            (try (obtain ⟨d0, hd⟩ := hd; (try (obtain ⟨d1, hd⟩ := hd; (try (obtain ⟨d2, hd⟩ := hd; (try (obtain ⟨d3, hd⟩ := hd))))))))
            go_wp2_with (fail)
            exact RelEnd.mk rfl (Below.refl _ _) (by first | rfl | (simp; done))
          case refine_26 =>
            (try (obtain ⟨d0, hd⟩ := hd; (try (obtain ⟨d1, hd⟩ := hd; (try (obtain ⟨d2, hd⟩ := hd; (try (obtain ⟨d3, hd⟩ := hd))))))))
            go_wp2_with (fail)
            exact RelEnd.mk rfl (Below.refl _ _) (by first | rfl | (simp; done))
          case refine_27 =>
            (try (obtain ⟨d0, hd⟩ := hd; (try (obtain ⟨d1, hd⟩ := hd; (try (obtain ⟨d2, hd⟩ := hd; (try (obtain ⟨d3, hd⟩ := hd))))))))
            go_wp2_with (fail)
            exact RelEnd.mk rfl (Below.refl _ _) (by first | rfl | (simp; done))
          case refine_28 =>
            (try (obtain ⟨d0, hd⟩ := hd; (try (obtain ⟨d1, hd⟩ := hd; (try (obtain ⟨d2, hd⟩ := hd; (try (obtain ⟨d3, hd⟩ := hd))))))))
            go_wp2_with (fail)
            exact RelEnd.mk rfl (Below.refl _ _) (by first | rfl | (simp; done))
          case refine_29 =>
            (try (obtain ⟨d0, hd⟩ := hd; (try (obtain ⟨d1, hd⟩ := hd; (try (obtain ⟨d2, hd⟩ := hd; (try (obtain ⟨d3, hd⟩ := hd))))))))
            go_wp2_with (fail)
            exact RelEnd.mk rfl (Below.refl _ _) (by first | rfl | (simp; done))
          case refine_30 =>
            (try (obtain ⟨d0, hd⟩ := hd; (try (obtain ⟨d1, hd⟩ := hd; (try (obtain ⟨d2, hd⟩ := hd; (try (obtain ⟨d3, hd⟩ := hd))))))))
            go_wp2_with (fail)
            exact RelEnd.mk rfl (Below.refl _ _) (by first | rfl | (simp; done))
          case refine_31 =>
            (try (obtain ⟨d0, hd⟩ := hd; (try (obtain ⟨d1, hd⟩ := hd; (try (obtain ⟨d2, hd⟩ := hd; (try (obtain ⟨d3, hd⟩ := hd))))))))
            go_wp2_with (fail)
            refine (WO.out _).mono ?_
            rintro e w3 ⟨rfl, hb3⟩
            go_wp2_with (fail)
            exact RelEnd.mk rfl hb3 rfl
          case refine_32 =>
            (try (obtain ⟨d0, hd⟩ := hd; (try (obtain ⟨d1, hd⟩ := hd; (try (obtain ⟨d2, hd⟩ := hd; (try (obtain ⟨d3, hd⟩ := hd))))))))
            go_wp2_with (fail)
            exact RelEnd.mk rfl (Below.refl _ _) (by first | rfl | (simp; done))
          case refine_33 =>
            (try (obtain ⟨d0, hd⟩ := hd; (try (obtain ⟨d1, hd⟩ := hd; (try (obtain ⟨d2, hd⟩ := hd; (try (obtain ⟨d3, hd⟩ := hd))))))))
            go_wp2_with (fail)
            exact RelEnd.mk rfl (Below.refl _ _) (by first | rfl | (simp; done))
          case refine_34 =>
            (try (obtain ⟨d0, hd⟩ := hd; (try (obtain ⟨d1, hd⟩ := hd; (try (obtain ⟨d2, hd⟩ := hd; (try (obtain ⟨d3, hd⟩ := hd))))))))
            go_wp2_with (fail)
            refine (c_law03_awake _ (HT.out _ (h3.trans (hb2.mono h3.size))) (HP.out _ (h3.trans (hb2.mono h3.size))) (HM.out _ (h3.trans (hb2.mono h3.size)))).mono ?_
            rintro e w3 ⟨rfl, hb3⟩
            go_wp2_with (fail)
            exact RelEnd.mk rfl hb3 rfl
          case refine_35 =>
            (try (obtain ⟨d0, hd⟩ := hd; (try (obtain ⟨d1, hd⟩ := hd; (try (obtain ⟨d2, hd⟩ := hd; (try (obtain ⟨d3, hd⟩ := hd))))))))
            go_wp2_with (fail)
            exact RelEnd.mk rfl (Below.refl _ _) (by first | rfl | (simp; done))
        · intro u w2 hb2 hold
          simp only [RelHold, Sp.eq_holds] at hold
          obtain ⟨-, -, -, -, -, -, -, -, -, -, -, -, -, -, -, -, -, -, -, -, -, -, -, -, -, -, -, -, -, -, -, -, -, -, eL, -⟩ := hold
          simp only [List.drop, List.take, putAll, Act.put, Nat.reduceAdd, List.setIfInBounds_toArray, List.set_cons_zero, List.set_cons_succ]
          rw [eL]
          have hrb2 := (hb2.block w.heap.size (by omega)).trans HRB.out
          obtain ⟨hcr, hfr⟩ := box_cell hrb2
          have hD2 := (hb2.block D hDl).trans HWD.out
          have hB := h3.trans (hb2.mono h3.size)
          go_wp2_with (fail)
          refine ⟨by simp, .inl ⟨_, _, rfl, run_takeDeferred ((Below.heap_setCell _ _ _ _ (by show D ≠ w.heap.size; omega)).trans hD2), ?_⟩⟩
          refine ⟨.bool true, results_cell1 rfl rfl ?_, rfl, ?_⟩
          · exact load_res hrb2 (by omega)
          · exact (hB.setCell (Nat.le_refl _) _).grown (putObj_grown _ _ _) (by simpa [World.setCell] using hB.size) (fun j e => by injection e with e; omega)
end Go.Proofs.YtkofjkadmknmjaaDoor
