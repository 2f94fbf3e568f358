/-
  Lemmas (walks and plain laws), in one text.
-/
import Derived.Test.YtkofjkadmknmjaaDoorBs08
import Derived.Test.YtkofjkadmknmjaaDoorRows
import Derived.WalkKit
import Derived.WalkSpells
import Derived.WalkLawsBesides
import Derived.Lib.Hide
import Derived.Deep.QuietTactic
import Derived.BigQuiet
import Derived.Maps.AppendAt
import Derived.WalkSmall
import Derived.ProofKit
import Derived.OpenShut
import Derived.JoinedCond
import Derived.Deep.Slices
import Derived.Deep.Fields
import Derived.Carry
import Derived.HandedShaped
import Derived.Shelf.Small.Wraps
import Derived.Shelf.Utf8.RuneCount
import Derived.Shelf.Strconv.Itoa0
import Derived.Shelf.Strconv.Itoa1
import Derived.Shelf.LaysM
import Derived.Shelf.Strconv.Itoa2
import Derived.Shelf.Strconv.Itoa3
import Derived.Shelf.Strings.Search1
import Derived.Shelf.Strings.Search2
import Derived.Shelf.Strings.Search3
import Derived.Shelf.Strings.Count
import Derived.Shelf.Strings.Shaped
import Derived.Shelf.Strings.Prefix
import Derived.Shelf.Strings.Split
import Derived.Shelf.Strings.SplitShaped
import Derived.Shelf.Unicode.DecodeSlow
import Derived.Test.YtkofjkadmknmjaaDoorProg
import Derived.Deep.AppendSrc
import Derived.Lib.AppendStr
import Derived.Laws.BytesArg
import Derived.Lib.AppendIntMem
import Derived.Lib.ItoaLen
import Derived.Lib.TrailingZeros
import Derived.Lib.SplitLaws
import Derived.Lib.ItoaNum
import Derived.Shelf.Strings.PiecesUse
import Derived.Shelf.Spec.TrailingZeros
import Derived.RangeFuncNested
import Derived.RangeFuncBound
import Derived.RangeFuncCalls
import Derived.RangeFuncLeaves
import Derived.Shelf.Abstract
import Derived.Shelf.RegionOpen
import Derived.OwnWalkIn
import Derived.TacticsInMore
import Derived.LoopNIn
import Derived.LoopIn
import Derived.Test.YtkofjkadmknmjaaDoorTie
import Derived.Lib.LaidTab
import Derived.LaidMore
import Derived.Lay
import Derived.Stop.LaidErr
import Derived.SevenTiedAt
import Derived.Test.YtkofjkadmknmjaaDoorCards
import Derived.StillTail
import Derived.OrdersIn
import Derived.ControlIn
import Derived.Lib.BitFns
import Derived.Deep.CutBlock
import Derived.Deep.DeepCutAuto
import Derived.Laws.IdiomStrings
import Derived.Outline
import Derived.IntWalk
import Derived.Lib.Tables
namespace Go.Proofs.YtkofjkadmknmjaaDoor
open Go.RowKit Go.Shelf Go.Maps

/-- The operations ahead of place n each by itself, inside a round; behind them the rest one by one. -/
theorem wpIn_region_relT {P : Program} {id m lr : Nat} {Q : Exit → Act → World → Prop} {a : Act} {w : World} {l : List Oper} (S : List Sp) (N n : Nat) (hm : P.follows .mixedOrders = true) (hn : n < l.length) (hB : relBt l.toArray N n = true) (hsk : Region.sinkB .any l.toArray n = true) (hch : Region.chainB .any l.toArray n = true)
    (hsq : Region.seqB .any l.toArray (l.length - n) n (doneT n l.length) = true) (hnd : noDefer l = true) (ha : a.tmps.size = N) (hS : S.length = n) (hQ : ¬ LetsOut Q)
    (hop : RelGoals P l.toArray S a w (l.take n) 0) (hend : ∀ u w1, Below w.heap.size w w1 → RelHold u w1 S 0 → wpList P l.toArray Q (l.drop n) (putAll u (l.take n) 0 a) w1) : (Code.region id l.toArray true).wpIn (Fence.wide.inRound lr) m P Q a w := by
  refine wpIn_region_any hm ?_
  have := relT_any (Q := Q) (fun _ => True) (fun _ _ _ => trivial) hn hB (fun listed _ hinv i hi hu t ht => tail_waits hsk hch (by simpa using hn) hinv _ i rfl hi hu t ht) hsq ha hS (HopT.of (Nat.le_of_lt hn) hop) hend n (Array.replicate l.length false) a { w with drawn := w.drawn + 1 } (by simp) (fun t _ => getD_replicate_false _ _) (by simp; omega) trivial
    ⟨(Below.refl _ _).drew, rfl, rfl, fun j o _ hl => (by rw [getD_replicate_false] at hl; cases hl), fun _ _ => rfl, fun _ => undef, fun j o t _ _ hl => (by rw [getD_replicate_false] at hl; cases hl)⟩
  rw [show n + (l.length - n) = l.length by omega] at this
  exact wpAny_in (noDefer_spec hnd) hQ _ _ _ _ (by simpa using this)
/-- What the text holds behind k numbers. -/
def comF (s k : Nat) : List UInt8 := ((idx s).take k).flatMap fun n => 44 :: tens n
theorem comF_snoc {s k : Nat} (hk : k < (idx s).length) : comF s (k + 1) = comF s k ++ (44 :: tens ((idx s).getD k 0)) := by
  unfold comF
  rw [List.take_succ_eq_append_getElem hk, List.flatMap_append, List.getD_eq_getElem?_getD, List.getElem?_eq_getElem hk]
  simp
theorem comF_len (s k : Nat) : (comF s k).length ≤ 96 := by
  unfold comF
  have h1 : ∀ l : List Nat, (∀ n ∈ l, n < 32) → (l.flatMap fun n => 44 :: tens n).length ≤ 3 * l.length := by
    intro l
    induction l with
    | nil => simp
    | cons n l ih =>
      intro h
      have h2 := tens_len n 2 (by have := h n (List.mem_cons_self ..); omega) (by omega)
      have h3 := ih (fun m hm => h m (List.mem_cons_of_mem _ hm))
      rw [List.flatMap_cons, List.length_append, List.length_cons, List.length_cons]
      omega
  have h4 := h1 ((idx s).take k) (fun n hn => idx_lt (List.mem_of_mem_take hn))
  have h5 := idx_len s
  rw [List.length_take] at h4
  omega
theorem showB_ne' (s : Nat) (h : s < 4294967296) : showB s ≠ [] := by
  intro e
  have := readB_show h
  rw [e] at this
  unfold readB at this
  rw [if_neg (by simp)] at this
  simp [cuts, readP, intR] at this
theorem comF_end {s : Nat} (h : idx s ≠ []) : (comF s (idx s).length).drop 1 = showB s := by
  have := joinC_flat 44 ((idx s).map tens)
  rw [List.flatMap_map] at this
  unfold comF
  rw [List.take_length, showB_cons h, ← this]
set_option maxHeartbeats 2000000 in
set_option maxRecDepth 100000 in
theorem c_bits_Show (s : Nat) (hs : s < 4294967296) (w : World) (hT : Tab w) (hP : PowTab w) : Calls Tryd.prog 37 #[.int .u32 s] w (RetV w (.string (str (showB s)))) := by
  by_cases h0 : s = 0
  · subst h0
    rw [show showB 0 = [45] from rfl]
    go_enter Tryd.func37, Tryd.ntmps37
    go_wp2_with (fail)
    go_ret
    exact RetV.of rfl (by repeat (first | exact Below.refl _ _ | refine Below.drew ?_ | refine Below.alloc ?_ (by first | omega | (simp; done) | (simp; omega)) _ | refine Below.setCell ?_ (by first | omega | (simp; done) | (simp; omega)) _ | refine Below.trans ?_ (Below.mono (by assumption) (by first | omega | (simp; done) | (simp; omega)))))
  have hne := idx_ne h0 hs
  have e0 : ((s : Int) == 0) = false := by simp; omega
  refine (callsIn_wide (n := 8)).1 ?_
  refine callsIn_of_wp_marks Tryd.func37 rfl trivial ?_ rfl
  simp only [Tryd.ntmps37, List.size_toArray, List.length_cons, List.length_nil, Nat.reduceAdd, Nat.reduceSub, Array.replicate_succ, Array.replicate_zero, List.push_toArray, List.append_toArray, List.nil_append, List.cons_append]
  gi_wp2_with (refine ⟨trivial, ?_⟩; gi_at_call 46; refine (callsIn_wide.2 (c_bits_Each s _)).mono ?_; rintro e w1 ⟨rfl, rfl⟩)
  obtain ⟨W0, hW0⟩ : ∃ W0, (w.alloc (.cells #[.string (str [])] 9)).alloc (.cells #[.int .u32 s] 35) = W0 := ⟨_, rfl⟩
  rw [hW0]
  have eg : ∀ args W, (callFunc 82 args).run Tryd.prog W = .ok (.enter 82 args) W := enters_of Tryd.func82 (by kernel_rfl) rfl
  have hlt := hT.lt
  have hbox0 : W0.heap[w.heap.size]? = some (.cells #[.string (str [])] 9 (0, 0)) := by
    rw [← hW0]
    exact (Below.heap_alloc _ _ _ (by simp)).trans (World.alloc_heap_new w _)
  have hq0 : W0.heap[w.heap.size + 1]? = some (.cells #[.int .u32 s] 35 (0, 0)) := by
    rw [← hW0]
    have := World.alloc_heap_new (w.alloc (.cells #[.string (str [])] 9)) (.cells #[.int .u32 s] 35)
    rwa [World.size_alloc] at this
  have hs0 : W0.heap.size = w.heap.size + 2 := by rw [← hW0]; simp
  have hb0 : Below w.heap.size w W0 := by rw [← hW0]; exact (by repeat (first | exact Below.refl _ _ | refine Below.drew ?_ | refine Below.alloc ?_ (by first | omega | (simp; done) | (simp; omega)) _ | refine Below.setCell ?_ (by first | omega | (simp; done) | (simp; omega)) _ | refine Below.trans ?_ (Below.mono (by assumption) (by first | omega | (simp; done) | (simp; omega)))))
  clear hW0
  refine wpIn_rangeFunc_idx (F := Fence.wide) (n := 8) rfl (by omega) (gf := 82) (lb := #[.pointer (some ⟨w.heap.size + 1, 0, none⟩)]) rfl trivial eg
    (each_seq 7 (by omega) (w.heap.size + 1) s hs (by omega)) ?hq ?hT ?hKt ?hKb ?hps (fun k W => W.heap[w.heap.size]? = some (.cells #[.string (str (comF s k))] 9 (0, 0)) ∧ Below w.heap.size w W ∧ W0.heap.size ≤ W.heap.size) ?hIq ?hI ?h0 (fun k a' _ => a' = { tmps := #[.int .u32 s, undef, .string { data := #[] }, .pointer (some ⟨w.heap.size, 0, none⟩), .int .i64 (((idx s).getD k 0 : Nat) : Int), .int .u32 s, .bool false, .int .u32 s, .func (.func 82) #[] #[.pointer (some ⟨w.heap.size + 1, 0, none⟩)], .int .i64 (((idx s).getD k 0 : Nat) : Int), undef, undef, undef, undef, undef, undef, undef], defers := [] }) ?hAx ?hassign ?hbody ?hdone
  case hq =>
    intro k e
    injection e with e
    omega
  case hT =>
    intro W' hb
    exact ⟨(hb.block _ (by omega)).trans hq0, hT.below (hb0.trans (hb.mono (by omega)))⟩
  case hKt => exact fun h k => h.trans k
  case hKb =>
    intro W l o o' hl _ _ _
    exact ⟨World.putObj_heap_other (by omega), World.putObj_heap_other (by omega)⟩
  case hps => intro x; rfl
  case hIq =>
    rintro k A B ⟨h1, h2, h3⟩ hg
    exact ⟨grownBy_same hg h1 (fun e => by injection e with e; omega), h2.grown hg h2.size (fun j e => by injection e with e; omega), Nat.le_trans h3 hg.size⟩
  case hI =>
    rintro k W W' row ⟨h1, h2, h3⟩ hg hr
    exact ⟨grownBy_same hg h1 (fun e => by have := (hr _ e).1; omega), h2.grown hg h2.size (fun j e => by have := (hr _ e).1; omega), Nat.le_trans h3 hg.size⟩
  case h0 => exact ⟨hbox0, hb0, Nat.le_refl _⟩
  case hAx => exact fun k a' _ _ _ _ h _ _ => h
  case hassign =>
    rintro l k W K hk ⟨h1, h2, h3⟩ hK
    unfold eachEnc
    obtain ⟨x, hx⟩ : ∃ x, (idx s).getD k 0 = x := ⟨_, rfl⟩
    rw [hx]
    gi_wp2_with (rw [Oper.semAt_eq _ _ _ (fun c h => by cases h)]; go_simp; try go_bits)
    exact hK _ _ (KeepsFrom.refl _ _) ⟨rfl, rfl⟩ ⟨h1, h2, h3⟩ (by rw [hx]; rfl)
  case hbody =>
    rintro l k a' W hk hl ⟨h1, h2, hsz⟩ rfl
    have hcl := comF_len s k
    have HC := Lib.hid (comF_snoc hk)
    obtain ⟨x, hx⟩ : ∃ x, (idx s).getD k 0 = x := ⟨_, rfl⟩
    have hx32 : x < 32 := by
      rw [← hx, List.getD_eq_getElem?_getD, List.getElem?_eq_getElem hk]
      exact idx_lt (List.getElem_mem hk)
    obtain ⟨acc, hacc⟩ : ∃ acc, comF s k = acc := ⟨_, rfl⟩
    rw [hacc] at h1 hcl
    rw [hx]
    have hxl := tens_len x 2 (by omega) (by omega)
    have HC2 := Lib.hid (show comF s (k + 1) = acc ++ 44 :: tens x by rw [← hacc, ← hx]; exact HC.out)
    clear HC hacc hx
    obtain ⟨hc1, hf1⟩ := box_cell h1
    have hz := h2.size
    have hbl : w.heap.size < W.heap.size := (Array.getElem?_eq_some_iff.1 h1).1
    refine wpIn_block ?_
    refine wpIn_region_relT [Sp.eq (.string (str acc)), Sp.eq (.int .i64 x), Sp.eq (.string (str (tens x))), Sp.eq (.string (str (44 :: tens x))), Sp.eq (.string (str (acc ++ 44 :: tens x)))] 17 5 (by kernel_rfl) (by decide) (by kernel_rfl) (by kernel_rfl) (by kernel_rfl) (by kernel_rfl) (by kernel_rfl) rfl rfl (fun ⟨_, _, h⟩ => h) ?_ ?_
    · refine ⟨?_, ?_, ?_, ?_, ?_, trivial⟩
      all_goals (intro u w2 hb2 hd; simp [Deps, Region.binds, Sp.eq_holds] at hd; simp only [putDeps, dstOf, Region.binds])
      case refine_1 =>
        have q := (hb2.cell (p := ⟨w.heap.size, 0, none⟩) hbl).trans hc1
        go_wp2_with (fail); exact RelEnd.mk rfl (Below.refl _ _) rfl
      case refine_2 => go_wp2_with (fail); exact RelEnd.mk rfl (Below.refl _ _) rfl
      case refine_3 =>
        go_wp2_with (fail)
        refine (c_bits_Tens x _ (by omega) (by omega) (hP.below (h2.trans (hb2.mono hz)))).mono ?_
        rintro e w3 ⟨rfl, hb3⟩
        rw [itoa_nat]
        go_wp2_with (fail)
        exact RelEnd.mk rfl hb3 rfl
      case refine_4 => go_wp2_with (fail); exact RelEnd.mk rfl (Below.refl _ _) (by first | rfl | (simp; done))
      case refine_5 => go_wp2_with (fail); exact RelEnd.mk rfl (Below.refl _ _) (by first | rfl | (simp; done))
    · intro u w2 hb2 hold
      simp only [RelHold, Sp.eq_holds] at hold
      obtain ⟨-, -, -, -, e4, -⟩ := hold
      simp only [List.drop, List.take, putAll, Act.put, Nat.reduceAdd, List.setIfInBounds_toArray, List.set_cons_zero, List.set_cons_succ]
      rw [e4]
      have h3 := (hb2.block _ hbl).trans h1
      obtain ⟨hc3, hf3⟩ := box_cell h3
      go_wp2_with (fail)
      refine ⟨⟨Nat.le_trans hb2.size (by simp [World.setCell]), fun j o hj hjo _ => ?_⟩, ⟨?_, ?_⟩, ?_, ?_, ?_⟩
      · have hjl : j < W.heap.size := (Array.getElem?_eq_some_iff.1 hjo).1
        exact ((Below.heap_setCell _ _ _ _ (by show j ≠ w.heap.size; omega)).trans (hb2.block j hjl)).trans hjo
      · exact (Below.heap_setCell _ _ _ _ (by show w.heap.size + 1 ≠ w.heap.size; omega)).trans (hb2.block _ (by omega))
      · exact (Below.heap_setCell _ _ _ _ (by show 0 ≠ w.heap.size; omega)).trans (hb2.block _ (by omega))
      · rw [HC2.out]
        exact box_set _ h3
      · exact (h2.trans (hb2.mono hz)).setCell (Nat.le_refl _) _
      · exact Nat.le_trans hsz (Nat.le_trans hb2.size (by simp [World.setCell]))
  case hdone =>
    rintro D W hD ⟨h1, h2, h3⟩ hWD
    have HE := Lib.hid (comF_end hne)
    have hcl := comF_len s (idx s).length
    have hpos : 1 ≤ (comF s (idx s).length).length := by
      rcases Nat.eq_zero_or_pos (comF s (idx s).length).length with h | h
      · have := HE.out
        rw [List.eq_nil_of_length_eq_zero h] at this
        exact absurd this.symm (showB_ne' s hs)
      · exact h
    obtain ⟨T, hTT⟩ : ∃ T, comF s (idx s).length = T := ⟨_, rfl⟩
    rw [hTT] at h1 hcl hpos
    replace HE := Lib.hid (show List.take (T.length - 1) T.tail = showB s by rw [← HE.out, hTT, List.drop_one]; exact List.take_of_length_le (by rw [List.length_tail]; exact Nat.le_refl _))
    clear hTT
    obtain ⟨hc1, hf1⟩ := box_cell h1
    gi_wp2
    refine ⟨by simp, .inl ⟨_, _, rfl, run_takeDeferred hWD, ?_⟩⟩
    refine ⟨_, results_tmp rfl _ _ _, ?_⟩
    refine ⟨?_, h2.grown (putObj_grown _ _ _) h2.size (fun j e => by injection e with e; omega)⟩
    rw [← HE.out]
    rfl
end Go.Proofs.YtkofjkadmknmjaaDoor
namespace Go.Proofs.YtkofjkadmknmjaaDoor
open Go.RowKit

theorem setV_ex : readB [51, 44, 48] = none := by decide +kernel
theorem showB_ex : showB 41 = [48, 44, 51, 44, 53] := by decide +kernel
set_option maxHeartbeats 1000000 in
theorem c_law03_awake (w : World) (hT : Tab w) (hP : PowTab w) (hM : MaxV w) : Calls Tryd.prog 30 #[] w (RetV w (.bool true)) := by
  have C1 := Lib.hid (show Calls Tryd.prog 33 #[.string (str [51, 44, 48])] w (RetV w (.tuple #[.int .u32 0, .bool false])) by
    have := c_bits_Read [51, 44, 48] (by simp) w hM
    rw [setV_none setV_ex] at this
    exact this)
  have C2 := Lib.hid (show ∀ w', Below w.heap.size w w' → Calls Tryd.prog 37 #[.int .u32 41] w' (RetV w' (.string (str [48, 44, 51, 44, 53]))) from fun w' hb => by
    have := c_bits_Show 41 (by omega) w' (hT.below hb) (hP.below hb)
    rw [showB_ex] at this
    exact this)
  clear hT hP hM
  go_enter Tryd.func30, Tryd.ntmps30
  go_wp2_with (fail)
  refine C1.out.mono ?_
  rintro e w1 ⟨rfl, hb1⟩
  go_wp2_with (fail)
  refine (C2.out _ hb1).mono ?_
  rintro e w2 ⟨rfl, hb2⟩
  go_wp2_with (fail)
  go_ret
  exact RetV.bool rfl (hb1.trans (hb2.mono hb1.size))
end Go.Proofs.YtkofjkadmknmjaaDoor
namespace Go.Proofs.YtkofjkadmknmjaaDoor
open Go.RowKit

theorem pop8_bd (n : Nat) (h : n < 256) : 0 ≤ Lib.pop8 (n : Int) ∧ Lib.pop8 (n : Int) ≤ 8 := by
  have e := Lib.pop8_eq ⟨n, h⟩
  have l := Lib.onesCount_le8 ⟨n, h⟩
  simp only at e l
  rw [e]
  omega
theorem u8_in (x : Int) (h0 : 0 ≤ x) (h1 : x ≤ 255) : IntKind.u8.wrap x = x := by simp only [IntKind.wrap, IntKind.signed, IntKind.bits]; first | (simp; omega) | omega
theorem i64_in (x : Int) (h0 : -1000 ≤ x) (h1 : x ≤ 1000) : IntKind.i64.wrap x = x := by simp only [IntKind.wrap, IntKind.signed, IntKind.bits]; first | (simp; omega) | omega
theorem pop_const : ({ data := (([0, 1, 1, 2, 1, 2, 2, 3, 1, 2, 2, 3, 2, 3, 3, 4, 1, 2, 2, 3, 2, 3, 3, 4, 2, 3, 3, 4, 3, 4, 4, 5, 1, 2, 2, 3, 2, 3, 3, 4, 2, 3, 3, 4, 3, 4, 4, 5, 2, 3, 3, 4, 3, 4, 4, 5, 3, 4, 4, 5, 4, 5, 5, 6].append [1, 2, 2, 3, 2, 3, 3, 4, 2, 3, 3, 4, 3, 4, 4, 5, 2, 3, 3, 4, 3, 4, 4, 5, 3, 4, 4, 5, 4, 5, 5, 6, 2, 3, 3, 4, 3, 4, 4, 5, 3, 4, 4, 5, 4, 5, 5, 6, 3, 4, 4, 5, 4, 5, 5, 6, 4, 5, 5, 6, 5, 6, 6, 7]).append ([1, 2, 2, 3, 2, 3, 3, 4, 2, 3, 3, 4, 3, 4, 4, 5, 2, 3, 3, 4, 3, 4, 4, 5, 3, 4, 4, 5, 4, 5, 5, 6, 2, 3, 3, 4, 3, 4, 4, 5, 3, 4, 4, 5, 4, 5, 5, 6, 3, 4, 4, 5, 4, 5, 5, 6, 4, 5, 5, 6, 5, 6, 6, 7].append [2, 3, 3, 4, 3, 4, 4, 5, 3, 4, 4, 5, 4, 5, 5, 6, 3, 4, 4, 5, 4, 5, 5, 6, 4, 5, 5, 6, 5, 6, 6, 7, 3, 4, 4, 5, 4, 5, 5, 6, 4, 5, 5, 6, 5, 6, 6, 7, 4, 5, 5, 6, 5, 6, 6, 7, 5, 6, 6, 7, 6, 7, 7, 8])).toArray } : ByteArray) = Lib.pop8tab := by decide +kernel
set_option maxHeartbeats 1000000 in
set_option maxRecDepth 10000 in
theorem c_OnesCount32 (s : Nat) (hs : s < 4294967296) (w : World) : Calls Tryd.prog 84 #[.int .u32 s] w (RetV w (.int .i64 (idx s).length)) := by
  have E := Lib.hid (idx_len_int hs)
  have b1 := pop8_bd (s / 16777216) (by omega)
  have b2 := pop8_bd (s / 65536 % 256) (by omega)
  have b3 := pop8_bd (s / 256 % 256) (by omega)
  have b4 := pop8_bd (s % 256) (by omega)
  have a2 : bits .and .u32 ((s : Int) / 65536) 255 = ((s / 65536 % 256 : Nat) : Int) := by
    have := and_u32 (s / 65536) 255 (by omega) (by omega)
    rw [Nat.and_two_pow_sub_one_eq_mod (s / 65536) 8] at this
    exact this
  have a3 : bits .and .u32 ((s : Int) / 256) 255 = ((s / 256 % 256 : Nat) : Int) := by
    have := and_u32 (s / 256) 255 (by omega) (by omega)
    rw [Nat.and_two_pow_sub_one_eq_mod (s / 256) 8] at this
    exact this
  have a4 : bits .and .u32 (s : Int) 255 = ((s % 256 : Nat) : Int) := by
    have := and_u32 s 255 hs (by omega)
    rw [Nat.and_two_pow_sub_one_eq_mod s 8] at this
    exact this
  have e1 : ((s / 16777216 : Nat) : Int) = (s : Int) / 16777216 := by omega
  have k1 := fun w => Lib.run_index_pop8tab (P := Tryd.prog) w 9 .u32 ((s / 16777216 : Nat) : Int) Tryd.underlying9 (by omega) (by omega)
  have k2 := fun w => Lib.run_index_pop8tab (P := Tryd.prog) w 9 .u32 ((s / 65536 % 256 : Nat) : Int) Tryd.underlying9 (by omega) (by omega)
  have k3 := fun w => Lib.run_index_pop8tab (P := Tryd.prog) w 9 .u32 ((s / 256 % 256 : Nat) : Int) Tryd.underlying9 (by omega) (by omega)
  have k4 := fun w => Lib.run_index_pop8tab (P := Tryd.prog) w 9 .u32 ((s % 256 : Nat) : Int) Tryd.underlying9 (by omega) (by omega)
  obtain ⟨n2, h2⟩ : ∃ n : Int, ((s / 65536 % 256 : Nat) : Int) = n := ⟨_, rfl⟩
  obtain ⟨n3, h3⟩ : ∃ n : Int, ((s / 256 % 256 : Nat) : Int) = n := ⟨_, rfl⟩
  obtain ⟨n4, h4⟩ : ∃ n : Int, ((s % 256 : Nat) : Int) = n := ⟨_, rfl⟩
  rw [h2] at a2 k2 b2 E
  rw [h3] at a3 k3 b3 E
  rw [h4] at a4 k4 b4 E
  rw [e1] at k1 b1
  clear h2 h3 h4 e1
  obtain ⟨p1, hp1⟩ : ∃ p, Lib.pop8 ((s : Int) / 16777216) = p := ⟨_, rfl⟩
  obtain ⟨p2, hp2⟩ : ∃ p, Lib.pop8 n2 = p := ⟨_, rfl⟩
  obtain ⟨p3, hp3⟩ : ∃ p, Lib.pop8 n3 = p := ⟨_, rfl⟩
  obtain ⟨p4, hp4⟩ : ∃ p, Lib.pop8 n4 = p := ⟨_, rfl⟩
  rw [hp1] at k1 b1
  rw [hp2] at k2 b2
  rw [hp3] at k3 b3
  rw [hp4] at k4 b4
  rw [hp1, hp2, hp3, hp4] at E
  clear hp1 hp2 hp3 hp4
  obtain ⟨b10, b11⟩ := b1
  obtain ⟨b20, b21⟩ := b2
  obtain ⟨b30, b31⟩ := b3
  obtain ⟨b40, b41⟩ := b4
  go_enter Tryd.func84, Tryd.ntmps84
  go_wp2_with (fail)
  simp only [pop_const]
  refine wp_region_grow (by kernel_rfl) (by kernel_rfl) ?_
  repeat (quiet_step ((first | (fail))))
  refine wpQuiet_nil ?_
  intro w2 hb2
  go_wp2_with (fail)
  go_ret
  refine RetV.int ?_ hb2
  rw [← E.out]
  first | rfl | rw [u8_in (p1 + p2) (by omega) (by omega), u8_in (p1 + p2 + p3) (by omega) (by omega), u8_in (p1 + p2 + p3 + p4) (by omega) (by omega), i64_in (p1 + p2 + p3 + p4) (by omega) (by omega)]
set_option maxHeartbeats 400000 in
theorem c_bits_Count (s : Nat) (hs : s < 4294967296) (w : World) : Calls Tryd.prog 48 #[.int .u32 s] w (RetV w (.int .i64 (idx s).length)) := by
  go_enter Tryd.func48, Tryd.ntmps48
  go_wp2_with (fail)
  refine (c_OnesCount32 s hs _).mono ?_
  rintro e w1 ⟨rfl, hb1⟩
  go_wp2_with (fail)
  go_ret
  exact RetV.int rfl hb1
end Go.Proofs.YtkofjkadmknmjaaDoor
