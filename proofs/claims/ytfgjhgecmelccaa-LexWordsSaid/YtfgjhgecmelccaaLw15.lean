/-
  The walk of the law LexWords: the words of any text are the reference's, told one by one too.
-/
import Derived.Test.YtfgjhgecmelccaaLw14
import Derived.WalkKit
import Derived.WalkSpells
import Derived.WalkLawsBesides
import Derived.Lib.Hide
import Derived.Deep.QuietTactic
import Derived.BigQuiet
import Derived.Maps.AppendAt
import Derived.WalkSmall
import Derived.StillTail
import Derived.RangeFuncNested
import Derived.RangeFuncCalls
import Derived.OrdersIn
import Derived.ControlIn
import Derived.Test.YtfgjhgecmelccaaProg
import Derived.Deep.CutBlock
import Derived.Deep.DeepCutAuto
import Derived.Deep.AppendSrc
import Derived.Lib.AppendStr
import Derived.Laws.BytesArg
import Derived.WalkMore
import Derived.ScopeJumps
import Derived.Lib.Bytealg
import Derived.Laws.Externs
import Derived.Laws.IdiomStrings
import Derived.Outline
import Derived.IntWalk
import Derived.Laws.Tables
import Derived.Laws.Rows
import Derived.ChangeKeysEq
import Derived.Laws.StructEq
import Derived.RangeFuncBound
import Derived.RangeFuncLeaves
import Derived.OwnWalkIn
import Derived.LoopIn
import Derived.Shelf.Abstract
import Derived.Test.YtfgjhgecmelccaaRows
import Derived.ProofKit
import Derived.OpenShut
import Derived.JoinedCond
import Derived.Deep.Slices
import Derived.Deep.Fields
import Derived.Carry
namespace Go.Proofs.Ytfgjhgecmelccaa
open Go.RowKit Go.Shelf

theorem lexF_cnt : ∀ f s p, (lexF f s p).1.length ≤ s.length
  | 0, _, _ => by simp [lexF]
  | f + 1, [], p => by simp [lexF]
  | f + 1, c :: r, p => by
    rw [lexF]
    split
    · have := lexF_cnt f r (p + 1)
      simp only [List.length_cons]; omega
    · cases hx : fst (c :: r) with
      | none => simp
      | some x =>
        obtain ⟨_, h1, h2⟩ := fst_may hx
        have := lexF_cnt f ((c :: r).drop x.len) (p + x.len)
        simp only [List.length_cons, List.length_drop] at this h2 ⊢; omega
/-- What All answers: words, a place, an error. -/
def lexA (s : List UInt8) : List Wd × Int × Int := if 1000 < s.length then ([], 0, 4) else match (lexS s).2 with | some k => ([], (k : Int), 3) | none => ((lexS s).1, 0, 0)
theorem lexA_len (s : List UInt8) : (lexA s).1.length ≤ 1000 := by
  unfold lexA
  split
  · simp
  · split
    · simp
    · have := lexF_cnt s.length s 0
      unfold lexS
      simp only
      omega
theorem RetAll.tell {wt : TypeId} {w w' : World} {s : List UInt8} {e : Ending} (h : RetAll wt w s e w') : ∃ A c, e = .returned (.tuple #[.slice A (lexA s).1.length c, .int .i64 (lexA s).2.1, .int .i64 (lexA s).2.2]) ∧ In 4 Wd.cells w' A c (lexA s).1 ∧ (∀ a, A = some a → w.heap.size ≤ a.block ∧ a.block < w'.heap.size) ∧ Below w.heap.size w w' := by
  have hl := lexA_len s
  obtain ⟨hb, h⟩ := h
  rcases h with ⟨h1, rfl⟩ | ⟨h1, ⟨k, hk, rfl⟩ | ⟨v, ws, hk, rfl, own⟩⟩
  · have E : lexA s = ([], 0, 4) := by unfold lexA; rw [if_pos h1]
    rw [E]
    exact ⟨none, 0, rfl, In.nil (by omega), (fun a e => by cases e), hb⟩
  · have E : lexA s = ([], (k : Int), 3) := by unfold lexA; rw [if_neg (by omega), hk]
    rw [E]
    exact ⟨none, 0, rfl, In.nil (by omega), (fun a e => by cases e), hb⟩
  · have E : lexA s = (ws, 0, 0) := by unfold lexA; rw [if_neg (by omega), hk]
    rw [E] at hl ⊢
    obtain ⟨A, c, hv, hin⟩ := In.of_own Wd.cells_len own (by simp only at hl; omega)
    refine ⟨A, c, by rw [hv], hin, fun a ea => ?_, hb⟩
    rcases own.2 with ⟨hv2, -⟩ | ⟨g, cap, cur, hv2, hg, hh, -⟩
    · rw [hv] at hv2
      injection hv2 with h5
      rw [h5] at ea
      cases ea
    · rw [hv] at hv2
      injection hv2 with h5
      rw [h5] at ea
      injection ea with ea
      rw [← ea]
      exact ⟨hg, (Array.getElem?_eq_some_iff.1 hh).1⟩
theorem c_Values (A : Option Addr) (n c : Nat) (w : World) : Calls Try.prog 16 #[.slice A n c] w fun e w' => e = .returned (.func (.func 36) #[] #[.pointer (some ⟨w.heap.size, 0, none⟩)]) ∧ w' = w.alloc (.cells #[.slice A n c] 23) := by
  go_enter Try.func16, Try.ntmps16
  go_wp2
  go_ret
  exact ⟨rfl, rfl⟩
/-- The end of Each. -/
def RetEach (w : World) (s : List UInt8) (e : Ending) (w' : World) : Prop :=
  ∃ A c q, e = .returned (.func (.func 36) #[] #[.pointer (some ⟨q, 0, none⟩)]) ∧ ValT q A c (lexA s).1 w' ∧ w.heap.size ≤ q ∧ (∀ a, A = some a → w.heap.size ≤ a.block ∧ a.block < w'.heap.size) ∧ Below w.heap.size w w'
set_option maxHeartbeats 400000 in
theorem c_lex_Each (s : List UInt8) (w : World) (hs : s.length ≤ 9223372036854775807) : Calls Try.prog 8 #[.string (str s)] w (RetEach w s) := by
  have CA := Lib.hid (c_lex_All s w hs)
  go_enter Try.func8, Try.ntmps8
  go_wp2_with (fail)
  refine CA.out.mono ?_
  rintro e w1 h1
  obtain ⟨A, c, rfl, hin, hA, hb⟩ := h1.tell
  have HI := Lib.hid hin
  have HA := Lib.hid hA
  clear hin hA h1
  obtain ⟨n, hn⟩ : ∃ n, (lexA s).1.length = n := ⟨_, rfl⟩
  obtain ⟨p, hp⟩ : ∃ p, (lexA s).2.1 = p := ⟨_, rfl⟩
  obtain ⟨r, hr⟩ : ∃ r, (lexA s).2.2 = r := ⟨_, rfl⟩
  have HN := Lib.hid hn
  rw [hn, hp, hr]
  clear hn hp hr
  go_wp2_with (fail)
  refine (c_Values A n c _).mono ?_
  rintro e w2 ⟨rfl, rfl⟩
  go_wp2_with (fail)
  go_ret
  have hz := hb.size
  refine ⟨A, c, w1.heap.size, rfl, ⟨?_, HI.out.below ((Below.refl _ _).alloc (Nat.le_refl _) _)⟩, hz, fun a e => ⟨(HA.out a e).1, by have := (HA.out a e).2; simp; omega⟩, hb.alloc hz _⟩
  rw [HN.out]
  exact World.alloc_heap_new w1 _
/-- The end of All, told. -/
def RetW (l : List Wd) (p r : Int) (w : World) (e : Ending) (w' : World) : Prop := ∃ A c, e = .returned (.tuple #[.slice A l.length c, .int .i64 p, .int .i64 r]) ∧ In 4 Wd.cells w' A c l ∧ (∀ a, A = some a → w.heap.size ≤ a.block ∧ a.block < w'.heap.size) ∧ Below w.heap.size w w'
def RetE (l : List Wd) (w : World) (e : Ending) (w' : World) : Prop := ∃ A c q, e = .returned (.func (.func 36) #[] #[.pointer (some ⟨q, 0, none⟩)]) ∧ ValT q A c l w' ∧ w.heap.size ≤ q ∧ (∀ a, A = some a → w.heap.size ≤ a.block ∧ a.block < w'.heap.size) ∧ Below w.heap.size w w'
theorem wpIn_region_relT9 {P : Program} {id m lr : Nat} {Q : Exit → Act → World → Prop} {a : Act} {w : World} {l : List Oper} (S : List Sp) (N n : Nat) (hm : P.follows .mixedOrders = true) (hn : n < l.length) (hB : relBt l.toArray N n = true) (hsk : Region.sinkB .any l.toArray n = true) (hch : Region.chainB .any l.toArray n = true)
    (hsq : Region.seqB .any l.toArray (l.length - n) n (doneT n l.length) = true) (hnd : noDefer l = true) (ha : a.tmps.size = N) (hS : S.length = n) (hQ : ¬ LetsOut Q)
    (hop : RelGoals P l.toArray S a w (l.take n) 0) (hend : ∀ u w1, Below w.heap.size w w1 → RelHold u w1 S 0 → wpList P l.toArray Q (l.drop n) (putAll u (l.take n) 0 a) w1) : (Code.region id l.toArray true).wpIn (Fence.wide.inRound lr) m P Q a w := by
  refine wpIn_region_any hm ?_
  have := relT_any (Q := Q) (fun _ => True) (fun _ _ _ => trivial) hn hB (fun listed _ hinv i hi hu t ht => tail_waits hsk hch (by simpa using hn) hinv _ i rfl hi hu t ht) hsq ha hS (HopT.of (Nat.le_of_lt hn) hop) hend n (Array.replicate l.length false) a { w with drawn := w.drawn + 1 } (by simp) (fun t _ => getD_replicate_false _ _) (by simp; omega) trivial
    ⟨(Below.refl _ _).drew, rfl, rfl, fun j o _ hl => (by rw [getD_replicate_false] at hl; cases hl), fun _ _ => rfl, fun _ => undef, fun j o t _ _ hl => (by rw [getD_replicate_false] at hl; cases hl)⟩
  rw [show n + (l.length - n) = l.length by omega] at this
  exact wpAny_in (noDefer_spec hnd) hQ _ _ _ _ (by simpa using this)
theorem in_cells {w : World} {g o c : Nat} {x0 x1 x2 : Int} {x3 : List UInt8} (h0 : w.cell? ⟨g, o, none⟩ = some (.int .i64 x0)) (h1 : w.cell? ⟨g, o + 1, none⟩ = some (.int .i64 x1)) (h2 : w.cell? ⟨g, o + 2, none⟩ = some (.int .i64 x2)) (h3 : w.cell? ⟨g, o + 3, none⟩ = some (.string (str x3)))
    (hg : g < w.heap.size) (hc : 1 ≤ c) (hC : c ≤ 9223372036854775807) : In 4 Wd.cells w (some ⟨g, o, none⟩) c [(⟨x0, x1, x2, x3⟩ : Wd)] := by
  refine ⟨hc, hC, by simp, .inr ⟨g, o, rfl, hg, fun i hi j u hu => ?_⟩⟩
  obtain rfl : i = 0 := by simp at hi; omega
  have hj : j < 4 := (List.getElem?_eq_some_iff.1 hu).1
  have : j = 0 ∨ j = 1 ∨ j = 2 ∨ j = 3 := by omega
  simp only [Nat.zero_mul, Nat.add_zero]
  rcases this with rfl | rfl | rfl | rfl
  · injection hu with hu; rw [← hu]; exact h0
  · injection hu with hu; rw [← hu]; exact h1
  · injection hu with hu; rw [← hu]; exact h2
  · injection hu with hu; rw [← hu]; exact h3
theorem cell_at9 {W : World} {b : Nat} {xs : Array Value} {t : TypeId} (h : W.heap[b]? = some (.cells xs t (0, 0))) (k : Nat) : W.cell? ⟨b, k, none⟩ = xs[k]? := by
  simp [World.cell?, h]
theorem run_loadVar_bool9 {W : World} {a : Addr} {v : Value} (h : W.cell? a = some v) : (loadVar 4 a).run Try.prog W = .ok v W := by
  unfold loadVar
  rw [Sem.run_bind, Try.isAgg4]
  simp [h]
theorem load_res9 {w2 : World} {rb D : Nat} {t : TypeId} {o : Obj} (h : w2.heap[rb]? = some (.cells #[.bool false] t (0, 0))) (hD : rb ≠ D) : (loadVar 4 ⟨rb, 0, none⟩).run Try.prog ((w2.setCell ⟨rb, 0, none⟩ (.bool true)).putObj D o) = .ok (.bool true) ((w2.setCell ⟨rb, 0, none⟩ (.bool true)).putObj D o) :=
  run_loadVar_bool9 ((World.cell?_of_block (a := ⟨rb, 0, none⟩) (World.putObj_heap_other hD)).trans (boxC (boxS _ h)).1)
theorem results_cell9 {P : Program} {w : World} {fn : Func} {p : Tmp} {ty : TypeId} (h : fn.results = #[.cell p ty]) {tmps : Array Value} {ad : Addr} {v : Value} (hp : tmps.getD p undef = .pointer (some ad)) (hl : (loadVar ty ad).run P w = .ok v w) : (results fn tmps).run P w = .ok v w := by
  have hp' : tmps[p]?.getD undef = .pointer (some ad) := by simpa using hp
  simp [results, h, hp', asAddr, hl]
theorem putObj_grown9 (W : World) (l : Nat) (o : Obj) : W.grownBy (W.putObj l o) (some l) := ⟨rfl, rfl, rfl, by simp, fun k _ hk => World.putObj_heap_other (fun e => hk (by rw [e]))⟩
theorem wp_named9 {P : Program} {c : Code} {Q : Exit → Act → World → Prop} {w : World} {tmps : Array Value} {ds : List Deferred} (h : ∀ ts, ts = tmps → c.wp P Q { tmps := ts, defers := ds } w) : c.wp P Q { tmps := tmps, defers := ds } w := h _ rfl
set_option maxHeartbeats 4000000 in
set_option maxRecDepth 100000 in
theorem c_law09_LexWords_long (s : List UInt8) (w : World) (hs : 5000 < s.length) : Calls Try.prog 3 #[.string (str s)] w (RetV w (.bool true)) := by
  have d1 : decide ((5000 : Int) < (s.length : Int)) = true := by simp; omega
  refine (callsIn_wide (n := 8)).1 ?_
  refine callsIn_of_wp_marks Try.func3 rfl trivial ?_ rfl
  simp only [Try.ntmps3, List.size_toArray, List.length_cons, List.length_nil, Nat.reduceAdd, Nat.reduceSub, Array.replicate_succ, Array.replicate_zero, List.push_toArray, List.append_toArray, List.nil_append, List.cons_append]
  refine wpIn_wide.2 ?_
  go_wp2_with (fail)
  refine (c_law09_awake _).mono ?_
  rintro e w1 ⟨rfl, hb1⟩
  have hB : Below w.heap.size w w1 := Below.trans (b := w.alloc (.cells #[.bool false] 4)) ((Below.refl _ _).alloc (Nat.le_refl _) _) (hb1.mono (by simp))
  have hbx := (hb1.block w.heap.size (by simp)).trans (World.alloc_heap_new w (.cells #[.bool false] 4))
  obtain ⟨hcr, hfr⟩ := boxC hbx
  go_wp2_with (fail)
  refine ⟨.bool true, results_cell9 rfl rfl (run_loadVar_bool9 (boxC (boxS _ hbx)).1), rfl, hB.setCell (Nat.le_refl _) _⟩
set_option maxHeartbeats 4000000 in
set_option maxRecDepth 100000 in
theorem c_law09_LexWords (s : List UInt8) (w : World) (hs : s.length ≤ 5000) : Calls Try.prog 3 #[.string (str s)] w (RetV w (.bool true)) := by
  have hl := lexA_len s
  obtain ⟨l, p, r, hlA⟩ : ∃ l p r, lexA s = (l, p, r) := ⟨_, _, _, rfl⟩
  have CA := Lib.hid (fun w' => show Calls Try.prog 6 #[.string (str s)] w' (RetW l p r w') from (c_lex_All s w' (by omega)).mono fun e w1 h => by have := h.tell; rw [hlA] at this; exact this)
  have CR := Lib.hid (fun w' => show Calls Try.prog 7 #[.string (str s)] w' (RetW l p r w') from (c_ref09_All s w' (by omega)).mono fun e w1 h => by have := h.tell; rw [hlA] at this; exact this)
  have CE := Lib.hid (fun w' => show Calls Try.prog 8 #[.string (str s)] w' (RetE l w') from (c_lex_Each s w' (by omega)).mono fun e w1 h => by unfold RetEach at h; rw [hlA] at h; exact h)
  rw [hlA] at hl
  simp only at hl
  clear hlA
  have d1 : decide ((5000 : Int) < (s.length : Int)) = false := by simp; omega
  refine (callsIn_wide (n := 8)).1 ?_
  refine callsIn_of_wp_marks Try.func3 rfl trivial ?_ rfl
  simp only [Try.ntmps3, List.size_toArray, List.length_cons, List.length_nil, Nat.reduceAdd, Nat.reduceSub, Array.replicate_succ, Array.replicate_zero, List.push_toArray, List.append_toArray, List.nil_append, List.cons_append]
  refine wpIn_wide.2 ?_
  go_wp2_with (fail)
  refine (CA.out _).mono ?_
  rintro e w1 ⟨A1, c1, rfl, hin1, hA1, hb1⟩
  have HI1 := Lib.hid hin1
  have HA1 := Lib.hid hA1
  have B1 := Lib.hid hb1
  have hz1 := hb1.size
  clear hin1 hA1 hb1
  go_wp2_with (fail)
  refine (CR.out _).mono ?_
  rintro e w2 ⟨A2, c2, rfl, hin2, hA2, hb2⟩
  have HI2 := Lib.hid hin2
  have HA2 := Lib.hid hA2
  have B2 := Lib.hid hb2
  have hz2 := hb2.size
  clear hin2 hA2 hb2
  go_wp2_with (fail)
  refine (CE.out _).mono ?_
  rintro e w3 ⟨A3, c3, q, rfl, hv3, hq3, hA3, hb3⟩
  have HV := Lib.hid hv3
  have HA3 := Lib.hid hA3
  have B3 := Lib.hid hb3
  have hz3 := hb3.size
  clear hv3 hA3 hb3
  have kneq : ∀ (x : World) (g : Nat), (binOp BinOp.eql 31 (.func (.func 36) #[] #[.pointer (some ⟨g, 0, none⟩)]) Value.nilFunc).run Try.prog x = .ok (.bool false) x := fun _ _ => by first | rfl | kernel_rfl
  go_wp2_with (fail)
  -- GEN
  have hbw : Below w.heap.size w w3 := by
    have g1 : Below w.heap.size w w1 := Below.trans (b := w.alloc (.cells #[.bool false] 4)) ((Below.refl _ _).alloc (Nat.le_refl _) _) (B1.out.mono (by simp))
    have g2 := g1.trans (B2.out.mono g1.size)
    have g3 := (g2.alloc g2.size (.cells #[.slice A2 l.length c2] 27)).alloc (by have := g2.size; simp; omega) (.cells #[.int .i64 0] 3)
    exact g3.trans (B3.out.mono g3.size)
  simp only [World.size_alloc] at hz1 hz3 hq3 HA3
  have hmb : w3.heap[w2.heap.size]? = some (.cells #[.slice A2 l.length c2] 27 (0, 0)) := (B3.out.block _ (by simp; omega)).trans ((Below.heap_alloc _ _ _ (by simp)).trans (World.alloc_heap_new w2 _))
  have hnb : w3.heap[w2.heap.size + 1]? = some (.cells #[.int .i64 0] 3 (0, 0)) := by
    have := World.alloc_heap_new (w2.alloc (.cells #[.slice A2 l.length c2] 27)) (.cells #[.int .i64 0] 3)
    rw [World.size_alloc] at this
    exact (B3.out.block _ (by simp)).trans this
  have hrb : w3.heap[w.heap.size]? = some (.cells #[.bool false] 4 (0, 0)) := (B3.out.block _ (by simp; omega)).trans ((Below.heap_alloc _ _ _ (by simp; omega)).trans ((Below.heap_alloc _ _ _ (by omega)).trans ((B2.out.block _ (by omega)).trans ((B1.out.block _ (by simp)).trans (World.alloc_heap_new w _)))))
  have hI2 : In 4 Wd.cells w3 A2 c2 l := ((HI2.out.below ((Below.refl _ _).alloc (Nat.le_refl _) _)).below ((Below.refl _ _).alloc (Nat.le_refl _) _)).below B3.out
  have hI1 : In 4 Wd.cells w3 A1 c1 l := (((HI1.out.below B2.out).below ((Below.refl _ _).alloc (Nat.le_refl _) _)).below ((Below.refl _ _).alloc (Nat.le_refl _) _)).below B3.out
  have hA2 : ∀ a, A2 = some a → a.block < w2.heap.size := fun a e => (HA2.out a e).2
  have hA1 : ∀ a, A1 = some a → a.block < w2.heap.size := fun a e => by have := (HA1.out a e).2; omega
  have hA3 : ∀ a, A3 = some a → w2.heap.size + 2 ≤ a.block ∧ a.block < w3.heap.size := fun a e => by have := HA3.out a e; omega
  have hwm : w.heap.size < w2.heap.size := by omega
  have hv := HV.out
  have hqw : q < w3.heap.size := (Array.getElem?_eq_some_iff.1 hv.1).1
  have eg : ∀ args W, (callFunc 36 args).run Try.prog W = .ok (.enter 36 args) W := enters_of Try.func36 (by kernel_rfl) rfl
  have h23 : w2.heap.size + 2 ≤ w3.heap.size := by omega
  have hq2 : w2.heap.size + 2 ≤ q := by omega
  clear HA1 HA2 HA3 HV HI1 HI2 B1 B2 B3 hz1 hz2 hz3 hq3 CA CR CE kneq
  obtain ⟨mb, hm⟩ : ∃ mb, w2.heap.size = mb := ⟨_, rfl⟩
  rw [hm] at hmb hnb hA1 hA2 hA3 hwm h23 hq2 ⊢
  clear hm
  refine wp_named9 (fun ts hts => ?_)
  refine (wpIn_wide (n := 8)).1 ?_
  refine wpIn_rangeFunc_idx (F := Fence.wide) (n := 8) rfl (by omega) (gf := 36) (lb := #[.pointer (some ⟨q, 0, none⟩)]) (by rw [hts]; rfl) trivial eg
    (values_seq 7 (by omega) q A3 c3 l) ?hq ?hT ?hKt ?hKb ?hps (fun k W => W.heap[mb + 1]? = some (.cells #[.int .i64 k] 3 (0, 0)) ∧ (∀ j, j < w3.heap.size → j ≠ mb + 1 → W.heap[j]? = w3.heap[j]?) ∧ Below w.heap.size w W ∧ w3.heap.size ≤ W.heap.size) ?hIq ?hI ?h0
    (fun k a' W => ∃ b, w3.heap.size ≤ b ∧ W.heap[b]? = some (.cells (wdA (wdAt l k).kind (wdAt l k).n (wdAt l k).pos (wdAt l k).s) 34 (0, 0)) ∧ a' = { tmps := (ts.setIfInBounds 33 (.agg (wdA (wdAt l k).kind (wdAt l k).n (wdAt l k).pos (wdAt l k).s))).setIfInBounds 11 (.pointer (some ⟨b, 0, none⟩)), defers := [] }) ?hAx ?hassign ?hbody ?hdone
  case hq => exact fun k e => by cases e
  case hT => exact fun W' hb => hv.below hb
  case hKt => exact fun h k => h.trans k
  case hKb => exact fun W lo o o' hlo _ _ _ => ⟨World.putObj_heap_other (by omega), fun a e => World.putObj_heap_other (by have := (hA3 a e).2; omega)⟩
  case hps => intro x; rfl
  case hIq =>
    rintro k A B ⟨h1, h2, h3, h4⟩ hg
    exact ⟨grownBy_same hg h1 (fun e => by cases e), fun j hj hj1 => (hg.block j (by omega) (fun e => by cases e)).trans (h2 j hj hj1), h3.grown hg h3.size (fun j e => by cases e), Nat.le_trans h4 hg.size⟩
  case hI =>
    rintro k W W' row ⟨h1, h2, h3, h4⟩ hg hr
    exact ⟨grownBy_same hg h1 (fun e => by have := (hr _ e).1; omega), fun j hj hj1 => (hg.block j (by omega) (fun e => by have := (hr _ e.symm).1; omega)).trans (h2 j hj hj1), h3.grown hg h3.size (fun j e => by have := (hr _ e).1; have := hbw.size; omega), Nat.le_trans h4 hg.size⟩
  case h0 => exact ⟨hnb, fun j _ _ => rfl, hbw, Nat.le_refl _⟩
  case hAx =>
    rintro k a' u W W' row ⟨b, hb, hx, e⟩ hg hr
    refine ⟨b, hb, grownBy_same hg hx (fun e => ?_), e⟩
    obtain ⟨-, o, ho, hc⟩ := hr _ e
    rw [hx] at ho
    injection ho with ho
    rw [← ho] at hc
    cases hc
  case hassign =>
    rintro l' k W K hk ⟨h1, h2, h3, h4⟩ hK
    subst hts
    unfold valEnc
    obtain ⟨x, hx⟩ : ∃ x, wdAt l k = x := ⟨_, rfl⟩
    rw [hx] at hK ⊢
    obtain ⟨x0, x1, x2, x3⟩ := x
    have hbx : Below W.heap.size W (W.alloc (.cells (wdA x0 x1 x2 x3) 34)) := (Below.refl _ _).alloc (Nat.le_refl _) _
    gi_wp2_with (rw [Oper.semAt_eq _ _ _ (fun c h => by cases h)]; go_simp; try go_bits)
    refine hK _ _ (KeepsFrom.of_grownBy (below_grow hbx none) (fun j e => by cases e)) ⟨hbx.block q (by omega), fun a e => hbx.block a.block (by have := (hA3 a e).2; omega)⟩ ⟨(hbx.block _ (by omega)).trans h1, fun j hj hj1 => (hbx.block j (by omega)).trans (h2 j hj hj1), h3.trans (hbx.mono h3.size), Nat.le_trans h4 hbx.size⟩ ⟨W.heap.size, h4, World.alloc_heap_new W _, ?_⟩
    simp
  case hbody =>
    rintro l' k a' W hk hl' ⟨h1, h2, h3, h4⟩ ⟨b, hb, hx, rfl⟩
    have HL := Lib.hid (wdAt_eq hk)
    obtain ⟨x, hxx⟩ : ∃ x, wdAt l k = x := ⟨_, rfl⟩
    rw [hxx] at hx HL ⊢
    obtain ⟨x0, x1, x2, x3⟩ := x
    simp only at hx ⊢
    subst hts
    simp only [List.setIfInBounds_toArray, List.set_cons_zero, List.set_cons_succ]
    obtain ⟨hcn, hfn⟩ := boxC h1
    obtain ⟨hcm, -⟩ := boxC ((h2 mb (by omega) (by omega)).trans hmb)
    have hbl : b < W.heap.size := (Array.getElem?_eq_some_iff.1 hx).1
    have dk : decide (l.length ≤ k) = false := by simp; omega
    have hk0 : (0 : Int) ≤ (k : Int) := by omega
    have hk1 : (k : Int) < (l.length : Int) := by omega
    obtain ⟨g, off, rfl, hg, RX⟩ := hI2.wd hk
    rw [← HL.out] at RX
    simp only at RX
    have hgm : g < mb := hA2 _ rfl
    have hLc := hI2.1
    have hCc := hI2.2.1
    obtain ⟨y0, y1, y2, y3⟩ := RX w3 (Below.refl _ _)
    have hgq := h2 g (by omega) (by omega)
    replace y0 := (World.cell?_of_block (w := w3) (a := ⟨g, off + k * 4, none⟩) hgq).trans y0
    replace y1 := (World.cell?_of_block (w := w3) (a := ⟨g, off + k * 4 + 1, none⟩) hgq).trans y1
    replace y2 := (World.cell?_of_block (w := w3) (a := ⟨g, off + k * 4 + 2, none⟩) hgq).trans y2
    replace y3 := (World.cell?_of_block (w := w3) (a := ⟨g, off + k * 4 + 3, none⟩) hgq).trans y3
    have Y0 := Lib.hid y0
    have Y1 := Lib.hid y1
    have Y2 := Lib.hid y2
    have Y3 := Lib.hid y3
    have HX := Lib.hid hx
    have hgW : g < W.heap.size := by omega
    clear RX y0 y1 y2 y3 hgq HL hx
    gi_wp2_with (rw [Oper.semAt_eq _ _ _ (fun c h => by cases h)]; go_simp; try go_bits)
    refine wpIn_region_relT9 [Sp.eq (.int .i64 k), Sp.eq (.slice (some ⟨g, off, none⟩) l.length c2), Sp.eq (.int .i64 l.length), Sp.eq (.bool false), Sp.eq (.bool false), Sp.eq (.agg (wdA x0 x1 x2 x3)), Sp.slice 4 Wd.cells [(⟨x0, x1, x2, x3⟩ : Wd)], Sp.eq (.slice (some ⟨g, off, none⟩) l.length c2), Sp.eq (.int .i64 k), Sp.eq (.int .i64 k), Sp.eq (.int .i64 ((k : Int) + 1)), Sp.slice 4 Wd.cells [(⟨x0, x1, x2, x3⟩ : Wd)], Sp.eq (.bool true), Sp.eq (.bool false)] 73 14 (by kernel_rfl) (by decide) (by kernel_rfl) (by kernel_rfl) (by kernel_rfl) (by kernel_rfl) (by kernel_rfl) rfl rfl (fun ⟨_, _, h⟩ => h) ?_ ?_
    · refine ⟨?_, ?_, ?_, ?_, ?_, ?_, ?_, ?_, ?_, ?_, ?_, ?_, ?_, ?_, trivial⟩
      all_goals (intro u w2' hb2 hd; simp [Deps, Region.binds, Sp.eq_holds, Sp.slice_holds] at hd; simp only [putDeps, dstOf, Region.binds])
      case refine_1 =>
        (try (obtain ⟨d0, hd⟩ := hd; (try (obtain ⟨d1, hd⟩ := hd; (try (obtain ⟨d2, hd⟩ := hd; (try (obtain ⟨d3, hd⟩ := hd))))))))
        have qn := (hb2.cell (p := ⟨mb + 1, 0, none⟩) (by show mb + 1 < W.heap.size; omega)).trans hcn
        go_wp2_with (fail)
        exact RelEnd.mk rfl (Below.refl _ _) (by first | rfl | (simp; done))
      case refine_2 =>
        (try (obtain ⟨d0, hd⟩ := hd; (try (obtain ⟨d1, hd⟩ := hd; (try (obtain ⟨d2, hd⟩ := hd; (try (obtain ⟨d3, hd⟩ := hd))))))))
        have qm := (hb2.cell (p := ⟨mb, 0, none⟩) (by show mb < W.heap.size; omega)).trans hcm
        go_wp2_with (fail)
        exact RelEnd.mk rfl (Below.refl _ _) (by first | rfl | (simp; done))
      case refine_3 =>
        (try (obtain ⟨d0, hd⟩ := hd; (try (obtain ⟨d1, hd⟩ := hd; (try (obtain ⟨d2, hd⟩ := hd; (try (obtain ⟨d3, hd⟩ := hd))))))))
        go_wp2_with (fail)
        exact RelEnd.mk rfl (Below.refl _ _) (by first | rfl | (simp; done))
      case refine_4 =>
        (try (obtain ⟨d0, hd⟩ := hd; (try (obtain ⟨d1, hd⟩ := hd; (try (obtain ⟨d2, hd⟩ := hd; (try (obtain ⟨d3, hd⟩ := hd))))))))
        go_wp2_with (fail)
        exact RelEnd.mk rfl (Below.refl _ _) (by first | rfl | (simp; done))
      case refine_5 =>
        (try (obtain ⟨d0, hd⟩ := hd; (try (obtain ⟨d1, hd⟩ := hd; (try (obtain ⟨d2, hd⟩ := hd; (try (obtain ⟨d3, hd⟩ := hd))))))))
        go_wp2_with (fail)
        exact RelEnd.mk rfl (Below.refl _ _) (by first | rfl | (simp; done))
      case refine_6 =>
        (try (obtain ⟨d0, hd⟩ := hd; (try (obtain ⟨d1, hd⟩ := hd; (try (obtain ⟨d2, hd⟩ := hd; (try (obtain ⟨d3, hd⟩ := hd))))))))
        have qb0 := (hb2.cell (p := ⟨b, 0, none⟩) hbl).trans (show W.cell? ⟨b, 0, none⟩ = _ from (cell_at9 HX.out 0).trans rfl)
        have qb1 := (hb2.cell (p := ⟨b, 1, none⟩) hbl).trans (show W.cell? ⟨b, 1, none⟩ = _ from (cell_at9 HX.out 1).trans rfl)
        have qb2 := (hb2.cell (p := ⟨b, 2, none⟩) hbl).trans (show W.cell? ⟨b, 2, none⟩ = _ from (cell_at9 HX.out 2).trans rfl)
        have qb3 := (hb2.cell (p := ⟨b, 3, none⟩) hbl).trans (show W.cell? ⟨b, 3, none⟩ = _ from (cell_at9 HX.out 3).trans rfl)
        go_wp2_with (fail)
        exact RelEnd.mk rfl (Below.refl _ _) (by first | rfl | (simp; done))
      case refine_7 =>
        (try (obtain ⟨d0, hd⟩ := hd; (try (obtain ⟨d1, hd⟩ := hd; (try (obtain ⟨d2, hd⟩ := hd; (try (obtain ⟨d3, hd⟩ := hd))))))))
        go_wp2_with (fail)
        exact RelEnd.mk rfl ((Below.refl _ _).alloc (Nat.le_refl _) _) ⟨_, _, rfl, in_cells (World.cell?_alloc_new ..) (World.cell?_alloc_new ..) (World.cell?_alloc_new ..) (World.cell?_alloc_new ..) (by simp) (by omega) (by omega)⟩
      case refine_8 =>
        (try (obtain ⟨d0, hd⟩ := hd; (try (obtain ⟨d1, hd⟩ := hd; (try (obtain ⟨d2, hd⟩ := hd; (try (obtain ⟨d3, hd⟩ := hd))))))))
        have qm := (hb2.cell (p := ⟨mb, 0, none⟩) (by show mb < W.heap.size; omega)).trans hcm
        go_wp2_with (fail)
        exact RelEnd.mk rfl (Below.refl _ _) (by first | rfl | (simp; done))
      case refine_9 =>
        (try (obtain ⟨d0, hd⟩ := hd; (try (obtain ⟨d1, hd⟩ := hd; (try (obtain ⟨d2, hd⟩ := hd; (try (obtain ⟨d3, hd⟩ := hd))))))))
        have qn := (hb2.cell (p := ⟨mb + 1, 0, none⟩) (by show mb + 1 < W.heap.size; omega)).trans hcn
        go_wp2_with (fail)
        exact RelEnd.mk rfl (Below.refl _ _) (by first | rfl | (simp; done))
      case refine_10 =>
        (try (obtain ⟨d0, hd⟩ := hd; (try (obtain ⟨d1, hd⟩ := hd; (try (obtain ⟨d2, hd⟩ := hd; (try (obtain ⟨d3, hd⟩ := hd))))))))
        have qn := (hb2.cell (p := ⟨mb + 1, 0, none⟩) (by show mb + 1 < W.heap.size; omega)).trans hcn
        go_wp2_with (fail)
        exact RelEnd.mk rfl (Below.refl _ _) (by first | rfl | (simp; done))
      case refine_11 =>
        (try (obtain ⟨d0, hd⟩ := hd; (try (obtain ⟨d1, hd⟩ := hd; (try (obtain ⟨d2, hd⟩ := hd; (try (obtain ⟨d3, hd⟩ := hd))))))))
        go_wp2_with (fail)
        exact RelEnd.mk rfl (Below.refl _ _) (by first | rfl | (simp; done))
      case refine_12 =>
        (try (obtain ⟨d0, hd⟩ := hd; (try (obtain ⟨d1, hd⟩ := hd; (try (obtain ⟨d2, hd⟩ := hd; (try (obtain ⟨d3, hd⟩ := hd))))))))
        go_wp2_with (fail)
        exact RelEnd.mk rfl (Below.refl _ _) ⟨_, _, rfl, in_cells ((hb2.cell hgW).trans Y0.out) ((hb2.cell hgW).trans Y1.out) ((hb2.cell hgW).trans Y2.out) ((hb2.cell hgW).trans Y3.out) (by have := hb2.size; omega) (by omega) (by omega)⟩
      case refine_13 =>
        obtain ⟨⟨AX, cx, dx, hX⟩, ⟨AY, cy, dy, hY⟩, d4⟩ := hd
        go_wp2_with (fail)
        refine (c_law09_Same [(⟨x0, x1, x2, x3⟩ : Wd)] AX AY cx cy _ hX hY).mono ?_
        rintro e w4 ⟨rfl, hb4⟩
        go_wp2_with (fail)
        exact RelEnd.mk rfl hb4 rfl
      case refine_14 =>
        (try (obtain ⟨d0, hd⟩ := hd; (try (obtain ⟨d1, hd⟩ := hd; (try (obtain ⟨d2, hd⟩ := hd; (try (obtain ⟨d3, hd⟩ := hd))))))))
        go_wp2_with (fail)
        exact RelEnd.mk rfl (Below.refl _ _) (by first | rfl | (simp; done))
    · intro u w2' hb2 hold
      simp only [RelHold, Sp.eq_holds] at hold
      obtain ⟨-, -, -, -, e4, -, -, -, -, -, -, -, -, e13, -⟩ := hold
      simp only [List.drop, List.take, putAll, Act.put, Nat.reduceAdd, List.setIfInBounds_toArray, List.set_cons_zero, List.set_cons_succ]
      rw [e4, e13]
      have hn2 := (hb2.block (mb + 1) (by omega)).trans h1
      obtain ⟨hcn2, hfn2⟩ := boxC hn2
      clear hcn hfn hcm
      go_wp2_with (fail)
      gi_wp2_with (rw [Oper.semAt_eq _ _ _ (fun c h => by cases h)]; go_simp; try go_bits)
      have hzW := hb2.size
      have hbW := h3.trans (hb2.mono h3.size)
      refine ⟨⟨by simpa [World.setCell] using hzW, fun j o hj hjo _ => ?_⟩, ⟨?_, fun a e => ?_⟩, ?_, fun j hj hj1 => ?_, ?_, ?_⟩
      · exact ((Below.heap_setCell _ _ _ _ (by show j ≠ mb + 1; omega)).trans (hb2.block j (Array.getElem?_eq_some_iff.1 hjo).1)).trans hjo
      · exact (Below.heap_setCell _ _ _ _ (by show q ≠ mb + 1; omega)).trans (hb2.block q (by omega))
      · exact (Below.heap_setCell _ _ _ _ (by show a.block ≠ mb + 1; have := (hA3 a e).1; omega)).trans (hb2.block a.block (by have := (hA3 a e).2; omega))
      · have := boxS (.int .i64 ((k + 1 : Nat) : Int)) hn2
        push_cast at this
        exact this
      · exact (Below.heap_setCell _ _ _ _ (by show j ≠ mb + 1; exact hj1)).trans ((hb2.block j (by omega)).trans (h2 j hj hj1))
      · exact hbW.setCell (by show w.heap.size ≤ mb + 1; omega) _
      · simp [World.setCell]; omega
  case hdone =>
    rintro D W hD ⟨h1, h2, h3, h4⟩ hWD
    obtain ⟨hcn, hfn⟩ := boxC h1
    obtain ⟨hcm, -⟩ := boxC ((h2 mb (by omega) (by omega)).trans hmb)
    replace hrb := (h2 w.heap.size (by omega) (by omega)).trans hrb
    have HRB := Lib.hid hrb
    have HWD := Lib.hid hWD
    have hDl : D < W.heap.size := (Array.getElem?_eq_some_iff.1 hWD).1
    have HJ1 := Lib.hid (fun w' (hb : Below W.heap.size W w') => (hI1.heap (W' := W) (fun a e => h2 a.block (by have := hA1 a e; omega) (by have := hA1 a e; omega))).below hb)
    have HJ2 := Lib.hid (fun w' (hb : Below W.heap.size W w') => (hI2.heap (W' := W) (fun a e => h2 a.block (by have := hA2 a e; omega) (by have := hA2 a e; omega))).below hb)
    have dp : (p == p) = true := by simp
    have dr : (r == r) = true := by simp
    have dl : ((l.length : Int) == (l.length : Int)) = true := by simp
    subst hts
    clear hrb hWD hI1 hI2 hA1 hA2 hA3 hmb hnb eg hv
    go_wp2_with (fail)
    refine (c_law09_Same l A1 A2 c1 c2 _ (HJ1.out _ (Below.refl _ _)) (HJ2.out _ (Below.refl _ _))).mono ?_
    rintro e w4 ⟨rfl, hb4⟩
    have qn := (hb4.cell (p := ⟨mb + 1, 0, none⟩) (by show mb + 1 < W.heap.size; omega)).trans hcn
    have qm := (hb4.cell (p := ⟨mb, 0, none⟩) (by show mb < W.heap.size; omega)).trans hcm
    clear hcn hfn hcm
    go_wp2_with (fail)
    refine (c_law09_awake _).mono ?_
    rintro e w5 ⟨rfl, hb5⟩
    have hb2 : Below W.heap.size W w5 := hb4.trans (hb5.mono hb4.size)
    have hrb2 := (hb2.block w.heap.size (by omega)).trans HRB.out
    obtain ⟨hcr, hfr⟩ := boxC hrb2
    have hD2 := (hb2.block D hDl).trans HWD.out
    have hB := h3.trans (hb2.mono h3.size)
    clear qn qm
    go_wp2_with (fail)
    refine ⟨by simp, .inl ⟨_, _, rfl, run_takeDeferred ((Below.heap_setCell _ _ _ _ (by show D ≠ w.heap.size; omega)).trans hD2), ?_⟩⟩
    refine ⟨.bool true, results_cell9 rfl rfl ?_, rfl, ?_⟩
    · exact load_res9 hrb2 (by omega)
    · exact (hB.setCell (Nat.le_refl _) _).grown (putObj_grown9 _ _ _) (by simpa [World.setCell] using hB.size) (fun j e => by injection e with e; omega)
end Go.Proofs.Ytfgjhgecmelccaa
