/-
  The statement LedgerWires: which answers may be, and their bytes, are the reference's, and answers are read of them: for every two answers and all bytes the law answers true. No condition beside the form's own.
  (W30l, W30m, OpenR, ClLedgerWires, in one text: merge.py.)
-/
import Derived.Test.YtplipddgeanajaaM30b
import Derived.Test.YtplipddgeanajaaM30a
import Derived.Test.YtplipddgeanajaaW01d
import Derived.Test.YtplipddgeanajaaW01f
import Derived.Test.YtplipddgeanajaaRel2
import Derived.Test.YtplipddgeanajaaOpen
import Derived.Test.YtplipddgeanajaaOpenV
import Derived.Test.YtplipddgeanajaaOpenB
/-! W30l -/
namespace Go.Proofs.Ytplipddgeanajaa
open Go.RowKit

theorem fresh_below {w w' : World} {o : Obj} (hk : Kept (some w.heap.size) (w.alloc o).heap.size (w.alloc o) w') : Below w.heap.size w w' := ((Below.refl _ _).alloc (Nat.le_refl _) _).trans (hk.oneB (by simp) (Nat.le_refl _))
abbrev lz : List LR := List.replicate 6 (⟨0, 0, rz⟩, none, 0)
theorem Lg.new {w : World} {g : Nat} (h : Blk w g (lgArr lz)) : Lg w g lz := ⟨rfl, h, fun x hx => by
  have := List.eq_of_mem_replicate hx
  subst this
  exact ⟨In.nil (by decide), .inl rfl⟩⟩
abbrev a30 : Rep := ⟨4, 0, 3, 0, 0, 0, 9, 0, [], 0⟩
abbrev r30 : List LRow := noteL (rowsOf lz) a30
theorem a30_ok : noteOk (rowsOf lz) a30 = true := by decide +kernel
theorem a30_1 : askE r30 0 2 = 13 := by decide +kernel
theorem a30_2 : askE r30 0 3 = 7 := by decide +kernel
theorem a30_3 : askE r30 0 4 = 0 := by decide +kernel
theorem a30_4 : askA r30 0 3 = a30 := by decide +kernel
set_option maxHeartbeats 2000000 in
set_option maxRecDepth 4000 in
theorem c_law30_awake (w : World) : Calls Try.prog 10 #[] w (RetV w (.bool true)) := by
  go_enter Try.func10, Try.ntmps10
  go_wp2_with (fail)
  refine (c_ledger_New _).mono ?_
  rintro e w1 ⟨rfl, bg, hb1⟩
  have L1 := Lib.hid (Lg.new bg)
  have H1 := Lib.hid hb1
  have hg1 := bg.lt
  obtain ⟨g, hg⟩ : ∃ g, g = w.heap.size := ⟨_, rfl⟩
  rw [← hg] at L1 hg1 ⊢
  have HG := Lib.hid hg
  clear bg hb1 hg
  go_wp2_with (with_reducible refine stop_store 37 (.tmp 2) (.tmp 11) rfl rfl ?_)
  refine Stop.mk (wpList_storeB rfl _ _ _ rfl w1.heap.size (a30.arr none 0) rfl rfl _ (Blk.new _ _ _) strRp rfl rfl (by simp [Value.oneCell']) ?_)
  intro w2 hb2 hk2
  have hB2 := fresh_below hk2
  have L2 := Lib.hid (L1.out.below hB2)
  have H2 := Lib.hid (H1.out.trans (hB2.mono H1.out.size))
  have B2 := Lib.hid hb2
  obtain ⟨p, hp⟩ : ∃ p, p = w1.heap.size := ⟨_, rfl⟩
  have hgp : g < p := by rw [hp]; exact hg1
  rw [← hp] at B2 ⊢
  clear hb2 hk2 hB2 L1 H1 hg1 hp
  go_wp2_with (with_reducible refine stop_load 37 (.tmp 2) rfl rfl ?_)
  refine Stop.mk (wpList_loadB rfl _ _ rfl p rfl _ B2.out strRp rfl ?_)
  go_wp2_with (fail)
  refine (c_ledger_Note g lz a30 none 0 _ L2.out (In.nil (by omega)) (by simp) (by decide) (by simp)).mono ?_
  rintro e w3 ⟨rfl, hk3, l3, hl3, hr3⟩
  rw [a30_ok]
  have L3 := Lib.hid hl3
  have R3 := Lib.hid hr3
  have H3 := Lib.hid (H2.out.trans (hk3.oneB H2.out.size (by have := HG.out; omega)))
  have B3 := Lib.hid (B2.out.kept hk3 B2.out.lt (by simp; omega))
  clear hk3 hl3 hr3 L2 H2 B2
  have ask := fun (req : Int) (w' : World) (h : Lg w' g l3) => c_ledger_Ask g l3 0 req w' h
  have HA := Lib.hid ask
  clear ask
  go_wp2_with (fail)
  refine (HA.out 2 _ L3.out).mono ?_
  rintro e w4 ⟨A4, c4, rfl, -, hb4⟩
  rw [R3.out, a30_1]
  go_wp2_with (with_reducible refine stop_store 37 (.tmp 4) (.tmp 18) rfl rfl ?_)
  refine Stop.mk (wpList_storeB rfl _ _ _ rfl w4.heap.size _ rfl rfl _ (Blk.new _ _ _) strRp rfl rfl (by simp [Value.oneCell']) ?_)
  intro w5 hb5 hk5
  have hB5 := hb4.trans ((fresh_below hk5).mono hb4.size)
  have L5 := Lib.hid (L3.out.below hB5)
  have H5 := Lib.hid (H3.out.trans (hB5.mono H3.out.size))
  have B5 := Lib.hid (B3.out.below hB5 B3.out.lt)
  clear hb4 hb5 hk5 hB5 L3 H3 B3
  go_wp2_with (fail)
  refine (HA.out 3 _ L5.out).mono ?_
  rintro e w6 ⟨A6, c6, rfl, own6, hb6⟩
  rw [R3.out, a30_2]
  rw [R3.out, a30_4] at own6
  rw [a30_4]
  go_wp2_with (with_reducible refine stop_store 37 (.tmp 6) (.tmp 23) rfl rfl ?_)
  refine Stop.mk (wpList_storeB rfl _ _ _ rfl w6.heap.size _ rfl rfl _ (Blk.new _ _ _) strRp rfl rfl (by simp [Value.oneCell']) ?_)
  intro w7 hb7 hk7
  have hB7 := hb6.trans ((fresh_below hk7).mono hb6.size)
  have L7 := Lib.hid (L5.out.below hB7)
  have H7 := Lib.hid (H5.out.trans (hB7.mono H5.out.size))
  have B7 := Lib.hid (B5.out.below hB7 B5.out.lt)
  have C7 := Lib.hid (show Blk w7 w6.heap.size (a30.arr A6 c6) from hb7)
  clear hb6 hb7 hk7 hB7 L5 H5 B5
  obtain ⟨q, hq⟩ : ∃ q, q = w6.heap.size := ⟨_, rfl⟩
  rw [← hq] at C7 ⊢
  clear hq
  go_wp2_with (fail)
  refine (HA.out 4 _ L7.out).mono ?_
  rintro e w8 ⟨A8, c8, rfl, -, hb8⟩
  rw [R3.out, a30_3]
  go_wp2_with (with_reducible refine stop_store 37 (.tmp 8) (.tmp 28) rfl rfl ?_)
  refine Stop.mk (wpList_storeB rfl _ _ _ rfl w8.heap.size _ rfl rfl _ (Blk.new _ _ _) strRp rfl rfl (by simp [Value.oneCell']) ?_)
  intro w9 hb9 hk9
  have hB9 := hb8.trans ((fresh_below hk9).mono hb8.size)
  have H9 := Lib.hid (H7.out.trans (hB9.mono H7.out.size))
  have B9 := Lib.hid (B7.out.below hB9 B7.out.lt)
  have C9 := Lib.hid (C7.out.below hB9 C7.out.lt)
  clear hb8 hb9 hk9 hB9 L7 H7 B7 C7
  go_wp2_with (with_reducible refine stop_loadG 37 (.tmp 6) rfl ?_)
  refine Stop.mk (wpList_loadAtG (by rfl) _ _ rfl q 0 rfl (a30.arr A6 c6) C9.out.all strRp rfl ?_)
  go_wp2_with (with_reducible refine stop_loadG 37 (.tmp 2) rfl ?_)
  refine Stop.mk (wpList_loadAtG (by rfl) _ _ rfl p 0 rfl (a30.arr none 0) B9.out.all strRp rfl ?_)
  go_wp2_with (fail)
  refine (c_ref30_Same a30 a30 A6 none c6 0 _ ?_ (In.nil (by omega))).mono ?_
  · exact In.nil (by
      have := own_form own6
      obtain ⟨_, _, hv, _, hc⟩ := this
      injection hv with _ _ hcc
      omega)
  rintro e w10 ⟨rfl, hb10⟩
  rw [decide_eq_true (rfl : a30 = a30)]
  go_wp2_with (fail)
  go_ret
  exact RetV.bool rfl (H9.out.trans (hb10.mono H9.out.size))
end Go.Proofs.Ytplipddgeanajaa
/-! W30m -/
namespace Go.Proofs.Ytplipddgeanajaa
open Go.RowKit

theorem relgoals_gen {P : Program} {ops : Array Oper} {S : List Sp} {a : Act} {w : World} {r : List Oper} {s : Nat} (h : ∀ fr, fr = a → RelGoals P ops S fr w r s) : RelGoals P ops S a w r s := h a rfl
theorem In.own3 {α : Type} {k : Nat} {cs : α → List Value} {w : World} {base : Nat} {e : TypeId} {A : Option Addr} {c : Nat} {l : List α} (hk : ∀ x, (cs x).length = k) (h : w.ownsRow base e k (.slice A l.length c) l.length (l.flatMap cs)) (hs : l.length ≤ 4294967296) : In k cs w A c l := by
  obtain ⟨A', c', hv, hin⟩ := In.of_own hk h hs
  injection hv with e1 _ e2
  subst e1 e2
  exact hin
theorem RdR.e {w : World} {h : Nat} {st : Rd} (r : RdR w h st) : w.cell? ⟨h, 1, none⟩ = some (.int .i64 st.e) := r.1.cell rfl
theorem RdR.s {w : World} {h : Nat} {st : Rd} (r : RdR w h st) : w.cell? ⟨h, 0, none⟩ = some (.string (str st.s)) := r.1.cell rfl
theorem rdRep_len (st : Rd) : (rdRep st).f.length ≤ 31 := by
  unfold rdRep rdRepRaw
  repeat' split
  all_goals first
    | (simp only; unfold rdPred; split <;> first | exact pdL_len _ | simp)
    | simp
/-- The two answers as they came in, the two readers. -/
structure LW (w w' : World) (g h : Nat) (s1 s2 : Rd) (cs ds : Array Value) : Prop where
  rp : RdP w' (some g) s1
  rr : RdR w' h s2
  at2 : At2 w w' cs ds
  og : w.heap.size + 2 ≤ g
  gh : g < h
section
variable {w w' w2 : World} {g h : Nat} {s1 s2 s3 : Rd} {cs ds : Array Value}
theorem LW.below (L : LW w w' g h s1 s2 cs ds) (hb : Below w'.heap.size w' w2) : LW w w2 g h s1 s2 cs ds := ⟨L.rp.below hb, L.rr.below hb, L.at2.step hb, L.og, L.gh⟩
theorem LW.hi (L : LW w w' g h s1 s2 cs ds) : h < w'.heap.size := L.rr.lt
theorem At2.kept (L : At2 w w' cs ds) {q : Nat} (hq : w.heap.size + 2 ≤ q) (k : Kept (some q) w'.heap.size w' w2) : At2 w w2 cs ds :=
  ⟨L.1.trans (k.oneB L.1.size (by omega)), L.2.1.kept k L.2.1.lt (fun e => by injection e with e; omega), L.2.2.kept k L.2.2.lt (fun e => by injection e with e; omega)⟩
theorem LW.readP (L : LW w w' g h s1 s2 cs ds) (r : RdP w2 (some g) s3) (k : Kept (some g) w'.heap.size w' w2) : LW w w2 g h s3 s2 cs ds :=
  ⟨r, L.rr.kept k (fun e => by injection e with e; have := L.gh; omega), L.at2.kept L.og k, L.og, L.gh⟩
theorem LW.readR (L : LW w w' g h s1 s2 cs ds) (r : RdR w2 h s3) (k : Kept (some h) w'.heap.size w' w2) : LW w w2 g h s1 s3 cs ds :=
  ⟨L.rp.kept k (fun x y e1 e2 => by injection e1 with e1; injection e2 with e2; have := L.gh; omega), r, L.at2.kept (by have := L.og; have := L.gh; omega) k, L.og, L.gh⟩
end
set_option maxHeartbeats 2000000 in
set_option maxRecDepth 4000 in
theorem law30_Wires_long (cs ds : Array Value) (A O : Option Addr) (na no c d : Nat) (B : Option Addr) (nb cb : Nat) (la lo : Bool) (w : World) (hca : cs[8]? = some (.slice A na c)) (hco : ds[8]? = some (.slice O no d))
    (ka : ∀ w', Below w.heap.size w w' → Calls Try.prog 9 #[.slice A na c] w' (RetV w' (.bool la))) (ko : ∀ w', Below w.heap.size w w' → Calls Try.prog 9 #[.slice O no d] w' (RetV w' (.bool lo)))
    (h : la = true ∨ lo = true ∨ 1000 < nb) : Calls Try.prog 4 #[.agg cs, .agg ds, .slice B nb cb] w (RetV w (.bool true)) := by
  have B0 := Lib.hid (At2.new w 37 37 cs ds)
  have p8 := B0.out.2.1.cell hca
  have q8 := B0.out.2.2.cell hco
  have KA := Lib.hid ka
  have KO := Lib.hid ko
  clear ka ko
  cases la
  case true =>
    go_enter Try.func4, Try.ntmps4
    go_wp2_with (fail)
    refine (KA.out _ B0.out.1).mono ?_
    rintro e w1 ⟨rfl, hb1⟩
    replace B0 := Lib.hid (B0.out.step hb1)
    clear p8 q8
    go_wp2_with (fail)
    refine (c_law30_awake _).mono ?_
    rintro e w2 ⟨rfl, hb2⟩
    go_wp2_with (fail)
    go_ret
    exact RetV.bool rfl (B0.out.1.trans (hb2.mono B0.out.1.size))
  case false =>
    cases lo
    case true =>
      go_enter Try.func4, Try.ntmps4
      go_wp2_with (fail)
      refine (KA.out _ B0.out.1).mono ?_
      rintro e w1 ⟨rfl, hb1⟩
      replace B0 := Lib.hid (B0.out.step hb1)
      clear p8 q8 hb1
      have q8 := B0.out.2.2.cell hco
      go_wp2_with (fail)
      refine (KO.out _ B0.out.1).mono ?_
      rintro e w1 ⟨rfl, hb1⟩
      replace B0 := Lib.hid (B0.out.step hb1)
      clear q8
      go_wp2_with (fail)
      refine (c_law30_awake _).mono ?_
      rintro e w2 ⟨rfl, hb2⟩
      go_wp2_with (fail)
      go_ret
      exact RetV.bool rfl (B0.out.1.trans (hb2.mono B0.out.1.size))
    case false =>
      have hn : 1000 < nb := by simpa using h
      clear h
      go_enter Try.func4, Try.ntmps4
      go_wp2_with (fail)
      refine (KA.out _ B0.out.1).mono ?_
      rintro e w1 ⟨rfl, hb1⟩
      replace B0 := Lib.hid (B0.out.step hb1)
      clear p8 q8 hb1
      have q8 := B0.out.2.2.cell hco
      go_wp2_with (fail)
      refine (KO.out _ B0.out.1).mono ?_
      rintro e w1 ⟨rfl, hb1⟩
      replace B0 := Lib.hid (B0.out.step hb1)
      clear q8
      go_wp2_with (fail)
      refine (c_law30_awake _).mono ?_
      rintro e w2 ⟨rfl, hb2⟩
      go_wp2_with (fail)
      go_ret
      exact RetV.bool rfl (B0.out.1.trans (hb2.mono B0.out.1.size))
set_option maxHeartbeats 8000000 in
set_option maxRecDepth 4000 in
theorem c_law30_LedgerWires (a o : Rep) (A O : Option Addr) (c d : Nat) (b : List UInt8) (B : Option Addr) (cb : Nat) (w : World) (ha : InN w A c a.f) (ho : InN w O d o.f) (hb : InB w B cb b) (la : large a.f = false) (lo : large o.f = false) (hbl : b.length ≤ 1000) (hma : a.mask < 4294967296) :
    Calls Try.prog 4 #[.agg (a.arr A c), .agg (o.arr O d), .slice B b.length cb] w (RetV w (.bool true)) := by
  obtain ⟨ha1, ha2⟩ := large_short la
  obtain ⟨ho1, ho2⟩ := large_short lo
  have hL := hb.1
  have hC := hb.2.1
  have B0 := Lib.hid (At2.new w 37 37 (a.arr A c) (o.arr O d))
  have HA := Lib.hid ha
  have HO := Lib.hid ho
  have HB := Lib.hid hb
  have HL := Lib.hid la
  have HM := Lib.hid lo
  have Hs := Lib.hid (show ∀ x ∈ a.f, x.v.s.length ≤ 4294967000 from fun x hx => by have := ha2 x hx; omega)
  have Ht := Lib.hid (show ∀ x ∈ o.f, x.v.s.length ≤ 4294967000 from fun x hx => by have := ho2 x hx; omega)
  obtain ⟨lv, hlv⟩ : ∃ l, l = b ++ repB a := ⟨_, rfl⟩
  have mv := repB_len a
  have nv : lv.length ≤ 3000 := by rw [hlv, List.length_append]; omega
  have bv : ¬ 9223372036854775807 < b.length + (repB a).length := by omega
  have LV := Lib.hid hlv
  have KB := Lib.hid (fun (w' : World) (hw : Below w.heap.size w w') => conv_str (P := Try.prog) w' Try.underlying27 Try.underlying5 Try.underlying9 (HB.out.below hw))
  obtain ⟨V, hV⟩ : ∃ V, V = decide (a = o) := ⟨_, rfl⟩
  have HV := Lib.hid hV
  obtain ⟨p0, p1, p2, p3, p4, p5, p6, p7, p8, p9⟩ := rep_cells B0.out.2.1; obtain ⟨q0, q1, q2, q3, q4, q5, q6, q7, q8, q9⟩ := rep_cells B0.out.2.2
  clear ha ho hb la lo ha2 ho2 hlv hV
  go_enter Try.func4, Try.ntmps4
  go_wp2_with (fail)
  refine (c_law10_Large a.f A c _ (HA.out.below B0.out.1) (fun x hx => by have := Hs.out x hx; omega)).mono ?_
  rintro e w1 ⟨rfl, hb1⟩
  rw [HL.out]
  replace B0 := Lib.hid (B0.out.step hb1)
  clear p0 p1 p2 p3 p4 p5 p6 p7 p8 p9 q0 q1 q2 q3 q4 q5 q6 q7 q8 q9
  clear hb1
  obtain ⟨p0, p1, p2, p3, p4, p5, p6, p7, p8, p9⟩ := rep_cells B0.out.2.1; obtain ⟨q0, q1, q2, q3, q4, q5, q6, q7, q8, q9⟩ := rep_cells B0.out.2.2
  go_wp2_with (fail)
  refine (c_law10_Large o.f O d _ (HO.out.below B0.out.1) (fun x hx => by have := Ht.out x hx; omega)).mono ?_
  rintro e w2 ⟨rfl, hb2⟩
  rw [HM.out]
  replace B0 := Lib.hid (B0.out.step hb2)
  clear p0 p1 p2 p3 p4 p5 p6 p7 p8 p9 q0 q1 q2 q3 q4 q5 q6 q7 q8 q9
  clear hb2
  have hz2 := B0.out.1.size
  go_wp2_with (fail)
  refine wp_region_rel [Sp.eq (.agg (a.arr A c)), Sp.eq (.bool a.ok), Sp.eq (.agg (a.arr A c)), Sp.eq (.bool a.ok), Sp.eq (.bool false), Sp.eq (.bool false), Sp.eq (.slice B b.length cb), Sp.eq (.agg (a.arr A c)), Sp.slice 1 bc lv, Sp.eq (.string (str lv)), Sp.eq (.slice B b.length cb), Sp.eq (.string (str b)), Sp.eq (.agg (a.arr A c)), Sp.eq (.string (str (repB a))), Sp.eq (.string (str lv)), Sp.eq (.bool false), Sp.eq (.bool false), Sp.eq (.bool false), Sp.eq (.agg (a.arr A c)), Sp.eq (.agg (o.arr O d)), Sp.eq (.bool V), Sp.eq (.agg (a.arr A c)), Sp.eq (.agg (o.arr O d)), Sp.eq (.bool V), Sp.eq (.bool false), Sp.eq (.bool false), Sp.eq (.bool false), Sp.eq (.agg (a.arr A c)), Sp.eq (.agg (a.arr A c)), Sp.eq (.bool true), Sp.eq (.bool false), Sp.eq (.bool false)] 124 (by kernel_rfl) (by kernel_rfl) rfl rfl ?_ ?_
  · refine relgoals_gen fun fr hfr => ?_
    have HFR := Lib.hid hfr
    clear hfr
    refine ⟨?_, ?_, ?_, ?_, ?_, ?_, ?_, ?_, ?_, ?_, ?_, ?_, ?_, ?_, ?_, ?_, ?_, ?_, ?_, ?_, ?_, ?_, ?_, ?_, ?_, ?_, ?_, ?_, ?_, ?_, ?_, ?_, trivial⟩
    all_goals (intro u w3 hb3 hd; have hbw : Below w.heap.size w w3 := B0.out.1.trans (hb3.mono hz2); simp [Deps, Region.binds, Sp.slice_holds, Sp.eq_holds] at hd; simp only [putDeps, dstOf, Region.binds])
    case refine_1 =>
      (try (obtain ⟨d0, hd⟩ := hd; (try (obtain ⟨d1, hd⟩ := hd; (try (obtain ⟨d2, hd⟩ := hd))))))
      rw [HFR.out]
      go_wp2_with (with_reducible refine stop_loadG 37 (.tmp 3) rfl ?_)
      refine Stop.mk (wpList_loadAtG (by simp [Region.wanted]) _ _ rfl w.heap.size 0 rfl (a.arr A c) ((B0.out.2.1).below hb3 (B0.out.2.1).lt).all strRp rfl ?_)
      go_wp2_with (fail)
      exact RelEnd.mk rfl (Below.refl _ _) rfl
    case refine_2 =>
      (try (obtain ⟨d0, hd⟩ := hd; (try (obtain ⟨d1, hd⟩ := hd; (try (obtain ⟨d2, hd⟩ := hd))))))
      rw [HFR.out]
      go_wp2_with (go_at_call 11; refine (c_ledger_Check a A c _ (HA.out.below hbw) Hs.out hma).mono ?_; rintro e4 w5 ⟨rfl, hb5⟩)
      exact RelEnd.mk rfl hb5 rfl
    case refine_3 =>
      (try (obtain ⟨d0, hd⟩ := hd; (try (obtain ⟨d1, hd⟩ := hd; (try (obtain ⟨d2, hd⟩ := hd))))))
      rw [HFR.out]
      go_wp2_with (with_reducible refine stop_loadG 37 (.tmp 3) rfl ?_)
      refine Stop.mk (wpList_loadAtG (by simp [Region.wanted]) _ _ rfl w.heap.size 0 rfl (a.arr A c) ((B0.out.2.1).below hb3 (B0.out.2.1).lt).all strRp rfl ?_)
      go_wp2_with (fail)
      exact RelEnd.mk rfl (Below.refl _ _) rfl
    case refine_4 =>
      (try (obtain ⟨d0, hd⟩ := hd; (try (obtain ⟨d1, hd⟩ := hd; (try (obtain ⟨d2, hd⟩ := hd))))))
      rw [HFR.out]
      go_wp2_with (go_at_call 12; refine (c_ref30_Check a A c _ (HA.out.below hbw) Hs.out hma).mono ?_; rintro e4 w5 ⟨rfl, hb5⟩)
      exact RelEnd.mk rfl hb5 rfl
    case refine_5 =>
      (try (obtain ⟨d0, hd⟩ := hd; (try (obtain ⟨d1, hd⟩ := hd; (try (obtain ⟨d2, hd⟩ := hd))))))
      rw [HFR.out]
      go_wp2_with (fail)
      exact RelEnd.mk rfl (Below.refl _ _) rfl
    case refine_6 =>
      (try (obtain ⟨d0, hd⟩ := hd; (try (obtain ⟨d1, hd⟩ := hd; (try (obtain ⟨d2, hd⟩ := hd))))))
      rw [HFR.out]
      go_wp2_with (fail)
      exact RelEnd.mk rfl (Below.refl _ _) rfl
    case refine_7 =>
      (try (obtain ⟨d0, hd⟩ := hd; (try (obtain ⟨d1, hd⟩ := hd; (try (obtain ⟨d2, hd⟩ := hd))))))
      rw [HFR.out]
      go_wp2_with (fail)
      exact RelEnd.mk rfl (Below.refl _ _) rfl
    case refine_8 =>
      (try (obtain ⟨d0, hd⟩ := hd; (try (obtain ⟨d1, hd⟩ := hd; (try (obtain ⟨d2, hd⟩ := hd))))))
      rw [HFR.out]
      go_wp2_with (with_reducible refine stop_loadG 37 (.tmp 3) rfl ?_)
      refine Stop.mk (wpList_loadAtG (by simp [Region.wanted, yielded]) _ _ rfl w.heap.size 0 rfl (a.arr A c) ((B0.out.2.1).below hb3 (B0.out.2.1).lt).all strRp rfl ?_)
      go_wp2_with (fail)
      exact RelEnd.mk rfl (Below.refl _ _) rfl
    case refine_9 =>
      (try (obtain ⟨d0, hd⟩ := hd; (try (obtain ⟨d1, hd⟩ := hd; (try (obtain ⟨d2, hd⟩ := hd))))))
      rw [HFR.out]
      go_wp2_with (go_at_call 13; refine (c_ledger_Put b B cb a A c _ (HB.out.below hbw) (by omega) (HA.out.below hbw) Hs.out hma).mono ?_; rintro e4 w4 ⟨v3, rfl, own3, hb4⟩)
      rw [← LV.out] at own3
      exact RelEnd.mk rfl hb4 (In.of_own bc_len own3 (by omega))
    case refine_10 =>
      obtain ⟨⟨A2, c2, h0, h1⟩, h2⟩ := hd
      rw [HFR.out]
      have kc' : (convert 27 9 (u 8)).run Try.prog w3 = .ok (.string (str lv)) w3 := by rw [h0]; exact conv_str (P := Try.prog) w3 Try.underlying27 Try.underlying5 Try.underlying9 h1
      clear h0 h1
      go_wp2_with (fail); exact RelEnd.mk rfl (Below.refl _ _) rfl
    case refine_11 =>
      (try (obtain ⟨d0, hd⟩ := hd; (try (obtain ⟨d1, hd⟩ := hd; (try (obtain ⟨d2, hd⟩ := hd))))))
      rw [HFR.out]
      go_wp2_with (fail)
      exact RelEnd.mk rfl (Below.refl _ _) rfl
    case refine_12 =>
      (try (obtain ⟨d0, hd⟩ := hd; (try (obtain ⟨d1, hd⟩ := hd; (try (obtain ⟨d2, hd⟩ := hd))))))
      rw [HFR.out]
      have kc := KB.out w3 hbw
      go_wp2_with (fail); exact RelEnd.mk rfl (Below.refl _ _) rfl
    case refine_13 =>
      (try (obtain ⟨d0, hd⟩ := hd; (try (obtain ⟨d1, hd⟩ := hd; (try (obtain ⟨d2, hd⟩ := hd))))))
      rw [HFR.out]
      go_wp2_with (with_reducible refine stop_loadG 37 (.tmp 3) rfl ?_)
      refine Stop.mk (wpList_loadAtG (by simp [Region.wanted, yielded]) _ _ rfl w.heap.size 0 rfl (a.arr A c) ((B0.out.2.1).below hb3 (B0.out.2.1).lt).all strRp rfl ?_)
      go_wp2_with (fail)
      exact RelEnd.mk rfl (Below.refl _ _) rfl
    case refine_14 =>
      (try (obtain ⟨d0, hd⟩ := hd; (try (obtain ⟨d1, hd⟩ := hd; (try (obtain ⟨d2, hd⟩ := hd))))))
      rw [HFR.out]
      go_wp2_with (go_at_call 14; refine (c_ref30_Put a A c _ (HA.out.below hbw) Hs.out hma).mono ?_; rintro e4 w5 ⟨rfl, hb5⟩)
      exact RelEnd.mk rfl hb5 rfl
    case refine_15 =>
      (try (obtain ⟨d0, hd⟩ := hd; (try (obtain ⟨d1, hd⟩ := hd; (try (obtain ⟨d2, hd⟩ := hd))))))
      rw [HFR.out]
      go_wp2_with (fail)
      exact RelEnd.mk rfl (Below.refl _ _) (by show _ = _; rw [LV.out]; rfl)
    case refine_16 =>
      (try (obtain ⟨d0, hd⟩ := hd; (try (obtain ⟨d1, hd⟩ := hd; (try (obtain ⟨d2, hd⟩ := hd))))))
      rw [HFR.out]
      go_wp2_with (fail)
      exact RelEnd.mk rfl (Below.refl _ _) rfl
    case refine_17 =>
      (try (obtain ⟨d0, hd⟩ := hd; (try (obtain ⟨d1, hd⟩ := hd; (try (obtain ⟨d2, hd⟩ := hd))))))
      rw [HFR.out]
      go_wp2_with (fail)
      exact RelEnd.mk rfl (Below.refl _ _) rfl
    case refine_18 =>
      (try (obtain ⟨d0, hd⟩ := hd; (try (obtain ⟨d1, hd⟩ := hd; (try (obtain ⟨d2, hd⟩ := hd))))))
      rw [HFR.out]
      go_wp2_with (fail)
      exact RelEnd.mk rfl (Below.refl _ _) rfl
    case refine_19 =>
      (try (obtain ⟨d0, hd⟩ := hd; (try (obtain ⟨d1, hd⟩ := hd; (try (obtain ⟨d2, hd⟩ := hd))))))
      rw [HFR.out]
      go_wp2_with (with_reducible refine stop_loadG 37 (.tmp 3) rfl ?_)
      refine Stop.mk (wpList_loadAtG (by simp [Region.wanted, yielded]) _ _ rfl w.heap.size 0 rfl (a.arr A c) ((B0.out.2.1).below hb3 (B0.out.2.1).lt).all strRp rfl ?_)
      go_wp2_with (fail)
      exact RelEnd.mk rfl (Below.refl _ _) rfl
    case refine_20 =>
      (try (obtain ⟨d0, hd⟩ := hd; (try (obtain ⟨d1, hd⟩ := hd; (try (obtain ⟨d2, hd⟩ := hd))))))
      rw [HFR.out]
      go_wp2_with (with_reducible refine stop_loadG 37 (.tmp 4) rfl ?_)
      refine Stop.mk (wpList_loadAtG (by simp [Region.wanted, yielded]) _ _ rfl (w.heap.size + 1) 0 rfl (o.arr O d) ((B0.out.2.2).below hb3 (B0.out.2.2).lt).all strRp rfl ?_)
      go_wp2_with (fail)
      exact RelEnd.mk rfl (Below.refl _ _) rfl
    case refine_21 =>
      (try (obtain ⟨d0, hd⟩ := hd; (try (obtain ⟨d1, hd⟩ := hd; (try (obtain ⟨d2, hd⟩ := hd))))))
      rw [HFR.out]
      go_wp2_with (go_at_call 15; refine (c_ledger_Same a o A O c d _ (HA.out.below hbw) (HO.out.below hbw)).mono ?_; rintro e4 w5 ⟨rfl, hb5⟩; rw [← HV.out])
      exact RelEnd.mk rfl hb5 rfl
    case refine_22 =>
      (try (obtain ⟨d0, hd⟩ := hd; (try (obtain ⟨d1, hd⟩ := hd; (try (obtain ⟨d2, hd⟩ := hd))))))
      rw [HFR.out]
      go_wp2_with (with_reducible refine stop_loadG 37 (.tmp 3) rfl ?_)
      refine Stop.mk (wpList_loadAtG (by simp [Region.wanted, yielded]) _ _ rfl w.heap.size 0 rfl (a.arr A c) ((B0.out.2.1).below hb3 (B0.out.2.1).lt).all strRp rfl ?_)
      go_wp2_with (fail)
      exact RelEnd.mk rfl (Below.refl _ _) rfl
    case refine_23 =>
      (try (obtain ⟨d0, hd⟩ := hd; (try (obtain ⟨d1, hd⟩ := hd; (try (obtain ⟨d2, hd⟩ := hd))))))
      rw [HFR.out]
      go_wp2_with (with_reducible refine stop_loadG 37 (.tmp 4) rfl ?_)
      refine Stop.mk (wpList_loadAtG (by simp [Region.wanted, yielded]) _ _ rfl (w.heap.size + 1) 0 rfl (o.arr O d) ((B0.out.2.2).below hb3 (B0.out.2.2).lt).all strRp rfl ?_)
      go_wp2_with (fail)
      exact RelEnd.mk rfl (Below.refl _ _) rfl
    case refine_24 =>
      (try (obtain ⟨d0, hd⟩ := hd; (try (obtain ⟨d1, hd⟩ := hd; (try (obtain ⟨d2, hd⟩ := hd))))))
      rw [HFR.out]
      go_wp2_with (go_at_call 16; refine (c_ref30_Same a o A O c d _ (HA.out.below hbw) (HO.out.below hbw)).mono ?_; rintro e4 w5 ⟨rfl, hb5⟩; rw [← HV.out])
      exact RelEnd.mk rfl hb5 rfl
    case refine_25 =>
      (try (obtain ⟨d0, hd⟩ := hd; (try (obtain ⟨d1, hd⟩ := hd; (try (obtain ⟨d2, hd⟩ := hd))))))
      rw [HFR.out]
      go_wp2_with (fail)
      exact RelEnd.mk rfl (Below.refl _ _) rfl
    case refine_26 =>
      (try (obtain ⟨d0, hd⟩ := hd; (try (obtain ⟨d1, hd⟩ := hd; (try (obtain ⟨d2, hd⟩ := hd))))))
      rw [HFR.out]
      go_wp2_with (fail)
      exact RelEnd.mk rfl (Below.refl _ _) rfl
    case refine_27 =>
      (try (obtain ⟨d0, hd⟩ := hd; (try (obtain ⟨d1, hd⟩ := hd; (try (obtain ⟨d2, hd⟩ := hd))))))
      rw [HFR.out]
      go_wp2_with (fail)
      exact RelEnd.mk rfl (Below.refl _ _) rfl
    case refine_28 =>
      (try (obtain ⟨d0, hd⟩ := hd; (try (obtain ⟨d1, hd⟩ := hd; (try (obtain ⟨d2, hd⟩ := hd))))))
      rw [HFR.out]
      go_wp2_with (with_reducible refine stop_loadG 37 (.tmp 3) rfl ?_)
      refine Stop.mk (wpList_loadAtG (by simp [Region.wanted, yielded]) _ _ rfl w.heap.size 0 rfl (a.arr A c) ((B0.out.2.1).below hb3 (B0.out.2.1).lt).all strRp rfl ?_)
      go_wp2_with (fail)
      exact RelEnd.mk rfl (Below.refl _ _) rfl
    case refine_29 =>
      (try (obtain ⟨d0, hd⟩ := hd; (try (obtain ⟨d1, hd⟩ := hd; (try (obtain ⟨d2, hd⟩ := hd))))))
      rw [HFR.out]
      go_wp2_with (with_reducible refine stop_loadG 37 (.tmp 3) rfl ?_)
      refine Stop.mk (wpList_loadAtG (by simp [Region.wanted, yielded]) _ _ rfl w.heap.size 0 rfl (a.arr A c) ((B0.out.2.1).below hb3 (B0.out.2.1).lt).all strRp rfl ?_)
      go_wp2_with (fail)
      exact RelEnd.mk rfl (Below.refl _ _) rfl
    case refine_30 =>
      (try (obtain ⟨d0, hd⟩ := hd; (try (obtain ⟨d1, hd⟩ := hd; (try (obtain ⟨d2, hd⟩ := hd))))))
      rw [HFR.out]
      go_wp2_with (go_at_call 15; refine (c_ledger_Same a a A A c c _ (HA.out.below hbw) (HA.out.below hbw)).mono ?_; rintro e4 w5 ⟨rfl, hb5⟩; rw [decide_eq_true (rfl : a = a)])
      exact RelEnd.mk rfl hb5 rfl
    case refine_31 =>
      (try (obtain ⟨d0, hd⟩ := hd; (try (obtain ⟨d1, hd⟩ := hd; (try (obtain ⟨d2, hd⟩ := hd))))))
      rw [HFR.out]
      go_wp2_with (fail)
      exact RelEnd.mk rfl (Below.refl _ _) rfl
    case refine_32 =>
      (try (obtain ⟨d0, hd⟩ := hd; (try (obtain ⟨d1, hd⟩ := hd; (try (obtain ⟨d2, hd⟩ := hd))))))
      rw [HFR.out]
      go_wp2_with (fail)
      exact RelEnd.mk rfl (Below.refl _ _) rfl
  · intro u w3 hb3 hold
    simp only [RelHold, Sp.eq_holds, Nat.reduceAdd] at hold
    obtain ⟨-, -, -, -, -, -, -, -, -, -, -, -, -, -, -, -, -, -, -, -, -, -, -, -, -, -, -, -, -, -, -, dL, -⟩ := hold
    simp only [putAll, Act.put, Nat.reduceAdd, List.setIfInBounds_toArray, List.set_cons_zero, List.set_cons_succ, dL]
    replace B0 := Lib.hid (B0.out.step hb3)
    clear hb3 hz2 dL
    go_wp2_with (fail)
    refine (c_octet_New b B cb _ (HB.out.below B0.out.1)).mono ?_
    rintro e w4 ⟨g, rfl, hg, hr1, hb4⟩
    have hg2 : w.heap.size + 2 ≤ g := by have := B0.out.2.2.lt; omega
    replace B0 := Lib.hid (B0.out.step hb4)
    have hgl : g < w4.heap.size := hr1.lt rfl
    have kb := KB.out w4 B0.out.1
    clear hb4 hg
    have L0 := Lib.hid (show LW w (w4.alloc (.cells #[.string (str b), .int .i64 0] 47)) g w4.heap.size ⟨b, 0⟩ ⟨b, 0⟩ (a.arr A c) (o.arr O d) from ⟨hr1.below ((Below.refl _ _).alloc (Nat.le_refl _) _), ⟨Blk.new _ _ _, by simp only; omega⟩, B0.out.step ((Below.refl _ _).alloc (Nat.le_refl _) _), hg2, hgl⟩)
    obtain ⟨h, hh⟩ : ∃ h, h = w4.heap.size := ⟨_, rfl⟩
    go_wp2_with (fail)
    rw [← hh] at L0 ⊢
    clear hh hr1 B0 hg2 hgl kb
    go_loopw [9] (fun i wr => ∃ (k : Nat) (st : Rd), k ≤ 3 ∧ i = .int .i64 k ∧ Hid (LW w wr g h st st (a.arr A c) (o.arr O d)))
      (fun i _ => 3 - (intOf i).toNat)
    case atStart => exact ⟨0, ⟨b, 0⟩, by omega, rfl, L0.out⟩
    case round =>
      obtain ⟨k, st, hk3, rfl, L1⟩ := hrel
      clear L0
      by_cases hlt : k < 3
      · have hd : decide ((k : Int) < 3) = true := by simp; omega
        have HLT := Lib.hid hlt
        have E1 := rdRep_len st
        have LD := Lib.hid (L1.out.below (Below.refl _ _).drew)
        have hhd : h < wr.drew.heap.size := LD.out.hi
        clear hlt hk3 L1
        go_wp2_with (fail)
        refine wp_region_two (N := 124) (by kernel_rfl) (by kernel_rfl) rfl 21 rfl (by kernel_rfl) rfl ⟨rfl, rfl, rfl⟩ ⟨rfl, rfl, rfl⟩ ⟨rfl, rfl, rfl⟩ ⟨rfl, rfl, rfl⟩
          ⟨Try.func18, by kernel_rfl, by kernel_rfl⟩ ⟨Try.func19, by kernel_rfl, by kernel_rfl⟩ (by first | decide | simp) ⟨by first | decide | simp, by first | decide | simp⟩ (by decide) (by decide) ?_
        refine (c_ledger_Read (some g) st _ LD.out.rp).mono ?_
        rintro e w5 ⟨A2, c2, rfl, own2, hrp2, hk2⟩
        have L2 := Lib.hid (LD.out.readP hrp2 hk2)
        have O2 := Lib.hid own2
        clear own2 hrp2 hk2
        refine ⟨_, rfl, ?_⟩
        refine (c_ref30_Read h st _ L2.out.rr).mono ?_
        rintro e w6 ⟨A3, c3, rfl, own3, hrr3, hk3⟩
        have L3 := Lib.hid (L2.out.readR hrr3 hk3)
        have I2 := Lib.hid (In.own3 Node.cells_len (own_kept O2.out hk3 (fun x e => by injection e with e; omega)) (by omega))
        have I3 := Lib.hid (In.own3 Node.cells_len own3 (by omega))
        have hh3 : h < w6.heap.size := L3.out.hi
        clear own3 hrr3 hk3 L2 O2 LD
        refine ⟨_, rfl, [Sp.eq (.bool true), Sp.eq (.bool false), Sp.eq (.bool false), Sp.eq (ptr (some g)), Sp.eq (.int .i64 (rdRep' st).e), Sp.eq (.pointer (some ⟨h, 0, none⟩)), Sp.eq (.pointer (some ⟨h, 0, none⟩)), Sp.eq (.pointer (some ⟨h, 1, none⟩)), Sp.eq (.int .i64 (rdRep' st).e), Sp.eq (.bool false), Sp.eq (.bool false), Sp.eq (.bool false), Sp.eq (ptr (some g)), Sp.eq (.int .i64 (rdRep' st).s.length), Sp.eq (.pointer (some ⟨h, 0, none⟩)), Sp.eq (.pointer (some ⟨h, 0, none⟩)), Sp.eq (.pointer (some ⟨h, 0, none⟩)), Sp.eq (.string (str (rdRep' st).s)), Sp.eq (.int .i64 (rdRep' st).s.length), Sp.eq (.bool false), Sp.eq (.bool false)], rfl, ?_, ?_⟩
        · show RelGoals _ _ (Sp.eq (ptr (some g)) :: Sp.eq (.agg ((rdRep st).arr A2 c2)) :: Sp.eq (.pointer (some ⟨h, 0, none⟩)) :: Sp.eq (.agg ((rdRep st).arr A3 c3)) :: _) _ _ _ _
          refine relgoals_gen fun fr hfr => ?_
          have HFR := Lib.hid hfr
          clear hfr
          refine ⟨?_, ?_, ?_, ?_, ?_, ?_, ?_, ?_, ?_, ?_, ?_, ?_, ?_, ?_, ?_, ?_, ?_, ?_, ?_, ?_, ?_, trivial⟩
          all_goals (intro u w7 hb7 hd; simp [Deps, Region.binds, Sp.eq_holds] at hd; simp only [putDeps, dstOf, Region.binds])
          case refine_1 =>
            (try (obtain ⟨d0, hd⟩ := hd; (try (obtain ⟨d1, hd⟩ := hd; (try (obtain ⟨d2, hd⟩ := hd))))))
            rw [HFR.out]
            go_wp2_with (go_at_call 16; refine (c_ref30_Same (rdRep st) (rdRep st) A2 A3 c2 c3 _ (I2.out.below hb7) (I3.out.below hb7)).mono ?_; rintro e4 w5 ⟨rfl, hb5⟩; rw [decide_eq_true (rfl : rdRep st = rdRep st)])
            exact RelEnd.mk rfl hb5 rfl
          case refine_2 =>
            (try (obtain ⟨d0, hd⟩ := hd; (try (obtain ⟨d1, hd⟩ := hd; (try (obtain ⟨d2, hd⟩ := hd))))))
            rw [HFR.out]
            go_wp2_with (fail)
            exact RelEnd.mk rfl (Below.refl _ _) rfl
          case refine_3 =>
            (try (obtain ⟨d0, hd⟩ := hd; (try (obtain ⟨d1, hd⟩ := hd; (try (obtain ⟨d2, hd⟩ := hd))))))
            rw [HFR.out]
            go_wp2_with (fail)
            exact RelEnd.mk rfl (Below.refl _ _) rfl
          case refine_4 =>
            (try (obtain ⟨d0, hd⟩ := hd; (try (obtain ⟨d1, hd⟩ := hd; (try (obtain ⟨d2, hd⟩ := hd))))))
            rw [HFR.out]
            go_wp2_with (fail)
            exact RelEnd.mk rfl (Below.refl _ _) rfl
          case refine_5 =>
            (try (obtain ⟨d0, hd⟩ := hd; (try (obtain ⟨d1, hd⟩ := hd; (try (obtain ⟨d2, hd⟩ := hd))))))
            rw [HFR.out]
            go_wp2_with (go_at_call 20; refine (c_octet_Err' (some g) _ _ (L3.out.rp.below hb7)).mono ?_; rintro e4 w5 ⟨rfl, hb5⟩)
            exact RelEnd.mk rfl hb5 rfl
          case refine_6 =>
            (try (obtain ⟨d0, hd⟩ := hd; (try (obtain ⟨d1, hd⟩ := hd; (try (obtain ⟨d2, hd⟩ := hd))))))
            rw [HFR.out]
            go_wp2_with (fail)
            exact RelEnd.mk rfl (Below.refl _ _) rfl
          case refine_7 =>
            (try (obtain ⟨d0, hd⟩ := hd; (try (obtain ⟨d1, hd⟩ := hd; (try (obtain ⟨d2, hd⟩ := hd))))))
            rw [HFR.out]
            go_wp2_with (fail)
            exact RelEnd.mk rfl (Below.refl _ _) rfl
          case refine_8 =>
            (try (obtain ⟨d0, hd⟩ := hd; (try (obtain ⟨d1, hd⟩ := hd; (try (obtain ⟨d2, hd⟩ := hd))))))
            rw [HFR.out]
            go_wp2_with (fail)
            exact RelEnd.mk rfl (Below.refl _ _) rfl
          case refine_9 =>
            (try (obtain ⟨d0, hd⟩ := hd; (try (obtain ⟨d1, hd⟩ := hd; (try (obtain ⟨d2, hd⟩ := hd))))))
            rw [HFR.out]
            have c1 := (L3.out.rr.below hb7).e
            go_wp2_with (fail)
            exact RelEnd.mk rfl (Below.refl _ _) rfl
          case refine_10 =>
            (try (obtain ⟨d0, hd⟩ := hd; (try (obtain ⟨d1, hd⟩ := hd; (try (obtain ⟨d2, hd⟩ := hd))))))
            rw [HFR.out]
            go_wp2_with (fail)
            exact RelEnd.mk rfl (Below.refl _ _) rfl
          case refine_11 =>
            (try (obtain ⟨d0, hd⟩ := hd; (try (obtain ⟨d1, hd⟩ := hd; (try (obtain ⟨d2, hd⟩ := hd))))))
            rw [HFR.out]
            go_wp2_with (fail)
            exact RelEnd.mk rfl (Below.refl _ _) rfl
          case refine_12 =>
            (try (obtain ⟨d0, hd⟩ := hd; (try (obtain ⟨d1, hd⟩ := hd; (try (obtain ⟨d2, hd⟩ := hd))))))
            rw [HFR.out]
            go_wp2_with (fail)
            exact RelEnd.mk rfl (Below.refl _ _) rfl
          case refine_13 =>
            (try (obtain ⟨d0, hd⟩ := hd; (try (obtain ⟨d1, hd⟩ := hd; (try (obtain ⟨d2, hd⟩ := hd))))))
            rw [HFR.out]
            go_wp2_with (fail)
            exact RelEnd.mk rfl (Below.refl _ _) rfl
          case refine_14 =>
            (try (obtain ⟨d0, hd⟩ := hd; (try (obtain ⟨d1, hd⟩ := hd; (try (obtain ⟨d2, hd⟩ := hd))))))
            rw [HFR.out]
            go_wp2_with (go_at_call 21; refine (c_octet_Left' (some g) _ _ (L3.out.rp.below hb7)).mono ?_; rintro e4 w5 ⟨rfl, hb5⟩)
            exact RelEnd.mk rfl hb5 rfl
          case refine_15 =>
            (try (obtain ⟨d0, hd⟩ := hd; (try (obtain ⟨d1, hd⟩ := hd; (try (obtain ⟨d2, hd⟩ := hd))))))
            rw [HFR.out]
            go_wp2_with (fail)
            exact RelEnd.mk rfl (Below.refl _ _) rfl
          case refine_16 =>
            (try (obtain ⟨d0, hd⟩ := hd; (try (obtain ⟨d1, hd⟩ := hd; (try (obtain ⟨d2, hd⟩ := hd))))))
            rw [HFR.out]
            go_wp2_with (fail)
            exact RelEnd.mk rfl (Below.refl _ _) rfl
          case refine_17 =>
            (try (obtain ⟨d0, hd⟩ := hd; (try (obtain ⟨d1, hd⟩ := hd; (try (obtain ⟨d2, hd⟩ := hd))))))
            rw [HFR.out]
            go_wp2_with (fail)
            exact RelEnd.mk rfl (Below.refl _ _) rfl
          case refine_18 =>
            (try (obtain ⟨d0, hd⟩ := hd; (try (obtain ⟨d1, hd⟩ := hd; (try (obtain ⟨d2, hd⟩ := hd))))))
            rw [HFR.out]
            have c0 := (L3.out.rr.below hb7).s
            go_wp2_with (fail)
            exact RelEnd.mk rfl (Below.refl _ _) rfl
          case refine_19 =>
            (try (obtain ⟨d0, hd⟩ := hd; (try (obtain ⟨d1, hd⟩ := hd; (try (obtain ⟨d2, hd⟩ := hd))))))
            rw [HFR.out]
            go_wp2_with (fail)
            exact RelEnd.mk rfl (Below.refl _ _) rfl
          case refine_20 =>
            (try (obtain ⟨d0, hd⟩ := hd; (try (obtain ⟨d1, hd⟩ := hd; (try (obtain ⟨d2, hd⟩ := hd))))))
            rw [HFR.out]
            go_wp2_with (fail)
            exact RelEnd.mk rfl (Below.refl _ _) rfl
          case refine_21 =>
            (try (obtain ⟨d0, hd⟩ := hd; (try (obtain ⟨d1, hd⟩ := hd; (try (obtain ⟨d2, hd⟩ := hd))))))
            rw [HFR.out]
            go_wp2_with (fail)
            exact RelEnd.mk rfl (Below.refl _ _) rfl
        · intro u w7 hb7 hold
          simp only [RelHold, Sp.eq_holds, Nat.reduceAdd] at hold
          obtain ⟨-, -, -, -, -, -, -, -, -, -, -, -, -, -, -, -, -, -, -, -, -, -, -, -, dL, -⟩ := hold
          simp only [putAll, Act.put, Nat.reduceAdd, List.setIfInBounds_toArray, List.set_cons_zero, List.set_cons_succ, dL]
          have L7 := Lib.hid (L3.out.below hb7)
          clear hb7 L3 I2 I3
          have h4 : k < 3 := HLT.out
          go_wp2_with (fail)
          go_roundw
          case rel => exact ⟨k + 1, rdRep' st, by omega, by go_num, L7.out⟩
          case measure => simp [intOf]; omega
      · have hd : decide ((k : Int) < 3) = false := by simp; omega
        have B1 := Lib.hid L1.out.at2
        clear hlt hk3 L1
        go_wp2_with (with_reducible refine stop_load 37 (.tmp 3) rfl rfl ?_)
        refine Stop.mk (wpList_loadB rfl _ _ rfl w.heap.size rfl _ B1.out.2.1 strRp rfl ?_)
        go_wp2_with (fail)
        refine (c_ref30_Check a A c _ (HA.out.below B1.out.1) Hs.out hma).mono ?_
        rintro e w5 ⟨rfl, hb5⟩
        replace B1 := Lib.hid (B1.out.step hb5)
        clear hb5
        cases hok : a.ok
        case false =>
          go_wp2_with (fail)
          refine (c_ledger_Read none ⟨[], 1⟩ _ (RdP.nilmk _)).mono ?_
          rintro e w97 ⟨A9, c9, rfl, own9, -, hk9⟩
          have hb9 : Below _ _ w97 := hk9.below (Nat.le_refl _) (fun _ h => by cases h)
          rw [(rdRep_err (st := ⟨[], 1⟩) (by decide)).1] at own9 ⊢
          have hc9 : c9 ≤ 9223372036854775807 := by obtain ⟨_, _, hv, _, hc⟩ := own_form own9; injection hv with _ _ hcc; omega
          replace B1 := Lib.hid (B1.out.step hb9)
          clear own9 hk9 hb9
          go_wp2_with (fail)
          refine (c_ref30_Same rz rz A9 none c9 0 _ (In.nil hc9) (In.nil (by omega))).mono ?_
          rintro e w98 ⟨rfl, hb98⟩
          rw [decide_eq_true (rfl : rz = rz)]
          replace B1 := Lib.hid (B1.out.step hb98)
          clear hb98
          go_wp2_with (fail)
          refine (c_law30_awake _).mono ?_
          rintro e w99 ⟨rfl, hb99⟩
          go_wp2_with (fail)
          go_ret
          exact RetV.bool rfl (B1.out.1.trans (hb99.mono B1.out.1.size))
        case true =>
          have Hok := Lib.hid hok
          clear hok
          go_wp2_with (with_reducible refine stop_load 37 (.tmp 3) rfl rfl ?_)
          refine Stop.mk (wpList_loadB rfl _ _ rfl w.heap.size rfl _ B1.out.2.1 strRp rfl ?_)
          go_wp2_with (fail)
          refine (c_ledger_Put [] none 0 a A c _ (In.nil (by omega)) (by simp) (HA.out.below B1.out.1) Hs.out hma).mono ?_
          rintro e w6 ⟨v6, rfl, own6, hb6⟩
          rw [List.nil_append] at own6
          have hz5 := B1.out.1.size
          have lt1 := B1.out.2.1.lt
          have lt2 := B1.out.2.2.lt
          have hz6 := hb6.size
          replace B1 := Lib.hid (B1.out.step hb6)
          go_wp2_with ((at_builtin; refine Stop.out ?_))
          refine Stop.mk (wpList_app _ rfl (.tmp 96) (.tmp 97) elemB rfl w5.heap.size v6 (repB a).length ((repB a).flatMap bc) rfl own6 B b.length cb (b.flatMap bc) rfl (Src.of_in bc_len (by omega) (HB.out.below B1.out.1)) (bc_one _) (by omega) hz6 ?_)
          intro v7 w7 own7 _ hb7 _
          replace B1 := Lib.hid (show At2 w w7 (a.arr A c) (o.arr O d) from ⟨B1.out.1.trans (hb7.mono hz5), B1.out.2.1.below hb7 lt1, B1.out.2.2.below hb7 lt2⟩)
          obtain ⟨lw, hlw⟩ : ∃ l, l = repB a ++ b := ⟨_, rfl⟩
          rw [← List.length_append, ← List.flatMap_append, ← hlw] at own7
          have lwn : lw.length ≤ 4000 := by rw [hlw, List.length_append]; omega
          have LW1 := Lib.hid hlw
          clear hlw
          obtain ⟨A7, c7, rfl, in7⟩ := In.of_own bc_len own7 (by omega)
          clear own7 hb7 own6 hb6 hz6 lt1 lt2 hz5
          go_wp2_with (fail)
          refine (c_octet_New lw A7 c7 _ in7).mono ?_
          rintro e w8 ⟨g2, rfl, hg2, hr8, hb8⟩
          have hg3 : w.heap.size + 2 ≤ g2 := by have := B1.out.2.2.lt; omega
          replace B1 := Lib.hid (B1.out.step hb8)
          obtain ⟨e1, e2⟩ := rdRep_put Hok.out b
          rw [← LW1.out] at e1 e2
          have E1 := Lib.hid e1
          have E2 := Lib.hid e2
          clear e1 e2 hb8 hg2 in7
          go_wp2_with (fail)
          refine (c_ledger_Read (some g2) ⟨lw, 0⟩ _ hr8).mono ?_
          rintro e w9 ⟨A9, c9, rfl, own9, hr9, hk9⟩
          rw [E1.out] at own9 ⊢
          rw [E2.out] at hr9
          replace B1 := Lib.hid (B1.out.kept hg3 hk9)
          have I9 := Lib.hid (In.own3 Node.cells_len own9 (by omega))
          clear own9 hk9 hr8
          go_wp2_with (with_reducible refine stop_store 37 (.tmp 11) (.tmp 101) rfl rfl ?_)
          refine Stop.mk (wpList_storeB rfl _ _ _ rfl w9.heap.size _ rfl rfl _ (Blk.new _ _ _) strRp rfl rfl (by simp [Value.oneCell']) ?_)
          intro w10 hb10 hk10
          have hbx := fresh_below hk10
          replace B1 := Lib.hid (B1.out.step hbx)
          have hr10 := hr9.below hbx
          have I10 := Lib.hid (I9.out.below hbx)
          have BX := Lib.hid (show Blk w10 w9.heap.size (a.arr A9 c9) from hb10)
          obtain ⟨q, hq⟩ : ∃ q, q = w9.heap.size := ⟨_, rfl⟩
          rw [← hq] at BX ⊢
          clear hq hb10 hk10 hbx hr9 I9
          go_wp2_with (with_reducible refine stop_load 37 (.tmp 11) rfl rfl ?_)
          refine Stop.mk (wpList_loadB rfl _ _ rfl q rfl _ BX.out strRp rfl ?_)
          go_wp2_with (with_reducible refine stop_load 37 (.tmp 3) rfl rfl ?_)
          refine Stop.mk (wpList_loadB rfl _ _ rfl w.heap.size rfl _ B1.out.2.1 strRp rfl ?_)
          go_wp2_with (fail)
          refine (c_ref30_Same a a A9 A c9 c _ I10.out (HA.out.below B1.out.1)).mono ?_
          rintro e w11 ⟨rfl, hb11⟩
          rw [decide_eq_true (rfl : a = a)]
          replace B1 := Lib.hid (B1.out.step hb11)
          have hr11 := hr10.below hb11
          clear hb11 hr10 I10 BX
          go_wp2_with (fail)
          refine (c_octet_Err' (some g2) _ _ hr11).mono ?_
          rintro e w12 ⟨rfl, hb12⟩
          replace B1 := Lib.hid (B1.out.step hb12)
          have hr12 := hr11.below hb12
          clear hb12 hr11
          go_wp2_with (fail)
          refine (c_octet_Left' (some g2) _ _ hr12).mono ?_
          rintro e w13 ⟨rfl, hb13⟩
          replace B1 := Lib.hid (B1.out.step hb13)
          clear hb13 hr12
          go_wp2_with (fail)
          refine (c_ledger_Read none ⟨[], 1⟩ _ (RdP.nilmk _)).mono ?_
          rintro e w97 ⟨A9, c9, rfl, own9, -, hk9⟩
          have hb9 : Below _ _ w97 := hk9.below (Nat.le_refl _) (fun _ h => by cases h)
          rw [(rdRep_err (st := ⟨[], 1⟩) (by decide)).1] at own9 ⊢
          have hc9 : c9 ≤ 9223372036854775807 := by obtain ⟨_, _, hv, _, hc⟩ := own_form own9; injection hv with _ _ hcc; omega
          replace B1 := Lib.hid (B1.out.step hb9)
          clear own9 hk9 hb9
          go_wp2_with (fail)
          refine (c_ref30_Same rz rz A9 none c9 0 _ (In.nil hc9) (In.nil (by omega))).mono ?_
          rintro e w98 ⟨rfl, hb98⟩
          rw [decide_eq_true (rfl : rz = rz)]
          replace B1 := Lib.hid (B1.out.step hb98)
          clear hb98
          go_wp2_with (fail)
          refine (c_law30_awake _).mono ?_
          rintro e w99 ⟨rfl, hb99⟩
          go_wp2_with (fail)
          go_ret
          exact RetV.bool rfl (B1.out.1.trans (hb99.mono B1.out.1.size))
end Go.Proofs.Ytplipddgeanajaa
/-! OpenR -/
namespace Go.Proofs.Ytplipddgeanajaa
open Go.ChangeShapes Go.WideShapes Go.ChangeAt Go.RowKit Go.Deep
open Go.ChangeMaps (open_string shut_string)

theorem list10 {α : Type} {l : List α} (h : l.length = 10) : ∃ a b c d e f g i j k, l = [a, b, c, d, e, f, g, i, j, k] := by
  match l, h with
  | [a, b, c, d, e, f, g, i, j, k], _ => exact ⟨a, b, c, d, e, f, g, i, j, k, rfl⟩
section
variable {H : Type} {enc : TypeId × Value → H} {w : World} {base : Nat} {spare : Nat → Bool} {held : Bool}
theorem c_reply : Try.prog.cellsOf 37 = 10 := by kernel_rfl
theorem c_errno : Try.prog.cellsOf 33 = 1 := by kernel_rfl
theorem c_nodes : Try.prog.cellsOf 34 = 1 := by kernel_rfl
theorem c_uint32 : Try.prog.cellsOf 35 = 1 := by kernel_rfl
theorem u32_rng {n : Int} (h : (Lit.int .u32 n).wf = true) : 0 ≤ n ∧ n < 4294967296 := by
  have := (show 0 ≤ n ∧ n ≤ 4294967295 by simpa [Lit.wf, IntKind.min, IntKind.max, IntKind.signed, IntKind.bits] using h)
  omega
theorem open_reply {fuel : Nat} {cs : List Value} {x : DataW H × List MemPlace} (h : DataW.trod enc Try.prog w 0 spare held fuel 37 cs = some x) :
    ∃ (a : Rep) (A : Option Addr) (c : Nat), cs = (a.arr A c).toList ∧ a.f.length ≤ c ∧ c ≤ 9223372036854775807 ∧ (a.f = [] ∨ ∃ b off, A = some ⟨b, off, none⟩ ∧ b < w.heap.size ∧ Row 5 Node.cells w b off a.f) ∧ (∀ v ∈ a.f, v.wf) ∧ a.mask < 4294967296 := by
  obtain ⟨xs, n, _, _, hl, hxl, hf⟩ := DataW.trod_struct Try.underlying37 h
  rw [c_reply] at hl
  obtain ⟨q0, q1, q2, q3, q4, q5, q6, q7, q8, q9, rfl⟩ := list10 hl
  obtain ⟨x0, x1, x2, x3, x4, x5, x6, x7, x8, x9, rfl⟩ := list10 (show xs.length = 10 from hxl)
  have h0 := hf 0
  have h1 := hf 1
  have h2 := hf 2
  have h3 := hf 3
  have h4 := hf 4
  have h5 := hf 5
  have h6 := hf 6
  have h7 := hf 7
  have h8 := hf 8
  have h9 := hf 9
  simp [c_int, c_errno, c_nodes, c_uint32] at h0 h1 h2 h3 h4 h5 h6 h7 h8 h9
  obtain ⟨a0, e0, -, -⟩ := DataW.trod_int Try.underlying3 h0
  obtain ⟨a1, e1, -, -⟩ := DataW.trod_int Try.underlying3 h1
  obtain ⟨a2, e2, -, -⟩ := DataW.trod_int Try.underlying3 h2
  obtain ⟨a3, e3, -, -⟩ := DataW.trod_int Try.underlying33 h3
  obtain ⟨a4, e4, -, -⟩ := DataW.trod_int Try.underlying3 h4
  obtain ⟨a5, e5, -, -⟩ := DataW.trod_int Try.underlying3 h5
  obtain ⟨a6, e6, -, -⟩ := DataW.trod_int Try.underlying3 h6
  obtain ⟨a7, e7, -, -⟩ := DataW.trod_int Try.underlying3 h7
  obtain ⟨A, c, l, e8, k1, k2, k3, k4, -⟩ := open_nodes h8
  obtain ⟨a9, e9, -, w9⟩ := DataW.trod_int Try.underlying35 h9
  have hr := u32_rng w9
  simp at e0 e1 e2 e3 e4 e5 e6 e7 e8 e9
  subst e0 e1 e2 e3 e4 e5 e6 e7 e8 e9
  exact ⟨⟨a0, a1, a2, a3, a4, a5, a6, a7, l, a9.toNat⟩, A, c, by simp [Int.toNat_of_nonneg hr.1], k1, k2, k3, k4, by show a9.toNat < _; omega⟩
end
end Go.Proofs.Ytplipddgeanajaa
/-! ClLedgerWires -/
namespace Go.Proofs.Ytplipddgeanajaa.clLedgerWires
open Go.ChangeShapes Go.WideShapes Go.ChangeAt Go.RowKit Go.Proofs.Ytplipddgeanajaa
open Go.ChangeMaps (open_string shut_string)

theorem u_reply : Try.prog.underlying 37 = some (.struct (Try.prog.fieldsOf 37)) := by kernel_rfl
set_option maxRecDepth 100000 in
theorem contract (H : Type) (enc : TypeId × Value → H) (W : World) (base : Nat) (args : Array Value) (ds gs : List (DataW H)) (before : List MemPlace)
    (hval : ∀ (j : Nat) t v, Try.f4.params[j]? = some t → args[j]? = some v → Value.okWide Try.prog W .any base t v)
    (hW : DataW.Whole enc Try.prog Try.f4.params.toList Rows.ledgerWiresSpec.vars false W args.toList ds gs before) :
    Calls Try.prog 4 args W fun e W' => ∃ v, e = .returned v ∧ Rows.ledgerWiresSpec.post enc Try.prog Try.f4 false true false false W args v W' := by
  have hW' := hW
  obtain ⟨p, q, hA0, hV, rfl, hfz, hnd⟩ := hW
  have hA : DataW.TrodAll enc Try.prog W 0 (fun _ => true) true Try.f4.params.toList args.toList ds p := hA0
  clear hA0
  rw [Try.params4] at hA hval
  obtain ⟨v0, v1, v2, d0, d1, d2, p0, p1, p2, rfl, rfl, rfl, h0, h1, h2⟩ := trodAll_three hA
  obtain ⟨rfl, rfl⟩ := trodVars_none hV
  have hpost := fun W' (hb : Below W.heap.size W W') => law_post (f := Try.f4) (s := Rows.ledgerWiresSpec) laidOut Try.underlying4 (by kernel_rfl) rfl (by kernel_rfl) hW' rfl hb
  obtain ⟨c0, rfl, _⟩ := okWide_struct u_reply (hval 0 37 v0 rfl rfl)
  obtain ⟨c1, rfl, _⟩ := okWide_struct u_reply (hval 1 37 v1 rfl rfl)
  obtain ⟨b0, len', cap', rfl⟩ := okWide_slice Try.underlying27 (hval 2 27 v2 rfl rfl)
  obtain ⟨fuel0, hf0⟩ := h0
  obtain ⟨fuel1, hf1⟩ := h1
  obtain ⟨fuel2, hf2⟩ := h2
  obtain ⟨a, A, c, hca, ka1, ka2, ka3, kaw, kam⟩ := open_reply hf0
  obtain ⟨o, O, d, hco, ko1, ko2, ko3, kow, -⟩ := open_reply hf1
  obtain ⟨B, cb, b, hcs, hlb, hcb, hrb⟩ := open_bytes hf2
  obtain rfl : c0 = a.arr A c := Array.toList_inj.1 hca
  obtain rfl : c1 = o.arr O d := Array.toList_inj.1 hco
  simp only [Value.cells, List.cons.injEq, Value.slice.injEq, and_true] at hcs
  obtain ⟨rfl, rfl, rfl⟩ := hcs
  have big : ∀ (l : List Node) (L : Option Addr) (cc : Nat), l.length ≤ cc → cc ≤ 9223372036854775807 → (l = [] ∨ ∃ b off, L = some ⟨b, off, none⟩ ∧ b < W.heap.size ∧ Row 5 Node.cells W b off l) → (∀ v ∈ l, v.wf) →
      ∀ w', Below W.heap.size W w' → Calls Try.prog 9 #[.slice L l.length cc] w' (RetV w' (.bool (large l))) := by
    intro l L cc h1 h2 h3 h4 w' hb
    by_cases h100 : 100 < l.length
    · have : large l = true := by unfold large; simp [h100]
      rw [this]
      exact c_law10_Large_long l.length L cc w' h100 h1 h2
    · have hin : InN W L cc l := ⟨h1, h2, by omega, h3⟩
      exact c_law10_Large l L cc w' (hin.below hb) (fun x hx => (h4 x hx).2.2.2.2)
  by_cases hlong : large a.f = true ∨ large o.f = true ∨ 1000 < b.length
  · exact (law30_Wires_long (a.arr A c) (o.arr O d) A O a.f.length o.f.length c d b0 b.length cap' _ _ W rfl rfl (big a.f A c ka1 ka2 ka3 kaw) (big o.f O d ko1 ko2 ko3 kow) hlong).mono fun e W' ⟨he, hb⟩ => ⟨_, he, hpost W' hb⟩
  · have la : large a.f = false := by cases h : large a.f <;> simp_all
    have lo : large o.f = false := by cases h : large o.f <;> simp_all
    have hb1 : b.length ≤ 1000 := by omega
    have ha1 := (large_short la).1
    have ho1 := (large_short lo).1
    exact (c_law30_LedgerWires a o A O c d b b0 cap' W ⟨ka1, ka2, by omega, ka3⟩ ⟨ko1, ko2, by omega, ko3⟩ ⟨hlb, hcb, by omega, hrb⟩ la lo hb1 kam).mono fun e W' ⟨he, hb⟩ => ⟨_, he, hpost W' hb⟩
set_option maxRecDepth 100000 in
theorem lifted (os : Os) (started : os.Started) (H : Type) (enc : TypeId × Value → H) :
    ReturnsInHanded {} Try.checked os 4 .any (Rows.ledgerWiresSpec.pre6 enc Try.prog Try.f4 Rows.ledgerWiresRow.domain false) (Rows.ledgerWiresSpec.post enc Try.prog Try.f4 false true false false) := by
  refine returnsInHanded_of_change (C := Try.checked) ownKnob_none started (by kernel_rfl) Try.func4
    (ChangeSpec.witness6 (enc := enc) (C := Try.checked) false ⟨#[], #[.agg (Rep.arr rz none 0), .agg (Rep.arr rz none 0), .slice none 0 0], []⟩ 8 (by kernel_rfl) (by kernel_rfl) (by kernel_rfl) (by kernel_rfl)) ?_
  intro W base args ds gs before hval hW _ _
  exact contract H enc W base args ds gs before hval hW
theorem proved : Rows.LedgerWiresSaid :=
  OpenClaim.holds_of_wide 4 Try.f4 rfl rfl rfl rfl rfl rfl rfl ⟨rfl, rfl, rfl, rfl, rfl⟩ rfl rfl rfl rfl rfl (by kernel_rfl) Try.func4 (by kernel_rfl)
    (of_decide_eq_true (by kernel_rfl)) (by unfold Func.isWrapper; rw [if_neg (of_decide_eq_false (by kernel_rfl))]; exact ⟨rfl, rfl⟩)
    (fun os started H enc _ => lifted os started H enc)
end Go.Proofs.Ytplipddgeanajaa.clLedgerWires
