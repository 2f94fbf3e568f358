/-
  Lemmas (walks and plain laws), in one text.
-/
import Derived.Test.YtldoedmclfbgpaaEa1
import Derived.Test.YtldoedmclfbgpaaEa2
import Derived.Test.YtldoedmclfbgpaaEa4
import Derived.Laws.EntriesVeiled
import Derived.Defers
import Derived.Laws.LoneSync
import Derived.Laws.Pointers
import Derived.RegionCalls
import Derived.RegionTactic
namespace Go.Proofs.Ytldoedmclfbgpaa
open Go.RowKit

/-- The call hands back a function that is asked for m, and the nodes r. -/
def RetB (w : World) (m : Card → Nat → Bool) (r : List Node) (e : Ending) (w' : World) : Prop := ∃ v A c, e = .returned (.tuple #[v, .slice A r.length c]) ∧ Below w.heap.size w w' ∧ AsksM w.heap.size w'.heap.size w' v m ∧ InN w' A c r
theorem nodes_elem : Try.prog.underlying 33 = some (.slice (Try.prog.elem 33)) := by kernel_rfl
theorem node_size (x : World) : (sizeOf (Try.prog.elem 33)).run Try.prog x = .ok 5 x := by kernel_rfl
def cutN (A : Option Addr) (c : Nat) : Option Addr := if c = 1 then A else A.map (·.add 5)
theorem tail_run (A : Option Addr) (c len : Nat) (hn : 1 ≤ len) (_hc : len ≤ c) (x : World) :
    (Instr.slice 33 (.slice A len c) (some (.int .i64 1)) none none).run Try.prog x = .ok (.slice (cutN A c) (len - 1) (c - 1)) x := by
  have hr := run_slice_l (P := Try.prog) (w := x) 33 A len c nodes_elem .i64 1 (by omega) (by omega)
  rw [hr, node_size]
  simp only [Result.andThen, sliced]
  rfl
theorem tail_in {w : World} {A : Option Addr} {c : Nat} {x : Node} {l : List Node} (h : InN w A c (x :: l)) : InN w (cutN A c) (c - 1) l := by
  have hc := h.1
  have h2 := h.2.1
  rw [List.length_cons] at hc
  unfold cutN
  rcases Nat.eq_zero_or_pos l.length with h0 | h0
  · rw [List.eq_nil_of_length_eq_zero h0]
    exact In.nil (by omega)
  · rw [if_neg (by omega)]
    obtain ⟨b, off, rfl, hb, hrow⟩ := h.at (i := 1) (by rw [List.length_cons]; omega)
    have := h.sub (i := 1) (j := l.length + 1) (by omega) (by simp) ⟨hb, hrow⟩
    simpa [add_lit'] using this
/-- While a box is made and filled. -/
structure BM (w0 : World) (i s : Nat) (z f : Array Value) (L : Nat → Bool) (u : Nat → Value) (w1 : World) : Prop where
  S : Below w0.heap.size w0 w1
  B : Bx w0 i s z f L u w1
section
variable {w0 w1 w2 : World} {i s j : Nat} {z f : Array Value} {L : Nat → Bool} {u : Nat → Value} {v : Value}
theorem BM.start (hb : Below w0.heap.size w0 w1) : BM w0 i s z f (fun _ => false) u w1 := ⟨hb, Bx.start rfl rfl⟩
theorem BM.pure (h : BM w0 i s z f L u w1) (hi : j ≠ i) (hs : j ≠ s) : BM w0 i s z f (upd L j true) (upd u j v) w1 := ⟨h.S, h.B.pure hi hs (Below.refl _ _)⟩
theorem BM.make (h : BM w0 i s z f L u w1) (hL : L i = false) (his : i ≠ s) (t : TypeId) : BM w0 i s z f (upd L i true) (upd u i (.pointer (some ⟨w1.heap.size, 0, none⟩))) (w1.alloc (.cells z t)) :=
  ⟨h.S.trans (((Below.refl w1.heap.size w1).alloc (Nat.le_refl _) _).mono h.S.size), h.B.make hL his h.S.size t⟩
theorem BM.fill (h : BM w0 i s z f L u w1) (hL : L i = true) (his : i ≠ s) {g : Nat} (hu : u i = .pointer (some ⟨g, 0, none⟩)) (hg : w0.heap.size ≤ g) (hb : Blk w2 g f) (k : Kept (some g) w1.heap.size w1 w2) : BM w0 i s z f (upd L s true) (upd u s v) w2 :=
  ⟨h.S.trans (k.oneB h.S.size hg), h.B.fill hL his hu hg hb⟩
end
def VW (l : List (Option Value)) (j : Nat) (v : Value) : Prop := match l[j]? with | some (some x) => v = x | _ => True
def nzA : Array Value := #[.int .i64 0, .int .i64 0, .int .i64 0, .int .i64 0, .string (str [])]
theorem strN : Str Try.prog 94 5 := ⟨⟨_, Try.underlying94, rfl⟩, by kernel_rfl⟩
theorem Node.arr_size (x : Node) : x.arr.size = 5 := rfl
theorem Node.arr_ones (x : Node) : x.arr.all (·.oneCell') = true := by simp [Node.arr, Node.cells, Value.oneCell']
set_option maxHeartbeats 1000000 in
theorem built_leaf (x : Node) (rest : List Node) (A : Option Addr) (c : Nat) (w : World) (h0 : parts x.op = 0) (hok : x.ok = true) (h : InN w A c (x :: rest)) :
    Calls Try.prog 58 #[.slice A (rest.length + 1) c] w (RetB w (leafM x) rest) := by
  have CL := Lib.hid (fun w => c_eval_leaf x hok w)
  have CP := Lib.hid (c_pred_Parts x.op)
  rw [h0] at CP
  clear hok
  obtain ⟨b, off, rfl, hb, hrow⟩ := h.at (i := 0) (by simp)
  obtain ⟨e0, e1, e2, e3, e4⟩ := hrow.node (i := 0) (by simp) (by rw [Nat.zero_mul, Nat.add_zero])
  simp only [List.getElem_cons_zero] at e0 e1 e2 e3 e4
  have HI := Lib.hid h
  have hL := h.1
  have hC := h.2.1
  have hS := h.2.2.1
  rw [List.length_cons] at hL hS
  have hT := tail_run (some ⟨b, off, none⟩) c (rest.length + 1) (by omega) hL
  have hone := x.arr_ones
  clear h hrow
  go_enter Try.func58, Try.ntmps58
  go_wp2_with (fail)
  refine wp_region_relM (VW [some (.slice (some ⟨b, off, none⟩) (rest.length + 1) c), some (.pointer (some ⟨b, off, none⟩)), some (.agg x.arr), some (.slice (some ⟨b, off, none⟩) (rest.length + 1) c), some (.slice (cutN (some ⟨b, off, none⟩) c) rest.length (c - 1)), none, none, some (.slice (cutN (some ⟨b, off, none⟩) c) rest.length (c - 1))]) (BM w 5 6 nzA x.arr) 42 (by kernel_rfl) (by kernel_rfl) rfl ?_ ?_ ?_
  · intro u w' hb hh
    exact BM.start hb
  · refine ⟨?_, ?_, ?_, ?_, ?_, ?_, ?_, ?_, trivial⟩
    all_goals
      rintro L u W1 hM hL hd
      have M := Lib.hid hM
      clear hM
      simp [DepsM, Region.binds, VW] at hd
      simp only [putDeps, dstOf, Region.binds]
    case refine_3 =>
      have q0 := (M.out.S.cell (p := ⟨b, off, none⟩) hb).trans e0
      have q1 := (M.out.S.cell (p := ⟨b, off + 1, none⟩) hb).trans e1
      have q2 := (M.out.S.cell (p := ⟨b, off + 2, none⟩) hb).trans e2
      have q3 := (M.out.S.cell (p := ⟨b, off + 3, none⟩) hb).trans e3
      have q4 := (M.out.S.cell (p := ⟨b, off + 4, none⟩) hb).trans e4
      first | (obtain ⟨-, hu1⟩ := hd; rw [hu1]) | rw [hd]
      go_wp2_with (fail)
      exact EndM.mk rfl ⟨rfl, M.out.pure (by decide) (by decide)⟩
    case refine_6 =>
      go_wp2_with (fail)
      exact EndM.mk rfl ⟨trivial, M.out.make hL (by decide) _⟩
    case refine_7 =>
      have h5 : L 5 = true := by first | exact hd.1 | exact hd.2.1 | exact hd.1.1
      have hu2 : u 2 = .agg x.arr := by first | exact hd.2.2 | exact hd.2 | exact hd.1.2 | exact hd.2.1.2
      obtain ⟨g, hg, hwg, hB⟩ := M.out.B.at h5 hL
      have HB := Lib.hid hB
      have HG := Lib.hid hg
      clear hB hg
      rw [HG.out, hu2]
      go_wp2_with (with_reducible refine stS 94 _ _ rfl rfl ?_)
      refine Stop.mk (wsB rfl _ _ _ rfl g _ rfl rfl _ HB.out strN rfl rfl hone ?_)
      intro w9 hb9 hk9
      exact EndM.mk0 rfl ⟨trivial, M.out.fill h5 (by decide) HG.out hwg hb9 hk9⟩
    all_goals
      go_wp2_with (fail)
      exact EndM.mk rfl ⟨by first | exact hd.2 | rfl | trivial, M.out.pure (by decide) (by decide)⟩
  rintro u W1 hv hM
  have h7 : u 7 = .slice (cutN (some ⟨b, off, none⟩) c) rest.length (c - 1) := hv 7 (by simp)
  clear hv
  obtain ⟨g, hg, hwg, hB⟩ := hM.B.done (by simp) (by simp)
  have SB := Lib.hid hM.S
  have hsz := hM.S.size
  have NB := Lib.hid hB
  have ng := hB.lt
  have IT := Lib.hid ((tail_in HI.out).below hM.S)
  clear hM hB
  have n0 := NB.out.cell (show x.arr[0]? = some (.int .i64 x.op) from rfl)
  simp only [putAll, Act.put, Nat.reduceAdd, List.setIfInBounds_toArray, List.set_cons_zero, List.set_cons_succ]
  rw [hg, h7]
  clear hg h7
  go_wp2_with (go_at_call 100; refine (CP.out _).mono ?_; rintro e w1 ⟨rfl, hb1⟩; have NB1 := Lib.hid (NB.out.below hb1 ng); clear n0; have n0 := NB1.out.cell (show x.arr[0]? = some (.int .i64 x.op) from rfl); have n1 := NB1.out.cell (show x.arr[1]? = some (.int .i64 x.n) from rfl); have n2 := NB1.out.cell (show x.arr[2]? = some (.int .i64 x.v.kind) from rfl); have n3 := NB1.out.cell (show x.arr[3]? = some (.int .i64 x.v.n) from rfl); have n4 := NB1.out.cell (show x.arr[4]? = some (.string (str x.v.s)) from rfl))
  refine (CL.out _).mono ?_
  rintro e w2 ⟨v, rfl, hb2, AV⟩
  go_wp2_with (fail)
  go_ret2
  have S1 := SB.out.trans (hb1.mono hsz)
  exact ⟨_, _, _, rfl, S1.trans (hb2.mono S1.size), AV.keep S1.size (Nat.le_refl _) (fun _ _ _ => rfl), (IT.out.below hb1).below hb2⟩
set_option maxHeartbeats 1000000 in
theorem built_one (x : Node) (rest r : List Node) (m : Card → Nat → Bool) (A : Option Addr) (c : Nat) (w : World) (h0 : x.op = 10) (CA : ∀ A c w, InN w A c rest → Calls Try.prog 58 #[.slice A rest.length c] w (RetB w m r)) (h : InN w A c (x :: rest)) :
    Calls Try.prog 58 #[.slice A (rest.length + 1) c] w (RetB w (fun c g => !m c g) r) := by
  have CP := Lib.hid (c_pred_Parts x.op)
  rw [parts_one.2 h0] at CP
  have CA := Lib.hid CA
  have b10 : (x.op == 10) = true := by simpa using h0
  clear h0
  obtain ⟨b, off, rfl, hb, hrow⟩ := h.at (i := 0) (by simp)
  obtain ⟨e0, e1, e2, e3, e4⟩ := hrow.node (i := 0) (by simp) (by rw [Nat.zero_mul, Nat.add_zero])
  simp only [List.getElem_cons_zero] at e0 e1 e2 e3 e4
  have HI := Lib.hid h
  have hL := h.1
  have hC := h.2.1
  have hS := h.2.2.1
  rw [List.length_cons] at hL hS
  have hT := tail_run (some ⟨b, off, none⟩) c (rest.length + 1) (by omega) hL
  have hone := x.arr_ones
  clear h hrow
  go_enter Try.func58, Try.ntmps58
  go_wp2_with (fail)
  refine wp_region_relM (VW [some (.slice (some ⟨b, off, none⟩) (rest.length + 1) c), some (.pointer (some ⟨b, off, none⟩)), some (.agg x.arr), some (.slice (some ⟨b, off, none⟩) (rest.length + 1) c), some (.slice (cutN (some ⟨b, off, none⟩) c) rest.length (c - 1)), none, none, some (.slice (cutN (some ⟨b, off, none⟩) c) rest.length (c - 1))]) (BM w 5 6 nzA x.arr) 42 (by kernel_rfl) (by kernel_rfl) rfl ?_ ?_ ?_
  · intro u w' hb hh
    exact BM.start hb
  · refine ⟨?_, ?_, ?_, ?_, ?_, ?_, ?_, ?_, trivial⟩
    all_goals
      rintro L u W1 hM hL hd
      have M := Lib.hid hM
      clear hM
      simp [DepsM, Region.binds, VW] at hd
      simp only [putDeps, dstOf, Region.binds]
    case refine_3 =>
      have q0 := (M.out.S.cell (p := ⟨b, off, none⟩) hb).trans e0
      have q1 := (M.out.S.cell (p := ⟨b, off + 1, none⟩) hb).trans e1
      have q2 := (M.out.S.cell (p := ⟨b, off + 2, none⟩) hb).trans e2
      have q3 := (M.out.S.cell (p := ⟨b, off + 3, none⟩) hb).trans e3
      have q4 := (M.out.S.cell (p := ⟨b, off + 4, none⟩) hb).trans e4
      first | (obtain ⟨-, hu1⟩ := hd; rw [hu1]) | rw [hd]
      go_wp2_with (fail)
      exact EndM.mk rfl ⟨rfl, M.out.pure (by decide) (by decide)⟩
    case refine_6 =>
      go_wp2_with (fail)
      exact EndM.mk rfl ⟨trivial, M.out.make hL (by decide) _⟩
    case refine_7 =>
      have h5 : L 5 = true := by first | exact hd.1 | exact hd.2.1 | exact hd.1.1
      have hu2 : u 2 = .agg x.arr := by first | exact hd.2.2 | exact hd.2 | exact hd.1.2 | exact hd.2.1.2
      obtain ⟨g, hg, hwg, hB⟩ := M.out.B.at h5 hL
      have HB := Lib.hid hB
      have HG := Lib.hid hg
      clear hB hg
      rw [HG.out, hu2]
      go_wp2_with (with_reducible refine stS 94 _ _ rfl rfl ?_)
      refine Stop.mk (wsB rfl _ _ _ rfl g _ rfl rfl _ HB.out strN rfl rfl hone ?_)
      intro w9 hb9 hk9
      exact EndM.mk0 rfl ⟨trivial, M.out.fill h5 (by decide) HG.out hwg hb9 hk9⟩
    all_goals
      go_wp2_with (fail)
      exact EndM.mk rfl ⟨by first | exact hd.2 | rfl | trivial, M.out.pure (by decide) (by decide)⟩
  rintro u W1 hv hM
  have h7 : u 7 = .slice (cutN (some ⟨b, off, none⟩) c) rest.length (c - 1) := hv 7 (by simp)
  clear hv
  obtain ⟨g, hg, hwg, hB⟩ := hM.B.done (by simp) (by simp)
  have SB := Lib.hid hM.S
  have hsz := hM.S.size
  have NB := Lib.hid hB
  have ng := hB.lt
  have IT := Lib.hid ((tail_in HI.out).below hM.S)
  clear hM hB
  have n0 := NB.out.cell (show x.arr[0]? = some (.int .i64 x.op) from rfl)
  simp only [putAll, Act.put, Nat.reduceAdd, List.setIfInBounds_toArray, List.set_cons_zero, List.set_cons_succ]
  rw [hg, h7]
  clear hg h7
  go_wp2_with (go_at_call 100; refine (CP.out _).mono ?_; rintro e w1 ⟨rfl, hb1⟩; have NB1 := Lib.hid (NB.out.below hb1 ng); clear n0)
  refine (CA.out _ _ _ (IT.out.below hb1)).mono ?_
  rintro e w2 ⟨v, A2, c2, rfl, hb2, AV, IN2⟩
  have S1 := Lib.hid (SB.out.trans (hb1.mono hsz))
  have S2 := Lib.hid (S1.out.trans (hb2.mono S1.out.size))
  have NB2 := Lib.hid (NB1.out.below hb2 NB1.out.lt)
  have n0 := NB2.out.cell (show x.arr[0]? = some (.int .i64 x.op) from rfl)
  have ng2 := NB2.out.lt
  have s1 := S1.out.size
  have s2 := S2.out.size
  obtain ⟨f1, k1, rfl, -⟩ := id AV
  have AV := Lib.hid AV
  have IN2 := Lib.hid IN2
  clear hb1 hb2
  go_wp2_with (fail)
  go_ret2
  have hb3 : Below w2.heap.size w2 (w2.alloc (.cells #[.func (.func f1) #[] k1] 110)) := (by repeat (first | exact Below.refl _ _ | refine Below.drew ?_ | refine Below.alloc ?_ (by first | omega | (simp; done) | (simp; omega)) _ | refine Below.setCell ?_ (by first | omega | (simp; done) | (simp; omega)) _ | refine Below.trans ?_ (Below.mono (by assumption) (by first | omega | (simp; done) | (simp; omega)))))
  refine ⟨_, _, _, rfl, S2.out.trans (hb3.mono s2), ?_, IN2.out.below hb3⟩
  refine asks_not (p := w2.heap.size) (AV.out.keep s1 hb3.size (fun k _ hk => hb3.block k hk)) (Blk.new w2 _ _) s2 (by simp)
set_option maxHeartbeats 1000000 in
theorem built_two (x : Node) (rest r1 r2 : List Node) (m1 m2 : Card → Nat → Bool) (A : Option Addr) (c : Nat) (w : World) (h0 : x.op = 11 ∨ x.op = 12) (CA : ∀ A c w, InN w A c rest → Calls Try.prog 58 #[.slice A rest.length c] w (RetB w m1 r1))
    (CB : ∀ A c w, InN w A c r1 → Calls Try.prog 58 #[.slice A r1.length c] w (RetB w m2 r2)) (h : InN w A c (x :: rest)) :
    Calls Try.prog 58 #[.slice A (rest.length + 1) c] w (RetB w (fun c g => if x.op = 11 then m1 c g && m2 c g else m1 c g || m2 c g) r2) := by
  have CP := Lib.hid (c_pred_Parts x.op)
  rw [parts_two.2 h0] at CP
  have CA := Lib.hid CA
  have CB := Lib.hid CB
  have H0 := Lib.hid h0
  have b10 : (x.op == 10) = false := by rw [beq_eq_false_iff_ne]; omega
  clear h0
  obtain ⟨b, off, rfl, hb, hrow⟩ := h.at (i := 0) (by simp)
  obtain ⟨e0, e1, e2, e3, e4⟩ := hrow.node (i := 0) (by simp) (by rw [Nat.zero_mul, Nat.add_zero])
  simp only [List.getElem_cons_zero] at e0 e1 e2 e3 e4
  have HI := Lib.hid h
  have hL := h.1
  have hC := h.2.1
  have hS := h.2.2.1
  rw [List.length_cons] at hL hS
  have hT := tail_run (some ⟨b, off, none⟩) c (rest.length + 1) (by omega) hL
  have hone := x.arr_ones
  clear h hrow
  go_enter Try.func58, Try.ntmps58
  go_wp2_with (fail)
  refine wp_region_relM (VW [some (.slice (some ⟨b, off, none⟩) (rest.length + 1) c), some (.pointer (some ⟨b, off, none⟩)), some (.agg x.arr), some (.slice (some ⟨b, off, none⟩) (rest.length + 1) c), some (.slice (cutN (some ⟨b, off, none⟩) c) rest.length (c - 1)), none, none, some (.slice (cutN (some ⟨b, off, none⟩) c) rest.length (c - 1))]) (BM w 5 6 nzA x.arr) 42 (by kernel_rfl) (by kernel_rfl) rfl ?_ ?_ ?_
  · intro u w' hb hh
    exact BM.start hb
  · refine ⟨?_, ?_, ?_, ?_, ?_, ?_, ?_, ?_, trivial⟩
    all_goals
      rintro L u W1 hM hL hd
      have M := Lib.hid hM
      clear hM
      simp [DepsM, Region.binds, VW] at hd
      simp only [putDeps, dstOf, Region.binds]
    case refine_3 =>
      have q0 := (M.out.S.cell (p := ⟨b, off, none⟩) hb).trans e0
      have q1 := (M.out.S.cell (p := ⟨b, off + 1, none⟩) hb).trans e1
      have q2 := (M.out.S.cell (p := ⟨b, off + 2, none⟩) hb).trans e2
      have q3 := (M.out.S.cell (p := ⟨b, off + 3, none⟩) hb).trans e3
      have q4 := (M.out.S.cell (p := ⟨b, off + 4, none⟩) hb).trans e4
      first | (obtain ⟨-, hu1⟩ := hd; rw [hu1]) | rw [hd]
      go_wp2_with (fail)
      exact EndM.mk rfl ⟨rfl, M.out.pure (by decide) (by decide)⟩
    case refine_6 =>
      go_wp2_with (fail)
      exact EndM.mk rfl ⟨trivial, M.out.make hL (by decide) _⟩
    case refine_7 =>
      have h5 : L 5 = true := by first | exact hd.1 | exact hd.2.1 | exact hd.1.1
      have hu2 : u 2 = .agg x.arr := by first | exact hd.2.2 | exact hd.2 | exact hd.1.2 | exact hd.2.1.2
      obtain ⟨g, hg, hwg, hB⟩ := M.out.B.at h5 hL
      have HB := Lib.hid hB
      have HG := Lib.hid hg
      clear hB hg
      rw [HG.out, hu2]
      go_wp2_with (with_reducible refine stS 94 _ _ rfl rfl ?_)
      refine Stop.mk (wsB rfl _ _ _ rfl g _ rfl rfl _ HB.out strN rfl rfl hone ?_)
      intro w9 hb9 hk9
      exact EndM.mk0 rfl ⟨trivial, M.out.fill h5 (by decide) HG.out hwg hb9 hk9⟩
    all_goals
      go_wp2_with (fail)
      exact EndM.mk rfl ⟨by first | exact hd.2 | rfl | trivial, M.out.pure (by decide) (by decide)⟩
  rintro u W1 hv hM
  have h7 : u 7 = .slice (cutN (some ⟨b, off, none⟩) c) rest.length (c - 1) := hv 7 (by simp)
  clear hv
  obtain ⟨g, hg, hwg, hB⟩ := hM.B.done (by simp) (by simp)
  have SB := Lib.hid hM.S
  have hsz := hM.S.size
  have NB := Lib.hid hB
  have ng := hB.lt
  have IT := Lib.hid ((tail_in HI.out).below hM.S)
  clear hM hB
  have n0 := NB.out.cell (show x.arr[0]? = some (.int .i64 x.op) from rfl)
  simp only [putAll, Act.put, Nat.reduceAdd, List.setIfInBounds_toArray, List.set_cons_zero, List.set_cons_succ]
  rw [hg, h7]
  clear hg h7
  go_wp2_with (go_at_call 100; refine (CP.out _).mono ?_; rintro e w1 ⟨rfl, hb1⟩; have NB1 := Lib.hid (NB.out.below hb1 ng); clear n0)
  refine (CA.out _ _ _ (IT.out.below hb1)).mono ?_
  rintro e w2 ⟨v1, A2, c2, rfl, hb2, AV1, IN2⟩
  have S1 := Lib.hid (SB.out.trans (hb1.mono hsz))
  have S2 := Lib.hid (S1.out.trans (hb2.mono S1.out.size))
  have NB2 := Lib.hid (NB1.out.below hb2 NB1.out.lt)
  have n0 := NB2.out.cell (show x.arr[0]? = some (.int .i64 x.op) from rfl)
  have ng2 := NB2.out.lt
  have s1 := S1.out.size
  have s2 := S2.out.size
  obtain ⟨f1, k1, rfl, -⟩ := id AV1
  have AV1 := Lib.hid AV1
  have IN2 := Lib.hid IN2
  clear hb1 hb2
  obtain ⟨w3, hw3⟩ : ∃ w3, w3 = w2.alloc (.cells #[.func (.func f1) #[] k1] 110) := ⟨_, rfl⟩
  have hb3 : Below w2.heap.size w2 w3 := by rw [hw3]; exact (by repeat (first | exact Below.refl _ _ | refine Below.drew ?_ | refine Below.alloc ?_ (by first | omega | (simp; done) | (simp; omega)) _ | refine Below.setCell ?_ (by first | omega | (simp; done) | (simp; omega)) _ | refine Below.trans ?_ (Below.mono (by assumption) (by first | omega | (simp; done) | (simp; omega)))))
  have P3 := Lib.hid (show Blk w3 w2.heap.size #[.func (.func f1) #[] k1] by rw [hw3]; exact Blk.new w2 _ _)
  have s3 : w2.heap.size < w3.heap.size := P3.out.lt
  have IN3 := Lib.hid (IN2.out.below hb3)
  have AV3 := Lib.hid (AV1.out.keep s1 hb3.size (fun k _ hk => hb3.block k hk))
  have S3 := Lib.hid (S2.out.trans (hb3.mono s2))
  have NB3 := Lib.hid (NB2.out.below hb3 ng2)
  clear hb3 n0
  have n0 := NB3.out.cell (show x.arr[0]? = some (.int .i64 x.op) from rfl)
  go_wp2_with (rw [← hw3]; clear hw3)
  refine (CB.out _ _ _ IN3.out).mono ?_
  rintro e w4 ⟨v2, A4, c4, rfl, hb4, AV4, IN4⟩
  obtain ⟨f2, k2, rfl, -⟩ := id AV4
  have NB4 := Lib.hid (NB3.out.below hb4 NB3.out.lt)
  clear n0
  have n0 := NB4.out.cell (show x.arr[0]? = some (.int .i64 x.op) from rfl)
  have ng4 := NB4.out.lt
  have P4 := Lib.hid (P3.out.below hb4 s3)
  have s4 := hb4.size
  have S4 := Lib.hid (S3.out.trans (hb4.mono (by omega)))
  have AV3 := Lib.hid (AV3.out.keep (Nat.le_refl _) s4 (fun k _ hk => hb4.block k hk))
  have AV4 := Lib.hid AV4
  have IN4 := Lib.hid IN4
  clear hb4
  have fin : ∀ w5, w5 = w4.alloc (.cells #[.func (.func f2) #[] k2] 110) → Below w.heap.size w w5 ∧ InN w5 A4 c4 r2 ∧ AsksM w.heap.size w5.heap.size w5 (.func (.func f1) #[] k1) m1 ∧ AsksM w.heap.size w5.heap.size w5 (.func (.func f2) #[] k2) m2 ∧
      Blk w5 w2.heap.size #[.func (.func f1) #[] k1] ∧ Blk w5 w4.heap.size #[.func (.func f2) #[] k2] ∧ w2.heap.size < w5.heap.size ∧ w4.heap.size < w5.heap.size := by
    rintro w5 rfl
    have hb5 : Below w4.heap.size w4 (w4.alloc (.cells #[.func (.func f2) #[] k2] 110)) := (by repeat (first | exact Below.refl _ _ | refine Below.drew ?_ | refine Below.alloc ?_ (by first | omega | (simp; done) | (simp; omega)) _ | refine Below.setCell ?_ (by first | omega | (simp; done) | (simp; omega)) _ | refine Below.trans ?_ (Below.mono (by assumption) (by first | omega | (simp; done) | (simp; omega)))))
    exact ⟨S4.out.trans (hb5.mono (by omega)), IN4.out.below hb5, AV3.out.keep (Nat.le_refl _) hb5.size (fun k _ hk => hb5.block k hk), AV4.out.keep (by omega) hb5.size (fun k _ hk => hb5.block k hk), P4.out.below hb5 P4.out.lt, Blk.new w4 _ _, by simp; omega, by simp⟩
  have F5 := Lib.hid (fin _ rfl)
  clear fin
  rcases H0.out with h1 | h1
  · have b11 : (x.op == 11) = true := by simpa using h1
    have IF := Lib.hid h1
    clear h1
    go_wp2_with (fail)
    go_ret2
    obtain ⟨q1, q2, q3, q4, q5, q6, q7, q8⟩ := F5.out
    refine ⟨_, _, _, rfl, q1, ?_, q2⟩
    simp only
    exact asks_and q3 q4 q5 q6 s2 q7 (by omega) q8
  · have b11 : (x.op == 11) = false := by rw [beq_eq_false_iff_ne]; omega
    have IF := Lib.hid (show ¬ x.op = 11 by omega)
    clear h1
    go_wp2_with (fail)
    go_ret2
    obtain ⟨q1, q2, q3, q4, q5, q6, q7, q8⟩ := F5.out
    refine ⟨_, _, _, rfl, q1, ?_, q2⟩
    simp only
    exact asks_or q3 q4 q5 q6 s2 q7 (by omega) q8
theorem c_built (t : Tr) : ∀ (r : List Node) (A : Option Addr) (c : Nat) (w : World), t.wf → (∀ x ∈ t.flat, x.ok = true) → InN w A c (t.flat ++ r) →
    Calls Try.prog 58 #[.slice A (t.flat ++ r).length c] w (RetB w (fun c g => t.mat c g) r) := by
  induction t with
  | leaf x =>
    intro r A c w hw hok h
    exact built_leaf x r A c w hw (hok x (by simp [Tr.flat])) h
  | one x a ih =>
    intro r A c w hw hok h
    refine built_one x (a.flat ++ r) r _ A c w hw.1 (fun A c w h => ih r A c w hw.2 (fun y hy => hok y (by simp [Tr.flat, hy])) h) h
  | two x a b iha ihb =>
    intro r A c w hw hok h
    have h' : InN w A c (x :: (a.flat ++ (b.flat ++ r))) := by
      have e : (Tr.two x a b).flat ++ r = x :: (a.flat ++ (b.flat ++ r)) := by simp [Tr.flat]
      rw [← e]; exact h
    have hl : ((Tr.two x a b).flat ++ r).length = (a.flat ++ (b.flat ++ r)).length + 1 := by simp [Tr.flat]
    rw [hl]
    exact built_two x (a.flat ++ (b.flat ++ r)) (b.flat ++ r) r _ _ A c w hw.1 (fun A c w h => iha (b.flat ++ r) A c w hw.2.1 (fun y hy => hok y (by simp [Tr.flat, hy])) h)
      (fun A c w h => ihb r A c w hw.2.2 (fun y hy => hok y (by simp [Tr.flat, hy])) h) h'
end Go.Proofs.Ytldoedmclfbgpaa
namespace Go.Proofs.Ytldoedmclfbgpaa
open Go.RowKit

theorem race_disable (w : World) : (callFunc 189 #[]).run Try.prog w = .ok (.value (.tuple #[])) w := run_call_mark0 Try.func189 (by kernel_rfl) (by kernel_rfl) (by kernel_rfl) .disable (by kernel_rfl) w
theorem race_enable (w : World) : (callFunc 191 #[]).run Try.prog w = .ok (.value (.tuple #[])) w := run_call_mark0 Try.func191 (by kernel_rfl) (by kernel_rfl) (by kernel_rfl) .enable (by kernel_rfl) w
theorem race_acquire (a : Addr) (w : World) : (callFunc 192 #[.pointer (some a)]).run Try.prog w = .ok (.value (.tuple #[])) w := run_call_marked Try.func192 (by kernel_rfl) (by kernel_rfl) (by kernel_rfl) .acquire (by kernel_rfl) a w
theorem race_release (a : Addr) (w : World) : (callFunc 194 #[.pointer (some a)]).run Try.prog w = .ok (.value (.tuple #[])) w := run_call_marked Try.func194 (by kernel_rfl) (by kernel_rfl) (by kernel_rfl) .releaseMerge (by kernel_rfl) a w
/-- The flag is stored, entered as a deferred call. -/
theorem flag_deferred (a : Addr) (x : Value) (u : FrameMode) (w : World) (hc : w.cell? a = some x) (hz : w.frozen? a = false) :
    CallsD Try.prog 141 #[.pointer (some a), .bool true] u w fun e u' w' => u' = u ∧ (e = .returned (.tuple #[]) ∧ w' = w.drew.setCell a (.int .u32 1)) := by
  have hc' : w.drew.cell? a = some x := by go_simp
  have hz' : w.drew.frozen? a = false := by go_simp
  have hst := run_call_store (P := Try.prog) Try.func174 (by kernel_rfl) (by kernel_rfl) (by kernel_rfl) (by kernel_rfl) (k := .u32) (y := 1) hc' hz'
  go_enter_d Try.func141, Try.ntmps141
  go_wp2
  go_region_calls
  all_goals (go_end0; exact ⟨rfl, rfl⟩)
set_option maxRecDepth 100000 in
set_option maxHeartbeats 1600000 in
/-- The lock is let go, entered as a deferred call. -/
theorem unlock_deferred (a : Addr) (u : FrameMode) (w : World) (hc : w.cell? a = some (.int .i32 1)) (hz : w.frozen? a = false) :
    CallsD Try.prog 140 #[.pointer (some a)] u w fun e u' w' => u' = u ∧ (e = .returned (.tuple #[]) ∧ w' = w.setCell a (.int .i32 0)) := by
  have hd := race_disable
  have he := race_enable
  have hr := race_release
  have hadd := run_call_add (P := Try.prog) Try.func195 (by kernel_rfl) (by kernel_rfl) (by kernel_rfl) .i32 (by kernel_rfl) (y := -1) (s := 0) hc hz (by simp [go_sem]; rfl)
  have hcv := run_convert_to_unsafe (P := Try.prog) (src := 239) (dst := 221) Try.underlying239 Try.underlying221 (by kernel_rfl) hc
  go_enter_d Try.func140, Try.ntmps140
  go_wp2
  go_end0
  go_wp2
  go_end0
  exact ⟨rfl, rfl⟩
set_option maxRecDepth 100000 in
set_option maxHeartbeats 1600000 in
/-- The lock, which is free, is taken. -/
theorem lock_free (a : Addr) (w : World) (hc : w.cell? a = some (.int .i32 0)) (hz : w.frozen? a = false) :
    Calls Try.prog 139 #[.pointer (some a)] w fun e w' => e = .returned (.tuple #[]) ∧ w' = w.setCell a (.int .i32 1) := by
  have hd := race_disable
  have he := race_enable
  have ha := race_acquire
  have hcas := run_call_cas_hit (P := Try.prog) Try.func190 (by kernel_rfl) (by kernel_rfl) (by kernel_rfl) .i32 (by kernel_rfl) (y := 1) hc hz
  have hc' : (w.setCell a (.int .i32 1)).cell? a = some (.int .i32 1) := World.cell?_setCell_same w a _ hc
  have hcv := run_convert_to_unsafe (P := Try.prog) (src := 239) (dst := 221) Try.underlying239 Try.underlying221 (by kernel_rfl) hc'
  go_enter Try.func139, Try.ntmps139
  go_wp2
  first | go_end0 | (simp only [Exit.inBlock, Exit.then]; refine bodyPost_ret (results_none rfl _ _ _) rfl ?_) | refine bodyPost_ret (results_none rfl _ _ _) rfl ?_
  go_wp2
  go_end0
  exact ⟨rfl, rfl⟩
/-- The flag is read. -/
theorem flag_read (a : Addr) (x : Int) (b : Bool) (hb : (x != 0) = b) (w : World) (h : w.cell? a = some (.int .u32 x)) :
    Calls Try.prog 98 #[.pointer (some a)] w fun e w' => e = .returned (.bool b) ∧ w' = w := by
  have hl := run_call_load (P := Try.prog) Try.func138 (by kernel_rfl) (by kernel_rfl) (by kernel_rfl) .u32 (by kernel_rfl) h
  go_enter Try.func98, Try.ntmps98
  go_wp2
  go_ret
  exact ⟨rfl, rfl⟩
end Go.Proofs.Ytldoedmclfbgpaa
namespace Go.Proofs.Ytldoedmclfbgpaa
open Go.RowKit

/-- A list of nodes that lies outside one block. -/
def InF (w : World) (b : Nat) (A : Option Addr) (c : Nat) (l : List Node) : Prop := InN w A c l ∧ ∀ ad, A = some ad → ad.block ≠ b
theorem InF.kept {w w' : World} {b q : Nat} {A : Option Addr} {c : Nat} {l : List Node} (h : InF w b A c l) (k : Kept (some q) w.heap.size w w') (hq : ∀ ad, A = some ad → ad.block ≠ q) : InF w' b A c l := by
  obtain ⟨⟨h1, h2, h3, h4⟩, h5⟩ := h
  refine ⟨⟨h1, h2, h3, h4.imp id fun ⟨g, off, hA, hb, hr⟩ => ⟨g, off, hA, Nat.lt_of_lt_of_le hb k.size, ?_⟩⟩, h5⟩
  exact hr.keep fun o => k.cell (q := ⟨g, o, none⟩) hb (fun e => by injection e with e; exact hq _ hA e.symm)
theorem fls {x : Bool} (h : x = true → False) : x = false := by
  cases x
  · rfl
  · exact (h rfl).elim
/-- While the tree's function is made and kept. -/
structure FM (N b pl : Nat) (m : Card → Nat → Bool) (cs : Array Value) (w0 : World) (L : Nat → Bool) (u : Nat → Value) (w1 : World) : Prop where
  S : Kept (some b) N w0 w1
  c5 : L 5 = true → ∃ f k A c, u 5 = .tuple #[.func (.func f) #[] k, .slice A 0 c] ∧ AsksM N w1.heap.size w1 (.func (.func f) #[] k) m
  c6 : L 6 = true → L 5 = true ∧ u 6 = u 5
  c7 : L 7 = true → L 6 = true ∧ ∃ f k s, u 5 = .tuple #[.func (.func f) #[] k, s] ∧ u 7 = .func (.func f) #[] k
  c11 : L 11 = true → L 7 = true
  blk : Blk w1 b (if L 11 = true then cs.setIfInBounds 4 (u 7) else cs)
section
variable {N b pl j : Nat} {m : Card → Nat → Bool} {cs : Array Value} {w0 w1 w2 : World} {L : Nat → Bool} {u : Nat → Value} {v : Value}
theorem FM.start (h : Blk w0 b cs) (hh : w1.heap = w0.heap) (hb : Below w0.heap.size w0 w1) (hN : N ≤ w0.heap.size) : FM N b pl m cs w0 (fun _ => false) u w1 :=
  ⟨(Kept.of_below hb).mono hN, (fun h => (by first | cases h | simp at h)), (fun h => (by first | cases h | simp at h)), (fun h => (by first | cases h | simp at h)), (fun h => (by first | cases h | simp at h)), by obtain ⟨t, ht⟩ := h; exact ⟨t, by rw [hh]; exact ht⟩⟩
theorem FM.pure (h : FM N b pl m cs w0 L u w1) (h5 : j ≠ 5) (h6 : j ≠ 6) (h7 : j ≠ 7) (h11 : j ≠ 11) : FM N b pl m cs w0 (upd L j true) (upd u j v) w1 := by
  have e5 : upd L j true 5 = L 5 := upd_other _ _ (Ne.symm h5)
  have e6 : upd L j true 6 = L 6 := upd_other _ _ (Ne.symm h6)
  have e7 : upd L j true 7 = L 7 := upd_other _ _ (Ne.symm h7)
  have e11 : upd L j true 11 = L 11 := upd_other _ _ (Ne.symm h11)
  have f5 : upd u j v 5 = u 5 := upd_other _ _ (Ne.symm h5)
  have f6 : upd u j v 6 = u 6 := upd_other _ _ (Ne.symm h6)
  have f7 : upd u j v 7 = u 7 := upd_other _ _ (Ne.symm h7)
  exact ⟨h.S, by rw [e5, f5]; exact h.c5, by rw [e6, e5, f6, f5]; exact h.c6, by rw [e7, e6, f5, f7]; exact h.c7, by rw [e11, e7]; exact h.c11, by rw [e11, f7]; exact h.blk⟩
theorem FM.no6 (h : FM N b pl m cs w0 L u w1) (h5 : L 5 = false) : L 6 = false ∧ L 7 = false ∧ L 11 = false := by
  have a6 : L 6 = false := fls fun e => by have := (h.c6 e).1; rw [h5] at this; cases this
  have a7 : L 7 = false := fls fun e => by have := (h.c7 e).1; rw [a6] at this; cases this
  exact ⟨a6, a7, fls fun e => (by have := h.c11 e; rw [a7] at this; cases this)⟩
theorem FM.call (h : FM N b pl m cs w0 L u w1) (hN : N = w0.heap.size) (_hb : b < N) (h5 : L 5 = false) {f : FuncId} {k : Array Value} {A : Option Addr} {c : Nat} (hk : Below w1.heap.size w1 w2) (ha : AsksM w1.heap.size w2.heap.size w2 (.func (.func f) #[] k) m) :
    FM N b pl m cs w0 (upd L 5 true) (upd u 5 (.tuple #[.func (.func f) #[] k, .slice A 0 c])) w2 := by
  obtain ⟨n6, n7, n11⟩ := h.no6 h5
  have hs := h.S.size
  have e6 : upd L 5 true 6 = false := (upd_other _ _ (by decide)).trans n6
  have e7 : upd L 5 true 7 = false := (upd_other _ _ (by decide)).trans n7
  have e11 : upd L 5 true 11 = false := (upd_other _ _ (by decide)).trans n11
  have hB := h.blk
  rw [if_neg (by rw [n11]; simp)] at hB
  exact ⟨h.S.then_below hk (by omega), fun _ => ⟨f, k, A, c, upd_same .., ha.keep (by omega) (Nat.le_refl _) (fun _ _ _ => rfl)⟩, (fun e => by rw [e6] at e; cases e), (fun e => by rw [e7] at e; cases e), (fun e => by rw [e11] at e; cases e), by rw [if_neg (by rw [e11]; simp)]; exact hB.below hk hB.lt⟩
theorem FM.move (h : FM N b pl m cs w0 L u w1) (h6 : L 6 = false) (h5 : L 5 = true) : FM N b pl m cs w0 (upd L 6 true) (upd u 6 (u 5)) w1 := by
  have n7 : L 7 = false := fls fun e => by have := (h.c7 e).1; rw [h6] at this; cases this
  have n11 : L 11 = false := fls fun e => by have := h.c11 e; rw [n7] at this; cases this
  have e5 : upd L 6 true 5 = L 5 := upd_other _ _ (by decide)
  have e7 : upd L 6 true 7 = L 7 := upd_other _ _ (by decide)
  have e11 : upd L 6 true 11 = L 11 := upd_other _ _ (by decide)
  have f5 : upd u 6 (u 5) 5 = u 5 := upd_other _ _ (by decide)
  have f7 : upd u 6 (u 5) 7 = u 7 := upd_other _ _ (by decide)
  exact ⟨h.S, by rw [e5, f5]; exact h.c5, fun _ => ⟨e5.trans h5, by rw [upd_same, f5]⟩, (fun e => by rw [e7, n7] at e; cases e), (fun e => by rw [e11, n11] at e; cases e), by rw [e11, f7]; exact h.blk⟩
theorem FM.pick (h : FM N b pl m cs w0 L u w1) (h7 : L 7 = false) (h6 : L 6 = true) {f : FuncId} {k : Array Value} {s : Value} (hu : u 5 = .tuple #[.func (.func f) #[] k, s]) : FM N b pl m cs w0 (upd L 7 true) (upd u 7 (.func (.func f) #[] k)) w1 := by
  have n11 : L 11 = false := fls fun e => by have := h.c11 e; rw [h7] at this; cases this
  have e5 : upd L 7 true 5 = L 5 := upd_other _ _ (by decide)
  have e6 : upd L 7 true 6 = L 6 := upd_other _ _ (by decide)
  have e11 : upd L 7 true 11 = L 11 := upd_other _ _ (by decide)
  have f5 : upd u 7 (.func (.func f) #[] k) 5 = u 5 := upd_other _ _ (by decide)
  have f6 : upd u 7 (.func (.func f) #[] k) 6 = u 6 := upd_other _ _ (by decide)
  have hB := h.blk
  rw [if_neg (by rw [n11]; simp)] at hB
  exact ⟨h.S, by rw [e5, f5]; exact h.c5, by rw [e6, e5, f6, f5]; exact h.c6, fun _ => ⟨e6.trans h6, f, k, s, f5.trans hu, upd_same ..⟩, (fun e => by rw [e11, n11] at e; cases e), by rw [if_neg (by rw [e11, n11]; simp)]; exact hB⟩
theorem FM.put (h : FM N b pl m cs w0 L u w1) (hb : b < N) (h7 : L 7 = true) (_h11 : L 11 = false) (hk : Kept (some b) w1.heap.size w1 w2) (hN : N ≤ w1.heap.size) (hB : Blk w2 b (cs.setIfInBounds 4 (u 7))) : FM N b pl m cs w0 (upd L 11 true) (upd u 11 v) w2 := by
  have e5 : upd L 11 true 5 = L 5 := upd_other _ _ (by decide)
  have e6 : upd L 11 true 6 = L 6 := upd_other _ _ (by decide)
  have e7 : upd L 11 true 7 = L 7 := upd_other _ _ (by decide)
  have f5 : upd u 11 v 5 = u 5 := upd_other _ _ (by decide)
  have f6 : upd u 11 v 6 = u 6 := upd_other _ _ (by decide)
  have f7 : upd u 11 v 7 = u 7 := upd_other _ _ (by decide)
  refine ⟨h.S.trans (hk.mono hN), ?_, by rw [e6, e5, f6, f5]; exact h.c6, by rw [e7, e6, f5, f7]; exact h.c7, fun _ => e7.trans h7, by rw [upd_same, if_pos rfl, f7]; exact hB⟩
  rw [e5, f5]
  intro e
  obtain ⟨f, k, A, c, hu, ha⟩ := h.c5 e
  exact ⟨f, k, A, c, hu, ha.keep (Nat.le_refl _) hk.size (fun i i1 i2 => hk.block i i2 (fun e => by injection e with e; omega))⟩
end
/-- The closure of Match: the tree's function is made, and kept. -/
def RetM (w : World) (b : Nat) (cs : Array Value) (m : Card → Nat → Bool) (e : Ending) (w' : World) : Prop := ∃ f k, e = .returned (.tuple #[]) ∧ Kept (some b) w.heap.size w w' ∧ Blk w' b (cs.setIfInBounds 4 (.func (.func f) #[] k)) ∧ AsksM w.heap.size w'.heap.size w' (.func (.func f) #[] k) m
set_option maxHeartbeats 1000000 in
theorem c_Match1 (t : Tr) (hw : t.wf) (hok : ∀ x ∈ t.flat, x.ok = true) (b pl : Nat) (hpb : pl ≠ b) (A : Option Addr) (c : Nat) (d s z a : Value) (w : World) (hB : Blk w b #[.slice A t.flat.length c, d, s, z, a]) (hI : InF w b A c t.flat) (hp : w.cell? ⟨pl, 0, none⟩ = some (.pointer (some ⟨b, 0, none⟩))) :
    Calls Try.prog 57 #[.pointer (some ⟨pl, 0, none⟩)] w (RetM w b #[.slice A t.flat.length c, d, s, z, a] (fun c g => t.mat c g)) := by
  have HB := Lib.hid hB
  have HI := Lib.hid hI
  have hbl := hB.lt
  have hpl := World.block_lt_of_cell? w _ hp
  have CB := Lib.hid (fun A c w h => c_built t [] A c w hw hok h)
  simp only [List.append_nil] at CB
  clear hB hI hok hw
  go_enter Try.func57, Try.ntmps57
  refine wp_region_relM (VW [some (.pointer (some ⟨b, 0, none⟩)), some (.pointer (some ⟨b, 0, none⟩)), some (.pointer (some ⟨b, 0, none⟩)), some (.pointer (some ⟨b, 0, none⟩)), some (.slice A t.flat.length c), none, none, none, none, some (.pointer (some ⟨b, 0, none⟩)), some (.pointer (some ⟨b, 4, none⟩)), none])
    (FM w.heap.size b pl (fun c g => t.mat c g) #[.slice A t.flat.length c, d, s, z, a] w) 12 (by kernel_rfl) (by kernel_rfl) rfl ?_ ?_ ?_
  · intro u w' hb hh
    exact FM.start HB.out hh hb (Nat.le_refl _)
  · refine ⟨?_, ?_, ?_, ?_, ?_, ?_, ?_, ?_, ?_, ?_, ?_, ?_, trivial⟩
    all_goals
      rintro L u W1 hM hL hd
      have M := Lib.hid hM
      clear hM
      simp [DepsM, Region.binds, VW] at hd
      simp only [putDeps, dstOf, Region.binds]
    case refine_1 =>
      have q0 := (M.out.S.cell (q := ⟨pl, 0, none⟩) hpl (fun e => by injection e with e; exact hpb e.symm)).trans hp
      go_wp2_with (fail)
      exact EndM.mk rfl ⟨rfl, M.out.pure (by decide) (by decide) (by decide) (by decide)⟩
    case refine_2 =>
      have q0 := (M.out.S.cell (q := ⟨pl, 0, none⟩) hpl (fun e => by injection e with e; exact hpb e.symm)).trans hp
      go_wp2_with (fail)
      exact EndM.mk rfl ⟨rfl, M.out.pure (by decide) (by decide) (by decide) (by decide)⟩
    case refine_5 =>
      have q0 : W1.cell? ⟨b, 0, none⟩ = some (.slice A t.flat.length c) := by
        refine M.out.blk.cell (i := 0) ?_
        split <;> rfl
      go_wp2_with (fail)
      exact EndM.mk rfl ⟨rfl, M.out.pure (by decide) (by decide) (by decide) (by decide)⟩
    case refine_6 =>
      have hu4 : u 4 = .slice A t.flat.length c := by first | exact hd.2 | exact hd.1.2 | exact hd.2.2 | exact hd.2.1.2
      rw [hu4]
      have IW := Lib.hid (HI.out.kept M.out.S HI.out.2)
      go_wp2_with (go_at_call 58; refine (CB.out _ _ _ IW.out.1).mono ?_; rintro e W2 ⟨v, A2, c2, rfl, hb2, hv2, -⟩)
      obtain ⟨f2, k2, rfl, -⟩ := id hv2
      exact EndM.mk rfl ⟨trivial, M.out.call rfl hbl hL hb2 hv2⟩
    case refine_7 =>
      have h5 : L 5 = true := by first | exact hd | exact hd.1 | exact hd.2.1 | exact hd.1.1
      go_wp2_with (fail)
      exact EndM.mk rfl ⟨trivial, M.out.move hL h5⟩
    case refine_8 =>
      have h6 : L 6 = true := by first | exact hd | exact hd.1 | exact hd.2.1 | exact hd.1.1
      obtain ⟨h5, hu6⟩ := M.out.c6 h6
      obtain ⟨f2, k2, A2, c2, hu5, -⟩ := M.out.c5 h5
      rw [hu6, hu5]
      have HU := Lib.hid hu5
      clear hu5 hu6
      go_wp2_with (fail)
      exact EndM.mk rfl ⟨trivial, M.out.pick hL h6 HU.out⟩
    case refine_9 =>
      have h6 : L 6 = true := by first | exact hd | exact hd.1 | exact hd.2.1 | exact hd.1.1
      obtain ⟨h5, hu6⟩ := M.out.c6 h6
      obtain ⟨f2, k2, A2, c2, hu5, -⟩ := M.out.c5 h5
      rw [hu6, hu5]
      clear hu5 hu6
      go_wp2_with (fail)
      exact EndM.mk rfl ⟨trivial, M.out.pure (by decide) (by decide) (by decide) (by decide)⟩
    case refine_12 =>
      have h7 : L 7 = true := by first | exact hd.1 | exact hd.2.1 | exact hd.1.1 | exact hd.2.2 | exact hd.2.2.1 | exact hd.2
      have hu10 : u 10 = .pointer (some ⟨b, 4, none⟩) := by first | exact hd.2.2 | exact hd.1.2 | exact hd.2.1.2 | exact hd.2 | exact hd.2.2.2
      obtain ⟨h6, f2, k2, s2, hu5, hu7⟩ := M.out.c7 h7
      have HK := M.out.blk
      rw [if_neg (by rw [hL]; simp)] at HK
      have q4 := HK.cell (i := 4) rfl
      have z4 := HK.frozen 4
      have HK := Lib.hid HK
      have HU := Lib.hid hu7
      rw [hu10, hu7]
      clear hu5 hu7 hu10
      go_wp2_with (fail)
      exact EndM.mk0 rfl ⟨trivial, M.out.put hbl h7 hL (kept_set _ _ _ _) M.out.S.size (by rw [HU.out]; exact HK.out.store 4 _)⟩
    all_goals
      go_wp2_with (fail)
      exact EndM.mk rfl ⟨by first | exact hd.2 | rfl | trivial, M.out.pure (by decide) (by decide) (by decide) (by decide)⟩
  rintro u W1 hv hM
  clear hv
  obtain ⟨h6, f2, k2, s2, hu5, hu7⟩ := hM.c7 (by simp)
  obtain ⟨f3, k3, A3, c3, hu5', hA⟩ := hM.c5 (by simp)
  obtain ⟨rfl, rfl⟩ : f3 = f2 ∧ k3 = k2 := by
    rw [hu5] at hu5'
    injection hu5' with e
    have e0 := congrArg (fun a : Array Value => a[0]?) e
    simp at e0
    exact ⟨e0.1.symm, e0.2.symm⟩
  have HB2 := hM.blk
  rw [if_pos (by simp), hu7] at HB2
  have F := Lib.hid (show RetM w b #[.slice A t.flat.length c, d, s, z, a] (fun c g => t.mat c g) (.returned (.tuple #[])) W1 from ⟨_, _, rfl, hM.S, HB2, hA⟩)
  clear hM hA HB2 hu5 hu5' hu7
  simp only [putAll, Act.put, Nat.reduceAdd, List.setIfInBounds_toArray, List.set_cons_zero, List.set_cons_succ]
  go_wp2_with (fail)
  go_end0
  exact F.out
end Go.Proofs.Ytldoedmclfbgpaa
namespace Go.Proofs.Ytldoedmclfbgpaa
open Go.RowKit

/-- The tree's function was made, once. -/
def RetD (w : World) (b : Nat) (sl : Value) (m : Card → Nat → Bool) (e : Ending) (w' : World) : Prop := ∃ f k, e = .returned (.tuple #[]) ∧ Kept (some b) w.heap.size w w' ∧ Blk w' b #[sl, .int .u32 1, .int .i32 0, .int .u32 0, .func (.func f) #[] k] ∧ AsksM w.heap.size w'.heap.size w' (.func (.func f) #[] k) m
set_option maxRecDepth 100000 in
set_option maxHeartbeats 1600000 in
theorem c_doSlow (t : Tr) (hw : t.wf) (hok : ∀ x ∈ t.flat, x.ok = true) (b pl : Nat) (hpb : pl ≠ b) (A : Option Addr) (c : Nat) (a : Value) (w : World) (hB : Blk w b #[.slice A t.flat.length c, .int .u32 0, .int .i32 0, .int .u32 0, a]) (hI : InF w b A c t.flat) (hp : w.cell? ⟨pl, 0, none⟩ = some (.pointer (some ⟨b, 0, none⟩))) :
    Calls Try.prog 99 #[.pointer (some ⟨b, 1, none⟩), .func (.func 57) #[] #[.pointer (some ⟨pl, 0, none⟩)]] w (RetD w b (.slice A t.flat.length c) (fun c g => t.mat c g)) := by
  have hbl := hB.lt
  have L1 := Lib.hid (lock_free ⟨b, 2, none⟩ w (hB.cell (i := 2) rfl) (hB.frozen 2))
  have B1 := Lib.hid (hB.store 2 (.int .i32 1))
  have I1 := Lib.hid (hI.kept (kept_set w b 2 (.int .i32 1)) hI.2)
  have p1 : (w.setCell ⟨b, 2, none⟩ (.int .i32 1)).cell? ⟨pl, 0, none⟩ = some (.pointer (some ⟨b, 0, none⟩)) := (World.cell?_setCell_other _ _ _ _ (fun e => by injection e with e; first | exact hpb e | exact hpb e.symm)).trans hp
  have P1 := Lib.hid p1
  have K1 := Lib.hid (kept_set w b 2 (.int .i32 1))
  obtain ⟨w1, hw1⟩ : ∃ w1, w1 = w.setCell ⟨b, 2, none⟩ (.int .i32 1) := ⟨_, rfl⟩
  rw [← hw1] at L1 B1 I1 P1 K1
  have hz1 : w1.heap.size = w.heap.size := by rw [hw1]; simp [World.setCell]
  clear hw1 hB hI hp p1
  have C2 := Lib.hid (c_Match1 t hw hok b pl hpb A c _ _ _ _ w1 (show Blk w1 b #[.slice A t.flat.length c, .int .u32 0, .int .i32 1, .int .u32 0, a] from B1.out) I1.out P1.out)
  have FR := Lib.hid (flag_read ⟨b, 1, none⟩ 0 false rfl w1 (B1.out.cell (i := 1) rfl))
  clear hw hok
  go_enter_defers Try.func99, Try.ntmps99
  go_wp2_with (first | (go_at_call 139; refine L1.out.mono ?_; rintro e w' ⟨rfl, rfl⟩) | (go_at_call 98; refine FR.out.mono ?_; rintro e w' ⟨rfl, rfl⟩) | (go_at_call 57; refine C2.out.mono ?_; rintro e w2 ⟨f, k, rfl, K2, B2, A2⟩))
  have fin : ∀ w3 w4, w3 = w2.drew.setCell ⟨b, 1, none⟩ (.int .u32 1) → w4 = w3.setCell ⟨b, 2, none⟩ (.int .i32 0) → RetD w b (.slice A t.flat.length c) (fun c g => t.mat c g) (.returned (.tuple #[])) w4 := by
    rintro w3 w4 rfl rfl
    have B3 : Blk w2.drew b _ := B2
    have B4 := (B3.store 1 (.int .u32 1)).store 2 (.int .i32 0)
    have K3 : Kept (some b) w2.heap.size w2 ((w2.drew.setCell ⟨b, 1, none⟩ (.int .u32 1)).setCell ⟨b, 2, none⟩ (.int .i32 0)) := (((Kept.refl (some b) _ w2).drew).setCell (q := ⟨b, 1, none⟩) (.inr rfl) _).setCell (q := ⟨b, 2, none⟩) (.inr rfl) _
    have h2 := K2.size
    refine ⟨f, k, rfl, (K1.out.trans (K2.mono (by omega))).trans (K3.mono (by omega)), B4, A2.keep (by omega) K3.size (fun i i1 i2 => K3.block i i2 (fun e => by injection e with e; omega))⟩
  have F := Lib.hid (fin _ _ rfl rfl)
  have B3 : Blk w2.drew b _ := B2
  have B4 := B3.store 1 (.int .u32 1)
  refine leaves_cons (f := 141) (args := #[.pointer (some ⟨b, 1, none⟩), .bool true]) (by simp) (by simp [go_sem]) ?_
  refine (flag_deferred ⟨b, 1, none⟩ (.int .u32 0) .returning _ (B2.cell (i := 1) rfl) (B2.frozen 1)).mono ?_
  rintro e u' w'' ⟨rfl, rfl, rfl⟩
  refine leaves_cons (f := 140) (args := #[.pointer (some ⟨b, 2, none⟩)]) (by simp [settle]) (by simp [go_sem]) ?_
  refine (unlock_deferred ⟨b, 2, none⟩ _ _ (B4.cell (i := 2) rfl) (B4.frozen 2)).mono ?_
  rintro e u' w'' ⟨rfl, rfl, rfl⟩
  simp [Leaves, settle, results, Try.results99]
  exact F.out
set_option maxHeartbeats 1000000 in
theorem c_Do_first (t : Tr) (hw : t.wf) (hok : ∀ x ∈ t.flat, x.ok = true) (b pl : Nat) (hpb : pl ≠ b) (A : Option Addr) (c : Nat) (a : Value) (w : World) (hB : Blk w b #[.slice A t.flat.length c, .int .u32 0, .int .i32 0, .int .u32 0, a]) (hI : InF w b A c t.flat) (hp : w.cell? ⟨pl, 0, none⟩ = some (.pointer (some ⟨b, 0, none⟩))) :
    Calls Try.prog 56 #[.pointer (some ⟨b, 1, none⟩), .func (.func 57) #[] #[.pointer (some ⟨pl, 0, none⟩)]] w (RetD w b (.slice A t.flat.length c) (fun c g => t.mat c g)) := by
  have CS := Lib.hid (c_doSlow t hw hok b pl hpb A c a w hB hI hp)
  have FR := Lib.hid (flag_read ⟨b, 1, none⟩ 0 false rfl w (hB.cell (i := 1) rfl))
  clear hw hok hB hI hp
  go_enter Try.func56, Try.ntmps56
  go_wp2_with (first | (go_at_call 98; refine FR.out.mono ?_; rintro e w' ⟨rfl, rfl⟩) | (go_at_call 99; refine CS.out.mono ?_; rintro e w2 ⟨f, k, rfl, K2, B2, A2⟩))
  go_end0
  exact ⟨f, k, rfl, K2, B2, A2⟩
set_option maxHeartbeats 1000000 in
theorem c_Do_again (a : Addr) (fv : Value) (w : World) (h : w.cell? a = some (.int .u32 1)) : Calls Try.prog 56 #[.pointer (some a), fv] w (fun e w' => e = .returned (.tuple #[]) ∧ w' = w) := by
  have FR := Lib.hid (flag_read a 1 true rfl w h)
  clear h
  go_enter Try.func56, Try.ntmps56
  go_wp2_with (go_at_call 98; refine FR.out.mono ?_; rintro e w' ⟨rfl, rfl⟩)
  go_end0
  exact ⟨rfl, rfl⟩
end Go.Proofs.Ytldoedmclfbgpaa
namespace Go.Proofs.Ytldoedmclfbgpaa
open Go.RowKit

/-- A filter that was not asked yet. -/
def FltN (w : World) (b : Nat) (t : Tr) : Prop := ∃ A c, Blk w b #[.slice A t.flat.length c, .int .u32 0, .int .i32 0, .int .u32 0, .nilFunc] ∧ InF w b A c t.flat ∧ 0 ≠ b
/-- A filter that was asked. -/
def FltD (w : World) (b : Nat) (t : Tr) : Prop := ∃ A c f k B E, Blk w b #[.slice A t.flat.length c, .int .u32 1, .int .i32 0, .int .u32 0, .func (.func f) #[] k] ∧ InF w b A c t.flat ∧ AsksM B E w (.func (.func f) #[] k) (fun c g => t.mat c g) ∧ E ≤ w.heap.size ∧ 0 ≠ b
theorem InF.below {w w' : World} {b : Nat} {A : Option Addr} {c : Nat} {l : List Node} (h : InF w b A c l) (k : Below w.heap.size w w') : InF w' b A c l := ⟨h.1.below k, h.2⟩
theorem FltN.below {w w' : World} {b : Nat} {t : Tr} (h : FltN w b t) (k : Below w.heap.size w w') : FltN w' b t := by
  obtain ⟨A, c, h1, h2, h3⟩ := h; exact ⟨A, c, h1.below k h1.lt, h2.below k, h3⟩
theorem FltD.below {w w' : World} {b : Nat} {t : Tr} (h : FltD w b t) (k : Below w.heap.size w w') : FltD w' b t := by
  obtain ⟨A, c, f, j, B, E, h1, h2, h3, h4, h5⟩ := h
  exact ⟨A, c, f, j, B, E, h1.below k h1.lt, h2.below k, h3.keep (Nat.le_refl _) (Nat.le_refl _) (fun i _ i2 => k.block i (by omega)), Nat.le_trans h4 k.size, h5⟩
theorem FltN.lt {w : World} {b : Nat} {t : Tr} (h : FltN w b t) : b < w.heap.size := by obtain ⟨A, c, h1, h2⟩ := h; exact h1.lt
theorem FltD.lt {w : World} {b : Nat} {t : Tr} (h : FltD w b t) : b < w.heap.size := by obtain ⟨A, c, f, j, B, E, h1, h2, h3, h4⟩ := h; exact h1.lt
/-- The answer; and the filter was asked. -/
def RetF (w : World) (b : Nat) (t : Tr) (r : Bool) (e : Ending) (w' : World) : Prop := e = .returned (.bool r) ∧ Kept (some b) w.heap.size w w' ∧ FltD w' b t
set_option maxHeartbeats 1000000 in
theorem c_Match_first (t : Tr) (hw : t.wf) (hok : ∀ x ∈ t.flat, x.ok = true) (b : Nat) (c : Card) (g : Nat) (hc : shortC c) (hg : g < 4294967296) (w : World) (hM : MaxV w) (h : FltN w b t) :
    Calls Try.prog 20 #[.pointer (some ⟨b, 0, none⟩), .agg c.arr, .int .u32 g] w (RetF w b t (t.mat c g)) := by
  obtain ⟨A, n, hB, hI, hN⟩ := h
  have hbl := hB.lt
  obtain ⟨w1, hw1⟩ : ∃ w1, w1 = (w.alloc (.cells #[.pointer (some ⟨b, 0, none⟩)] 46)).alloc (.cells c.arr 39) := ⟨_, rfl⟩
  have b1 : Below w.heap.size w w1 := by rw [hw1]; exact (by repeat (first | exact Below.refl _ _ | refine Below.drew ?_ | refine Below.alloc ?_ (by first | omega | (simp; done) | (simp; omega)) _ | refine Below.setCell ?_ (by first | omega | (simp; done) | (simp; omega)) _ | refine Below.trans ?_ (Below.mono (by assumption) (by first | omega | (simp; done) | (simp; omega)))))
  have z1 : w1.heap.size = w.heap.size + 2 := by rw [hw1]; simp
  have B0 : Blk w1 w.heap.size #[.pointer (some ⟨b, 0, none⟩)] := by
    rw [hw1]; exact (Blk.new w _ _).below ((Below.refl _ _).alloc (B := w.heap.size + 1) (by simp) _) (by omega)
  have C1 : Blk w1 (w.heap.size + 1) c.arr := by
    have := Blk.new (w.alloc (.cells #[.pointer (some ⟨b, 0, none⟩)] 46)) 39 c.arr
    rw [hw1]; simpa using this
  have q1 := B0.cell (i := 0) rfl
  have DO := Lib.hid (c_Do_first t hw hok b w.heap.size (by omega) A n _ w1 (hB.below b1 hbl) (hI.below b1) q1)
  have S1 := Lib.hid b1
  have HB0 := Lib.hid B0
  have HC1 := Lib.hid C1
  have HI := Lib.hid hI
  have HM := Lib.hid hM
  clear hw hok b1 B0 C1 hI hB hM
  go_enter Try.func20, Try.ntmps20
  go_wp2_with (rw [← hw1]; clear hw1)
  refine DO.out.mono ?_
  rintro e w2 ⟨f, k, rfl, K2, B2, A2⟩
  have s2 := K2.size
  have S2 : Kept (some b) w.heap.size w w2 := ((Kept.of_below S1.out).trans (K2.mono (by omega)))
  have P2 := HB0.out.kept K2 HB0.out.lt (fun e => by injection e with e; omega)
  have C2 := HC1.out.kept K2 HC1.out.lt (fun e => by injection e with e; omega)
  have M2 : MaxV w2 := by
    obtain ⟨m, hm⟩ := HM.out
    refine ⟨m, (S2.cell (q := ⟨_, 0, none⟩) (World.block_lt_of_cell? w _ hm) (fun e => by injection e with e; exact hN e.symm)).trans hm⟩
  clear q1
  have q2 := P2.cell (i := 0) rfl
  have f2 := B2.cell (i := 4) rfl
  have A2 := Lib.hid A2
  have S2 := Lib.hid S2
  have B2 := Lib.hid B2
  have I2 := Lib.hid ((HI.out.below S1.out).kept K2 HI.out.2)
  have C2 := Lib.hid C2
  obtain ⟨f', k', e1, hp, hcall⟩ := A2.out
  injection e1 with e1 e2 e3
  injection e1 with e1
  subst e1 e3
  have HCALL := Lib.hid (hcall w2 (fun _ _ _ => rfl) (Nat.le_refl _) M2 _ c g C2.out hc hg)
  clear hcall M2 P2 K2
  go_wp2_with (with_reducible refine stop_callV _ _ _ rfl ?_)
  refine Stop.mk (wpList_callV (vs := #[.pointer (some ⟨w.heap.size + 1, 0, none⟩), .int .u32 g]) (by rfl) rfl rfl hp (by first | (simp [Act.eval]; done) | (simp only [List.map_toArray, List.map_cons, List.map_nil]; rfl)) (HCALL.out.mono ?_))
  rintro e w3 ⟨rfl, hb3⟩
  refine ⟨_, rfl, ?_⟩
  go_wp2_with (fail)
  go_ret
  exact ⟨rfl, S2.out.then_below hb3 (by omega), FltD.below ⟨A, n, f, k, _, _, B2.out, I2.out, A2.out, Nat.le_refl _, hN⟩ hb3⟩
set_option maxHeartbeats 1000000 in
theorem c_Match_again (t : Tr) (b : Nat) (c : Card) (g : Nat) (hc : shortC c) (hg : g < 4294967296) (w : World) (hM : MaxV w) (h : FltD w b t) :
    Calls Try.prog 20 #[.pointer (some ⟨b, 0, none⟩), .agg c.arr, .int .u32 g] w (RetV w (.bool (t.mat c g))) := by
  obtain ⟨A, n, f, k, B, E, hB, hI, hA, hE, hN⟩ := h
  have hbl := hB.lt
  obtain ⟨w1, hw1⟩ : ∃ w1, w1 = (w.alloc (.cells #[.pointer (some ⟨b, 0, none⟩)] 46)).alloc (.cells c.arr 39) := ⟨_, rfl⟩
  have b1 : Below w.heap.size w w1 := by rw [hw1]; exact (by repeat (first | exact Below.refl _ _ | refine Below.drew ?_ | refine Below.alloc ?_ (by first | omega | (simp; done) | (simp; omega)) _ | refine Below.setCell ?_ (by first | omega | (simp; done) | (simp; omega)) _ | refine Below.trans ?_ (Below.mono (by assumption) (by first | omega | (simp; done) | (simp; omega)))))
  have z1 : w1.heap.size = w.heap.size + 2 := by rw [hw1]; simp
  have B0 : Blk w1 w.heap.size #[.pointer (some ⟨b, 0, none⟩)] := by
    rw [hw1]; exact (Blk.new w _ _).below ((Below.refl _ _).alloc (B := w.heap.size + 1) (by simp) _) (by omega)
  have C1 : Blk w1 (w.heap.size + 1) c.arr := by
    have := Blk.new (w.alloc (.cells #[.pointer (some ⟨b, 0, none⟩)] 46)) 39 c.arr
    rw [hw1]; simpa using this
  have q1 := B0.cell (i := 0) rfl
  have HB1 := hB.below b1 hbl
  have DO := Lib.hid (fun fv => c_Do_again ⟨b, 1, none⟩ fv w1 (HB1.cell (i := 1) rfl))
  have f1 := HB1.cell (i := 4) rfl
  obtain ⟨f', k', e1, hp, hcall⟩ := hA
  injection e1 with e1 e2 e3
  injection e1 with e1
  subst e1 e3
  have HCALL := Lib.hid (hcall w1 (fun i _ i2 => b1.block i (by omega)) (Nat.le_trans hE b1.size) (hM.below b1) _ c g C1 hc hg)
  have S1 := Lib.hid b1
  clear hcall b1 B0 C1 hI hB hM HB1
  go_enter Try.func20, Try.ntmps20
  go_wp2_with (rw [← hw1]; clear hw1)
  refine (DO.out _).mono ?_
  rintro e w2 ⟨rfl, rfl⟩
  go_wp2_with (with_reducible refine stop_callV _ _ _ rfl ?_)
  refine Stop.mk (wpList_callV (vs := #[.pointer (some ⟨w.heap.size + 1, 0, none⟩), .int .u32 g]) (by rfl) rfl rfl hp (by first | (simp [Act.eval]; done) | (simp only [List.map_toArray, List.map_cons, List.map_nil]; rfl)) (HCALL.out.mono ?_))
  rintro e w3 ⟨rfl, hb3⟩
  refine ⟨_, rfl, ?_⟩
  go_wp2_with (fail)
  go_ret
  exact RetV.bool rfl (S1.out.trans (hb3.mono (by omega)))
end Go.Proofs.Ytldoedmclfbgpaa
namespace Go.Proofs.Ytldoedmclfbgpaa
open Go.RowKit

/-- A filter was made. -/
def RetN (w : World) (t : Tr) (e : Ending) (w' : World) : Prop := ∃ b, e = .returned (.pointer (some ⟨b, 0, none⟩)) ∧ Below w.heap.size w w' ∧ w.heap.size ≤ b ∧ FltN w' b t
set_option maxHeartbeats 1000000 in
theorem c_New (t : Tr) (A : Option Addr) (c : Nat) (w : World) (h : InN w A c t.flat) (hs : ∀ x ∈ t.flat, x.v.s.length ≤ 9223372036854775807) (h0 : check t.flat = 0) (hM : MaxV w) :
    Calls Try.prog 18 #[.slice A t.flat.length c] w (RetN w t) := by
  have CC := Lib.hid (c_pred_Check t.flat A c w h hs)
  have hlen := t.flat_len
  have hS := h.2.2.1
  rw [h0] at CC
  have HI := Lib.hid h
  have CN := Lib.hid (fun w' h' => c_Clone_n t.flat A c w' h')
  have hMx : 0 < w.heap.size := by obtain ⟨m, hm⟩ := hM; exact World.block_lt_of_cell? w _ hm
  clear h hs h0 hM
  go_enter Try.func18, Try.ntmps18
  go_wp2_with (go_at_call 54; refine CC.out.mono ?_; rintro e w1 ⟨rfl, hb1⟩)
  refine (CN.out _ (HI.out.below hb1)).mono ?_
  rintro e w2 ⟨v, rfl, own2, hb2⟩
  obtain ⟨g, c2, rfl, hc, hC, hge, hgl⟩ := own_form' own2 (by omega)
  have hz1 := hb1.size
  have hz2 := hb2.size
  have S2 := Lib.hid (hb1.trans (hb2.mono hz1))
  have I2 : InN w2 (some ⟨g, 0, none⟩) c2 t.flat := by
    obtain ⟨A', c', hv, hin⟩ := In.of_own Node.cells_len own2 hS
    injection hv with e1 _ e2
    subst e1 e2
    exact hin
  have I2 := Lib.hid I2
  clear own2 hb1 hb2
  go_wp2_with (fail)
  go_ret
  have hb3 : Below w2.heap.size w2 (w2.alloc (.cells #[.slice (some ⟨g, 0, none⟩) t.flat.length c2, .int .u32 0, .int .i32 0, .int .u32 0, .nilFunc] 112)) := (by repeat (first | exact Below.refl _ _ | refine Below.drew ?_ | refine Below.alloc ?_ (by first | omega | (simp; done) | (simp; omega)) _ | refine Below.setCell ?_ (by first | omega | (simp; done) | (simp; omega)) _ | refine Below.trans ?_ (Below.mono (by assumption) (by first | omega | (simp; done) | (simp; omega)))))
  exact ⟨w2.heap.size, rfl, S2.out.trans (hb3.mono (by omega)), by omega, _, _, Blk.new _ _ _, ⟨I2.out.below hb3, fun ad e => by injection e with e; subst e; show g ≠ _; omega⟩, by omega⟩
set_option maxHeartbeats 1000000 in
theorem c_Nodes (l : List Node) (b : Nat) (A : Option Addr) (c : Nat) (w : World) (h : InN w A c l) (h0 : w.cell? ⟨b, 0, none⟩ = some (.slice A l.length c)) :
    Calls Try.prog 30 #[.pointer (some ⟨b, 0, none⟩)] w (RetS 5 Node.cells 94 w l) := by
  have CN := Lib.hid (c_Clone_n l A c w h)
  clear h
  go_enter Try.func30, Try.ntmps30
  go_wp2_with (fail)
  refine CN.out.mono ?_
  rintro e w2 ⟨v, rfl, own2, hb2⟩
  go_wp2_with (fail)
  go_ret
  exact ⟨_, rfl, own2, hb2⟩
end Go.Proofs.Ytldoedmclfbgpaa
namespace Go.Proofs.Ytldoedmclfbgpaa
open Go.RowKit

set_option maxHeartbeats 1000000 in
theorem c_Groups (l : List Node) (b : Nat) (A : Option Addr) (c : Nat) (w : World) (h : InN w A c l) (h0 : w.cell? ⟨b, 0, none⟩ = some (.slice A l.length c)) :
    Calls Try.prog 29 #[.pointer (some ⟨b, 0, none⟩)] w (RetV w (.int .u32 (grpL l 0 : Nat))) := by
  have hS := h.2.2.1
  have CN := Lib.hid (c_Nodes l b A c w h h0)
  have H0 : Hid (grpL (l.drop 0) 0 = grpL l 0) := rfl
  clear h h0
  go_enter Try.func29, Try.ntmps29
  go_wp2_with (go_at_call 30; refine CN.out.mono ?_; rintro e w1 ⟨v, rfl, own1, hb1⟩; obtain ⟨A1, c1, rfl, hI⟩ := In.of_own Node.cells_len own1 hS)
  have hL1 := hI.1
  have hC1 := hI.2.1
  have hz1 := hb1.size
  have HI := Lib.hid hI
  have S1 := Lib.hid hb1
  clear own1 hb1 hI
  go_loopw [3, 9] (fun m i wr => ∃ (k m' : Nat), k ≤ l.length ∧ i = .int .i64 k ∧ m = .int .u32 m' ∧ m' < 4294967296 ∧ Hid (grpL (l.drop k) m' = grpL l 0) ∧ Below w1.heap.size w1 wr) (fun _ i _ => l.length - (intOf i).toNat)
  case atStart => exact ⟨0, 0, by omega, rfl, rfl, by omega, H0, Below.refl _ _⟩
  case round =>
    obtain ⟨k, m', hk, rfl, rfl, hm, H, hbl⟩ := hrel
    have hbz := hbl.size
    by_cases hlt : k < l.length
    · obtain ⟨g, off, rfl, hg, hrow⟩ := HI.out.at hlt
      obtain ⟨e0, e1, e2, e3, e4⟩ := (hrow.below hbl hg).node hlt rfl
      have hH := H.out
      rw [grpL_at l k hlt] at hH
      clear H H0 hrow
      by_cases h4 : l[k].op = 4
      · rw [if_pos h4] at hH
        have HN := Lib.hid hH
        have b4 : (l[k].op == 4) = true := by simpa using h4
        clear hH h4
        go_wp2_with (go_at_call 67; refine (c_bits_With _ _ hm _).mono ?_; rintro e w3 ⟨rfl, hb3⟩)
        go_roundw
        case rel => exact ⟨k + 1, _, by omega, by go_num, rfl, or_lt hm (bitN_lt _), HN.out, (by repeat (first | exact Below.refl _ _ | refine Below.drew ?_ | refine Below.alloc ?_ (by first | omega | (simp; done) | (simp; omega)) _ | refine Below.setCell ?_ (by first | omega | (simp; done) | (simp; omega)) _ | refine Below.trans ?_ (Below.mono (by assumption) (by first | omega | (simp; done) | (simp; omega)))))⟩
        case measure => simp [intOf]; omega
      · rw [if_neg h4] at hH
        have HN := Lib.hid hH
        have b4 : (l[k].op == 4) = false := by simpa using h4
        clear hH h4
        go_wp2_with (fail)
        go_roundw
        case rel => exact ⟨k + 1, _, by omega, by go_num, rfl, hm, HN.out, (by repeat (first | exact Below.refl _ _ | refine Below.drew ?_ | refine Below.alloc ?_ (by first | omega | (simp; done) | (simp; omega)) _ | refine Below.setCell ?_ (by first | omega | (simp; done) | (simp; omega)) _ | refine Below.trans ?_ (Below.mono (by assumption) (by first | omega | (simp; done) | (simp; omega)))))⟩
        case measure => simp [intOf]; omega
    · have hH := H.out
      rw [List.drop_of_length_le (by omega)] at hH
      have HN := Lib.hid hH
      clear hH H H0
      go_wp2_with (fail)
      go_ret
      exact RetV.int (by rw [← HN.out]; rfl) (S1.out.trans (hbl.mono hz1))
set_option maxHeartbeats 1000000 in
theorem c_Fields (l : List Node) (b : Nat) (A : Option Addr) (c : Nat) (w : World) (h : InN w A c l) (h0 : w.cell? ⟨b, 0, none⟩ = some (.slice A l.length c)) :
    Calls Try.prog 28 #[.pointer (some ⟨b, 0, none⟩)] w (RetV w (.int .u32 (maskL l 0 : Nat))) := by
  have hS := h.2.2.1
  have CN := Lib.hid (c_Nodes l b A c w h h0)
  have H0 : Hid (maskL (l.drop 0) 0 = maskL l 0) := rfl
  clear h h0
  go_enter Try.func28, Try.ntmps28
  go_wp2_with (go_at_call 30; refine CN.out.mono ?_; rintro e w1 ⟨v, rfl, own1, hb1⟩; obtain ⟨A1, c1, rfl, hI⟩ := In.of_own Node.cells_len own1 hS)
  have hL1 := hI.1
  have hC1 := hI.2.1
  have hz1 := hb1.size
  have HI := Lib.hid hI
  have S1 := Lib.hid hb1
  clear own1 hb1 hI
  go_loopw [3, 9] (fun m i wr => ∃ (k m' : Nat), k ≤ l.length ∧ i = .int .i64 k ∧ m = .int .u32 m' ∧ m' < 4294967296 ∧ Hid (maskL (l.drop k) m' = maskL l 0) ∧ Below w1.heap.size w1 wr) (fun _ i _ => l.length - (intOf i).toNat)
  case atStart => exact ⟨0, 0, by omega, rfl, rfl, by omega, H0, Below.refl _ _⟩
  case round =>
    obtain ⟨k, m', hk, rfl, rfl, hm, H, hbl⟩ := hrel
    have hbz := hbl.size
    by_cases hlt : k < l.length
    · obtain ⟨g, off, rfl, hg, hrow⟩ := HI.out.at hlt
      obtain ⟨e0, e1, e2, e3, e4⟩ := (hrow.below hbl hg).node hlt rfl
      have hH := H.out
      rw [maskL_at l k hlt] at hH
      clear H H0 hrow
      by_cases h3 : l[k].op = 3
      · rw [if_pos h3] at hH
        have HN := Lib.hid hH
        have ho : bits .or .u32 (m' : Int) 256 = ((m' ||| 256 : Nat) : Int) := or_u32 m' 256 hm (by decide)
        have b3 : (l[k].op == 3) = true := by simpa using h3
        clear hH h3
        go_wp2_with (fail)
        go_roundw
        case rel => exact ⟨k + 1, _, by omega, by go_num, rfl, or_lt hm (by decide), HN.out, (by repeat (first | exact Below.refl _ _ | refine Below.drew ?_ | refine Below.alloc ?_ (by first | omega | (simp; done) | (simp; omega)) _ | refine Below.setCell ?_ (by first | omega | (simp; done) | (simp; omega)) _ | refine Below.trans ?_ (Below.mono (by assumption) (by first | omega | (simp; done) | (simp; omega)))))⟩
        case measure => simp [intOf]; omega
      · rw [if_neg h3] at hH
        have b3 : (l[k].op == 3) = false := by simpa using h3
        clear h3
        by_cases h5 : 5 ≤ l[k].op ∧ l[k].op ≤ 9
        · rw [if_pos h5] at hH
          have HN := Lib.hid hH
          have hc : ((l[k].op == 5) = true) ∨ ((l[k].op == 5) = false ∧ (l[k].op == 6) = true) ∨ ((l[k].op == 5) = false ∧ (l[k].op == 6) = false ∧ (l[k].op == 7) = true) ∨ ((l[k].op == 5) = false ∧ (l[k].op == 6) = false ∧ (l[k].op == 7) = false ∧ (l[k].op == 8) = true) ∨
              ((l[k].op == 5) = false ∧ (l[k].op == 6) = false ∧ (l[k].op == 7) = false ∧ (l[k].op == 8) = false ∧ (l[k].op == 9) = true) := by
            simp only [beq_iff_eq, beq_eq_false_iff_ne]; omega
          clear hH h5
          rcases hc with b5 | ⟨b5, b6⟩ | ⟨b5, b6, b7⟩ | ⟨b5, b6, b7, b8⟩ | ⟨b5, b6, b7, b8, b9⟩
          all_goals (
            go_wp2_with (go_at_call 67; refine (c_bits_With _ _ hm _).mono ?_; rintro e w3 ⟨rfl, hb3⟩)
            go_roundw
            case rel => exact ⟨k + 1, _, by omega, by go_num, rfl, or_lt hm (bitN_lt _), HN.out, (by repeat (first | exact Below.refl _ _ | refine Below.drew ?_ | refine Below.alloc ?_ (by first | omega | (simp; done) | (simp; omega)) _ | refine Below.setCell ?_ (by first | omega | (simp; done) | (simp; omega)) _ | refine Below.trans ?_ (Below.mono (by assumption) (by first | omega | (simp; done) | (simp; omega)))))⟩
            case measure => simp [intOf]; omega)
        · rw [if_neg h5] at hH
          have HN := Lib.hid hH
          have b5 : (l[k].op == 5) = false := by rw [beq_eq_false_iff_ne]; omega
          have b6 : (l[k].op == 6) = false := by rw [beq_eq_false_iff_ne]; omega
          have b7 : (l[k].op == 7) = false := by rw [beq_eq_false_iff_ne]; omega
          have b8 : (l[k].op == 8) = false := by rw [beq_eq_false_iff_ne]; omega
          have b9 : (l[k].op == 9) = false := by rw [beq_eq_false_iff_ne]; omega
          clear hH h5
          go_wp2_with (fail)
          go_roundw
          case rel => exact ⟨k + 1, _, by omega, by go_num, rfl, hm, HN.out, (by repeat (first | exact Below.refl _ _ | refine Below.drew ?_ | refine Below.alloc ?_ (by first | omega | (simp; done) | (simp; omega)) _ | refine Below.setCell ?_ (by first | omega | (simp; done) | (simp; omega)) _ | refine Below.trans ?_ (Below.mono (by assumption) (by first | omega | (simp; done) | (simp; omega)))))⟩
          case measure => simp [intOf]; omega
    · have hH := H.out
      rw [List.drop_of_length_le (by omega)] at hH
      have HN := Lib.hid hH
      clear hH H H0
      go_wp2_with (fail)
      go_ret
      exact RetV.int (by rw [← HN.out]; rfl) (S1.out.trans (hbl.mono hz1))
end Go.Proofs.Ytldoedmclfbgpaa
namespace Go.Proofs.Ytldoedmclfbgpaa
open Go.RowKit

def vz13 : Val := ⟨0, 0, []⟩
def card1 : Card := ⟨1, 0, 0, List.replicate 8 vz13⟩
theorem card1_arr : Card.arr card1 = #[.int .i64 1, .int .i64 0, .int .u32 0, .int .i64 0, .int .i64 0, .string (str []), .int .i64 0, .int .i64 0, .string (str []), .int .i64 0, .int .i64 0, .string (str []), .int .i64 0, .int .i64 0, .string (str []), .int .i64 0, .int .i64 0, .string (str []), .int .i64 0, .int .i64 0, .string (str []), .int .i64 0, .int .i64 0, .string (str []), .int .i64 0, .int .i64 0, .string (str [])] := by
  unfold Card.arr; rfl
theorem card1_short : shortC card1 := ⟨rfl, by decide, fun x hx => by rw [List.eq_of_mem_replicate hx]; decide⟩
def exTr : Tr := .two ⟨12, 0, vz13⟩ (.leaf ⟨3, 1, vz13⟩) (.leaf ⟨4, 2, vz13⟩)
theorem exTr_wf : exTr.wf := ⟨.inr rfl, by show parts 3 = 0; decide, by show parts 4 = 0; decide⟩
theorem exTr_check : check exTr.flat = 0 := by decide
theorem exTr_ok : ∀ x ∈ exTr.flat, x.ok = true := by decide
theorem exTr_mat4 : exTr.mat card1 4 = true := by decide
theorem exTr_mat2 : exTr.mat card1 2 = false := by decide
set_option maxHeartbeats 1000000 in
theorem c_law13_awake (w : World) (hM : MaxV w) : Calls Try.prog 17 #[] w (RetV w (.bool true)) := by
  have i1 := InN.lit w exTr.flat 94 3 rfl (by decide)
  have HM := Lib.hid (fun w' (hb : Below w.heap.size w w') => hM.below hb)
  obtain ⟨w1, hw1⟩ : ∃ w1, w1 = w.alloc (.cells (exTr.flat.flatMap Node.cells).toArray 94) := ⟨_, rfl⟩
  have b1 : Below w.heap.size w w1 := by rw [hw1]; exact (by repeat (first | exact Below.refl _ _ | refine Below.drew ?_ | refine Below.alloc ?_ (by first | omega | (simp; done) | (simp; omega)) _ | refine Below.setCell ?_ (by first | omega | (simp; done) | (simp; omega)) _ | refine Below.trans ?_ (Below.mono (by assumption) (by first | omega | (simp; done) | (simp; omega)))))
  rw [← hw1] at i1
  have CN := Lib.hid (c_New exTr (some ⟨w.heap.size, 0, none⟩) 3 w1 i1 (by decide) exTr_check (hM.below b1))
  have S1 := Lib.hid b1
  have hw2 : w1 = w.alloc (.cells #[.int .i64 12, .int .i64 0, .int .i64 0, .int .i64 0, .string (str []), .int .i64 3, .int .i64 1, .int .i64 0, .int .i64 0, .string (str []), .int .i64 4, .int .i64 2, .int .i64 0, .int .i64 0, .string (str [])] 94) := hw1
  have M4 := Lib.hid (fun w b h hM => c_Match_first exTr exTr_wf exTr_ok b card1 4 card1_short (by decide) w hM h)
  have M2 := Lib.hid (fun w b h hM => c_Match_again exTr b card1 2 card1_short (by decide) w hM h)
  rw [card1_arr, exTr_mat4] at M4
  rw [card1_arr, exTr_mat2] at M2
  clear hM hw1 i1 b1
  go_enter Try.func17, Try.ntmps17
  go_wp2_with (rw [← hw2]; clear hw2)
  refine CN.out.mono ?_
  rintro e w2 ⟨b, rfl, hb2, hbw, FN⟩
  have s1 := S1.out.size
  have s2 := hb2.size
  have S2 := Lib.hid (S1.out.trans (hb2.mono s1))
  clear hb2
  go_wp2_with (fail)
  refine (M4.out w2 b FN (HM.out _ S2.out)).mono ?_
  rintro e w3 ⟨rfl, K3, FD⟩
  have S3 := Lib.hid (S2.out.trans (K3.oneB (by omega) (by omega)))
  clear K3
  go_wp2_with (fail)
  refine (M2.out w3 b FD (HM.out _ S3.out)).mono ?_
  rintro e w4 ⟨rfl, hb4⟩
  go_wp2_with (fail)
  go_ret
  exact RetV.bool rfl (S3.out.trans (hb4.mono S3.out.size))
end Go.Proofs.Ytldoedmclfbgpaa
namespace Go.Proofs.Ytldoedmclfbgpaa
open Go.RowKit

theorem Flt.nodes {w : World} {b : Nat} {t : Tr} (h : FltN w b t ∨ FltD w b t) : ∃ A c, w.cell? ⟨b, 0, none⟩ = some (.slice A t.flat.length c) ∧ InN w A c t.flat := by
  rcases h with ⟨A, c, h1, h2, -⟩ | ⟨A, c, f, k, B, E, h1, h2, -⟩
  · exact ⟨A, c, h1.cell rfl, h2.1⟩
  · exact ⟨A, c, h1.cell rfl, h2.1⟩
theorem Flt.below {w w' : World} {b : Nat} {t : Tr} (h : FltN w b t ∨ FltD w b t) (k : Below w.heap.size w w') : FltN w' b t ∨ FltD w' b t := h.imp (·.below k) (·.below k)
theorem c_Match (t : Tr) (hw : t.wf) (hok : ∀ x ∈ t.flat, x.ok = true) (b : Nat) (c : Card) (g : Nat) (hc : shortC c) (hg : g < 4294967296) (w : World) (hM : MaxV w) (h : FltN w b t ∨ FltD w b t) :
    Calls Try.prog 20 #[.pointer (some ⟨b, 0, none⟩), .agg c.arr, .int .u32 g] w (RetF w b t (t.mat c g)) := by
  rcases h with h | h
  · exact c_Match_first t hw hok b c g hc hg w hM h
  · exact (c_Match_again t b c g hc hg w hM h).mono fun e w' ⟨he, hb⟩ => ⟨he, Kept.of_below hb, h.below hb⟩
/-- While a filter is asked for all that it tells. -/
structure EvM (w0 : World) (b : Nat) (t : Tr) (l : List Node) (L : Nat → Bool) (u : Nat → Value) (w1 : World) : Prop where
  K : Kept (some b) w0.heap.size w0 w1
  F : FltN w1 b t ∨ FltD w1 b t
  n1 : L 1 = true → ∃ A c, u 1 = .slice A l.length c ∧ InF w1 b A c l
section
variable {w0 w1 w2 : World} {b j : Nat} {t : Tr} {l : List Node} {L : Nat → Bool} {u : Nat → Value} {v : Value}
theorem EvM.below (h : EvM w0 b t l L u w1) (h1 : j ≠ 1) (hb : Below w1.heap.size w1 w2) : EvM w0 b t l (upd L j true) (upd u j v) w2 :=
  ⟨h.K.then_below hb h.K.size, Flt.below h.F hb, by rw [upd_other _ _ (Ne.symm h1), upd_other _ _ (Ne.symm h1)]; intro e; obtain ⟨A, c, e1, e2⟩ := h.n1 e; exact ⟨A, c, e1, e2.below hb⟩⟩
theorem EvM.pure (h : EvM w0 b t l L u w1) (h1 : j ≠ 1) : EvM w0 b t l (upd L j true) (upd u j v) w1 := h.below h1 (Below.refl _ _)
theorem EvM.nodes (h : EvM w0 b t l L u w1) {A : Option Addr} {c : Nat} (hb : Below w1.heap.size w1 w2) (hi : InF w2 b A c l) : EvM w0 b t l (upd L 1 true) (upd u 1 (.slice A l.length c)) w2 :=
  ⟨h.K.then_below hb h.K.size, Flt.below h.F hb, fun _ => ⟨A, c, upd_same .., hi⟩⟩
theorem EvM.asked (h : EvM w0 b t l L u w1) (h1 : j ≠ 1) (hk : Kept (some b) w1.heap.size w1 w2) (hf : FltD w2 b t) : EvM w0 b t l (upd L j true) (upd u j v) w2 :=
  ⟨h.K.then_kept hk h.K.size, .inr hf, by rw [upd_other _ _ (Ne.symm h1), upd_other _ _ (Ne.symm h1)]; intro e; obtain ⟨A, c, e1, e2⟩ := h.n1 e; exact ⟨A, c, e1, e2.kept hk e2.2⟩⟩
end
theorem MaxV.kept {w w' : World} {q : Nat} (h : MaxV w) (k : Kept (some q) w.heap.size w w') (hq : 0 ≠ q) : MaxV w' := by
  obtain ⟨m, hm⟩ := h
  exact ⟨m, (k.cell (q := ⟨_, 0, none⟩) (World.block_lt_of_cell? w _ hm) (fun e => by injection e with e; exact hq e.symm)).trans hm⟩
end Go.Proofs.Ytldoedmclfbgpaa
namespace Go.Proofs.Ytldoedmclfbgpaa
open Go.RowKit

/-- The fields up to k: of f, where the mask has them, else of g. -/
def sel (m : Nat) (f g : List Val) : Nat → List Val
  | 0 => g
  | k + 1 => if m.testBit k then (sel m f g k).set k (f.getD k vz13) else sel m f g k
theorem sel_len (m : Nat) (f g : List Val) : ∀ k, (sel m f g k).length = g.length
  | 0 => rfl
  | k + 1 => by
    unfold sel
    split
    · rw [List.length_set, sel_len m f g k]
    · exact sel_len m f g k
theorem sel_yes {m : Nat} {f g : List Val} {k : Nat} (h : m.testBit k = true) (hk : k < f.length) : sel m f g (k + 1) = (sel m f g k).set k f[k] := by
  show (if m.testBit k then _ else _) = _
  rw [if_pos h, List.getD_eq_getElem?_getD, List.getElem?_eq_getElem hk]; rfl
theorem sel_no {m : Nat} {f g : List Val} {k : Nat} (h : m.testBit k = false) : sel m f g (k + 1) = sel m f g k := by
  show (if m.testBit k then _ else _) = _
  rw [if_neg (by rw [h]; simp)]
theorem sel_get (m : Nat) (f g : List Val) (v : Val) (i : Nat) (hi : i < g.length) : ∀ k, (sel m f g k).getD i v = if i < k ∧ m.testBit i = true then f.getD i vz13 else g.getD i v
  | 0 => by simp [sel]
  | k + 1 => by
    have ih := sel_get m f g v i hi k
    unfold sel
    by_cases hb : m.testBit k = true
    · rw [if_pos hb]
      by_cases he : i = k
      · subst he
        rw [if_pos ⟨by omega, hb⟩, List.getD_eq_getElem?_getD, List.getElem?_set_self (by rw [sel_len]; exact hi)]; rfl
      · rw [List.getD_eq_getElem?_getD, List.getElem?_set_ne (fun e => he e.symm), ← List.getD_eq_getElem?_getD, ih]
        by_cases h2 : i < k ∧ m.testBit i = true
        · rw [if_pos h2, if_pos ⟨by omega, h2.2⟩]
        · rw [if_neg h2, if_neg (fun h => h2 ⟨by omega, h.2⟩)]
    · rw [if_neg hb, ih]
      by_cases h2 : i < k ∧ m.testBit i = true
      · rw [if_pos h2, if_pos ⟨by omega, h2.2⟩]
      · rw [if_neg h2, if_neg (fun h => h2 ⟨by
          by_cases he : i = k
          · subst he; exact absurd h.2 hb
          · omega, h.2⟩)]
def z8 : List Val := List.replicate 8 vz13
def project (c : Card) (m : Nat) : Card := ⟨c.id, c.ver, if m.testBit 8 then c.lab else 0, sel m c.f z8 8⟩
def ofC (c : Card) (m : Nat) : Patch := ⟨m, (project c m).lab, (project c m).f⟩
def mergeC (c : Card) (p : Patch) : Card := ⟨c.id, min c.ver 1099511627775 + 1, if p.mask.testBit 8 then p.lab else c.lab, sel p.mask p.f c.f 8⟩
theorem zcard_arr (a b : Int) : Card.arr ⟨a, b, 0, z8⟩ = #[.int .i64 a, .int .i64 b, .int .u32 0, .int .i64 0, .int .i64 0, .string (str []), .int .i64 0, .int .i64 0, .string (str []), .int .i64 0, .int .i64 0, .string (str []), .int .i64 0, .int .i64 0, .string (str []), .int .i64 0, .int .i64 0, .string (str []), .int .i64 0, .int .i64 0, .string (str []), .int .i64 0, .int .i64 0, .string (str []), .int .i64 0, .int .i64 0, .string (str [])] := by
  unfold Card.arr; rfl
/-- A card's fields in the making: the card in its box, the result's block, the card that is made. -/
structure PjAt (w : World) (N : Nat) (C : Array Value) (r d : Nat) (a b : Int) (l : Nat) (f : List Val) (wr : World) : Prop where
  S : Below N w wr
  C : Blk wr N C
  R : ∃ cs, cs.size = 27 ∧ Blk wr r cs
  D : Blk wr d (Card.arr ⟨a, b, l, f⟩)
  lr : N < r
  ld : r < d
section
variable {w wr w2 : World} {N r d : Nat} {C : Array Value} {a b : Int} {l : Nat} {f : List Val}
theorem PjAt.below (h : PjAt w N C r d a b l f wr) (hb : Below wr.heap.size wr w2) : PjAt w N C r d a b l f w2 := by
  obtain ⟨cs, h1, h2⟩ := h.R
  exact ⟨h.S.trans (hb.mono (by have := h.C.lt; omega)), h.C.below hb h.C.lt, ⟨cs, h1, h2.below hb h2.lt⟩, h.D.below hb h.D.lt, h.lr, h.ld⟩
theorem PjAt.put {l' : Nat} {b' : Int} {f' : List Val} (h : PjAt w N C r d a b l f wr) (hk : Kept (some d) wr.heap.size wr w2) (hB : Blk w2 d (Card.arr ⟨a, b', l', f'⟩)) : PjAt w N C r d a b' l' f' w2 := by
  obtain ⟨cs, h1, h2⟩ := h.R
  have hl := h.lr
  have hd := h.ld
  exact ⟨h.S.trans (hk.oneB (by have := h.C.lt; omega) (by omega)), h.C.kept hk h.C.lt (fun e => by injection e with e; omega), ⟨cs, h1, h2.kept hk h2.lt (fun e => by injection e with e; omega)⟩, hB, hl, hd⟩
end
theorem three_blocks (w w3 : World) (a b c : Array Value) (t1 t2 t3 : TypeId) (h : w3 = ((w.alloc (.cells a t1)).alloc (.cells b t2)).alloc (.cells c t3)) :
    Below w.heap.size w w3 ∧ Blk w3 w.heap.size a ∧ Blk w3 (w.heap.size + 1) b ∧ Blk w3 (w.heap.size + 1 + 1) c := by
  subst h
  have k1 : Below (w.heap.size + 1) (w.alloc (.cells a t1)) ((w.alloc (.cells a t1)).alloc (.cells b t2)) := (Below.refl _ _).alloc (by simp) _
  have k2 : Below (w.heap.size + 1 + 1) ((w.alloc (.cells a t1)).alloc (.cells b t2)) (((w.alloc (.cells a t1)).alloc (.cells b t2)).alloc (.cells c t3)) := (Below.refl _ _).alloc (by simp) _
  have b1 := Blk.new w t1 a
  have b2 := Blk.new (w.alloc (.cells a t1)) t2 b
  have b3 := Blk.new ((w.alloc (.cells a t1)).alloc (.cells b t2)) t3 c
  simp only [World.size_alloc] at b2 b3
  exact ⟨(by repeat (first | exact Below.refl _ _ | refine Below.drew ?_ | refine Below.alloc ?_ (by first | omega | (simp; done) | (simp; omega)) _ | refine Below.setCell ?_ (by first | omega | (simp; done) | (simp; omega)) _ | refine Below.trans ?_ (Below.mono (by assumption) (by first | omega | (simp; done) | (simp; omega))))), (b1.below k1 (by omega)).below k2 (by omega), b2.below k2 (by omega), b3⟩
set_option maxRecDepth 10000 in
set_option maxHeartbeats 2000000 in
theorem c_ref06_Project (c : Card) (h8 : c.f.length = 8) (m : Nat) (hm : m < 4294967296) (w : World) : Calls Try.prog 71 #[.agg c.arr, .int .u32 m] w (RetV w (.agg (project c m).arr)) := by
  obtain ⟨h0, h1, h2⟩ := c.arr_head
  obtain ⟨w3, hw3⟩ : ∃ w3, w3 = ((w.alloc (.cells c.arr 39)).alloc (.cells #[.int .i64 0, .int .i64 0, .int .u32 0, .int .i64 0, .int .i64 0, .string (str []), .int .i64 0, .int .i64 0, .string (str []), .int .i64 0, .int .i64 0, .string (str []), .int .i64 0, .int .i64 0, .string (str []), .int .i64 0, .int .i64 0, .string (str []), .int .i64 0, .int .i64 0, .string (str []), .int .i64 0, .int .i64 0, .string (str []), .int .i64 0, .int .i64 0, .string (str [])] 39)).alloc (.cells #[.int .i64 0, .int .i64 0, .int .u32 0, .int .i64 0, .int .i64 0, .string (str []), .int .i64 0, .int .i64 0, .string (str []), .int .i64 0, .int .i64 0, .string (str []), .int .i64 0, .int .i64 0, .string (str []), .int .i64 0, .int .i64 0, .string (str []), .int .i64 0, .int .i64 0, .string (str []), .int .i64 0, .int .i64 0, .string (str []), .int .i64 0, .int .i64 0, .string (str [])] 39) := ⟨_, rfl⟩
  obtain ⟨S3, C3, R3, D3⟩ := three_blocks w w3 _ _ _ _ _ _ hw3
  have S3 := Lib.hid S3
  have C3 := Lib.hid C3
  have R3 := Lib.hid R3
  have D3 := Lib.hid D3
  have CL := Lib.hid (c_ref05_Labels m hm)
  cases hb8 : m.testBit 8
  · have HP := Lib.hid (show project c m = ⟨c.id, c.ver, 0, sel m c.f z8 8⟩ by unfold project; rw [hb8]; rfl)
    rw [hb8] at CL
    clear hb8
    go_enter Try.func71, Try.ntmps71
    go_wp2_with (with_reducible refine stS 39 _ _ rfl rfl ?_)
    rw [← hw3]
    clear hw3
    refine Stop.mk (wsB rfl _ _ _ rfl (w.heap.size + 1 + 1) _ rfl rfl _ D3.out strC rfl rfl (by simp [Value.oneCell']) ?_)
    intro w4 hb4 hk4
    have D4 : Blk w4 (w.heap.size + 1 + 1) (Card.arr ⟨c.id, c.ver, 0, z8⟩) := by rw [zcard_arr]; exact hb4
    have I4 := Lib.hid (show PjAt w w.heap.size c.arr (w.heap.size + 1) (w.heap.size + 1 + 1) c.id c.ver 0 (sel m c.f z8 0) w4 from
      ⟨S3.out.trans (hk4.oneB (by have := C3.out.lt; omega) (by omega)), C3.out.kept hk4 C3.out.lt (fun e => by injection e with e; omega), ⟨_, rfl, R3.out.kept hk4 R3.out.lt (fun e => by injection e with e; omega)⟩, D4, by omega, by omega⟩)
    clear hb4 hk4 D4
    go_wp2_with (fail)
    refine (CL.out _).mono ?_
    rintro e w5 ⟨rfl, hb5⟩
    have I0 := Lib.hid (I4.out.below hb5)
    clear hb5
    go_wp2_with (fail)
    -- m the mask, 0 the label's value,  the fields of,  the offset,  cells of fields,  the base,  slots of the value's store
    go_loopw [6] (fun i wr => ∃ k : Nat, k ≤ 8 ∧ i = .int .i64 k ∧ PjAt w w.heap.size c.arr (w.heap.size + 1) (w.heap.size + 1 + 1) c.id c.ver (0) (sel m c.f z8 k) wr) (fun i _ => 8 - (intOf i).toNat)
    case atStart => exact ⟨0, by omega, rfl, I0.out⟩
    case round =>
      clear I0
      obtain ⟨k, hk, rfl, I⟩ := hrel
      have IH := Lib.hid I
      clear I
      by_cases hlt : k < 8
      · cases hbit : m.testBit k
        · have HB := Lib.hid hbit
          go_wp2_with (go_at_call 37; refine (c_ref03_Has m k hm (by omega) _).mono ?_; rintro e w5 ⟨rfl, hb5⟩; rw [HB.out])
          go_roundw
          case rel => exact ⟨k + 1, by omega, by go_num, by rw [sel_no HB.out]; exact IH.out.below hb5⟩
          case measure => simp [intOf]; omega
        · have HB := Lib.hid hbit
          clear hbit
          go_wp2_with (fail)
          refine (c_ref03_Has m k hm (by omega) _).mono ?_
          rintro e w5 ⟨rfl, hb5⟩
          rw [HB.out]
          have I5 := Lib.hid (IH.out.below hb5)
          clear hb5
          obtain ⟨c0, c1, c2⟩ := Card.arr_val (c := c) (k := k) (by omega)
          have q0 := I5.out.C.cell c0
          have q1 := I5.out.C.cell c1
          have q2 := I5.out.C.cell c2
          clear c0 c1 c2
          have D5 := I5.out.D
          go_wp2_with (with_reducible refine stS 36 _ _ rfl rfl ?_)
          refine Stop.mk (wpList_storeAt rfl _ _ _ rfl (w.heap.size + 1 + 1) (3 + k * 3) _ rfl rfl _ D5 strV rfl (by rw [Card.arr_size, sel_len]; simp [z8]; omega) (by simp [Value.oneCell']) ?_)
          intro w7 hb7 hk7
          rw [Card.putV (by rw [sel_len]; simp [z8]; omega) (c.f[k]'(by omega)), ← sel_yes HB.out (by omega)] at hb7
          have I7 := Lib.hid (I5.out.put hk7 hb7)
          clear hb7 hk7 D5
          go_wp2_with (fail)
          go_roundw
          case rel => exact ⟨k + 1, by omega, by go_num, I7.out⟩
          case measure => simp [intOf]; omega
      · have : k = 8 := by omega
        subst this
        have D5 := IH.out.D
        obtain ⟨cs, hcs, R5⟩ := IH.out.R
        go_wp2_with (with_reducible refine stop_load 39 _ rfl rfl ?_)
        refine Stop.mk (wpList_loadB rfl _ _ rfl (w.heap.size + 1 + 1) rfl _ D5 strC (by rw [Card.arr_size, sel_len]; rfl) ?_)
        go_wp2_with (with_reducible refine stS 39 _ _ rfl rfl ?_)
        refine Stop.mk (wsB rfl _ _ _ rfl (w.heap.size + 1) _ rfl rfl _ R5 strC (by rw [Card.arr_size, sel_len]; rfl) (by rw [Card.arr_size, sel_len, hcs]; rfl) (Card.arr_ones _) ?_)
        intro w8 hb8 hk8
        have B8 := Lib.hid hb8
        have hS := IH.out.S.trans (hk8.oneB (by have := IH.out.C.lt; omega) (by omega))
        have HS := Lib.hid hS
        clear hb8 hk8 D5 R5 hS
        go_wp2_with (fail)
        exact bodyPost_ret (results_B rfl rfl B8.out strC (by rw [Card.arr_size, sel_len]; rfl)) rfl ⟨by rw [HP.out], HS.out⟩
  · have HP := Lib.hid (show project c m = ⟨c.id, c.ver, c.lab, sel m c.f z8 8⟩ by unfold project; rw [hb8]; rfl)
    rw [hb8] at CL
    clear hb8
    go_enter Try.func71, Try.ntmps71
    go_wp2_with (with_reducible refine stS 39 _ _ rfl rfl ?_)
    rw [← hw3]
    clear hw3
    refine Stop.mk (wsB rfl _ _ _ rfl (w.heap.size + 1 + 1) _ rfl rfl _ D3.out strC rfl rfl (by simp [Value.oneCell']) ?_)
    intro w4 hb4 hk4
    have D4 : Blk w4 (w.heap.size + 1 + 1) (Card.arr ⟨c.id, c.ver, 0, z8⟩) := by rw [zcard_arr]; exact hb4
    have I4 := Lib.hid (show PjAt w w.heap.size c.arr (w.heap.size + 1) (w.heap.size + 1 + 1) c.id c.ver 0 (sel m c.f z8 0) w4 from
      ⟨S3.out.trans (hk4.oneB (by have := C3.out.lt; omega) (by omega)), C3.out.kept hk4 C3.out.lt (fun e => by injection e with e; omega), ⟨_, rfl, R3.out.kept hk4 R3.out.lt (fun e => by injection e with e; omega)⟩, D4, by omega, by omega⟩)
    clear hb4 hk4 D4
    go_wp2_with (fail)
    refine (CL.out _).mono ?_
    rintro e w5 ⟨rfl, hb5⟩
    have I5 := Lib.hid (I4.out.below hb5)
    clear hb5
    have qc := I5.out.C.cell h2
    have qd := I5.out.D.cell (show (Card.arr ⟨c.id, c.ver, 0, sel m c.f z8 0⟩)[2]? = _ from (Card.arr_head _).2.2)
    have zd := I5.out.D.frozen 2
    have I0 := Lib.hid (show PjAt w w.heap.size c.arr (w.heap.size + 1) (w.heap.size + 1 + 1) c.id c.ver c.lab (sel m c.f z8 0) (w5.setCell ⟨w.heap.size + 1 + 1, 2, none⟩ (.int .u32 c.lab)) from
      I5.out.put (kept_set _ _ _ _) (by rw [← Card.put2 (l := 0)]; exact I5.out.D.store 2 _))
    go_wp2_with (fail)
    -- m the mask, c.lab the label's value,  the fields of,  the offset,  cells of fields,  the base,  slots of the value's store
    go_loopw [6] (fun i wr => ∃ k : Nat, k ≤ 8 ∧ i = .int .i64 k ∧ PjAt w w.heap.size c.arr (w.heap.size + 1) (w.heap.size + 1 + 1) c.id c.ver (c.lab) (sel m c.f z8 k) wr) (fun i _ => 8 - (intOf i).toNat)
    case atStart => exact ⟨0, by omega, rfl, I0.out⟩
    case round =>
      clear I0
      obtain ⟨k, hk, rfl, I⟩ := hrel
      have IH := Lib.hid I
      clear I
      by_cases hlt : k < 8
      · cases hbit : m.testBit k
        · have HB := Lib.hid hbit
          go_wp2_with (go_at_call 37; refine (c_ref03_Has m k hm (by omega) _).mono ?_; rintro e w5 ⟨rfl, hb5⟩; rw [HB.out])
          go_roundw
          case rel => exact ⟨k + 1, by omega, by go_num, by rw [sel_no HB.out]; exact IH.out.below hb5⟩
          case measure => simp [intOf]; omega
        · have HB := Lib.hid hbit
          clear hbit
          go_wp2_with (fail)
          refine (c_ref03_Has m k hm (by omega) _).mono ?_
          rintro e w5 ⟨rfl, hb5⟩
          rw [HB.out]
          have I5 := Lib.hid (IH.out.below hb5)
          clear hb5
          obtain ⟨c0, c1, c2⟩ := Card.arr_val (c := c) (k := k) (by omega)
          have q0 := I5.out.C.cell c0
          have q1 := I5.out.C.cell c1
          have q2 := I5.out.C.cell c2
          clear c0 c1 c2
          have D5 := I5.out.D
          go_wp2_with (with_reducible refine stS 36 _ _ rfl rfl ?_)
          refine Stop.mk (wpList_storeAt rfl _ _ _ rfl (w.heap.size + 1 + 1) (3 + k * 3) _ rfl rfl _ D5 strV rfl (by rw [Card.arr_size, sel_len]; simp [z8]; omega) (by simp [Value.oneCell']) ?_)
          intro w7 hb7 hk7
          rw [Card.putV (by rw [sel_len]; simp [z8]; omega) (c.f[k]'(by omega)), ← sel_yes HB.out (by omega)] at hb7
          have I7 := Lib.hid (I5.out.put hk7 hb7)
          clear hb7 hk7 D5
          go_wp2_with (fail)
          go_roundw
          case rel => exact ⟨k + 1, by omega, by go_num, I7.out⟩
          case measure => simp [intOf]; omega
      · have : k = 8 := by omega
        subst this
        have D5 := IH.out.D
        obtain ⟨cs, hcs, R5⟩ := IH.out.R
        go_wp2_with (with_reducible refine stop_load 39 _ rfl rfl ?_)
        refine Stop.mk (wpList_loadB rfl _ _ rfl (w.heap.size + 1 + 1) rfl _ D5 strC (by rw [Card.arr_size, sel_len]; rfl) ?_)
        go_wp2_with (with_reducible refine stS 39 _ _ rfl rfl ?_)
        refine Stop.mk (wsB rfl _ _ _ rfl (w.heap.size + 1) _ rfl rfl _ R5 strC (by rw [Card.arr_size, sel_len]; rfl) (by rw [Card.arr_size, sel_len, hcs]; rfl) (Card.arr_ones _) ?_)
        intro w8 hb8 hk8
        have B8 := Lib.hid hb8
        have hS := IH.out.S.trans (hk8.oneB (by have := IH.out.C.lt; omega) (by omega))
        have HS := Lib.hid hS
        clear hb8 hk8 D5 R5 hS
        go_wp2_with (fail)
        exact bodyPost_ret (results_B rfl rfl B8.out strC (by rw [Card.arr_size, sel_len]; rfl)) rfl ⟨by rw [HP.out], HS.out⟩
end Go.Proofs.Ytldoedmclfbgpaa
namespace Go.Proofs.Ytldoedmclfbgpaa
open Go.RowKit

theorem zpatch_arr : Patch.arr ⟨0, 0, z8⟩ = #[.int .u32 0, .int .u32 0, .int .i64 0, .int .i64 0, .string (str []), .int .i64 0, .int .i64 0, .string (str []), .int .i64 0, .int .i64 0, .string (str []), .int .i64 0, .int .i64 0, .string (str []), .int .i64 0, .int .i64 0, .string (str []), .int .i64 0, .int .i64 0, .string (str []), .int .i64 0, .int .i64 0, .string (str []), .int .i64 0, .int .i64 0, .string (str [])] := by unfold Patch.arr; rfl
theorem built_patchz (ps : List (Nat × Value)) : Try.prog.built 71 ps = Instr.fill ((#[(0, 1), (1, 1), (2, 24)] : Array (Nat × Nat))[·]?) #[.int .u32 0, .int .u32 0, .int .i64 0, .int .i64 0, .string (str []), .int .i64 0, .int .i64 0, .string (str []), .int .i64 0, .int .i64 0, .string (str []), .int .i64 0, .int .i64 0, .string (str []), .int .i64 0, .int .i64 0, .string (str []), .int .i64 0, .int .i64 0, .string (str []), .int .i64 0, .int .i64 0, .string (str []), .int .i64 0, .int .i64 0, .string (str [])] ps := by kernel_rfl
theorem built_patch (m lab : Nat) (f : List Val) (h8 : f.length = 8) : Try.prog.built 71 [(0, .int .u32 m), (1, .int .u32 lab), (2, .agg (farr f))] = some (Patch.arr ⟨m, lab, f⟩) := by
  rw [built_patchz, ← zpatch_arr, fill_one _ _ 0 0 _ _ rfl rfl (by rw [Patch.arr_size]; simp [z8]), Patch.put0, fill_one _ _ 1 1 _ _ rfl rfl (by rw [Patch.arr_size]; simp [z8]), Patch.put1,
    fill_agg _ _ 2 2 24 _ _ rfl (by rw [farr_size, h8]) (by rw [Patch.arr_size]; simp [z8]), Patch.putF (by rw [h8]; rfl)]
  rfl
theorem two_blocks (w w3 : World) (a b : Array Value) (t1 t2 : TypeId) (h : w3 = (w.alloc (.cells a t1)).alloc (.cells b t2)) :
    Below w.heap.size w w3 ∧ Blk w3 w.heap.size a ∧ Blk w3 (w.heap.size + 1) b := by
  subst h
  have k1 : Below (w.heap.size + 1) (w.alloc (.cells a t1)) ((w.alloc (.cells a t1)).alloc (.cells b t2)) := (Below.refl _ _).alloc (by simp) _
  have b1 := Blk.new w t1 a
  have b2 := Blk.new (w.alloc (.cells a t1)) t2 b
  simp only [World.size_alloc] at b2
  exact ⟨(by repeat (first | exact Below.refl _ _ | refine Below.drew ?_ | refine Below.alloc ?_ (by first | omega | (simp; done) | (simp; omega)) _ | refine Below.setCell ?_ (by first | omega | (simp; done) | (simp; omega)) _ | refine Below.trans ?_ (Below.mono (by assumption) (by first | omega | (simp; done) | (simp; omega))))), b1.below k1 (by omega), b2⟩
theorem project_len (c : Card) (m : Nat) : (project c m).f.length = 8 := by show (sel _ _ _ _).length = 8; rw [sel_len]; rfl
set_option maxRecDepth 10000 in
set_option maxHeartbeats 2000000 in
theorem c_ref06_Of (c : Card) (h8 : c.f.length = 8) (m : Nat) (hm : m < 4294967296) (w : World) : Calls Try.prog 35 #[.agg c.arr, .int .u32 m] w (RetV w (.agg (ofC c m).arr)) := by
  obtain ⟨w2, hw2⟩ : ∃ w2, w2 = (w.alloc (.cells c.arr 39)).alloc (.cells #[.int .u32 0, .int .u32 0, .int .i64 0, .int .i64 0, .string (str []), .int .i64 0, .int .i64 0, .string (str []), .int .i64 0, .int .i64 0, .string (str []), .int .i64 0, .int .i64 0, .string (str []), .int .i64 0, .int .i64 0, .string (str []), .int .i64 0, .int .i64 0, .string (str []), .int .i64 0, .int .i64 0, .string (str []), .int .i64 0, .int .i64 0, .string (str [])] 71) := ⟨_, rfl⟩
  obtain ⟨S2, C2, R2⟩ := two_blocks w w2 _ _ _ _ hw2
  have S2 := Lib.hid S2
  have C2 := Lib.hid C2
  have R2 := Lib.hid R2
  have hl := project_len c m
  obtain ⟨d, hd⟩ : ∃ d, d = project c m := ⟨_, rfl⟩
  have HP := Lib.hid (show ofC c m = ⟨m, d.lab, d.f⟩ by rw [hd]; rfl)
  have CP := Lib.hid (fun w => c_ref06_Project c h8 m hm w)
  rw [← hd] at CP hl
  clear hd
  go_enter Try.func35, Try.ntmps35
  go_wp2_with (with_reducible refine stop_load 39 _ rfl rfl ?_)
  rw [← hw2]
  clear hw2
  refine Stop.mk (wpList_loadB rfl _ _ rfl w.heap.size rfl _ C2.out strC (by rw [Card.arr_size, h8]) ?_)
  go_wp2_with (fail)
  refine (CP.out _).mono ?_
  rintro e w3 ⟨rfl, hb3⟩
  have s2 := S2.out.size
  have s3 := hb3.size
  have S3 := Lib.hid (S2.out.trans (hb3.mono s2))
  have R3 := Lib.hid (R2.out.below hb3 R2.out.lt)
  have r3 := R3.out.lt
  clear hb3
  obtain ⟨w4, hw4⟩ : ∃ w4, w4 = w3.alloc (.cells #[.int .i64 0, .int .i64 0, .int .u32 0, .int .i64 0, .int .i64 0, .string (str []), .int .i64 0, .int .i64 0, .string (str []), .int .i64 0, .int .i64 0, .string (str []), .int .i64 0, .int .i64 0, .string (str []), .int .i64 0, .int .i64 0, .string (str []), .int .i64 0, .int .i64 0, .string (str []), .int .i64 0, .int .i64 0, .string (str []), .int .i64 0, .int .i64 0, .string (str [])] 39) := ⟨_, rfl⟩
  have b4 : Below w3.heap.size w3 w4 := by rw [hw4]; exact (by repeat (first | exact Below.refl _ _ | refine Below.drew ?_ | refine Below.alloc ?_ (by first | omega | (simp; done) | (simp; omega)) _ | refine Below.setCell ?_ (by first | omega | (simp; done) | (simp; omega)) _ | refine Below.trans ?_ (Below.mono (by assumption) (by first | omega | (simp; done) | (simp; omega)))))
  have D4 := Lib.hid (show Blk w4 w3.heap.size #[.int .i64 0, .int .i64 0, .int .u32 0, .int .i64 0, .int .i64 0, .string (str []), .int .i64 0, .int .i64 0, .string (str []), .int .i64 0, .int .i64 0, .string (str []), .int .i64 0, .int .i64 0, .string (str []), .int .i64 0, .int .i64 0, .string (str []), .int .i64 0, .int .i64 0, .string (str []), .int .i64 0, .int .i64 0, .string (str []), .int .i64 0, .int .i64 0, .string (str [])] by rw [hw4]; exact Blk.new w3 _ _)
  have S4 := Lib.hid (S3.out.trans (b4.mono (by omega)))
  have R4 := Lib.hid (R3.out.below b4 r3)
  clear b4
  go_wp2_with (with_reducible refine stS 39 _ _ rfl rfl ?_)
  rw [← hw4]
  clear hw4
  refine Stop.mk (wsB rfl _ _ _ rfl w3.heap.size _ rfl rfl _ D4.out strC (by rw [Card.arr_size, hl]) (by rw [Card.arr_size, hl]; rfl) (Card.arr_ones _) ?_)
  intro w5 hb5 hk5
  have B5 := Lib.hid hb5
  have S5 := Lib.hid (S4.out.trans (hk5.oneB (by have := S4.out.size; omega) (by omega)))
  have R5 := Lib.hid (R4.out.kept hk5 R4.out.lt (fun e => by injection e with e; omega))
  have q2 := hb5.cell d.arr_head.2.2
  clear hb5 hk5
  go_wp2_with (with_reducible refine stop_load 37 _ rfl rfl ?_)
  refine Stop.mk (wpList_loadAt rfl _ _ rfl w3.heap.size 3 rfl (farr d.f) (fun j u hu => B5.out.cell (by rw [Card.arr_tail]; exact hu)) strF (by rw [farr_size, hl]) ?_)
  go_wp2_with (with_reducible refine stop_build 71 _ rfl ?_)
  refine Stop.mk (wpList_buildD rfl _ _ rfl _ rfl _ (built_patch m d.lab d.f hl) ?_)
  go_wp2_with (with_reducible refine stS 71 _ _ rfl rfl ?_)
  refine Stop.mk (wsB rfl _ _ _ rfl (w.heap.size + 1) _ rfl rfl _ R5.out strP (by rw [Patch.arr_size, hl]) (by rw [Patch.arr_size, hl]; rfl) (Patch.arr_ones _) ?_)
  intro w6 hb6 hk6
  have B6 := Lib.hid hb6
  have S6 := Lib.hid (S5.out.trans (hk6.oneB (by have := S5.out.size; omega) (by omega)))
  clear hb6 hk6 q2
  go_wp2_with (fail)
  exact bodyPost_ret (results_B rfl rfl B6.out strP (by rw [Patch.arr_size, hl])) rfl ⟨by rw [HP.out], S6.out⟩
set_option maxRecDepth 10000 in
set_option maxHeartbeats 2000000 in
theorem c_ref06_Merge (c : Card) (p : Patch) (h8 : c.f.length = 8) (hp8 : p.f.length = 8) (hv : -9223372036854775808 ≤ c.ver ∧ c.ver ≤ 9223372036854775807) (hm : p.mask < 4294967296) (w : World) : Calls Try.prog 34 #[.agg c.arr, .agg p.arr] w (RetV w (.agg (mergeC c p).arr)) := by
  obtain ⟨hv0, hv1⟩ := hv
  obtain ⟨h0, h1, h2⟩ := c.arr_head
  have hp0 := p.arr_head.1
  have hp1 := p.arr_head.2
  obtain ⟨w1, hw1⟩ : ∃ w1, w1 = w.alloc (.cells c.arr 39) := ⟨_, rfl⟩
  have b1 : Below w.heap.size w w1 := by rw [hw1]; exact (by repeat (first | exact Below.refl _ _ | refine Below.drew ?_ | refine Below.alloc ?_ (by first | omega | (simp; done) | (simp; omega)) _ | refine Below.setCell ?_ (by first | omega | (simp; done) | (simp; omega)) _ | refine Below.trans ?_ (Below.mono (by assumption) (by first | omega | (simp; done) | (simp; omega)))))
  have z1 : w1.heap.size = w.heap.size + 1 := by rw [hw1]; simp
  have A1 : Blk w1 w.heap.size c.arr := by rw [hw1]; exact Blk.new w _ _
  obtain ⟨w4, hw4⟩ : ∃ w4, w4 = ((w1.alloc (.cells p.arr 71)).alloc (.cells #[.int .i64 0, .int .i64 0, .int .u32 0, .int .i64 0, .int .i64 0, .string (str []), .int .i64 0, .int .i64 0, .string (str []), .int .i64 0, .int .i64 0, .string (str []), .int .i64 0, .int .i64 0, .string (str []), .int .i64 0, .int .i64 0, .string (str []), .int .i64 0, .int .i64 0, .string (str []), .int .i64 0, .int .i64 0, .string (str []), .int .i64 0, .int .i64 0, .string (str [])] 39)).alloc (.cells #[.int .i64 0, .int .i64 0, .int .u32 0, .int .i64 0, .int .i64 0, .string (str []), .int .i64 0, .int .i64 0, .string (str []), .int .i64 0, .int .i64 0, .string (str []), .int .i64 0, .int .i64 0, .string (str []), .int .i64 0, .int .i64 0, .string (str []), .int .i64 0, .int .i64 0, .string (str []), .int .i64 0, .int .i64 0, .string (str []), .int .i64 0, .int .i64 0, .string (str [])] 39) := ⟨_, rfl⟩
  obtain ⟨w3, hw3⟩ : ∃ w3, w3 = (w1.alloc (.cells p.arr 71)).alloc (.cells #[.int .i64 0, .int .i64 0, .int .u32 0, .int .i64 0, .int .i64 0, .string (str []), .int .i64 0, .int .i64 0, .string (str []), .int .i64 0, .int .i64 0, .string (str []), .int .i64 0, .int .i64 0, .string (str []), .int .i64 0, .int .i64 0, .string (str []), .int .i64 0, .int .i64 0, .string (str []), .int .i64 0, .int .i64 0, .string (str []), .int .i64 0, .int .i64 0, .string (str [])] 39) := ⟨_, rfl⟩
  obtain ⟨S4, C4, R4, D4⟩ := three_blocks w1 w4 _ _ _ _ _ _ hw4
  obtain ⟨S3, -, -⟩ := two_blocks w1 w3 _ _ _ _ hw3
  rw [z1] at S4 C4 R4 D4
  rw [hw1] at hw3 hw4
  have A3 := Lib.hid (A1.below S3 (by omega))
  have A4 := Lib.hid (A1.below S4 (by omega))
  have S1 := Lib.hid b1
  have S4 := Lib.hid S4
  have C4 := Lib.hid C4
  have R4 := Lib.hid R4
  have D4 := Lib.hid D4
  have CL := Lib.hid (c_ref05_Labels p.mask hm)
  clear A1 b1 S3 hw1
  cases hb8 : p.mask.testBit 8
  · have HP := Lib.hid (show mergeC c p = ⟨c.id, min c.ver 1099511627775 + 1, c.lab, sel p.mask p.f c.f 8⟩ by unfold mergeC; rw [hb8]; rfl)
    rw [hb8] at CL
    clear hb8
    go_enter Try.func34, Try.ntmps34
    go_wp2_with (with_reducible refine stop_load 39 _ rfl rfl ?_)
    rw [← hw3]
    refine Stop.mk (wpList_loadB rfl _ _ rfl w.heap.size rfl _ A3.out strC (by rw [Card.arr_size, h8]) ?_)
    rw [hw3]
    clear hw3
    go_wp2_with (with_reducible refine stS 39 _ _ rfl rfl ?_)
    rw [← hw4]
    clear hw4
    refine Stop.mk (wsB rfl _ _ _ rfl (w.heap.size + 1 + 1 + 1) _ rfl rfl _ D4.out strC (by rw [Card.arr_size, h8]) (by rw [Card.arr_size, h8]; rfl) (Card.arr_ones _) ?_)
    intro w5 hb5 hk5
    have I5 := Lib.hid (show PjAt w1 (w.heap.size + 1) p.arr (w.heap.size + 1 + 1) (w.heap.size + 1 + 1 + 1) c.id c.ver c.lab (sel p.mask p.f c.f 0) w5 from
      ⟨S4.out.trans (hk5.oneB (by have := C4.out.lt; omega) (by omega)), C4.out.kept hk5 C4.out.lt (fun e => by injection e with e; omega), ⟨_, rfl, R4.out.kept hk5 R4.out.lt (fun e => by injection e with e; omega)⟩, hb5, by omega, by omega⟩)
    have qv := (A4.out.kept hk5 A4.out.lt (fun e => by injection e with e; omega)).cell h1
    have qd := I5.out.D.cell (show (Card.arr ⟨c.id, c.ver, c.lab, sel p.mask p.f c.f 0⟩)[1]? = _ from (Card.arr_head _).2.1)
    have zd := I5.out.D.frozen 1
    have I6 := Lib.hid (show PjAt w1 (w.heap.size + 1) p.arr (w.heap.size + 1 + 1) (w.heap.size + 1 + 1 + 1) c.id (min c.ver 1099511627775 + 1) c.lab (sel p.mask p.f c.f 0) (w5.setCell ⟨w.heap.size + 1 + 1 + 1, 1, none⟩ (.int .i64 (min c.ver 1099511627775 + 1))) from
      I5.out.put (kept_set _ _ _ _) (by rw [← Card.put1 (b := c.ver)]; exact I5.out.D.store 1 _))
    have qm := I6.out.C.cell hp0
    clear hb5 hk5
    go_wp2_with (fail)
    refine (CL.out _).mono ?_
    rintro e w7 ⟨rfl, hb7⟩
    have I7 := Lib.hid (I6.out.below hb7)
    clear hb7 qm qv qd zd I6 I5
    have I0 := I7
    go_wp2_with (fail)
    -- m the mask, c.lab the label's value,  the fields of,  the offset,  cells of fields,  the base,  slots of the value's store
    go_loopw [6] (fun i wr => ∃ k : Nat, k ≤ 8 ∧ i = .int .i64 k ∧ PjAt w1 (w.heap.size + 1) p.arr (w.heap.size + 1 + 1) (w.heap.size + 1 + 1 + 1) c.id (min c.ver 1099511627775 + 1) (c.lab) (sel p.mask p.f c.f k) wr) (fun i _ => 8 - (intOf i).toNat)
    case atStart => exact ⟨0, by omega, rfl, I0.out⟩
    case round =>
      clear I0
      obtain ⟨k, hk, rfl, I⟩ := hrel
      have IH := Lib.hid I
      clear I
      by_cases hlt : k < 8
      · cases hbit : p.mask.testBit k
        · have HB := Lib.hid hbit
          have qm := IH.out.C.cell hp0
          go_wp2_with (go_at_call 37; refine (c_ref03_Has p.mask k hm (by omega) _).mono ?_; rintro e w5 ⟨rfl, hb5⟩; rw [HB.out])
          go_roundw
          case rel => exact ⟨k + 1, by omega, by go_num, by rw [sel_no HB.out]; exact IH.out.below hb5⟩
          case measure => simp [intOf]; omega
        · have HB := Lib.hid hbit
          clear hbit
          have qm0 := IH.out.C.cell hp0
          go_wp2_with (fail)
          refine (c_ref03_Has p.mask k hm (by omega) _).mono ?_
          rintro e w5 ⟨rfl, hb5⟩
          rw [HB.out]
          have I5 := Lib.hid (IH.out.below hb5)
          clear hb5 qm0
          obtain ⟨c0, c1, c2⟩ := Patch.arr_val (c := p) (k := k) (by omega)
          have q0 := I5.out.C.cell c0
          have q1 := I5.out.C.cell c1
          have q2 := I5.out.C.cell c2
          clear c0 c1 c2
          have qm := I5.out.C.cell hp0
          have D5 := I5.out.D
          go_wp2_with (with_reducible refine stS 36 _ _ rfl rfl ?_)
          refine Stop.mk (wpList_storeAt rfl _ _ _ rfl (w.heap.size + 1 + 1 + 1) (3 + k * 3) _ rfl rfl _ D5 strV rfl (by rw [Card.arr_size, sel_len, h8]; simp; omega) (by simp [Value.oneCell']) ?_)
          intro w7 hb7 hk7
          rw [Card.putV (by rw [sel_len, h8]; omega) (p.f[k]'(by omega)), ← sel_yes HB.out (by omega)] at hb7
          have I7 := Lib.hid (I5.out.put hk7 hb7)
          clear hb7 hk7 D5
          go_wp2_with (fail)
          go_roundw
          case rel => exact ⟨k + 1, by omega, by go_num, I7.out⟩
          case measure => simp [intOf]; omega
      · have : k = 8 := by omega
        subst this
        have D5 := IH.out.D
        obtain ⟨cs, hcs, R5⟩ := IH.out.R
        go_wp2_with (with_reducible refine stop_load 39 _ rfl rfl ?_)
        refine Stop.mk (wpList_loadB rfl _ _ rfl (w.heap.size + 1 + 1 + 1) rfl _ D5 strC (by rw [Card.arr_size, sel_len, h8]) ?_)
        go_wp2_with (with_reducible refine stS 39 _ _ rfl rfl ?_)
        refine Stop.mk (wsB rfl _ _ _ rfl (w.heap.size + 1 + 1) _ rfl rfl _ R5 strC (by rw [Card.arr_size, sel_len, h8]) (by rw [Card.arr_size, sel_len, hcs, h8]) (Card.arr_ones _) ?_)
        intro w8 hb8 hk8
        have B8 := Lib.hid hb8
        have hS := IH.out.S.trans (hk8.oneB (by have := IH.out.C.lt; omega) (by omega))
        have HS := Lib.hid hS
        clear hb8 hk8 D5 R5 hS
        go_wp2_with (fail)
        exact bodyPost_ret (results_B rfl rfl B8.out strC (by rw [Card.arr_size, sel_len, h8])) rfl ⟨by rw [HP.out], S1.out.trans (HS.out.mono (by omega))⟩
  · have HP := Lib.hid (show mergeC c p = ⟨c.id, min c.ver 1099511627775 + 1, p.lab, sel p.mask p.f c.f 8⟩ by unfold mergeC; rw [hb8]; rfl)
    rw [hb8] at CL
    clear hb8
    go_enter Try.func34, Try.ntmps34
    go_wp2_with (with_reducible refine stop_load 39 _ rfl rfl ?_)
    rw [← hw3]
    refine Stop.mk (wpList_loadB rfl _ _ rfl w.heap.size rfl _ A3.out strC (by rw [Card.arr_size, h8]) ?_)
    rw [hw3]
    clear hw3
    go_wp2_with (with_reducible refine stS 39 _ _ rfl rfl ?_)
    rw [← hw4]
    clear hw4
    refine Stop.mk (wsB rfl _ _ _ rfl (w.heap.size + 1 + 1 + 1) _ rfl rfl _ D4.out strC (by rw [Card.arr_size, h8]) (by rw [Card.arr_size, h8]; rfl) (Card.arr_ones _) ?_)
    intro w5 hb5 hk5
    have I5 := Lib.hid (show PjAt w1 (w.heap.size + 1) p.arr (w.heap.size + 1 + 1) (w.heap.size + 1 + 1 + 1) c.id c.ver c.lab (sel p.mask p.f c.f 0) w5 from
      ⟨S4.out.trans (hk5.oneB (by have := C4.out.lt; omega) (by omega)), C4.out.kept hk5 C4.out.lt (fun e => by injection e with e; omega), ⟨_, rfl, R4.out.kept hk5 R4.out.lt (fun e => by injection e with e; omega)⟩, hb5, by omega, by omega⟩)
    have qv := (A4.out.kept hk5 A4.out.lt (fun e => by injection e with e; omega)).cell h1
    have qd := I5.out.D.cell (show (Card.arr ⟨c.id, c.ver, c.lab, sel p.mask p.f c.f 0⟩)[1]? = _ from (Card.arr_head _).2.1)
    have zd := I5.out.D.frozen 1
    have I6 := Lib.hid (show PjAt w1 (w.heap.size + 1) p.arr (w.heap.size + 1 + 1) (w.heap.size + 1 + 1 + 1) c.id (min c.ver 1099511627775 + 1) c.lab (sel p.mask p.f c.f 0) (w5.setCell ⟨w.heap.size + 1 + 1 + 1, 1, none⟩ (.int .i64 (min c.ver 1099511627775 + 1))) from
      I5.out.put (kept_set _ _ _ _) (by rw [← Card.put1 (b := c.ver)]; exact I5.out.D.store 1 _))
    have qm := I6.out.C.cell hp0
    clear hb5 hk5
    go_wp2_with (fail)
    refine (CL.out _).mono ?_
    rintro e w7 ⟨rfl, hb7⟩
    have I7 := Lib.hid (I6.out.below hb7)
    clear hb7 qm qv qd zd I6 I5
    have qc := I7.out.C.cell hp1
    have qd := I7.out.D.cell (show (Card.arr ⟨c.id, min c.ver 1099511627775 + 1, c.lab, sel p.mask p.f c.f 0⟩)[2]? = _ from (Card.arr_head _).2.2)
    have zd := I7.out.D.frozen 2
    have I0 := Lib.hid (show PjAt w1 (w.heap.size + 1) p.arr (w.heap.size + 1 + 1) (w.heap.size + 1 + 1 + 1) c.id (min c.ver 1099511627775 + 1) p.lab (sel p.mask p.f c.f 0) (w7.setCell ⟨w.heap.size + 1 + 1 + 1, 2, none⟩ (.int .u32 p.lab)) from
      I7.out.put (kept_set _ _ _ _) (by rw [← Card.put2 (l := c.lab)]; exact I7.out.D.store 2 _))
    go_wp2_with (fail)
    -- m the mask, p.lab the label's value,  the fields of,  the offset,  cells of fields,  the base,  slots of the value's store
    go_loopw [6] (fun i wr => ∃ k : Nat, k ≤ 8 ∧ i = .int .i64 k ∧ PjAt w1 (w.heap.size + 1) p.arr (w.heap.size + 1 + 1) (w.heap.size + 1 + 1 + 1) c.id (min c.ver 1099511627775 + 1) (p.lab) (sel p.mask p.f c.f k) wr) (fun i _ => 8 - (intOf i).toNat)
    case atStart => exact ⟨0, by omega, rfl, I0.out⟩
    case round =>
      clear I0
      obtain ⟨k, hk, rfl, I⟩ := hrel
      have IH := Lib.hid I
      clear I
      by_cases hlt : k < 8
      · cases hbit : p.mask.testBit k
        · have HB := Lib.hid hbit
          have qm := IH.out.C.cell hp0
          go_wp2_with (go_at_call 37; refine (c_ref03_Has p.mask k hm (by omega) _).mono ?_; rintro e w5 ⟨rfl, hb5⟩; rw [HB.out])
          go_roundw
          case rel => exact ⟨k + 1, by omega, by go_num, by rw [sel_no HB.out]; exact IH.out.below hb5⟩
          case measure => simp [intOf]; omega
        · have HB := Lib.hid hbit
          clear hbit
          have qm0 := IH.out.C.cell hp0
          go_wp2_with (fail)
          refine (c_ref03_Has p.mask k hm (by omega) _).mono ?_
          rintro e w5 ⟨rfl, hb5⟩
          rw [HB.out]
          have I5 := Lib.hid (IH.out.below hb5)
          clear hb5 qm0
          obtain ⟨c0, c1, c2⟩ := Patch.arr_val (c := p) (k := k) (by omega)
          have q0 := I5.out.C.cell c0
          have q1 := I5.out.C.cell c1
          have q2 := I5.out.C.cell c2
          clear c0 c1 c2
          have qm := I5.out.C.cell hp0
          have D5 := I5.out.D
          go_wp2_with (with_reducible refine stS 36 _ _ rfl rfl ?_)
          refine Stop.mk (wpList_storeAt rfl _ _ _ rfl (w.heap.size + 1 + 1 + 1) (3 + k * 3) _ rfl rfl _ D5 strV rfl (by rw [Card.arr_size, sel_len, h8]; simp; omega) (by simp [Value.oneCell']) ?_)
          intro w7 hb7 hk7
          rw [Card.putV (by rw [sel_len, h8]; omega) (p.f[k]'(by omega)), ← sel_yes HB.out (by omega)] at hb7
          have I7 := Lib.hid (I5.out.put hk7 hb7)
          clear hb7 hk7 D5
          go_wp2_with (fail)
          go_roundw
          case rel => exact ⟨k + 1, by omega, by go_num, I7.out⟩
          case measure => simp [intOf]; omega
      · have : k = 8 := by omega
        subst this
        have D5 := IH.out.D
        obtain ⟨cs, hcs, R5⟩ := IH.out.R
        go_wp2_with (with_reducible refine stop_load 39 _ rfl rfl ?_)
        refine Stop.mk (wpList_loadB rfl _ _ rfl (w.heap.size + 1 + 1 + 1) rfl _ D5 strC (by rw [Card.arr_size, sel_len, h8]) ?_)
        go_wp2_with (with_reducible refine stS 39 _ _ rfl rfl ?_)
        refine Stop.mk (wsB rfl _ _ _ rfl (w.heap.size + 1 + 1) _ rfl rfl _ R5 strC (by rw [Card.arr_size, sel_len, h8]) (by rw [Card.arr_size, sel_len, hcs, h8]) (Card.arr_ones _) ?_)
        intro w8 hb8 hk8
        have B8 := Lib.hid hb8
        have hS := IH.out.S.trans (hk8.oneB (by have := IH.out.C.lt; omega) (by omega))
        have HS := Lib.hid hS
        clear hb8 hk8 D5 R5 hS
        go_wp2_with (fail)
        exact bodyPost_ret (results_B rfl rfl B8.out strC (by rw [Card.arr_size, sel_len, h8])) rfl ⟨by rw [HP.out], S1.out.trans (HS.out.mono (by omega))⟩
end Go.Proofs.Ytldoedmclfbgpaa
namespace Go.Proofs.Ytldoedmclfbgpaa
open Go.RowKit

theorem Tr.mat_alike {c d : Card} {g h : Nat} : ∀ (t : Tr), (∀ x ∈ t.flat, leafM x c g = leafM x d h) → t.mat c g = t.mat d h
  | .leaf x, hl => hl x (by simp [Tr.flat])
  | .one x a, hl => by
    have := Tr.mat_alike a (fun y hy => hl y (by simp [Tr.flat, hy]))
    show (!a.mat c g) = !a.mat d h
    rw [this]
  | .two x a b, hl => by
    have h1 := Tr.mat_alike a (fun y hy => hl y (by simp [Tr.flat, hy]))
    have h2 := Tr.mat_alike b (fun y hy => hl y (by simp [Tr.flat, hy]))
    show (if x.op = 11 then a.mat c g && b.mat c g else a.mat c g || b.mat c g) = (if x.op = 11 then a.mat d h && b.mat d h else a.mat d h || b.mat d h)
    rw [h1, h2]
theorem maskL_mono {i : Nat} : ∀ (l : List Node) (m : Nat), m.testBit i = true → (maskL l m).testBit i = true
  | [], _, h => h
  | x :: l, m, h => by
    unfold maskL
    refine maskL_mono l _ ?_
    split
    · rw [Nat.testBit_or, h]; rfl
    · split
      · rw [Nat.testBit_or, h]; rfl
      · exact h
theorem maskL_lab : ∀ (l : List Node) (m : Nat) (x : Node), x ∈ l → x.op = 3 → (maskL l m).testBit 8 = true
  | y :: l, m, x, hx, ho => by
    unfold maskL
    rcases List.mem_cons.1 hx with rfl | hx
    · rw [if_pos ho]
      refine maskL_mono l _ ?_
      rw [Nat.testBit_or, show (256 : Nat).testBit 8 = true by decide, Bool.or_true]
    · exact maskL_lab l _ x hx ho
theorem maskL_fld : ∀ (l : List Node) (m : Nat) (x : Node) (k : Nat), x ∈ l → 5 ≤ x.op ∧ x.op ≤ 9 → x.n = (k : Int) → k ≤ 31 → (maskL l m).testBit k = true
  | y :: l, m, x, k, hx, ho, hn, hk => by
    unfold maskL
    rcases List.mem_cons.1 hx with rfl | hx
    · rw [if_neg (by omega), if_pos ho]
      refine maskL_mono l _ ?_
      rw [Nat.testBit_or, hn, bitN_nat hk, Nat.testBit_two_pow_self, Bool.or_true]
    · exact maskL_fld l _ x k hx ho hn hk
theorem grpL_mono {i : Nat} : ∀ (l : List Node) (m : Nat), m.testBit i = true → (grpL l m).testBit i = true
  | [], _, h => h
  | x :: l, m, h => by
    unfold grpL
    refine grpL_mono l _ ?_
    split
    · rw [Nat.testBit_or, h]; rfl
    · exact h
theorem grpL_mem : ∀ (l : List Node) (m : Nat) (x : Node) (k : Nat), x ∈ l → x.op = 4 → x.n = (k : Int) → k ≤ 31 → (grpL l m).testBit k = true
  | y :: l, m, x, k, hx, ho, hn, hk => by
    unfold grpL
    rcases List.mem_cons.1 hx with rfl | hx
    · rw [if_pos ho]
      refine grpL_mono l _ ?_
      rw [Nat.testBit_or, hn, bitN_nat hk, Nat.testBit_two_pow_self, Bool.or_true]
    · exact grpL_mem l _ x k hx ho hn hk
/-- The groups that are asked of, after k rounds. -/
def condG (G a b k : Nat) : Bool := (hasB G k && hasB a k) || (!hasB G k && hasB b k)
def gl (G a b : Nat) : Nat → Nat
  | 0 => b
  | k + 1 => if condG G a b k then (gl G a b k &&& (4294967295 - bitN k)) ||| bitN k else gl G a b k &&& (4294967295 - bitN k)
theorem gl_succ (G a b k : Nat) : gl G a b (k + 1) = if condG G a b k then (gl G a b k &&& (4294967295 - bitN k)) ||| bitN k else gl G a b k &&& (4294967295 - bitN k) := rfl
theorem clr_lt {s n : Nat} (h : s < 4294967296) : s &&& n < 4294967296 := Nat.lt_of_le_of_lt Nat.and_le_left h
theorem gl_lt {G a b : Nat} (h : b < 4294967296) : ∀ k, gl G a b k < 4294967296
  | 0 => h
  | k + 1 => by
    unfold gl
    split
    · exact or_lt (clr_lt (gl_lt h k)) (bitN_lt _)
    · exact clr_lt (gl_lt h k)
theorem clr_bit13 {s k i : Nat} (hk : k ≤ 31) (hi : i ≤ 31) : (s &&& (4294967295 - bitN (k : Int))).testBit i = (s.testBit i && !decide (k = i)) := by
  rw [bitN_nat hk, Nat.testBit_and, show 4294967295 - 2 ^ k = 2 ^ 32 - (2 ^ k + 1) by omega, Nat.testBit_two_pow_sub_succ (Nat.pow_lt_pow_right (by omega) (by omega)), Nat.testBit_two_pow]
  rw [decide_eq_true (show i < 32 by omega), Bool.true_and]
theorem gl_bit {G a b i : Nat} (hi : i ≤ 31) : ∀ k, k ≤ 32 → (gl G a b k).testBit i = if i < k then condG G a b i else b.testBit i
  | 0, _ => by simp [gl]
  | k + 1, hk => by
    have ih := gl_bit (G := G) (a := a) (b := b) hi k (by omega)
    have hc := clr_bit13 (s := gl G a b k) (k := k) (i := i) (by omega) hi
    by_cases he : k = i
    · subst he
      rw [decide_eq_true rfl] at hc
      rw [if_pos (by omega), gl_succ]
      cases hb : condG G a b k
      · rw [if_neg (by simp), hc]; simp
      · rw [if_pos rfl, Nat.testBit_or, bitN_nat (by omega), Nat.testBit_two_pow_self, Bool.or_true]
    · rw [decide_eq_false he] at hc
      have h2 : (if i < k + 1 then condG G a b i else b.testBit i) = if i < k then condG G a b i else b.testBit i := by
        by_cases h : i < k
        · rw [if_pos h, if_pos (by omega)]
        · rw [if_neg h, if_neg (by omega)]
      rw [gl_succ, h2, ← ih]
      split
      · rw [Nat.testBit_or, hc, bitN_nat (by omega), Nat.testBit_two_pow, decide_eq_false (by omega)]; simp
      · rw [hc]; simp
/-- The card that has of the first what is asked for, all else of the second. -/
def asked (c0 c1 : Card) (M : Nat) : Card := mergeC c1 (ofC c0 M)
theorem asked_fld {c0 c1 : Card} {M k : Nat} (h1 : c1.f.length = 8) (_h0 : c0.f.length = 8) (hk : k < 8) (hM : M.testBit k = true) : fv (asked c0 c1 M) (k : Int) = fv c0 (k : Int) := by
  unfold fv
  rw [Int.toNat_natCast]
  have e1 : (asked c0 c1 M).f.getD k ⟨0, 0, []⟩ = (project c0 M).f.getD k vz13 := by
    show (sel M (project c0 M).f c1.f 8).getD k ⟨0, 0, []⟩ = _
    rw [sel_get _ _ _ _ _ (by omega), if_pos ⟨hk, hM⟩]
  rw [e1]
  show (sel M c0.f z8 8).getD k vz13 = _
  rw [sel_get _ _ _ _ _ (by rw [z8, List.length_replicate]; exact hk), if_pos ⟨hk, hM⟩]
  rfl
theorem asked_lab {c0 c1 : Card} {M : Nat} (hM : M.testBit 8 = true) : (asked c0 c1 M).lab = c0.lab := by
  show (if M.testBit 8 then (if M.testBit 8 then c0.lab else 0) else c1.lab) = _
  rw [hM]; rfl
theorem asked_same {t : Tr} {c0 c1 : Card} {g0 g1 M : Nat} (hok : ∀ x ∈ t.flat, x.ok = true) (h0 : c0.f.length = 8) (h1 : c1.f.length = 8) (hM : M = maskL t.flat 0 &&& 511) :
    t.mat (asked c0 c1 M) (gl (grpL t.flat 0) g0 g1 32) = t.mat c0 g0 := by
  refine Tr.mat_alike t (fun x hx => ?_)
  have hx' := hok x hx
  have bit : ∀ k, k ≤ 8 → (maskL t.flat 0).testBit k = true → M.testBit k = true := fun k hk h => by
    rw [hM, Nat.testBit_and, h, Bool.true_and]
    have : k = 0 ∨ k = 1 ∨ k = 2 ∨ k = 3 ∨ k = 4 ∨ k = 5 ∨ k = 6 ∨ k = 7 ∨ k = 8 := by omega
    rcases this with rfl | rfl | rfl | rfl | rfl | rfl | rfl | rfl | rfl <;> decide
  unfold leafM
  by_cases o1 : x.op = 1
  · simp [o1]
  by_cases o3 : x.op = 3
  · rw [if_neg o1, if_pos o3, if_neg o1, if_pos o3, asked_lab (bit 8 (by omega) (maskL_lab _ _ x hx o3))]
  by_cases o4 : x.op = 4
  · rw [if_neg o1, if_neg o3, if_pos o4, if_neg o1, if_neg o3, if_pos o4]
    have hn : 0 ≤ x.n ∧ x.n < 16 := by
      unfold Node.ok at hx'
      rw [if_neg (by omega), if_pos (.inr o4)] at hx'
      simp only [Bool.and_eq_true, decide_eq_true_eq] at hx'
      exact hx'.1
    obtain ⟨k, hk⟩ : ∃ k : Nat, x.n = (k : Int) := ⟨x.n.toNat, by omega⟩
    have hg := grpL_mem t.flat 0 x k hx o4 hk (by omega)
    rw [hk, hasB_nat _ (by omega), hasB_nat _ (by omega), gl_bit (by omega) 32 (by omega), if_pos (by omega)]
    unfold condG
    rw [hasB_nat _ (by omega), hg, hasB_nat g0 (by omega)]
    simp
  by_cases o5 : 5 ≤ x.op ∧ x.op ≤ 9
  · obtain ⟨f1, f2, -⟩ := Node.ok_field hx' o5
    obtain ⟨k, hk⟩ : ∃ k : Nat, x.n = (k : Int) := ⟨x.n.toNat, by omega⟩
    have hb := bit k (by omega) (maskL_fld t.flat 0 x k hx o5 hk (by omega))
    have hf := asked_fld (c0 := c0) (c1 := c1) (M := M) (k := k) h1 h0 (by omega) hb
    rw [hk, hf]
    simp only [if_neg o1, if_neg o3, if_neg o4]
  · rw [if_neg o1, if_neg o3, if_neg o4, if_neg (by omega), if_neg (by omega), if_neg (by omega), if_neg (by omega), if_neg (by omega), if_neg o1, if_neg o3, if_neg o4, if_neg (by omega), if_neg (by omega), if_neg (by omega), if_neg (by omega), if_neg (by omega)]
theorem mask_lt {M m : Nat} (h : M = m &&& 511) : M < 4294967296 := by rw [h]; exact Nat.lt_of_le_of_lt Nat.and_le_right (by decide)
theorem asked_short {c0 c1 : Card} {M : Nat} (h0 : shortC c0) (h1 : shortC c1) : shortC (asked c0 c1 M) := by
  have hz : ∀ x ∈ z8, x.s.length ≤ 200 := fun x hx => by rw [List.eq_of_mem_replicate hx]; decide
  have hs : ∀ (m : Nat) (f g : List Val), (∀ x ∈ f, x.s.length ≤ 200) → (∀ x ∈ g, x.s.length ≤ 200) → ∀ k, ∀ x ∈ sel m f g k, x.s.length ≤ 200 := by
    intro m f g hf hg k
    induction k with
    | zero => exact hg
    | succ k ih =>
      intro x hx
      unfold sel at hx
      split at hx
      · rcases List.mem_or_eq_of_mem_set hx with hx | rfl
        · exact ih x hx
        · by_cases hk : k < f.length
          · rw [List.getD_eq_getElem?_getD, List.getElem?_eq_getElem hk]
            exact hf _ (List.getElem_mem hk)
          · rw [List.getD_eq_getElem?_getD, List.getElem?_eq_none (by omega)]
            decide
      · exact ih x hx
  refine ⟨?_, ?_, ?_⟩
  · show (sel _ _ _ _).length = 8; rw [sel_len]; exact h1.1
  · show (if M.testBit 8 then (if M.testBit 8 then c0.lab else 0) else c1.lab) < _
    have a0 := h0.2.1
    have a1 := h1.2.1
    split <;> first | exact a0 | exact a1 | (split <;> first | exact a0 | omega)
  · exact hs _ _ _ (hs _ _ _ h0.2.2 hz 8) h1.2.2 8
end Go.Proofs.Ytldoedmclfbgpaa
