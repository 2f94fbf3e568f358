/-
  Lemmas (walks and plain laws), in one text.
-/
import Derived.Test.YtldoedmclfbgpaaDoorBq2
import Derived.Test.YtldoedmclfbgpaaDoorBq3
import Derived.Test.YtldoedmclfbgpaaDoorBq4
import Derived.Test.YtldoedmclfbgpaaDoorBq7
import Derived.Test.YtldoedmclfbgpaaDoorBq8
import Derived.Test.YtldoedmclfbgpaaDoorBq9
namespace Go.Proofs.YtldoedmclfbgpaaDoor
open Go.RowKit

set_option maxHeartbeats 400000 in
set_option maxRecDepth 4000 in
theorem c_CloneInts (l : List Int) (A : Option Addr) (c : Nat) (w : World) (h : In 1 ic w A c l) :
    Calls Tryd.prog 48 #[.slice A l.length c] w (RetS 1 ic 3 w l) := by
  have hL := h.1
  have hC := h.2.1
  have hS := h.2.2.1
  have EB := elemInt
  rcases A with _ | ad
  · have hl : l = [] := by
      rcases h.2.2.2 with h | ⟨b, off, hh, _⟩
      · exact h
      · cases hh
    subst hl
    clear h
    have ke := fun (w : World) (n c : Nat) => Lib.run_eql_slice_nil (P := Tryd.prog) w 63 _ none n c 0 0 Tryd.underlying63
    go_enter Tryd.func48, Tryd.ntmps48
    go_wp2_with (fail)
    go_ret
    exact ⟨_, rfl, World.ownsRow_nil _ _ _ _, Below.refl _ _⟩
  · have ke := fun (w : World) (n c : Nat) => Lib.run_eql_slice_nil (P := Tryd.prog) w 63 _ (some ad) n c 0 0 Tryd.underlying63
    go_enter Tryd.func48, Tryd.ntmps48
    go_wp2_with ((at_builtin; refine Stop.out ?_))
    refine Stop.mk (wpList_app _ rfl (.tmp 5) (.tmp 6) EB rfl w.heap.size (.slice (some ⟨w.heap.size, 0, none⟩) 0 0) 0 [] rfl (World.ownsRow_lit w #[] 0 (Nat.le_refl _) (by unfold maxLen; omega) (by simp)) (some ad) l.length c (l.flatMap ic) rfl (Src.of_in (fun _ => rfl) (by omega) (h.alloc _)) (ic_ones _) (by omega) ?_ ?_)
    · simp only [World.size_alloc]; omega
    intro v2 w2 own2 _ hb2 _
    rw [Nat.zero_add, List.nil_append] at own2
    have hb3 : Below w.heap.size w w2 := Below.trans (b := w.alloc (.cells #[] 3)) (by repeat (first | exact Below.refl _ _ | refine Below.drew ?_ | refine Below.alloc ?_ (by first | omega | (simp; done) | (simp; omega)) _ | refine Below.setCell ?_ (by first | omega | (simp; done) | (simp; omega)) _ | refine Below.trans ?_ (Below.mono (by assumption) (by first | omega | (simp; done) | (simp; omega))))) hb2
    go_wp2_with (fail)
    go_ret
    exact ⟨_, rfl, own2, hb3⟩
theorem elemGrp : Elem Tryd.prog 33 65 2 32 := Elem.mk' (z := .agg #[.int .i64 0, .slice none 0 0]) Tryd.underlying33 (by kernel_rfl) rfl (by omega) (by omega)
/-- What a group is in memory, whatever its members. -/
def GrpRow (nn : List Value) : Prop := ∃ (a : Int) (A : Option Addr) (n c : Nat), nn = [.int .i64 a, .slice A n c]
theorem GrpRow.len {nn : List Value} (h : GrpRow nn) : nn.length = 2 := by obtain ⟨a, A, n, c, rfl⟩ := h; rfl
theorem GrpRow.one {nn : List Value} (h : GrpRow nn) : ∀ u ∈ nn, u.oneCell' = true := by
  obtain ⟨a, A, n, c, rfl⟩ := h
  intro u hu
  simp only [List.mem_cons, List.not_mem_nil, or_false] at hu
  rcases hu with rfl | rfl <;> rfl
/-- The numbers of the cards, and where they are not. -/
def bids (l : List CQ) : List Int := (cs l).map (·.id)
theorem bids_len (l : List CQ) : (bids l).length = l.length := by unfold bids; rw [List.length_map, cs_len]
theorem bids_snoc {l : List CQ} {k : Nat} (h : k < l.length) : bids (l.take (k + 1)) = bids (l.take k) ++ [l[k].c.id] := by
  unfold bids cs
  rw [List.take_succ_eq_append_getElem h, List.map_append, List.map_append]
  rfl
def Apart (A : Option Addr) (l : List Int) (B k : Nat) : Prop := l = [] ∨ ∃ b off, A = some ⟨b, off, none⟩ ∧ b < B ∧ b ≠ k
theorem InI.belowB {w w' : World} {A : Option Addr} {c : Nat} {l : List Int} {B k : Nat} (h : InI w A c l) (ha : Apart A l B k) (hb : Below B w w') : InI w' A c l := by
  refine ⟨h.1, h.2.1, h.2.2.1, ?_⟩
  rcases h.2.2.2 with e | ⟨b, off, hA, hlt, hr⟩
  · exact .inl e
  · rcases ha with e | ⟨b2, off2, hA2, hlt2, -⟩
    · exact .inl e
    · rw [hA] at hA2
      injection hA2 with hA2
      injection hA2 with h1 h2
      subst h1
      exact .inr ⟨b, off, hA, Nat.lt_of_lt_of_le hlt hb.size, hr.belowB hb hlt2⟩
theorem InI.put {w : World} {A : Option Addr} {c : Nat} {l : List Int} {B k : Nat} (h : InI w A c l) (ha : Apart A l B k) (i : Nat) (v : Value) : InI (w.setCell ⟨k, i, none⟩ v) A c l := by
  refine ⟨h.1, h.2.1, h.2.2.1, ?_⟩
  rcases h.2.2.2 with e | ⟨b, off, hA, hlt, hr⟩
  · exact .inl e
  · rcases ha with e | ⟨b2, off2, hA2, -, hk⟩
    · exact .inl e
    · rw [hA] at hA2
      injection hA2 with hA2
      injection hA2 with h1 h2
      subst h1
      have k2 := kept_set w k i v
      refine .inr ⟨b, off, hA, Nat.lt_of_lt_of_le hlt k2.size, ?_⟩
      have kk : Kept (some k) w.heap.size w (w.setCell ⟨k, i, none⟩ v) := k2
      exact hr.keep (fun o => by
        have := kk.block b hlt (fun e => by injection e with e; omega)
        simp only [World.cell?, this])
/-- Every group's members rise, where the groups may be. -/
theorem grps_mem : ∀ (l : List Grp) (last : Int), grpsOk last l = true → ∀ g ∈ l, idsOk 0 g.mem = true
  | [], _, _ => by intro g hg; cases hg
  | x :: l, last, h => by
    rw [grpsOk, Bool.and_eq_true] at h
    intro g hg
    rcases List.mem_cons.1 hg with rfl | hg
    · have := h.1
      unfold grpAt at this
      rw [Bool.and_eq_true] at this
      exact this.2
    · exact grps_mem l x.no h.2 g hg
theorem shelf_cards {next : Int} {cards : List Card} {dead : List Dead} (h : shelfOk next cards dead = true) : cardsOk next 0 cards = true := by
  unfold shelfOk at h
  simp only [Bool.and_eq_true] at h
  exact h.2.1
/-- The groups, round by round. -/
theorem mem_fin {b : BQ} {k : Nat} (hk : k < b.groups.length) (hs : shelfOk b.book.next b.book.cards b.book.dead = true) (hg : grpsOk (-1) b.book.groups = true) {z : Bool} (h : ((grps b.groups).drop k).all (fun g => memOk b.book.cards g.mem) = z) :
    (alongM b.groups[k].mem (bids b.cards) ≠ [] → z = false) ∧ (alongM b.groups[k].mem (bids b.cards) = [] → ((grps b.groups).drop (k + 1)).all (fun g => memOk b.book.cards g.mem) = z) := by
  have h2 : k < (grps b.groups).length := by unfold grps; simpa using hk
  have hg2 : (grps b.groups)[k] = b.groups[k].g := by show (b.groups.map GQ.g)[k]'(by simpa using hk) = _; simp
  rw [List.drop_eq_getElem_cons h2, List.all_cons, hg2] at h
  have hi : idsOk 0 b.groups[k].mem = true := grps_mem _ _ hg _ (List.mem_map.2 ⟨b.groups[k], List.getElem_mem hk, rfl⟩)
  have hm : memOk b.book.cards b.groups[k].g.mem = decide (alongM b.groups[k].mem (bids b.cards) = []) := memOk_along (shelf_cards hs) hi
  rw [hm] at h
  refine ⟨fun e => ?_, fun e => ?_⟩
  · rw [decide_eq_false e] at h; simpa using h.symm
  · rw [decide_eq_true e] at h; simpa using h
/-- A book while groups are put into it. -/
structure BK (w w1 : World) (g B : Nat) (seq : Int) (p : Option Addr) (v : Value) (n : Nat) (A : Option Addr) (c : Nat) (ids : List Int) : Prop where
  S : Below w.heap.size w w1
  lo : w.heap.size ≤ g
  hg : g < B
  hB : B ≤ w1.heap.size
  blk : Blk w1 g #[.int .i64 seq, .pointer p, v]
  own : ∃ xs, w1.ownsRow B 65 2 v n xs
  ids : InI w1 A c ids
theorem apart_of_own {w : World} {g n c : Nat} {A : Option Addr} {xs : List Value} {l : List Int} (h : w.ownsRow (g + 1) 3 1 (.slice A n c) n xs) (hl : l.length = n) : Apart A l w.heap.size g := by
  rcases Nat.eq_zero_or_pos n with h0 | h0
  · exact .inl (List.eq_nil_of_length_eq_zero (by omega))
  · obtain ⟨q, c', hv, -, -, h1, h2⟩ := own_form' h h0
    injection hv with hv
    exact .inr ⟨q, 0, hv, h2, by omega⟩
end Go.Proofs.YtldoedmclfbgpaaDoor
namespace Go.Proofs.YtldoedmclfbgpaaDoor
open Go.RowKit

theorem strBk : Str Tryd.prog 35 5 := ⟨⟨_, Tryd.underlying35, rfl⟩, by kernel_rfl⟩
theorem strB20 : Str Tryd.prog 76 5 := ⟨⟨_, Tryd.underlying76, rfl⟩, by kernel_rfl⟩
theorem strS18 : Str Tryd.prog 74 3 := ⟨⟨_, Tryd.underlying74, rfl⟩, by kernel_rfl⟩
/-! Plain: what one list has that another lacks. -/
theorem minusI_nil {a b : List Int} : minusI a b = [] ↔ ∀ x ∈ a, x ∈ b := by
  unfold minusI hasX
  rw [List.filter_eq_nil_iff]
  simp
theorem memOk_minus (cards : List Card) (m : List Int) : memOk cards m = decide (minusI m (cards.map (·.id)) = []) := by
  rw [Bool.eq_iff_iff, decide_eq_true_eq, minusI_nil]
  unfold memOk hasCard
  simp only [List.all_eq_true, List.any_eq_true, decide_eq_true_eq, List.mem_map]
theorem shelf_deads {next : Int} {cards : List Card} {dead : List Dead} (h : shelfOk next cards dead = true) : deadsOk next cards [] 0 dead = true := by
  unfold shelfOk at h
  simp only [Bool.and_eq_true] at h
  exact h.2.2
/-- The dead, one by one. -/
theorem last_fin {seq : Int} {l : List Dead} {k : Nat} (hk : k < l.length) {z : Bool} (h : (l.drop k).all (fun d => decide (d.seq ≤ seq)) = z) :
    (¬ l[k].seq ≤ seq → z = false) ∧ (l[k].seq ≤ seq → (l.drop (k + 1)).all (fun d => decide (d.seq ≤ seq)) = z) := by
  rw [List.drop_eq_getElem_cons hk, List.all_cons] at h
  refine ⟨fun e => ?_, fun e => ?_⟩
  · rw [decide_eq_false e] at h; simpa using h.symm
  · rw [decide_eq_true e] at h; simpa using h
theorem mem_finR {cards : List Card} {groups : List GQ} {ids : List Int} (hids : ids = cards.map (·.id)) {k : Nat} (hk : k < groups.length) {z : Bool} (h : ((grps groups).drop k).all (fun g => memOk cards g.mem) = z) :
    (minusI groups[k].mem ids ≠ [] → z = false) ∧ (minusI groups[k].mem ids = [] → ((grps groups).drop (k + 1)).all (fun g => memOk cards g.mem) = z) := by
  have h2 : k < (grps groups).length := by unfold grps; simpa using hk
  have hg2 : (grps groups)[k] = groups[k].g := by show (groups.map GQ.g)[k]'(by simpa using hk) = _; simp
  rw [List.drop_eq_getElem_cons h2, List.all_cons, hg2] at h
  have hm : memOk cards groups[k].g.mem = decide (minusI groups[k].mem ids = []) := by rw [memOk_minus, hids]; rfl
  rw [hm] at h
  refine ⟨fun e => ?_, fun e => ?_⟩
  · rw [decide_eq_false e] at h; simpa using h.symm
  · rw [decide_eq_true e] at h; simpa using h
set_option maxHeartbeats 1000000 in
theorem c_ref20_Of (seq next : Int) (A : Option Addr) (n a : Nat) (D : Option Addr) (m d : Nat) (G : Option Addr) (k g : Nat) (w : World) :
    Calls Tryd.prog 31 #[.agg #[.int .i64 seq, .int .i64 next, .slice A n a, .slice D m d, .slice G k g]] w (RetV w (.agg #[.int .i64 seq, .int .i64 next, .slice A n a, .slice D m d, .slice G k g])) := by
  have B0 := Lib.hid (At.new w 35 #[.int .i64 seq, .int .i64 next, .slice A n a, .slice D m d, .slice G k g])
  have b1 := (Below.refl (w.alloc (.cells #[.int .i64 seq, .int .i64 next, .slice A n a, .slice D m d, .slice G k g] 35)).heap.size _).alloc (Nat.le_refl _) (.cells #[.int .i64 0, .int .i64 0, .slice none 0 0, .slice none 0 0, .slice none 0 0] 76)
  have B1 := Lib.hid (B0.out.step b1)
  have T1 := Lib.hid (Blk.new (w.alloc (.cells #[.int .i64 seq, .int .i64 next, .slice A n a, .slice D m d, .slice G k g] 35)) 76 #[.int .i64 0, .int .i64 0, .slice none 0 0, .slice none 0 0, .slice none 0 0])
  rw [World.size_alloc] at T1
  have q0 := B1.out.2.cell (i := 0) rfl
  have q1 := B1.out.2.cell (i := 1) rfl
  have q2 := B1.out.2.cell (i := 2) rfl
  have q3 := B1.out.2.cell (i := 3) rfl
  have q4 := B1.out.2.cell (i := 4) rfl
  clear b1
  go_enter Tryd.func31, Tryd.ntmps31
  go_wp2_with (first
    | (with_reducible refine stop_build 74 _ rfl ?_)
    | (with_reducible refine stop_build 76 _ rfl ?_))
  refine Stop.mk (wpList_buildD rfl _ _ rfl _ rfl #[.int .i64 next, .slice A n a, .slice D m d] (by kernel_rfl) ?_)
  go_wp2_with (first
    | (with_reducible refine stop_build 76 _ rfl ?_))
  refine Stop.mk (wpList_buildD rfl _ _ rfl _ rfl #[.int .i64 seq, .int .i64 next, .slice A n a, .slice D m d, .slice G k g] (by kernel_rfl) ?_)
  go_wp2_with (with_reducible refine stS 76 _ _ rfl rfl ?_)
  refine Stop.mk (wsB rfl _ _ _ rfl (w.heap.size + 1) _ rfl rfl _ T1.out strB20 rfl rfl (by simp [Value.oneCell']) ?_)
  intro w11 hb11 hk11
  have hkk := B1.out.1.trans (hk11.oneB B1.out.1.size (by omega))
  clear hk11
  go_wp2_with (fail)
  exact bodyPost_ret (results_B rfl rfl hb11 strB20 rfl) rfl (RetV.of rfl hkk)
end Go.Proofs.YtldoedmclfbgpaaDoor
namespace Go.Proofs.YtldoedmclfbgpaaDoor
open Go.RowKit

set_option maxRecDepth 10000 in
set_option maxHeartbeats 8000000 in
theorem ref20_Right (seq next : Int) (cards : List CQ) (dead : List Dead) (groups : List GQ) (A : Option Addr) (a : Nat) (D : Option Addr) (d : Nat) (G : Option Addr) (gc : Nat) (w : World) (hc : In 27 CQ.cells w A a cards) (hd : In 3 Dead.cells w D d dead) (hg : In 2 GQ.cells w G gc groups)
    (hgm : ∀ x ∈ groups, InI w x.A x.c x.mem) (hfit : ∀ x ∈ cards, ∀ y ∈ x.c.f, y.s.length ≤ 4294967000) (hmem : ∀ x ∈ groups, x.mem.length ≤ 1000000) :
    Calls Tryd.prog 13 #[.agg #[.int .i64 seq, .int .i64 next, .slice A cards.length a, .slice D dead.length d, .slice G groups.length gc]] w (RetV w (.bool (Book.ok ⟨seq, next, cs cards, dead, grps groups⟩))) := by
  have hS1 := hc.1
  have hS2 := hc.2.1
  have hS3 := hc.2.2.1
  have hD1 := hd.1
  have hD2 := hd.2.1
  have hD3 := hd.2.2.1
  have hG1 := hg.1
  have hG2 := hg.2.1
  have hG3 := hg.2.2.1
  have HC := Lib.hid hc
  have HD := Lib.hid hd
  have HGG := Lib.hid hg
  have HGM := Lib.hid hgm
  have HF := Lib.hid hfit
  have HM := Lib.hid hmem
  have B0 := Lib.hid (At.new w 35 #[.int .i64 seq, .int .i64 next, .slice A cards.length a, .slice D dead.length d, .slice G groups.length gc])
  clear hc hd hg hgm hfit hmem
  go_enter Tryd.func13, Tryd.ntmps13
  go_wp2_with (with_reducible refine stop_load 35 _ rfl rfl ?_)
  refine Stop.mk (wpList_loadB rfl _ _ rfl w.heap.size rfl _ B0.out.2 strBk rfl ?_)
  go_wp2_with (fail)
  refine (c_ref20_Of seq next A cards.length a D dead.length d G groups.length gc _).mono ?_
  rintro e w1 ⟨rfl, hb1⟩
  replace B0 := Lib.hid (B0.out.step hb1)
  clear hb1
  have T1 := Lib.hid (Blk.new w1 76 #[.int .i64 0, .int .i64 0, .slice none 0 0, .slice none 0 0, .slice none 0 0])
  have B1 := Lib.hid (B0.out.step ((Below.refl w1.heap.size w1).alloc (Nat.le_refl _) (.cells #[.int .i64 0, .int .i64 0, .slice none 0 0, .slice none 0 0, .slice none 0 0] 76)))
  obtain ⟨t, ht⟩ : ∃ t, t = w1.heap.size := ⟨_, rfl⟩
  have hwt := Lib.hid (show w.heap.size < t by rw [ht]; exact B0.out.2.lt)
  rw [← ht] at T1
  clear B0
  go_wp2_with (with_reducible refine stS 76 _ _ rfl rfl ?_)
  rw [← ht]
  refine Stop.mk (wsB rfl _ _ _ rfl t _ rfl rfl _ T1.out strB20 rfl rfl (by simp [Value.oneCell']) ?_)
  intro w2 hb2 hk2
  have B2 := Lib.hid (B1.out.kept hwt.out hk2)
  have T2 := Lib.hid hb2
  clear hb2 hk2 B1 T1 ht
  have tl := T2.out.lt
  have r1 := T2.out.cell (i := 1) rfl
  have r2 := T2.out.cell (i := 2) rfl
  have r3 := T2.out.cell (i := 3) rfl
  go_wp2_with (with_reducible refine stop_load 74 _ rfl rfl ?_)
  refine Stop.mk (wpList_loadAt rfl _ _ rfl t 1 rfl #[.int .i64 next, .slice A cards.length a, .slice D dead.length d] ?_ strS18 rfl ?_)
  · intro j u hu
    match j, hu with
    | 0, hu => injection hu with hu; subst hu; exact r1
    | 1, hu => injection hu with hu; subst hu; exact r2
    | 2, hu => injection hu with hu; subst hu; exact r3
  go_wp2_with (fail)
  refine (c_ref18_Right next cards A a dead D d _ (HC.out.below B2.out.1) (HD.out.below B2.out.1) HF.out).mono ?_
  rintro e w3 ⟨rfl, hb3⟩
  replace B2 := Lib.hid (B2.out.step hb3)
  clear hb3 r1 r2 r3 tl T2 hwt
  have q0 := B2.out.2.cell (i := 0) rfl
  have q4 := B2.out.2.cell (i := 4) rfl
  have bl := B2.out.2.lt
  cases hsh : shelfOk next (cs cards) dead
  case false =>
    have RF := Lib.hid (ok_shelf (b := ⟨seq, next, cs cards, dead, grps groups⟩) hsh)
    clear hsh
    go_wp2_with (fail)
    go_ret
    rw [RF.out]
    exact RetV.of rfl B2.out.1
  case true =>
  have HSH := Lib.hid hsh
  clear hsh
  by_cases s1 : 0 ≤ seq
  case neg =>
    have RF := Lib.hid (ok_seq (b := ⟨seq, next, cs cards, dead, grps groups⟩) (fun e => s1 e.1))
    have t1 : decide (seq < 0) = true := by simp; omega
    clear s1
    go_wp2_with (fail)
    go_ret
    rw [RF.out]
    exact RetV.of rfl B2.out.1
  case pos =>
  have t1 : decide (seq < 0) = false := by simp; omega
  by_cases s2 : seq ≤ 1099511627776
  case neg =>
    have RF := Lib.hid (ok_seq (b := ⟨seq, next, cs cards, dead, grps groups⟩) (fun e => s2 e.2))
    have t2 : decide (1099511627776 < seq) = true := by simp; omega
    clear s1 s2
    go_wp2_with (fail)
    go_ret
    rw [RF.out]
    exact RetV.of rfl B2.out.1
  case pos =>
  have t2 : decide (1099511627776 < seq) = false := by simp; omega
  have HSQ := Lib.hid (show 0 ≤ seq ∧ seq ≤ 1099511627776 from ⟨s1, s2⟩)
  clear s1 s2
  go_wp2_with (fail)
  refine (c_ref17_Check groups G gc _ (HGG.out.below B2.out.1) (fun x hx => (HGM.out x hx).below B2.out.1)).mono ?_
  rintro e w4 ⟨rfl, hb4⟩
  replace B2 := Lib.hid (B2.out.step hb4)
  clear hb4 q0 q4 bl
  cases hgr : grpsOk (-1) (grps groups)
  case false =>
    have RF := Lib.hid (ok_grps (b := ⟨seq, next, cs cards, dead, grps groups⟩) hgr)
    clear hgr
    go_wp2_with (fail)
    go_ret
    rw [RF.out]
    exact RetV.of rfl B2.out.1
  case true =>
  have HGR := Lib.hid hgr
  have LA := Lib.hid (lastSeq_all (seq := seq) (shelf_deads HSH.out))
  clear hgr
  go_wp2_with (fail)
  go_loopw [4] (fun i wr => ∃ k : Nat, k ≤ dead.length ∧ i = .int .i64 k ∧ Hid ((dead.drop k).all (fun d => decide (d.seq ≤ seq)) = decide (dead = [] ∨ lastSeq dead ≤ seq)) ∧ Hid (At w wr #[.int .i64 seq, .int .i64 next, .slice A cards.length a, .slice D dead.length d, .slice G groups.length gc])) (fun i _ => dead.length - (intOf i).toNat)
  case atStart => exact ⟨0, by omega, rfl, LA.out.symm, B2.out⟩
  case round =>
    clear B2 LA
    obtain ⟨k, hk, rfl, R, X⟩ := hrel
    have q0 := X.out.2.cell (i := 0) rfl
    have q3 := X.out.2.cell (i := 3) rfl
    have bl := X.out.2.lt
    have hz := X.out.1.size
    by_cases hlt : k < dead.length
    · have d1 : decide ((k : Int) < (dead.length : Int)) = true := by simp; omega
      obtain ⟨b, off, hA, hb, hrow⟩ := HD.out.at hlt
      have e2 := hrow.belowB X.out.1 hb k hlt 2 _ rfl
      have FIN := Lib.hid (last_fin hlt R.out)
      obtain ⟨x, hx⟩ : ∃ x, x = dead[k] := ⟨_, rfl⟩
      rw [← hx] at e2 FIN
      have hi1 : (0 : Int) ≤ (k : Int) := by omega
      have hi2 : (k : Int) < (dead.length : Int) := by omega
      have hbw : b < wr.heap.size := by omega
      clear hrow hx R
      subst hA
      by_cases h9 : x.seq ≤ seq
      case neg =>
        have RF := Lib.hid (ok_last (b := ⟨seq, next, cs cards, dead, grps groups⟩) (of_decide_eq_false (FIN.out.1 h9)))
        have t9 : decide (seq < x.seq) = true := by simp; omega
        clear h9
        go_wp2_with (fail)
        refine wp_region_grow (by kernel_rfl) (by kernel_rfl) ?_
        repeat (go_big_quiet_step ((first | (fail))))
        refine wpQuiet_nil ?_
        intro w5 hb5
        replace X := Lib.hid (X.out.step hb5)
        clear hb5 q0 q3 bl e2
        go_wp2_with (fail)
        go_ret
        rw [RF.out]
        exact RetV.of rfl X.out.1
      case pos =>
        have R2 := Lib.hid (FIN.out.2 h9)
        have t9 : decide (seq < x.seq) = false := by simp; omega
        clear h9 FIN
        go_wp2_with (fail)
        refine wp_region_grow (by kernel_rfl) (by kernel_rfl) ?_
        repeat (go_big_quiet_step ((first | (fail))))
        refine wpQuiet_nil ?_
        intro w5 hb5
        replace X := Lib.hid (X.out.step hb5)
        clear hb5 q0 q3 bl e2
        go_wp2_with (fail)
        go_roundw
        case rel => exact ⟨k + 1, by omega, by go_num, R2.out, X.out⟩
        case measure => simp [intOf]; omega
    · obtain rfl : k = dead.length := by omega
      have d1 : decide ((dead.length : Int) < (dead.length : Int)) = false := by simp
      have HLS := Lib.hid (show dead = [] ∨ lastSeq dead ≤ seq from of_decide_eq_true (by rw [← R.out, List.drop_length]; rfl))
      clear R
      go_wp2_with (fail)
      have O0 := Lib.hid (World.ownsRow_lit wr (e := 3) (size := 1) #[] 0 (Nat.le_refl _) (by unfold maxLen; omega) (by simp))
      have X1 := Lib.hid (X.out.step ((Below.refl wr.heap.size wr).alloc (Nat.le_refl _) (.cells #[] 3)))
      obtain ⟨B8, hB8⟩ : ∃ B8, B8 = wr.heap.size := ⟨_, rfl⟩
      obtain ⟨w6, hw6⟩ : ∃ x, x = wr.alloc (.cells #[] 3) := ⟨_, rfl⟩
      rw [← hw6] at O0 X1 ⊢
      rw [← hB8] at O0 ⊢
      have hB9 := Lib.hid (show w.heap.size < B8 by rw [hB8]; exact X.out.2.lt)
      have BZ0 := Lib.hid (show B8 ≤ w6.heap.size by rw [hB8, hw6, World.size_alloc]; omega)
      clear q0 q3 bl hz X hw6 hB8
      go_loopw [5, 6] (fun v i wr => ∃ k : Nat, k ≤ cards.length ∧ i = .int .i64 k ∧ Hid (B8 ≤ wr.heap.size) ∧ Hid (wr.ownsRow B8 3 1 v k ((bids (cards.take k)).flatMap ic)) ∧ Hid (At w wr #[.int .i64 seq, .int .i64 next, .slice A cards.length a, .slice D dead.length d, .slice G groups.length gc])) (fun _ i _ => cards.length - (intOf i).toNat)
      case atStart => exact ⟨0, by omega, rfl, BZ0.out, O0.out, X1.out⟩
      case round =>
        clear O0 X1 BZ0
        obtain ⟨k, hk, rfl, BZ, O, X⟩ := hrel
        have q2 := X.out.2.cell (i := 2) rfl
        have bl := X.out.2.lt
        have hz := X.out.1.size
        obtain ⟨A8, c8, rfl, -⟩ := own_form O.out
        by_cases hlt : k < cards.length
        · have d2 : decide ((k : Int) < (cards.length : Int)) = true := by simp; omega
          obtain ⟨b, off, hA, hb, hrow⟩ := HC.out.at hlt
          have e0 := (X.out.1.cell (p := ⟨b, off + k * 27, none⟩) hb).trans (CQ.id_at hrow hlt)
          have TK := Lib.hid (bids_snoc hlt)
          obtain ⟨x, hx⟩ : ∃ x, x = cards[k].c.id := ⟨_, rfl⟩
          rw [← hx] at e0 TK
          have hi1 : (0 : Int) ≤ (k : Int) := by omega
          have hi2 : (k : Int) < (cards.length : Int) := by omega
          have hbw : b < wr.heap.size := by omega
          have hB7 := BZ.out
          clear hrow hx
          subst hA
          go_wp2_with ((at_builtin; refine Stop.out ?_))
          refine Stop.mk (wpList_app _ rfl _ _ elemInt rfl B8 (.slice A8 k c8) k _ rfl (own_below O.out ((Below.refl _ _).alloc (Nat.le_refl _) _)) _ 1 1 (ic x) rfl (Src.new wr (ic x) _ 1 rfl) (by simp [ic, Value.oneCell']) (by omega) (by simp; omega) ?_)
          intro v6 w6 own6 _ hb6 _
          have k6 : Below B8 wr w6 := Below.trans (b := wr.alloc (.cells #[.int .i64 x] 3)) ((Below.refl _ _).alloc (by omega) _) hb6
          have X2 := Lib.hid (show At w w6 _ from ⟨X.out.1.trans (k6.mono (by have := hB9.out; omega)), X.out.2.below k6 hB9.out⟩)
          have O2 := Lib.hid (show w6.ownsRow B8 3 1 v6 (k + 1) ((bids (cards.take (k + 1))).flatMap ic) by rw [TK.out, List.flatMap_append, List.flatMap_cons, List.flatMap_nil, List.append_nil]; exact own6)
          have BZ2 := Lib.hid (show B8 ≤ w6.heap.size by have := k6.size; omega)
          clear own6 hb6 k6 X O e0 q2 bl
          go_wp2_with (fail)
          go_roundw
          case rel => exact ⟨k + 1, by omega, by go_num, BZ2.out, O2.out, X2.out⟩
          case measure => simp [intOf]; omega
        · obtain rfl : k = cards.length := by omega
          have d2 : decide ((cards.length : Int) < (cards.length : Int)) = false := by simp
          have O2 := O.out
          rw [List.take_length, ← bids_len cards] at O2
          obtain ⟨A9, c9, e9, i8⟩ := In.of_own (k := 1) (cs := ic) (fun _ => rfl) O2 (by rw [bids_len]; exact hS3)
          rw [bids_len] at e9
          injection e9 with e9 _ e10
          subst e9 e10
          have I8 := Lib.hid i8
          obtain ⟨ids, hids⟩ : ∃ x, x = bids cards := ⟨_, rfl⟩
          have HID := Lib.hid (show ids = (cs cards).map (·.id) from hids)
          have hil := bids_len cards
          rw [← hids] at I8 hil
          have HIL := Lib.hid hil
          have hI1 := I8.out.1
          have hI2 := I8.out.2.1
          have hI3 := I8.out.2.2.1
          clear O O2 i8 hids hil hI1
          go_wp2_with (fail)
          clear q2 bl hz
          go_loopw [7] (fun i wr => ∃ k : Nat, k ≤ groups.length ∧ i = .int .i64 k ∧ Hid (((grps groups).drop k).all (fun g => memOk (cs cards) g.mem) = Book.ok ⟨seq, next, cs cards, dead, grps groups⟩) ∧ Hid (At w wr #[.int .i64 seq, .int .i64 next, .slice A cards.length a, .slice D dead.length d, .slice G groups.length gc]) ∧ Hid (InI wr A8 c8 ids)) (fun i _ => groups.length - (intOf i).toNat)
          case atStart => exact ⟨0, by omega, rfl, ok_rest (b := ⟨seq, next, cs cards, dead, grps groups⟩) HSH.out HSQ.out HGR.out HLS.out, X.out, I8.out⟩
          case round =>
            clear X I8
            obtain ⟨k, hk, rfl, R, X, I8⟩ := hrel
            have q4 := X.out.2.cell (i := 4) rfl
            have bl := X.out.2.lt
            have hz := X.out.1.size
            by_cases hlt : k < groups.length
            · have d1 : decide ((k : Int) < (groups.length : Int)) = true := by simp; omega
              obtain ⟨b, off, hA, hb, hrow⟩ := HGG.out.at hlt
              have hmemk := List.getElem_mem hlt
              have e1 := (X.out.1.cell (p := ⟨b, off + k * 2 + 1, none⟩) hb).trans (grp_cells hrow hlt).2
              have HI := Lib.hid (HGM.out _ hmemk)
              have hml := HM.out _ hmemk
              have FIN := Lib.hid (mem_finR HID.out hlt R.out)
              obtain ⟨x, hx⟩ : ∃ x, x = groups[k] := ⟨_, rfl⟩
              rw [← hx] at e1 HI hml FIN
              have hi1 : (0 : Int) ≤ (k : Int) := by omega
              have hi2 : (k : Int) < (groups.length : Int) := by omega
              have hbw : b < wr.heap.size := by omega
              clear hrow hx hmemk R
              subst hA
              go_wp2_with (fail)
              have CM := fun w' h1 h2 => c_ref07_Minus x.mem ids x.A A8 x.c c8 w' h1 h2 hml
              rw [HIL.out] at CM
              refine (CM _ (HI.out.below X.out.1) I8.out).mono ?_
              rintro e w5 ⟨v5, rfl, own5, hb5⟩
              obtain ⟨A5, c5, rfl, -⟩ := own_form own5
              replace X := Lib.hid (X.out.step hb5)
              have I9 := Lib.hid (I8.out.below hb5)
              clear own5 hb5 e1 HI q4 bl hz I8
              by_cases hal : minusI x.mem ids = []
              case neg =>
                have RF := Lib.hid (FIN.out.1 hal)
                have l0 : 0 < (minusI x.mem ids).length := List.length_pos_iff.2 hal
                have l1 : decide (0 < ((minusI x.mem ids).length : Int)) = true := by simp; exact l0
                have l2 : decide (0 < (minusI x.mem ids).length) = true := decide_eq_true l0
                clear hal l0
                go_wp2_with (fail)
                go_ret
                rw [RF.out]
                exact RetV.of rfl X.out.1
              case pos =>
                have R2 := Lib.hid (FIN.out.2 hal)
                rw [hal]
                clear hal FIN
                go_wp2_with (fail)
                go_roundw
                case rel => exact ⟨k + 1, by omega, by go_num, R2.out, X.out, I9.out⟩
                case measure => simp [intOf]; omega
            · obtain rfl : k = groups.length := by omega
              have d1 : decide ((groups.length : Int) < (groups.length : Int)) = false := by simp
              have RT := Lib.hid (show Book.ok ⟨seq, next, cs cards, dead, grps groups⟩ = true by rw [← R.out, List.drop_of_length_le (by unfold grps; simp)]; rfl)
              go_wp2_with (fail)
              go_ret
              rw [RT.out]
              exact RetV.of rfl X.out.1
theorem c_ref20_Right (b : BQ) (w : World) (h : b.at_ w) (hmem : ∀ x ∈ b.groups, x.mem.length ≤ 1000000) : Calls Tryd.prog 13 #[.agg b.arr] w (RetV w (.bool b.book.ok)) :=
  ref20_Right b.seq b.next b.cards b.dead b.groups b.A b.a b.D b.d b.G b.g w h.cards h.dead h.groups h.mem h.fit hmem
end Go.Proofs.YtldoedmclfbgpaaDoor
namespace Go.Proofs.YtldoedmclfbgpaaDoor
open Go.RowKit

/-! How long a book's bytes may be. -/
theorem flat_le {α : Type} {f : α → List UInt8} {n : Nat} (h : ∀ x, (f x).length ≤ n) : ∀ l : List α, (l.flatMap f).length ≤ n * l.length
  | [] => by simp
  | x :: r => by
    have := h x
    have ih := flat_le h r
    rw [List.flatMap_cons, List.length_append, List.length_cons, Nat.mul_succ]
    omega
theorem deadB_len (d : Dead) : (deadB d).length ≤ 21 := by
  have h1 := (num_len d.id).2
  have h2 := (num_len d.ver).2
  have h3 := (num_len d.seq).2
  unfold deadB
  simp only [List.length_append]
  omega
theorem mems_len (l : List Int) : (l.flatMap num).length ≤ 7 * l.length := flat_le (fun x => (num_len x).2) l
theorem grpB_len {g : Grp} (h : g.mem.length ≤ 100) : (grpB g).length ≤ 714 := by
  have h1 := (num_len g.no).2
  have h2 := (num_len (g.mem.length : Int)).2
  have h3 := mems_len g.mem
  unfold grpB
  simp only [List.length_append]
  omega
theorem flat_at {α : Type} {f : α → List UInt8} {l : List α} {k : Nat} (h : k < l.length) : (l.take (k + 1)).flatMap f = (l.take k).flatMap f ++ f l[k] := by
  rw [List.take_succ_eq_append_getElem h, List.flatMap_append, List.flatMap_cons, List.flatMap_nil, List.append_nil]
/-- What stands ahead of the dead, of the groups. -/
def bk1 (seq next : Int) (n : Nat) : List UInt8 := num seq ++ (num next ++ num (n : Int))
def bk2 (seq next : Int) (cards : List Card) (m : Nat) : List UInt8 := bk1 seq next cards.length ++ cards.flatMap cardB ++ num (m : Int)
def bk3 (seq next : Int) (cards : List Card) (dead : List Dead) (g : Nat) : List UInt8 := bk2 seq next cards dead.length ++ dead.flatMap deadB ++ num (g : Int)
theorem bk_all {b : Book} (h : b.ok = true) : bk3 b.seq b.next b.cards b.dead b.groups.length ++ b.groups.flatMap grpB = bookB b := by
  rw [bookB_ok h]
  unfold bk3 bk2 bk1
  simp
theorem bk1_len (seq next : Int) (n : Nat) : (bk1 seq next n).length ≤ 21 := by
  have h1 := (num_len seq).2
  have h2 := (num_len next).2
  have h3 := (num_len (n : Int)).2
  unfold bk1
  simp only [List.length_append]
  omega
theorem bk2_len (seq next : Int) (cards : List Card) (m : Nat) : (bk2 seq next cards m).length ≤ 28 + 332 * cards.length := by
  have h1 := bk1_len seq next cards.length
  have h2 := flat_le cardB_len cards
  have h3 := (num_len (m : Int)).2
  unfold bk2
  simp only [List.length_append]
  omega
theorem bk3_len (seq next : Int) (cards : List Card) (dead : List Dead) (g : Nat) : (bk3 seq next cards dead g).length ≤ 35 + 332 * cards.length + 21 * dead.length := by
  have h1 := bk2_len seq next cards dead.length
  have h2 := flat_le deadB_len dead
  have h3 := (num_len (g : Int)).2
  unfold bk3
  simp only [List.length_append]
  omega
theorem grps_le : ∀ {l : List Grp}, (∀ g ∈ l, g.mem.length ≤ 100) → (l.flatMap grpB).length ≤ 714 * l.length
  | [], _ => by simp
  | x :: r, h => by
    have h1 := grpB_len (h x (List.mem_cons_self ..))
    have ih := grps_le (fun g hg => h g (List.mem_cons_of_mem _ hg))
    rw [List.flatMap_cons, List.length_append, List.length_cons, Nat.mul_succ]
    omega
theorem grps_len (l : List GQ) : (grps l).length = l.length := by unfold grps; simp
theorem grps_get {l : List GQ} {k : Nat} (h : k < l.length) : (grps l)[k]'(by rw [grps_len]; exact h) = l[k].g := by show (l.map GQ.g)[k]'(by simpa using h) = _; simp
theorem grps_few {l : List GQ} (h : ∀ x ∈ l, x.mem.length ≤ 100) : ∀ g ∈ grps l, g.mem.length ≤ 100 := by
  intro g hg
  obtain ⟨x, hx, rfl⟩ := List.mem_map.1 hg
  exact h x hx
/-- A dead card's cells, a group's member's. -/
theorem dead_cells {w : World} {b off k : Nat} {l : List Dead} (hrow : Row 3 Dead.cells w b off l) (h : k < l.length) :
    w.cell? ⟨b, off + k * 3, none⟩ = some (.int .i64 l[k].id) ∧ w.cell? ⟨b, off + k * 3 + 1, none⟩ = some (.int .i64 l[k].ver) ∧ w.cell? ⟨b, off + k * 3 + 2, none⟩ = some (.int .i64 l[k].seq) :=
  ⟨by have := hrow k h 0 _ rfl; simpa using this, hrow k h 1 _ rfl, hrow k h 2 _ rfl⟩
end Go.Proofs.YtldoedmclfbgpaaDoor
