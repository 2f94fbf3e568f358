/-
  Lemmas (walks and plain laws), in one text.
-/
import Derived.Test.YtldoedmclfbgpaaDoorBq1
import Derived.Test.YtldoedmclfbgpaaDoorBq2
import Derived.Test.YtldoedmclfbgpaaDoorBq3
import Derived.BigQuiet
import Derived.IntWalk
import Derived.Laws.CopyOwn
import Derived.Lib.EndianBits
import Derived.Outline
import Derived.Deep.CutBlock
import Derived.Deep.DeepCutAuto
import Derived.Test.YtldoedmclfbgpaaDoorProg
namespace Go.Proofs.YtldoedmclfbgpaaDoor
open Go.RowKit

theorem elemDead : Elem Tryd.prog 32 60 3 24 := Elem.mk' (z := .agg #[.int .i64 0, .int .i64 0, .int .i64 0]) Tryd.underlying32 (by kernel_rfl) rfl (by omega) (by omega)
theorem strDead : Str Tryd.prog 60 3 := ⟨⟨_, Tryd.underlying60, rfl⟩, by kernel_rfl⟩
def RetLoad (w : World) (ok : Bool) (e : Ending) (w' : World) : Prop := ∃ p : Option Addr, e = .returned (.tuple #[.pointer p, .bool ok]) ∧ Below w.heap.size w w'
theorem shelf_bad {next : Int} {cards : List Card} {dead : List Dead} (h : ¬ (1 ≤ next ∧ next ≤ 1073741824 ∧ cards.length ≤ 48 ∧ dead.length ≤ 40)) : shelfOk next cards dead = false := by unfold shelfOk; rw [decide_eq_false h]; rfl
theorem shelf_good {next : Int} {cards : List Card} {dead : List Dead} (h : 1 ≤ next ∧ next ≤ 1073741824 ∧ cards.length ≤ 48 ∧ dead.length ≤ 40) : shelfOk next cards dead = (cardsOk next 0 cards && deadsOk next cards [] 0 dead) := by unfold shelfOk; rw [decide_eq_true h]; rfl
def cs (l : List CQ) : List Card := l.map CQ.c
theorem cs_len (l : List CQ) : (cs l).length = l.length := by unfold cs; simp
theorem cs_get {l : List CQ} {k : Nat} (h : k < l.length) : (cs l)[k]'(by rw [cs_len]; exact h) = l[k].c := by show (l.map CQ.c)[k]'(by simpa using h) = _; simp
/-- What one round says of a card. -/
theorem card_fin {next last : Int} {c : Card} {r z : Bool} (h : (cardAt next last c && r) = z) : (c.ok = false → z = false) ∧ (¬ last < c.id → z = false) ∧ (¬ c.id < next → z = false) ∧ (c.ok = true → last < c.id → c.id < next → r = z) := by
  unfold cardAt at h
  refine ⟨fun e => ?_, fun e => ?_, fun e => ?_, fun e1 e2 e3 => ?_⟩
  · rw [e] at h; simpa using h.symm
  · rw [decide_eq_false e] at h; simpa using h.symm
  · rw [decide_eq_false e] at h; simpa using h.symm
  · rw [e1, decide_eq_true e2, decide_eq_true e3] at h; simpa using h
/-- A card of a slice, cell by cell. -/
theorem CQ.at {w : World} {A : Option Addr} {c : Nat} {l : List CQ} (h : In 27 CQ.cells w A c l) {k : Nat} (hk : k < l.length) :
    ∃ b off, A = some ⟨b, off, none⟩ ∧ b < w.heap.size ∧ ∀ w', Below w.heap.size w w' → ∀ j u, (l[k].c.arr)[j]? = some u → w'.cell? ⟨b, off + k * 27 + j, none⟩ = some u := by
  obtain ⟨b, off, hA, hb, hrow⟩ := h.at hk
  refine ⟨b, off, hA, hb, fun w' hw j u hu => ?_⟩
  exact (hrow.below hw hb) k hk j u (by unfold CQ.cells; rw [Array.getElem?_toList]; exact hu)
/-- The shelf while cards are put on it. -/
structure SL (w w1 : World) (s m : Nat) (next : Int) (l : List CQ) : Prop where
  S : Below w.heap.size w w1
  lo : w.heap.size ≤ m
  ms : m < s
  blk : Blk w1 s #[.int .i64 next, .map (some m), .slice none 0 0]
  map : MapAt w1 m (esA l) l.length
theorem SL.below {w w1 w2 : World} {s m : Nat} {next : Int} {l : List CQ} (h : SL w w1 s m next l) (hb : Below w1.heap.size w1 w2) : SL w w2 s m next l := ⟨h.S.trans (hb.mono h.S.size), h.lo, h.ms, h.blk.below hb h.blk.lt, h.map.below hb h.map.lt⟩
/-- A block that is none of them turns. -/
theorem SL.kept {w w1 w2 : World} {s m g : Nat} {next : Int} {l : List CQ} (h : SL w w1 s m next l) (hg : w.heap.size ≤ g) (h1 : g ≠ s) (h2 : g ≠ m) (k : Kept (some g) w1.heap.size w1 w2) : SL w w2 s m next l :=
  ⟨h.S.trans (k.oneB h.S.size hg), h.lo, h.ms, h.blk.kept k h.blk.lt (fun e => by injection e with e; exact h1 e), h.map.kept k h.map.lt (fun e => by injection e with e; exact h2 e)⟩
theorem SL.ins {w w1 w2 : World} {s m : Nat} {next : Int} {l : List CQ} {x : CQ} (h : SL w w1 s m next l) (hm : MapAt w2 m ((esA l).push { key := .int .i64 x.c.id, val := .agg x.c.arr, born := l.length }) (l.length + 1)) (k : Kept (some m) w1.heap.size w1 w2) : SL w w2 s m next (l ++ [x]) := by
  refine ⟨h.S.trans (k.oneB h.S.size h.lo), h.lo, h.ms, h.blk.kept k h.blk.lt (fun e => by injection e with e; have := h.ms; omega), ?_⟩
  rw [esA_push] at hm
  rw [List.length_append]
  exact hm
/-- While a card is put in. -/
structure IM (w : World) (s m g : Nat) (next : Int) (l : List CQ) (x : CQ) (L : Nat → Bool) (u : Nat → Value) (w1 : World) : Prop where
  sl : SL w w1 s m next (if L 7 = true then l ++ [x] else l)
  box : Blk w1 g x.c.arr
theorem IM.pure {w w1 : World} {s m g : Nat} {next : Int} {l : List CQ} {x : CQ} {L : Nat → Bool} {u : Nat → Value} {j : Nat} {z : Value} (h : IM w s m g next l x L u w1) (hj : j ≠ 7) : IM w s m g next l x (upd L j true) (upd u j z) w1 := by
  have e : upd L j true 7 = L 7 := upd_other _ _ (Ne.symm hj)
  exact ⟨by rw [e]; exact h.sl, h.box⟩
theorem IM.sl0 {w w1 : World} {s m g : Nat} {next : Int} {l : List CQ} {x : CQ} {L : Nat → Bool} {u : Nat → Value} (h : IM w s m g next l x L u w1) (h7 : L 7 = false) : SL w w1 s m next l := by
  have := h.sl
  rwa [if_neg (by rw [h7]; simp)] at this
theorem hasCard_above {l : List Card} {last id : Int} (h : ∀ x ∈ l, x.id ≤ last) (hl : last < id) : hasCard l id = false := by
  unfold hasCard
  rw [List.any_eq_false]
  intro x hx
  have := h x hx
  simp
  omega
/-- The shelf while the dead are put on it. -/
structure SD (w w1 : World) (s m : Nat) (next : Int) (l : List CQ) (v : Value) (d : List Dead) : Prop where
  S : Below w.heap.size w w1
  lo : w.heap.size ≤ m
  ms : m < s
  blk : Blk w1 s #[.int .i64 next, .map (some m), v]
  map : MapAt w1 m (esA l) l.length
  own : w1.ownsRow (s + 1) 60 3 v d.length (d.flatMap Dead.cells)
theorem SD.below {w w1 w2 : World} {s m : Nat} {next : Int} {l : List CQ} {v : Value} {d : List Dead} (h : SD w w1 s m next l v d) (hb : Below w1.heap.size w1 w2) : SD w w2 s m next l v d := ⟨h.S.trans (hb.mono h.S.size), h.lo, h.ms, h.blk.below hb h.blk.lt, h.map.below hb h.map.lt, own_below h.own hb⟩
theorem SD.at_ {w w1 : World} {s m : Nat} {next : Int} {l : List CQ} {v : Value} {d : List Dead} (h : SD w w1 s m next l v d) (hd : d.length ≤ 4294967296) : ShelfAt w1 s m next l v d := by
  obtain ⟨A, c, hv, hi⟩ := In.of_own Dead.cells_len h.own hd
  exact ⟨h.blk, h.map, A, c, hv, hi⟩
end Go.Proofs.YtldoedmclfbgpaaDoor
namespace Go.Proofs.YtldoedmclfbgpaaDoor
open Go.RowKit

def grps (l : List GQ) : List Grp := l.map GQ.g
theorem grps_at {l : List GQ} {k : Nat} (h : k < l.length) (last : Int) : grpsOk last ((grps l).drop k) = ((decide (last < l[k].no ∧ l[k].no < 16) && idsOk 0 l[k].mem) && grpsOk l[k].no ((grps l).drop (k + 1))) := by
  have h2 : k < (grps l).length := by unfold grps; simpa using h
  rw [grpsOk_at h2]
  have : (grps l)[k] = l[k].g := by show (l.map GQ.g)[k]'(by simpa using h) = _; simp
  rw [this]
  rfl
theorem grps_end {l : List GQ} (last : Int) : grpsOk last ((grps l).drop l.length) = true := by
  rw [List.drop_of_length_le (by unfold grps; simp)]; rfl
theorem grp_cells {w : World} {b off k : Nat} {l : List GQ} (hrow : Row 2 GQ.cells w b off l) (h : k < l.length) : w.cell? ⟨b, off + k * 2, none⟩ = some (.int .i64 l[k].no) ∧ w.cell? ⟨b, off + k * 2 + 1, none⟩ = some (.slice l[k].A l[k].mem.length l[k].c) :=
  ⟨hrow k h 0 _ rfl, hrow k h 1 _ rfl⟩
/-- What one round makes of the rest. -/
theorem grp_fin {last no : Int} {a r z : Bool} (h : ((decide (last < no ∧ no < 16) && a) && r) = z) :
    (¬ (last < no ∧ no < 16) → z = false) ∧ (a = false → z = false) ∧ ((last < no ∧ no < 16) → a = true → r = z) := by
  refine ⟨fun e => ?_, fun e => ?_, fun e1 e2 => ?_⟩
  · rw [decide_eq_false e] at h; simpa using h.symm
  · rw [e] at h; simpa using h.symm
  · rw [decide_eq_true e1, e2] at h; simpa using h
set_option maxHeartbeats 1000000 in
theorem c_group_Check (l : List GQ) (A : Option Addr) (c : Nat) (w : World) (h : In 2 GQ.cells w A c l) (hm : ∀ x ∈ l, InI w x.A x.c x.mem) : Calls Tryd.prog 46 #[.slice A l.length c] w (RetV w (.bool (grpsOk (-1) (grps l)))) := by
  have hL := h.1
  have hC := h.2.1
  have hS := h.2.2.1
  have H := Lib.hid h
  have HM := Lib.hid hm
  clear h hm
  go_enter Tryd.func46, Tryd.ntmps46
  go_wp2_with (fail)
  go_loopw [3, 5, 8] (fun v _ i wr => ∃ (k : Nat) (last : Int), k ≤ l.length ∧ i = .int .i64 k ∧ v = .int .i64 last ∧ Hid (grpsOk last ((grps l).drop k) = grpsOk (-1) (grps l)) ∧ Hid (Below w.heap.size w wr)) (fun _ _ i _ => l.length - (intOf i).toNat)
  case atStart => exact ⟨0, -1, by omega, rfl, rfl, rfl, Below.refl _ _⟩
  case round =>
    obtain ⟨k, last, hk, rfl, rfl, R, S⟩ := hrel
    by_cases hlt : k < l.length
    · have d1 : decide ((k : Int) < (l.length : Int)) = true := by simp; omega
      obtain ⟨b, off, hA, hb, hrow⟩ := (H.out.below S.out).at hlt
      obtain ⟨e0, e1⟩ := grp_cells hrow hlt
      have HI := Lib.hid ((HM.out _ (List.getElem_mem hlt)).below S.out)
      have FIN := Lib.hid (grp_fin ((grps_at hlt last).symm.trans R.out))
      obtain ⟨x, hx⟩ : ∃ x, x = l[k] := ⟨_, rfl⟩
      rw [← hx] at e0 e1 FIN HI
      have hi1 : (0 : Int) ≤ (k : Int) := by omega
      have hi2 : (k : Int) < (l.length : Int) := by omega
      have hz := S.out.size
      clear hx hrow R
      subst hA
      by_cases h1 : last < x.no
      · by_cases h2 : x.no < 16
        · have t1 : decide (x.no ≤ last) = false := by simp; omega
          have t2 : decide (16 ≤ x.no) = false := by simp; omega
          have HRG := Lib.hid (show last < x.no ∧ x.no < 16 from ⟨h1, h2⟩)
          clear h1 h2
          cases hid : idsOk 0 x.mem
          · have R3 := Lib.hid (FIN.out.2.1 hid)
            go_wp2_with (go_at_call 63; refine (c_ids_Check x.mem x.A x.c _ (HI.out.alloc _)).mono ?_; rintro e w2 ⟨rfl, hb2⟩)
            go_ret
            exact RetV.bool R3.out.symm (S.out.trans ((((Below.refl _ wr).alloc (Nat.le_refl _) _).trans (hb2.mono (by simp))).mono hz))
          · have R3 := Lib.hid (FIN.out.2.2 HRG.out hid)
            go_wp2_with (go_at_call 63; refine (c_ids_Check x.mem x.A x.c _ (HI.out.alloc _)).mono ?_; rintro e w2 ⟨rfl, hb2⟩; have q2 := fun o => hb2.cell (p := ⟨wr.heap.size, o, none⟩) (by simp))
            go_roundw
            case rel => exact ⟨k + 1, x.no, by omega, by go_num, rfl, R3.out, S.out.trans ((((Below.refl _ wr).alloc (Nat.le_refl _) _).trans (hb2.mono (by simp))).mono hz)⟩
            case measure => simp [intOf]; omega
        · have t1 : decide (x.no ≤ last) = false := by simp; omega
          have t2 : decide (16 ≤ x.no) = true := by simp; omega
          have R3 := Lib.hid (FIN.out.1 (by omega))
          clear h1 h2
          go_wp2_with (fail)
          go_ret
          exact RetV.bool R3.out.symm (S.out.trans (by repeat (first | exact Below.refl _ _ | refine Below.drew ?_ | refine Below.alloc ?_ (by first | omega | (simp; done) | (simp; omega)) _ | refine Below.setCell ?_ (by first | omega | (simp; done) | (simp; omega)) _ | refine Below.trans ?_ (Below.mono (by assumption) (by first | omega | (simp; done) | (simp; omega))))))
      · have t1 : decide (x.no ≤ last) = true := by simp; omega
        have R3 := Lib.hid (FIN.out.1 (by omega))
        clear h1
        go_wp2_with (fail)
        go_ret
        exact RetV.bool R3.out.symm (S.out.trans (by repeat (first | exact Below.refl _ _ | refine Below.drew ?_ | refine Below.alloc ?_ (by first | omega | (simp; done) | (simp; omega)) _ | refine Below.setCell ?_ (by first | omega | (simp; done) | (simp; omega)) _ | refine Below.trans ?_ (Below.mono (by assumption) (by first | omega | (simp; done) | (simp; omega))))))
    · obtain rfl : k = l.length := by omega
      have d1 : decide ((l.length : Int) < (l.length : Int)) = false := by simp
      have R3 := Lib.hid (show grpsOk (-1) (grps l) = true by rw [← R.out]; exact grps_end last)
      go_wp2_with (fail)
      go_ret
      exact RetV.bool R3.out.symm S.out
set_option maxHeartbeats 1000000 in
theorem c_ref17_Check (l : List GQ) (A : Option Addr) (c : Nat) (w : World) (h : In 2 GQ.cells w A c l) (hm : ∀ x ∈ l, InI w x.A x.c x.mem) : Calls Tryd.prog 33 #[.slice A l.length c] w (RetV w (.bool (grpsOk (-1) (grps l)))) := by
  have hL := h.1
  have hC := h.2.1
  have hS := h.2.2.1
  have H := Lib.hid h
  have HM := Lib.hid hm
  clear h hm
  go_enter Tryd.func33, Tryd.ntmps33
  go_wp2_with (fail)
  go_loopw [3] (fun i wr => ∃ (k : Nat) (last : Int), k ≤ l.length ∧ i = .int .i64 k ∧ Hid ((k = 0 ∧ last = -1) ∨ (∃ h : k - 1 < l.length, 0 < k ∧ last = l[k - 1].no ∧ 0 ≤ last)) ∧ Hid (grpsOk last ((grps l).drop k) = grpsOk (-1) (grps l)) ∧ Hid (Below w.heap.size w wr)) (fun i _ => l.length - (intOf i).toNat)
  case atStart => exact ⟨0, -1, by omega, rfl, .inl ⟨rfl, rfl⟩, rfl, Below.refl _ _⟩
  case round =>
    obtain ⟨k, last, hk, rfl, PV, R, S⟩ := hrel
    by_cases hlt : k < l.length
    · have d1 : decide ((k : Int) < (l.length : Int)) = true := by simp; omega
      obtain ⟨b, off, hA, hb, hrow⟩ := (H.out.below S.out).at hlt
      obtain ⟨e0, e1⟩ := grp_cells hrow hlt
      have HI := Lib.hid ((HM.out _ (List.getElem_mem hlt)).below S.out)
      have FIN := Lib.hid (grp_fin ((grps_at hlt last).symm.trans R.out))
      obtain ⟨x, hx⟩ : ∃ x, x = l[k] := ⟨_, rfl⟩
      have NX : Hid (0 ≤ x.no → ∃ h : k + 1 - 1 < l.length, 0 < k + 1 ∧ x.no = l[k + 1 - 1].no ∧ 0 ≤ x.no) := Lib.hid (fun h1 => ⟨by omega, by omega, by rw [hx]; simp, h1⟩)
      rw [← hx] at e0 e1 FIN HI
      have hi1 : (0 : Int) ≤ (k : Int) := by omega
      have hi2 : (k : Int) < (l.length : Int) := by omega
      have hz := S.out.size
      clear hx R
      subst hA
      by_cases h1 : 0 ≤ x.no
      case neg =>
        have t1 : decide (x.no < 0) = true := by simp; omega
        have hlast : -1 ≤ last := by rcases PV.out with ⟨-, e⟩ | ⟨-, -, -, e⟩ <;> omega
        have R3 := Lib.hid (FIN.out.1 (by omega))
        clear h1 hrow hlast
        go_wp2_with (fail)
        refine wp_region_grow (by kernel_rfl) (by kernel_rfl) ?_
        repeat (go_big_quiet_step ((first | (fail))))
        refine wpQuiet_nil ?_
        intro w2 hb2
        have S2 := Lib.hid (S.out.trans (hb2.mono hz))
        clear hb2
        go_wp2_with (fail)
        go_ret
        exact RetV.bool R3.out.symm S2.out
      case pos =>
      have t1 : decide (x.no < 0) = false := by simp; omega
      by_cases h2 : x.no < 16
      case neg =>
        have t2 : decide (16 ≤ x.no) = true := by simp; omega
        have R3 := Lib.hid (FIN.out.1 (by omega))
        clear h1 h2 hrow
        go_wp2_with (fail)
        refine wp_region_grow (by kernel_rfl) (by kernel_rfl) ?_
        repeat (go_big_quiet_step ((first | (fail))))
        refine wpQuiet_nil ?_
        intro w2 hb2
        have S2 := Lib.hid (S.out.trans (hb2.mono hz))
        clear hb2
        go_wp2_with (fail)
        go_ret
        exact RetV.bool R3.out.symm S2.out
      case pos =>
      have t2 : decide (16 ≤ x.no) = false := by simp; omega
      have N3 := Lib.hid (NX.out h1)
      rcases PV.out with ⟨rfl, rfl⟩ | ⟨hp, h0k, hlast, h0l⟩
      · have z0 : decide ((0 : Int) < (0 : Int)) = false := by simp
        rw [Nat.zero_mul, Nat.add_zero] at e0 e1
        have HRG := Lib.hid (show (-1 : Int) < x.no ∧ x.no < 16 from ⟨by omega, h2⟩)
        clear hrow h1 h2
        cases hid : idsOk 0 x.mem
        · have R3 := Lib.hid (FIN.out.2.1 hid)
          go_wp2_with (fail)
          refine wp_region_grow (by kernel_rfl) (by kernel_rfl) ?_
          repeat (go_big_quiet_step ((first | (go_at_call 53; exact quiet_grow (c_ref07_Check x.mem x.A x.c _ (HI.out.grow _))))))
          refine wpQuiet_nil ?_
          intro w2 hb2
          have S2 := Lib.hid (S.out.trans (hb2.mono hz))
          clear hb2 hid
          go_wp2_with (fail)
          go_ret
          exact RetV.bool R3.out.symm S2.out
        · have R3 := Lib.hid (FIN.out.2.2 HRG.out hid)
          go_wp2_with (fail)
          refine wp_region_grow (by kernel_rfl) (by kernel_rfl) ?_
          repeat (go_big_quiet_step ((first | (go_at_call 53; exact quiet_grow (c_ref07_Check x.mem x.A x.c _ (HI.out.grow _))))))
          refine wpQuiet_nil ?_
          intro w2 hb2
          have S2 := Lib.hid (S.out.trans (hb2.mono hz))
          clear hb2 hid
          go_wp2_with (fail)
          go_roundw
          case rel => exact ⟨1, x.no, by omega, by go_num, .inr N3.out, R3.out, S2.out⟩
          case measure => simp [intOf]; omega
      · have z0 : decide ((0 : Int) < (k : Int)) = true := by simp; omega
        obtain ⟨m, hkm⟩ : ∃ m, m = k - 1 := ⟨_, rfl⟩
        have e2 : wr.cell? ⟨b, off + m * 2, none⟩ = some (.int .i64 last) := by have := (grp_cells hrow (show m < l.length by omega)).1; subst hkm; rw [hlast]; simpa using this
        have hm1 : (k : Int) - 1 = (m : Int) := by omega
        have hi3 : (0 : Int) ≤ (m : Int) := by omega
        have hi4 : (m : Int) < (l.length : Int) := by omega
        clear hrow hlast hp PV hkm
        by_cases h3 : last < x.no
        · have t3 : decide (x.no ≤ last) = false := by simp; omega
          have HRG := Lib.hid (show last < x.no ∧ x.no < 16 from ⟨h3, h2⟩)
          clear h1 h2 h3
          cases hid : idsOk 0 x.mem
          · have R3 := Lib.hid (FIN.out.2.1 hid)
            go_wp2_with (fail)
            refine wp_region_grow (by kernel_rfl) (by kernel_rfl) ?_
            repeat (go_big_quiet_step ((first | (go_at_call 53; exact quiet_grow (c_ref07_Check x.mem x.A x.c _ (HI.out.grow _))))))
            refine wpQuiet_nil ?_
            intro w2 hb2
            have S2 := Lib.hid (S.out.trans (hb2.mono hz))
            clear hb2 hid
            go_wp2_with (fail)
            go_ret
            exact RetV.bool R3.out.symm S2.out
          · have R3 := Lib.hid (FIN.out.2.2 HRG.out hid)
            go_wp2_with (fail)
            refine wp_region_grow (by kernel_rfl) (by kernel_rfl) ?_
            repeat (go_big_quiet_step ((first | (go_at_call 53; exact quiet_grow (c_ref07_Check x.mem x.A x.c _ (HI.out.grow _))))))
            refine wpQuiet_nil ?_
            intro w2 hb2
            have S2 := Lib.hid (S.out.trans (hb2.mono hz))
            clear hb2 hid
            go_wp2_with (fail)
            go_roundw
            case rel => exact ⟨k + 1, x.no, by omega, by go_num, .inr N3.out, R3.out, S2.out⟩
            case measure => simp [intOf]; omega
        · have t3 : decide (x.no ≤ last) = true := by simp; omega
          have R3 := Lib.hid (FIN.out.1 (by omega))
          clear h1 h2 h3
          go_wp2_with (fail)
          refine wp_region_grow (by kernel_rfl) (by kernel_rfl) ?_
          repeat (go_big_quiet_step ((first | (fail))))
          refine wpQuiet_nil ?_
          intro w2 hb2
          have S2 := Lib.hid (S.out.trans (hb2.mono hz))
          clear hb2
          go_wp2_with (fail)
          go_ret
          exact RetV.bool R3.out.symm S2.out
    · obtain rfl : k = l.length := by omega
      have d1 : decide ((l.length : Int) < (l.length : Int)) = false := by simp
      have R3 := Lib.hid (show grpsOk (-1) (grps l) = true by rw [← R.out]; exact grps_end last)
      go_wp2_with (fail)
      go_ret
      exact RetV.bool R3.out.symm S.out
end Go.Proofs.YtldoedmclfbgpaaDoor
namespace Go.Proofs.YtldoedmclfbgpaaDoor
open Go.RowKit

theorem wpQuiet_loadAt {P : Program} {ops : Array Oper} {C : World → Prop} {Q : Act → Prop} {o : Oper} {rest : List Oper} {a : Act} (hw : Region.wanted o (yielded ops a.tmps) = true) (ty : TypeId) (x : Operand) (ho : o.op = .load ty x)
    (g off : Nat) (hx : a.eval x = .pointer (some ⟨g, off, none⟩)) (cs : Array Value) (hcell : ∀ w, C w → ∀ (j : Nat) u, cs[j]? = some u → w.cell? ⟨g, off + j, none⟩ = some u) {n : Nat} (S : Str P ty n) (hn : cs.size = n)
    (h : wpQuiet P ops C Q rest (a.put o.dst (.agg cs))) : wpQuiet P ops C Q (o :: rest) a := by
  refine BigFrame.wpQuiet_want hw fun K hK => ⟨.agg cs, fun w hc => ?_, hK _ h⟩
  unfold Oper.quietAt execOp
  simp only [ho, hx, Instr.loadAt, Instr.sureAddr, Sem.run_bind, Sem.run_pure, Result.andThen_ok, run_loadVar_at g off cs ty (hcell w hc) S hn]
  exact ⟨rfl, rfl⟩
theorem CQ.id_at {w : World} {b off k : Nat} {l : List CQ} (hrow : Row 27 CQ.cells w b off l) (h : k < l.length) : w.cell? ⟨b, off + k * 27, none⟩ = some (.int .i64 l[k].c.id) :=
  hrow k h 0 _ (by unfold CQ.cells; rw [Array.getElem?_toList]; exact l[k].c.arr_head.1)
set_option maxHeartbeats 1000000 in
theorem c_ref18_place (next : Int) (l : List CQ) (A : Option Addr) (c : Nat) (v : Value) (id : Int) (w : World) (hc : In 27 CQ.cells w A c l) : Calls Tryd.prog 52 #[.agg #[.int .i64 next, .slice A l.length c, v], .int .i64 id] w (RetV w (.int .i64 (placeI id (cs l) 0))) := by
  have hL := hc.1
  have hC := hc.2.1
  have hS := hc.2.2.1
  have HC := Lib.hid hc
  have B0 := Lib.hid (At.new w 74 #[.int .i64 next, .slice A l.length c, v])
  clear hc
  go_enter Tryd.func52, Tryd.ntmps52
  go_wp2_with (fail)
  go_loopw [5] (fun i wr => ∃ k : Nat, k ≤ l.length ∧ i = .int .i64 k ∧ Hid (placeI id ((cs l).drop k) k = placeI id (cs l) 0) ∧ Hid (At w wr #[.int .i64 next, .slice A l.length c, v])) (fun i _ => l.length - (intOf i).toNat)
  case atStart => exact ⟨0, by omega, rfl, rfl, B0.out⟩
  case round =>
    clear B0
    obtain ⟨k, hk, rfl, R, X⟩ := hrel
    have q1 := X.out.2.cell (i := 1) rfl
    have bl := X.out.2.lt
    by_cases hlt : k < l.length
    · have d1 : decide ((k : Int) < (l.length : Int)) = true := by simp; omega
      obtain ⟨b, off, hA, hb, hrow⟩ := HC.out.at hlt
      have e0 := (X.out.1.cell (p := ⟨b, off + k * 27, none⟩) hb).trans (CQ.id_at hrow hlt)
      have R2 := Lib.hid (show (if l[k].c.id = id then (k : Int) else placeI id ((cs l).drop (k + 1)) (k + 1)) = placeI id (cs l) 0 by rw [← R.out, placeI_at (l := cs l) (k := k) id (by rw [cs_len]; exact hlt), cs_get hlt])
      obtain ⟨y, hy⟩ : ∃ y, y = l[k].c.id := ⟨_, rfl⟩
      rw [← hy] at e0 R2
      have hi1 : (0 : Int) ≤ (k : Int) := by omega
      have hi2 : (k : Int) < (l.length : Int) := by omega
      have hbw : b < wr.heap.size := Nat.lt_of_lt_of_le hb X.out.1.size
      clear hy hrow R
      subst hA
      by_cases h1 : y = id
      · have t1 : (y == id) = true := by simpa using h1
        have R3 := Lib.hid (show placeI id (cs l) 0 = (k : Int) by rw [← R2.out, if_pos h1])
        clear h1 R2
        go_wp2_with (fail)
        go_ret
        rw [R3.out]
        exact RetV.of rfl X.out.1
      · have t1 : (y == id) = false := by simpa using h1
        have R3 := Lib.hid (show placeI id ((cs l).drop (k + 1)) (k + 1) = placeI id (cs l) 0 by rw [← R2.out, if_neg h1])
        clear h1 R2
        go_wp2_with (fail)
        go_roundw
        case rel => exact ⟨k + 1, by omega, by go_num, R3.out, X.out⟩
        case measure => simp [intOf]; omega
    · obtain rfl : k = l.length := by omega
      have d1 : decide ((l.length : Int) < (l.length : Int)) = false := by simp
      have R3 := Lib.hid (show placeI id (cs l) 0 = -1 by rw [← R.out, List.drop_of_length_le (by rw [cs_len]; exact Nat.le_refl _)]; rfl)
      go_wp2_with (fail)
      go_ret
      rw [R3.out]
      exact RetV.of rfl X.out.1
end Go.Proofs.YtldoedmclfbgpaaDoor
namespace Go.Proofs.YtldoedmclfbgpaaDoor
open Go.RowKit

def hasX (l : List Int) (x : Int) : Bool := l.any fun y => decide (y = x)
def minusI (a b : List Int) : List Int := a.filter fun x => !hasX b x
set_option maxHeartbeats 400000 in
theorem c_ref07_Has (l : List Int) (A : Option Addr) (c : Nat) (x : Int) (w : World) (h : InI w A c l) : Calls Tryd.prog 54 #[.slice A l.length c, .int .i64 x] w (RetV w (.bool (hasX l x))) := by
  have hL := h.1
  have hC := h.2.1
  have hS := h.2.2.1
  have H := Lib.hid h
  clear h
  go_enter Tryd.func54, Tryd.ntmps54
  go_wp2_with (fail)
  go_loopw [5] (fun i wr => ∃ (k : Nat), k ≤ l.length ∧ i = .int .i64 k ∧ Hid (hasX (l.drop k) x = hasX l x) ∧ Hid (Below w.heap.size w wr)) (fun i _ => l.length - (intOf i).toNat)
  case atStart => exact ⟨0, by omega, rfl, rfl, Below.refl _ _⟩
  case round =>
    obtain ⟨k, hk, rfl, R, S⟩ := hrel
    by_cases hlt : k < l.length
    · have d1 : decide ((k : Int) < (l.length : Int)) = true := by simp; omega
      obtain ⟨b, off, hA, hb, hrow⟩ := (H.out.below S.out).at hlt
      have e0 : wr.cell? ⟨b, off + k, none⟩ = some (.int .i64 l[k]) := by have := hrow k hlt 0 _ rfl; simpa using this
      have R2 := Lib.hid (show (decide (l[k] = x) || hasX (l.drop (k + 1)) x) = hasX l x by rw [← R.out, drop_at hlt]; rfl)
      obtain ⟨y, hy⟩ : ∃ y, y = l[k] := ⟨_, rfl⟩
      rw [← hy] at e0 R2
      have hi1 : (0 : Int) ≤ (k : Int) := by omega
      have hi2 : (k : Int) < (l.length : Int) := by omega
      clear hy hrow R
      subst hA
      by_cases h1 : y = x
      · have t1 : (y == x) = true := by simpa using h1
        have R3 := Lib.hid (show hasX l x = true by rw [← R2.out, decide_eq_true h1]; rfl)
        clear h1
        go_wp2_with (fail)
        go_ret
        exact RetV.bool R3.out.symm S.out
      · have t1 : (y == x) = false := by simpa using h1
        have R3 := Lib.hid (show hasX (l.drop (k + 1)) x = hasX l x by rw [← R2.out, decide_eq_false h1]; rfl)
        clear h1
        go_wp2_with (fail)
        go_roundw
        case rel => exact ⟨k + 1, by omega, by go_num, R3.out, S.out⟩
        case measure => simp [intOf]; omega
    · obtain rfl : k = l.length := by omega
      have d1 : decide ((l.length : Int) < (l.length : Int)) = false := by simp
      have R3 := Lib.hid (show hasX l x = false by rw [← R.out, List.drop_length]; rfl)
      go_wp2_with (fail)
      go_ret
      exact RetV.bool R3.out.symm S.out
theorem minus_at {a b : List Int} {k : Nat} (h : k < a.length) : minusI (a.take (k + 1)) b = minusI (a.take k) b ++ (if hasX b a[k] then [] else [a[k]]) := by
  unfold minusI
  rw [List.take_succ_eq_append_getElem h, List.filter_append]
  cases e : hasX b a[k] <;> simp [e]
theorem minus_len (a b : List Int) : (minusI a b).length ≤ a.length := List.length_filter_le _ _
set_option maxHeartbeats 400000 in
theorem c_ref07_Minus (a b : List Int) (A B : Option Addr) (ca cb : Nat) (w : World) (ha : InI w A ca a) (hb : InI w B cb b) (hal : a.length ≤ 1000000) :
    Calls Tryd.prog 34 #[.slice A a.length ca, .slice B b.length cb] w (RetS 1 ic 3 w (minusI a b)) := by
  have hL := ha.1
  have hC := ha.2.1
  have hS := ha.2.2.1
  have HA := Lib.hid ha
  have HB := Lib.hid hb
  clear ha hb
  go_enter Tryd.func34, Tryd.ntmps34
  go_wp2_with (fail)
  have B0 := Lib.hid (show Below w.heap.size w (w.alloc (.cells #[] 3)) from (Below.refl _ _).alloc (Nat.le_refl _) _)
  have O0 := Lib.hid (World.ownsRow_lit w (e := 3) (size := 1) #[] 0 (Nat.le_refl _) (by unfold maxLen; omega) (by simp))
  go_loopw [5, 6] (fun v i wr => ∃ (k : Nat), k ≤ a.length ∧ i = .int .i64 k ∧ Hid (wr.ownsRow w.heap.size 3 1 v (minusI (a.take k) b).length ((minusI (a.take k) b).flatMap ic)) ∧ Hid (Below w.heap.size w wr)) (fun _ i _ => a.length - (intOf i).toNat)
  case atStart => exact ⟨0, by omega, rfl, O0.out, B0.out⟩
  case round =>
    clear B0 O0
    obtain ⟨k, hk, rfl, O, S⟩ := hrel
    obtain ⟨l, hl⟩ : ∃ l, l = minusI (a.take k) b := ⟨_, rfl⟩
    have hll : l.length ≤ 1000000 := by have := minus_len (a.take k) b; rw [← hl, List.length_take] at this; omega
    rw [← hl] at O
    have hz := S.out.size
    obtain ⟨A1, c1, rfl, -⟩ := own_form O.out
    by_cases hlt : k < a.length
    · have d1 : decide ((k : Int) < (a.length : Int)) = true := by simp; omega
      obtain ⟨bb, off, hA, hbb, hrow⟩ := HA.out.at hlt
      have e0 : w.cell? ⟨bb, off + k, none⟩ = some (.int .i64 a[k]) := by have := hrow k hlt 0 _ rfl; simpa using this
      have HM := Lib.hid (show minusI (a.take (k + 1)) b = l ++ (if hasX b a[k] then [] else [a[k]]) by rw [minus_at hlt, hl])
      obtain ⟨y, hy⟩ : ∃ y, y = a[k] := ⟨_, rfl⟩
      rw [← hy] at e0 HM
      have e1 := (S.out.cell (p := ⟨bb, off + k, none⟩) hbb).trans e0
      have hi1 : (0 : Int) ≤ (k : Int) := by omega
      have hi2 : (k : Int) < (a.length : Int) := by omega
      have hbb2 : bb < wr.heap.size := by omega
      clear hy hrow e0 hl
      subst hA
      go_wp2_with (fail)
      refine (c_ref07_Has b B cb y _ (HB.out.below S.out)).mono ?_
      rintro e w2 ⟨rfl, hb2⟩
      have e2 := (hb2.cell (p := ⟨bb, off + k, none⟩) hbb2).trans e1
      have hbb3 : bb < w2.heap.size := by have := hb2.size; omega
      replace O := Lib.hid (own_below O.out hb2)
      replace S := Lib.hid (S.out.trans (hb2.mono hz))
      have hz2 := S.out.size
      clear hb2 e1
      cases hh : hasX b y
      · have HM2 := Lib.hid (show minusI (a.take (k + 1)) b = l ++ [y] by rw [HM.out, hh]; rfl)
        clear hh
        go_wp2_with ((at_builtin; refine Stop.out ?_))
        refine Stop.mk (wpList_app _ rfl _ _ elemInt rfl w.heap.size (.slice A1 l.length c1) l.length _ rfl (own_below O.out ((Below.refl _ _).alloc (Nat.le_refl _) _)) _ 1 1 (ic y) rfl (Src.new w2 (ic y) _ 1 rfl) (by simp [ic, Value.oneCell']) (by omega) (by simp; omega) ?_)
        intro v3 w3 own3 _ hb3 _
        have S3 := Lib.hid (S.out.trans (Below.trans (b := w2.alloc (.cells #[.int .i64 y] 3)) ((Below.refl _ _).alloc hz2 _) hb3))
        have O3 := Lib.hid (show w3.ownsRow w.heap.size 3 1 v3 (minusI (a.take (k + 1)) b).length ((minusI (a.take (k + 1)) b).flatMap ic) by rw [HM2.out]; simpa [ic] using own3)
        clear own3 hb3
        go_wp2_with (fail)
        go_roundw
        case rel => exact ⟨k + 1, by omega, by go_num, O3.out, S3.out⟩
        case measure => simp [intOf]; omega
      · have O3 := Lib.hid (show w2.ownsRow w.heap.size 3 1 (.slice A1 l.length c1) (minusI (a.take (k + 1)) b).length ((minusI (a.take (k + 1)) b).flatMap ic) by rw [HM.out, hh]; simpa using O.out)
        clear hh
        go_wp2_with (fail)
        go_roundw
        case rel => exact ⟨k + 1, by omega, by go_num, O3.out, S.out⟩
        case measure => simp [intOf]; omega
    · obtain rfl : k = a.length := by omega
      have d1 : decide ((a.length : Int) < (a.length : Int)) = false := by simp
      have HL := Lib.hid (show l = minusI a b by rw [hl, List.take_length])
      clear hl
      go_wp2_with (fail)
      go_ret
      rw [← HL.out]
      exact ⟨_, rfl, O.out, S.out⟩
end Go.Proofs.YtldoedmclfbgpaaDoor
namespace Go.Proofs.YtldoedmclfbgpaaDoor
open Go.RowKit

theorem Card.row {p : Card} {w : World} {g : Nat} (h : Blk w g p.arr) {k : Nat} (hk : k < p.f.length) : w.cell? ⟨g, 3 + k * 3, none⟩ = some (.int .i64 p.f[k].kind) ∧ w.cell? ⟨g, 3 + k * 3 + 1, none⟩ = some (.int .i64 p.f[k].n) ∧ w.cell? ⟨g, 3 + k * 3 + 2, none⟩ = some (.string (str p.f[k].s)) := by
  obtain ⟨h0, h1, h2⟩ := Card.arr_val (c := p) hk
  exact ⟨h.cell h0, h.cell h1, h.cell h2⟩
theorem Card.part {p : Card} {w : World} {g : Nat} (h : Blk w g p.arr) (j : Nat) (u : Value) (hu : (farr p.f)[j]? = some u) : w.cell? ⟨g, 3 + j, none⟩ = some u := h.cell (by rw [Card.arr_tail]; exact hu)
set_option maxHeartbeats 2000000 in
set_option maxRecDepth 4000 in
theorem c_cardwire_PutCard (b : List UInt8) (B : Option Addr) (cb : Nat) (p : Card) (w : World) (hb : InB w B cb b) (hbl : b.length ≤ 1000000) (hf : p.f.length = 8) (hs : ∀ x ∈ p.f, x.s.length ≤ 4294967000) :
    Calls Tryd.prog 37 #[.slice B b.length cb, .agg p.arr] w (RetS 1 bc 5 w (b ++ cardB p)) := by
  have hL' := hb.1
  have hC' := hb.2.1
  obtain ⟨h0, h1, h2⟩ := p.arr_head
  have HF := Lib.hid hf
  have hsz : p.arr.size = 27 := by rw [Card.arr_size, hf]
  have HZ := Lib.hid hsz
  clear hsz
  by_cases hok : p.ok = true
  case neg =>
    have H : Hid (b = b ++ cardB p) := by show _ = _; rw [cardB_bad (by simpa using hok), List.append_nil]
    have hne : p.ok = false := by simpa using hok
    clear hok hf
    go_enter Tryd.func37, Tryd.ntmps37
    go_wp2_with (first
      | (with_reducible refine stop_load 56 (.tmp 3) rfl rfl ?_))
    refine Stop.mk (wpList_loadB rfl _ _ rfl w.heap.size rfl p.arr (Blk.new _ _ _) strC HZ.out ?_)
    go_wp2_with (first
      | (go_at_call 35; refine (c_Clone_b b B cb _ ((hb.below (by repeat (first | exact Below.refl _ _ | refine Below.drew ?_ | refine Below.alloc ?_ (by first | omega | (simp; done) | (simp; omega)) _ | refine Below.setCell ?_ (by first | omega | (simp; done) | (simp; omega)) _ | refine Below.trans ?_ (Below.mono (by assumption) (by first | omega | (simp; done) | (simp; omega)))))).below hb1)).mono ?_; rintro e w2 ⟨v2, rfl, own2, hb2⟩)
      | (go_at_call 55; refine (c_card_Check p _ HF.out hs).mono ?_; rintro e w1 ⟨rfl, hb1⟩; have hz1 := hb1.size; simp only [World.size_alloc] at hz1))
    go_ret
    exact RetS.of own2 (by omega) H.out (by repeat (first | exact Below.refl _ _ | refine Below.drew ?_ | refine Below.alloc ?_ (by first | omega | (simp; done) | (simp; omega)) _ | refine Below.setCell ?_ (by first | omega | (simp; done) | (simp; omega)) _ | refine Below.trans ?_ (Below.mono (by assumption) (by first | omega | (simp; done) | (simp; omega)))))
  obtain ⟨a1, a2, a3, a4, a5, a6⟩ := Card.ok_bds hok
  have a6' := Lib.hid a6
  have Hok := Lib.hid hok
  clear hf a6
  have hn1 := (num_len p.id).2
  have hn2 := (num_len p.ver).2
  have hn3 := (num_len p.lab).2
  have hn4 := (num_len (maskTo p.f 8)).2
  have EI : Elem Tryd.prog 63 3 1 8 := Elem.mk' (z := .int .i64 0) Tryd.underlying63 (by kernel_rfl) rfl (by omega) (by omega)
  have H : Hid (b ++ num p.id ++ num p.ver ++ num p.lab ++ num (maskTo p.f 8) ++ bodyF p.f ((kindsTo p.f 8).drop 0) = b ++ cardB p) := by show _ = _; rw [cardB_ok Hok.out, List.drop_zero]; simp
  go_enter Tryd.func37, Tryd.ntmps37
  go_wp2_with (first
    | (with_reducible refine stop_load 56 (.tmp 3) rfl rfl ?_))
  refine Stop.mk (wpList_loadB rfl _ _ rfl w.heap.size rfl p.arr (Blk.new _ _ _) strC HZ.out ?_)
  go_wp2_with (first
    | (with_reducible refine stop_load 54 (.tmp 15) rfl rfl ?_)
    | (go_at_call 55; refine (c_card_Check p _ HF.out hs).mono ?_; rintro e w1 ⟨rfl, hb1⟩; have hz1 := hb1.size; simp only [World.size_alloc] at hz1; have B1 := Lib.hid ((Blk.new w 56 p.arr).below hb1 (by simp)); have hb1' : Below w.heap.size w w1 := ((Below.refl _ _).alloc (Nat.le_refl _) _).trans (hb1.mono (by simp))))
  refine Stop.mk (wpList_loadAt rfl _ _ rfl w.heap.size 3 rfl (farr p.f) (Card.part B1.out) strF (by rw [farr_size, HF.out]) ?_)
  go_wp2
  go_loopw [5, 6, 7, 17] (fun v _ _ i wr => ∃ k : Nat, k ≤ 8 ∧ i = .int .i64 k ∧ Hid (wr.ownsRow (w.heap.size + 1) 3 1 v (kindsTo p.f k).length ((ints (kindsTo p.f k)).flatMap ic)) ∧ Below w.heap.size w wr ∧ Blk wr w.heap.size p.arr) (fun _ _ _ i _ => 8 - (intOf i).toNat)
  case atStart => exact ⟨0, by omega, rfl, World.ownsRow_nil _ _ _ _, hb1', B1.out⟩
  case round =>
    clear hb1 hb1' B1
    obtain ⟨k, hk, rfl, O, hbl', hB⟩ := hrel
    have hbz := hbl'.size
    have hzl := hB.lt
    by_cases hlt : k < 8
    · have hnf : k < p.f.length := by have := HF.out; omega
      have ki := fun w => index_farr HF.out k hlt w
      have hkl := kindsTo_len p.f k
      obtain ⟨A1, c1, rfl, hc1, hc2⟩ := own_form O.out
      by_cases hkd : p.f[k].kind = 0
      · have hx : (p.f[k].kind != 0) = false := by simp [hkd]
        have EK := Lib.hid (kindsTo_no (f := p.f) (k := k) (by rw [at8_eq hnf]; exact hkd))
        have HK := Lib.hid hkd
        clear hkd
        go_wp2
        go_roundw
        case rel => exact ⟨k + 1, by omega, by go_num, by show World.ownsRow _ _ _ _ _ _ _; rw [EK.out]; exact own_below O.out (by repeat (first | exact Below.refl _ _ | refine Below.drew ?_ | refine Below.alloc ?_ (by first | omega | (simp; done) | (simp; omega)) _ | refine Below.setCell ?_ (by first | omega | (simp; done) | (simp; omega)) _ | refine Below.trans ?_ (Below.mono (by assumption) (by first | omega | (simp; done) | (simp; omega))))), hbl'.trans (by repeat (first | exact Below.refl _ _ | refine Below.drew ?_ | refine Below.alloc ?_ (by first | omega | (simp; done) | (simp; omega)) _ | refine Below.setCell ?_ (by first | omega | (simp; done) | (simp; omega)) _ | refine Below.trans ?_ (Below.mono (by assumption) (by first | omega | (simp; done) | (simp; omega))))), hB.below ((Below.refl _ _).alloc (Nat.le_refl _) _) hB.lt⟩
        case measure => simp [intOf]; omega
      · have hx : (p.f[k].kind != 0) = true := by simpa using hkd
        have EK := Lib.hid (kindsTo_yes (f := p.f) (k := k) (by rw [at8_eq hnf]; exact hkd))
        clear hkd
        go_wp2_with ((at_builtin; refine Stop.out ?_))
        refine Stop.mk (wpList_app _ rfl (.tmp 24) (.tmp 26) EI rfl (w.heap.size + 1) (.slice A1 (kindsTo p.f k).length c1) (kindsTo p.f k).length ((ints (kindsTo p.f k)).flatMap ic) rfl (own_below (own_below O.out ((Below.refl _ _).alloc (Nat.le_refl _) _)) ((Below.refl _ _).alloc (Nat.le_refl _) _)) _ 1 1 [.int .i64 k] rfl (by have := Src.new (wr.alloc (.cells #[.int .i64 p.f[k].kind, .int .i64 p.f[k].n, .string (str p.f[k].s)] 53)) [.int .i64 k] 3 1 rfl; simpa using this) (by simp [Value.oneCell']) (by omega) ?_ ?_)
        · simp only [World.size_alloc]; omega
        intro v2 w2 own2 _ hb2 _
        have hb2' : Below w.heap.size w w2 := (hbl'.trans (by repeat (first | exact Below.refl _ _ | refine Below.drew ?_ | refine Below.alloc ?_ (by first | omega | (simp; done) | (simp; omega)) _ | refine Below.setCell ?_ (by first | omega | (simp; done) | (simp; omega)) _ | refine Below.trans ?_ (Below.mono (by assumption) (by first | omega | (simp; done) | (simp; omega)))))).trans (hb2.mono (by omega))
        have B2 := ((hB.below ((Below.refl _ _).alloc (Nat.le_refl _) _) hB.lt).below ((Below.refl _ _).alloc (Nat.le_refl _) (.cells #[.int .i64 k] 3)) (by simp; omega)).below hb2 (Nat.lt_succ_self _)
        go_wp2_with (fail)
        go_roundw
        case rel => exact ⟨k + 1, by omega, by go_num, by show World.ownsRow _ _ _ _ _ _ _; rw [EK.out]; simpa [ints, ic] using own2, hb2', B2⟩
        case measure => simp [intOf]; omega
    · have : k = 8 := by omega
      subst this
      go_wp2
      have hO := O.out
      rw [show (kindsTo p.f 8).length = (ints (kindsTo p.f 8)).length by simp] at hO
      obtain ⟨AL, cL, rfl, inL⟩ := In.of_own ic_len hO (by have := kindsTo_len p.f 8; simp; omega)
      clear hO
      have IL := Lib.hid inL
      have Bw := Lib.hid hB
      have q0 := hB.cell h0
      have q1 := hB.cell h1
      have q2 := hB.cell h2
      obtain ⟨l1, hl1⟩ : ∃ l1, l1 = b ++ num p.id := ⟨_, rfl⟩
      obtain ⟨l2, hl2⟩ : ∃ l2, l2 = l1 ++ num p.ver := ⟨_, rfl⟩
      obtain ⟨l3, hl3⟩ : ∃ l3, l3 = l2 ++ num p.lab := ⟨_, rfl⟩
      have hl1n : l1.length ≤ b.length + 7 := by rw [hl1]; simp only [List.length_append]; omega
      have hl2n : l2.length ≤ b.length + 14 := by rw [hl2]; simp only [List.length_append]; omega
      have hl3n : l3.length ≤ b.length + 21 := by rw [hl3]; simp only [List.length_append]; omega
      have L1 := Lib.hid hl1
      have L2 := Lib.hid hl2
      have L3 := Lib.hid hl3
      have H3 := Lib.hid (show l3 = b ++ num p.id ++ num p.ver ++ num p.lab by rw [hl3, hl2, hl1])
      clear hl1 hl2 hl3
      refine wp_region_rel [Sp.slice 1 bc b, Sp.eq (.pointer (some ⟨w.heap.size, 0, none⟩)), Sp.eq (.int .i64 p.id), Sp.slice 1 bc l1, Sp.eq (.pointer (some ⟨w.heap.size, 1, none⟩)), Sp.eq (.int .i64 p.ver), Sp.slice 1 bc l2,
        Sp.eq (.pointer (some ⟨w.heap.size, 2, none⟩)), Sp.eq (.int .u32 p.lab), Sp.eq (.int .i64 p.lab), Sp.slice 1 bc l3, Sp.slice 1 bc l3] 59 (by kernel_rfl) (by kernel_rfl) rfl rfl ?_ ?_
      · refine ⟨?_, ?_, ?_, ?_, ?_, ?_, ?_, ?_, ?_, ?_, ?_, ?_, trivial⟩
        all_goals (intro u w2 hb2 hd; simp [Deps, Region.binds, Sp.slice_holds, Sp.eq_holds] at hd; simp only [putDeps, dstOf, Region.binds])
        case refine_1 => go_wp2_with (fail); exact RelEnd.mk rfl (Below.refl _ _) ⟨B, cb, rfl, (hb.below (hbl'.trans (hb2.mono hbz)))⟩
        case refine_2 => go_wp2_with (fail); exact RelEnd.mk rfl (Below.refl _ _) rfl
        case refine_3 =>
          have q := (Bw.out.below hb2 Bw.out.lt).cell h0
          go_wp2_with (fail)
          exact RelEnd.mk rfl (Below.refl _ _) rfl
        case refine_4 =>
          obtain ⟨⟨A4, c4, d0, d1⟩, d2⟩ := hd
          go_wp2_with (go_at_call 36; refine (c_octet_Num b A4 c4 _ _ d1).mono ?_; rintro e w3 ⟨v3, rfl, own3, hb3⟩)
          rw [← L1.out] at own3
          exact RelEnd.mk rfl hb3 (In.of_own bc_len own3 (by omega))
        case refine_5 => go_wp2_with (fail); exact RelEnd.mk rfl (Below.refl _ _) rfl
        case refine_6 =>
          have q := (Bw.out.below hb2 Bw.out.lt).cell h1
          go_wp2_with (fail)
          exact RelEnd.mk rfl (Below.refl _ _) rfl
        case refine_7 =>
          obtain ⟨⟨A4, c4, d0, d1⟩, d2⟩ := hd
          go_wp2_with (go_at_call 36; refine (c_octet_Num l1 A4 c4 _ _ d1).mono ?_; rintro e w3 ⟨v3, rfl, own3, hb3⟩)
          rw [← L2.out] at own3
          exact RelEnd.mk rfl hb3 (In.of_own bc_len own3 (by omega))
        case refine_8 => go_wp2_with (fail); exact RelEnd.mk rfl (Below.refl _ _) rfl
        case refine_9 =>
          have q := (Bw.out.below hb2 Bw.out.lt).cell h2
          go_wp2_with (fail)
          exact RelEnd.mk rfl (Below.refl _ _) rfl
        case refine_10 => go_wp2_with (fail); exact RelEnd.mk rfl (Below.refl _ _) rfl
        case refine_11 =>
          obtain ⟨⟨A4, c4, d0, d1⟩, d2⟩ := hd
          go_wp2_with (go_at_call 36; refine (c_octet_Num l2 A4 c4 _ _ d1).mono ?_; rintro e w3 ⟨v3, rfl, own3, hb3⟩)
          rw [← L3.out] at own3
          exact RelEnd.mk rfl hb3 (In.of_own bc_len own3 (by omega))
        case refine_12 =>
          obtain ⟨⟨A4, c4, d0, d1⟩, -⟩ := hd
          go_wp2_with (fail)
          exact RelEnd.mk rfl (Below.refl _ _) ⟨A4, c4, rfl, d1⟩
      · intro u w2 hb2 hold
        simp only [RelHold, Sp.eq_holds, Sp.slice_holds] at hold
        obtain ⟨-, -, -, -, -, -, -, -, -, -, -, ⟨A3, c3, e3, in3⟩, -⟩ := hold
        have B2 := Lib.hid (Bw.out.below hb2 Bw.out.lt)
        have I2 := Lib.hid (IL.out.below hb2)
        have hbl2 : Below w.heap.size w w2 := hbl'.trans (hb2.mono hbz)
        have hmk : ∀ w', InI w' AL cL (ints (kindsTo p.f 8)) → Calls Tryd.prog 56 #[.bool false, .slice AL (kindsTo p.f 8).length cL] w' (RetV w' (.int .u32 ((maskTo p.f 8 : Nat) : Int))) := fun w' h => by
          have h' := c_mask_Make (ints (kindsTo p.f 8)) AL cL w' (fun n hn => by obtain ⟨k, hk, rfl⟩ := List.mem_map.1 hn; have := kindsTo_bd hk; simp; omega) h
          rw [List.length_map, show maskOf (ints (kindsTo p.f 8)) &&& 255 = maskTo p.f 8 from maskTo_255 p.f] at h'
          exact h'
        have hml := maskTo_lt p.f 8 (by omega)
        have hkl := kindsTo_len p.f 8
        have LL := Lib.hid (show (ints (kindsTo p.f 8)).length = (kindsTo p.f 8).length by simp)
        simp only [putAll, Act.put, Nat.reduceAdd, List.setIfInBounds_toArray, List.set_cons_zero, List.set_cons_succ]
        rw [e3, LL.out]
        have E3 := Lib.hid e3
        clear e3 q0 q1 q2 O hbl' hB
        go_wp2_with (first
          | (go_at_call 56; refine (hmk _ I2.out).mono ?_; rintro e w4 ⟨rfl, hb4⟩; have hz4 := hb4.size)
          | (go_at_call 36; refine (c_octet_Num l3 A3 c3 _ _ (in3.below hb4)).mono ?_; rintro e w6 ⟨v6, rfl, own6, hb6⟩; have hz6 := hb6.size; obtain ⟨l6, A6, c6, H6, hl6, rfl, in6, own6'⟩ := own_open bc_len own6 (b.length + 28) (by simp only [List.length_append]; omega) (by omega); clear own6))
        have hz2 := hbl2.size
        go_loopw [0, 9, 47] (fun v _ i wr => ∃ (k : Nat) (acc : List UInt8), k ≤ (kindsTo p.f 8).length ∧ acc.length ≤ b.length + 28 + k * 38 ∧ i = .int .i64 k ∧ Hid (wr.ownsRow w.heap.size 5 1 v acc.length (acc.flatMap bc)) ∧ Hid (acc ++ bodyF p.f ((kindsTo p.f 8).drop k) = b ++ cardB p) ∧ Below w.heap.size w wr ∧ Blk wr w.heap.size p.arr ∧ InI wr AL cL (ints (kindsTo p.f 8)))
          (fun _ _ i _ => (kindsTo p.f 8).length - (intOf i).toNat)
        case atStart => exact ⟨0, l6, by omega, by omega, rfl, Lib.hid (own_base own6'.out (by omega)), by show _ = _; rw [H6.out, H3.out]; exact H.out, hbl2.trans ((hb4.trans (hb6.mono hz4)).mono hz2), (B2.out.below hb4 B2.out.lt).below hb6 (by have := B2.out.lt; omega), (I2.out.below hb4).below hb6⟩
        case round =>
          obtain ⟨k, acc, hk, hac, rfl, O, N, hbl', hB, hI⟩ := hrel
          have hbz := hbl'.size
          clear hb4 hb6 own6' in6 in3
          by_cases hlt : k < (kindsTo p.f 8).length
          · obtain ⟨bl, off, rfl, hbb, hrow⟩ := hI.at (i := k) (by simpa using hlt)
            have hc0 := hrow k (by simpa using hlt) 0 _ rfl
            obtain ⟨n, hn⟩ : ∃ n, n = (kindsTo p.f 8)[k] := ⟨_, rfl⟩
            have hn8 : n < 8 := by rw [hn]; exact kindsTo_bd (List.getElem_mem hlt)
            have hin : (ints (kindsTo p.f 8))[k]'(by simpa using hlt) = (n : Int) := by simp [hn]
            rw [hin] at hc0
            simp only [Nat.mul_one, Nat.add_zero] at hc0
            have hnf : n < p.f.length := by have := HF.out; omega
            obtain ⟨d0, d1, d2⟩ := Card.row hB hnf
            have hs1 := hs _ (List.getElem_mem hnf)
            have hN := N.out
            rw [List.drop_eq_getElem_cons hlt, ← hn] at hN
            have HN := Lib.hid (show (acc ++ valB p.f[n]) ++ bodyF p.f ((kindsTo p.f 8).drop (k + 1)) = b ++ cardB p by rw [← hN, ← at8_eq hnf]; simp [bodyF])
            obtain ⟨A1, c1, rfl, in1⟩ := In.of_own bc_len O.out (by omega)
            have hvl := valB_len p.f[n]
            clear hN N hn hin hrow H O
            go_wp2_with (go_at_call 57; refine (c_cardwire_PutValue acc A1 c1 p.f[n] _ in1 (by omega) hs1).mono ?_; rintro e w8 ⟨v8, rfl, own8, hb8⟩)
            go_roundw
            case rel => exact ⟨k + 1, acc ++ valB p.f[n], by omega, by simp only [List.length_append]; omega, by go_num, Lib.hid (own_base own8 (by omega)), HN, hbl'.trans (hb8.mono hbz), hB.below hb8 hB.lt, hI.below hb8⟩
            case measure => simp [intOf]; omega
          · have hN := N.out
            rw [List.drop_of_length_le (by omega)] at hN
            have HN := Lib.hid hN
            obtain ⟨A1, c1, rfl, _, _⟩ := own_form O.out
            clear hN N H
            go_wp2_with (fail)
            go_ret
            exact RetS.of O.out (by omega) (by rw [← HN.out]; simp [bodyF]) hbl'
end Go.Proofs.YtldoedmclfbgpaaDoor
namespace Go.Proofs.YtldoedmclfbgpaaDoor
open Go.ChangeShapes Go.WideShapes Go.ChangeAt Go.RowKit Go.Deep
open Go.ChangeMaps (open_string shut_string)

theorem u32_range {n : Int} (h : (Lit.int .u32 n).wf = true) : 0 ≤ n ∧ n < 4294967296 := by
  have := (show 0 ≤ n ∧ n ≤ 4294967295 by simpa [Lit.wf, IntKind.min, IntKind.max, IntKind.signed, IntKind.bits] using h)
  omega
theorem c_u32 : Tryd.prog.cellsOf 51 = 1 := by kernel_rfl
theorem c_f8 : Tryd.prog.cellsOf 54 = 24 := by kernel_rfl
theorem c_card : Tryd.prog.cellsOf 56 = 27 := by kernel_rfl
theorem cons3 {α : Type} {l : List α} (h : 3 ≤ l.length) : ∃ a b c r, l = a :: b :: c :: r := by
  match l, h with
  | a :: b :: c :: r, _ => exact ⟨a, b, c, r, rfl⟩
theorem list4 {α : Type} {l : List α} (h : l.length = 4) : ∃ a b c d, l = [a, b, c, d] := by
  match l, h with
  | [a, b, c, d], _ => exact ⟨a, b, c, d, rfl⟩
section
variable {H : Type} {enc : TypeId × Value → H} {w : World} {base : Nat} {spare : Nat → Bool} {held : Bool}
/-- Cells that lie three by three. -/
theorem flat_three : ∀ {l : List Val} {cs : List Value}, cs.length = l.length * 3 → (∀ i (h : i < l.length), (cs.drop (i * 3)).take 3 = l[i].cells) → cs = l.flatMap Val.cells
  | [], cs, h, _ => by simp at h; subst h; rfl
  | v :: l, cs, h, hi => by
    have h0 := hi 0 (by simp)
    simp only [Nat.zero_mul, List.drop_zero, List.getElem_cons_zero] at h0
    rw [List.length_cons] at h
    rw [List.flatMap_cons, ← h0]
    have ih := flat_three (l := l) (cs := cs.drop 3) (by rw [List.length_drop]; omega) (fun i hi' => by
      have := hi (i + 1) (by rw [List.length_cons]; omega)
      rw [List.drop_drop, show 3 + i * 3 = (i + 1) * 3 by omega, this, List.getElem_cons_succ])
    rw [← ih, List.take_append_drop]
theorem open_f8 {fuel : Nat} {cs : List Value} {x : DataW H × List MemPlace} (h : DataW.trod enc Tryd.prog w base spare held fuel 54 cs = some x) :
    ∃ f : List Val, f.length = 8 ∧ cs = f.flatMap Val.cells ∧ ∀ v ∈ f, v.wf := by
  obtain ⟨xs, m, _, _, hl, hxl, hf⟩ := DataW.trod_array Tryd.underlying54 h
  rw [c_f8] at hl
  have hq : ∀ i, i < 8 → ∃ v : Val, (cs.drop (i * 3)).take 3 = v.cells ∧ v.wf := by
    intro i hi
    have h1 := hf i hi
    rw [c_value, List.getElem?_eq_getElem (by omega)] at h1
    obtain ⟨v, hv, _, wv⟩ := open_val h1
    exact ⟨v, hv, wv⟩
  obtain ⟨l, hll, hq⟩ := list_of 8 hq
  refine ⟨l, hll, flat_three (by omega) (fun i hi => (hq i hi).1), fun v hv => ?_⟩
  obtain ⟨i, hi, rfl⟩ := List.getElem_of_mem hv
  exact (hq i hi).2
theorem open_u32 {fuel : Nat} {cs : List Value} {x : DataW H × List MemPlace} (h : DataW.trod enc Tryd.prog w base spare held fuel 51 cs = some x) : ∃ n : Nat, cs = [.int .u32 n] ∧ n < 4294967296 := by
  obtain ⟨a, ha, _, wa⟩ := DataW.trod_int Tryd.underlying51 h
  have := u32_range wa
  exact ⟨a.toNat, by rw [ha, Int.toNat_of_nonneg this.1], by omega⟩
theorem open_i64 {fuel : Nat} {cs : List Value} {x : DataW H × List MemPlace} (h : DataW.trod enc Tryd.prog w base spare held fuel 3 cs = some x) : ∃ n : Int, cs = [.int .i64 n] ∧ I64 n := by
  obtain ⟨a, ha, _, wa⟩ := DataW.trod_int Tryd.underlying3 h
  exact ⟨a, ha, i64_range wa⟩
theorem open_card {fuel : Nat} {cs : List Value} {x : DataW H × List MemPlace} (h : DataW.trod enc Tryd.prog w base spare held fuel 56 cs = some x) :
    ∃ c : Card, cs = c.arr.toList ∧ c.f.length = 8 ∧ c.lab < 4294967296 ∧ I64 c.id ∧ I64 c.ver ∧ ∀ v ∈ c.f, v.wf := by
  obtain ⟨xs, n, _, _, hl, hxl, hf⟩ := DataW.trod_struct Tryd.underlying56 h
  rw [c_card] at hl
  obtain ⟨q0, q1, q2, r, rfl⟩ := cons3 (l := cs) (by omega)
  have hr : r.length = 24 := by simpa using hl
  obtain ⟨x0, x1, x2, x3, rfl⟩ := list4 (show xs.length = 4 from hxl)
  have h0 := hf 0
  have h1 := hf 1
  have h2 := hf 2
  have h3 := hf 3
  simp [c_int, c_u32, c_f8] at h0 h1 h2 h3
  rw [List.take_of_length_le (by omega)] at h3
  obtain ⟨a, ha, wa⟩ := open_i64 h0
  obtain ⟨b, hb, wb⟩ := open_i64 h1
  obtain ⟨m, hm, wm⟩ := open_u32 h2
  obtain ⟨f, hf8, hff, wf⟩ := open_f8 h3
  simp at ha hb hm
  subst ha hb hm hff
  exact ⟨⟨a, b, m, f⟩, by unfold Card.arr; simp, hf8, wm, wa, wb, wf⟩
end
end Go.Proofs.YtldoedmclfbgpaaDoor
namespace Go.Proofs.YtldoedmclfbgpaaDoor
open Go.ChangeShapes Go.WideShapes Go.ChangeAt Go.RowKit Go.Deep
open Go.ChangeMaps (open_string shut_string)

/-- A book that came in, however large. -/
structure BQ.raw (w : World) (b : BQ) : Prop where
  cards : RawS 27 CQ.cells w b.A b.a b.cards
  dead : RawS 3 Dead.cells w b.D b.d b.dead
  groups : RawS 2 GQ.cells w b.G b.g b.groups
  mem : ∀ x ∈ b.groups, RawS 1 ic w x.A x.c x.mem
  str : ∀ x ∈ b.cards, ∀ y ∈ x.c.f, y.s.length ≤ 9223372036854775807
theorem BQ.raw.below {w w' : World} {b : BQ} (h : b.raw w) (hb : Below w.heap.size w w') : b.raw w' := ⟨h.cards.below hb, h.dead.below hb, h.groups.below hb, fun x hx => (h.mem x hx).below hb, h.str⟩
/-- Is a book larger than is looked at? -/
def Book.large (b : Book) : Bool := decide (60 < b.cards.length) || (decide (60 < b.dead.length) || ((decide (40 < b.groups.length) || b.groups.any fun g => decide (100 < g.mem.length)) || b.cards.any fun c => longF c.f))
structure BQ.few (b : BQ) : Prop where
  cards : b.cards.length ≤ 60
  dead : b.dead.length ≤ 60
  groups : b.groups.length ≤ 40
  mem : ∀ x ∈ b.groups, x.mem.length ≤ 100
theorem large_no {b : BQ} (h : b.book.large = false) : b.few ∧ ∀ x ∈ b.cards, ∀ y ∈ x.c.f, y.s.length ≤ 4294967000 := by
  unfold Book.large at h
  simp only [Bool.or_eq_false_iff, decide_eq_false_iff_not, List.any_eq_false] at h
  obtain ⟨h1, h2, ⟨h3, h4⟩, h5⟩ := h
  unfold BQ.book at h1 h2 h3 h4 h5
  simp only [List.length_map] at h1 h2 h3
  refine ⟨⟨by omega, by omega, by omega, fun x hx => ?_⟩, fun x hx y hy => ?_⟩
  · have h6 := h4 x.g (List.mem_map.2 ⟨x, hx, rfl⟩)
    have h7 : ¬ 100 < x.mem.length := fun e => by rw [show x.g.mem = x.mem from rfl, decide_eq_true e] at h6; simp at h6
    omega
  · have := h5 x.c (List.mem_map.2 ⟨x, hx, rfl⟩)
    rw [Bool.not_eq_true] at this
    have := List.any_eq_false.1 this y hy
    simp only [decide_eq_true_eq] at this
    omega
theorem BQ.raw.at_ {w : World} {b : BQ} (h : b.raw w) (hf : b.few) (hs : ∀ x ∈ b.cards, ∀ y ∈ x.c.f, y.s.length ≤ 4294967000) : b.at_ w :=
  ⟨h.cards.fit (by have := hf.cards; omega), h.dead.fit (by have := hf.dead; omega), h.groups.fit (by have := hf.groups; omega), fun x hx => (h.mem x hx).fit (by have := hf.mem x hx; omega), hs⟩
theorem list2 {α : Type} {l : List α} (h : l.length = 2) : ∃ a b, l = [a, b] := by
  cases l with
  | nil => cases h
  | cons a l =>
    cases l with
    | nil => cases h
    | cons b l =>
      cases l with
      | nil => exact ⟨a, b, rfl⟩
      | cons c l => simp at h
section
variable {H : Type} {enc : TypeId × Value → H} {w : World} {spare : Nat → Bool} {held : Bool}
theorem c_intB : Tryd.prog.cellsOf 3 = 1 := by kernel_rfl
theorem c_deadB : Tryd.prog.cellsOf 60 = 3 := by kernel_rfl
theorem c_groupB : Tryd.prog.cellsOf 65 = 2 := by kernel_rfl
theorem c_bookB : Tryd.prog.cellsOf 35 = 5 := by kernel_rfl
theorem c_sl1 : Tryd.prog.cellsOf 31 = 1 := by kernel_rfl
theorem c_sl2 : Tryd.prog.cellsOf 32 = 1 := by kernel_rfl
theorem c_sl3 : Tryd.prog.cellsOf 33 = 1 := by kernel_rfl
theorem c_sl4 : Tryd.prog.cellsOf 63 = 1 := by kernel_rfl
theorem open_intsB {fuel : Nat} {cs : List Value} {x : DataW H × List MemPlace} (h : DataW.trod enc Tryd.prog w 0 spare held fuel 63 cs = some x) :
    ∃ (A : Option Addr) (c : Nat) (l : List Int), cs = [.slice A l.length c] ∧ RawS 1 ic w A c l := by
  obtain ⟨A, c, l, h1, h2, -⟩ := open_rows (k := 1) (cs := ic) (Pr := fun _ => True) (by decide) (fun _ => rfl) Tryd.underlying63 c_intB (fun h => by
    obtain ⟨n, hn, -⟩ := open_i64 h
    exact ⟨n, hn, trivial⟩) h
  exact ⟨A, c, l, h1, h2⟩
theorem open_deadB {fuel : Nat} {cs : List Value} {x : DataW H × List MemPlace} (h : DataW.trod enc Tryd.prog w 0 spare held fuel 60 cs = some x) : ∃ v : Dead, cs = v.cells ∧ True := by
  obtain ⟨xs, n, _, _, hl, hxl, hf⟩ := DataW.trod_struct Tryd.underlying60 h
  rw [c_deadB] at hl
  obtain ⟨c0, c1, c2, rfl⟩ := list3 hl
  obtain ⟨x0, x1, x2, rfl⟩ := list3 (show xs.length = 3 from hxl)
  have h0 := hf 0
  have h1 := hf 1
  have h2 := hf 2
  simp [c_int] at h0 h1 h2
  obtain ⟨a, ha, -⟩ := open_i64 h0
  obtain ⟨b, hb, -⟩ := open_i64 h1
  obtain ⟨d, hd, -⟩ := open_i64 h2
  simp at ha hb hd
  subst ha hb hd
  exact ⟨⟨a, b, d⟩, rfl, trivial⟩
theorem open_groupB {fuel : Nat} {cs : List Value} {x : DataW H × List MemPlace} (h : DataW.trod enc Tryd.prog w 0 spare held fuel 65 cs = some x) : ∃ v : GQ, cs = v.cells ∧ RawS 1 ic w v.A v.c v.mem := by
  obtain ⟨xs, n, _, _, hl, hxl, hf⟩ := DataW.trod_struct Tryd.underlying65 h
  rw [c_groupB] at hl
  obtain ⟨c0, c1, rfl⟩ := list2 hl
  obtain ⟨x0, x1, rfl⟩ := list2 (show xs.length = 2 from hxl)
  have h0 := hf 0
  have h1 := hf 1
  simp [c_int, c_sl4] at h0 h1
  obtain ⟨a, ha, -⟩ := open_i64 h0
  obtain ⟨A, c, l, hb, hr⟩ := open_intsB h1
  simp at ha hb
  subst ha hb
  exact ⟨⟨a, l, A, c⟩, rfl, hr⟩
theorem open_book {fuel : Nat} {cs : List Value} {x : DataW H × List MemPlace} (h : DataW.trod enc Tryd.prog w 0 spare held fuel 35 cs = some x) : ∃ v : BQ, cs = v.arr.toList ∧ v.raw w := by
  obtain ⟨xs, n, _, _, hl, hxl, hf⟩ := DataW.trod_struct Tryd.underlying35 h
  rw [c_bookB] at hl
  obtain ⟨c0, c1, c2, c3, c4, rfl⟩ := list5 hl
  obtain ⟨x0, x1, x2, x3, x4, rfl⟩ := list5 (show xs.length = 5 from hxl)
  have h0 := hf 0
  have h1 := hf 1
  have h2 := hf 2
  have h3 := hf 3
  have h4 := hf 4
  simp [c_int, c_sl1, c_sl2, c_sl3] at h0 h1 h2 h3 h4
  obtain ⟨a, ha, -⟩ := open_i64 h0
  obtain ⟨b, hb, -⟩ := open_i64 h1
  obtain ⟨A, ca, cl, e2, r2, q2⟩ := open_rows (k := 27) (cs := CQ.cells) (Pr := fun x : CQ => ∀ y ∈ x.c.f, y.s.length ≤ 9223372036854775807) (by decide) CQ.cells_len Tryd.underlying31 c_card (fun h => by
    obtain ⟨c, hc, hf, -, -, -, hw⟩ := open_card h
    exact ⟨⟨c, hf⟩, hc, fun y hy => (hw y hy).2.2⟩) h2
  obtain ⟨D, cd, dl, e3, r3, -⟩ := open_rows (k := 3) (cs := Dead.cells) (Pr := fun _ => True) (by decide) Dead.cells_len Tryd.underlying32 c_deadB open_deadB h3
  obtain ⟨G, cg, gl, e4, r4, q4⟩ := open_rows (k := 2) (cs := GQ.cells) (Pr := fun v : GQ => RawS 1 ic w v.A v.c v.mem) (by decide) GQ.cells_len Tryd.underlying33 c_groupB open_groupB h4
  simp at ha hb e2 e3 e4
  subst ha hb e2 e3 e4
  exact ⟨⟨a, b, cl, dl, gl, A, ca, D, cd, G, cg⟩, rfl, r2, r3, r4, q4, q2⟩
end
end Go.Proofs.YtldoedmclfbgpaaDoor
namespace Go.Proofs.YtldoedmclfbgpaaDoor
open Go.RowKit

def largeG (l : List GQ) : Bool := decide (40 < l.length) || l.any fun g => decide (100 < g.mem.length)
theorem large_def (b : BQ) : b.book.large = (decide (60 < b.cards.length) || (decide (60 < b.dead.length) || (largeG b.groups || b.cards.any fun c => longF c.c.f))) := by
  unfold Book.large BQ.book largeG
  simp only [List.length_map, List.any_map]
  rfl
set_option maxHeartbeats 1000000 in
theorem c_law17_Large (l : List GQ) (A : Option Addr) (c : Nat) (w : World) (h : RawS 2 GQ.cells w A c l) : Calls Tryd.prog 29 #[.slice A l.length c] w (RetV w (.bool (largeG l))) := by
  by_cases h40 : 40 < l.length
  · have d1 : decide (40 < (l.length : Int)) = true := by simp; omega
    have HG := Lib.hid (show largeG l = true by unfold largeG; rw [decide_eq_true h40]; rfl)
    have h1 := h.1
    have h2 := h.2.1
    clear h h40
    go_enter Tryd.func29, Tryd.ntmps29
    go_wp2_with (fail)
    go_ret
    rw [HG.out]
    exact RetV.of rfl (Below.refl _ _)
  · have hf := h.fit (by omega)
    have hL := hf.1
    have hC := hf.2.1
    have hS := hf.2.2.1
    have H := Lib.hid hf
    have d1 : decide (40 < (l.length : Int)) = false := by simp; omega
    have HG := Lib.hid (show largeG l = l.any fun g => decide (100 < g.mem.length) by unfold largeG; rw [decide_eq_false h40]; rfl)
    clear h hf
    go_enter Tryd.func29, Tryd.ntmps29
    go_wp2_with (fail)
    go_loopw [3] (fun i wr => ∃ k : Nat, k ≤ l.length ∧ i = .int .i64 k ∧ Hid ((l.drop k).any (fun g => decide (100 < g.mem.length)) = largeG l) ∧ Hid (Below w.heap.size w wr)) (fun i _ => l.length - (intOf i).toNat)
    case atStart => exact ⟨0, by omega, rfl, HG.out.symm, Below.refl _ _⟩
    case round =>
      obtain ⟨k, hk, rfl, R, S⟩ := hrel
      by_cases hlt : k < l.length
      · have d2 : decide ((k : Int) < (l.length : Int)) = true := by simp; omega
        obtain ⟨b, off, hA, hb, hrow⟩ := H.out.at hlt
        have e1 := (S.out.cell (p := ⟨b, off + k * 2 + 1, none⟩) hb).trans (grp_cells hrow hlt).2
        have R2 := Lib.hid (show (decide (100 < l[k].mem.length) || (l.drop (k + 1)).any fun g => decide (100 < g.mem.length)) = largeG l by rw [← R.out, List.drop_eq_getElem_cons hlt]; rfl)
        obtain ⟨x, hx⟩ : ∃ x, x = l[k] := ⟨_, rfl⟩
        rw [← hx] at e1 R2
        have hi1 : (0 : Int) ≤ (k : Int) := by omega
        have hi2 : (k : Int) < (l.length : Int) := by omega
        have hbw : b < wr.heap.size := Nat.lt_of_lt_of_le hb S.out.size
        clear hrow hx R
        subst hA
        by_cases h9 : 100 < x.mem.length
        · have t9 : decide (100 < (x.mem.length : Int)) = true := by simp; omega
          have RF := Lib.hid (show largeG l = true by rw [← R2.out, decide_eq_true h9]; rfl)
          clear h9
          go_wp2_with (fail)
          go_ret
          rw [RF.out]
          exact RetV.of rfl S.out
        · have t9 : decide (100 < (x.mem.length : Int)) = false := by simp; omega
          have R3 := Lib.hid (show ((l.drop (k + 1)).any fun g => decide (100 < g.mem.length)) = largeG l by rw [← R2.out, decide_eq_false h9]; rfl)
          clear h9
          go_wp2_with (fail)
          go_roundw
          case rel => exact ⟨k + 1, by omega, by go_num, R3.out, S.out⟩
          case measure => simp [intOf]; omega
      · obtain rfl : k = l.length := by omega
        have d2 : decide ((l.length : Int) < (l.length : Int)) = false := by simp
        have RF := Lib.hid (show largeG l = false by rw [← R.out, List.drop_length]; rfl)
        go_wp2_with (fail)
        go_ret
        rw [RF.out]
        exact RetV.of rfl S.out
set_option maxHeartbeats 2000000 in
theorem c_law20_Large (b : BQ) (w : World) (h : b.raw w) : Calls Tryd.prog 12 #[.agg b.arr] w (RetV w (.bool b.book.large)) := by
  rw [large_def]
  obtain ⟨seq, next, cards, dead, groups, A, a, D, d, G, g⟩ := b
  have h1 : RawS 27 CQ.cells w A a cards := h.cards
  have h2 : RawS 3 Dead.cells w D d dead := h.dead
  have h3 : RawS 2 GQ.cells w G g groups := h.groups
  clear h
  have hA1 := h1.1
  have hA2 := h1.2.1
  have hD1 := h2.1
  have hD2 := h2.2.1
  have hG1 := h3.1
  have hG2 := h3.2.1
  have HG := Lib.hid h3
  have B0 := Lib.hid (At.new w 35 #[.int .i64 seq, .int .i64 next, .slice A cards.length a, .slice D dead.length d, .slice G groups.length g])
  have q2 := B0.out.2.cell (i := 2) rfl
  have q3 := B0.out.2.cell (i := 3) rfl
  have q4 := B0.out.2.cell (i := 4) rfl
  unfold BQ.arr
  dsimp only
  clear h2 h3
  by_cases n1 : 60 < cards.length
  · have d1 : decide (60 < (cards.length : Int)) = true := by simp; omega
    have RF := Lib.hid (decide_eq_true n1)
    clear n1 h1
    go_enter Tryd.func12, Tryd.ntmps12
    go_wp2_with (fail)
    go_ret
    rw [RF.out]
    exact RetV.of rfl B0.out.1
  have d1 : decide (60 < (cards.length : Int)) = false := by simp; omega
  rw [decide_eq_false n1, Bool.false_or]
  have HC := Lib.hid (h1.fit (by omega))
  clear h1
  by_cases n2 : 60 < dead.length
  · have d2 : decide (60 < (dead.length : Int)) = true := by simp; omega
    have RF := Lib.hid (decide_eq_true n2)
    clear n1 n2
    go_enter Tryd.func12, Tryd.ntmps12
    go_wp2_with (fail)
    go_ret
    rw [RF.out]
    exact RetV.of rfl B0.out.1
  have d2 : decide (60 < (dead.length : Int)) = false := by simp; omega
  rw [decide_eq_false n2, Bool.false_or]
  clear n1 n2
  cases hg : largeG groups
  all_goals
    have HL := Lib.hid hg
    clear hg
    go_enter Tryd.func12, Tryd.ntmps12
    go_wp2_with (fail)
    refine (c_law17_Large groups G g _ (HG.out.below B0.out.1)).mono ?_
    rintro e w1 ⟨rfl, hb1⟩
    replace B0 := Lib.hid (B0.out.step hb1)
    rw [HL.out]
    clear hb1 q2 q3 q4
  rotate_left
  · go_wp2_with (fail)
    go_ret
    exact RetV.bool rfl B0.out.1
  · go_wp2_with (fail)
    go_loopw [3] (fun i wr => ∃ k : Nat, k ≤ cards.length ∧ i = .int .i64 k ∧ Hid ((cards.drop k).any (fun c => longF c.c.f) = cards.any (fun c => longF c.c.f)) ∧ Hid (At w wr #[.int .i64 seq, .int .i64 next, .slice A cards.length a, .slice D dead.length d, .slice G groups.length g])) (fun i _ => cards.length - (intOf i).toNat)
    case atStart => exact ⟨0, by omega, rfl, rfl, B0.out⟩
    case round =>
      clear B0
      obtain ⟨k, hk, rfl, R, X⟩ := hrel
      have q2 := X.out.2.cell (i := 2) rfl
      have bl := X.out.2.lt
      by_cases hlt : k < cards.length
      · have d3 : decide ((k : Int) < (cards.length : Int)) = true := by simp; omega
        obtain ⟨b, off, hA, hb, hat⟩ := CQ.at HC.out hlt
        have R2 := Lib.hid (show (longF cards[k].c.f || (cards.drop (k + 1)).any fun c => longF c.c.f) = cards.any (fun c => longF c.c.f) by rw [← R.out, List.drop_eq_getElem_cons hlt]; rfl)
        have HAT := Lib.hid (hat _ X.out.1)
        obtain ⟨x, hx⟩ : ∃ x, x = cards[k] := ⟨_, rfl⟩
        rw [← hx] at HAT R2
        have hi1 : (0 : Int) ≤ (k : Int) := by omega
        have hi2 : (k : Int) < (cards.length : Int) := by omega
        have hbw : b < wr.heap.size := Nat.lt_of_lt_of_le hb X.out.1.size
        clear hat hx R
        subst hA
        go_wp2_with (with_reducible refine stop_load 54 _ rfl rfl ?_)
        refine Stop.mk (wpList_loadAt rfl _ _ rfl b (off + k * 27 + 3) rfl (farr x.c.f) (fun j u hu => by
          have := HAT.out (3 + j) u (by rw [Card.arr_tail]; exact hu)
          rw [show off + k * 27 + 3 + j = off + k * 27 + (3 + j) by omega]; exact this) strF (by rw [farr_size, x.wf]) ?_)
        go_wp2_with (fail)
        refine (c_Large x.c.f _ x.wf).mono ?_
        rintro e w2 ⟨rfl, hb2⟩
        replace X := Lib.hid (X.out.step hb2)
        clear hb2 q2 bl HAT
        cases hl : longF x.c.f
        all_goals
          have HL2 := Lib.hid hl
          clear hl
          go_wp2_with (fail)
        · have R3 := Lib.hid (show ((cards.drop (k + 1)).any fun c => longF c.c.f) = cards.any (fun c => longF c.c.f) by rw [← R2.out, HL2.out]; rfl)
          go_roundw
          case rel => exact ⟨k + 1, by omega, by go_num, R3.out, X.out⟩
          case measure => simp [intOf]; omega
        · have RF := Lib.hid (show cards.any (fun c => longF c.c.f) = true by rw [← R2.out, HL2.out]; rfl)
          go_ret
          exact RetV.bool (by rw [RF.out]; rfl) X.out.1
      · obtain rfl : k = cards.length := by omega
        have d3 : decide ((cards.length : Int) < (cards.length : Int)) = false := by simp
        have RF := Lib.hid (show cards.any (fun c => longF c.c.f) = false by rw [← R.out, List.drop_length]; rfl)
        go_wp2_with (fail)
        go_ret
        exact RetV.bool (by rw [RF.out]; rfl) X.out.1
end Go.Proofs.YtldoedmclfbgpaaDoor
namespace Go.Proofs.YtldoedmclfbgpaaDoor
open Go.RowKit

/-- peek's end: what it answers, and what the reader is then. -/
def RetPk (g : Nat) (A : Option Addr) (c : Nat) (B : List UInt8) (pos : Nat) (most : Int) (w : World) (e : Ending) (w' : World) : Prop :=
  e = .returned (.tuple #[.int .i64 (nVal (B.drop pos) most), .int .i64 ((pos + nLen (B.drop pos) most : Nat) : Int)]) ∧ RdA w' g A c B pos (nErr (B.drop pos) most) ∧ Kept (some g) w.heap.size w w'

theorem wrap64_id (n : Int) (h0 : 0 ≤ n) (h1 : n < 9223372036854775808) : wrap64 n = n := by unfold wrap64; omega
theorem peek_or (acc d k : Nat) (hk : k ≤ 5) (ha : acc < 128 ^ k) (hd : d < 256) :
    bits .or .i64 (acc : Int) (wrap64 (wrap64 (bits .and .u8 (d : Int) 127) * 2 ^ (7 * k))) = ((acc + d % 128 * 128 ^ k : Nat) : Int) := by
  have h1 := u8_and_nat d 127 hd (by omega)
  rw [Nat.and_two_pow_sub_one_eq_mod d 7] at h1
  have hm : d % 128 < 128 := Nat.mod_lt _ (by omega)
  have e : bits .and .u8 (d : Int) 127 = ((d % 128 : Nat) : Int) := h1
  rw [e, wrap64_id ((d % 128 : Nat) : Int) (by omega) (by omega)]
  have hwr : ∀ n : Int, 0 ≤ n → n < 2 ^ 63 → IntKind.i64.wrap n = n := fun n h0 h1 => IntWalk.i64_in _ (by omega)
  generalize d % 128 = x at *
  have key : ∀ (i : Nat) (p : Nat), (2 : Int) ^ i = p → i ≤ 35 → (p : Int) ≤ 34359738368 → acc < p → bits .or .i64 (acc : Int) (wrap64 ((x : Int) * 2 ^ i)) = ((acc + x * p : Nat) : Int) := by
    intro i p hp hi hpl hap
    have hx0 : x * p ≤ 127 * 34359738368 := Nat.mul_le_mul (by omega) (by omega)
    have hx1 : (x : Int) * (p : Int) = ((x * p : Nat) : Int) := by simp
    rw [hp, hx1, wrap64_id _ (by omega) (by omega)]
    rw [bits_join_low .i64 63 (by decide) hwr i _ _ (by omega) (by rw [hp]; omega) (by omega) (by omega) (by rw [hp, ← hx1]; exact Int.mul_emod_left _ _) (by omega)]
    simp
  rcases (show k = 0 ∨ k = 1 ∨ k = 2 ∨ k = 3 ∨ k = 4 ∨ k = 5 by omega) with rfl | rfl | rfl | rfl | rfl | rfl
  · exact key 0 1 rfl (by omega) (by omega) (by simpa using ha)
  · exact key 7 128 rfl (by omega) (by omega) (by simpa using ha)
  · exact key 14 16384 rfl (by omega) (by omega) (by simpa using ha)
  · exact key 21 2097152 rfl (by omega) (by omega) (by simpa using ha)
  · exact key 28 268435456 rfl (by omega) (by omega) (by simpa using ha)
  · exact key 35 34359738368 rfl (by omega) (by omega) (by simpa using ha)
theorem RetPk.bad {g : Nat} {A : Option Addr} {c : Nat} {B : List UInt8} {pos : Nat} {most : Int} {w wr w2 : World} {e : Int} (_hgl : g < wr.heap.size) (R : RdA wr g A c B pos 0) (hbl : Below w.heap.size w wr)
    (hb2 : Below (wr.setCell ⟨g, 2, none⟩ (.int .i64 e)).heap.size (wr.setCell ⟨g, 2, none⟩ (.int .i64 e)) w2) (he : nErr (B.drop pos) most = e) (h0 : e ≠ 0) :
    RetPk g A c B pos most w (.returned (.tuple #[.int .i64 0, .int .i64 pos])) w2 := by
  have hz : (wr.setCell ⟨g, 2, none⟩ (.int .i64 e)).heap.size = wr.heap.size := by simp [World.setCell]
  refine ⟨?_, ?_, ?_⟩
  · rw [nVal_bad (by omega), nLen_bad (by omega)]; rfl
  · rw [he]; exact (R.store2 e).kept (q := none) (.of_below hb2) (fun _ h => by cases h)
  · exact ((Kept.of_below hbl).setCell (.inr rfl) _).then_below hb2 (by rw [hz]; exact hbl.size)
theorem RetPk.good {g : Nat} {A : Option Addr} {c : Nat} {B : List UInt8} {pos k m v : Nat} {most : Int} {w wr w2 : World} (R : RdA wr g A c B pos 0) (hbl : Below w.heap.size w wr)
    (hb2 : Below wr.heap.size wr w2) (he : nErr (B.drop pos) most = 0) (hV : nxV 6 (B.drop pos) = v) (hK : nxK 6 (B.drop pos) = k + 1) (hm : m = pos + k) :
    RetPk g A c B pos most w (.returned (.tuple #[.int .i64 v, .int .i64 ((m : Int) + 1)])) w2 := by
  refine ⟨?_, ?_, ?_⟩
  · rw [nVal_ok he, nLen_ok he, hV, hK, hm]
    have : (((pos + (k + 1) : Nat)) : Int) = ((pos + k : Nat) : Int) + 1 := by omega
    rw [this]
  · rw [he]; exact R.kept (q := none) (.of_below hb2) (fun _ h => by cases h)
  · exact (Kept.of_below hbl).then_below hb2 hbl.size
set_option maxHeartbeats 1000000 in
set_option maxRecDepth 4000 in
theorem c_octet_peek (g : Nat) (A : Option Addr) (c : Nat) (B : List UInt8) (pos : Nat) (most : Int) (w : World) (h : RdA w g A c B pos 0) :
    Calls Tryd.prog 39 #[ptr (some g), .int .i64 most] w (RetPk g A c B pos most w) := by
  have hL := h.2.1
  have hC := h.2.2.1
  have hC' := h.2.2.2.1
  have hS := h.2.2.2.2.1
  change Calls _ _ #[.pointer (some ⟨g, 0, none⟩), .int .i64 most] _ _
  go_enter Tryd.func39, Tryd.ntmps39
  go_wp2_with (fail)
  go_loopw [6, 9] (fun v i wr => ∃ k acc : Nat, Hid (Peek (B.drop pos) k acc) ∧ k ≤ 6 ∧ pos + k ≤ B.length ∧ i = .int .i64 k ∧ v = .int .i64 acc ∧ Hid (RdA wr g A c B pos 0) ∧ Below w.heap.size w wr)
    (fun _ i _ => 6 - (intOf i).toNat)
  case atStart => exact ⟨0, 0, Peek.start _, by omega, by omega, rfl, rfl, h, (by repeat (first | exact Below.refl _ _ | refine Below.drew ?_ | refine Below.alloc ?_ (by first | omega | (simp; done) | (simp; omega)) _ | refine Below.setCell ?_ (by first | omega | (simp; done) | (simp; omega)) _ | refine Below.trans ?_ (Below.mono (by assumption) (by first | omega | (simp; done) | (simp; omega)))))⟩
  case round =>
    obtain ⟨k, acc, hp, hk6, hkl, rfl, rfl, R, hbl⟩ := hrel
    have hgl := R.out.1.lt
    have hbz := hbl.size
    have f2 := R.out.1.frozen 2
    have c0 : wr.cell? ⟨g, 0, none⟩ = some (.slice A B.length c) := R.out.1.cell rfl
    have c1 : wr.cell? ⟨g, 1, none⟩ = some (.int .i64 pos) := R.out.1.cell rfl
    have c2 : wr.cell? ⟨g, 2, none⟩ = some (.int .i64 0) := R.out.1.cell rfl
    clear h
    by_cases h6 : k = 6
    · subst h6
      have he : Hid (nErr (B.drop pos) most = 3) := by show _ = _; rw [nErr_def, hp.out.full]; rfl
      go_wp2_with (fail)
      refine wp_region_grow (by kernel_rfl) (by kernel_rfl) ?_
      repeat (quiet_step ((first | (fail))))
      refine wpQuiet_nil ?_
      intro w2 hb2
      go_wp2_with (fail)
      go_ret2
      exact RetPk.bad hgl R.out hbl hb2 he.out (by omega)
    · have hlt : k < 6 := by omega
      have hd : decide ((k : Int) < 6) = true := by simp; omega
      obtain ⟨m, hm⟩ : ∃ m, m = pos + k := ⟨_, rfl⟩
      have hml : m ≤ B.length := by omega
      have hw : IntKind.i64.wrap ((pos : Int) + (k : Int)) = (m : Int) := by rw [IntWalk.i64_in _ (by omega)]; omega
      have Hm := Lib.hid hm
      clear hm
      by_cases hl : m = B.length
      · have he : Hid (nErr (B.drop pos) most = 2) := by show _ = _; rw [nErr_def, hp.out.short hlt (by rw [List.length_drop]; have := Hm.out; omega)]; rfl
        subst hl
        go_wp2_with (fail)
        refine wp_region_grow (by kernel_rfl) (by kernel_rfl) ?_
        repeat (quiet_step ((first | (fail))))
        refine wpQuiet_nil ?_
        intro w2 hb2
        have q2 := fun o => hb2.cell (p := ⟨g, o, none⟩) hgl
        have qf := (hb2.frozen (p := ⟨g, 2, none⟩) hgl).trans f2
        have hg2 : g < w2.heap.size := Nat.lt_of_lt_of_le hgl hb2.size
        clear f2
        go_wp2_with (fail)
        refine wp_region_grow (by kernel_rfl) (by kernel_rfl) ?_
        repeat (quiet_step ((first | (fail))))
        refine wpQuiet_nil ?_
        intro w3 hb3
        go_wp2_with (fail)
        go_ret2
        exact RetPk.bad (Nat.lt_of_lt_of_le hgl hb2.size) (R.out.kept (q := none) (.of_below hb2) (fun _ h => by cases h)) (hbl.trans (hb2.mono hbz)) hb3 he.out (by omega)
      · have hlt2 : m < B.length := by omega
        have hd2 : decide (B.length ≤ m) = false := by simp; omega
        clear hl
        obtain ⟨b, off, rfl, hbg, hrow⟩ := R.out.2.2.2.2.2.resolve_left (fun e => by subst e; simp at hlt2)
        have e0 : wr.cell? ⟨b, off + m, none⟩ = some (.int .u8 B[m].toNat) := by have := hrow m hlt2 0 _ rfl; simpa using this
        go_wp2_with (fail)
        refine wp_region_grow (by kernel_rfl) (by kernel_rfl) ?_
        repeat (quiet_step ((first | (fail))))
        refine wpQuiet_nil ?_
        intro w2 hb2
        have q2 := fun o => hb2.cell (p := ⟨g, o, none⟩) hgl
        have q3 := fun o => hb2.cell (p := ⟨b, o, none⟩) (by show b < _; omega)
        have qf := (hb2.frozen (p := ⟨g, 2, none⟩) hgl).trans f2
        have hg2 : g < w2.heap.size := Nat.lt_of_lt_of_le hgl hb2.size
        have hbb2 : b < w2.heap.size := by omega
        have hm0 : (0 : Int) ≤ (m : Int) := by omega
        have hm1 : (m : Int) < (B.length : Int) := by omega
        go_wp2_with (fail)
        refine wp_region_grow (by kernel_rfl) (by kernel_rfl) ?_
        repeat (quiet_step ((first | (fail))))
        refine wpQuiet_nil ?_
        intro w3 hb3
        have q4 := fun o => hb3.cell (p := ⟨g, o, none⟩) hg2
        have qf3 := (hb3.frozen (p := ⟨g, 2, none⟩) hg2).trans qf
        have hg3 : g < w3.heap.size := Nat.lt_of_lt_of_le hg2 hb3.size
        obtain ⟨d, hdm⟩ : ∃ d, d = B[m].toNat := ⟨_, rfl⟩
        have hd256 : d < 256 := by rw [hdm]; exact B[m].toNat_lt
        rw [← hdm]
        have Hdm := Lib.hid hdm
        clear hdm e0 c0 hrow qf f2 q3
        have hor := peek_or acc d k (by omega) hp.out.2.2.1 hd256
        have hw1 : IntKind.i64.wrap ((m : Int) + 1) = (m : Int) + 1 := IntWalk.i64_in _ (by omega)
        have hk' : k < (B.drop pos).length := by rw [List.length_drop]; have := Hm.out; omega
        have hdk : Hid ((B.drop pos)[k].toNat = d) := by show _ = _; rw [Hdm.out, List.getElem_drop]; congr 2; exact Hm.out.symm
        have hb23 := hbl.trans ((hb2.trans (hb3.mono hb2.size)).mono hbz)
        have R3 := Lib.hid (R.out.kept (q := none) (.of_below (hb2.trans (hb3.mono hb2.size))) (fun _ h => by cases h))
        clear hb2 hb3 R hbl
        by_cases h128 : 128 ≤ d
        · have hd3 : decide (d < 128) = false := by simp; omega
          have hp2 := hp.out.next hlt hk' (by rw [hdk.out]; exact h128)
          rw [hdk.out] at hp2
          have Hp2 := Lib.hid hp2
          clear hp2 hp
          go_wp2_with (fail)
          go_roundw
          case rel => exact ⟨k + 1, _, Hp2.out, by omega, by have := Hm.out; omega, by go_num, rfl, R3.out, hb23⟩
          case measure => simp [intOf]; omega
        · have hd3 : decide (d < 128) = true := by simp; omega
          have hdone := fun h => hp.out.done hlt hk' (by rw [hdk.out]; omega) h
          rw [hdk.out] at hdone
          have hd128 : d % 128 = d := Nat.mod_eq_of_lt (by omega)
          rw [hd128] at hor
          obtain ⟨v, hv⟩ : ∃ v, v = acc + d * 128 ^ k := ⟨_, rfl⟩
          rw [← hv] at hor hdone
          clear hd128
          have hvl : v < 128 ^ 6 := by
            have h1 := hp.out.2.2.1
            have h2 : 128 ^ k ≤ 128 ^ 5 := Nat.pow_le_pow_right (by omega) (by omega)
            have h3 : d * 128 ^ k ≤ 127 * 128 ^ k := Nat.mul_le_mul_right _ (by omega)
            omega
          by_cases hz : d = 0 ∧ 0 < k
          · have he : Hid (nErr (B.drop pos) most = 3) := by show _ = _; rw [nErr_def, hp.out.zero hlt hk' (by rw [hdk.out]; exact hz.1) hz.2]; rfl
            have hk0' : decide (0 < k) = true := by simp; omega
            obtain ⟨rfl, hk0⟩ := hz
            clear hv hdone hvl
            go_wp2_with (fail)
            refine wp_region_grow (by kernel_rfl) (by kernel_rfl) ?_
            repeat (quiet_step ((first | (fail))))
            refine wpQuiet_nil ?_
            intro w4 hb4
            go_wp2_with (fail)
            go_ret2
            exact RetPk.bad hg3 R3.out hb23 hb4 he.out (by omega)
          · obtain ⟨hE, hV, hK⟩ := hdone (by omega)
            have he : Hid (nErr (B.drop pos) most = if 1099511627776 < v ∨ most < (v : Int) then 4 else 0) := by show _ = _; rw [nErr_def, hE, hV]; rfl
            have HV := Lib.hid hV
            have HK := Lib.hid hK
            have Hv := Lib.hid hv
            clear hE hV hK hdone hv hvl
            have hz0 : (decide (d = 0) && decide (0 < k)) = false := by
              rw [Bool.and_eq_false_iff]; simp; omega
            by_cases hlong : 1099511627776 < v ∨ most < (v : Int)
            · have he4 := Lib.hid (he.out.trans (if_pos hlong))
              have hl2 : (decide (1099511627776 < (v : Int)) || decide (most < (v : Int))) = true := by
                rw [Bool.or_eq_true]; simp; omega
              clear he hlong
              go_wp2_with (fail)
              all_goals
                refine wp_region_grow (by kernel_rfl) (by kernel_rfl) ?_
                repeat (quiet_step ((first | (fail))))
                refine wpQuiet_nil ?_
                intro w4 hb4
                go_wp2_with (fail)
                go_ret2
                exact RetPk.bad hg3 R3.out hb23 hb4 he4.out (by omega)
            · have he0 := Lib.hid (he.out.trans (if_neg hlong))
              have hl2 : decide (1099511627776 < (v : Int)) = false := by simp; omega
              have hl3 : decide (most < (v : Int)) = false := by simp; omega
              clear he hlong
              go_wp2_with (fail)
              all_goals
                refine wp_region_grow (by kernel_rfl) (by kernel_rfl) ?_
                repeat (quiet_step ((first | (fail))))
                refine wpQuiet_nil ?_
                intro w4 hb4
                go_wp2_with (fail)
                go_ret2
                exact RetPk.good R3.out hb23 hb4 he0.out HV.out HK.out Hm.out
end Go.Proofs.YtldoedmclfbgpaaDoor
namespace Go.Proofs.YtldoedmclfbgpaaDoor
open Go.RowKit

theorem RdP.nil {w : World} {st : Rd} (h : RdP w none st) : st = ⟨[], 1⟩ := by
  rcases h with ⟨_, h⟩ | ⟨g, _, _, _, _, h, _⟩
  · exact h
  · cases h
theorem RdP.at {w : World} {g : Nat} {st : Rd} (h : RdP w (some g) st) : ∃ A c B pos, RdA w g A c B pos st.e ∧ st.s = B.drop pos := by
  rcases h with ⟨h, _⟩ | ⟨g', A, c, B, pos, h, ha, hs⟩
  · cases h
  · injection h with h; subst h; exact ⟨A, c, B, pos, ha, hs⟩
theorem RdP.mk {w : World} {g : Nat} {A : Option Addr} {c : Nat} {B : List UInt8} {pos : Nat} {st : Rd} (ha : RdA w g A c B pos st.e) (hs : st.s = B.drop pos) : RdP w (some g) st := .inr ⟨g, A, c, B, pos, rfl, ha, hs⟩
theorem RdP.nilmk (w : World) : RdP w none ⟨[], 1⟩ := .inl ⟨rfl, rfl⟩
theorem RetP.nil {w w' : World} {st' : Rd} {v : Value} (h : st' = ⟨[], 1⟩) (hb : Below w.heap.size w w') : RetP none st' w v (.returned v) w' := by subst h; exact ⟨rfl, RdP.nilmk _, .of_below hb⟩
theorem RetP.same {w w' : World} {p : Option Nat} {st : Rd} {v : Value} (h : RdP w p st) (hb : Below w.heap.size w w') : RetP p st w v (.returned v) w' := ⟨rfl, h.below hb, .of_below hb⟩

/-- The nil reader, or the one at g. -/
theorem RdA.fail {w : World} {g : Nat} {A : Option Addr} {c : Nat} {B : List UInt8} {pos : Nat} {st : Rd} {e : Int} (ha : RdA w g A c B pos st.e) (hs : st.s = B.drop pos) : RdP (w.setCell ⟨g, 2, none⟩ (.int .i64 e)) (some g) ⟨st.s, e⟩ ∧ Kept (some g) w.heap.size w (w.setCell ⟨g, 2, none⟩ (.int .i64 e)) :=
  ⟨RdP.mk (ha.store2 e) hs, (Kept.refl _ _ _).setCell (q := ⟨g, 2, none⟩) (.inr rfl) _⟩
set_option maxHeartbeats 400000 in
theorem c_octet_Err (p : Option Nat) (st : Rd) (w : World) (h : RdP w p st) : Calls Tryd.prog 10 #[ptr p] w (RetP p st w (.int .i64 st.e)) := by
  rcases p with _ | g
  · have hs := h.nil
    subst hs
    rw [ptr_none]
    go_enter Tryd.func10, Tryd.ntmps10
    go_wp2_with (fail)
    go_ret
    exact RetP.same h (by repeat (first | exact Below.refl _ _ | refine Below.drew ?_ | refine Below.alloc ?_ (by first | omega | (simp; done) | (simp; omega)) _ | refine Below.setCell ?_ (by first | omega | (simp; done) | (simp; omega)) _ | refine Below.trans ?_ (Below.mono (by assumption) (by first | omega | (simp; done) | (simp; omega)))))
  · obtain ⟨A, c, B, pos, ha, hs⟩ := h.at
    have c2 : w.cell? ⟨g, 2, none⟩ = some (.int .i64 st.e) := ha.1.cell rfl
    have Hs := Lib.hid hs
    clear hs
    rw [ptr_some]
    go_enter Tryd.func10, Tryd.ntmps10
    go_wp2_with (fail)
    go_ret
    exact RetP.same h (by repeat (first | exact Below.refl _ _ | refine Below.drew ?_ | refine Below.alloc ?_ (by first | omega | (simp; done) | (simp; omega)) _ | refine Below.setCell ?_ (by first | omega | (simp; done) | (simp; omega)) _ | refine Below.trans ?_ (Below.mono (by assumption) (by first | omega | (simp; done) | (simp; omega)))))
/-- Nothing is handed back; the program's reader is then st'. -/
def RetF (p : Option Nat) (st' : Rd) (w : World) (e : Ending) (w' : World) : Prop := e = .returned (.tuple #[]) ∧ RdP w' p st' ∧ Kept p w.heap.size w w'
set_option maxHeartbeats 400000 in
theorem c_octet_Fail (p : Option Nat) (st : Rd) (e : Int) (w : World) (h : RdP w p st) : Calls Tryd.prog 26 #[ptr p, .int .i64 e] w (RetF p (rdF st e) w) := by
  rcases p with _ | g
  · have hs := h.nil
    subst hs
    rw [ptr_none, rdF_err (by decide)]
    go_enter Tryd.func26, Tryd.ntmps26
    go_wp2_with (fail)
    go_end0
    exact ⟨rfl, RdP.nilmk _, Kept.refl _ _ _⟩
  · obtain ⟨A, c, B, pos, ha, hs⟩ := h.at
    have c2 : w.cell? ⟨g, 2, none⟩ = some (.int .i64 st.e) := ha.1.cell rfl
    have f2 := ha.1.frozen 2
    have hgl := ha.1.lt
    have Hs := Lib.hid hs
    clear hs
    rw [ptr_some]
    by_cases h0 : st.e = 0
    · have hb : (st.e == 0) = true := by simpa using h0
      have hf := rdF_ok (e := e) h0
      have H0 := Lib.hid h0
      rw [hf]
      clear h0 hf
      go_enter Tryd.func26, Tryd.ntmps26
      go_wp2_with (fail)
      go_end0
      exact ⟨rfl, (ha.fail Hs.out).1, (ha.fail Hs.out).2⟩
    · have hb : (st.e == 0) = false := by simpa using h0
      rw [rdF_err h0]
      clear h0
      go_enter Tryd.func26, Tryd.ntmps26
      go_wp2_with (fail)
      go_end0
      exact ⟨rfl, h, Kept.refl _ _ _⟩
set_option maxHeartbeats 400000 in
theorem c_octet_RNum (p : Option Nat) (st : Rd) (most : Int) (w : World) (h : RdP w p st) : Calls Tryd.prog 18 #[ptr p, .int .i64 most] w (RetP p (rdN' st most) w (.int .i64 (rdN st most))) := by
  rcases p with _ | g
  · have hs := h.nil
    subst hs
    rw [ptr_none, (rdN_err (by decide)).1, (rdN_err (by decide)).2]
    go_enter Tryd.func18, Tryd.ntmps18
    go_wp2_with (fail)
    go_ret
    exact RetP.same h (by repeat (first | exact Below.refl _ _ | refine Below.drew ?_ | refine Below.alloc ?_ (by first | omega | (simp; done) | (simp; omega)) _ | refine Below.setCell ?_ (by first | omega | (simp; done) | (simp; omega)) _ | refine Below.trans ?_ (Below.mono (by assumption) (by first | omega | (simp; done) | (simp; omega)))))
  · obtain ⟨A, c, B, pos, ha, hs⟩ := h.at
    have c2 : w.cell? ⟨g, 2, none⟩ = some (.int .i64 st.e) := ha.1.cell rfl
    have Hs := Lib.hid hs
    clear hs
    rw [ptr_some]
    by_cases h0 : st.e = 0
    · have hb : (st.e != 0) = false := by simpa using h0
      have h1 : rdN st most = nVal st.s most := by unfold rdN; rw [if_pos h0]
      have h2 : rdN' st most = ⟨st.s.drop (nLen st.s most), nErr st.s most⟩ := by unfold rdN'; rw [if_pos h0]
      have ha0 : RdA w g A c B pos 0 := by rw [← h0]; exact ha
      rw [h1, h2, Hs.out]
      have H0 := Lib.hid h0
      clear h0 h1 h2
      go_enter Tryd.func18, Tryd.ntmps18
      go_wp2_with (fail)
      refine (c_octet_peek g A c B pos most _ ha0).mono ?_
      rintro e w1 ⟨rfl, hr, hk⟩
      have f1 := hr.1.frozen 1
      have c1 : w1.cell? ⟨g, 1, none⟩ = some (.int .i64 pos) := hr.1.cell rfl
      go_wp2_with (fail)
      go_ret
      refine ⟨rfl, RdP.mk (hr.store1 _ ?_) ?_, hk.setCell (q := ⟨g, 1, none⟩) (.inr rfl) _⟩
      · have := nLen_le (B.drop pos) most
        have := ha0.2.1
        rw [List.length_drop] at *; omega
      · rw [List.drop_drop]
    · have hb : (st.e != 0) = true := by simpa using h0
      rw [(rdN_err h0).1, (rdN_err h0).2]
      clear h0
      go_enter Tryd.func18, Tryd.ntmps18
      go_wp2_with (fail)
      go_ret
      exact RetP.same h (by repeat (first | exact Below.refl _ _ | refine Below.drew ?_ | refine Below.alloc ?_ (by first | omega | (simp; done) | (simp; omega)) _ | refine Below.setCell ?_ (by first | omega | (simp; done) | (simp; omega)) _ | refine Below.trans ?_ (Below.mono (by assumption) (by first | omega | (simp; done) | (simp; omega)))))
theorem bytes_elem : Tryd.prog.underlying 22 = some (.slice (Tryd.prog.elem 22)) := by kernel_rfl
theorem bytes_size (x : World) : (sizeOf (Tryd.prog.elem 22)).run Tryd.prog x = .ok 1 x := by kernel_rfl
/-- Where bytes out of bytes lie, whatever the capacity. -/
def cutA (A : Option Addr) (c i : Nat) : Option Addr := if c = i then A else A.map (·.add i)
theorem cut_run (A : Option Addr) (c len i n : Nat) (hn : i + n ≤ len) (hc : len ≤ c) (x : World) :
    (Instr.slice 22 (.slice A len c) (some (.int .i64 i)) (some (.int .i64 ((i : Int) + (n : Int)))) none).run Tryd.prog x = .ok (.slice (cutA A c i) n (c - i)) x := by
  have hr := run_slice_lh (P := Tryd.prog) (w := x) 22 A len c bytes_elem .i64 .i64 (i : Int) ((i : Int) + (n : Int)) (by omega) (by omega) (by omega)
  rw [hr, bytes_size]
  simp only [Result.andThen, sliced]
  rw [show ((i : Int)).toNat = i by omega, show ((i : Int) + (n : Int)).toNat - i = n by omega, Nat.mul_one]
  rfl
theorem cut_in {w : World} {A : Option Addr} {c : Nat} {B : List UInt8} (h : InB w A c B) (i n : Nat) (hn : i + n ≤ B.length) : InB w (cutA A c i) (c - i) ((B.drop i).take n) := by
  have hc := h.1
  unfold cutA
  by_cases hci : c = i
  · rw [if_pos hci]
    have h0 : n = 0 := by omega
    subst h0
    rw [List.take_zero]
    exact In.nil (by have := h.2.1; omega)
  · rw [if_neg hci]
    rcases Nat.eq_zero_or_pos n with h0 | h0
    · subst h0
      rw [List.take_zero]
      exact In.nil (by have := h.2.1; omega)
    · obtain ⟨b, off, rfl, hb, hrow⟩ := h.at (i := i) (by omega)
      have := h.sub (i := i) (j := i + n) (by omega) hn ⟨hb, hrow⟩
      rw [show i + n - i = n by omega] at this
      simpa [add_lit'] using this
theorem RdA.in {w : World} {g : Nat} {A : Option Addr} {c : Nat} {B : List UInt8} {pos : Nat} {e : Int} (ha : RdA w g A c B pos e) : InB w A c B :=
  ⟨ha.2.2.1, ha.2.2.2.1, ha.2.2.2.2.1, ha.2.2.2.2.2.imp id fun ⟨b, off, hA, hb, hr⟩ => ⟨b, off, hA, by have := ha.1.lt; omega, hr⟩⟩
set_option maxHeartbeats 400000 in
theorem c_octet_RStr (p : Option Nat) (st : Rd) (most : Int) (w : World) (h : RdP w p st) : Calls Tryd.prog 75 #[ptr p, .int .i64 most] w (RetP p (rdS' st most) w (.string (str (rdS st most)))) := by
  rcases p with _ | g
  · have hs := h.nil
    subst hs
    rw [ptr_none, (rdS_err (by decide)).1, (rdS_err (by decide)).2]
    go_enter Tryd.func75, Tryd.ntmps75
    go_wp2_with (fail)
    go_ret
    exact RetP.same h (by repeat (first | exact Below.refl _ _ | refine Below.drew ?_ | refine Below.alloc ?_ (by first | omega | (simp; done) | (simp; omega)) _ | refine Below.setCell ?_ (by first | omega | (simp; done) | (simp; omega)) _ | refine Below.trans ?_ (Below.mono (by assumption) (by first | omega | (simp; done) | (simp; omega)))))
  · obtain ⟨A, c, B, pos, ha, hs⟩ := h.at
    have c2 : w.cell? ⟨g, 2, none⟩ = some (.int .i64 st.e) := ha.1.cell rfl
    have Hs := Lib.hid hs
    clear hs
    rw [ptr_some]
    by_cases h0 : st.e = 0
    case neg =>
      have hb : (st.e != 0) = true := by simpa using h0
      rw [(rdS_err h0).1, (rdS_err h0).2]
      clear h0
      go_enter Tryd.func75, Tryd.ntmps75
      go_wp2_with (fail)
      go_ret
      exact RetP.same h (by repeat (first | exact Below.refl _ _ | refine Below.drew ?_ | refine Below.alloc ?_ (by first | omega | (simp; done) | (simp; omega)) _ | refine Below.setCell ?_ (by first | omega | (simp; done) | (simp; omega)) _ | refine Below.trans ?_ (Below.mono (by assumption) (by first | omega | (simp; done) | (simp; omega)))))
    have hb : (st.e != 0) = false := by simpa using h0
    have ha0 : RdA w g A c B pos 0 := by rw [← h0]; exact ha
    have H0 := Lib.hid h0
    clear h0 ha
    have hL := ha0.2.1
    have hC := ha0.2.2.1
    have hC' := ha0.2.2.2.1
    have hS := ha0.2.2.2.2.1
    obtain ⟨er, her⟩ : ∃ er, er = nErr (B.drop pos) most := ⟨_, rfl⟩
    obtain ⟨v, hv⟩ : ∃ v, v = nVal (B.drop pos) most := ⟨_, rfl⟩
    obtain ⟨tt, hto⟩ : ∃ tt, tt = pos + nLen (B.drop pos) most := ⟨_, rfl⟩
    by_cases he : er = 0
    case neg =>
      have h1 : rdS st most = [] := by unfold rdS tErr; rw [if_neg]; rw [Hs.out]; intro k; rw [← her, if_neg he] at k; exact he k.2
      have h2 : rdS' st most = ⟨st.s, er⟩ := by unfold rdS' tErr; rw [Hs.out, if_pos H0.out, ← her, if_neg he, if_neg he]
      rw [h1, h2]
      have hne : (er != 0) = true := by simpa using he
      clear h1 h2 he
      have Her := Lib.hid her
      have Hv := Lib.hid hv
      have Hto := Lib.hid hto
      clear her hv hto
      go_enter Tryd.func75, Tryd.ntmps75
      go_wp2_with (fail)
      refine (c_octet_peek g A c B pos most _ ha0).mono ?_
      rintro e w1 ⟨rfl, hr, hk⟩
      rw [← Hto.out, ← Hv.out]
      rw [← Her.out] at hr
      have d2 : w1.cell? ⟨g, 2, none⟩ = some (.int .i64 er) := hr.1.cell rfl
      clear c2
      go_wp2_with (fail)
      go_ret
      exact ⟨rfl, RdP.mk hr Hs.out, hk⟩
    have hn0 : nErr (B.drop pos) most = 0 := her.symm.trans he
    have hv' : v = nxV 6 (B.drop pos) := hv.trans (nVal_ok hn0)
    have hto' : tt = pos + nxK 6 (B.drop pos) := by rw [hto, nLen_ok hn0]
    obtain ⟨n, hn⟩ : ∃ n : Nat, n = nxV 6 (B.drop pos) := ⟨_, rfl⟩
    have hvn : v = (n : Int) := by rw [hv', hn]
    have hn40 : n ≤ 1099511627776 := by rw [hn]; exact (nErr_ok hn0).2.1
    have htl : tt ≤ B.length := by have := nxK_le 6 (B.drop pos); rw [List.length_drop] at this; omega
    have hdl : (B.drop pos).length - nxK 6 (B.drop pos) = B.length - tt := by rw [List.length_drop]; omega
    by_cases hlong : n ≤ B.length - tt
    case neg =>
      have ht : tErr st.s most = 2 := by unfold tErr; rw [Hs.out, if_pos hn0, ← hn, hdl, if_neg hlong]
      have h1 : rdS st most = [] := by unfold rdS; rw [if_neg]; intro k; rw [ht] at k; exact absurd k.2 (by decide)
      have h2 : rdS' st most = ⟨st.s, 2⟩ := by unfold rdS'; rw [if_pos H0.out, if_neg (by rw [ht]; decide), ht]
      rw [h1, h2]
      have hgt : (B.length : Int) - (tt : Int) < (n : Int) := by omega
      clear h1 h2 ht hdl hv' hto' hn hlong
      have Hn0 := Lib.hid hn0
      have Hv := Lib.hid (hv.symm.trans hvn)
      have Hto := Lib.hid hto
      clear her hv hto hn0 hvn he
      go_enter Tryd.func75, Tryd.ntmps75
      go_wp2_with (fail)
      refine (c_octet_peek g A c B pos most _ ha0).mono ?_
      rintro e w1 ⟨rfl, hr, hk⟩
      rw [← Hto.out, Hv.out]
      rw [Hn0.out] at hr
      have d2 : w1.cell? ⟨g, 2, none⟩ = some (.int .i64 0) := hr.1.cell rfl
      have d0 : w1.cell? ⟨g, 0, none⟩ = some (.slice A B.length c) := hr.1.cell rfl
      have f2 := hr.1.frozen 2
      clear c2
      go_wp2_with (fail)
      go_ret
      exact ⟨rfl, RdP.mk (hr.store2 2) Hs.out, hk.setCell (q := ⟨g, 2, none⟩) (.inr rfl) _⟩
    have ht : tErr st.s most = 0 := by unfold tErr; rw [Hs.out, if_pos hn0, ← hn, hdl, if_pos hlong]
    have h1 : rdS st most = (B.drop tt).take n := by unfold rdS; rw [if_pos ⟨H0.out, ht⟩, Hs.out, List.drop_drop, ← hto', ← hn]
    have h2 : rdS' st most = ⟨B.drop (tt + n), 0⟩ := by unfold rdS'; rw [if_pos H0.out, if_pos ht, Hs.out, List.drop_drop, ← hn, hto', Nat.add_assoc]
    have hle : tt + n ≤ B.length := by omega
    have hgt : ¬ (B.length : Int) - (tt : Int) < (n : Int) := by omega
    rw [h1, h2]
    clear h1 h2 ht hdl hv' hto' hn hlong
    have Hn0 := Lib.hid hn0
    have Hv := Lib.hid (hv.symm.trans hvn)
    have Hto := Lib.hid hto
    clear her hv hto hn0 hvn he
    go_enter Tryd.func75, Tryd.ntmps75
    go_wp2_with (fail)
    refine (c_octet_peek g A c B pos most _ ha0).mono ?_
    rintro e w1 ⟨rfl, hr, hk⟩
    rw [← Hto.out, Hv.out]
    rw [Hn0.out] at hr
    have d2 : w1.cell? ⟨g, 2, none⟩ = some (.int .i64 0) := hr.1.cell rfl
    have d0 : w1.cell? ⟨g, 0, none⟩ = some (.slice A B.length c) := hr.1.cell rfl
    have d1 : w1.cell? ⟨g, 1, none⟩ = some (.int .i64 pos) := hr.1.cell rfl
    have f1 := hr.1.frozen 1
    have hg1 := hr.1.lt
    have hlen : ((B.drop tt).take n).length = n := by rw [List.length_take, List.length_drop]; omega
    have hcut := cut_run A c B.length tt n hle hC
    have r2 : RdA (w1.setCell ⟨g, 1, none⟩ (.int .i64 ((tt : Int) + (n : Int)))) g A c B (tt + n) 0 := by have := hr.store1 (tt + n) hle; rwa [Int.natCast_add] at this
    have hin2 := cut_in r2.in tt n hle
    obtain ⟨txt, htxt⟩ : ∃ txt, txt = (B.drop tt).take n := ⟨_, rfl⟩
    obtain ⟨A', hA'⟩ : ∃ A', A' = cutA A c tt := ⟨_, rfl⟩
    rw [← htxt] at hin2 hlen ⊢
    rw [← hA'] at hin2 hcut
    have kc : ∀ x : World, InB x A' (c - tt) txt → (convert 22 9 (.slice A' n (c - tt))).run Tryd.prog x = .ok (.string (str txt)) x := fun x hx => by
      have := conv_str (P := Tryd.prog) x (src := 22) (dst := 9) (e := 5) Tryd.underlying22 Tryd.underlying5 Tryd.underlying9 hx
      rw [hlen] at this
      exact this
    have hw : IntKind.i64.wrap ((tt : Int) + (n : Int)) = (tt : Int) + (n : Int) := IntWalk.i64_in _ (by omega)
    have kc2 := fun y : Grow (w1.setCell ⟨g, 1, none⟩ (.int .i64 ((tt : Int) + (n : Int)))) => kc _ (In.grow hin2 y)
    have Htxt := Lib.hid htxt
    clear c2 hlen htxt hA' kc
    have Hin2 := Lib.hid hin2
    have R2 := Lib.hid r2
    have Hle := Lib.hid hle
    clear hin2 r2 hle
    go_wp2_with (fail)
    refine wp_region_grow (by kernel_rfl) (by kernel_rfl) ?_
    repeat (quiet_step ((first | (fail))))
    refine wpQuiet_nil ?_
    intro w3 hb3
    go_wp2_with (fail)
    go_ret
    exact ⟨by rw [← Htxt.out]; rfl, (RdP.mk R2.out rfl).below hb3, (hk.setCell (q := ⟨g, 1, none⟩) (.inr rfl) _).then_below hb3 (by simp [World.setCell]; exact hk.size)⟩
end Go.Proofs.YtldoedmclfbgpaaDoor
namespace Go.Proofs.YtldoedmclfbgpaaDoor
open Go.RowKit

/-- next's end. -/
def RetNx (s : List UInt8) (most : Int) (w : World) (e : Ending) (w' : World) : Prop :=
  e = .returned (.tuple #[.int .i64 (nVal s most), .int .i64 (nLen s most), .int .i64 (nErr s most)]) ∧ w = w'
theorem RetNx.bad {s : List UInt8} {most : Int} {w : World} {e : Int} (h : nErr s most = e) (h0 : e ≠ 0) : RetNx s most w (.returned (.tuple #[.int .i64 0, .int .i64 0, .int .i64 e])) w := by
  refine ⟨?_, rfl⟩
  rw [nVal_bad (by omega), nLen_bad (by omega), h]; rfl

set_option maxHeartbeats 1000000 in
set_option maxRecDepth 4000 in
theorem c_ref01_next (s : List UInt8) (most : Int) (w : World) (hs : s.length ≤ 4294967296) : Calls Tryd.prog 65 #[.string (str s), .int .i64 most] w (RetNx s most w) := by
  go_enter Tryd.func65, Tryd.ntmps65
  go_wp2_with (fail)
  go_loop [7] (fun n => ∃ k acc : Nat, Hid (Peek s k acc) ∧ k ≤ 6 ∧ k ≤ s.length ∧ n = .int .i64 k) (fun n => 6 - (intOf n).toNat)
  case atStart => exact ⟨0, 0, Peek.start _, by omega, by omega, rfl⟩
  case round =>
    obtain ⟨k, acc, hp, hk6, hkl, rfl⟩ := hrel
    by_cases hgo : k < 6 ∧ ∃ h : k < s.length, 128 ≤ s[k].toNat
    · obtain ⟨hlt, hl, hc⟩ := hgo
      have hp2 := Lib.hid (hp.out.next hlt hl hc)
      have h1 : decide ((k : Int) < 6) = true := by simp; omega
      have h2 : decide (k < s.length) = true := by simp; omega
      have h3 : decide (s[k].toNat < 128) = false := by simp; omega
      clear hp
      go_wp2_with (fail)
      go_round
      case rel => exact ⟨k + 1, _, hp2.out, by omega, by omega, by go_num⟩
      case measure => simp [intOf]; omega
    · by_cases h6 : k = 6
      · subst h6
        have he : Hid (nErr s most = 3) := by show _ = _; rw [nErr_def, hp.out.full]; rfl
        clear hgo
        go_wp2_with (fail)
        go_ret3
        exact RetNx.bad he.out (by omega)
      · have hlt : k < 6 := by omega
        have h1 : decide ((k : Int) < 6) = true := by simp; omega
        have h1' : decide ((k : Int) = 6) = false := by simp; omega
        by_cases hl : k = s.length
        · have he : Hid (nErr s most = 2) := by show _ = _; rw [nErr_def, hp.out.short hlt hl]; rfl
          subst hl
          clear hgo
          go_wp2_with (fail)
          go_ret3
          exact RetNx.bad he.out (by omega)
        · have hl : k < s.length := by omega
          have hc : s[k].toNat < 128 := by
            rcases Nat.lt_or_ge s[k].toNat 128 with h | h
            · exact h
            · exact absurd ⟨hlt, hl, h⟩ hgo
          have h2 : decide (k < s.length) = true := by simp; omega
          have h3 : decide (s[k].toNat < 128) = true := by simp; omega
          have h2' : decide (k = s.length) = false := by simp; omega
          clear hgo
          by_cases hz : s[k].toNat = 0 ∧ 0 < k
          · have he : Hid (nErr s most = 3) := by show _ = _; rw [nErr_def, hp.out.zero hlt hl hz.1 hz.2]; rfl
            have h4 : decide (0 < k) = true := by simp; omega
            have h5 : ((s[k].toNat : Int) == 0) = true := by simp; omega
            clear hz
            go_wp2_with (fail)
            go_ret3
            exact RetNx.bad he.out (by omega)
          · obtain ⟨hE, hV, hK⟩ := hp.out.done hlt hl hc (by omega)
            have he : Hid (nErr s most = if 1099511627776 < nxV 6 s ∨ most < (nxV 6 s : Int) then 4 else 0) := by show _ = _; rw [nErr_def, hE]; rfl
            have HK := Lib.hid hK
            clear hE hV hK
            have hdn := fun m (h1 : m < k + 1) (h2 : m < s.length) => downV_step hp.out hlt hl hc h1 h2
            have hz2 : (decide (0 < k) && ((s[k].toNat : Int) == 0)) = false := by
              rw [Bool.and_eq_false_iff]; simp; omega
            have Hdn := Lib.hid hdn
            clear hdn
            by_cases hz3 : 0 < k
            all_goals
              have hz4 : 0 < k → ((s[k].toNat : Int) == 0) = false := by intro h; simp; omega
              first | have hz5 := hz4 hz3 | skip
              first | (have h4 : decide (0 < k) = true := by simp; omega) | (have h4 : decide (0 < k) = false := by simp; omega)
              clear hz2 hz4 hz hz3 h3
              go_wp2_with (fail)
              go_loop [8, 9] (fun v i => ∃ m : Nat, m ≤ k + 1 ∧ i = .int .i64 ((m : Int) - 1) ∧ v = .int .i64 (downV s k m)) (fun _ i => (intOf i + 1).toNat)
              case atStart => exact ⟨k + 1, by omega, by go_num, by rw [downV_start]; rfl⟩
              case round =>
                obtain ⟨m, hm, hi, rfl⟩ := hrel
                have hdl := downV_lt s k m (by omega)
                rcases m with _ | m
                · have hi0 := hi.trans (show Value.int .i64 (((0 : Nat) : Int) - 1) = .int .i64 (-1) from rfl)
                  subst hi0
                  rw [downV_end]
                  clear hi
                  by_cases hlong : 1099511627776 < nxV 6 s ∨ most < (nxV 6 s : Int)
                  · have he4 := Lib.hid (he.out.trans (if_pos hlong))
                    by_cases hl1 : 1099511627776 < nxV 6 s
                    all_goals
                      first
                        | (have hl2 : decide (1099511627776 < (nxV 6 s : Int)) = true := by simp; omega)
                        | ((have hl2 : decide (1099511627776 < (nxV 6 s : Int)) = false := by simp; omega); (have hl3 : decide (most < (nxV 6 s : Int)) = true := by simp; omega))
                      clear hlong hl1 he
                      go_wp2_with (fail)
                      go_ret3
                      exact RetNx.bad he4.out (by omega)
                  · have he0 := Lib.hid (he.out.trans (if_neg hlong))
                    have hl2 : decide (1099511627776 < (nxV 6 s : Int)) = false := by simp; omega
                    have hl3 : decide (most < (nxV 6 s : Int)) = false := by simp; omega
                    clear hlong he
                    go_wp2_with (fail)
                    go_ret3
                    refine ⟨?_, rfl⟩
                    rw [nVal_ok he0.out, nLen_ok he0.out, he0.out, HK.out]; rfl
                · have hi0 := hi.trans (show Value.int .i64 (((m + 1 : Nat) : Int) - 1) = .int .i64 (m : Int) by congr 1; omega)
                  subst hi0
                  clear hi
                  have hml : m < s.length := by omega
                  have hd := Hdn.out m hm hml
                  have hm8 : s[m].toNat % 128 < 128 := Nat.mod_lt _ (by omega)
                  have Hd := Lib.hid hd
                  clear hd
                  go_wp2_with (fail)
                  go_round
                  case rel => exact ⟨m, by omega, rfl, by rw [← Hd.out]; go_num⟩
                  case measure => simp [intOf]
theorem drop_take_all {α : Type} (l : List α) (n : Nat) : (l.drop n).take (l.length - n) = l.drop n := List.take_of_length_le (by rw [List.length_drop]; omega)
set_option maxHeartbeats 400000 in
theorem c_ref01_Fail (h : Nat) (st : Rd) (e : Int) (w : World) (r : RdR w h st) : Calls Tryd.prog 28 #[.pointer (some ⟨h, 0, none⟩), .int .i64 e] w (fun x w' => x = .returned (.tuple #[]) ∧ RdR w' h (rdF st e) ∧ Kept (some h) w.heap.size w w') := by
  have c1 : w.cell? ⟨h, 1, none⟩ = some (.int .i64 st.e) := r.1.cell rfl
  have f1 := r.1.frozen 1
  by_cases h0 : st.e = 0
  · have hb : (st.e == 0) = true := by simpa using h0
    rw [rdF_ok h0]
    clear h0
    go_enter Tryd.func28, Tryd.ntmps28
    go_wp2_with (fail)
    go_end0
    exact ⟨rfl, ⟨by simpa using r.1.store 1 (.int .i64 e), r.2⟩, (Kept.refl _ _ _).setCell (q := ⟨h, 1, none⟩) (.inr rfl) _⟩
  · have hb : (st.e == 0) = false := by simpa using h0
    rw [rdF_err h0]
    clear h0
    go_enter Tryd.func28, Tryd.ntmps28
    go_wp2_with (fail)
    go_end0
    exact ⟨rfl, r, Kept.refl _ _ _⟩
set_option maxHeartbeats 400000 in
theorem c_ref01_RNum (h : Nat) (st : Rd) (most : Int) (w : World) (r : RdR w h st) : Calls Tryd.prog 49 #[.pointer (some ⟨h, 0, none⟩), .int .i64 most] w (RetR h (rdN' st most) w (.int .i64 (rdN st most))) := by
  have c0 : w.cell? ⟨h, 0, none⟩ = some (.string (str st.s)) := r.1.cell rfl
  have c1 : w.cell? ⟨h, 1, none⟩ = some (.int .i64 st.e) := r.1.cell rfl
  have f1 := r.1.frozen 1
  have f0 := r.1.frozen 0
  by_cases h0 : st.e = 0
  · have hb : (st.e != 0) = false := by simpa using h0
    have hn : rdN st most = nVal st.s most := by unfold rdN; rw [if_pos h0]
    have hn' : rdN' st most = ⟨st.s.drop (nLen st.s most), nErr st.s most⟩ := by unfold rdN'; rw [if_pos h0]
    have hle := nLen_le st.s most
    have hln := r.2
    rw [hn, hn']
    have R := Lib.hid r
    clear h0 hn hn' r
    go_enter Tryd.func49, Tryd.ntmps49
    go_wp2_with (go_at_call 65; refine (c_ref01_next st.s most _ hln).mono ?_; rintro e w1 ⟨rfl, rfl⟩)
    go_ret
    refine ⟨rfl, ⟨?_, by simp; omega⟩, ((Kept.refl _ _ _).setCell (q := ⟨h, 1, none⟩) (.inr rfl) _).setCell (q := ⟨h, 0, none⟩) (.inr rfl) _⟩
    have := (R.out.1.store 1 (.int .i64 (nErr st.s most))).store 0 (.string (str (st.s.drop (nLen st.s most))))
    simpa [drop_take_all] using this
  · have hb : (st.e != 0) = true := by simpa using h0
    rw [(rdN_err h0).1, (rdN_err h0).2]
    clear h0
    go_enter Tryd.func49, Tryd.ntmps49
    go_wp2_with (fail)
    go_ret
    exact ⟨rfl, r, Kept.refl _ _ _⟩
set_option maxHeartbeats 400000 in
theorem c_ref01_RStr (h : Nat) (st : Rd) (most : Int) (w : World) (r : RdR w h st) : Calls Tryd.prog 81 #[.pointer (some ⟨h, 0, none⟩), .int .i64 most] w (RetR h (rdS' st most) w (.string (str (rdS st most)))) := by
  have c0 : w.cell? ⟨h, 0, none⟩ = some (.string (str st.s)) := r.1.cell rfl
  have c1 : w.cell? ⟨h, 1, none⟩ = some (.int .i64 st.e) := r.1.cell rfl
  have f1 := r.1.frozen 1
  have f0 := r.1.frozen 0
  have hln := r.2
  by_cases h0 : st.e = 0
  case neg =>
    have hb : (st.e != 0) = true := by simpa using h0
    rw [(rdS_err h0).1, (rdS_err h0).2]
    clear h0
    go_enter Tryd.func81, Tryd.ntmps81
    go_wp2_with (fail)
    go_ret
    exact ⟨rfl, r, Kept.refl _ _ _⟩
  have hb : (st.e != 0) = false := by simpa using h0
  have H0 := Lib.hid h0
  clear h0
  obtain ⟨er, her⟩ : ∃ er, er = nErr st.s most := ⟨_, rfl⟩
  by_cases he : er = 0
  case neg =>
    have h1 : rdS st most = [] := by unfold rdS tErr; rw [if_neg]; intro k; rw [← her, if_neg he] at k; exact he k.2
    have h2 : rdS' st most = ⟨st.s, er⟩ := by unfold rdS' tErr; rw [if_pos H0.out, ← her, if_neg he, if_neg he]
    have hbad : nErr st.s most ≠ 0 := by rw [← her]; exact he
    rw [h1, h2]
    have hne : (er != 0) = true := by simpa using he
    have hne2 : (er == 0) = false := by simpa using he
    have Hv := Lib.hid (nVal_bad hbad)
    have Hl := Lib.hid (nLen_bad hbad)
    have Her := Lib.hid her
    clear h1 h2 he hbad her
    go_enter Tryd.func81, Tryd.ntmps81
    go_wp2_with (go_at_call 65; refine (c_ref01_next st.s most _ hln).mono ?_; rintro e w1 ⟨rfl, rfl⟩; rw [Hv.out, Hl.out, ← Her.out])
    go_ret
    exact ⟨rfl, ⟨by simpa using r.1.store 1 (.int .i64 er), hln⟩, (Kept.refl _ _ _).setCell (q := ⟨h, 1, none⟩) (.inr rfl) _⟩
  have hn0 : nErr st.s most = 0 := her.symm.trans he
  have hv := nVal_ok hn0
  have hl := nLen_ok hn0
  obtain ⟨n, hn⟩ : ∃ n : Nat, n = nxV 6 st.s := ⟨_, rfl⟩
  obtain ⟨k, hk⟩ : ∃ k : Nat, k = nxK 6 st.s := ⟨_, rfl⟩
  rw [← hn] at hv
  rw [← hk] at hl
  have hn40 : n ≤ 1099511627776 := by rw [hn]; exact (nErr_ok hn0).2.1
  have hkl : k ≤ st.s.length := by rw [hk]; exact nxK_le 6 _
  by_cases hlong : n ≤ st.s.length - k
  case neg =>
    have ht : tErr st.s most = 2 := by unfold tErr; rw [if_pos hn0, ← hn, ← hk, if_neg hlong]
    have h1 : rdS st most = [] := by unfold rdS; rw [if_neg]; intro k; rw [ht] at k; exact absurd k.2 (by decide)
    have h2 : rdS' st most = ⟨st.s, 2⟩ := by unfold rdS'; rw [if_pos H0.out, if_neg (by rw [ht]; decide), ht]
    rw [h1, h2]
    have hgt : (st.s.length : Int) - (k : Int) < (n : Int) := by omega
    have Hv := Lib.hid hv
    have Hl := Lib.hid hl
    have Hn0 := Lib.hid hn0
    clear h1 h2 ht hlong hn hk hv hl hn0 her he
    go_enter Tryd.func81, Tryd.ntmps81
    go_wp2_with (go_at_call 65; refine (c_ref01_next st.s most _ hln).mono ?_; rintro e w1 ⟨rfl, rfl⟩; rw [Hv.out, Hl.out, Hn0.out])
    go_ret
    exact ⟨rfl, ⟨by simpa using r.1.store 1 (.int .i64 2), hln⟩, (Kept.refl _ _ _).setCell (q := ⟨h, 1, none⟩) (.inr rfl) _⟩
  have ht : tErr st.s most = 0 := by unfold tErr; rw [if_pos hn0, ← hn, ← hk, if_pos hlong]
  have h1 : rdS st most = (st.s.drop k).take n := by unfold rdS; rw [if_pos ⟨H0.out, ht⟩, ← hn, ← hk]
  have h2 : rdS' st most = ⟨st.s.drop (k + n), 0⟩ := by unfold rdS'; rw [if_pos H0.out, if_pos ht, ← hn, ← hk]
  have hgt : ¬ (st.s.length : Int) - (k : Int) < (n : Int) := by omega
  have hle : k + n ≤ st.s.length := by omega
  rw [h1, h2]
  have Hv := Lib.hid hv
  have Hl := Lib.hid hl
  have Hn0 := Lib.hid hn0
  have R := Lib.hid r
  clear h1 h2 ht hlong hn hk hv hl hn0 her he r
  go_enter Tryd.func81, Tryd.ntmps81
  go_wp2_with (go_at_call 65; refine (c_ref01_next st.s most _ hln).mono ?_; rintro e w1 ⟨rfl, rfl⟩; rw [Hv.out, Hl.out, Hn0.out])
  go_ret
  refine ⟨?_, ⟨?_, by simp; omega⟩, (Kept.refl _ _ _).setCell (q := ⟨h, 0, none⟩) (.inr rfl) _⟩
  · show Ending.returned (Value.string _) = _
    congr 2
    have : k + n - k = n := by omega
    simp [this]
  · have := R.out.1.store 0 (.string (str (st.s.drop (k + n))))
    simpa [drop_take_all, H0.out] using this
end Go.Proofs.YtldoedmclfbgpaaDoor
namespace Go.Proofs.YtldoedmclfbgpaaDoor
open Go.RowKit

/-! Patches. -/
def ptM (st : Rd) : Nat := (rdN st 511).toNat
def ptA (st : Rd) : Rd := rdAb' st 511
def ptL (st : Rd) : Nat := if (ptM st).testBit 8 then (rdN (ptA st) 65535).toNat else 0
def ptB (st : Rd) : Rd := if (ptM st).testBit 8 then rdN' (ptA st) 65535 else ptA st
def ptF (st : Rd) : List Val := rdFv true (bitsTo (ptM st) 8) (ptB st) f8z
@[irreducible] def rdPatch' (st : Rd) : Rd := rdFs' true (bitsTo (ptM st) 8) (ptB st)
def ptPatch (st : Rd) : Patch := ⟨ptM st, ptL st, ptF st⟩
@[irreducible] def rdPatch (st : Rd) : Patch := if (rdPatch' st).e = 0 then ptPatch st else pz
theorem rdCard_vals (st : Rd) : ∀ x ∈ (rdCard st).f, x.ok = true := by
  unfold rdCard; split
  · exact rdFv_ok false _ _ _ f8z_ok
  · exact f8z_ok
theorem rdCard_sizes (st : Rd) : ∀ x ∈ (rdCard st).f, x.s.length ≤ 4294967000 := fun x hx => by have := Val.ok_len (rdCard_vals st x hx); omega
/-! Edits. -/
abbrev ez : Edit := ⟨0, 0, 0, pz⟩
def edK (st : Rd) : Int := rdN st 7
def edA (st : Rd) : Rd := rdAb' st 7
def edG (st : Rd) : Int := if hasG (edK st) then rdN (edA st) 15 else 0
def edB (st : Rd) : Rd := if hasG (edK st) then rdN' (edA st) 15 else edA st
def edI (st : Rd) : Int := if hasI (edK st) then rdN (edB st) 1073741823 else 0
def edC (st : Rd) : Rd := if hasI (edK st) then rdAb' (edB st) 1073741823 else edB st
def edP (st : Rd) : Patch := if hasP (edK st) then rdPatch (edC st) else pz
@[irreducible] def rdEdit' (st : Rd) : Rd := if hasP (edK st) then (if (rdPatch (edC st)).code = 0 then rdPatch' (edC st) else rdF (rdPatch' (edC st)) 3) else edC st
def edEdit (st : Rd) : Edit := ⟨edK st, edI st, edG st, edP st⟩
@[irreducible] def rdEdit (st : Rd) : Edit := if (rdEdit' st).e = 0 then edEdit st else ez
end Go.Proofs.YtldoedmclfbgpaaDoor
namespace Go.Proofs.YtldoedmclfbgpaaDoor
open Go.RowKit

set_option maxHeartbeats 400000 in
theorem c_octet_Err' (p : Option Nat) (st : Rd) (w : World) (h : RdP w p st) : Calls Tryd.prog 10 #[ptr p] w (RetV w (.int .i64 st.e)) := by
  rcases p with _ | g
  · have hs := h.nil
    subst hs
    rw [ptr_none]
    go_enter Tryd.func10, Tryd.ntmps10
    go_wp2_with (fail)
    go_ret
    exact RetV.of rfl (by repeat (first | exact Below.refl _ _ | refine Below.drew ?_ | refine Below.alloc ?_ (by first | omega | (simp; done) | (simp; omega)) _ | refine Below.setCell ?_ (by first | omega | (simp; done) | (simp; omega)) _ | refine Below.trans ?_ (Below.mono (by assumption) (by first | omega | (simp; done) | (simp; omega)))))
  · obtain ⟨A, c, B, pos, ha, hs⟩ := h.at
    have c2 : w.cell? ⟨g, 2, none⟩ = some (.int .i64 st.e) := ha.1.cell rfl
    have Hs := Lib.hid hs
    clear hs
    rw [ptr_some]
    go_enter Tryd.func10, Tryd.ntmps10
    go_wp2_with (fail)
    go_ret
    exact RetV.of rfl (by repeat (first | exact Below.refl _ _ | refine Below.drew ?_ | refine Below.alloc ?_ (by first | omega | (simp; done) | (simp; omega)) _ | refine Below.setCell ?_ (by first | omega | (simp; done) | (simp; omega)) _ | refine Below.trans ?_ (Below.mono (by assumption) (by first | omega | (simp; done) | (simp; omega)))))
set_option maxHeartbeats 400000 in
theorem c_octet_Left' (p : Option Nat) (st : Rd) (w : World) (h : RdP w p st) : Calls Tryd.prog 11 #[ptr p] w (RetV w (.int .i64 st.s.length)) := by
  rcases p with _ | g
  · have hs := h.nil
    subst hs
    rw [ptr_none]
    go_enter Tryd.func11, Tryd.ntmps11
    go_wp2_with (fail)
    go_ret
    exact RetV.of rfl (by repeat (first | exact Below.refl _ _ | refine Below.drew ?_ | refine Below.alloc ?_ (by first | omega | (simp; done) | (simp; omega)) _ | refine Below.setCell ?_ (by first | omega | (simp; done) | (simp; omega)) _ | refine Below.trans ?_ (Below.mono (by assumption) (by first | omega | (simp; done) | (simp; omega)))))
  · obtain ⟨A, c, B, pos, ha, hs⟩ := h.at
    have c0 : w.cell? ⟨g, 0, none⟩ = some (.slice A B.length c) := ha.1.cell rfl
    have c1 : w.cell? ⟨g, 1, none⟩ = some (.int .i64 pos) := ha.1.cell rfl
    have hL := ha.2.1
    have hC := ha.2.2.1
    have hC' := ha.2.2.2.1
    have hS := ha.2.2.2.2.1
    have hgl := ha.1.lt
    have hw : IntKind.i64.wrap ((B.length : Int) - (pos : Int)) = (st.s.length : Int) := by rw [IntWalk.i64_in _ (by omega), hs, List.length_drop]; omega
    have Hs := Lib.hid hs
    have Ha := Lib.hid ha
    clear hs ha
    rw [ptr_some]
    go_enter Tryd.func11, Tryd.ntmps11
    go_wp2_with (fail)
    refine wp_region_grow (by kernel_rfl) (by kernel_rfl) ?_
    repeat (quiet_step ((first | (fail))))
    refine wpQuiet_nil ?_
    intro w2 hb2
    go_wp2_with (fail)
    go_ret
    exact RetV.of rfl (by repeat (first | exact Below.refl _ _ | refine Below.drew ?_ | refine Below.alloc ?_ (by first | omega | (simp; done) | (simp; omega)) _ | refine Below.setCell ?_ (by first | omega | (simp; done) | (simp; omega)) _ | refine Below.trans ?_ (Below.mono (by assumption) (by first | omega | (simp; done) | (simp; omega)))))
end Go.Proofs.YtldoedmclfbgpaaDoor
namespace Go.Proofs.YtldoedmclfbgpaaDoor
open Go.RowKit

section
variable {P : Program} {w : World}
theorem stop_bin {ops : Array Oper} {rest : List Oper} {o : Oper} {a : Act} {Q : Exit → Act → World → Prop} (op : BinOp) (ty : TypeId) (x y : Operand) (ty2 : TypeId) (_ : o.op = .binOp op ty x y ty2) (h : Stop (wpList P ops Q (o :: rest) a w)) : wpList P ops Q (o :: rest) a w := h
theorem wpList_neqS {ops : Array Oper} {rest : List Oper} {o : Oper} {a : Act} {Q : Exit → Act → World → Prop} (hw : Region.wanted o (yielded ops a.tmps) = true) (ty : TypeId) (x y : Operand) (ty2 : TypeId) (ho : o.op = .binOp .neq ty x y ty2)
    (xs ys : Array Value) (hx : a.eval x = .agg xs) (hy : a.eval y = .agg ys) (hg : P.eqGuardType P.depth ty = false) (b : Bool) (he : (Op.equalIn 10000 ty (.agg xs) (.agg ys)).run P w = .ok b w)
    (h : wpList P ops Q rest (a.put o.dst (.bool (!b))) w) : wpList P ops Q (o :: rest) a w := by
  refine wpList_g hw fun K hK => ?_
  unfold Oper.wp execOp
  simp only [ho, hx, hy, Sem.run_bind, Sem.run_pure, Result.andThen_ok, run_eqGuard_agg w _ _ _ _ _ _ hg, run_neq_struct, he]
  exact hK _ _ h
end
theorem gC : Tryd.prog.eqGuardType Tryd.prog.depth 56 = false := by kernel_rfl
end Go.Proofs.YtldoedmclfbgpaaDoor
namespace Go.Proofs.YtldoedmclfbgpaaDoor
open Go.RowKit

/-- A world behind the making of two blocks, in which they are as they were made. -/
def At2 (w w' : World) (cs ds : Array Value) : Prop := Below w.heap.size w w' ∧ Blk w' w.heap.size cs ∧ Blk w' (w.heap.size + 1) ds
theorem At2.new (w : World) (s t : TypeId) (cs ds : Array Value) : At2 w ((w.alloc (.cells cs s)).alloc (.cells ds t)) cs ds := by
  have h := (At.new w s cs).alloc (.cells ds t)
  refine ⟨h.1, h.2, ?_⟩
  have := Blk.new (w.alloc (.cells cs s)) t ds
  simpa using this
theorem At2.step {w w1 w2 : World} {cs ds : Array Value} (h : At2 w w1 cs ds) (hb : Below w1.heap.size w1 w2) : At2 w w2 cs ds := ⟨h.1.trans (hb.mono h.1.size), h.2.1.below hb h.2.1.lt, h.2.2.below hb h.2.2.lt⟩
end Go.Proofs.YtldoedmclfbgpaaDoor
namespace Go.Proofs.YtldoedmclfbgpaaDoor
open Go.RowKit

theorem In.takeN {α : Type} {k : Nat} {cs : α → List Value} {w : World} {A : Option Addr} {c : Nat} {l : List α} (h : In k cs w A c l) {n : Nat} (hn : n ≤ l.length) : In k cs w A c (l.take n) := by
  have hl : (l.take n).length = n := by rw [List.length_take]; omega
  have h1 := h.1
  have h3 := h.2.2.1
  refine ⟨by omega, h.2.1, by omega, ?_⟩
  rcases h.2.2.2 with h0 | ⟨b, off, hA, hb, hr⟩
  · subst h0; left; simp
  · exact .inr ⟨b, off, hA, hb, hr.take n⟩
theorem head_runN (A : Option Addr) (c len n : Nat) (hn : n ≤ len) (hc : len ≤ c) (x : World) :
    (Instr.slice 22 (.slice A len c) none (some (.int .i64 n)) none).run Tryd.prog x = .ok (.slice A n c) x := by
  have hr := run_slice_h (P := Tryd.prog) (w := x) 22 A len c bytes_elem .i64 (n : Int) (by omega) (by omega)
  rw [hr, bytes_size]
  simp only [Result.andThen, sliced]
  rw [show ((n : Int)).toNat = n by omega, Nat.zero_mul, Nat.sub_zero, Nat.sub_zero]
  have : A.map (·.add 0) = A := by
    cases A with
    | none => rfl
    | some a => simp [Addr.add]
  rw [this]
  split <;> rfl
end Go.Proofs.YtldoedmclfbgpaaDoor
