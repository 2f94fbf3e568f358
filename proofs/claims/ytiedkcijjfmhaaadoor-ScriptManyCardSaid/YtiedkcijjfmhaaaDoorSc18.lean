/-
  Lemmas (walks and plain laws), in one text.
-/
import Derived.Test.YtiedkcijjfmhaaaDoorSc2
import Derived.Test.YtiedkcijjfmhaaaDoorSc3
import Derived.Test.YtiedkcijjfmhaaaDoorSc6
import Derived.Test.YtiedkcijjfmhaaaDoorSc7
import Derived.Test.YtiedkcijjfmhaaaDoorSc9
import Derived.Test.YtiedkcijjfmhaaaDoorSc14
import Derived.Test.YtiedkcijjfmhaaaDoorSc15
import Derived.Test.YtiedkcijjfmhaaaDoorSc16
import Derived.Test.YtiedkcijjfmhaaaDoorSc17
namespace Go.Proofs.YtiedkcijjfmhaaaDoor
open Go.RowKit

theorem strOp : Str Tryd.prog 38 63 := ⟨⟨_, Tryd.underlying38, rfl⟩, by kernel_rfl⟩
theorem dz_arr (k : Int) : Deed.arr { dz with kind := k } wz = #[.int .i64 k, .int .i64 0, .int .i64 0, .int .i64 0, .int .i64 0, .int .i64 0, .int .i64 0, .int .u32 0, .int .u32 0, .int .i64 0, .int .i64 0, .string (str []), .int .i64 0, .int .i64 0, .string (str []), .int .i64 0, .int .i64 0, .string (str []), .int .i64 0, .int .i64 0, .string (str []), .int .i64 0, .int .i64 0, .string (str []), .int .i64 0, .int .i64 0, .string (str []), .int .i64 0, .int .i64 0, .string (str []), .int .i64 0, .int .i64 0, .string (str []), .slice none 0 0, .int .u32 0, .int .u32 0, .int .u32 0, .int .i64 0, .int .i64 0, .string (str []), .int .i64 0, .int .i64 0, .string (str []), .int .i64 0, .int .i64 0, .string (str []), .int .i64 0, .int .i64 0, .string (str []), .int .i64 0, .int .i64 0, .string (str []), .int .i64 0, .int .i64 0, .string (str []), .int .i64 0, .int .i64 0, .string (str []), .int .i64 0, .int .i64 0, .string (str []), .slice none 0 0, .string (str [])] := by unfold Deed.arr Edit.arr Patch.arr; rfl
/-- The closure's end. -/
def RetAlso (g : Nat) (k : Bool) (w : World) (e : Ending) (w' : World) : Prop := e = .returned (.tuple #[]) ∧ Blk w' g #[.bool k] ∧ Kept (some g) w.heap.size w w'
set_option maxHeartbeats 400000 in
theorem c_script_Check1 (b k : Bool) (g : Nat) (w : World) (h : Blk w g #[.bool k]) : Calls Tryd.prog 20 #[.bool b, .pointer (some ⟨g, 0, none⟩)] w (RetAlso g (k && b) w) := by
  have q := h.cell (show #[Value.bool k][0]? = some (.bool k) from rfl)
  have ff := h.frozen 0
  have hlt := h.lt
  have H := Lib.hid h
  clear h
  cases k
  all_goals
    go_enter Tryd.func20, Tryd.ntmps20
    go_wp2_with (fail)
    go_end0
    refine ⟨rfl, ?_, kept_set _ _ _ _⟩
    first | exact H.out.store 0 _ | (have := H.out.store 0 (.bool b); simpa using this)
/-- The state of Check: the act, the one that is made, and the truth. -/
structure SC (w w' : World) (o r : Deed) (q s : Where) (g h : Nat) (k : Bool) : Prop where
  below : Below w.heap.size w w'
  o : Blk w' w.heap.size (o.arr q)
  r : Blk w' g (r.arr s)
  k : Blk w' h #[.bool k]
  hg : w.heap.size < g
  hh : w.heap.size < h
  gh : g ≠ h
section
variable {w w1 w2 : World} {o r r' : Deed} {q s s' : Where} {g h : Nat} {k k' : Bool}
theorem SC.step (c : SC w w1 o r q s g h k) (hb : Below w1.heap.size w1 w2) : SC w w2 o r q s g h k := ⟨c.below.trans (hb.mono c.below.size), c.o.below hb c.o.lt, c.r.below hb c.r.lt, c.k.below hb c.k.lt, c.hg, c.hh, c.gh⟩
theorem SC.put (c : SC w w1 o r q s g h k) (hk : Kept (some g) w1.heap.size w1 w2) (hb : Blk w2 g (r'.arr s')) : SC w w2 o r' q s' g h k :=
  ⟨c.below.trans (hk.oneB c.below.size (by have := c.hg; omega)), c.o.kept hk c.o.lt (fun e => by injection e with e; have := c.hg; omega), hb, c.k.kept hk c.k.lt (fun e => by injection e with e; exact c.gh e), c.hg, c.hh, c.gh⟩
theorem SC.set (c : SC w w1 o r q s g h k) (off : Nat) (v : Value) (e : (r.arr s).setIfInBounds off v = r'.arr s') : SC w (w1.setCell ⟨g, off, none⟩ v) o r' q s' g h k := c.put (kept_set w1 g off v) (e ▸ c.r.store off v)
theorem SC.also (c : SC w w1 o r q s g h k) (hk : Kept (some h) w1.heap.size w1 w2) (hb : Blk w2 h #[.bool k']) : SC w w2 o r q s g h k' :=
  ⟨c.below.trans (hk.oneB c.below.size (by have := c.hh; omega)), c.o.kept hk c.o.lt (fun e => by injection e with e; have := c.hh; omega), c.r.kept hk c.r.lt (fun e => by injection e with e; exact c.gh e.symm), hb, c.hg, c.hh, c.gh⟩
end
/-- What is told of the memory while the head of Check runs. -/
def CkM (W0 : World) (Z F : Array Value) (t : Bool) (L : Nat → Bool) (u : Nat → Value) (w1 : World) : Prop :=
  Below W0.heap.size W0 w1 ∧ Bx W0 11 13 Z F L u w1 ∧ Bx W0 12 14 #[.bool false] #[.bool t] L u w1
/-- What is told of values. -/
def VV (l : List (Option Value)) (j : Nat) (v : Value) : Prop := match l[j]? with | some (some x) => v = x | _ => True
theorem dz_arr0 : Deed.arr dz wz = #[.int .i64 0, .int .i64 0, .int .i64 0, .int .i64 0, .int .i64 0, .int .i64 0, .int .i64 0, .int .u32 0, .int .u32 0, .int .i64 0, .int .i64 0, .string (str []), .int .i64 0, .int .i64 0, .string (str []), .int .i64 0, .int .i64 0, .string (str []), .int .i64 0, .int .i64 0, .string (str []), .int .i64 0, .int .i64 0, .string (str []), .int .i64 0, .int .i64 0, .string (str []), .int .i64 0, .int .i64 0, .string (str []), .int .i64 0, .int .i64 0, .string (str []), .slice none 0 0, .int .u32 0, .int .u32 0, .int .u32 0, .int .i64 0, .int .i64 0, .string (str []), .int .i64 0, .int .i64 0, .string (str []), .int .i64 0, .int .i64 0, .string (str []), .int .i64 0, .int .i64 0, .string (str []), .int .i64 0, .int .i64 0, .string (str []), .int .i64 0, .int .i64 0, .string (str []), .int .i64 0, .int .i64 0, .string (str []), .int .i64 0, .int .i64 0, .string (str []), .slice none 0 0, .string (str [])] := dz_arr 0
theorem ckIdle {W0 w1 : World} {Z F : Array Value} {t : Bool} {L : Nat → Bool} {u : Nat → Value} {j : Nat} {v : Value} (B : Below W0.heap.size W0 w1) (X : Bx W0 11 13 Z F L u w1) (Y : Bx W0 12 14 #[.bool false] #[.bool t] L u w1) (h : j ≠ 11 ∧ j ≠ 13 ∧ j ≠ 12 ∧ j ≠ 14) :
    Below W0.heap.size W0 w1 ∧ Bx W0 11 13 Z F (upd L j true) (upd u j v) w1 ∧ Bx W0 12 14 #[.bool false] #[.bool t] (upd L j true) (upd u j v) w1 :=
  ⟨B, X.pure h.1 h.2.1 (Below.refl _ _), Y.pure h.2.2.1 h.2.2.2 (Below.refl _ _)⟩
end Go.Proofs.YtiedkcijjfmhaaaDoor
namespace Go.Proofs.YtiedkcijjfmhaaaDoor
open Go.RowKit

theorem c_edit_Check (e : Edit) (w : World) (hf : e.p.f.length = 8) (hs : ∀ x ∈ e.p.f, x.s.length ≤ 4294967000) (hm : e.p.mask < 4294967296) : Calls Tryd.prog 22 #[.agg e.arr] w (RetV w (.int .i64 e.code)) := by
  by_cases hk : 1 ≤ e.kind ∧ e.kind ≤ 7
  · by_cases hg : e.gOk = true
    · by_cases hi : e.iOk = true
      · exact edit_Check_p e w hf hs hm hk.1 hk.2 hg hi
      · exact edit_Check_i e w hk.1 hk.2 hg hi
    · exact edit_Check_g e w hk.1 hk.2 hg
  · exact edit_Check_kind e w hk
theorem c_ref19_Check (e : Edit) (w : World) (hf : e.p.f.length = 8) (hs : ∀ x ∈ e.p.f, x.s.length ≤ 4294967000) (hm : e.p.mask < 4294967296) : Calls Tryd.prog 30 #[.agg e.arr] w (RetV w (.int .i64 e.code)) := by
  by_cases hk : 1 ≤ e.kind ∧ e.kind ≤ 7
  case neg => exact ref19_Check_kind e w hk
  obtain ⟨h1, h7⟩ := hk
  by_cases ha : hasG e.kind = false ∧ e.group ≠ 0
  · exact ref19_Check_a e w hf h1 h7 ha.1 ha.2
  have hg : hasG e.kind = true ∨ (hasG e.kind = false ∧ e.group = 0) := by
    cases h : hasG e.kind
    · exact .inr ⟨rfl, Classical.byContradiction fun h' => ha ⟨h, h'⟩⟩
    · exact .inl rfl
  by_cases hb : hasI e.kind = false ∧ e.id ≠ 0
  · exact ref19_Check_b e w hf h1 h7 hg hb.1 hb.2
  have hi : hasI e.kind = true ∨ (hasI e.kind = false ∧ e.id = 0) := by
    cases h : hasI e.kind
    · exact .inr ⟨rfl, Classical.byContradiction fun h' => hb ⟨h, h'⟩⟩
    · exact .inl rfl
  by_cases hc : hasP e.kind = false ∧ e.p ≠ pz
  · exact ref19_Check_c e w hf h1 h7 hg hi hc.1 hc.2
  have hp : hasP e.kind = true ∨ (hasP e.kind = false ∧ e.p = pz) := by
    cases h : hasP e.kind
    · exact .inr ⟨rfl, Classical.byContradiction fun h' => hc ⟨h, h'⟩⟩
    · exact .inl rfl
  by_cases hr : 0 ≤ e.group ∧ e.group < 16
  case neg =>
    have hr' : e.group < 0 ∨ (0 ≤ e.group ∧ 16 ≤ e.group) := by omega
    rcases hp with hp | ⟨hp, hp0⟩
    · exact ref19_Check_dP e w hf h1 h7 hg hi hr' hp
    · exact ref19_Check_dN e w hf h1 h7 hg hi hr' hp hp0
  have hgo : e.gOk = true := by
    unfold Edit.gOk
    simp only [Bool.and_eq_true, Bool.or_eq_true, decide_eq_true_eq]
    exact ⟨hr, hg.imp id And.right⟩
  by_cases hq : hasI e.kind = true ∧ ¬ (1 ≤ e.id ∧ e.id < 1073741824)
  · have hr' : e.id < 1 ∨ (1 ≤ e.id ∧ 1073741824 ≤ e.id) := by omega
    rcases hp with hp | ⟨hp, hp0⟩
    · exact ref19_Check_fP e w hf h1 h7 hg hq.1 hr.1 hr.2 hr' hp
    · exact ref19_Check_fN e w hf h1 h7 hg hq.1 hr.1 hr.2 hr' hp hp0
  have hi' : hasI e.kind = true ∧ 1 ≤ e.id ∧ e.id < 1073741824 ∨ (hasI e.kind = false ∧ e.id = 0) := by
    rcases hi with hi | hi
    · exact .inl ⟨hi, Classical.byContradiction fun h' => hq ⟨hi, h'⟩⟩
    · exact .inr hi
  have hio : e.iOk = true := by
    unfold Edit.iOk
    rcases hi' with ⟨h, h2⟩ | ⟨h, h2⟩
    · rw [h, if_pos rfl]; exact decide_eq_true h2
    · rw [h, if_neg (by decide)]; exact decide_eq_true h2
  rcases hp with hp | ⟨hp, hp0⟩
  · exact ref19_Check_kP e w hf hs hm h1 h7 hg hi' ⟨hgo, hio⟩ hp
  · exact ref19_Check_kN e w hf hs hm h1 h7 hg hi' ⟨hgo, hio⟩ hp hp0
theorem Edit.size {e : Edit} (hf : e.p.f.length = 8) : e.arr.size = 29 := by rw [Edit.arr_size, hf]
end Go.Proofs.YtiedkcijjfmhaaaDoor
namespace Go.Proofs.YtiedkcijjfmhaaaDoor
open Go.RowKit

def keepBad (n : Int) : Bool := decide (n < 0) || decide (2 < n)
set_option maxHeartbeats 400000 in
theorem c_script_Check2 (n : Int) (w : World) : Calls Tryd.prog 27 #[.int .i64 n] w (RetV w (.bool (keepBad n))) := by
  by_cases h : n < 0
  · have d1 : decide (n < 0) = true := by simpa using h
    have H := Lib.hid (show keepBad n = true by unfold keepBad; rw [d1]; rfl)
    clear h
    go_enter Tryd.func27, Tryd.ntmps27
    go_wp2_with (fail)
    go_ret
    exact RetV.bool H.out.symm (by repeat (first | exact Below.refl _ _ | refine Below.drew ?_ | refine Below.alloc ?_ (by first | omega | (simp; done) | (simp; omega)) _ | refine Below.setCell ?_ (by first | omega | (simp; done) | (simp; omega)) _ | refine Below.trans ?_ (Below.mono (by assumption) (by first | omega | (simp; done) | (simp; omega)))))
  · have d1 : decide (n < 0) = false := by simpa using h
    have H := Lib.hid (show keepBad n = decide (2 < n) by unfold keepBad; rw [d1]; rfl)
    clear h
    go_enter Tryd.func27, Tryd.ntmps27
    go_wp2_with (fail)
    all_goals
      go_ret
      refine RetV.bool ?_ (by repeat (first | exact Below.refl _ _ | refine Below.drew ?_ | refine Below.alloc ?_ (by first | omega | (simp; done) | (simp; omega)) _ | refine Below.setCell ?_ (by first | omega | (simp; done) | (simp; omega)) _ | refine Below.trans ?_ (Below.mono (by assumption) (by first | omega | (simp; done) | (simp; omega)))))
      rw [H.out]
def badI : List Int → Nat → Int
  | [], _ => -1
  | x :: r, i => if keepBad x = true then (i : Int) else badI r (i + 1)
theorem badI_any : ∀ (l : List Int) (i : Nat), decide (0 ≤ badI l i) = l.any keepBad
  | [], _ => rfl
  | x :: r, i => by
    rw [badI, List.any_cons]
    cases h : keepBad x
    · rw [if_neg (by simp)]
      simpa using badI_any r (i + 1)
    · rw [if_pos rfl]
      simp
theorem badI_at (l : List Int) (k : Nat) (h : k < l.length) : badI (l.drop k) k = if keepBad l[k] = true then (k : Int) else badI (l.drop (k + 1)) (k + 1) := by
  rw [List.drop_eq_getElem_cons h]; rfl
set_option maxHeartbeats 1000000 in
theorem c_IndexFuncI (l : List Int) (A : Option Addr) (c : Nat) (w : World) (h : InI w A c l) :
    Calls Tryd.prog 57 #[.slice A l.length c, .func (.func 27) #[] #[]] w (RetV w (.int .i64 (badI l 0))) := by
  have hL := h.1
  have hC := h.2.1
  have hS := h.2.2.1
  go_enter Tryd.func57, Tryd.ntmps57
  go_wp2_with (fail)
  go_loopw [8] (fun i wr => ∃ k : Nat, k ≤ l.length ∧ i = .int .i64 k ∧ Hid (badI (l.drop k) k = badI l 0) ∧ Below w.heap.size w wr) (fun i _ => l.length - (intOf i).toNat)
  case atStart => exact ⟨0, by omega, rfl, rfl, Below.refl _ _⟩
  case round =>
    obtain ⟨k, hk, rfl, H, hbl⟩ := hrel
    have hbz := hbl.size
    by_cases hlt : k < l.length
    · obtain ⟨b, off, rfl, hb, hrow⟩ := h.at hlt
      have e0 : wr.cell? ⟨b, off + k, none⟩ = some (.int .i64 l[k]) := by have := (hrow.below hbl hb) k hlt 0 _ rfl; simpa using this
      have hf := H.out
      rw [badI_at l k hlt] at hf
      clear h H hrow
      obtain ⟨x, hx⟩ : ∃ x, x = l[k] := ⟨_, rfl⟩
      rw [← hx] at e0 hf
      clear hx
      cases hok : keepBad x
      · rw [if_neg (by rw [hok]; simp)] at hf
        have HF := Lib.hid hf
        have CC := Lib.hid (fun w' => show Calls Tryd.prog 27 #[.int .i64 x] w' (RetV w' (.bool false)) by have := c_script_Check2 x w'; rw [hok] at this; exact this)
        clear hf hok
        go_wp2_with (fail)
        refine (CC.out _).mono ?_
        rintro e w1 ⟨rfl, hb1⟩
        go_wp2_with (fail)
        go_roundw
        case rel => exact ⟨k + 1, by omega, by go_num, HF.out, (by repeat (first | exact Below.refl _ _ | refine Below.drew ?_ | refine Below.alloc ?_ (by first | omega | (simp; done) | (simp; omega)) _ | refine Below.setCell ?_ (by first | omega | (simp; done) | (simp; omega)) _ | refine Below.trans ?_ (Below.mono (by assumption) (by first | omega | (simp; done) | (simp; omega)))))⟩
        case measure => simp [intOf]; omega
      · rw [if_pos hok] at hf
        have HF := Lib.hid hf
        have CC := Lib.hid (fun w' => show Calls Tryd.prog 27 #[.int .i64 x] w' (RetV w' (.bool true)) by have := c_script_Check2 x w'; rw [hok] at this; exact this)
        clear hf hok
        go_wp2_with (fail)
        refine (CC.out _).mono ?_
        rintro e w1 ⟨rfl, hb1⟩
        go_wp2_with (fail)
        go_ret
        exact RetV.int HF.out (by repeat (first | exact Below.refl _ _ | refine Below.drew ?_ | refine Below.alloc ?_ (by first | omega | (simp; done) | (simp; omega)) _ | refine Below.setCell ?_ (by first | omega | (simp; done) | (simp; omega)) _ | refine Below.trans ?_ (Below.mono (by assumption) (by first | omega | (simp; done) | (simp; omega)))))
    · have hf := H.out
      rw [List.drop_of_length_le (by omega)] at hf
      have HF := Lib.hid hf
      clear hf H
      go_wp2_with (fail)
      go_ret
      exact RetV.int HF.out hbl
set_option maxHeartbeats 400000 in
theorem c_ContainsFuncI (l : List Int) (A : Option Addr) (c : Nat) (w : World) (h : InI w A c l) :
    Calls Tryd.prog 26 #[.slice A l.length c, .func (.func 27) #[] #[]] w (RetV w (.bool (l.any keepBad))) := by
  have H := Lib.hid (badI_any l 0)
  go_enter Tryd.func26, Tryd.ntmps26
  go_wp2_with (go_at_call 57; refine (c_IndexFuncI l A c _ h).mono ?_; rintro e w1 ⟨rfl, hb1⟩)
  go_ret
  exact RetV.bool H.out (by repeat (first | exact Below.refl _ _ | refine Below.drew ?_ | refine Below.alloc ?_ (by first | omega | (simp; done) | (simp; omega)) _ | refine Below.setCell ?_ (by first | omega | (simp; done) | (simp; omega)) _ | refine Below.trans ?_ (Below.mono (by assumption) (by first | omega | (simp; done) | (simp; omega)))))
end Go.Proofs.YtiedkcijjfmhaaaDoor
namespace Go.Proofs.YtiedkcijjfmhaaaDoor
open Go.RowKit

set_option maxHeartbeats 8000000 in
set_option maxRecDepth 4000 in
theorem c_ref19_Put (e : Edit) (w : World) (hf : e.p.f.length = 8) (hs : ∀ x ∈ e.p.f, x.s.length ≤ 4294967000) (hm : e.p.mask < 4294967296) :
    Calls Tryd.prog 76 #[.agg e.arr] w (RetV w (.string (str (editB e)))) := by
  have HF := Lib.hid hf
  have HZ := Lib.hid (Edit.size hf)
  have HZP := Lib.hid (show e.p.arr.size = 26 by rw [Patch.arr_size, hf])
  have B0 := Lib.hid (Blk.new w 30 e.arr)
  clear hf
  by_cases h : e.code = 0
  case neg =>
    have k : (e.code != 0) = true := by simpa using h
    have H : Hid (([] : List UInt8) = editB e) := by show _ = _; rw [editB_bad h]
    clear h
    go_enter Tryd.func76, Tryd.ntmps76
    go_wp2_with (with_reducible refine stop_load 30 (.tmp 1) rfl rfl ?_)
    refine Stop.mk (wpList_loadB rfl _ _ rfl w.heap.size rfl e.arr B0.out strE HZ.out ?_)
    go_wp2_with (fail)
    refine (c_ref19_Check e _ HF.out hs hm).mono ?_
    rintro e1 w1 ⟨rfl, hb1⟩
    have hw1 : Below w.heap.size w w1 := ((Below.refl _ _).alloc (Nat.le_refl _) _).trans (hb1.mono (by simp))
    go_wp2_with (fail)
    go_ret
    exact RetV.str H.out hw1
  case pos =>
  have k : (e.code != 0) = false := by simpa using h
  obtain ⟨h1, h7, -, -, -, -⟩ := Edit.code_zero h
  have hn1 := (num_len e.kind).2
  have hn2 := (num_len e.group).2
  have hn3 := (num_len e.id).2
  have hn4 := patchB_len e.p
  have HE := Lib.hid (editB_ok h)
  clear h
  cases hG : hasG e.kind <;> cases hI : hasI e.kind <;> cases hP : hasP e.kind
  · have H : Hid (num e.kind = editB e) := by show _ = _; rw [HE.out, hG, hI, hP]; simp
    go_enter Tryd.func76, Tryd.ntmps76
    go_wp2_with (with_reducible refine stop_load 30 (.tmp 1) rfl rfl ?_)
    refine Stop.mk (wpList_loadB rfl _ _ rfl w.heap.size rfl e.arr B0.out strE HZ.out ?_)
    go_wp2_with (fail)
    refine (c_ref19_Check e _ HF.out hs hm).mono ?_
    rintro e1 w1 ⟨rfl, hb1⟩
    have hw1 : Below w.heap.size w w1 := ((Below.refl _ _).alloc (Nat.le_refl _) _).trans (hb1.mono (by simp))
    have hz1 := hw1.size
    have B1 := Lib.hid (B0.out.below hb1 (by simp))
    have q1 := B1.out.cell e.arr_head.1
    clear hb1
    go_wp2_with (fail)
    refine (c_ref01_Num _ _).mono ?_
    rintro e2 w2 ⟨rfl, hb2⟩
    have hw2 : Below w.heap.size w w2 := hw1.trans (hb2.mono hz1)
    have hz2 := hw2.size
    have B2 := Lib.hid (B1.out.below hb2 B1.out.lt)
    have q2 := B2.out.cell e.arr_head.1
    clear hb2 q1
    go_wp2_with (fail)
    refine (c_ref19_group e.kind _ (by omega) h7).mono ?_
    rintro e3 w3 ⟨rfl, hb3⟩
    have hw3 : Below w.heap.size w w3 := hw2.trans (hb3.mono hz2)
    have hz3 := hw3.size
    have B3 := Lib.hid (B2.out.below hb3 B2.out.lt)
    have q3 := B3.out.cell e.arr_head.1
    clear hb3 q2
    go_wp2_with (fail)
    refine (c_ref19_id e.kind _ (by omega) h7).mono ?_
    rintro e4 w4 ⟨rfl, hb4⟩
    have hw4 : Below w.heap.size w w4 := hw3.trans (hb4.mono hz3)
    have hz4 := hw4.size
    have B4 := Lib.hid (B3.out.below hb4 B3.out.lt)
    have q4 := B4.out.cell e.arr_head.1
    clear hb4 q3
    go_wp2_with (fail)
    refine (c_ref19_patch e.kind _ (by omega) h7).mono ?_
    rintro e5 w5 ⟨rfl, hb5⟩
    have hw5 : Below w.heap.size w w5 := hw4.trans (hb5.mono hz4)
    have hz5 := hw5.size
    have B5 := Lib.hid (B4.out.below hb5 B4.out.lt)
    have q5 := B5.out.cell e.arr_head.1
    clear hb5 q4
    go_wp2_with (fail)
    go_ret
    exact RetV.str (by first | exact H.out | (have := H.out; simp only [List.append_assoc] at this ⊢; exact this)) hw5
  · have H : Hid (num e.kind ++ patchB e.p = editB e) := by show _ = _; rw [HE.out, hG, hI, hP]; simp
    go_enter Tryd.func76, Tryd.ntmps76
    go_wp2_with (with_reducible refine stop_load 30 (.tmp 1) rfl rfl ?_)
    refine Stop.mk (wpList_loadB rfl _ _ rfl w.heap.size rfl e.arr B0.out strE HZ.out ?_)
    go_wp2_with (fail)
    refine (c_ref19_Check e _ HF.out hs hm).mono ?_
    rintro e1 w1 ⟨rfl, hb1⟩
    have hw1 : Below w.heap.size w w1 := ((Below.refl _ _).alloc (Nat.le_refl _) _).trans (hb1.mono (by simp))
    have hz1 := hw1.size
    have B1 := Lib.hid (B0.out.below hb1 (by simp))
    have q1 := B1.out.cell e.arr_head.1
    clear hb1
    go_wp2_with (fail)
    refine (c_ref01_Num _ _).mono ?_
    rintro e2 w2 ⟨rfl, hb2⟩
    have hw2 : Below w.heap.size w w2 := hw1.trans (hb2.mono hz1)
    have hz2 := hw2.size
    have B2 := Lib.hid (B1.out.below hb2 B1.out.lt)
    have q2 := B2.out.cell e.arr_head.1
    clear hb2 q1
    go_wp2_with (fail)
    refine (c_ref19_group e.kind _ (by omega) h7).mono ?_
    rintro e3 w3 ⟨rfl, hb3⟩
    have hw3 : Below w.heap.size w w3 := hw2.trans (hb3.mono hz2)
    have hz3 := hw3.size
    have B3 := Lib.hid (B2.out.below hb3 B2.out.lt)
    have q3 := B3.out.cell e.arr_head.1
    clear hb3 q2
    go_wp2_with (fail)
    refine (c_ref19_id e.kind _ (by omega) h7).mono ?_
    rintro e4 w4 ⟨rfl, hb4⟩
    have hw4 : Below w.heap.size w w4 := hw3.trans (hb4.mono hz3)
    have hz4 := hw4.size
    have B4 := Lib.hid (B3.out.below hb4 B3.out.lt)
    have q4 := B4.out.cell e.arr_head.1
    clear hb4 q3
    go_wp2_with (fail)
    refine (c_ref19_patch e.kind _ (by omega) h7).mono ?_
    rintro e5 w5 ⟨rfl, hb5⟩
    have hw5 : Below w.heap.size w w5 := hw4.trans (hb5.mono hz4)
    have hz5 := hw5.size
    have B5 := Lib.hid (B4.out.below hb5 B4.out.lt)
    have q5 := B5.out.cell e.arr_head.1
    clear hb5 q4
    go_wp2_with (with_reducible refine stop_load 28 (.tmp 30) rfl rfl ?_)
    refine Stop.mk (wpList_loadAt rfl _ _ rfl w.heap.size 3 rfl e.p.arr (Edit.part B5.out) strP HZP.out ?_)
    go_wp2_with (fail)
    refine (c_ref08_PutPatch e.p _ hm HF.out hs).mono ?_
    rintro e6 w6 ⟨rfl, hb6⟩
    go_wp2_with (fail)
    go_ret
    exact RetV.str (by first | exact H.out | (have := H.out; simp only [List.append_assoc] at this ⊢; exact this)) (hw5.trans (hb6.mono hz5))
  · have H : Hid (num e.kind ++ num e.id = editB e) := by show _ = _; rw [HE.out, hG, hI, hP]; simp
    go_enter Tryd.func76, Tryd.ntmps76
    go_wp2_with (with_reducible refine stop_load 30 (.tmp 1) rfl rfl ?_)
    refine Stop.mk (wpList_loadB rfl _ _ rfl w.heap.size rfl e.arr B0.out strE HZ.out ?_)
    go_wp2_with (fail)
    refine (c_ref19_Check e _ HF.out hs hm).mono ?_
    rintro e1 w1 ⟨rfl, hb1⟩
    have hw1 : Below w.heap.size w w1 := ((Below.refl _ _).alloc (Nat.le_refl _) _).trans (hb1.mono (by simp))
    have hz1 := hw1.size
    have B1 := Lib.hid (B0.out.below hb1 (by simp))
    have q1 := B1.out.cell e.arr_head.1
    clear hb1
    go_wp2_with (fail)
    refine (c_ref01_Num _ _).mono ?_
    rintro e2 w2 ⟨rfl, hb2⟩
    have hw2 : Below w.heap.size w w2 := hw1.trans (hb2.mono hz1)
    have hz2 := hw2.size
    have B2 := Lib.hid (B1.out.below hb2 B1.out.lt)
    have q2 := B2.out.cell e.arr_head.1
    clear hb2 q1
    go_wp2_with (fail)
    refine (c_ref19_group e.kind _ (by omega) h7).mono ?_
    rintro e3 w3 ⟨rfl, hb3⟩
    have hw3 : Below w.heap.size w w3 := hw2.trans (hb3.mono hz2)
    have hz3 := hw3.size
    have B3 := Lib.hid (B2.out.below hb3 B2.out.lt)
    have q3 := B3.out.cell e.arr_head.1
    clear hb3 q2
    go_wp2_with (fail)
    refine (c_ref19_id e.kind _ (by omega) h7).mono ?_
    rintro e4 w4 ⟨rfl, hb4⟩
    have hw4 : Below w.heap.size w w4 := hw3.trans (hb4.mono hz3)
    have hz4 := hw4.size
    have B4 := Lib.hid (B3.out.below hb4 B3.out.lt)
    have q4 := B4.out.cell e.arr_head.2.1
    clear hb4 q3
    go_wp2_with (fail)
    refine (c_ref01_Num _ _).mono ?_
    rintro e5 w5 ⟨rfl, hb5⟩
    have hw5 : Below w.heap.size w w5 := hw4.trans (hb5.mono hz4)
    have hz5 := hw5.size
    have B5 := Lib.hid (B4.out.below hb5 B4.out.lt)
    have q5 := B5.out.cell e.arr_head.1
    clear hb5 q4
    go_wp2_with (fail)
    refine (c_ref19_patch e.kind _ (by omega) h7).mono ?_
    rintro e6 w6 ⟨rfl, hb6⟩
    have hw6 : Below w.heap.size w w6 := hw5.trans (hb6.mono hz5)
    have hz6 := hw6.size
    have B6 := Lib.hid (B5.out.below hb6 B5.out.lt)
    have q6 := B6.out.cell e.arr_head.1
    clear hb6 q5
    go_wp2_with (fail)
    go_ret
    exact RetV.str (by first | exact H.out | (have := H.out; simp only [List.append_assoc] at this ⊢; exact this)) hw6
  · have H : Hid (num e.kind ++ num e.id ++ patchB e.p = editB e) := by show _ = _; rw [HE.out, hG, hI, hP]; simp
    go_enter Tryd.func76, Tryd.ntmps76
    go_wp2_with (with_reducible refine stop_load 30 (.tmp 1) rfl rfl ?_)
    refine Stop.mk (wpList_loadB rfl _ _ rfl w.heap.size rfl e.arr B0.out strE HZ.out ?_)
    go_wp2_with (fail)
    refine (c_ref19_Check e _ HF.out hs hm).mono ?_
    rintro e1 w1 ⟨rfl, hb1⟩
    have hw1 : Below w.heap.size w w1 := ((Below.refl _ _).alloc (Nat.le_refl _) _).trans (hb1.mono (by simp))
    have hz1 := hw1.size
    have B1 := Lib.hid (B0.out.below hb1 (by simp))
    have q1 := B1.out.cell e.arr_head.1
    clear hb1
    go_wp2_with (fail)
    refine (c_ref01_Num _ _).mono ?_
    rintro e2 w2 ⟨rfl, hb2⟩
    have hw2 : Below w.heap.size w w2 := hw1.trans (hb2.mono hz1)
    have hz2 := hw2.size
    have B2 := Lib.hid (B1.out.below hb2 B1.out.lt)
    have q2 := B2.out.cell e.arr_head.1
    clear hb2 q1
    go_wp2_with (fail)
    refine (c_ref19_group e.kind _ (by omega) h7).mono ?_
    rintro e3 w3 ⟨rfl, hb3⟩
    have hw3 : Below w.heap.size w w3 := hw2.trans (hb3.mono hz2)
    have hz3 := hw3.size
    have B3 := Lib.hid (B2.out.below hb3 B2.out.lt)
    have q3 := B3.out.cell e.arr_head.1
    clear hb3 q2
    go_wp2_with (fail)
    refine (c_ref19_id e.kind _ (by omega) h7).mono ?_
    rintro e4 w4 ⟨rfl, hb4⟩
    have hw4 : Below w.heap.size w w4 := hw3.trans (hb4.mono hz3)
    have hz4 := hw4.size
    have B4 := Lib.hid (B3.out.below hb4 B3.out.lt)
    have q4 := B4.out.cell e.arr_head.2.1
    clear hb4 q3
    go_wp2_with (fail)
    refine (c_ref01_Num _ _).mono ?_
    rintro e5 w5 ⟨rfl, hb5⟩
    have hw5 : Below w.heap.size w w5 := hw4.trans (hb5.mono hz4)
    have hz5 := hw5.size
    have B5 := Lib.hid (B4.out.below hb5 B4.out.lt)
    have q5 := B5.out.cell e.arr_head.1
    clear hb5 q4
    go_wp2_with (fail)
    refine (c_ref19_patch e.kind _ (by omega) h7).mono ?_
    rintro e6 w6 ⟨rfl, hb6⟩
    have hw6 : Below w.heap.size w w6 := hw5.trans (hb6.mono hz5)
    have hz6 := hw6.size
    have B6 := Lib.hid (B5.out.below hb6 B5.out.lt)
    have q6 := B6.out.cell e.arr_head.1
    clear hb6 q5
    go_wp2_with (with_reducible refine stop_load 28 (.tmp 30) rfl rfl ?_)
    refine Stop.mk (wpList_loadAt rfl _ _ rfl w.heap.size 3 rfl e.p.arr (Edit.part B6.out) strP HZP.out ?_)
    go_wp2_with (fail)
    refine (c_ref08_PutPatch e.p _ hm HF.out hs).mono ?_
    rintro e7 w7 ⟨rfl, hb7⟩
    go_wp2_with (fail)
    go_ret
    exact RetV.str (by first | exact H.out | (have := H.out; simp only [List.append_assoc] at this ⊢; exact this)) (hw6.trans (hb7.mono hz6))
  · have H : Hid (num e.kind ++ num e.group = editB e) := by show _ = _; rw [HE.out, hG, hI, hP]; simp
    go_enter Tryd.func76, Tryd.ntmps76
    go_wp2_with (with_reducible refine stop_load 30 (.tmp 1) rfl rfl ?_)
    refine Stop.mk (wpList_loadB rfl _ _ rfl w.heap.size rfl e.arr B0.out strE HZ.out ?_)
    go_wp2_with (fail)
    refine (c_ref19_Check e _ HF.out hs hm).mono ?_
    rintro e1 w1 ⟨rfl, hb1⟩
    have hw1 : Below w.heap.size w w1 := ((Below.refl _ _).alloc (Nat.le_refl _) _).trans (hb1.mono (by simp))
    have hz1 := hw1.size
    have B1 := Lib.hid (B0.out.below hb1 (by simp))
    have q1 := B1.out.cell e.arr_head.1
    clear hb1
    go_wp2_with (fail)
    refine (c_ref01_Num _ _).mono ?_
    rintro e2 w2 ⟨rfl, hb2⟩
    have hw2 : Below w.heap.size w w2 := hw1.trans (hb2.mono hz1)
    have hz2 := hw2.size
    have B2 := Lib.hid (B1.out.below hb2 B1.out.lt)
    have q2 := B2.out.cell e.arr_head.1
    clear hb2 q1
    go_wp2_with (fail)
    refine (c_ref19_group e.kind _ (by omega) h7).mono ?_
    rintro e3 w3 ⟨rfl, hb3⟩
    have hw3 : Below w.heap.size w w3 := hw2.trans (hb3.mono hz2)
    have hz3 := hw3.size
    have B3 := Lib.hid (B2.out.below hb3 B2.out.lt)
    have q3 := B3.out.cell e.arr_head.2.2
    clear hb3 q2
    go_wp2_with (fail)
    refine (c_ref01_Num _ _).mono ?_
    rintro e4 w4 ⟨rfl, hb4⟩
    have hw4 : Below w.heap.size w w4 := hw3.trans (hb4.mono hz3)
    have hz4 := hw4.size
    have B4 := Lib.hid (B3.out.below hb4 B3.out.lt)
    have q4 := B4.out.cell e.arr_head.1
    clear hb4 q3
    go_wp2_with (fail)
    refine (c_ref19_id e.kind _ (by omega) h7).mono ?_
    rintro e5 w5 ⟨rfl, hb5⟩
    have hw5 : Below w.heap.size w w5 := hw4.trans (hb5.mono hz4)
    have hz5 := hw5.size
    have B5 := Lib.hid (B4.out.below hb5 B4.out.lt)
    have q5 := B5.out.cell e.arr_head.1
    clear hb5 q4
    go_wp2_with (fail)
    refine (c_ref19_patch e.kind _ (by omega) h7).mono ?_
    rintro e6 w6 ⟨rfl, hb6⟩
    have hw6 : Below w.heap.size w w6 := hw5.trans (hb6.mono hz5)
    have hz6 := hw6.size
    have B6 := Lib.hid (B5.out.below hb6 B5.out.lt)
    have q6 := B6.out.cell e.arr_head.1
    clear hb6 q5
    go_wp2_with (fail)
    go_ret
    exact RetV.str (by first | exact H.out | (have := H.out; simp only [List.append_assoc] at this ⊢; exact this)) hw6
  · have H : Hid (num e.kind ++ num e.group ++ patchB e.p = editB e) := by show _ = _; rw [HE.out, hG, hI, hP]; simp
    go_enter Tryd.func76, Tryd.ntmps76
    go_wp2_with (with_reducible refine stop_load 30 (.tmp 1) rfl rfl ?_)
    refine Stop.mk (wpList_loadB rfl _ _ rfl w.heap.size rfl e.arr B0.out strE HZ.out ?_)
    go_wp2_with (fail)
    refine (c_ref19_Check e _ HF.out hs hm).mono ?_
    rintro e1 w1 ⟨rfl, hb1⟩
    have hw1 : Below w.heap.size w w1 := ((Below.refl _ _).alloc (Nat.le_refl _) _).trans (hb1.mono (by simp))
    have hz1 := hw1.size
    have B1 := Lib.hid (B0.out.below hb1 (by simp))
    have q1 := B1.out.cell e.arr_head.1
    clear hb1
    go_wp2_with (fail)
    refine (c_ref01_Num _ _).mono ?_
    rintro e2 w2 ⟨rfl, hb2⟩
    have hw2 : Below w.heap.size w w2 := hw1.trans (hb2.mono hz1)
    have hz2 := hw2.size
    have B2 := Lib.hid (B1.out.below hb2 B1.out.lt)
    have q2 := B2.out.cell e.arr_head.1
    clear hb2 q1
    go_wp2_with (fail)
    refine (c_ref19_group e.kind _ (by omega) h7).mono ?_
    rintro e3 w3 ⟨rfl, hb3⟩
    have hw3 : Below w.heap.size w w3 := hw2.trans (hb3.mono hz2)
    have hz3 := hw3.size
    have B3 := Lib.hid (B2.out.below hb3 B2.out.lt)
    have q3 := B3.out.cell e.arr_head.2.2
    clear hb3 q2
    go_wp2_with (fail)
    refine (c_ref01_Num _ _).mono ?_
    rintro e4 w4 ⟨rfl, hb4⟩
    have hw4 : Below w.heap.size w w4 := hw3.trans (hb4.mono hz3)
    have hz4 := hw4.size
    have B4 := Lib.hid (B3.out.below hb4 B3.out.lt)
    have q4 := B4.out.cell e.arr_head.1
    clear hb4 q3
    go_wp2_with (fail)
    refine (c_ref19_id e.kind _ (by omega) h7).mono ?_
    rintro e5 w5 ⟨rfl, hb5⟩
    have hw5 : Below w.heap.size w w5 := hw4.trans (hb5.mono hz4)
    have hz5 := hw5.size
    have B5 := Lib.hid (B4.out.below hb5 B4.out.lt)
    have q5 := B5.out.cell e.arr_head.1
    clear hb5 q4
    go_wp2_with (fail)
    refine (c_ref19_patch e.kind _ (by omega) h7).mono ?_
    rintro e6 w6 ⟨rfl, hb6⟩
    have hw6 : Below w.heap.size w w6 := hw5.trans (hb6.mono hz5)
    have hz6 := hw6.size
    have B6 := Lib.hid (B5.out.below hb6 B5.out.lt)
    have q6 := B6.out.cell e.arr_head.1
    clear hb6 q5
    go_wp2_with (with_reducible refine stop_load 28 (.tmp 30) rfl rfl ?_)
    refine Stop.mk (wpList_loadAt rfl _ _ rfl w.heap.size 3 rfl e.p.arr (Edit.part B6.out) strP HZP.out ?_)
    go_wp2_with (fail)
    refine (c_ref08_PutPatch e.p _ hm HF.out hs).mono ?_
    rintro e7 w7 ⟨rfl, hb7⟩
    go_wp2_with (fail)
    go_ret
    exact RetV.str (by first | exact H.out | (have := H.out; simp only [List.append_assoc] at this ⊢; exact this)) (hw6.trans (hb7.mono hz6))
  · have H : Hid (num e.kind ++ num e.group ++ num e.id = editB e) := by show _ = _; rw [HE.out, hG, hI, hP]; simp
    go_enter Tryd.func76, Tryd.ntmps76
    go_wp2_with (with_reducible refine stop_load 30 (.tmp 1) rfl rfl ?_)
    refine Stop.mk (wpList_loadB rfl _ _ rfl w.heap.size rfl e.arr B0.out strE HZ.out ?_)
    go_wp2_with (fail)
    refine (c_ref19_Check e _ HF.out hs hm).mono ?_
    rintro e1 w1 ⟨rfl, hb1⟩
    have hw1 : Below w.heap.size w w1 := ((Below.refl _ _).alloc (Nat.le_refl _) _).trans (hb1.mono (by simp))
    have hz1 := hw1.size
    have B1 := Lib.hid (B0.out.below hb1 (by simp))
    have q1 := B1.out.cell e.arr_head.1
    clear hb1
    go_wp2_with (fail)
    refine (c_ref01_Num _ _).mono ?_
    rintro e2 w2 ⟨rfl, hb2⟩
    have hw2 : Below w.heap.size w w2 := hw1.trans (hb2.mono hz1)
    have hz2 := hw2.size
    have B2 := Lib.hid (B1.out.below hb2 B1.out.lt)
    have q2 := B2.out.cell e.arr_head.1
    clear hb2 q1
    go_wp2_with (fail)
    refine (c_ref19_group e.kind _ (by omega) h7).mono ?_
    rintro e3 w3 ⟨rfl, hb3⟩
    have hw3 : Below w.heap.size w w3 := hw2.trans (hb3.mono hz2)
    have hz3 := hw3.size
    have B3 := Lib.hid (B2.out.below hb3 B2.out.lt)
    have q3 := B3.out.cell e.arr_head.2.2
    clear hb3 q2
    go_wp2_with (fail)
    refine (c_ref01_Num _ _).mono ?_
    rintro e4 w4 ⟨rfl, hb4⟩
    have hw4 : Below w.heap.size w w4 := hw3.trans (hb4.mono hz3)
    have hz4 := hw4.size
    have B4 := Lib.hid (B3.out.below hb4 B3.out.lt)
    have q4 := B4.out.cell e.arr_head.1
    clear hb4 q3
    go_wp2_with (fail)
    refine (c_ref19_id e.kind _ (by omega) h7).mono ?_
    rintro e5 w5 ⟨rfl, hb5⟩
    have hw5 : Below w.heap.size w w5 := hw4.trans (hb5.mono hz4)
    have hz5 := hw5.size
    have B5 := Lib.hid (B4.out.below hb5 B4.out.lt)
    have q5 := B5.out.cell e.arr_head.2.1
    clear hb5 q4
    go_wp2_with (fail)
    refine (c_ref01_Num _ _).mono ?_
    rintro e6 w6 ⟨rfl, hb6⟩
    have hw6 : Below w.heap.size w w6 := hw5.trans (hb6.mono hz5)
    have hz6 := hw6.size
    have B6 := Lib.hid (B5.out.below hb6 B5.out.lt)
    have q6 := B6.out.cell e.arr_head.1
    clear hb6 q5
    go_wp2_with (fail)
    refine (c_ref19_patch e.kind _ (by omega) h7).mono ?_
    rintro e7 w7 ⟨rfl, hb7⟩
    have hw7 : Below w.heap.size w w7 := hw6.trans (hb7.mono hz6)
    have hz7 := hw7.size
    have B7 := Lib.hid (B6.out.below hb7 B6.out.lt)
    have q7 := B7.out.cell e.arr_head.1
    clear hb7 q6
    go_wp2_with (fail)
    go_ret
    exact RetV.str (by first | exact H.out | (have := H.out; simp only [List.append_assoc] at this ⊢; exact this)) hw7
  · have H : Hid (num e.kind ++ num e.group ++ num e.id ++ patchB e.p = editB e) := by show _ = _; rw [HE.out, hG, hI, hP]; simp
    go_enter Tryd.func76, Tryd.ntmps76
    go_wp2_with (with_reducible refine stop_load 30 (.tmp 1) rfl rfl ?_)
    refine Stop.mk (wpList_loadB rfl _ _ rfl w.heap.size rfl e.arr B0.out strE HZ.out ?_)
    go_wp2_with (fail)
    refine (c_ref19_Check e _ HF.out hs hm).mono ?_
    rintro e1 w1 ⟨rfl, hb1⟩
    have hw1 : Below w.heap.size w w1 := ((Below.refl _ _).alloc (Nat.le_refl _) _).trans (hb1.mono (by simp))
    have hz1 := hw1.size
    have B1 := Lib.hid (B0.out.below hb1 (by simp))
    have q1 := B1.out.cell e.arr_head.1
    clear hb1
    go_wp2_with (fail)
    refine (c_ref01_Num _ _).mono ?_
    rintro e2 w2 ⟨rfl, hb2⟩
    have hw2 : Below w.heap.size w w2 := hw1.trans (hb2.mono hz1)
    have hz2 := hw2.size
    have B2 := Lib.hid (B1.out.below hb2 B1.out.lt)
    have q2 := B2.out.cell e.arr_head.1
    clear hb2 q1
    go_wp2_with (fail)
    refine (c_ref19_group e.kind _ (by omega) h7).mono ?_
    rintro e3 w3 ⟨rfl, hb3⟩
    have hw3 : Below w.heap.size w w3 := hw2.trans (hb3.mono hz2)
    have hz3 := hw3.size
    have B3 := Lib.hid (B2.out.below hb3 B2.out.lt)
    have q3 := B3.out.cell e.arr_head.2.2
    clear hb3 q2
    go_wp2_with (fail)
    refine (c_ref01_Num _ _).mono ?_
    rintro e4 w4 ⟨rfl, hb4⟩
    have hw4 : Below w.heap.size w w4 := hw3.trans (hb4.mono hz3)
    have hz4 := hw4.size
    have B4 := Lib.hid (B3.out.below hb4 B3.out.lt)
    have q4 := B4.out.cell e.arr_head.1
    clear hb4 q3
    go_wp2_with (fail)
    refine (c_ref19_id e.kind _ (by omega) h7).mono ?_
    rintro e5 w5 ⟨rfl, hb5⟩
    have hw5 : Below w.heap.size w w5 := hw4.trans (hb5.mono hz4)
    have hz5 := hw5.size
    have B5 := Lib.hid (B4.out.below hb5 B4.out.lt)
    have q5 := B5.out.cell e.arr_head.2.1
    clear hb5 q4
    go_wp2_with (fail)
    refine (c_ref01_Num _ _).mono ?_
    rintro e6 w6 ⟨rfl, hb6⟩
    have hw6 : Below w.heap.size w w6 := hw5.trans (hb6.mono hz5)
    have hz6 := hw6.size
    have B6 := Lib.hid (B5.out.below hb6 B5.out.lt)
    have q6 := B6.out.cell e.arr_head.1
    clear hb6 q5
    go_wp2_with (fail)
    refine (c_ref19_patch e.kind _ (by omega) h7).mono ?_
    rintro e7 w7 ⟨rfl, hb7⟩
    have hw7 : Below w.heap.size w w7 := hw6.trans (hb7.mono hz6)
    have hz7 := hw7.size
    have B7 := Lib.hid (B6.out.below hb7 B6.out.lt)
    have q7 := B7.out.cell e.arr_head.1
    clear hb7 q6
    go_wp2_with (with_reducible refine stop_load 28 (.tmp 30) rfl rfl ?_)
    refine Stop.mk (wpList_loadAt rfl _ _ rfl w.heap.size 3 rfl e.p.arr (Edit.part B7.out) strP HZP.out ?_)
    go_wp2_with (fail)
    refine (c_ref08_PutPatch e.p _ hm HF.out hs).mono ?_
    rintro e8 w8 ⟨rfl, hb8⟩
    go_wp2_with (fail)
    go_ret
    exact RetV.str (by first | exact H.out | (have := H.out; simp only [List.append_assoc] at this ⊢; exact this)) (hw7.trans (hb8.mono hz7))
end Go.Proofs.YtiedkcijjfmhaaaDoor
namespace Go.Proofs.YtiedkcijjfmhaaaDoor
open Go.RowKit

set_option maxHeartbeats 8000000 in
set_option maxRecDepth 4000 in
theorem c_edit_Put (b : List UInt8) (B : Option Addr) (cb : Nat) (e : Edit) (w : World) (hb : InB w B cb b) (hbl : b.length ≤ 900000) (hT : Tab w) (hf : e.p.f.length = 8) (hs : ∀ x ∈ e.p.f, x.s.length ≤ 4294967000) (hm : e.p.mask < 4294967296) :
    Calls Tryd.prog 72 #[.slice B b.length cb, .agg e.arr] w (RetS 1 bc 5 w (b ++ editB e)) := by
  have hL' := hb.1
  have hC' := hb.2.1
  have HF := Lib.hid hf
  have HIN := Lib.hid hb
  have HZ := Lib.hid (Edit.size hf)
  have HZP := Lib.hid (show e.p.arr.size = 26 by rw [Patch.arr_size, hf])
  have B0 := Lib.hid (Blk.new w 30 e.arr)
  clear hf hb
  by_cases h : e.code = 0
  case neg =>
    have k : (e.code != 0) = true := by simpa using h
    have H : Hid (b = b ++ editB e) := by show _ = _; rw [editB_bad h, List.append_nil]
    clear h
    go_enter Tryd.func72, Tryd.ntmps72
    go_wp2_with (with_reducible refine stop_load 30 (.tmp 3) rfl rfl ?_)
    refine Stop.mk (wpList_loadB rfl _ _ rfl w.heap.size rfl e.arr B0.out strE HZ.out ?_)
    go_wp2_with (fail)
    refine (c_edit_Check e _ HF.out hs hm).mono ?_
    rintro e1 w1 ⟨rfl, hb1⟩
    have hw1 : Below w.heap.size w w1 := ((Below.refl _ _).alloc (Nat.le_refl _) _).trans (hb1.mono (by simp))
    have hz1 := hw1.size
    go_wp2_with (fail)
    refine (c_Clone_b b B cb _ (HIN.out.below hw1)).mono ?_
    rintro e2 w2 ⟨v2, rfl, own2, hb2⟩
    go_wp2_with (fail)
    go_ret
    exact RetS.of own2 hz1 H.out (hw1.trans (hb2.mono hz1))
  case pos =>
  have k : (e.code != 0) = false := by simpa using h
  obtain ⟨h1, h7, -, -, -, -⟩ := Edit.code_zero h
  have hn1 := (num_len e.kind).2
  have hn2 := (num_len e.group).2
  have hn3 := (num_len e.id).2
  have hn4 := patchB_len e.p
  have HE := Lib.hid (editB_ok h)
  clear h
  cases hG : hasG e.kind <;> cases hI : hasI e.kind <;> cases hP : hasP e.kind
  · have H : Hid (b ++ num e.kind = b ++ editB e) := by show _ = _; rw [HE.out, hG, hI, hP]; simp
    have j1 : hasW e.kind 1 = false := hG
    have j2 : hasW e.kind 2 = false := hI
    have j4 : hasW e.kind 4 = false := hP
    clear hG hI hP
    go_enter Tryd.func72, Tryd.ntmps72
    go_wp2_with (with_reducible refine stop_load 30 (.tmp 3) rfl rfl ?_)
    refine Stop.mk (wpList_loadB rfl _ _ rfl w.heap.size rfl e.arr B0.out strE HZ.out ?_)
    go_wp2_with (fail)
    refine (c_edit_Check e _ HF.out hs hm).mono ?_
    rintro e1 w1 ⟨rfl, hb1⟩
    have hw1 : Below w.heap.size w w1 := ((Below.refl _ _).alloc (Nat.le_refl _) _).trans (hb1.mono (by simp))
    have hz1 := hw1.size
    have B1 := Lib.hid (B0.out.below hb1 (by simp))
    have q1 := B1.out.cell e.arr_head.1
    have N1 := Lib.hid (HIN.out.below hw1)
    clear hb1
    go_wp2_with (fail)
    refine (c_octet_Num b B cb _ _ N1.out).mono ?_
    rintro e2 w2 ⟨v2, rfl, own2, hb2⟩
    obtain ⟨l2, A2, c2, H2, hl2, rfl, in2, own2'⟩ := own_open bc_len own2 (b.length + 7) (by simp only [List.length_append]; omega) (by omega)
    have hw2 : Below w.heap.size w w2 := hw1.trans (hb2.mono hz1)
    have hz2 := hw2.size
    have B2 := Lib.hid (B1.out.below hb2 B1.out.lt)
    have q2 := B2.out.cell e.arr_head.1
    have N2 := Lib.hid in2
    have O2 := Lib.hid (own_base own2'.out hz1)
    clear own2 own2' in2 hb2 q1
    go_wp2_with (fail)
    refine (c_edit_has e.kind _ _ (by omega) h7 (by decide)).mono ?_
    rintro e3 w3 ⟨rfl, hb3⟩
    have hw3 : Below w.heap.size w w3 := hw2.trans (hb3.mono hz2)
    have hz3 := hw3.size
    have B3 := Lib.hid (B2.out.below hb3 B2.out.lt)
    have q3 := B3.out.cell e.arr_head.1
    have N3 := Lib.hid (N2.out.below hb3)
    have O3 := Lib.hid (own_below O2.out hb3)
    clear hb3 q2
    go_wp2_with (fail)
    refine (c_edit_has e.kind _ _ (by omega) h7 (by decide)).mono ?_
    rintro e4 w4 ⟨rfl, hb4⟩
    have hw4 : Below w.heap.size w w4 := hw3.trans (hb4.mono hz3)
    have hz4 := hw4.size
    have B4 := Lib.hid (B3.out.below hb4 B3.out.lt)
    have q4 := B4.out.cell e.arr_head.1
    have N4 := Lib.hid (N3.out.below hb4)
    have O4 := Lib.hid (own_below O3.out hb4)
    clear hb4 q3
    go_wp2_with (fail)
    refine (c_edit_has e.kind _ _ (by omega) h7 (by decide)).mono ?_
    rintro e5 w5 ⟨rfl, hb5⟩
    have hw5 : Below w.heap.size w w5 := hw4.trans (hb5.mono hz4)
    have hz5 := hw5.size
    have B5 := Lib.hid (B4.out.below hb5 B4.out.lt)
    have q5 := B5.out.cell e.arr_head.1
    have N5 := Lib.hid (N4.out.below hb5)
    have O5 := Lib.hid (own_below O4.out hb5)
    clear hb5 q4
    go_wp2_with (fail)
    go_ret
    exact RetS.of O5.out (Nat.le_refl _) (by rw [← H.out, H2.out]) hw5
  · have H : Hid (b ++ num e.kind ++ patchB e.p = b ++ editB e) := by show _ = _; rw [HE.out, hG, hI, hP]; simp
    have j1 : hasW e.kind 1 = false := hG
    have j2 : hasW e.kind 2 = false := hI
    have j4 : hasW e.kind 4 = true := hP
    clear hG hI hP
    go_enter Tryd.func72, Tryd.ntmps72
    go_wp2_with (with_reducible refine stop_load 30 (.tmp 3) rfl rfl ?_)
    refine Stop.mk (wpList_loadB rfl _ _ rfl w.heap.size rfl e.arr B0.out strE HZ.out ?_)
    go_wp2_with (fail)
    refine (c_edit_Check e _ HF.out hs hm).mono ?_
    rintro e1 w1 ⟨rfl, hb1⟩
    have hw1 : Below w.heap.size w w1 := ((Below.refl _ _).alloc (Nat.le_refl _) _).trans (hb1.mono (by simp))
    have hz1 := hw1.size
    have B1 := Lib.hid (B0.out.below hb1 (by simp))
    have q1 := B1.out.cell e.arr_head.1
    have N1 := Lib.hid (HIN.out.below hw1)
    clear hb1
    go_wp2_with (fail)
    refine (c_octet_Num b B cb _ _ N1.out).mono ?_
    rintro e2 w2 ⟨v2, rfl, own2, hb2⟩
    obtain ⟨l2, A2, c2, H2, hl2, rfl, in2, own2'⟩ := own_open bc_len own2 (b.length + 7) (by simp only [List.length_append]; omega) (by omega)
    have hw2 : Below w.heap.size w w2 := hw1.trans (hb2.mono hz1)
    have hz2 := hw2.size
    have B2 := Lib.hid (B1.out.below hb2 B1.out.lt)
    have q2 := B2.out.cell e.arr_head.1
    have N2 := Lib.hid in2
    have O2 := Lib.hid (own_base own2'.out hz1)
    clear own2 own2' in2 hb2 q1
    go_wp2_with (fail)
    refine (c_edit_has e.kind _ _ (by omega) h7 (by decide)).mono ?_
    rintro e3 w3 ⟨rfl, hb3⟩
    have hw3 : Below w.heap.size w w3 := hw2.trans (hb3.mono hz2)
    have hz3 := hw3.size
    have B3 := Lib.hid (B2.out.below hb3 B2.out.lt)
    have q3 := B3.out.cell e.arr_head.1
    have N3 := Lib.hid (N2.out.below hb3)
    have O3 := Lib.hid (own_below O2.out hb3)
    clear hb3 q2
    go_wp2_with (fail)
    refine (c_edit_has e.kind _ _ (by omega) h7 (by decide)).mono ?_
    rintro e4 w4 ⟨rfl, hb4⟩
    have hw4 : Below w.heap.size w w4 := hw3.trans (hb4.mono hz3)
    have hz4 := hw4.size
    have B4 := Lib.hid (B3.out.below hb4 B3.out.lt)
    have q4 := B4.out.cell e.arr_head.1
    have N4 := Lib.hid (N3.out.below hb4)
    have O4 := Lib.hid (own_below O3.out hb4)
    clear hb4 q3
    go_wp2_with (fail)
    refine (c_edit_has e.kind _ _ (by omega) h7 (by decide)).mono ?_
    rintro e5 w5 ⟨rfl, hb5⟩
    have hw5 : Below w.heap.size w w5 := hw4.trans (hb5.mono hz4)
    have hz5 := hw5.size
    have B5 := Lib.hid (B4.out.below hb5 B4.out.lt)
    have q5 := B5.out.cell e.arr_head.1
    have N5 := Lib.hid (N4.out.below hb5)
    have O5 := Lib.hid (own_below O4.out hb5)
    clear hb5 q4
    go_wp2_with (with_reducible refine stop_load 28 (.tmp 32) rfl rfl ?_)
    refine Stop.mk (wpList_loadAt rfl _ _ rfl w.heap.size 3 rfl e.p.arr (Edit.part B5.out) strP HZP.out ?_)
    go_wp2_with (fail)
    refine (c_cardwire_PutPatch l2 A2 c2 e.p _ N5.out (by omega) (hT.below hw5) hm HF.out hs).mono ?_
    rintro e6 w6 ⟨v6, rfl, own6, hb6⟩
    go_wp2_with (fail)
    go_ret
    exact RetS.of own6 hz5 (by rw [← H.out, H2.out]) (hw5.trans (hb6.mono hz5))
  · have H : Hid (b ++ num e.kind ++ num e.id = b ++ editB e) := by show _ = _; rw [HE.out, hG, hI, hP]; simp
    have j1 : hasW e.kind 1 = false := hG
    have j2 : hasW e.kind 2 = true := hI
    have j4 : hasW e.kind 4 = false := hP
    clear hG hI hP
    go_enter Tryd.func72, Tryd.ntmps72
    go_wp2_with (with_reducible refine stop_load 30 (.tmp 3) rfl rfl ?_)
    refine Stop.mk (wpList_loadB rfl _ _ rfl w.heap.size rfl e.arr B0.out strE HZ.out ?_)
    go_wp2_with (fail)
    refine (c_edit_Check e _ HF.out hs hm).mono ?_
    rintro e1 w1 ⟨rfl, hb1⟩
    have hw1 : Below w.heap.size w w1 := ((Below.refl _ _).alloc (Nat.le_refl _) _).trans (hb1.mono (by simp))
    have hz1 := hw1.size
    have B1 := Lib.hid (B0.out.below hb1 (by simp))
    have q1 := B1.out.cell e.arr_head.1
    have N1 := Lib.hid (HIN.out.below hw1)
    clear hb1
    go_wp2_with (fail)
    refine (c_octet_Num b B cb _ _ N1.out).mono ?_
    rintro e2 w2 ⟨v2, rfl, own2, hb2⟩
    obtain ⟨l2, A2, c2, H2, hl2, rfl, in2, own2'⟩ := own_open bc_len own2 (b.length + 7) (by simp only [List.length_append]; omega) (by omega)
    have hw2 : Below w.heap.size w w2 := hw1.trans (hb2.mono hz1)
    have hz2 := hw2.size
    have B2 := Lib.hid (B1.out.below hb2 B1.out.lt)
    have q2 := B2.out.cell e.arr_head.1
    have N2 := Lib.hid in2
    have O2 := Lib.hid (own_base own2'.out hz1)
    clear own2 own2' in2 hb2 q1
    go_wp2_with (fail)
    refine (c_edit_has e.kind _ _ (by omega) h7 (by decide)).mono ?_
    rintro e3 w3 ⟨rfl, hb3⟩
    have hw3 : Below w.heap.size w w3 := hw2.trans (hb3.mono hz2)
    have hz3 := hw3.size
    have B3 := Lib.hid (B2.out.below hb3 B2.out.lt)
    have q3 := B3.out.cell e.arr_head.1
    have N3 := Lib.hid (N2.out.below hb3)
    have O3 := Lib.hid (own_below O2.out hb3)
    clear hb3 q2
    go_wp2_with (fail)
    refine (c_edit_has e.kind _ _ (by omega) h7 (by decide)).mono ?_
    rintro e4 w4 ⟨rfl, hb4⟩
    have hw4 : Below w.heap.size w w4 := hw3.trans (hb4.mono hz3)
    have hz4 := hw4.size
    have B4 := Lib.hid (B3.out.below hb4 B3.out.lt)
    have q4 := B4.out.cell e.arr_head.2.1
    have N4 := Lib.hid (N3.out.below hb4)
    have O4 := Lib.hid (own_below O3.out hb4)
    clear hb4 q3
    go_wp2_with (fail)
    refine (c_octet_Num l2 A2 c2 _ _ N4.out).mono ?_
    rintro e5 w5 ⟨v5, rfl, own5, hb5⟩
    obtain ⟨l5, A5, c5, H5, hl5, rfl, in5, own5'⟩ := own_open bc_len own5 (b.length + 14) (by simp only [List.length_append]; omega) (by omega)
    have hw5 : Below w.heap.size w w5 := hw4.trans (hb5.mono hz4)
    have hz5 := hw5.size
    have B5 := Lib.hid (B4.out.below hb5 B4.out.lt)
    have q5 := B5.out.cell e.arr_head.1
    have N5 := Lib.hid in5
    have O5 := Lib.hid (own_base own5'.out hz4)
    clear own5 own5' in5 hb5 q4
    go_wp2_with (fail)
    refine (c_edit_has e.kind _ _ (by omega) h7 (by decide)).mono ?_
    rintro e6 w6 ⟨rfl, hb6⟩
    have hw6 : Below w.heap.size w w6 := hw5.trans (hb6.mono hz5)
    have hz6 := hw6.size
    have B6 := Lib.hid (B5.out.below hb6 B5.out.lt)
    have q6 := B6.out.cell e.arr_head.1
    have N6 := Lib.hid (N5.out.below hb6)
    have O6 := Lib.hid (own_below O5.out hb6)
    clear hb6 q5
    go_wp2_with (fail)
    go_ret
    exact RetS.of O6.out (Nat.le_refl _) (by rw [← H.out, H5.out, H2.out]) hw6
  · have H : Hid (b ++ num e.kind ++ num e.id ++ patchB e.p = b ++ editB e) := by show _ = _; rw [HE.out, hG, hI, hP]; simp
    have j1 : hasW e.kind 1 = false := hG
    have j2 : hasW e.kind 2 = true := hI
    have j4 : hasW e.kind 4 = true := hP
    clear hG hI hP
    go_enter Tryd.func72, Tryd.ntmps72
    go_wp2_with (with_reducible refine stop_load 30 (.tmp 3) rfl rfl ?_)
    refine Stop.mk (wpList_loadB rfl _ _ rfl w.heap.size rfl e.arr B0.out strE HZ.out ?_)
    go_wp2_with (fail)
    refine (c_edit_Check e _ HF.out hs hm).mono ?_
    rintro e1 w1 ⟨rfl, hb1⟩
    have hw1 : Below w.heap.size w w1 := ((Below.refl _ _).alloc (Nat.le_refl _) _).trans (hb1.mono (by simp))
    have hz1 := hw1.size
    have B1 := Lib.hid (B0.out.below hb1 (by simp))
    have q1 := B1.out.cell e.arr_head.1
    have N1 := Lib.hid (HIN.out.below hw1)
    clear hb1
    go_wp2_with (fail)
    refine (c_octet_Num b B cb _ _ N1.out).mono ?_
    rintro e2 w2 ⟨v2, rfl, own2, hb2⟩
    obtain ⟨l2, A2, c2, H2, hl2, rfl, in2, own2'⟩ := own_open bc_len own2 (b.length + 7) (by simp only [List.length_append]; omega) (by omega)
    have hw2 : Below w.heap.size w w2 := hw1.trans (hb2.mono hz1)
    have hz2 := hw2.size
    have B2 := Lib.hid (B1.out.below hb2 B1.out.lt)
    have q2 := B2.out.cell e.arr_head.1
    have N2 := Lib.hid in2
    have O2 := Lib.hid (own_base own2'.out hz1)
    clear own2 own2' in2 hb2 q1
    go_wp2_with (fail)
    refine (c_edit_has e.kind _ _ (by omega) h7 (by decide)).mono ?_
    rintro e3 w3 ⟨rfl, hb3⟩
    have hw3 : Below w.heap.size w w3 := hw2.trans (hb3.mono hz2)
    have hz3 := hw3.size
    have B3 := Lib.hid (B2.out.below hb3 B2.out.lt)
    have q3 := B3.out.cell e.arr_head.1
    have N3 := Lib.hid (N2.out.below hb3)
    have O3 := Lib.hid (own_below O2.out hb3)
    clear hb3 q2
    go_wp2_with (fail)
    refine (c_edit_has e.kind _ _ (by omega) h7 (by decide)).mono ?_
    rintro e4 w4 ⟨rfl, hb4⟩
    have hw4 : Below w.heap.size w w4 := hw3.trans (hb4.mono hz3)
    have hz4 := hw4.size
    have B4 := Lib.hid (B3.out.below hb4 B3.out.lt)
    have q4 := B4.out.cell e.arr_head.2.1
    have N4 := Lib.hid (N3.out.below hb4)
    have O4 := Lib.hid (own_below O3.out hb4)
    clear hb4 q3
    go_wp2_with (fail)
    refine (c_octet_Num l2 A2 c2 _ _ N4.out).mono ?_
    rintro e5 w5 ⟨v5, rfl, own5, hb5⟩
    obtain ⟨l5, A5, c5, H5, hl5, rfl, in5, own5'⟩ := own_open bc_len own5 (b.length + 14) (by simp only [List.length_append]; omega) (by omega)
    have hw5 : Below w.heap.size w w5 := hw4.trans (hb5.mono hz4)
    have hz5 := hw5.size
    have B5 := Lib.hid (B4.out.below hb5 B4.out.lt)
    have q5 := B5.out.cell e.arr_head.1
    have N5 := Lib.hid in5
    have O5 := Lib.hid (own_base own5'.out hz4)
    clear own5 own5' in5 hb5 q4
    go_wp2_with (fail)
    refine (c_edit_has e.kind _ _ (by omega) h7 (by decide)).mono ?_
    rintro e6 w6 ⟨rfl, hb6⟩
    have hw6 : Below w.heap.size w w6 := hw5.trans (hb6.mono hz5)
    have hz6 := hw6.size
    have B6 := Lib.hid (B5.out.below hb6 B5.out.lt)
    have q6 := B6.out.cell e.arr_head.1
    have N6 := Lib.hid (N5.out.below hb6)
    have O6 := Lib.hid (own_below O5.out hb6)
    clear hb6 q5
    go_wp2_with (with_reducible refine stop_load 28 (.tmp 32) rfl rfl ?_)
    refine Stop.mk (wpList_loadAt rfl _ _ rfl w.heap.size 3 rfl e.p.arr (Edit.part B6.out) strP HZP.out ?_)
    go_wp2_with (fail)
    refine (c_cardwire_PutPatch l5 A5 c5 e.p _ N6.out (by omega) (hT.below hw6) hm HF.out hs).mono ?_
    rintro e7 w7 ⟨v7, rfl, own7, hb7⟩
    go_wp2_with (fail)
    go_ret
    exact RetS.of own7 hz6 (by rw [← H.out, H5.out, H2.out]) (hw6.trans (hb7.mono hz6))
  · have H : Hid (b ++ num e.kind ++ num e.group = b ++ editB e) := by show _ = _; rw [HE.out, hG, hI, hP]; simp
    have j1 : hasW e.kind 1 = true := hG
    have j2 : hasW e.kind 2 = false := hI
    have j4 : hasW e.kind 4 = false := hP
    clear hG hI hP
    go_enter Tryd.func72, Tryd.ntmps72
    go_wp2_with (with_reducible refine stop_load 30 (.tmp 3) rfl rfl ?_)
    refine Stop.mk (wpList_loadB rfl _ _ rfl w.heap.size rfl e.arr B0.out strE HZ.out ?_)
    go_wp2_with (fail)
    refine (c_edit_Check e _ HF.out hs hm).mono ?_
    rintro e1 w1 ⟨rfl, hb1⟩
    have hw1 : Below w.heap.size w w1 := ((Below.refl _ _).alloc (Nat.le_refl _) _).trans (hb1.mono (by simp))
    have hz1 := hw1.size
    have B1 := Lib.hid (B0.out.below hb1 (by simp))
    have q1 := B1.out.cell e.arr_head.1
    have N1 := Lib.hid (HIN.out.below hw1)
    clear hb1
    go_wp2_with (fail)
    refine (c_octet_Num b B cb _ _ N1.out).mono ?_
    rintro e2 w2 ⟨v2, rfl, own2, hb2⟩
    obtain ⟨l2, A2, c2, H2, hl2, rfl, in2, own2'⟩ := own_open bc_len own2 (b.length + 7) (by simp only [List.length_append]; omega) (by omega)
    have hw2 : Below w.heap.size w w2 := hw1.trans (hb2.mono hz1)
    have hz2 := hw2.size
    have B2 := Lib.hid (B1.out.below hb2 B1.out.lt)
    have q2 := B2.out.cell e.arr_head.1
    have N2 := Lib.hid in2
    have O2 := Lib.hid (own_base own2'.out hz1)
    clear own2 own2' in2 hb2 q1
    go_wp2_with (fail)
    refine (c_edit_has e.kind _ _ (by omega) h7 (by decide)).mono ?_
    rintro e3 w3 ⟨rfl, hb3⟩
    have hw3 : Below w.heap.size w w3 := hw2.trans (hb3.mono hz2)
    have hz3 := hw3.size
    have B3 := Lib.hid (B2.out.below hb3 B2.out.lt)
    have q3 := B3.out.cell e.arr_head.2.2
    have N3 := Lib.hid (N2.out.below hb3)
    have O3 := Lib.hid (own_below O2.out hb3)
    clear hb3 q2
    go_wp2_with (fail)
    refine (c_octet_Num l2 A2 c2 _ _ N3.out).mono ?_
    rintro e4 w4 ⟨v4, rfl, own4, hb4⟩
    obtain ⟨l4, A4, c4, H4, hl4, rfl, in4, own4'⟩ := own_open bc_len own4 (b.length + 14) (by simp only [List.length_append]; omega) (by omega)
    have hw4 : Below w.heap.size w w4 := hw3.trans (hb4.mono hz3)
    have hz4 := hw4.size
    have B4 := Lib.hid (B3.out.below hb4 B3.out.lt)
    have q4 := B4.out.cell e.arr_head.1
    have N4 := Lib.hid in4
    have O4 := Lib.hid (own_base own4'.out hz3)
    clear own4 own4' in4 hb4 q3
    go_wp2_with (fail)
    refine (c_edit_has e.kind _ _ (by omega) h7 (by decide)).mono ?_
    rintro e5 w5 ⟨rfl, hb5⟩
    have hw5 : Below w.heap.size w w5 := hw4.trans (hb5.mono hz4)
    have hz5 := hw5.size
    have B5 := Lib.hid (B4.out.below hb5 B4.out.lt)
    have q5 := B5.out.cell e.arr_head.1
    have N5 := Lib.hid (N4.out.below hb5)
    have O5 := Lib.hid (own_below O4.out hb5)
    clear hb5 q4
    go_wp2_with (fail)
    refine (c_edit_has e.kind _ _ (by omega) h7 (by decide)).mono ?_
    rintro e6 w6 ⟨rfl, hb6⟩
    have hw6 : Below w.heap.size w w6 := hw5.trans (hb6.mono hz5)
    have hz6 := hw6.size
    have B6 := Lib.hid (B5.out.below hb6 B5.out.lt)
    have q6 := B6.out.cell e.arr_head.1
    have N6 := Lib.hid (N5.out.below hb6)
    have O6 := Lib.hid (own_below O5.out hb6)
    clear hb6 q5
    go_wp2_with (fail)
    go_ret
    exact RetS.of O6.out (Nat.le_refl _) (by rw [← H.out, H4.out, H2.out]) hw6
  · have H : Hid (b ++ num e.kind ++ num e.group ++ patchB e.p = b ++ editB e) := by show _ = _; rw [HE.out, hG, hI, hP]; simp
    have j1 : hasW e.kind 1 = true := hG
    have j2 : hasW e.kind 2 = false := hI
    have j4 : hasW e.kind 4 = true := hP
    clear hG hI hP
    go_enter Tryd.func72, Tryd.ntmps72
    go_wp2_with (with_reducible refine stop_load 30 (.tmp 3) rfl rfl ?_)
    refine Stop.mk (wpList_loadB rfl _ _ rfl w.heap.size rfl e.arr B0.out strE HZ.out ?_)
    go_wp2_with (fail)
    refine (c_edit_Check e _ HF.out hs hm).mono ?_
    rintro e1 w1 ⟨rfl, hb1⟩
    have hw1 : Below w.heap.size w w1 := ((Below.refl _ _).alloc (Nat.le_refl _) _).trans (hb1.mono (by simp))
    have hz1 := hw1.size
    have B1 := Lib.hid (B0.out.below hb1 (by simp))
    have q1 := B1.out.cell e.arr_head.1
    have N1 := Lib.hid (HIN.out.below hw1)
    clear hb1
    go_wp2_with (fail)
    refine (c_octet_Num b B cb _ _ N1.out).mono ?_
    rintro e2 w2 ⟨v2, rfl, own2, hb2⟩
    obtain ⟨l2, A2, c2, H2, hl2, rfl, in2, own2'⟩ := own_open bc_len own2 (b.length + 7) (by simp only [List.length_append]; omega) (by omega)
    have hw2 : Below w.heap.size w w2 := hw1.trans (hb2.mono hz1)
    have hz2 := hw2.size
    have B2 := Lib.hid (B1.out.below hb2 B1.out.lt)
    have q2 := B2.out.cell e.arr_head.1
    have N2 := Lib.hid in2
    have O2 := Lib.hid (own_base own2'.out hz1)
    clear own2 own2' in2 hb2 q1
    go_wp2_with (fail)
    refine (c_edit_has e.kind _ _ (by omega) h7 (by decide)).mono ?_
    rintro e3 w3 ⟨rfl, hb3⟩
    have hw3 : Below w.heap.size w w3 := hw2.trans (hb3.mono hz2)
    have hz3 := hw3.size
    have B3 := Lib.hid (B2.out.below hb3 B2.out.lt)
    have q3 := B3.out.cell e.arr_head.2.2
    have N3 := Lib.hid (N2.out.below hb3)
    have O3 := Lib.hid (own_below O2.out hb3)
    clear hb3 q2
    go_wp2_with (fail)
    refine (c_octet_Num l2 A2 c2 _ _ N3.out).mono ?_
    rintro e4 w4 ⟨v4, rfl, own4, hb4⟩
    obtain ⟨l4, A4, c4, H4, hl4, rfl, in4, own4'⟩ := own_open bc_len own4 (b.length + 14) (by simp only [List.length_append]; omega) (by omega)
    have hw4 : Below w.heap.size w w4 := hw3.trans (hb4.mono hz3)
    have hz4 := hw4.size
    have B4 := Lib.hid (B3.out.below hb4 B3.out.lt)
    have q4 := B4.out.cell e.arr_head.1
    have N4 := Lib.hid in4
    have O4 := Lib.hid (own_base own4'.out hz3)
    clear own4 own4' in4 hb4 q3
    go_wp2_with (fail)
    refine (c_edit_has e.kind _ _ (by omega) h7 (by decide)).mono ?_
    rintro e5 w5 ⟨rfl, hb5⟩
    have hw5 : Below w.heap.size w w5 := hw4.trans (hb5.mono hz4)
    have hz5 := hw5.size
    have B5 := Lib.hid (B4.out.below hb5 B4.out.lt)
    have q5 := B5.out.cell e.arr_head.1
    have N5 := Lib.hid (N4.out.below hb5)
    have O5 := Lib.hid (own_below O4.out hb5)
    clear hb5 q4
    go_wp2_with (fail)
    refine (c_edit_has e.kind _ _ (by omega) h7 (by decide)).mono ?_
    rintro e6 w6 ⟨rfl, hb6⟩
    have hw6 : Below w.heap.size w w6 := hw5.trans (hb6.mono hz5)
    have hz6 := hw6.size
    have B6 := Lib.hid (B5.out.below hb6 B5.out.lt)
    have q6 := B6.out.cell e.arr_head.1
    have N6 := Lib.hid (N5.out.below hb6)
    have O6 := Lib.hid (own_below O5.out hb6)
    clear hb6 q5
    go_wp2_with (with_reducible refine stop_load 28 (.tmp 32) rfl rfl ?_)
    refine Stop.mk (wpList_loadAt rfl _ _ rfl w.heap.size 3 rfl e.p.arr (Edit.part B6.out) strP HZP.out ?_)
    go_wp2_with (fail)
    refine (c_cardwire_PutPatch l4 A4 c4 e.p _ N6.out (by omega) (hT.below hw6) hm HF.out hs).mono ?_
    rintro e7 w7 ⟨v7, rfl, own7, hb7⟩
    go_wp2_with (fail)
    go_ret
    exact RetS.of own7 hz6 (by rw [← H.out, H4.out, H2.out]) (hw6.trans (hb7.mono hz6))
  · have H : Hid (b ++ num e.kind ++ num e.group ++ num e.id = b ++ editB e) := by show _ = _; rw [HE.out, hG, hI, hP]; simp
    have j1 : hasW e.kind 1 = true := hG
    have j2 : hasW e.kind 2 = true := hI
    have j4 : hasW e.kind 4 = false := hP
    clear hG hI hP
    go_enter Tryd.func72, Tryd.ntmps72
    go_wp2_with (with_reducible refine stop_load 30 (.tmp 3) rfl rfl ?_)
    refine Stop.mk (wpList_loadB rfl _ _ rfl w.heap.size rfl e.arr B0.out strE HZ.out ?_)
    go_wp2_with (fail)
    refine (c_edit_Check e _ HF.out hs hm).mono ?_
    rintro e1 w1 ⟨rfl, hb1⟩
    have hw1 : Below w.heap.size w w1 := ((Below.refl _ _).alloc (Nat.le_refl _) _).trans (hb1.mono (by simp))
    have hz1 := hw1.size
    have B1 := Lib.hid (B0.out.below hb1 (by simp))
    have q1 := B1.out.cell e.arr_head.1
    have N1 := Lib.hid (HIN.out.below hw1)
    clear hb1
    go_wp2_with (fail)
    refine (c_octet_Num b B cb _ _ N1.out).mono ?_
    rintro e2 w2 ⟨v2, rfl, own2, hb2⟩
    obtain ⟨l2, A2, c2, H2, hl2, rfl, in2, own2'⟩ := own_open bc_len own2 (b.length + 7) (by simp only [List.length_append]; omega) (by omega)
    have hw2 : Below w.heap.size w w2 := hw1.trans (hb2.mono hz1)
    have hz2 := hw2.size
    have B2 := Lib.hid (B1.out.below hb2 B1.out.lt)
    have q2 := B2.out.cell e.arr_head.1
    have N2 := Lib.hid in2
    have O2 := Lib.hid (own_base own2'.out hz1)
    clear own2 own2' in2 hb2 q1
    go_wp2_with (fail)
    refine (c_edit_has e.kind _ _ (by omega) h7 (by decide)).mono ?_
    rintro e3 w3 ⟨rfl, hb3⟩
    have hw3 : Below w.heap.size w w3 := hw2.trans (hb3.mono hz2)
    have hz3 := hw3.size
    have B3 := Lib.hid (B2.out.below hb3 B2.out.lt)
    have q3 := B3.out.cell e.arr_head.2.2
    have N3 := Lib.hid (N2.out.below hb3)
    have O3 := Lib.hid (own_below O2.out hb3)
    clear hb3 q2
    go_wp2_with (fail)
    refine (c_octet_Num l2 A2 c2 _ _ N3.out).mono ?_
    rintro e4 w4 ⟨v4, rfl, own4, hb4⟩
    obtain ⟨l4, A4, c4, H4, hl4, rfl, in4, own4'⟩ := own_open bc_len own4 (b.length + 14) (by simp only [List.length_append]; omega) (by omega)
    have hw4 : Below w.heap.size w w4 := hw3.trans (hb4.mono hz3)
    have hz4 := hw4.size
    have B4 := Lib.hid (B3.out.below hb4 B3.out.lt)
    have q4 := B4.out.cell e.arr_head.1
    have N4 := Lib.hid in4
    have O4 := Lib.hid (own_base own4'.out hz3)
    clear own4 own4' in4 hb4 q3
    go_wp2_with (fail)
    refine (c_edit_has e.kind _ _ (by omega) h7 (by decide)).mono ?_
    rintro e5 w5 ⟨rfl, hb5⟩
    have hw5 : Below w.heap.size w w5 := hw4.trans (hb5.mono hz4)
    have hz5 := hw5.size
    have B5 := Lib.hid (B4.out.below hb5 B4.out.lt)
    have q5 := B5.out.cell e.arr_head.2.1
    have N5 := Lib.hid (N4.out.below hb5)
    have O5 := Lib.hid (own_below O4.out hb5)
    clear hb5 q4
    go_wp2_with (fail)
    refine (c_octet_Num l4 A4 c4 _ _ N5.out).mono ?_
    rintro e6 w6 ⟨v6, rfl, own6, hb6⟩
    obtain ⟨l6, A6, c6, H6, hl6, rfl, in6, own6'⟩ := own_open bc_len own6 (b.length + 21) (by simp only [List.length_append]; omega) (by omega)
    have hw6 : Below w.heap.size w w6 := hw5.trans (hb6.mono hz5)
    have hz6 := hw6.size
    have B6 := Lib.hid (B5.out.below hb6 B5.out.lt)
    have q6 := B6.out.cell e.arr_head.1
    have N6 := Lib.hid in6
    have O6 := Lib.hid (own_base own6'.out hz5)
    clear own6 own6' in6 hb6 q5
    go_wp2_with (fail)
    refine (c_edit_has e.kind _ _ (by omega) h7 (by decide)).mono ?_
    rintro e7 w7 ⟨rfl, hb7⟩
    have hw7 : Below w.heap.size w w7 := hw6.trans (hb7.mono hz6)
    have hz7 := hw7.size
    have B7 := Lib.hid (B6.out.below hb7 B6.out.lt)
    have q7 := B7.out.cell e.arr_head.1
    have N7 := Lib.hid (N6.out.below hb7)
    have O7 := Lib.hid (own_below O6.out hb7)
    clear hb7 q6
    go_wp2_with (fail)
    go_ret
    exact RetS.of O7.out (Nat.le_refl _) (by rw [← H.out, H6.out, H4.out, H2.out]) hw7
  · have H : Hid (b ++ num e.kind ++ num e.group ++ num e.id ++ patchB e.p = b ++ editB e) := by show _ = _; rw [HE.out, hG, hI, hP]; simp
    have j1 : hasW e.kind 1 = true := hG
    have j2 : hasW e.kind 2 = true := hI
    have j4 : hasW e.kind 4 = true := hP
    clear hG hI hP
    go_enter Tryd.func72, Tryd.ntmps72
    go_wp2_with (with_reducible refine stop_load 30 (.tmp 3) rfl rfl ?_)
    refine Stop.mk (wpList_loadB rfl _ _ rfl w.heap.size rfl e.arr B0.out strE HZ.out ?_)
    go_wp2_with (fail)
    refine (c_edit_Check e _ HF.out hs hm).mono ?_
    rintro e1 w1 ⟨rfl, hb1⟩
    have hw1 : Below w.heap.size w w1 := ((Below.refl _ _).alloc (Nat.le_refl _) _).trans (hb1.mono (by simp))
    have hz1 := hw1.size
    have B1 := Lib.hid (B0.out.below hb1 (by simp))
    have q1 := B1.out.cell e.arr_head.1
    have N1 := Lib.hid (HIN.out.below hw1)
    clear hb1
    go_wp2_with (fail)
    refine (c_octet_Num b B cb _ _ N1.out).mono ?_
    rintro e2 w2 ⟨v2, rfl, own2, hb2⟩
    obtain ⟨l2, A2, c2, H2, hl2, rfl, in2, own2'⟩ := own_open bc_len own2 (b.length + 7) (by simp only [List.length_append]; omega) (by omega)
    have hw2 : Below w.heap.size w w2 := hw1.trans (hb2.mono hz1)
    have hz2 := hw2.size
    have B2 := Lib.hid (B1.out.below hb2 B1.out.lt)
    have q2 := B2.out.cell e.arr_head.1
    have N2 := Lib.hid in2
    have O2 := Lib.hid (own_base own2'.out hz1)
    clear own2 own2' in2 hb2 q1
    go_wp2_with (fail)
    refine (c_edit_has e.kind _ _ (by omega) h7 (by decide)).mono ?_
    rintro e3 w3 ⟨rfl, hb3⟩
    have hw3 : Below w.heap.size w w3 := hw2.trans (hb3.mono hz2)
    have hz3 := hw3.size
    have B3 := Lib.hid (B2.out.below hb3 B2.out.lt)
    have q3 := B3.out.cell e.arr_head.2.2
    have N3 := Lib.hid (N2.out.below hb3)
    have O3 := Lib.hid (own_below O2.out hb3)
    clear hb3 q2
    go_wp2_with (fail)
    refine (c_octet_Num l2 A2 c2 _ _ N3.out).mono ?_
    rintro e4 w4 ⟨v4, rfl, own4, hb4⟩
    obtain ⟨l4, A4, c4, H4, hl4, rfl, in4, own4'⟩ := own_open bc_len own4 (b.length + 14) (by simp only [List.length_append]; omega) (by omega)
    have hw4 : Below w.heap.size w w4 := hw3.trans (hb4.mono hz3)
    have hz4 := hw4.size
    have B4 := Lib.hid (B3.out.below hb4 B3.out.lt)
    have q4 := B4.out.cell e.arr_head.1
    have N4 := Lib.hid in4
    have O4 := Lib.hid (own_base own4'.out hz3)
    clear own4 own4' in4 hb4 q3
    go_wp2_with (fail)
    refine (c_edit_has e.kind _ _ (by omega) h7 (by decide)).mono ?_
    rintro e5 w5 ⟨rfl, hb5⟩
    have hw5 : Below w.heap.size w w5 := hw4.trans (hb5.mono hz4)
    have hz5 := hw5.size
    have B5 := Lib.hid (B4.out.below hb5 B4.out.lt)
    have q5 := B5.out.cell e.arr_head.2.1
    have N5 := Lib.hid (N4.out.below hb5)
    have O5 := Lib.hid (own_below O4.out hb5)
    clear hb5 q4
    go_wp2_with (fail)
    refine (c_octet_Num l4 A4 c4 _ _ N5.out).mono ?_
    rintro e6 w6 ⟨v6, rfl, own6, hb6⟩
    obtain ⟨l6, A6, c6, H6, hl6, rfl, in6, own6'⟩ := own_open bc_len own6 (b.length + 21) (by simp only [List.length_append]; omega) (by omega)
    have hw6 : Below w.heap.size w w6 := hw5.trans (hb6.mono hz5)
    have hz6 := hw6.size
    have B6 := Lib.hid (B5.out.below hb6 B5.out.lt)
    have q6 := B6.out.cell e.arr_head.1
    have N6 := Lib.hid in6
    have O6 := Lib.hid (own_base own6'.out hz5)
    clear own6 own6' in6 hb6 q5
    go_wp2_with (fail)
    refine (c_edit_has e.kind _ _ (by omega) h7 (by decide)).mono ?_
    rintro e7 w7 ⟨rfl, hb7⟩
    have hw7 : Below w.heap.size w w7 := hw6.trans (hb7.mono hz6)
    have hz7 := hw7.size
    have B7 := Lib.hid (B6.out.below hb7 B6.out.lt)
    have q7 := B7.out.cell e.arr_head.1
    have N7 := Lib.hid (N6.out.below hb7)
    have O7 := Lib.hid (own_below O6.out hb7)
    clear hb7 q6
    go_wp2_with (with_reducible refine stop_load 28 (.tmp 32) rfl rfl ?_)
    refine Stop.mk (wpList_loadAt rfl _ _ rfl w.heap.size 3 rfl e.p.arr (Edit.part B7.out) strP HZP.out ?_)
    go_wp2_with (fail)
    refine (c_cardwire_PutPatch l6 A6 c6 e.p _ N7.out (by omega) (hT.below hw7) hm HF.out hs).mono ?_
    rintro e8 w8 ⟨v8, rfl, own8, hb8⟩
    go_wp2_with (fail)
    go_ret
    exact RetS.of own8 hz7 (by rw [← H.out, H6.out, H4.out, H2.out]) (hw7.trans (hb8.mono hz7))
end Go.Proofs.YtiedkcijjfmhaaaDoor
namespace Go.Proofs.YtiedkcijjfmhaaaDoor
open Go.RowKit

/-- The state of put: the act, and the bytes so far, in a slice of the call's own. -/
structure PT (w w' : World) (o : Deed) (q : Where) (acc : List UInt8) (A : Option Addr) (c : Nat) : Prop where
  below : Below w.heap.size w w'
  o : Blk w' w.heap.size (o.arr q)
  own : w'.ownsRow w.heap.size 5 1 (.slice A acc.length c) acc.length (acc.flatMap bc)
theorem In.own4 {α : Type} {k : Nat} {cs : α → List Value} {w : World} {base : Nat} {e : TypeId} {A : Option Addr} {c : Nat} {l : List α} (hk : ∀ x, (cs x).length = k) (h : w.ownsRow base e k (.slice A l.length c) l.length (l.flatMap cs)) (hs : l.length ≤ 4294967296) : In k cs w A c l := by
  obtain ⟨A', c', hv, hin⟩ := In.of_own hk h hs
  injection hv with e1 _ e2
  subst e1 e2
  exact hin
section
variable {w w1 w2 : World} {o : Deed} {q : Where} {acc acc' : List UInt8} {A A' : Option Addr} {c c' : Nat}
theorem PT.step (s : PT w w1 o q acc A c) (hb : Below w1.heap.size w1 w2) : PT w w2 o q acc A c := ⟨s.below.trans (hb.mono s.below.size), s.o.below hb s.o.lt, own_below s.own hb⟩
theorem PT.inb (s : PT w w1 o q acc A c) (h : acc.length ≤ 4294967296) : InB w1 A c acc := In.own4 bc_len s.own h
theorem PT.put (s : PT w w1 o q acc A c) (hb : Below w1.heap.size w1 w2) (own : w2.ownsRow w1.heap.size 5 1 (.slice A' acc'.length c') acc'.length (acc'.flatMap bc)) : PT w w2 o q acc' A' c' :=
  ⟨s.below.trans (hb.mono s.below.size), s.o.below hb s.o.lt, own_base own s.below.size⟩
end
end Go.Proofs.YtiedkcijjfmhaaaDoor
