/-
  Lemmas (walks and plain laws), in one text.
-/
import Derived.Test.YtjhndilflcigiaaDoorQc5
import Derived.Test.YtjhndilflcigiaaDoorRows
import Derived.WalkKit
import Derived.WalkSpells
import Derived.WalkLawsBesides
import Derived.Lib.Hide
import Derived.Deep.QuietTactic
import Derived.BigQuiet
import Derived.Maps.AppendAt
import Derived.WalkSmall
import Derived.ProofKit
import Derived.OpenShut
import Derived.JoinedCond
import Derived.Deep.Slices
import Derived.Deep.Fields
import Derived.Carry
import Derived.Deep.AppendSrc
import Derived.Lib.AppendStr
import Derived.Laws.BytesArg
import Derived.Test.YtjhndilflcigiaaDoorProg
import Derived.Shelf.Spec.TrailingZeros
import Derived.RangeFuncNested
import Derived.RangeFuncBound
import Derived.RangeFuncCalls
import Derived.RangeFuncLeaves
import Derived.Shelf.Abstract
import Derived.Shelf.RegionOpen
import Derived.OwnWalkIn
import Derived.TacticsInMore
import Derived.LoopNIn
import Derived.LoopIn
import Derived.Test.YtjhndilflcigiaaDoorTie
import Derived.Lib.LaidTab
import Derived.LaidMore
import Derived.SevenTiedAt
import Derived.Test.YtjhndilflcigiaaDoorCards
import Derived.Laws.Tables
import Derived.Laws.Rows
import Derived.ChangeKeysEq
import Derived.Laws.StructEq
import Derived.Deep.CutBlock
import Derived.Deep.DeepCutAuto
import Derived.Laws.CopyOwn
import Derived.Outline
import Derived.IntWalk
import Derived.Lib.EndianBits
import Derived.StillTail
import Derived.Lib.AppendZeros
import Derived.Deep.Quiet
import Derived.Maps.Own
import Derived.WalkMore
namespace Go.Proofs.YtjhndilflcigiaaDoor
open Go.ChangeShapes Go.WideShapes Go.ChangeAt Go.RowKit Go.Deep
open Go.ChangeMaps (open_string shut_string)

theorem u32_range {n : Int} (h : (Lit.int .u32 n).wf = true) : 0 ≤ n ∧ n < 4294967296 := by
  have := (show 0 ≤ n ∧ n ≤ 4294967295 by simpa [Lit.wf, IntKind.min, IntKind.max, IntKind.signed, IntKind.bits] using h)
  omega
theorem c_u32 : Tryd.prog.cellsOf 22 = 1 := by kernel_rfl
theorem c_f8 : Tryd.prog.cellsOf 25 = 24 := by kernel_rfl
theorem c_patch : Tryd.prog.cellsOf 27 = 26 := by kernel_rfl
theorem c_edit : Tryd.prog.cellsOf 29 = 29 := by kernel_rfl
theorem cons3 {α : Type} {l : List α} (h : 3 ≤ l.length) : ∃ a b c r, l = a :: b :: c :: r := by
  match l, h with
  | a :: b :: c :: r, _ => exact ⟨a, b, c, r, rfl⟩
theorem cons2 {α : Type} {l : List α} (h : 2 ≤ l.length) : ∃ a b r, l = a :: b :: r := by
  match l, h with
  | a :: b :: r, _ => exact ⟨a, b, r, rfl⟩
theorem list4 {α : Type} {l : List α} (h : l.length = 4) : ∃ a b c d, l = [a, b, c, d] := by
  match l, h with
  | [a, b, c, d], _ => exact ⟨a, b, c, d, rfl⟩
section
variable {H : Type} {enc : TypeId × Value → H} {w : World} {base : Nat} {spare : Nat → Bool} {held : Bool}
/-- Cells that lie three by three. -/
theorem flat_three : ∀ {l : List Val} {cs : List Value}, cs.length = l.length * 3 → (∀ i (h : i < l.length), (cs.drop (i * 3)).take 3 = l[i].cells) → cs = l.flatMap Val.cells
  | [], cs, h, _ => by simp at h; subst h; rfl
  | v :: l, cs, h, hi => by
    have h0 := hi 0 (by simp)
    simp only [Nat.zero_mul, List.drop_zero, List.getElem_cons_zero] at h0
    rw [List.length_cons] at h
    rw [List.flatMap_cons, ← h0]
    have ih := flat_three (l := l) (cs := cs.drop 3) (by rw [List.length_drop]; omega) (fun i hi' => by
      have := hi (i + 1) (by rw [List.length_cons]; omega)
      rw [List.drop_drop, show 3 + i * 3 = (i + 1) * 3 by omega, this, List.getElem_cons_succ])
    rw [← ih, List.take_append_drop]
theorem open_f8 {fuel : Nat} {cs : List Value} {x : DataW H × List MemPlace} (h : DataW.trod enc Tryd.prog w base spare held fuel 25 cs = some x) :
    ∃ f : List Val, f.length = 8 ∧ cs = f.flatMap Val.cells ∧ ∀ v ∈ f, v.wf := by
  obtain ⟨xs, m, _, _, hl, hxl, hf⟩ := DataW.trod_array Tryd.underlying25 h
  rw [c_f8] at hl
  have hq : ∀ i, i < 8 → ∃ v : Val, (cs.drop (i * 3)).take 3 = v.cells ∧ v.wf := by
    intro i hi
    have h1 := hf i hi
    rw [c_value, List.getElem?_eq_getElem (by omega)] at h1
    obtain ⟨v, hv, _, wv⟩ := open_val h1
    exact ⟨v, hv, wv⟩
  obtain ⟨l, hll, hq⟩ := list_of 8 hq
  refine ⟨l, hll, flat_three (by omega) (fun i hi => (hq i hi).1), fun v hv => ?_⟩
  obtain ⟨i, hi, rfl⟩ := List.getElem_of_mem hv
  exact (hq i hi).2
theorem open_u32 {fuel : Nat} {cs : List Value} {x : DataW H × List MemPlace} (h : DataW.trod enc Tryd.prog w base spare held fuel 22 cs = some x) : ∃ n : Nat, cs = [.int .u32 n] ∧ n < 4294967296 := by
  obtain ⟨a, ha, _, wa⟩ := DataW.trod_int Tryd.underlying22 h
  have := u32_range wa
  exact ⟨a.toNat, by rw [ha, Int.toNat_of_nonneg this.1], by omega⟩
theorem open_i64 {fuel : Nat} {cs : List Value} {x : DataW H × List MemPlace} (h : DataW.trod enc Tryd.prog w base spare held fuel 3 cs = some x) : ∃ n : Int, cs = [.int .i64 n] ∧ I64 n := by
  obtain ⟨a, ha, _, wa⟩ := DataW.trod_int Tryd.underlying3 h
  exact ⟨a, ha, i64_range wa⟩
theorem open_patch {fuel : Nat} {cs : List Value} {x : DataW H × List MemPlace} (h : DataW.trod enc Tryd.prog w base spare held fuel 27 cs = some x) :
    ∃ c : Patch, cs = c.arr.toList ∧ c.f.length = 8 ∧ c.mask < 4294967296 ∧ c.lab < 4294967296 ∧ ∀ v ∈ c.f, v.wf := by
  obtain ⟨xs, n, _, _, hl, hxl, hf⟩ := DataW.trod_struct Tryd.underlying27 h
  rw [c_patch] at hl
  obtain ⟨q0, q1, r, rfl⟩ := cons2 (l := cs) (by omega)
  have hr : r.length = 24 := by simpa using hl
  obtain ⟨x0, x1, x2, rfl⟩ := list3 (show xs.length = 3 from hxl)
  have h0 := hf 0
  have h1 := hf 1
  have h2 := hf 2
  simp [c_u32, c_f8] at h0 h1 h2
  rw [List.take_of_length_le (by omega)] at h2
  obtain ⟨a, ha, wa⟩ := open_u32 h0
  obtain ⟨b, hb, wb⟩ := open_u32 h1
  obtain ⟨f, hf8, hff, wf⟩ := open_f8 h2
  simp at ha hb
  subst ha hb hff
  exact ⟨⟨a, b, f⟩, by unfold Patch.arr; simp, hf8, wa, wb, wf⟩
theorem open_edit {fuel : Nat} {cs : List Value} {x : DataW H × List MemPlace} (h : DataW.trod enc Tryd.prog w base spare held fuel 29 cs = some x) :
    ∃ c : Edit, cs = c.arr.toList ∧ c.p.f.length = 8 ∧ c.p.mask < 4294967296 ∧ c.p.lab < 4294967296 ∧ I64 c.kind ∧ I64 c.id ∧ I64 c.group ∧ ∀ v ∈ c.p.f, v.wf := by
  obtain ⟨xs, n, _, _, hl, hxl, hf⟩ := DataW.trod_struct Tryd.underlying29 h
  rw [c_edit] at hl
  obtain ⟨q0, q1, q2, r, rfl⟩ := cons3 (l := cs) (by omega)
  have hr : r.length = 26 := by simpa using hl
  obtain ⟨x0, x1, x2, x3, rfl⟩ := list4 (show xs.length = 4 from hxl)
  have h0 := hf 0
  have h1 := hf 1
  have h2 := hf 2
  have h3 := hf 3
  simp [c_int, c_patch] at h0 h1 h2 h3
  rw [List.take_of_length_le (by omega)] at h3
  obtain ⟨a, ha, wa⟩ := open_i64 h0
  obtain ⟨b, hb, wb⟩ := open_i64 h1
  obtain ⟨c, hc, wc⟩ := open_i64 h2
  obtain ⟨p, hp, wf, wm, wl, wv⟩ := open_patch h3
  simp at ha hb hc
  subst ha hb hc hp
  exact ⟨⟨a, b, c, p⟩, by unfold Edit.arr Patch.arr; simp, wf, wm, wl, wa, wb, wc, wv⟩
end
end Go.Proofs.YtjhndilflcigiaaDoor
namespace Go.Proofs.YtjhndilflcigiaaDoor
open Go.RowKit

theorem elemB : Elem Tryd.prog 33 5 1 1 := Elem.mk' Tryd.underlying33 (z := .int .u8 0) (by kernel_rfl) rfl (by omega) (by omega)

theorem or128 (v : Nat) : bits .or .u8 ((v : Int) % 256) 128 = ((v % 128 + 128 : Nat) : Int) := by
  have h1 := u8_or_nat (v % 256) 128 (Nat.mod_lt _ (by omega)) (by omega)
  have h2 : ∀ a : Fin 256, (a.val ||| 128) = a.val % 128 + 128 := by decide +kernel
  have h3 := h2 ⟨v % 256, Nat.mod_lt _ (by omega)⟩
  simp only at h3
  rw [h3] at h1
  have e : ((v : Int) % 256) = ((v % 256 : Nat) : Int) := by omega
  rw [e]
  refine Eq.trans h1 ?_
  omega

set_option maxHeartbeats 400000 in
set_option maxRecDepth 4000 in
theorem c_octet_Num (l : List UInt8) (A : Option Addr) (c : Nat) (n : Int) (w : World) (h : InB w A c l) :
    Calls Tryd.prog 37 #[.slice A l.length c, .int .i64 n] w (RetS 1 bc 5 w (l ++ num n)) := by
  have hL := h.1
  have hC := h.2.1
  have hS := h.2.2.1
  have EB := elemB
  have H0 : Held w w.heap.size 5 1 (.slice A l.length l.length) l.length (l.flatMap bc) := Held.of_in bc_len (by omega) h
  go_enter Tryd.func37, Tryd.ntmps37
  have Hnum : Hid (l ++ numF 6 (clampN n) = l ++ num n) := by show _ = _; rw [num_def]
  have hlt0 := clampN_lt n
  have hle0 := clampN_le n
  have hci := clampN_int n
  go_wp2_with (fail)
  go_loopw [0, 5] (fun b v wr => ∃ (f vn : Nat) (acc : List UInt8), vn ≤ 1099511627776 ∧ Hid (vn < 128 ^ (f + 1)) ∧ acc.length + f ≤ l.length + 6 ∧ v = .int .i64 vn ∧ Hid (Held wr w.heap.size 5 1 b acc.length (acc.flatMap bc)) ∧ Hid (acc ++ numF f vn = l ++ num n) ∧ Below w.heap.size w wr)
    (fun _ v _ => (intOf v).toNat)
  case atStart => exact ⟨6, clampN n, l, hle0, hlt0, by omega, by rw [hci], H0, Hnum, (by repeat (first | exact Below.refl _ _ | refine Below.drew ?_ | refine Below.alloc ?_ (by first | omega | (simp; done) | (simp; omega)) _ | refine Below.setCell ?_ (by first | omega | (simp; done) | (simp; omega)) _ | refine Below.trans ?_ (Below.mono (by assumption) (by first | omega | (simp; done) | (simp; omega)))))⟩
  case round =>
    obtain ⟨f, vn, acc, hle, hlt, hlen, rfl, H, HN, hbl⟩ := hrel
    have hbz := hbl.size
    obtain ⟨A1, c1, rfl⟩ := H.out.shape
    by_cases hv : vn < 128
    · have HN' : acc ++ [UInt8.ofNat vn] = l ++ num n := by rw [← numF_lt hv]; exact HN.out
      have HF := Lib.hid HN'
      clear HN HN' Hnum hlt hlt0 hci h
      go_wp2_with ((at_builtin; refine Stop.out ?_))
      refine Stop.mk (wpList_appH _ rfl (.tmp 25) (.tmp 28) EB rfl w.heap.size (.slice A1 acc.length c1) acc.length (acc.flatMap bc) rfl (H.out.below ((Below.refl _ _).alloc (Nat.le_refl _) _)) _ 1 1 [.int .u8 vn] rfl (Src.new _ _ _ _ rfl) (by simp [Value.oneCell']) (by omega) (by omega) ?_ ?_)
      · simp only [World.size_alloc]; omega
      intro v2 w2 own2 hb2
      have hfin : Hid (acc.flatMap bc ++ [Value.int .u8 vn] = (l ++ num n).flatMap bc ∧ acc.length + 1 = (l ++ num n).length) := by
        show _ ∧ _
        rw [← HF.out]
        refine ⟨?_, by simp⟩
        rw [List.flatMap_append]
        simp [bc]; omega
      obtain ⟨e1, e2⟩ := hfin.out
      rw [e1, e2] at own2
      have O2 := Lib.hid own2
      clear own2 e1 e2
      go_wp2_with (fail)
      go_ret
      exact ⟨_, rfl, O2.out, Below.trans (b := wr) hbl (Below.trans (b := wr.alloc (.cells #[.int .u8 vn] 5)) (by repeat (first | exact Below.refl _ _ | refine Below.drew ?_ | refine Below.alloc ?_ (by first | omega | (simp; done) | (simp; omega)) _ | refine Below.setCell ?_ (by first | omega | (simp; done) | (simp; omega)) _ | refine Below.trans ?_ (Below.mono (by assumption) (by first | omega | (simp; done) | (simp; omega))))) hb2)⟩
    · obtain ⟨f', rfl⟩ : ∃ f', f = f' + 1 := by
        cases f with
        | zero => exact absurd hlt.out (by omega)
        | succ f => exact ⟨f, rfl⟩
      have hlt2 : Hid (vn / 128 < 128 ^ (f' + 1)) := Nat.div_lt_of_lt_mul (by have := hlt.out; rw [Nat.pow_succ 128 (f' + 1), Nat.mul_comm] at this; exact this)
      have hn2 := HN.out
      rw [numF_ge hv] at hn2
      have HN2 := Lib.hid hn2
      clear HN hn2 hlt hlt0 hci h Hnum
      have hor := or128 vn
      go_wp2_with ((at_builtin; refine Stop.out ?_))
      refine Stop.mk (wpList_appH _ rfl (.tmp 17) (.tmp 21) EB rfl w.heap.size (.slice A1 acc.length c1) acc.length (acc.flatMap bc) rfl (H.out.below ((Below.refl _ _).alloc (Nat.le_refl _) _)) _ 1 1 [.int .u8 ((vn % 128 + 128 : Nat) : Int)] rfl (Src.new _ _ _ _ rfl) (by simp [Value.oneCell']) (by omega) (by omega) ?_ ?_)
      · simp only [World.size_alloc]; omega
      intro v2 w2 own2 hb2
      have hfin : Hid (acc.flatMap bc ++ [Value.int .u8 ((vn % 128 + 128 : Nat) : Int)] = (acc ++ [UInt8.ofNat (vn % 128 + 128)]).flatMap bc ∧ acc.length + 1 = (acc ++ [UInt8.ofNat (vn % 128 + 128)]).length) := by
        show _ ∧ _
        refine ⟨?_, by simp⟩
        rw [List.flatMap_append]
        simp [bc]; omega
      obtain ⟨e1, e2⟩ := hfin.out
      rw [e1, e2] at own2
      have O2 := Lib.hid own2
      have hb3 : Below w.heap.size w w2 := Below.trans (b := wr) hbl (Below.trans (b := wr.alloc (.cells #[.int .u8 ((vn % 128 + 128 : Nat) : Int)] 5)) (by repeat (first | exact Below.refl _ _ | refine Below.drew ?_ | refine Below.alloc ?_ (by first | omega | (simp; done) | (simp; omega)) _ | refine Below.setCell ?_ (by first | omega | (simp; done) | (simp; omega)) _ | refine Below.trans ?_ (Below.mono (by assumption) (by first | omega | (simp; done) | (simp; omega))))) hb2)
      clear own2 e1 e2
      go_wp2_with (fail)
      go_roundw
      case rel =>
        refine ⟨f', vn / 128, acc ++ [UInt8.ofNat (vn % 128 + 128)], by omega, hlt2, by simp; omega, by go_num, .inl O2.out, ?_, hb3⟩
        show _ = _
        rw [← HN2.out]; simp
      case measure => simp [intOf]; omega
set_option maxHeartbeats 400000 in
set_option maxRecDepth 4000 in
theorem c_octet_Str (l : List UInt8) (A : Option Addr) (c : Nat) (s : List UInt8) (w : World) (h : InB w A c l) (hs : s.length ≤ 4294967000) :
    Calls Tryd.prog 152 #[.slice A l.length c, .string (str s)] w (RetS 1 bc 5 w (l ++ strB s)) := by
  have hL := h.1
  have hC := h.2.1
  have hS := h.2.2.1
  have EB := elemB
  go_enter Tryd.func152, Tryd.ntmps152
  go_wp2_with (first
    | (go_at_call 37; refine (c_octet_Num l A c _ _ h).mono ?_; rintro e w1 ⟨v1, rfl, own1, hb1⟩)
    | (at_builtin; refine Stop.out ?_))
  have hnl := num_len (s.length : Int)
  refine Stop.mk (wpList_appS _ rfl (.tmp 8) (.tmp 9) Tryd.underlying33 Tryd.underlying9 (by kernel_rfl) rfl w.heap.size _ _ _ rfl own1 s rfl (by simp only [List.length_append]; omega) hb1.size ?_)
  intro v2 w2 own2 _ hb2
  have hfin : Hid ((l ++ num s.length).flatMap bc ++ s.flatMap bc = (l ++ strB s).flatMap bc ∧ (l ++ num s.length).length + s.length = (l ++ strB s).length) := by
    show _ ∧ _
    refine ⟨?_, by simp [strB]; omega⟩
    rw [← List.flatMap_append]; simp [strB]
  obtain ⟨e1, e2⟩ := hfin.out
  rw [e1, e2] at own2
  have O2 := Lib.hid own2
  clear own2 e1 e2 own1
  go_wp2_with (fail)
  go_ret
  exact ⟨_, rfl, O2.out, hb1.trans hb2⟩
set_option maxHeartbeats 400000 in
set_option maxRecDepth 4000 in
theorem c_Clone_b (l : List UInt8) (A : Option Addr) (c : Nat) (w : World) (h : In 1 bc w A c l) :
    Calls Tryd.prog 36 #[.slice A l.length c] w (RetS 1 bc 5 w l) := by
  have hL := h.1
  have hC := h.2.1
  have hS := h.2.2.1
  have EB := elemB
  rcases A with _ | ad
  · have hl : l = [] := by
      rcases h.2.2.2 with h | ⟨b, off, hh, _⟩
      · exact h
      · cases hh
    subst hl
    clear h
    have ke := fun (w : World) (n c : Nat) => Lib.run_eql_slice_nil (P := Tryd.prog) w 33 _ none n c 0 0 Tryd.underlying33
    go_enter Tryd.func36, Tryd.ntmps36
    go_wp2_with (fail)
    go_ret
    exact ⟨_, rfl, World.ownsRow_nil _ _ _ _, Below.refl _ _⟩
  · have ke := fun (w : World) (n c : Nat) => Lib.run_eql_slice_nil (P := Tryd.prog) w 33 _ (some ad) n c 0 0 Tryd.underlying33
    go_enter Tryd.func36, Tryd.ntmps36
    go_wp2_with ((at_builtin; refine Stop.out ?_))
    refine Stop.mk (wpList_app _ rfl (.tmp 5) (.tmp 6) EB rfl w.heap.size (.slice (some ⟨w.heap.size, 0, none⟩) 0 0) 0 [] rfl (World.ownsRow_lit w #[] 0 (Nat.le_refl _) (by unfold maxLen; omega) (by simp)) (some ad) l.length c (l.flatMap bc) rfl (Src.of_in bc_len (by omega) (h.alloc _)) (bc_one _) (by omega) ?_ ?_)
    · simp only [World.size_alloc]; omega
    intro v2 w2 own2 _ hb2 _
    rw [Nat.zero_add, List.nil_append] at own2
    have hb3 : Below w.heap.size w w2 := Below.trans (b := w.alloc (.cells #[] 5)) (by repeat (first | exact Below.refl _ _ | refine Below.drew ?_ | refine Below.alloc ?_ (by first | omega | (simp; done) | (simp; omega)) _ | refine Below.setCell ?_ (by first | omega | (simp; done) | (simp; omega)) _ | refine Below.trans ?_ (Below.mono (by assumption) (by first | omega | (simp; done) | (simp; omega))))) hb2
    go_wp2_with (fail)
    go_ret
    exact ⟨_, rfl, own2, hb3⟩
end Go.Proofs.YtjhndilflcigiaaDoor
namespace Go.Proofs.YtjhndilflcigiaaDoor
open Go.RowKit

set_option maxHeartbeats 400000 in
theorem c_value_Check (x : Val) (w : World) (hs : x.s.length ≤ 9223372036854775807) : Calls Tryd.prog 143 #[x.val] w (RetV w (.bool x.ok)) := by
  unfold Val.val
  go_enter Tryd.func143, Tryd.ntmps143
  go_wp2
  all_goals (go_ret; refine RetV.bool ?_ (by repeat (first | exact Below.refl _ _ | refine Below.drew ?_ | refine Below.alloc ?_ (by first | omega | (simp; done) | (simp; omega)) _ | refine Below.setCell ?_ (by first | omega | (simp; done) | (simp; omega)) _ | refine Below.trans ?_ (Below.mono (by assumption) (by first | omega | (simp; done) | (simp; omega))))); simp_all [Val.ok]; try omega)
set_option maxHeartbeats 400000 in
theorem c_ref04_Check (x : Val) (w : World) (hs : x.s.length ≤ 9223372036854775807) : Calls Tryd.prog 139 #[x.val] w (RetV w (.bool x.ok)) := by
  unfold Val.val
  go_enter Tryd.func139, Tryd.ntmps139
  go_wp2
  all_goals (go_ret; refine RetV.bool ?_ (by repeat (first | exact Below.refl _ _ | refine Below.drew ?_ | refine Below.alloc ?_ (by first | omega | (simp; done) | (simp; omega)) _ | refine Below.setCell ?_ (by first | omega | (simp; done) | (simp; omega)) _ | refine Below.trans ?_ (Below.mono (by assumption) (by first | omega | (simp; done) | (simp; omega))))); simp_all [Val.ok]; try omega)
theorem Val.ok_kind {x : Val} (h : x.ok = true) : x.kind = 0 ∨ x.kind = 1 ∨ x.kind = 2 := by
  unfold Val.ok at h
  by_cases h0 : x.kind = 0
  · exact .inl h0
  · by_cases h1 : x.kind = 1
    · exact .inr (.inl h1)
    · by_cases h2 : x.kind = 2
      · exact .inr (.inr h2)
      · simp [h0, h1, h2] at h
theorem Val.ok_cases (x : Val) : (x.ok = false ∧ x.none = false) ∨ (x.ok = true ∧ x.none = true ∧ x.kind = 0) ∨ (x.ok = true ∧ x.none = false ∧ x.kind = 1) ∨ (x.ok = true ∧ x.none = false ∧ x.kind = 2) := by
  cases h : x.ok
  · simp only [true_and, Bool.false_eq_true, false_and, or_false]
    cases hn : x.none
    · rfl
    · unfold Val.none at hn; unfold Val.ok at h; simp_all
  · rcases Val.ok_kind h with hk | hk | hk <;> simp [Val.none_kind h, hk]
theorem Val.none_ok {x : Val} (h : x.none = true) : x.ok = true := by
  rcases Val.ok_cases x with ⟨h1, h2⟩ | ⟨h1, _⟩ | ⟨h1, _⟩ | ⟨h1, _⟩
  · rw [h] at h2; cases h2
  all_goals exact h1
end Go.Proofs.YtjhndilflcigiaaDoor
namespace Go.Proofs.YtjhndilflcigiaaDoor
open Go.RowKit

/-- A value's bytes. -/
def valB (x : Val) : List UInt8 := if x.ok then num x.kind ++ (if x.kind = 1 then num x.n else if x.kind = 2 then strB x.s else []) else []
theorem valB_none {x : Val} (h : x.ok = false) : valB x = [] := by unfold valB; rw [h]; rfl
theorem valB_0 {x : Val} (h : x.ok = true) (hk : x.kind = 0) : valB x = num x.kind := by unfold valB; rw [if_pos h, if_neg (by omega), if_neg (by omega), List.append_nil]
theorem valB_1 {x : Val} (h : x.ok = true) (hk : x.kind = 1) : valB x = num x.kind ++ num x.n := by unfold valB; rw [if_pos h, if_pos hk]
theorem valB_2 {x : Val} (h : x.ok = true) (hk : x.kind = 2) : valB x = num x.kind ++ strB x.s := by unfold valB; rw [if_pos h, if_neg (by omega), if_pos hk]
theorem Val.ok_len {x : Val} (h : x.ok = true) : x.s.length ≤ 24 := by
  unfold Val.ok at h
  by_cases h0 : x.kind = 0
  · simp [h0] at h; simp [h.2]
  · by_cases h1 : x.kind = 1
    · simp [h1] at h; simp [h.2]
    · by_cases h2 : x.kind = 2
      · simp [h2] at h; exact h.2
      · simp [h0, h1, h2] at h
theorem valB_len (x : Val) : (valB x).length ≤ 38 := by
  rcases Val.ok_cases x with ⟨h, _⟩ | ⟨h, _, hk⟩ | ⟨h, _, hk⟩ | ⟨h, _, hk⟩
  · rw [valB_none h]; simp
  · have := num_len x.kind; rw [valB_0 h hk]; omega
  · have := num_len x.kind; have := num_len x.n; rw [valB_1 h hk, List.length_append]; omega
  · have := num_len x.kind; have := num_len x.s.length; have := Val.ok_len h; rw [valB_2 h hk, List.length_append, strB, List.length_append]; omega

set_option maxHeartbeats 400000 in
set_option maxRecDepth 4000 in
theorem c_cardwire_PutValue (l : List UInt8) (A : Option Addr) (c : Nat) (x : Val) (w : World) (h : InB w A c l) (hl : l.length ≤ 1073741824) (hs : x.s.length ≤ 4294967000) :
    Calls Tryd.prog 97 #[.slice A l.length c, x.val] w (RetS 1 bc 5 w (l ++ valB x)) := by
  have hL := h.1
  have hC := h.2.1
  have hS := h.2.2.1
  have hn1 := (num_len x.kind).2
  have hn2 := (num_len x.n).2
  unfold Val.val
  rcases Val.ok_cases x with ⟨hok, _⟩ | ⟨hok, _, hk⟩ | ⟨hok, _, hk⟩ | ⟨hok, _, hk⟩
  · have H : Hid (l = l ++ valB x) := by rw [valB_none hok, List.append_nil]; rfl
    go_enter Tryd.func97, Tryd.ntmps97
    go_wp2_with (first
      | (go_at_call 143; refine (c_value_Check x _ (by omega)).mono ?_; rintro e w1 ⟨rfl, hb1⟩; have hz1 := hb1.size; simp only [World.size_alloc] at hz1; have q1 := fun o => hb1.cell (p := ⟨w.heap.size, o, none⟩) (by simp); have hlt1 : w.heap.size < w1.heap.size := by omega)
      | (go_at_call 36; refine (c_Clone_b l A c _ (h.below (by repeat (first | exact Below.refl _ _ | refine Below.drew ?_ | refine Below.alloc ?_ (by first | omega | (simp; done) | (simp; omega)) _ | refine Below.setCell ?_ (by first | omega | (simp; done) | (simp; omega)) _ | refine Below.trans ?_ (Below.mono (by assumption) (by first | omega | (simp; done) | (simp; omega))))))).mono ?_; rintro e w2 ⟨v2, rfl, own2, hb2⟩))
    go_ret
    exact RetS.of own2 (by omega) H.out (by repeat (first | exact Below.refl _ _ | refine Below.drew ?_ | refine Below.alloc ?_ (by first | omega | (simp; done) | (simp; omega)) _ | refine Below.setCell ?_ (by first | omega | (simp; done) | (simp; omega)) _ | refine Below.trans ?_ (Below.mono (by assumption) (by first | omega | (simp; done) | (simp; omega)))))
  · have H : Hid (l ++ num x.kind = l ++ valB x) := by rw [valB_0 hok hk]; rfl
    obtain ⟨k, n, s⟩ := x
    obtain rfl : k = 0 := hk
    simp only at *
    go_enter Tryd.func97, Tryd.ntmps97
    go_wp2_with (first
      | (go_at_call 143; refine (c_value_Check ⟨0, n, s⟩ _ (by have := hs; simp at this ⊢; omega)).mono ?_; rintro e w1 ⟨rfl, hb1⟩; have hz1 := hb1.size; simp only [World.size_alloc] at hz1; have q1 := fun o => hb1.cell (p := ⟨w.heap.size, o, none⟩) (by simp); have hlt1 : w.heap.size < w1.heap.size := by omega)
      | (go_at_call 37; refine (c_octet_Num l A c _ _ (h.below (by repeat (first | exact Below.refl _ _ | refine Below.drew ?_ | refine Below.alloc ?_ (by first | omega | (simp; done) | (simp; omega)) _ | refine Below.setCell ?_ (by first | omega | (simp; done) | (simp; omega)) _ | refine Below.trans ?_ (Below.mono (by assumption) (by first | omega | (simp; done) | (simp; omega))))))).mono ?_; rintro e w2 ⟨v2, rfl, own2, hb2⟩; have q2 := fun o => hb2.cell (p := ⟨w.heap.size, o, none⟩) (by omega)))
    go_ret
    exact RetS.of own2 (by omega) H.out (by repeat (first | exact Below.refl _ _ | refine Below.drew ?_ | refine Below.alloc ?_ (by first | omega | (simp; done) | (simp; omega)) _ | refine Below.setCell ?_ (by first | omega | (simp; done) | (simp; omega)) _ | refine Below.trans ?_ (Below.mono (by assumption) (by first | omega | (simp; done) | (simp; omega)))))
  · have H : Hid (l ++ num x.kind ++ num x.n = l ++ valB x) := by rw [valB_1 hok hk, List.append_assoc]; rfl
    obtain ⟨k, n, s⟩ := x
    obtain rfl : k = 1 := hk
    simp only at *
    go_enter Tryd.func97, Tryd.ntmps97
    go_wp2_with (first
      | (go_at_call 143; refine (c_value_Check ⟨1, n, s⟩ _ (by have := hs; simp at this ⊢; omega)).mono ?_; rintro e w1 ⟨rfl, hb1⟩; have hz1 := hb1.size; simp only [World.size_alloc] at hz1; have q1 := fun o => hb1.cell (p := ⟨w.heap.size, o, none⟩) (by simp); have hlt1 : w.heap.size < w1.heap.size := by omega)
      | (go_at_call 37; refine (c_octet_Num l2 A2 c2 _ _ in2).mono ?_; rintro e w3 ⟨v3, rfl, own3, hb3⟩)
      | (go_at_call 37; refine (c_octet_Num l A c _ _ (h.below (by repeat (first | exact Below.refl _ _ | refine Below.drew ?_ | refine Below.alloc ?_ (by first | omega | (simp; done) | (simp; omega)) _ | refine Below.setCell ?_ (by first | omega | (simp; done) | (simp; omega)) _ | refine Below.trans ?_ (Below.mono (by assumption) (by first | omega | (simp; done) | (simp; omega))))))).mono ?_; rintro e w2 ⟨v2, rfl, own2, hb2⟩; have hz2 := hb2.size; have q2 := fun o => hb2.cell (p := ⟨w.heap.size, o, none⟩) (by omega); obtain ⟨l2, A2, c2, H2, hl2, rfl, in2, own2'⟩ := own_open bc_len own2 (l.length + 7) (by simp only [List.length_append]; omega) (by omega); clear own2))
    go_ret
    exact RetS.of own3 (by omega) (by rw [H2.out]; exact H.out) (by repeat (first | exact Below.refl _ _ | refine Below.drew ?_ | refine Below.alloc ?_ (by first | omega | (simp; done) | (simp; omega)) _ | refine Below.setCell ?_ (by first | omega | (simp; done) | (simp; omega)) _ | refine Below.trans ?_ (Below.mono (by assumption) (by first | omega | (simp; done) | (simp; omega)))))
  · have H : Hid (l ++ num x.kind ++ strB x.s = l ++ valB x) := by rw [valB_2 hok hk, List.append_assoc]; rfl
    obtain ⟨k, n, s⟩ := x
    obtain rfl : k = 2 := hk
    simp only at *
    go_enter Tryd.func97, Tryd.ntmps97
    go_wp2_with (first
      | (go_at_call 143; refine (c_value_Check ⟨2, n, s⟩ _ (by have := hs; simp at this ⊢; omega)).mono ?_; rintro e w1 ⟨rfl, hb1⟩; have hz1 := hb1.size; simp only [World.size_alloc] at hz1; have q1 := fun o => hb1.cell (p := ⟨w.heap.size, o, none⟩) (by simp); have hlt1 : w.heap.size < w1.heap.size := by omega)
      | (go_at_call 37; refine (c_octet_Num l A c _ _ (h.below (by repeat (first | exact Below.refl _ _ | refine Below.drew ?_ | refine Below.alloc ?_ (by first | omega | (simp; done) | (simp; omega)) _ | refine Below.setCell ?_ (by first | omega | (simp; done) | (simp; omega)) _ | refine Below.trans ?_ (Below.mono (by assumption) (by first | omega | (simp; done) | (simp; omega))))))).mono ?_; rintro e w2 ⟨v2, rfl, own2, hb2⟩; have hz2 := hb2.size; have q2 := fun o => hb2.cell (p := ⟨w.heap.size, o, none⟩) (by omega); obtain ⟨l2, A2, c2, H2, hl2, rfl, in2, own2'⟩ := own_open bc_len own2 (l.length + 7) (by simp only [List.length_append]; omega) (by omega); clear own2)
      | (go_at_call 152; refine (c_octet_Str l2 A2 c2 _ _ in2 (by omega)).mono ?_; rintro e w3 ⟨v3, rfl, own3, hb3⟩))
    go_ret
    exact RetS.of own3 (by omega) (by rw [H2.out]; exact H.out) (by repeat (first | exact Below.refl _ _ | refine Below.drew ?_ | refine Below.alloc ?_ (by first | omega | (simp; done) | (simp; omega)) _ | refine Below.setCell ?_ (by first | omega | (simp; done) | (simp; omega)) _ | refine Below.trans ?_ (Below.mono (by assumption) (by first | omega | (simp; done) | (simp; omega)))))
end Go.Proofs.YtjhndilflcigiaaDoor
