/-
  Lemmas (walks and plain laws), in one text.
-/
import Derived.Test.YtbidnflcbgnckaaPt1
import Derived.Test.YtbidnflcbgnckaaPt2
import Derived.Carry
import Derived.Deep.Fields
import Derived.Deep.Slices
import Derived.JoinedCond
import Derived.OpenShut
import Derived.ProofKit
import Derived.Test.YtbidnflcbgnckaaRows
import Derived.Lib.AppendZeros
namespace Go.Proofs.Ytbidnflcbgnckaa
open Go.RowKit

theorem Kept.grown {p : Nat} {w w' : World} (h : Kept (some p) w.heap.size w w') : w.grownBy w' (some p) := ⟨h.os, h.tape, h.output, h.size, fun k hk hne => h.block k hk (fun e => hne e.symm)⟩
def Wd.cells (x : Wd) : List Value := [.int .i64 x.kind, .int .i64 x.n, .int .i64 x.pos, .string (str x.s)]
theorem Wd.cells_len (x : Wd) : (Wd.cells x).length = 4 := rfl
theorem wds_one (l : List Wd) : ∀ u ∈ l.flatMap Wd.cells, u.oneCell' = true := by
  intro u hu
  obtain ⟨x, _, hx⟩ := List.mem_flatMap.1 hu
  simp only [Wd.cells, List.mem_cons, List.not_mem_nil, or_false] at hx
  rcases hx with rfl | rfl | rfl | rfl <;> rfl
theorem elemW : Elem Try.prog 42 65 4 40 := Elem.mk' (z := .agg (wdA 0 0 0 [])) Try.underlying42 (by kernel_rfl) rfl (by omega) (by omega)
/-- The words of a text, and the place of what is wrong. -/
def lexS (s : List UInt8) : List Wd × Option Nat := lexF s.length s 0
/-- How far a text has been cut. -/
def LexAt (s : List UInt8) (acc : List Wd) (k : Nat) : Prop := lexS s = (acc ++ (lexF (s.drop k).length (s.drop k) k).1, (lexF (s.drop k).length (s.drop k) k).2) ∧ k ≤ s.length ∧ acc.length ≤ k
theorem LexAt.start (s : List UInt8) : LexAt s [] 0 := ⟨by simp [lexS], by omega, by simp⟩
theorem LexAt.done {s : List UInt8} {acc : List Wd} (h : LexAt s acc s.length) : lexS s = (acc, none) := by rw [h.1, List.drop_length]; simp [lexF]
theorem LexAt.blank {s : List UInt8} {acc : List Wd} {k : Nat} (h : LexAt s acc k) (hk : k < s.length) (hc : s[k].toNat = 32) : LexAt s acc (k + 1) := by
  have e : s[k] = 32 := UInt8.toNat_inj.1 hc
  refine ⟨?_, by omega, by have := h.2.2; omega⟩
  rw [h.1, List.drop_eq_getElem_cons hk, List.length_cons, lexF, if_pos e]
theorem LexAt.bad {s : List UInt8} {acc : List Wd} {k : Nat} (h : LexAt s acc k) (hk : k < s.length) (hc : s[k].toNat ≠ 32) (hf : fst (s.drop k) = none) : (lexS s).2 = some k := by
  have e : s[k] ≠ 32 := fun e => hc (by rw [e]; rfl)
  rw [h.1, List.drop_eq_getElem_cons hk, List.length_cons, lexF, if_neg e]
  rw [List.drop_eq_getElem_cons hk] at hf
  rw [hf]
theorem LexAt.word {s : List UInt8} {acc : List Wd} {k : Nat} {x : Fst} (h : LexAt s acc k) (hk : k < s.length) (hc : s[k].toNat ≠ 32) (hf : fst (s.drop k) = some x) : LexAt s (acc ++ [⟨x.kind, x.n, k, x.s⟩]) (k + x.len) ∧ 0 < x.len ∧ k + x.len ≤ s.length := by
  have e : s[k] ≠ 32 := fun e => hc (by rw [e]; rfl)
  obtain ⟨_, h1, h2⟩ := fst_may hf
  rw [List.length_drop] at h2
  have hd : (s.drop k).length = s.length - k := List.length_drop
  refine ⟨⟨?_, by omega, by have := h.2.2; simp; omega⟩, h1, by omega⟩
  have hx := hf
  rw [List.drop_eq_getElem_cons hk] at hx
  rw [h.1, List.drop_eq_getElem_cons hk, List.length_cons, lexF, if_neg e, hx]
  simp only
  rw [← List.drop_eq_getElem_cons hk, List.drop_drop, lexF_more _ _ _ (by simp only [List.length_drop]; omega)]
  simp
/-- The end of All. -/
def RetAll (wt : TypeId) (w : World) (s : List UInt8) (e : Ending) (w' : World) : Prop :=
  Below w.heap.size w w' ∧ ((1000 < s.length ∧ e = .returned (.tuple #[.slice none 0 0, .int .i64 0, .int .i64 4])) ∨
    (s.length ≤ 1000 ∧ ((∃ k : Nat, (lexS s).2 = some k ∧ e = .returned (.tuple #[.slice none 0 0, .int .i64 k, .int .i64 3])) ∨
      (∃ v ws, lexS s = (ws, none) ∧ e = .returned (.tuple #[v, .int .i64 0, .int .i64 0]) ∧ w'.ownsRow w.heap.size wt 4 v ws.length (ws.flatMap Wd.cells)))))
set_option maxHeartbeats 400000 in
theorem lex_All_long (s : List UInt8) (w : World) (h : 1000 < s.length) (hs : s.length ≤ 9223372036854775807) : Calls Try.prog 12 #[.string (str s)] w (RetAll 65 w s) := by
  have d1 : decide ((1000 : Int) < (s.length : Int)) = true := by rw [decide_eq_true_iff]; omega
  go_enter Try.func12, Try.ntmps12
  go_wp2_with (fail)
  go_ret3
  exact ⟨(by repeat (first | exact Below.refl _ _ | refine Below.drew ?_ | refine Below.alloc ?_ (by first | omega | (simp; done) | (simp; omega)) _ | refine Below.setCell ?_ (by first | omega | (simp; done) | (simp; omega)) _ | refine Below.trans ?_ (Below.mono (by assumption) (by first | omega | (simp; done) | (simp; omega))))), .inl ⟨h, rfl⟩⟩
set_option maxHeartbeats 4000000 in
set_option maxRecDepth 4000 in
theorem lex_All_in (s : List UInt8) (w : World) (hs : s.length ≤ 1000) : Calls Try.prog 12 #[.string (str s)] w (RetAll 65 w s) := by
  have d1 : decide ((1000 : Int) < (s.length : Int)) = false := by rw [decide_eq_false_iff_not]; omega
  go_enter Try.func12, Try.ntmps12
  go_wp2_with (fail)
  go_loopw [5, 6] (fun v i wr => ∃ (k : Nat) (acc : List Wd) (v0 : Value), v = v0 ∧ i = .int .i64 k ∧ Hid (LexAt s acc k) ∧ Hid (wr.ownsRow w.heap.size 65 4 v acc.length (acc.flatMap Wd.cells)) ∧ Hid (Below w.heap.size w wr))
    (fun _ i _ => s.length - (intOf i).toNat)
  case atStart => exact ⟨0, [], _, rfl, rfl, LexAt.start s, World.ownsRow_nil _ _ _ _, Below.refl _ _⟩
  case round =>
    obtain ⟨k, acc, v0, rfl, rfl, H, O, B1⟩ := hrel
    obtain ⟨A9, c9, rfl, -, -⟩ := own_form O.out
    have hz := B1.out.size
    have hkl := H.out.2.1
    have hal := H.out.2.2
    by_cases hlt : k < s.length
    · have dl : decide (k < s.length) = true := by simpa using hlt
      by_cases g1 : s[k].toNat = 32
      · have j1 : ((s[k].toNat : Int) == 32) = true := by rw [beq_iff_eq]; omega
        have H2 := Lib.hid (H.out.blank hlt g1)
        clear H g1
        go_wp2_with (fail)
        go_roundw
        case rel => exact ⟨k + 1, acc, _, rfl, by go_num, H2.out, O.out, B1.out⟩
        case measure => simp [intOf]; omega
      · have j1 : ((s[k].toNat : Int) == 32) = false := by rw [beq_eq_false_iff_ne]; omega
        have HC := Lib.hid g1
        clear g1
        have CF := Lib.hid (fun w' => show Calls Try.prog 24 #[.string (str (s.drop k))] w' (RetV w' (fstT (fst (s.drop k)) 0 0)) by rw [List.drop_eq_getElem_cons hlt]; exact c_lex_first _ _ w' (by rw [List.length_drop]; omega))
        have hx : List.take (s.length - k) (List.drop k s) = List.drop k s := List.take_of_length_le (by rw [List.length_drop]; omega)
        cases hf : fst (s.drop k) with
        | none =>
          rw [hf] at CF
          have H2 := Lib.hid (H.out.bad hlt HC.out hf)
          clear hf H
          go_wp2_with (fail)
          refine (CF.out _).mono ?_
          rintro e w1 ⟨rfl, hb1⟩
          replace B1 := Lib.hid (B1.out.trans (hb1.mono hz))
          clear hb1 hz
          unfold fstT
          go_wp2_with (with_reducible refine stS 65 (.tmp 7) (.tmp 27) rfl rfl ?_)
          refine Stop.mk (wsB rfl _ _ _ rfl w1.heap.size (wdA 0 0 0 []) rfl rfl _ (Blk.new _ _ _) strWd rfl rfl (by simp [Value.oneCell']) ?_)
          intro w3 hb3 hk3
          replace B1 := Lib.hid (B1.out.trans ((fresh_below hk3).mono B1.out.size))
          clear hb3 hk3
          go_wp2_with (fail)
          go_ret3
          exact ⟨B1.out, .inr ⟨hs, .inl ⟨k, H2.out, rfl⟩⟩⟩
        | some x =>
          rw [hf] at CF
          have H2 := Lib.hid (H.out.word hlt HC.out hf)
          have hl0 := H2.out.2.1
          have hl1 := H2.out.2.2
          obtain ⟨xk, xn, xs, xl⟩ := x
          have j2 : ((xl : Int) == 0) = false := by rw [beq_eq_false_iff_ne]; simp only at hl0; omega
          clear hf H
          go_wp2_with (fail)
          refine (CF.out _).mono ?_
          rintro e w1 ⟨rfl, hb1⟩
          replace O := Lib.hid (own_below O.out hb1)
          replace B1 := Lib.hid (B1.out.trans (hb1.mono hz))
          clear hb1 hz
          unfold fstT
          go_wp2_with (with_reducible refine stS 65 (.tmp 7) (.tmp 27) rfl rfl ?_)
          refine Stop.mk (wsB rfl _ _ _ rfl w1.heap.size (wdA xk xn 0 xs) rfl rfl _ (Blk.new _ _ _) strWd rfl rfl (by simp [Value.oneCell']) ?_)
          intro w3 hb3 hk3
          have hop := Lib.hid (show ∀ b, (Value.slice A9 acc.length c9).ownBlock = some b → b ≠ w1.heap.size from fun b hb => by have := (O.out.lt b hb).2; omega)
          replace O := Lib.hid (own_below O.out (fresh_below hk3))
          have hpw := B1.out.size
          replace B1 := Lib.hid (B1.out.trans ((fresh_below hk3).mono B1.out.size))
          obtain ⟨p, hp⟩ : ∃ p, p = w1.heap.size := ⟨_, rfl⟩
          rw [← hp] at hb3 hop hpw ⊢
          have BP := Lib.hid hb3
          have c2 := hb3.cell (show (wdA xk xn 0 xs)[2]? = _ from rfl)
          have ff := fun i => hb3.frozen i
          have hpl := hb3.lt
          have BP2 := Lib.hid (show Blk (w3.setCell ⟨p, 2, none⟩ (.int .i64 k)) p (wdA xk xn k xs) from hb3.store 2 (.int .i64 k))
          have B2 := Lib.hid (B1.out.trans ((kept_set w3 p 2 (.int .i64 k)).oneB B1.out.size hpw))
          have O2 := Lib.hid (own_kept_lt O.out (kept_set w3 p 2 (.int .i64 k)).grown hop.out)
          clear hb3 hk3 hp
          go_wp2_with (with_reducible refine stop_load 65 (.tmp 7) rfl rfl ?_)
          refine Stop.mk (wpList_loadB rfl _ _ rfl p rfl _ BP2.out strWd rfl ?_)
          go_wp2_with ((at_builtin; refine Stop.out ?_))
          refine Stop.mk (wpList_app _ rfl _ _ elemW rfl w.heap.size (.slice A9 acc.length c9) acc.length _ rfl (own_below O2.out ((Below.refl _ _).alloc (Nat.le_refl _) _)) _ 1 1 (Wd.cells ⟨xk, xn, k, xs⟩) rfl (by
            have h := Src.new (w3.setCell ⟨p, 2, none⟩ (.int .i64 k)) (Wd.cells ⟨xk, xn, k, xs⟩) 65 4 rfl
            have e : (w3.setCell ⟨p, 2, none⟩ (Value.int .i64 (k : Int))).heap.size = w3.heap.size := by simp [World.setCell]
            rw [e] at h
            exact h) (by simpa using wds_one [⟨xk, xn, k, xs⟩]) (by omega) (by have := B2.out.size; simp at this ⊢; omega) ?_)
          intro v4 w4 own4 _ hb4 _
          have B4 := Lib.hid (B2.out.trans ((((Below.refl _ _).alloc B2.out.size _)).trans hb4))
          have O4 := Lib.hid (show w4.ownsRow w.heap.size 65 4 v4 ((acc ++ [(⟨xk, xn, k, xs⟩ : Wd)]).length) ((acc ++ [(⟨xk, xn, k, xs⟩ : Wd)]).flatMap Wd.cells) by simpa using own4)
          have H3 := Lib.hid H2.out.1
          have hl0' : 0 < xl := hl0
          have hl1' : k + xl ≤ s.length := hl1
          clear own4 hb4 c2 ff
          go_wp2_with (fail)
          go_roundw
          case rel => exact ⟨k + xl, _, _, rfl, by go_num, H3.out, O4.out, B4.out⟩
          case measure => simp [intOf]; omega
    · have dl : decide (k < s.length) = false := by simpa using hlt
      obtain rfl : k = s.length := by omega
      have HD := Lib.hid H.out.done
      clear H hlt
      go_wp2_with (fail)
      go_ret3
      exact ⟨B1.out, .inr ⟨hs, .inr ⟨_, acc, HD.out, rfl, O.out⟩⟩⟩
theorem c_lex_All (s : List UInt8) (w : World) (hs : s.length ≤ 9223372036854775807) : Calls Try.prog 12 #[.string (str s)] w (RetAll 65 w s) := by
  by_cases h : 1000 < s.length
  · exact lex_All_long s w h hs
  · exact lex_All_in s w (by omega)
end Go.Proofs.Ytbidnflcbgnckaa
namespace Go.Proofs.Ytbidnflcbgnckaa
open Go.ChangeShapes Go.WideShapes Go.ChangeAt Go.RowKit
open Go.ChangeMaps (open_string shut_string)

theorem ownKnob_none : ownKnob Try.prog.godebug = none := by kernel_rfl
theorem laidOut : laidOutB Try.prog = true := by kernel_rfl
section
variable {H : Type} {enc : TypeId × Value → H} {P : Program} {W W' : World}
/-- What was read before reads so behind, if nothing that was there has turned. -/
theorem trodAll_stays (hl : laidOutB P = true) {sp : Nat → Bool} (hb : Below W.heap.size W W') : ∀ (ts : List TypeId) {vs : List Value} {ds : List (DataW H)} {ps : List MemPlace},
    (∀ t ∈ ts, P.readableRec t = true ∧ t < P.types.size) → DataW.TrodAll enc P W 0 (fun _ => true) true ts vs ds ps → (∀ x ∈ ps, x.block < W.heap.size) → (∀ x ∈ ps, sp x.block = true) → DataW.TrodAll enc P W' 0 sp true ts vs ds ps
  | [], vs, ds, ps, _, h, _, _ => by obtain ⟨rfl, rfl, rfl⟩ := trodAll_nil h; exact trodAll_mk0
  | t :: ts, vs, ds, ps, ht, h, hlt, hsp => by
    obtain ⟨v0, vs0, d0, ds0, p0, q0, rfl, rfl, rfl, h0, r0⟩ := trodAll_cons h
    have h1 := ht t (List.mem_cons_self ..)
    refine trodAll_cons_mk (WideElems.Trod_stays hl h1.1 h1.2 h0 (fun x hx => hb.same (hlt x (List.mem_append_left _ hx))) (fun x hx => hsp x (List.mem_append_left _ hx))) ?_
    exact trodAll_stays hl hb ts (fun t' ht' => ht t' (List.mem_cons_of_mem _ ht')) r0 (fun x hx => hlt x (List.mem_append_right _ hx)) (fun x hx => hsp x (List.mem_append_right _ hx))
/-- The post of a law. -/
theorem law_post {f : Func} {s : ChangeSpec} {tb : TypeId} (hl : laidOutB P = true) (htb : P.underlying tb = some .bool) (hf : f.resultTypes = #[tb]) (hvars : s.vars = [])
    (hts : (f.params.toList.all fun t => P.readableRec t && decide (t < P.types.size)) = true) {args : Array Value} {ds gs : List (DataW H)} {before : List MemPlace}
    (hW : DataW.Whole enc P f.params.toList s.vars false W args.toList ds gs before) (hfn : s.fn H (ds ++ gs) = { results := [.lit (.bool true)], args := ds }) (hb : Below W.heap.size W W') :
    s.post enc P f false true false false W args (.bool true) W' := by
  have hlt : ∀ p ∈ before, p.block < W.heap.size := fun p hp => hW.lt p hp
  have hW0 := hW
  obtain ⟨p, q, hA, hV, rfl, hfz, hnd⟩ := hW
  rw [hvars] at hV
  obtain ⟨rfl, rfl⟩ := trodVars_none hV
  simp only [List.append_nil] at hlt hW0
  have hargs : ∀ sp : Nat → Bool, (∀ x ∈ p, sp x.block = true) → DataW.TrodAll enc P W' 0 sp true f.params.toList args.toList ds p :=
    fun sp hsp => trodAll_stays hl hb _ (fun t ht => by have := List.all_eq_true.1 hts t ht; simpa using this) hA hlt hsp
  have hres : ∀ (b : Nat) (sp : Nat → Bool) (hd : Bool), DataW.TrodAll enc P W' b sp hd f.resultTypes.toList ((Value.bool true).resultList f.resultTypes.size) [.lit (.bool true)] [] := by
    intro b sp hd
    rw [hf]
    exact trodAll_cons_mk (shut_bool htb true) trodAll_mk0
  have hold : ∀ x ∈ p, (fun b => decide (b < W.heap.size)) x.block = true := fun x hx => by simpa using hlt x hx
  refine ⟨ds, [], p, [], p, [], hW0, ?_, ?_, ?_, World.keptBut_mono (fun x hx => ⟨hx, ?_⟩) (hb.frame (· ∈ p)), fun h => by cases h⟩
  · rw [show s.fn H (ds ++ []) = _ from hfn]; exact hres _ _ _
  · rw [show s.fn H (ds ++ []) = _ from hfn]; exact hargs _ hold
  · rw [show s.fn H (ds ++ []) = _ from hfn, hvars]; rfl
  · exact Or.inr (by simpa using hx)
end
end Go.Proofs.Ytbidnflcbgnckaa
namespace Go.Proofs.Ytbidnflcbgnckaa
open Go.ChangeShapes Go.WideShapes Go.ChangeAt Go.RowKit Go.Deep
open Go.ChangeMaps (open_string shut_string)

theorem list_of {α : Type} {Q : Nat → α → Prop} : ∀ n, (∀ i, i < n → ∃ x, Q i x) → ∃ l : List α, l.length = n ∧ ∀ i (h : i < l.length), Q i l[i]
  | 0, _ => ⟨[], rfl, fun i h => by simp at h⟩
  | n + 1, h => by
    obtain ⟨l, hl, hq⟩ := list_of n (fun i hi => h i (by omega))
    obtain ⟨x, hx⟩ := h n (by omega)
    refine ⟨l ++ [x], by simp [hl], fun i hi => ?_⟩
    by_cases hin : i < l.length
    · rw [List.getElem_append_left hin]; exact hq i hin
    · have : i = n := by simp at hi; omega
      subst this
      rw [List.getElem_append_right (by omega)]
      simpa using hx
theorem cell_spot {w : World} {a : Addr} {v : Value} (h : w.cell? a = some v) : a.spot = none := by
  unfold World.cell? at h
  split at h
  · split at h
    · cases h
    · rename_i hs; simpa using hs
  · cases h
def I64 (n : Int) : Prop := -9223372036854775808 ≤ n ∧ n ≤ 9223372036854775807
end Go.Proofs.Ytbidnflcbgnckaa
namespace Go.Proofs.Ytbidnflcbgnckaa
open Go.ChangeShapes Go.WideShapes Go.ChangeAt Go.RowKit Go.Deep
open Go.ChangeMaps (open_string shut_string)

def Val.wf (x : Val) : Prop := I64 x.kind ∧ I64 x.n ∧ x.s.length ≤ 9223372036854775807
section
variable {H : Type} {enc : TypeId × Value → H} {w : World} {base : Nat} {spare : Nat → Bool} {held : Bool}
end
end Go.Proofs.Ytbidnflcbgnckaa
namespace Go.Proofs.Ytbidnflcbgnckaa
open Go.ChangeShapes Go.WideShapes Go.ChangeAt Go.RowKit Go.Deep
open Go.ChangeMaps (open_string shut_string)

def Node.wf (x : Node) : Prop := I64 x.op ∧ I64 x.n ∧ x.v.wf
section
variable {H : Type} {enc : TypeId × Value → H} {w : World} {base : Nat} {spare : Nat → Bool} {held : Bool}
end
end Go.Proofs.Ytbidnflcbgnckaa
namespace Go.Proofs.Ytbidnflcbgnckaa
open Go.RowKit

theorem own_in5 {w : World} {base : Nat} {et : TypeId} {v : Value} {l : List Node} (h : w.ownsRow base et 5 v l.length (l.flatMap Node.cells)) (hn : 1 ≤ l.length) (hs : l.length ≤ 4294967296) : ∃ g c, v = .slice (some ⟨g, 0, none⟩) l.length c ∧ base ≤ g ∧ InN w (some ⟨g, 0, none⟩) c l := by
  obtain ⟨g, c, rfl, -, -, hg, -⟩ := own_form' h (by omega)
  obtain ⟨A', c', hv, hin⟩ := In.of_own Node.cells_len h hs
  injection hv with e1 _ e2
  subst e1 e2
  exact ⟨g, c, rfl, hg, hin⟩
theorem two_blocks (w w3 : World) (a b : Array Value) (t1 t2 : TypeId) (h : w3 = (w.alloc (.cells a t1)).alloc (.cells b t2)) :
    Below w.heap.size w w3 ∧ Blk w3 w.heap.size a ∧ Blk w3 (w.heap.size + 1) b := by
  subst h
  have k1 : Below (w.heap.size + 1) (w.alloc (.cells a t1)) ((w.alloc (.cells a t1)).alloc (.cells b t2)) := (Below.refl _ _).alloc (by simp) _
  have b1 := Blk.new w t1 a
  have b2 := Blk.new (w.alloc (.cells a t1)) t2 b
  simp only [World.size_alloc] at b2
  exact ⟨(by repeat (first | exact Below.refl _ _ | refine Below.drew ?_ | refine Below.alloc ?_ (by first | omega | (simp; done) | (simp; omega)) _ | refine Below.setCell ?_ (by first | omega | (simp; done) | (simp; omega)) _ | refine Below.trans ?_ (Below.mono (by assumption) (by first | omega | (simp; done) | (simp; omega))))), b1.below k1 (by omega), b2⟩
/-- An owned slice reads as a list, and lies in a block of the call's own. -/
theorem own_at {α : Type} {k : Nat} {cs : α → List Value} {w : World} {base : Nat} {e : TypeId} {v : Value} {l : List α} (hk : ∀ x, (cs x).length = k) (h : w.ownsRow base e k v l.length (l.flatMap cs)) (hs : l.length ≤ 4294967296) : ∃ A c, v = .slice A l.length c ∧ In k cs w A c l ∧ ∀ ad, A = some ad → base ≤ ad.block ∧ ad.block < w.heap.size := by
  obtain ⟨A, c, rfl, hI⟩ := In.of_own hk h hs
  refine ⟨A, c, rfl, hI, ?_⟩
  rintro ad rfl
  rcases h.2 with ⟨e, -⟩ | ⟨g, cap, cur, e, hg, hh, -⟩
  · cases e
  · injection e with e
    injection e with e
    subst e
    refine ⟨hg, ?_⟩
    rcases Nat.lt_or_ge g w.heap.size with hlt | hge
    · exact hlt
    · rw [Array.getElem?_eq_none hge] at hh; cases hh
end Go.Proofs.Ytbidnflcbgnckaa
namespace Go.Proofs.Ytbidnflcbgnckaa
open Go.RowKit

theorem words_elem : Try.prog.underlying 42 = some (.slice (Try.prog.elem 42)) := by kernel_rfl
theorem word_size (x : World) : (sizeOf (Try.prog.elem 42)).run Try.prog x = .ok 4 x := by kernel_rfl
theorem strW : Str Try.prog 65 4 := ⟨⟨_, Try.underlying65, rfl⟩, by kernel_rfl⟩
def cutW (A : Option Addr) (c : Nat) : Option Addr := if c = 1 then A else A.map (·.add 4)
theorem tailW_run (A : Option Addr) (c len : Nat) (hn : 1 ≤ len) (_hc : len ≤ c) (x : World) :
    (Instr.slice 42 (.slice A len c) (some (.int .i64 1)) none none).run Try.prog x = .ok (.slice (cutW A c) (len - 1) (c - 1)) x := by
  have hr := run_slice_l (P := Try.prog) (w := x) 42 A len c words_elem .i64 1 (by omega) (by omega)
  rw [hr, word_size]
  simp only [Result.andThen, sliced]
  rfl
theorem tailW_in {w : World} {A : Option Addr} {c : Nat} {x : Wd} {l : List Wd} (h : In 4 Wd.cells w A c (x :: l)) : In 4 Wd.cells w (cutW A c) (c - 1) l := by
  have hc := h.1
  have h2 := h.2.1
  rw [List.length_cons] at hc
  unfold cutW
  rcases Nat.eq_zero_or_pos l.length with h0 | h0
  · rw [List.eq_nil_of_length_eq_zero h0]
    exact In.nil (by omega)
  · rw [if_neg (by omega)]
    obtain ⟨b, off, rfl, hb, hrow⟩ := h.at (i := 1) (by rw [List.length_cons]; omega)
    have := h.sub (i := 1) (j := l.length + 1) (by omega) (by simp) ⟨hb, hrow⟩
    simpa [add_lit'] using this
/-- The reader at block b: the words that are left, the text's end. -/
def Rdr (w : World) (b : Nat) (N : Int) (ws : List Wd) : Prop := ∃ A c, Blk w b #[.slice A ws.length c, .int .i64 N] ∧ In 4 Wd.cells w A c ws ∧ ∀ ad, A = some ad → ad.block ≠ b
theorem Rdr.lt {w : World} {b : Nat} {N : Int} {ws : List Wd} (h : Rdr w b N ws) : b < w.heap.size := by obtain ⟨A, c, h1, -⟩ := h; exact h1.lt
theorem Rdr.below {w w' : World} {b : Nat} {N : Int} {ws : List Wd} (h : Rdr w b N ws) (k : Below w.heap.size w w') : Rdr w' b N ws := by
  obtain ⟨A, c, h1, h2, h3⟩ := h; exact ⟨A, c, h1.below k h1.lt, h2.below k, h3⟩
theorem In.kept4 {α : Type} {k : Nat} {cs : α → List Value} {w w' : World} {b : Nat} {A : Option Addr} {c : Nat} {l : List α} (h : In k cs w A c l) (hA : ∀ ad, A = some ad → ad.block ≠ b) (k' : Kept (some b) w.heap.size w w') : In k cs w' A c l := by
  obtain ⟨h1, h2, h3, h4⟩ := h
  refine ⟨h1, h2, h3, h4.imp id fun ⟨g, off, hA', hb, hr⟩ => ⟨g, off, hA', Nat.lt_of_lt_of_le hb k'.size, ?_⟩⟩
  exact hr.keep fun o => k'.cell (q := ⟨g, o, none⟩) hb (fun e => by injection e with e; exact hA _ hA' e.symm)
theorem cutW_block {A : Option Addr} {c b : Nat} (h : ∀ ad, A = some ad → ad.block ≠ b) : ∀ ad, cutW A c = some ad → ad.block ≠ b := by
  intro ad e
  unfold cutW at e
  split at e
  · exact h ad e
  · cases A with
    | none => cases e
    | some a =>
      simp only [Option.map_some, Option.some.injEq] at e
      subst e
      have := h a rfl
      unfold Addr.add
      split <;> simpa using this
/-- One word is taken. -/
theorem Rdr.take {w : World} {b : Nat} {N : Int} {x : Wd} {r : List Wd} {A : Option Addr} {c : Nat} (h1 : Blk w b #[.slice A (r.length + 1) c, .int .i64 N]) (h2 : In 4 Wd.cells w A c (x :: r)) (h3 : ∀ ad, A = some ad → ad.block ≠ b) :
    Rdr (w.setCell ⟨b, 0, none⟩ (.slice (cutW A c) r.length (c - 1))) b N r :=
  ⟨cutW A c, c - 1, h1.store 0 _, (tailW_in h2).kept4 (cutW_block h3) (kept_set _ _ _ _), cutW_block h3⟩
/-- What a reader's call that may panic comes to. -/
def RetPr {α : Type} (w : World) (b : Nat) (N : Int) (V : World → α → Value → Prop) (x : PR α) (e : Ending) (w' : World) : Prop := match x with
  | .ok a r => ∃ v, e = .returned v ∧ V w' a v ∧ Kept (some b) w.heap.size w w' ∧ Rdr w' b N r
  | .bad p er => e = .panicked [{ v := .iface 46 (.agg #[.int .i64 p, .int .i64 er]), recovered := false }] ∧ Kept (some b) w.heap.size w w'
set_option maxHeartbeats 400000 in
theorem c_parse_at (ws : List Wd) (b : Nat) (N : Int) (w : World) (h : Rdr w b N ws) : Calls Try.prog 27 #[.pointer (some ⟨b, 0, none⟩)] w (RetV w (.int .i64 (posW N ws))) := by
  obtain ⟨A, c, hB, hI, hA⟩ := h
  have hbl := hB.lt
  have r0 := hB.cell (i := 0) rfl
  have r1 := hB.cell (i := 1) rfl
  cases ws with
  | nil =>
    clear hI
    go_enter Try.func27, Try.ntmps27
    go_wp2_with (fail)
    go_ret
    exact RetV.int rfl (by repeat (first | exact Below.refl _ _ | refine Below.drew ?_ | refine Below.alloc ?_ (by first | omega | (simp; done) | (simp; omega)) _ | refine Below.setCell ?_ (by first | omega | (simp; done) | (simp; omega)) _ | refine Below.trans ?_ (Below.mono (by assumption) (by first | omega | (simp; done) | (simp; omega)))))
  | cons x r =>
    obtain ⟨g, off, rfl, hg, hrow⟩ := hI.at (i := 0) (by simp)
    have e0 := hrow 0 (by simp) 0 _ rfl
    have e1 := hrow 0 (by simp) 1 _ rfl
    have e2 := hrow 0 (by simp) 2 _ rfl
    have e3 := hrow 0 (by simp) 3 _ rfl
    simp only [Nat.zero_mul, Nat.add_zero, List.getElem_cons_zero] at e0 e1 e2 e3
    clear hI hrow
    go_enter Try.func27, Try.ntmps27
    go_wp2_with (fail)
    go_ret
    exact RetV.int rfl (by repeat (first | exact Below.refl _ _ | refine Below.drew ?_ | refine Below.alloc ?_ (by first | omega | (simp; done) | (simp; omega)) _ | refine Below.setCell ?_ (by first | omega | (simp; done) | (simp; omega)) _ | refine Below.trans ?_ (Below.mono (by assumption) (by first | omega | (simp; done) | (simp; omega)))))
/-- Is a word next? If so it is taken. -/
def RetI (w : World) (b : Nat) (N : Int) (k : Int) (s : List UInt8) (ws : List Wd) (e : Ending) (w' : World) : Prop :=
  e = .returned (.bool (isW k s ws)) ∧ Kept (some b) w.heap.size w w' ∧ Rdr w' b N (if isW k s ws then ws.drop 1 else ws)
set_option maxHeartbeats 1000000 in
theorem c_parse_is (k : Int) (s : List UInt8) (ws : List Wd) (b : Nat) (N : Int) (w : World) (h : Rdr w b N ws) : Calls Try.prog 51 #[.pointer (some ⟨b, 0, none⟩), .int .i64 k, .string (str s)] w (RetI w b N k s ws) := by
  have H := Lib.hid h
  obtain ⟨A, c, hB, hI, hA⟩ := h
  have hbl := hB.lt
  have r0 := hB.cell (i := 0) rfl
  have r1 := hB.cell (i := 1) rfl
  cases ws with
  | nil =>
    clear hI
    go_enter Try.func51, Try.ntmps51
    go_wp2_with (fail)
    go_ret
    exact ⟨rfl, Kept.refl _ _ _, H.out⟩
  | cons x r =>
    have HI := Lib.hid hI
    have HA := Lib.hid hA
    obtain ⟨g, off, rfl, hg, hrow⟩ := hI.at (i := 0) (by simp)
    have e0 := hrow 0 (by simp) 0 _ rfl
    have e1 := hrow 0 (by simp) 1 _ rfl
    have e2 := hrow 0 (by simp) 2 _ rfl
    have e3 := hrow 0 (by simp) 3 _ rfl
    simp only [Nat.zero_mul, Nat.add_zero, List.getElem_cons_zero] at e0 e1 e2 e3
    have hL := hI.1
    rw [List.length_cons] at hL
    have HB := Lib.hid hB
    have hT := tailW_run (some ⟨g, off, none⟩) c (r.length + 1) (by omega) hL
    have hz := hB.frozen 0
    have bl : ((r.length : Int) + 1 == 0) = false := by rw [beq_eq_false_iff_ne]; omega
    clear hI hrow hB hA
    by_cases hk : x.kind = k
    · by_cases hs : x.s = s
      · have W := Lib.hid (show isW k s (x :: r) = true by simp [isW, hk, hs])
        have bk : (x.kind != k) = false := by simpa using hk
        have bs : (x.s == s) = true := by simpa using hs
        have bs2 : (x.s != s) = false := by simpa using hs
        clear hk hs
        go_enter Try.func51, Try.ntmps51
        go_wp2_with (fail)
        go_ret
        refine ⟨by rw [W.out]; rfl, ?_, by rw [W.out]; exact Rdr.take HB.out HI.out HA.out⟩
        exact kept_set _ _ _ _
      · have W := Lib.hid (show isW k s (x :: r) = false by simp [isW, hs])
        have bk : (x.kind != k) = false := by simpa using hk
        have bs : (x.s == s) = false := by simpa using hs
        have bs2 : (x.s != s) = true := by simpa using hs
        clear hk hs
        go_enter Try.func51, Try.ntmps51
        go_wp2_with (fail)
        go_ret
        exact ⟨by rw [W.out]; rfl, Kept.refl _ _ _, by rw [W.out]; exact H.out⟩
    · have W := Lib.hid (show isW k s (x :: r) = false by simp [isW, hk])
      have bk : (x.kind != k) = true := by simpa using hk
      clear hk
      go_enter Try.func51, Try.ntmps51
      go_wp2_with (fail)
      go_ret
      exact ⟨by rw [W.out]; rfl, Kept.refl _ _ _, by rw [W.out]; exact H.out⟩
/-- What is panicked with. -/
def pan (p er : Int) : Ending := .panicked [{ v := .iface 46 (.agg #[.int .i64 p, .int .i64 er]), recovered := false }]
/-- The next word of some kinds. -/
def RetX (w : World) (b : Nat) (N : Int) (ks : List Int) (ws : List Wd) (e : Ending) (w' : World) : Prop := match ws with
  | [] => e = pan N 3 ∧ Kept (some b) w.heap.size w w'
  | x :: r => if x.kind ∈ ks then e = .returned (.agg #[.int .i64 x.kind, .int .i64 x.n, .int .i64 x.pos, .string (str x.s)]) ∧ Kept (some b) w.heap.size w w' ∧ Rdr w' b N r else e = pan x.pos 3 ∧ Kept (some b) w.heap.size w w'
set_option maxHeartbeats 1000000 in
theorem c_parse_next_nil (ks : List Int) (K : Option Addr) (kc : Nat) (b : Nat) (N : Int) (w : World) (h : Rdr w b N []) (hK : InI w K kc ks) : Calls Try.prog 68 #[.pointer (some ⟨b, 0, none⟩), .slice K ks.length kc] w (RetX w b N ks []) := by
  have H := Lib.hid h
  have hkL := hK.1
  have hkC := hK.2.1
  have hkS := hK.2.2.1
  have HK := Lib.hid hK
  obtain ⟨A, c, hB, hI, hA⟩ := h
  have hbl := hB.lt
  have r0 := hB.cell (i := 0) rfl
  have r1 := hB.cell (i := 1) rfl
  clear hI hA hB hK
  go_enter Try.func68, Try.ntmps68
  go_wp2_with (fail)
  go_loopw [10] (fun i wr => ∃ k : Nat, k ≤ ks.length ∧ i = .int .i64 k ∧ Below w.heap.size w wr) (fun i _ => ks.length - (intOf i).toNat)
  case atStart => exact ⟨0, by omega, rfl, (by repeat (first | exact Below.refl _ _ | refine Below.drew ?_ | refine Below.alloc ?_ (by first | omega | (simp; done) | (simp; omega)) _ | refine Below.setCell ?_ (by first | omega | (simp; done) | (simp; omega)) _ | refine Below.trans ?_ (Below.mono (by assumption) (by first | omega | (simp; done) | (simp; omega)))))⟩
  case round =>
    obtain ⟨k, hk, rfl, hbw⟩ := hrel
    have q0 := (hbw.cell (p := ⟨b, 0, none⟩) hbl).trans r0
    by_cases hlt : k < ks.length
    · obtain ⟨g, off, rfl, hg, hrow⟩ := HK.out.at hlt
      have e0 := (hrow.below hbw hg) k hlt 0 _ rfl
      simp only [Nat.mul_one, Nat.add_zero] at e0
      go_wp2_with (fail)
      go_roundw
      case rel => exact ⟨k + 1, by omega, by go_num, (by repeat (first | exact Below.refl _ _ | refine Below.drew ?_ | refine Below.alloc ?_ (by first | omega | (simp; done) | (simp; omega)) _ | refine Below.setCell ?_ (by first | omega | (simp; done) | (simp; omega)) _ | refine Below.trans ?_ (Below.mono (by assumption) (by first | omega | (simp; done) | (simp; omega)))))⟩
      case measure => simp [intOf]; omega
    · have HB := Lib.hid hbw
      clear hbw
      go_wp2_with (fail)
      refine (c_parse_at [] b N _ (H.out.below HB.out)).mono ?_
      rintro e w5 ⟨rfl, hb5⟩
      go_wp2_with (fail)
      exact ⟨rfl, rfl, Kept.of_below (HB.out.trans (hb5.mono HB.out.size))⟩
theorem mem_take {ks : List Int} {k : Nat} {z : Int} (h : k < ks.length) (hn : z ∉ ks.take k) (h2 : z ≠ ks[k]) : z ∉ ks.take (k + 1) := by
  rw [List.take_succ_eq_append_getElem h, List.mem_append]
  rintro (h' | h')
  · exact hn h'
  · exact h2 (by simpa using h')
set_option maxHeartbeats 1000000 in
theorem c_parse_next_cons (ks : List Int) (K : Option Addr) (kc : Nat) (x : Wd) (r : List Wd) (b : Nat) (N : Int) (w : World) (h : Rdr w b N (x :: r)) (hK : InI w K kc ks) : Calls Try.prog 68 #[.pointer (some ⟨b, 0, none⟩), .slice K ks.length kc] w (RetX w b N ks (x :: r)) := by
  have H := Lib.hid h
  have hkL := hK.1
  have hkC := hK.2.1
  have hkS := hK.2.2.1
  have HK := Lib.hid hK
  obtain ⟨A, c, hB, hI, hA⟩ := h
  have hbl := hB.lt
  have r0 := hB.cell (i := 0) rfl
  have r1 := hB.cell (i := 1) rfl
  have HI := Lib.hid hI
  have HA := Lib.hid hA
  obtain ⟨g, off, rfl, hg, hrow⟩ := hI.at (i := 0) (by simp)
  have e0 := hrow 0 (by simp) 0 _ rfl
  have e1 := hrow 0 (by simp) 1 _ rfl
  have e2 := hrow 0 (by simp) 2 _ rfl
  have e3 := hrow 0 (by simp) 3 _ rfl
  simp only [Nat.zero_mul, Nat.add_zero, List.getElem_cons_zero] at e0 e1 e2 e3
  have hL := hI.1
  rw [List.length_cons] at hL
  have HB := Lib.hid hB
  have HR := Lib.hid hrow
  have hT := tailW_run (some ⟨g, off, none⟩) c (r.length + 1) (by omega) hL
  have bl : decide ((0 : Int) < (r.length : Int) + 1) = true := by rw [decide_eq_true_eq]; omega
  clear hI hA hB hK hrow
  go_enter Try.func68, Try.ntmps68
  go_wp2_with (fail)
  go_loopw [10] (fun i wr => ∃ k : Nat, k ≤ ks.length ∧ i = .int .i64 k ∧ x.kind ∉ ks.take k ∧ Below w.heap.size w wr ∧ Blk wr w.heap.size #[.int .i64 0, .int .i64 0, .int .i64 0, .string (str [])]) (fun i _ => ks.length - (intOf i).toNat)
  case atStart => exact ⟨0, by omega, rfl, by simp, (by repeat (first | exact Below.refl _ _ | refine Below.drew ?_ | refine Below.alloc ?_ (by first | omega | (simp; done) | (simp; omega)) _ | refine Below.setCell ?_ (by first | omega | (simp; done) | (simp; omega)) _ | refine Below.trans ?_ (Below.mono (by assumption) (by first | omega | (simp; done) | (simp; omega))))), Blk.new _ _ _⟩
  case round =>
    obtain ⟨k, hk, rfl, hno, hbw, hD⟩ := hrel
    have q0 := (hbw.cell (p := ⟨b, 0, none⟩) hbl).trans r0
    have f0 := (hbw.cell (p := ⟨g, off, none⟩) hg).trans e0
    have f1 := (hbw.cell (p := ⟨g, off + 1, none⟩) hg).trans e1
    have f2 := (hbw.cell (p := ⟨g, off + 2, none⟩) hg).trans e2
    have f3 := (hbw.cell (p := ⟨g, off + 3, none⟩) hg).trans e3
    have z0 := (HB.out.below hbw hbl).frozen 0
    have hbz := hbw.size
    have hbr : b < wr.heap.size := by omega
    have hgr : g < wr.heap.size := by omega
    have hdr : w.heap.size < wr.heap.size := hD.lt
    by_cases hlt : k < ks.length
    · obtain ⟨g2, off2, rfl, hg2, hrow2⟩ := HK.out.at hlt
      have k0 := (hrow2.below hbw hg2) k hlt 0 _ rfl
      simp only [Nat.mul_one, Nat.add_zero] at k0
      by_cases hx : x.kind = ks[k]
      · have bx : (x.kind == ks[k]) = true := by simpa using hx
        have HX := Lib.hid (show x.kind ∈ ks by rw [hx]; exact List.getElem_mem _)
        clear hx
        have HBW := Lib.hid hbw
        have HD := Lib.hid hD
        obtain ⟨wb, hwb⟩ : ∃ wb, wb = wr.setCell ⟨b, 0, none⟩ (.slice (cutW (some ⟨g, off, none⟩) c) r.length (c - 1)) := ⟨_, rfl⟩
        have zb : wb.heap.size = wr.heap.size := by rw [hwb]; simp [World.setCell]
        have Kb : Kept (some b) w.heap.size w wb := by rw [hwb]; exact (Kept.of_below HBW.out).setCell (q := ⟨b, 0, none⟩) (.inr rfl) _
        have Db : Blk wb w.heap.size #[.int .i64 0, .int .i64 0, .int .i64 0, .string (str [])] := by rw [hwb]; exact HD.out.far (q := ⟨b, 0, none⟩) (by show w.heap.size ≠ b; omega) _
        have Bb : Blk wb b #[.slice (cutW (some ⟨g, off, none⟩) c) r.length (c - 1), .int .i64 N] := by rw [hwb]; exact (HB.out.below HBW.out hbl).store 0 _
        obtain ⟨wa, hwa⟩ : ∃ wa, wa = wb.alloc (.cells #[.int .i64 x.kind, .int .i64 x.n, .int .i64 x.pos, .string (str x.s)] 65) := ⟨_, rfl⟩
        have ba : Below wb.heap.size wb wa := by rw [hwa]; exact (by repeat (first | exact Below.refl _ _ | refine Below.drew ?_ | refine Below.alloc ?_ (by first | omega | (simp; done) | (simp; omega)) _ | refine Below.setCell ?_ (by first | omega | (simp; done) | (simp; omega)) _ | refine Below.trans ?_ (Below.mono (by assumption) (by first | omega | (simp; done) | (simp; omega)))))
        have za : wa.heap.size = wb.heap.size + 1 := by rw [hwa]; simp
        have Ka : Kept (some b) w.heap.size w wa := Kb.then_below ba (by omega)
        have Da := Db.below ba Db.lt
        have Ba := Bb.below ba Bb.lt
        rw [hwb] at hwa
        clear hwb Kb Db Bb
        have HKa := Lib.hid Ka
        have HDa := Lib.hid Da
        have HBa := Lib.hid Ba
        clear hbw hD ba Ka Da Ba hno
        go_wp2_with (with_reducible refine stS 65 (.tmp 4) _ rfl rfl ?_)
        rw [← hwa]
        clear hwa
        refine Stop.mk (wsB rfl _ _ _ rfl w.heap.size _ rfl rfl _ HDa.out strW rfl rfl (by simp [Value.oneCell']) ?_)
        intro w9 hb9 hk9
        have B9 := Lib.hid hb9
        have K9 := Lib.hid (HKa.out.trans (show Kept (some b) w.heap.size wa w9 from .of_below (hk9.oneB (by omega) (Nat.le_refl _))))
        have R9 := Lib.hid (HBa.out.kept hk9 (by omega) (fun e => by injection e with e; omega))
        clear hb9 hk9
        go_wp2_with (fail)
        refine bodyPost_ret (results_B rfl rfl B9.out strW rfl) rfl ?_
        show (if x.kind ∈ ks then _ else _ : Prop)
        rw [if_pos HX.out]
        exact ⟨rfl, K9.out, _, _, R9.out, (tailW_in HI.out).kept4 (cutW_block HA.out) K9.out, cutW_block HA.out⟩
      · have bx : (x.kind == ks[k]) = false := by simpa using hx
        have HX := Lib.hid hx
        have HD := Lib.hid hD
        have HBW := Lib.hid hbw
        have HNO := Lib.hid hno
        clear hx
        go_wp2_with (fail)
        go_roundw
        case rel => exact ⟨k + 1, by omega, by go_num, mem_take hlt HNO.out HX.out, HBW.out, HD.out⟩
        case measure => simp [intOf]; omega
    · have HBW := Lib.hid hbw
      have HN := Lib.hid (show x.kind ∉ ks by rw [List.take_of_length_le (by omega)] at hno; exact hno)
      clear hbw hno
      go_wp2_with (fail)
      refine (c_parse_at (x :: r) b N _ (H.out.below HBW.out)).mono ?_
      rintro e w5 ⟨rfl, hb5⟩
      go_wp2_with (fail)
      refine ⟨rfl, ?_⟩
      show (if x.kind ∈ ks then _ else _ : Prop)
      rw [if_neg HN.out]
      exact ⟨rfl, Kept.of_below (HBW.out.trans (hb5.mono HBW.out.size))⟩
end Go.Proofs.Ytbidnflcbgnckaa
namespace Go.Proofs.Ytbidnflcbgnckaa
open Go.RowKit

set_option maxHeartbeats 400000 in
theorem c_pred_Parts (op : Int) (w : World) : Calls Try.prog 53 #[.int .i64 op] w (RetV w (.int .i64 (parts op))) := by
  go_enter Try.func53, Try.ntmps53
  go_wp2
  all_goals (go_ret; refine RetV.int ?_ (by repeat (first | exact Below.refl _ _ | refine Below.drew ?_ | refine Below.alloc ?_ (by first | omega | (simp; done) | (simp; omega)) _ | refine Below.setCell ?_ (by first | omega | (simp; done) | (simp; omega)) _ | refine Below.trans ?_ (Below.mono (by assumption) (by first | omega | (simp; done) | (simp; omega))))); simp_all [parts])
set_option maxHeartbeats 400000 in
theorem c_ref10_Parts (op : Int) (w : World) : Calls Try.prog 43 #[.int .i64 op] w (RetV w (.int .i64 (parts op))) := by
  go_enter Try.func43, Try.ntmps43
  go_wp2
  all_goals (go_ret; refine RetV.int ?_ (by repeat (first | exact Below.refl _ _ | refine Below.drew ?_ | refine Below.alloc ?_ (by first | omega | (simp; done) | (simp; omega)) _ | refine Below.setCell ?_ (by first | omega | (simp; done) | (simp; omega)) _ | refine Below.trans ?_ (Below.mono (by assumption) (by first | omega | (simp; done) | (simp; omega))))); simp_all [parts])
/-- What the switch of pred.Node comes to. -/
def nodeClass (op below kinds : Int) : Prop :=
  ((op = 1 ∨ op = 2 ∨ op = 10 ∨ op = 11 ∨ op = 12) ∧ below = 1 ∧ kinds = 1) ∨ ((op = 3 ∨ op = 4) ∧ below = 16 ∧ kinds = 1) ∨ (op = 5 ∧ below = 8 ∧ kinds = 1) ∨
  ((op = 6 ∨ op = 7 ∨ op = 8) ∧ below = 8 ∧ kinds = 6) ∨ (op = 9 ∧ below = 8 ∧ kinds = 4)
def kindIn (kinds kind : Int) : Bool := if kinds = 1 then decide (kind = 0) else if kinds = 6 then decide (kind = 1) || decide (kind = 2) else decide (kind = 2)
theorem node_ok_of {x : Node} {b k : Int} (h : nodeClass x.op b k) : x.ok = (decide (0 ≤ x.n) && decide (x.n < b) && x.v.ok && kindIn k x.v.kind) := by
  have hn : ∀ y : Val, (y.ok && decide (y.kind = 0)) = y.none := fun y => by
    rcases Val.ok_cases y with ⟨h1, h2⟩ | ⟨h1, h2, h3⟩ | ⟨h1, h2, h3⟩ | ⟨h1, h2, h3⟩ <;> simp [*]
  have hm : ∀ y : Val, (y.ok && (decide (y.kind = 1) || decide (y.kind = 2))) = (y.ok && !y.none) := fun y => by
    rcases Val.ok_cases y with ⟨h1, h2⟩ | ⟨h1, h2, h3⟩ | ⟨h1, h2, h3⟩ | ⟨h1, h2, h3⟩ <;> simp [*]
  unfold Node.ok
  rcases h with ⟨h, rfl, rfl⟩ | ⟨h, rfl, rfl⟩ | ⟨h, rfl, rfl⟩ | ⟨h, rfl, rfl⟩ | ⟨h, rfl, rfl⟩
  · rw [if_pos h]
    simp only [kindIn, if_true, Bool.and_assoc, hn]
    by_cases h0 : x.n = 0
    · simp [h0]
    · by_cases h1 : 0 ≤ x.n
      · simp [h0, h1, show ¬ x.n < 1 by omega]
      · simp [h0, h1]
  · rw [if_neg (by omega), if_pos h]
    simp only [kindIn, if_true, Bool.and_assoc, hn]
  · rw [if_neg (by omega), if_neg (by omega), if_pos h]
    simp only [kindIn, if_true, Bool.and_assoc, hn]
  · rw [if_neg (by omega), if_neg (by omega), if_neg (by omega), if_pos h]
    simp only [kindIn, if_true, Bool.and_assoc, hm, show ¬ (6 : Int) = 1 by omega, if_false]
  · rw [if_neg (by omega), if_neg (by omega), if_neg (by omega), if_neg (by omega), if_pos h]
    simp only [kindIn, Bool.and_assoc, show ¬ (4 : Int) = 1 by omega, show ¬ (4 : Int) = 6 by omega, if_false]
set_option maxRecDepth 100000 in
set_option maxHeartbeats 1000000 in
theorem c_pred_Node (x : Node) (w : World) (hs : x.v.s.length ≤ 9223372036854775807) : Calls Try.prog 31 #[x.val] w (RetV w (.bool x.ok)) := by
  unfold Node.val
  go_enter Try.func31, Try.ntmps31
  go_upto_block 0 with (fail)
  go_cut [3, 4] from 5 to 24 (fun b k w1 => ∃ bl kn : Int, b = .int .i64 bl ∧ k = .int .i64 kn ∧ 1 ≤ bl ∧ bl ≤ 16 ∧ (kn = 1 ∨ kn = 6 ∨ kn = 4) ∧ Hid (nodeClass x.op bl kn) ∧
    w1 = w.alloc (.cells #[.int .i64 x.op, .int .i64 x.n, .int .i64 x.v.kind, .int .i64 x.v.n, .string (str x.v.s)] 41))
  case first =>
    go_wp2_with (fail)
    all_goals first
      | (go_meet
         case rel =>
           refine ⟨_, _, rfl, rfl, by omega, by omega, by omega, ?_, rfl⟩
           show nodeClass _ _ _
           unfold nodeClass
           simp_all)
      | (go_ret; refine RetV.bool ?_ (by repeat (first | exact Below.refl _ _ | refine Below.drew ?_ | refine Below.alloc ?_ (by first | omega | (simp; done) | (simp; omega)) _ | refine Below.setCell ?_ (by first | omega | (simp; done) | (simp; omega)) _ | refine Below.trans ?_ (Below.mono (by assumption) (by first | omega | (simp; done) | (simp; omega))))); simp_all [Node.ok])
  case rest =>
    obtain ⟨bl, kn, rfl, rfl, hbl, hbl2, hkn, hcls, rfl⟩ := hcut
    go_wp2_with (go_at_call 55; refine (c_value_Check x.v _ hs).mono ?_; rintro e w1 ⟨rfl, hb1⟩; have q1 := fun o => hb1.cell (p := ⟨w.heap.size, o, none⟩) (by simp); rcases Val.ok_cases x.v with ⟨hok, hno⟩ | ⟨hok, hno, hk⟩ | ⟨hok, hno, hk⟩ | ⟨hok, hno, hk⟩ <;> rcases hkn with h1 | h1 | h1)
    all_goals (go_ret; refine RetV.bool ?_ (by repeat (first | exact Below.refl _ _ | refine Below.drew ?_ | refine Below.alloc ?_ (by first | omega | (simp; done) | (simp; omega)) _ | refine Below.setCell ?_ (by first | omega | (simp; done) | (simp; omega)) _ | refine Below.trans ?_ (Below.mono (by assumption) (by first | omega | (simp; done) | (simp; omega))))); rw [node_ok_of hcls.out]; (try clear hb1 q1); (simp_all [kindIn] <;> first | omega | (intros; omega) | decide | grind))
set_option maxRecDepth 100000 in
set_option maxHeartbeats 1000000 in
theorem c_ref10_Node (x : Node) (w : World) (hs : x.v.s.length ≤ 9223372036854775807) : Calls Try.prog 21 #[x.val] w (RetV w (.bool x.ok)) := by
  unfold Node.val
  go_enter Try.func21, Try.ntmps21
  go_upto_region 1 with (fail)
  go_cut [0, 3] from 5 to 84 (fun _ a w1 => a = .bool x.v.none ∧ w1 = w.alloc (.cells #[.int .i64 x.op, .int .i64 x.n, .int .i64 x.v.kind, .int .i64 x.v.n, .string (str x.v.s)] 41))
  case first =>
    go_wp2_with (fail)
    all_goals (go_meet; case rel => refine ⟨?_, ?_⟩ <;> simp_all [Val.none])
  case rest =>
    obtain ⟨rfl, rfl⟩ := hcut
    go_upto_region 2 with (fail)
    go_cut [4] from 5 to 84 (fun a w1 => a = .bool (decide (0 ≤ x.n) && decide (x.n < 8) && x.v.ok) ∧ Below w.heap.size w w1 ∧ w.heap.size < w1.heap.size ∧ w1.cell? ⟨w.heap.size, 0, none⟩ = some (.int .i64 x.op) ∧ w1.cell? ⟨w.heap.size, 1, none⟩ = some (.int .i64 x.n) ∧
      w1.cell? ⟨w.heap.size, 2, none⟩ = some (.int .i64 x.v.kind) ∧ w1.cell? ⟨w.heap.size, 3, none⟩ = some (.int .i64 x.v.n) ∧ w1.cell? ⟨w.heap.size, 4, none⟩ = some (.string (str x.v.s)))
    case first =>
      go_wp2_with (go_at_call 42; refine (c_ref04_Check x.v _ hs).mono ?_; rintro e w1 ⟨rfl, hb1⟩; have q1 := fun o => hb1.cell (p := ⟨w.heap.size, o, none⟩) (by simp))
      all_goals (go_meet; case rel => refine ⟨?_, (by repeat (first | exact Below.refl _ _ | refine Below.drew ?_ | refine Below.alloc ?_ (by first | omega | (simp; done) | (simp; omega)) _ | refine Below.setCell ?_ (by first | omega | (simp; done) | (simp; omega)) _ | refine Below.trans ?_ (Below.mono (by assumption) (by first | omega | (simp; done) | (simp; omega))))), ?_⟩ <;> (first | (have hz1 := hb1.size; simp at hz1) | skip) <;> (simp_all [] <;> first | omega | (intros; omega) | decide | grind))
    case rest =>
      obtain ⟨rfl, hb, hz, c0, c1, c2, c3, c4⟩ := hcut
      obtain ⟨fb, hfb⟩ : ∃ fb, (decide (0 ≤ x.n) && decide (x.n < 8) && x.v.ok) = fb := ⟨_, rfl⟩
      rw [hfb]
      have Hfb := Lib.hid hfb
      clear hfb
      cases hno : x.v.none <;> cases fb
      all_goals go_wp2_with (fail)
      all_goals (go_ret; refine RetV.bool ?_ (by repeat (first | exact Below.refl _ _ | refine Below.drew ?_ | refine Below.alloc ?_ (by first | omega | (simp; done) | (simp; omega)) _ | refine Below.setCell ?_ (by first | omega | (simp; done) | (simp; omega)) _ | refine Below.trans ?_ (Below.mono (by assumption) (by first | omega | (simp; done) | (simp; omega))))); have hfb := Hfb.out; have hnk := Val.none_ok (x := x.v); (simp_all [Node.ok] <;> first | omega | (intros; omega) | decide | grind))
end Go.Proofs.Ytbidnflcbgnckaa
namespace Go.Proofs.Ytbidnflcbgnckaa
open Go.RowKit

theorem endAt_hid (l : List Node) (i : Nat) : Hid (endFrom (l.drop (i + 0)) 1 (i + 0) = endAt l i) := (endAt_nat l i).symm

set_option maxHeartbeats 400000 in
theorem c_pred_End (l : List Node) (A : Option Addr) (c : Nat) (i : Int) (w : World) (h : InN w A c l) :
    Calls Try.prog 28 #[.slice A l.length c, .int .i64 i] w (RetV w (.int .i64 (endAt l i))) := by
  have hL := h.1
  have hC := h.2.1
  have hS := h.2.2.1
  by_cases h1 : i < 0
  · have H := Lib.hid (endAt_neg (l := l) h1)
    go_enter Try.func28, Try.ntmps28
    go_wp2
    go_ret
    exact RetV.int H.out.symm (Below.refl _ _)
  by_cases h2 : l.length ≤ i
  · have H := Lib.hid (endAt_past h2)
    go_enter Try.func28, Try.ntmps28
    go_wp2
    go_ret
    exact RetV.int H.out.symm (Below.refl _ _)
  obtain ⟨a, rfl⟩ : ∃ a : Nat, i = a := ⟨i.toNat, by omega⟩
  obtain ⟨b, off, rfl, hb, hrow⟩ := h.at (i := a) (by omega)
  clear h
  go_enter Try.func28, Try.ntmps28
  go_wp2
  go_loopw [5, 20] (fun need i wr => ∃ k : Nat, ∃ nd : Int, a + k ≤ l.length ∧ 1 ≤ nd ∧ nd ≤ 2 * k + 1 ∧ need = .int .i64 nd ∧ i = .int .i64 k ∧ Hid (endFrom (l.drop (a + k)) nd (a + k) = endAt l a) ∧ Below w.heap.size w wr)
     (fun _ i _ => l.length - (intOf i).toNat)
  case atStart => exact ⟨0, 1, by omega, by omega, by omega, rfl, rfl, endAt_hid l a, Below.refl _ _⟩
  case round =>
    obtain ⟨k, nd, hk, hnd1, hnd2, rfl, rfl, H, hbl⟩ := hrel
    by_cases hlt : a + k < l.length
    · obtain ⟨e0, e1, e2, e3, e4⟩ := (hrow.below hbl hb).node hlt (o := off + a * 5 + k * 5) (by omega)
      have hf := H.out
      rw [endFrom_at l (a + k) hlt] at hf
      obtain ⟨p, hp⟩ : ∃ p, parts l[a + k].op = p := ⟨_, rfl⟩
      have hpb := parts_bd l[a + k].op
      have Hp := Lib.hid hp
      rw [hp] at hf hpb
      have hpb1 := hpb.1
      have hpb2 := hpb.2
      have HF := Lib.hid hf
      have hbz := hbl.size
      clear hf hp hpb H
      by_cases hz : nd + (p - 1) = 0
      · go_wp2_with (go_at_call 53; refine (c_pred_Parts _ _).mono ?_; rintro e w1 ⟨rfl, hb1⟩; rw [Hp.out])
        go_ret
        refine RetV.int ?_ (by repeat (first | exact Below.refl _ _ | refine Below.drew ?_ | refine Below.alloc ?_ (by first | omega | (simp; done) | (simp; omega)) _ | refine Below.setCell ?_ (by first | omega | (simp; done) | (simp; omega)) _ | refine Below.trans ?_ (Below.mono (by assumption) (by first | omega | (simp; done) | (simp; omega)))))
        have hf := HF.out
        rw [if_pos hz] at hf
        rw [← hf]
        simp
      · go_wp2_with (go_at_call 53; refine (c_pred_Parts _ _).mono ?_; rintro e w1 ⟨rfl, hb1⟩; rw [Hp.out])
        go_roundw
        case rel =>
          refine ⟨k + 1, nd + (p - 1), by omega, by omega, by omega, rfl, by go_num, ?_, (by repeat (first | exact Below.refl _ _ | refine Below.drew ?_ | refine Below.alloc ?_ (by first | omega | (simp; done) | (simp; omega)) _ | refine Below.setCell ?_ (by first | omega | (simp; done) | (simp; omega)) _ | refine Below.trans ?_ (Below.mono (by assumption) (by first | omega | (simp; done) | (simp; omega)))))⟩
          have hf := HF.out
          rw [if_neg hz] at hf
          exact hf
        case measure => simp [intOf]; omega
    · go_wp2_with fail
      go_ret
      refine RetV.int ?_ hbl
      have := H.out
      rw [List.drop_of_length_le (by omega)] at this
      exact this
set_option maxHeartbeats 400000 in
theorem c_ref10_End (l : List Node) (A : Option Addr) (c : Nat) (i : Int) (w : World) (h : InN w A c l) :
    Calls Try.prog 22 #[.slice A l.length c, .int .i64 i] w (RetV w (.int .i64 (endAt l i))) := by
  have hL := h.1
  have hC := h.2.1
  have hS := h.2.2.1
  by_cases h1 : i < 0
  · have H := Lib.hid (endAt_neg (l := l) h1)
    go_enter Try.func22, Try.ntmps22
    go_wp2
    go_ret
    exact RetV.int H.out.symm (Below.refl _ _)
  by_cases h2 : l.length ≤ i
  · have H := Lib.hid (endAt_past h2)
    go_enter Try.func22, Try.ntmps22
    go_wp2_with fail
    refine wp_loop_rounds 1 ?_
    rw [rounds_succ]
    go_wp2_with fail
    go_ret
    exact RetV.int H.out.symm (Below.refl _ _)
  obtain ⟨a, rfl⟩ : ∃ a : Nat, i = a := ⟨i.toNat, by omega⟩
  obtain ⟨b, off, rfl, hb, hrow⟩ := h.at (i := a) (by omega)
  clear h
  go_enter Try.func22, Try.ntmps22
  go_wp2_with (fail)
  go_loopw [1, 5] (fun i need wr => ∃ k : Nat, ∃ nd : Int, a + k ≤ l.length ∧ 0 ≤ nd ∧ nd ≤ 2 * k + 1 ∧ (nd = 0 → 1 ≤ k) ∧ need = .int .i64 nd ∧ i = .int .i64 (a + k : Nat) ∧ Hid ((nd = 0 → ((a + k : Nat) : Int) = endAt l a) ∧ (nd ≠ 0 → endFrom (l.drop (a + k)) nd (a + k) = endAt l a)) ∧ Below w.heap.size w wr)
     (fun i _ _ => l.length - (intOf i).toNat)
  case atStart => exact ⟨0, 1, by omega, by omega, by omega, by omega, rfl, rfl, ⟨by omega, fun _ => endAt_hid l a⟩, Below.refl _ _⟩
  case round =>
    obtain ⟨k, nd, hk, hnd1, hnd2, hnd3, rfl, rfl, H, hbl⟩ := hrel
    have hbz := hbl.size
    by_cases hz : nd = 0
    · have H1 := Lib.hid (H.out.1 hz)
      clear H
      subst hz
      go_wp2_with (fail)
      all_goals (go_ret; exact RetV.int H1.out hbl)
    have hnd4 : 1 ≤ nd := by omega
    have hf := H.out.2 hz
    clear H
    by_cases hlt : a + k < l.length
    · obtain ⟨e0, e1, e2, e3, e4⟩ := (hrow.below hbl hb).node hlt (o := off + (a + k) * 5) (by omega)
      rw [endFrom_at l (a + k) hlt] at hf
      obtain ⟨p, hp⟩ : ∃ p, parts l[a + k].op = p := ⟨_, rfl⟩
      have hpb := parts_bd l[a + k].op
      have Hp := Lib.hid hp
      rw [hp] at hf hpb
      have hpb1 := hpb.1
      have hpb2 := hpb.2
      have HF := Lib.hid hf
      clear hf hp hpb
      go_wp2_with (go_at_call 43; refine (c_ref10_Parts _ _).mono ?_; rintro e w1 ⟨rfl, hb1⟩; rw [Hp.out])
      go_roundw
      case rel =>
        refine ⟨k + 1, nd - 1 + p, by omega, by omega, by omega, by omega, rfl, by go_num, ?_, (by repeat (first | exact Below.refl _ _ | refine Below.drew ?_ | refine Below.alloc ?_ (by first | omega | (simp; done) | (simp; omega)) _ | refine Below.setCell ?_ (by first | omega | (simp; done) | (simp; omega)) _ | refine Below.trans ?_ (Below.mono (by assumption) (by first | omega | (simp; done) | (simp; omega)))))⟩
        have hf := HF.out
        rw [show nd + (p - 1) = nd - 1 + p by omega] at hf
        refine ⟨fun e => ?_, fun e => ?_⟩
        · rw [if_pos e] at hf; rw [← hf]; omega
        · rw [if_neg e] at hf; exact hf
      case measure => simp [intOf]; omega
    · rw [List.drop_of_length_le (by omega)] at hf
      have HF := Lib.hid hf
      clear hf
      go_wp2_with fail
      go_ret
      exact RetV.int HF.out hbl
end Go.Proofs.Ytbidnflcbgnckaa
namespace Go.Proofs.Ytbidnflcbgnckaa
open Go.RowKit

set_option maxHeartbeats 400000 in
theorem c_pred_Check1 (x : Node) (w : World) (hs : x.v.s.length ≤ 9223372036854775807) : Calls Try.prog 30 #[x.val] w (RetV w (.bool (!x.ok))) := by
  unfold Node.val
  go_enter Try.func30, Try.ntmps30
  go_wp2_with (go_at_call 31; refine (c_pred_Node x _ hs).mono ?_; rintro e w1 ⟨rfl, hb1⟩)
  go_ret
  exact RetV.bool rfl (by repeat (first | exact Below.refl _ _ | refine Below.drew ?_ | refine Below.alloc ?_ (by first | omega | (simp; done) | (simp; omega)) _ | refine Below.setCell ?_ (by first | omega | (simp; done) | (simp; omega)) _ | refine Below.trans ?_ (Below.mono (by assumption) (by first | omega | (simp; done) | (simp; omega)))))
set_option maxHeartbeats 400000 in
theorem c_IndexFuncN (l : List Node) (A : Option Addr) (c : Nat) (w : World) (h : InN w A c l) (hs : ∀ x ∈ l, x.v.s.length ≤ 9223372036854775807) :
    Calls Try.prog 54 #[.slice A l.length c, .func (.func 30) #[] #[]] w (RetV w (.int .i64 (firstBad l 0))) := by
  have hL := h.1
  have hC := h.2.1
  have hS := h.2.2.1
  go_enter Try.func54, Try.ntmps54
  go_wp2_with (fail)
  go_loopw [8] (fun i wr => ∃ k : Nat, k ≤ l.length ∧ i = .int .i64 k ∧ Hid (firstBad (l.drop k) k = firstBad l 0) ∧ Below w.heap.size w wr) (fun i _ => l.length - (intOf i).toNat)
  case atStart => exact ⟨0, by omega, rfl, rfl, Below.refl _ _⟩
  case round =>
    obtain ⟨k, hk, rfl, H, hbl⟩ := hrel
    have hbz := hbl.size
    by_cases hlt : k < l.length
    · obtain ⟨b, off, rfl, hb, hrow⟩ := h.at hlt
      obtain ⟨e0, e1, e2, e3, e4⟩ := (hrow.below hbl hb).node hlt rfl
      have hs1 := hs l[k] (List.getElem_mem hlt)
      have hf := H.out
      rw [firstBad_at l k hlt] at hf
      clear h hs H
      cases hok : l[k].ok
      · rw [if_neg (by rw [hok]; simp)] at hf
        have HF := Lib.hid hf
        clear hf
        go_wp2_with (go_at_call 30; refine (c_pred_Check1 l[k] _ hs1).mono ?_; rintro e w1 ⟨rfl, hb1⟩)
        go_ret
        exact RetV.int HF.out (by repeat (first | exact Below.refl _ _ | refine Below.drew ?_ | refine Below.alloc ?_ (by first | omega | (simp; done) | (simp; omega)) _ | refine Below.setCell ?_ (by first | omega | (simp; done) | (simp; omega)) _ | refine Below.trans ?_ (Below.mono (by assumption) (by first | omega | (simp; done) | (simp; omega)))))
      · rw [if_pos hok] at hf
        have HF := Lib.hid hf
        clear hf
        go_wp2_with (go_at_call 30; refine (c_pred_Check1 l[k] _ hs1).mono ?_; rintro e w1 ⟨rfl, hb1⟩)
        go_roundw
        case rel => exact ⟨k + 1, by omega, by go_num, HF.out, (by repeat (first | exact Below.refl _ _ | refine Below.drew ?_ | refine Below.alloc ?_ (by first | omega | (simp; done) | (simp; omega)) _ | refine Below.setCell ?_ (by first | omega | (simp; done) | (simp; omega)) _ | refine Below.trans ?_ (Below.mono (by assumption) (by first | omega | (simp; done) | (simp; omega)))))⟩
        case measure => simp [intOf]; omega
    · have hf := H.out
      rw [List.drop_of_length_le (by omega)] at hf
      have HF := Lib.hid hf
      clear hf H
      go_wp2_with (fail)
      go_ret
      exact RetV.int HF.out hbl
set_option maxHeartbeats 400000 in
theorem c_ContainsFuncN (l : List Node) (A : Option Addr) (c : Nat) (w : World) (h : InN w A c l) (hs : ∀ x ∈ l, x.v.s.length ≤ 9223372036854775807) :
    Calls Try.prog 29 #[.slice A l.length c, .func (.func 30) #[] #[]] w (RetV w (.bool (l.any fun x => !x.ok))) := by
  have H := Lib.hid (firstBad_any l 0)
  go_enter Try.func29, Try.ntmps29
  go_wp2_with (go_at_call 54; refine (c_IndexFuncN l A c _ h hs).mono ?_; rintro e w1 ⟨rfl, hb1⟩)
  go_ret
  exact RetV.bool H.out (by repeat (first | exact Below.refl _ _ | refine Below.drew ?_ | refine Below.alloc ?_ (by first | omega | (simp; done) | (simp; omega)) _ | refine Below.setCell ?_ (by first | omega | (simp; done) | (simp; omega)) _ | refine Below.trans ?_ (Below.mono (by assumption) (by first | omega | (simp; done) | (simp; omega)))))
set_option maxHeartbeats 1000000 in
theorem c_pred_Depth (l : List Node) (A : Option Addr) (c : Nat) (w : World) (h : InN w A c l) :
    Calls Try.prog 32 #[.slice A l.length c] w (RetV w (.int .i64 (depth l))) := by
  have hL := h.1
  have hC := h.2.1
  have hS := h.2.2.1
  by_cases h0 : l.length = 0
  · have H : Hid (depth l = 0) := by have := List.eq_nil_of_length_eq_zero h0; subst this; rfl
    go_enter Try.func32, Try.ntmps32
    go_wp2_with (fail)
    go_ret
    exact RetV.int H.out.symm (Below.refl _ _)
  by_cases h1 : endAt l 0 = l.length
  case neg =>
    have H : Hid (depth l = 0) := by unfold Hid depth; rw [if_pos (.inr h1)]
    have hn : ((endAt l 0 : Int) != (l.length : Int)) = true := by simpa using h1
    go_enter Try.func32, Try.ntmps32
    go_wp2_with (go_at_call 28; refine (c_pred_End l A c 0 _ h).mono ?_; rintro e w1 ⟨rfl, hb1⟩)
    go_ret
    exact RetV.int H.out.symm (by repeat (first | exact Below.refl _ _ | refine Below.drew ?_ | refine Below.alloc ?_ (by first | omega | (simp; done) | (simp; omega)) _ | refine Below.setCell ?_ (by first | omega | (simp; done) | (simp; omega)) _ | refine Below.trans ?_ (Below.mono (by assumption) (by first | omega | (simp; done) | (simp; omega)))))
  have HD : Hid (deepFold l [] 0 = depth l) := by
    show _ = _
    unfold depth
    rw [if_neg (by
      rintro (e | e)
      · subst e; simp at h0
      · exact e h1)]
  have hn : ((endAt l 0 : Int) != (l.length : Int)) = false := by simpa using h1
  have hl0 : ((l.length : Int) == 0) = false := by simpa using h0
  have EI : Elem Try.prog 89 3 1 8 := Elem.mk' Try.underlying89 (z := .int .i64 0) (by kernel_rfl) rfl (by omega) (by omega)
  clear h1
  go_enter Try.func32, Try.ntmps32
  go_wp2_with (go_at_call 28; refine (c_pred_End l A c 0 _ h).mono ?_; rintro e w1 ⟨rfl, hb1⟩)
  go_loopw [3, 4, 19] (fun v dp i wr => ∃ (k : Nat) (st : List Int) (d : Int), k ≤ l.length ∧ i = .int .i64 k ∧ dp = .int .i64 d ∧ 0 ≤ d ∧ d ≤ k ∧ st.length ≤ k ∧ (∀ x ∈ st, 1 ≤ x ∧ x ≤ 2) ∧
      wr.ownsRow w.heap.size 3 1 v st.length (st.map (Value.int .i64)) ∧ Hid (deepFold (l.drop k) st.reverse d = depth l) ∧ Below w.heap.size w wr) (fun _ _ i _ => l.length - (intOf i).toNat)
  case atStart => exact ⟨0, [], 0, by omega, rfl, rfl, by omega, by omega, by simp, by simp, World.ownsRow_nil _ _ _ _, HD.out, (by repeat (first | exact Below.refl _ _ | refine Below.drew ?_ | refine Below.alloc ?_ (by first | omega | (simp; done) | (simp; omega)) _ | refine Below.setCell ?_ (by first | omega | (simp; done) | (simp; omega)) _ | refine Below.trans ?_ (Below.mono (by assumption) (by first | omega | (simp; done) | (simp; omega)))))⟩
  case round =>
    obtain ⟨k, st, d, hk, rfl, rfl, hd0, hdk, hst, hent, hown, H, hbl⟩ := hrel
    have hbz := hbl.size
    have Hent := Lib.hid hent
    have hbh := Lib.hid hb1
    clear hent hb1
    by_cases hlt : k < l.length
    · obtain ⟨b, off, rfl, hb, hrow⟩ := h.at hlt
      obtain ⟨e0, e1, e2, e3, e4⟩ := (hrow.below hbl hb).node hlt rfl
      have hf := H.out
      rw [List.drop_eq_getElem_cons hlt] at hf
      have HF : Hid (deepFold (l.drop (k+1)) (push (parts l[k].op) st.reverse) (max d ((st.length : Int) + 1)) = depth l) := by
        have : deepFold (l[k] :: l.drop (k+1)) st.reverse d = depth l := hf
        show _ = _
        simpa [deepFold] using this
      clear h hf H
      have hpb := parts_bd l[k].op
      obtain ⟨p, hp⟩ : ∃ p, parts l[k].op = p := ⟨_, rfl⟩
      have Hp := Lib.hid hp
      rw [hp] at hpb
      have hpb1 := hpb.1
      have hpb2 := hpb.2
      clear hp hpb
      obtain ⟨Av, cv, rfl, hcv1, hcv2⟩ := own_form hown
      have hown0 := Lib.hid hown
      clear hown
      go_wp2_with (first
        | (go_at_call 53; refine (c_pred_Parts _ _).mono ?_; rintro e w2 ⟨rfl, hb2⟩; rw [Hp.out]; have hz2 := hb2.size; simp only [World.size_alloc] at hz2)
        | (at_builtin
           refine wpList_app _ rfl (.tmp 28) (.tmp 32) EI rfl w.heap.size (.slice Av st.length cv) st.length (st.map (Value.int .i64)) rfl ((own_below (own_below (own_below hown0.out ((Below.refl _ _).alloc (Nat.le_refl _) _)) hb2) ((Below.refl _ _).alloc (Nat.le_refl _) _))) _ 1 1 [.int .i64 p] rfl (Src.new _ _ _ _ rfl) (by simp [Value.oneCell']) (by omega) ?_ ?_
           · simp only [World.size_alloc]; omega
           intro v3 w3 hown3 hg3 hb3 hat3))
      have hbw3 : Below w.heap.size w w3 := (by repeat (first | exact Below.refl _ _ | refine Below.drew ?_ | refine Below.alloc ?_ (by first | omega | (simp; done) | (simp; omega)) _ | refine Below.setCell ?_ (by first | omega | (simp; done) | (simp; omega)) _ | refine Below.trans ?_ (Below.mono (by assumption) (by first | omega | (simp; done) | (simp; omega)))))
      have HN : Hid (norm (st ++ [p]).reverse = push p st.reverse) := by
        show _ = _
        rw [List.reverse_append]
        rfl
      have hent2 : ∀ x ∈ st ++ [p], 0 ≤ x ∧ x ≤ 2 := by
        intro x hx
        rcases List.mem_append.1 hx with hx | hx
        · have := Hent.out x hx; omega
        · simp at hx; omega
      have hent3 : ∀ x ∈ (st ++ [p]).dropLast, 1 ≤ x := by
        intro x hx
        rw [List.dropLast_concat] at hx
        exact (Hent.out x hx).1
      have Hent2 := Lib.hid hent2
      have Hent3 := Lib.hid hent3
      have hown3' : w3.ownsRow w.heap.size 3 1 v3 (st ++ [p]).length ((st ++ [p]).map (Value.int .i64)) := by simpa using hown3
      have Hown := Lib.hid hown3'
      clear e0 e1 e2 e3 e4 hb2 hz2 hown3 hown3' hg3 hb3 hat3 hown0 hbl hbz hent2 hent3 Hent hrow hb
      obtain ⟨wo, rfl⟩ : ∃ wo : World, wo = wr := ⟨_, rfl⟩
      go_loopw [3] (fun v wi => ∃ st2 : List Int, st2.length ≤ k + 1 ∧ Hid (∀ x ∈ st2, 0 ≤ x ∧ x ≤ 2) ∧ Hid (∀ x ∈ st2.dropLast, 1 ≤ x) ∧
          Hid (wi.ownsRow w.heap.size 3 1 v st2.length (st2.map (Value.int .i64))) ∧ Hid (norm st2.reverse = push p st.reverse) ∧ Below w.heap.size w wi) (fun v _ => lenOf v)
      case atStart => exact ⟨st ++ [p], by simp; omega, Hent2, Hent3, Hown, HN, hbw3⟩
      case round =>
        obtain ⟨st2, hl2, E2, E3, O2, N2, hb2⟩ := hrel
        have hz2 := hb2.size
        have hnext : ∀ t r, st2 = r ++ [t] → t ≠ 0 → (∀ x ∈ st2, 1 ≤ x ∧ x ≤ 2) ∧ deepFold (l.drop (k+1)) st2.reverse (max d ((st.length : Int) + 1)) = depth l := by
          rintro t r rfl ht
          refine ⟨fun x hx => ?_, ?_⟩
          · have h1 := E2.out x hx
            rcases List.mem_append.1 hx with hx | hx
            · have := E3.out x (by rw [List.dropLast_concat]; exact hx); omega
            · simp at hx; omega
          · have hf := HF.out
            rw [Hp.out, ← N2.out] at hf
            have hr : (r ++ [t]).reverse = t :: r.reverse := by simp
            rw [hr, norm_keep ht, ← hr] at hf
            exact hf
        have HX := Lib.hid hnext
        clear hnext
        rcases snoc_cases st2 with rfl | ⟨rest, t, rfl⟩
        · obtain ⟨A2, c2, rfl, _, _⟩ := own_form O2.out
          clear HX
          go_wp2_with (fail)
          go_roundw
          case rel =>
            have hf := HF.out
            rw [Hp.out, ← N2.out] at hf
            exact ⟨k + 1, [], _, by omega, by go_num, rfl, by omega, by omega, by simp, by simp, O2.out, hf, hb2⟩
          case measure => simp [intOf]; omega
        · have Et := E2.out t (by simp)
          rcases snoc_cases rest with rfl | ⟨r2, y, rfl⟩
          · obtain ⟨g, c2, rfl, hc2, hc2', hg1, hg2⟩ := own_form' O2.out (by simp)
            have O2' : wr.ownsRow w.heap.size 3 1 (.slice (some ⟨g, 0, none⟩) 1 c2) 1 [.int .i64 t] := O2.out
            have hcell : wr.cell? ⟨g, 0, none⟩ = some (.int .i64 t) := by
              rw [O2'.cellAt _ (by omega)]
              rfl
            have hpop := Lib.hid (ownsRow_pop (xs := []) (n := 0) (by simp) O2')
            have O3 := Lib.hid O2'
            clear O2' O2
            simp only [List.nil_append, List.length_singleton] at hc2
            by_cases ht : t = 0
            · subst ht
              go_wp2_with (fail)
              go_roundw
              case rel =>
                have hn := N2.out
                exact ⟨[], by simp, (fun x hx => by cases hx), (fun x hx => by cases hx), hpop.out, by rw [← hn]; rfl, hb2⟩
              case measure => simp [lenOf]
            · have htb : ((t : Int) == 0) = false := by simpa using ht
              go_wp2_with (fail)
              go_roundw
              case rel =>
                obtain ⟨h1, h2⟩ := HX.out t [] rfl ht
                exact ⟨k + 1, [t], _, by omega, by go_num, rfl, by omega, by omega, by simp, h1, O3.out, h2, hb2⟩
              case measure => simp [intOf]; omega
          · have hl2' : r2.length + 2 ≤ k + 1 := by simpa using hl2
            obtain ⟨q, hq⟩ : ∃ q, r2.length = q := ⟨_, rfl⟩
            have hlen : (r2 ++ [y] ++ [t]).length = q + 2 := by simp [hq]
            have O2' := O2.out
            rw [hlen] at O2'
            simp only [List.map_append, List.map_cons, List.map_nil] at O2'
            obtain ⟨g, c2, rfl, hc2, hc2', hg1, hg2⟩ := own_form' O2' (by omega)
            rw [hq] at hl2'
            have hcell : wr.cell? ⟨g, q + 1, none⟩ = some (.int .i64 t) := by
              rw [O2'.cellAt _ (by omega)]
              rw [List.getElem?_append_right (by simp [hq])]
              simp [hq]
            have hcy : wr.cell? ⟨g, q, none⟩ = some (.int .i64 y) := by
              rw [O2'.cellAt _ (by omega)]
              rw [List.getElem?_append_left (by simp [hq]), List.getElem?_append_right (by simp [hq])]
              simp [hq]
            have hfz := fun j => O2'.frozenAt j
            have hpop := ownsRow_pop (n := q + 1) (by simp [hq]) O2'
            have hst2 := hpop.stored q (.int .i64 (y - 1))
            have ST := Lib.hid hst2
            have O3 := Lib.hid O2'
            have Hq := Lib.hid hq
            have Hlen := Lib.hid hlen
            have hy := E3.out y (by simp)
            have hy2 := (E2.out y (by simp)).2
            clear O2' O2 hpop hst2 hq hlen hl2
            by_cases ht : t = 0
            · subst ht
              clear HX
              go_wp2_with (fail)
              go_roundw
              case rel =>
                refine ⟨r2 ++ [y - 1], by simp [Hq.out]; omega, ?_, ?_, ?_, ?_, (by repeat (first | exact Below.refl _ _ | refine Below.drew ?_ | refine Below.alloc ?_ (by first | omega | (simp; done) | (simp; omega)) _ | refine Below.setCell ?_ (by first | omega | (simp; done) | (simp; omega)) _ | refine Below.trans ?_ (Below.mono (by assumption) (by first | omega | (simp; done) | (simp; omega)))))⟩
                · intro x hx
                  rcases List.mem_append.1 hx with hx | hx
                  · exact E2.out x (by simp [hx])
                  · simp at hx; omega
                · intro x hx
                  rw [List.dropLast_concat] at hx
                  exact E3.out x (by rw [List.dropLast_concat]; simp [hx])
                · show World.ownsRow _ _ _ _ _ _ _
                  rw [show q + 2 - 1 = q + 1 by omega, show (r2 ++ [y - 1]).length = q + 1 by simp [Hq.out]]
                  have h1 := ST.out.1
                  have e : ((r2.map (Value.int .i64) ++ [Value.int .i64 y]).set q (.int .i64 (y - 1))) = (r2 ++ [y - 1]).map (Value.int .i64) := by
                    rw [List.set_append_right _ _ (by simp [Hq.out])]
                    simp [Hq.out]
                  rw [e] at h1
                  exact h1
                · have hn := N2.out
                  have e1 : (r2 ++ [y] ++ [0]).reverse = 0 :: y :: r2.reverse := by simp
                  have e2 : (r2 ++ [y - 1]).reverse = (y - 1) :: r2.reverse := by simp
                  show _ = _
                  rw [← hn, e1, e2, norm_zero, dec_norm]
              case measure => simp [lenOf]
            · have htb : ((t : Int) == 0) = false := by simpa using ht
              go_wp2_with (fail)
              go_roundw
              case rel =>
                obtain ⟨h1, h2⟩ := HX.out t _ rfl ht
                refine ⟨k + 1, r2 ++ [y] ++ [t], _, by omega, by go_num, rfl, by omega, by omega, by rw [Hlen.out]; omega, h1, ?_, h2, hb2⟩
                rw [Hlen.out]
                simpa using O3.out
              case measure => simp [intOf]; omega
    · have hf := H.out
      rw [List.drop_of_length_le (by omega)] at hf
      have HF : Hid (d = depth l) := by simpa [deepFold, Hid] using hf
      clear hf H
      go_wp2_with (fail)
      go_ret
      exact RetV.int HF.out hbl
end Go.Proofs.Ytbidnflcbgnckaa
namespace Go.Proofs.Ytbidnflcbgnckaa
open Go.RowKit

set_option maxHeartbeats 400000 in
theorem c_pred_Check (l : List Node) (A : Option Addr) (c : Nat) (w : World) (h : InN w A c l) (hs : ∀ x ∈ l, x.v.s.length ≤ 9223372036854775807) :
    Calls Try.prog 14 #[.slice A l.length c] w (RetV w (.int .i64 (check l))) := by
  have hL := h.1
  have hC := h.2.1
  have hS := h.2.2.1
  have hdb := (depth_bd l).1
  have Hs := Lib.hid hs
  clear hs
  go_enter Try.func14, Try.ntmps14
  go_wp2_with (first
    | (go_at_call 28; refine (c_pred_End l A c 0 _ h).mono ?_; rintro e w1 ⟨rfl, hb1⟩)
    | (go_at_call 29; refine (c_ContainsFuncN l A c _ (h.below hb1) Hs.out).mono ?_; rintro e w2 ⟨rfl, hb2⟩)
    | (go_at_call 32; refine (c_pred_Depth l A c _ ((h.below hb1).below hb2)).mono ?_; rintro e w3 ⟨rfl, hb3⟩))
  all_goals (go_ret; (try have hz1 := hb1.size); (try have hz2 := hb2.size); refine RetV.int ?_ (by repeat (first | exact Below.refl _ _ | refine Below.drew ?_ | refine Below.alloc ?_ (by first | omega | (simp; done) | (simp; omega)) _ | refine Below.setCell ?_ (by first | omega | (simp; done) | (simp; omega)) _ | refine Below.trans ?_ (Below.mono (by assumption) (by first | omega | (simp; done) | (simp; omega))))); (simp_all [check] <;> first | omega | (intros; omega) | decide | grind))
set_option maxHeartbeats 1000000 in
theorem c_ref10_Kids (l : List Node) (a : Nat) (A : Option Addr) (c : Nat) (w : World) (h : InN w A c l) (ha : a < l.length) (mid : List Node) (d : Nat) (ht : Trees (parts l[a].op).toNat (l.drop (a + 1)) mid d) :
    Calls Try.prog 44 #[.slice A l.length c, .int .i64 a] w (RetK 23 w (cut (parts l[a].op).toNat (l.drop (a + 1)))) := by
  have hL := h.1
  have hC := h.2.1
  have hS := h.2.2.1
  obtain ⟨b, off, rfl, hb, hrow⟩ := h.at ha
  have hpb := parts_bd l[a].op
  obtain ⟨p, hp⟩ : ∃ p : Nat, (parts l[a].op).toNat = p := ⟨_, rfl⟩
  have hpi : parts l[a].op = (p : Int) := by rw [← hp]; omega
  have Hp := Lib.hid hpi
  rw [hp] at ht ⊢
  have hp2 : p ≤ 2 := by omega
  have Ht := Lib.hid ht
  have EN : Elem Try.prog 23 41 5 48 := Elem.mk' Try.underlying23 (z := .agg #[.int .i64 0, .int .i64 0, .int .i64 0, .int .i64 0, .string ⟨#[]⟩]) (by kernel_rfl) rfl (by omega) (by omega)
  have EK : Elem Try.prog 72 23 1 24 := Elem.mk' Try.underlying72 (z := .slice none 0 0) (by kernel_rfl) rfl (by omega) (by omega)
  clear hpb hp hpi ht
  have ha0 : decide ((a : Int) < 0) = false := by simp
  have ha1 : decide (l.length ≤ a) = false := by simpa using ha
  go_enter Try.func44, Try.ntmps44
  go_wp2_with (fail)
  go_loopw [5, 6, 7] (fun v fr i wr => ∃ (j : Nat) (f : Nat) (os : List Kid) (d' : Nat), j ≤ p ∧ i = .int .i64 j ∧ fr = .int .i64 f ∧ os.length = j ∧ Hid (Trees (p - j) (l.drop f) mid d') ∧
      Hid (os.map (·.2.2) ++ cut (p - j) (l.drop f) = cut p (l.drop (a + 1))) ∧ Hid (wr.ownsRow w.heap.size 23 1 v os.length (os.flatMap Kid.cells)) ∧
      Hid (∀ o ∈ os, o.2.2.length ≤ l.length ∧ wr.ownsRow w.heap.size 41 5 (Kid.val o) o.2.2.length (o.2.2.flatMap Node.cells)) ∧ f ≤ l.length ∧ Below w.heap.size w wr)
    (fun _ _ i _ => p - (intOf i).toNat)
  case atStart =>
    refine ⟨0, a + 1, [], d, by omega, rfl, by go_num, rfl, Ht.out, rfl, ?_, ?_, by omega, (by repeat (first | exact Below.refl _ _ | refine Below.drew ?_ | refine Below.alloc ?_ (by first | omega | (simp; done) | (simp; omega)) _ | refine Below.setCell ?_ (by first | omega | (simp; done) | (simp; omega)) _ | refine Below.trans ?_ (Below.mono (by assumption) (by first | omega | (simp; done) | (simp; omega)))))⟩
    · exact World.ownsRow_lit w #[] 0 (Nat.le_refl _) (by unfold maxLen; omega) (by simp)
    · intro o ho; cases ho
  case round =>
    obtain ⟨j, f, os, d', hj, rfl, rfl, hos, T, N, O, K, hf, hbl⟩ := hrel
    have hbz := hbl.size
    have e0 := ((hrow.below hbl hb).node ha rfl).1
    by_cases hlt : j < p
    · obtain ⟨n, hn⟩ : ∃ n, p - j = n + 1 := ⟨p - j - 1, by omega⟩
      have T' := T.out
      have N' := N.out
      rw [hn] at T' N'
      obtain ⟨s, d1, d2, hs1, hs2, hend, hcut, T2, Tr⟩ := cut_step T'
      rw [hcut] at N'
      have Hend := Lib.hid hend
      have NN := Lib.hid N'
      have TT := Lib.hid T2
      have Hn := Lib.hid hn
      have hlk : ((l.drop f).take s).length = s := by rw [List.length_take, List.length_drop]; omega
      have Hlk := Lib.hid hlk
      obtain ⟨Av, cv, rfl, hcv1, hcv2⟩ := own_form O.out
      obtain ⟨m, hm⟩ : ∃ m, os.length = m := ⟨_, rfl⟩
      have hO := O.out
      rw [hm] at hO
      have O2 := Lib.hid hO
      have hmj : m = j := by rw [← hm]; exact hos
      have Hm := Lib.hid hm
      have Hmj := Lib.hid hmj
      rw [hm] at hcv1 ⊢
      have hm2 : m ≤ 2 := by omega
      clear T N O T' N' hend hcut T2 hn hlk hO hos hmj hm e0
      have e0 := ((hrow.below hbl hb).node ha rfl).1
      go_wp2_with (first
        | (go_at_call 43; refine (c_ref10_Parts _ _).mono ?_; rintro e w2 ⟨rfl, hb2⟩; rw [Hp.out]; have hz2 := hb2.size)
        | (go_at_call 22; refine (c_ref10_End l _ c _ _ (h.below (by repeat (first | exact Below.refl _ _ | refine Below.drew ?_ | refine Below.alloc ?_ (by first | omega | (simp; done) | (simp; omega)) _ | refine Below.setCell ?_ (by first | omega | (simp; done) | (simp; omega)) _ | refine Below.trans ?_ (Below.mono (by assumption) (by first | omega | (simp; done) | (simp; omega))))))).mono ?_; rintro e w3 ⟨rfl, hb3⟩; rw [Hend.out]; have hz3 := hb3.size)
        | (at_builtin; refine Stop.out ?_))
      refine Stop.mk (wpList_app _ rfl (.tmp 34) (.tmp 38) EN rfl w3.heap.size (.slice (some ⟨w3.heap.size, 0, none⟩) 0 0) 0 [] rfl (World.ownsRow_lit w3 #[] 0 (Nat.le_refl _) (by unfold maxLen; omega) (by simp)) _ _ _ (((l.drop f).take s).flatMap Node.cells) rfl ?_ (nodes_one _) (by omega) ?_ ?_)
      · have hB : Below w.heap.size w (w3.alloc (.cells #[] 41)) := (by repeat (first | exact Below.refl _ _ | refine Below.drew ?_ | refine Below.alloc ?_ (by first | omega | (simp; done) | (simp; omega)) _ | refine Below.setCell ?_ (by first | omega | (simp; done) | (simp; omega)) _ | refine Below.trans ?_ (Below.mono (by assumption) (by first | omega | (simp; done) | (simp; omega)))))
        have hsub := (h.below hB).sub (i := f) (j := f + s) (by omega) hs2 ⟨by simp only [World.size_alloc]; omega, hrow.below hB hb⟩
        rw [show f + s - f = s by omega] at hsub ⊢
        have h1 := Src.of_in Node.cells_len (by omega) hsub
        rw [Hlk.out] at h1
        exact h1
      · simp only [World.size_alloc]; omega
      intro v4 w4 own4 g4 b4 at4
      obtain ⟨A4, c4, rfl, _, _⟩ := own_form own4
      rw [show 0 + (f + s - f) = s by omega, List.nil_append] at own4
      have hz4 := g4.size
      simp only [World.size_alloc] at hz4
      have hb4 : Below w.heap.size w w4 := by
        refine Below.trans (b := w3.alloc (.cells #[] 41)) (by repeat (first | exact Below.refl _ _ | refine Below.drew ?_ | refine Below.alloc ?_ (by first | omega | (simp; done) | (simp; omega)) _ | refine Below.setCell ?_ (by first | omega | (simp; done) | (simp; omega)) _ | refine Below.trans ?_ (Below.mono (by assumption) (by first | omega | (simp; done) | (simp; omega))))) (b4.mono (by omega))
      have keep4 : ∀ (b1 : Nat) (e1 : TypeId) (s1 n1 : Nat) (v1 : Value) (x1 : List Value), wr.ownsRow b1 e1 s1 v1 n1 x1 → w4.ownsRow b1 e1 s1 v1 n1 x1 := by
        intro b1 e1 s1 n1 v1 x1 h1
        have h2 := own_below (own_below h1 hb2) hb3
        refine own_kept_lt (g := w3.heap.size) (own_below h2 ((Below.refl _ _).alloc (Nat.le_refl _) _)) g4 (fun k hk => ?_)
        have := (h2.lt k hk).2
        omega
      have K4 := Lib.hid keep4
      have O4 := Lib.hid own4
      clear own4 keep4 at4 b4 g4
      go_wp2_with ((at_builtin; refine Stop.out ?_))
      refine Stop.mk (wpList_app _ rfl (.tmp 33) (.tmp 40) EK rfl w.heap.size (.slice Av m cv) m (os.flatMap Kid.cells) rfl (own_below (K4.out _ _ _ _ _ _ O2.out) ((Below.refl _ _).alloc (Nat.le_refl _) _)) _ 1 1 [.slice A4 s c4] rfl (Src.new _ _ _ _ rfl) (by simp [Value.oneCell']) (by omega) ?_ ?_)
      · simp only [World.size_alloc]; omega
      intro v5 w5 own5 g5 b5 at5
      go_wp2_with (fail)
      have hz5 := g5.size
      have hb5 : Below w.heap.size w w5 := by
        refine Below.trans (b := w4.alloc (.cells #[.slice A4 s c4] 23)) (by repeat (first | exact Below.refl _ _ | refine Below.drew ?_ | refine Below.alloc ?_ (by first | omega | (simp; done) | (simp; omega)) _ | refine Below.setCell ?_ (by first | omega | (simp; done) | (simp; omega)) _ | refine Below.trans ?_ (Below.mono (by assumption) (by first | omega | (simp; done) | (simp; omega))))) (b5.mono (by omega))
      go_roundw
      case rel =>
        have hnn := NN.out
        refine ⟨j + 1, f + s, os ++ [(A4, c4, (l.drop f).take s)], d1, by omega, by go_num, by go_num, by have := Hmj.out; simp [Hm.out, this], ?_, ?_, ?_, ?_, by omega, hb5⟩
        · show Trees _ _ _ _
          rw [show p - (j + 1) = n by have := Hn.out; omega]; exact TT.out
        · show _ = _
          rw [show p - (j + 1) = n by have := Hn.out; omega, ← hnn]
          simp
        · show World.ownsRow _ _ _ _ _ _ _
          have e : (os ++ [((A4, c4, (l.drop f).take s) : Kid)]).flatMap Kid.cells = os.flatMap Kid.cells ++ [.slice A4 s c4] := by
            simp only [List.flatMap_append, List.flatMap_cons, List.flatMap_nil, Kid.cells, Kid.val, Hlk.out, List.append_nil]
          rw [e, List.length_append, Hm.out]
          exact own5
        · intro o ho
          have keep5 : ∀ {b1 : Nat} {s1 n1 : Nat} {v1 : Value} {x1 : List Value}, w4.ownsRow b1 41 s1 v1 n1 x1 → w5.ownsRow b1 41 s1 v1 n1 x1 := by
            intro b1 s1 n1 v1 x1 h1
            exact own_kept_ne (own_below h1 ((Below.refl _ _).alloc (Nat.le_refl _) _)) (own_below (K4.out _ _ _ _ _ _ O2.out) ((Below.refl _ _).alloc (Nat.le_refl _) _)) (by decide) g5
          rcases List.mem_append.1 ho with ho | ho
          · exact ⟨(K.out o ho).1, keep5 (K4.out _ _ _ _ _ _ (K.out o ho).2)⟩
          · simp only [List.mem_singleton] at ho
            subst ho
            refine ⟨by show _ ≤ _; rw [Hlk.out]; omega, ?_⟩
            show World.ownsRow _ _ _ _ (.slice A4 (List.length _) c4) _ _
            rw [Hlk.out]
            exact own_base (keep5 O4.out) (by omega)
      case measure => simp [intOf]; omega
    · have hjp : j = p := by omega
      have hp0 : p - j = 0 := by omega
      have N' := N.out
      rw [hp0] at N'
      obtain ⟨Av, cv, rfl, hcv1, hcv2⟩ := own_form O.out
      have e0 := ((hrow.below hbl hb).node ha rfl).1
      have NN := Lib.hid N'
      clear N N' T Ht hp0 hos
      go_wp2_with (first
        | (go_at_call 43; refine (c_ref10_Parts _ _).mono ?_; rintro e w2 ⟨rfl, hb2⟩; rw [Hp.out]; have hz2 := hb2.size))
      go_ret
      refine ⟨os, ?_, ⟨_, rfl, own_below O.out hb2, (by repeat (first | exact Below.refl _ _ | refine Below.drew ?_ | refine Below.alloc ?_ (by first | omega | (simp; done) | (simp; omega)) _ | refine Below.setCell ?_ (by first | omega | (simp; done) | (simp; omega)) _ | refine Below.trans ?_ (Below.mono (by assumption) (by first | omega | (simp; done) | (simp; omega)))))⟩, fun o ho => ?_⟩
      · have := NN.out; simpa [cut] using this
      · obtain ⟨h1, h2⟩ := K.out o ho
        obtain ⟨A', c', he, hin⟩ := In.of_own Node.cells_len (own_below h2 hb2) (by omega)
        have e1 : o.1 = A' ∧ o.2.1 = c' := by
          have := he
          simp only [Kid.val, Value.slice.injEq, true_and] at this
          exact this
        rw [e1.1, e1.2]; exact hin
end Go.Proofs.Ytbidnflcbgnckaa
namespace Go.Proofs.Ytbidnflcbgnckaa
open Go.RowKit

theorem elemN : Elem Try.prog 23 41 5 48 := Elem.mk' Try.underlying23 (z := .agg #[.int .i64 0, .int .i64 0, .int .i64 0, .int .i64 0, .string ⟨#[]⟩]) (by kernel_rfl) rfl (by omega) (by omega)
theorem own_zero {w : World} {e : TypeId} {size cap : Nat} {C : Array Value} (hC : C.size = cap * size) (hm : cap ≤ maxLen) : (w.drew.alloc (.cells C e)).ownsRow w.heap.size e size (.slice (some ⟨w.heap.size, 0, none⟩) 0 cap) 0 [] :=
  ⟨by simp, .inr ⟨w.heap.size, cap, C, rfl, Nat.le_refl _, heap_alloc_new w.drew _, Nat.zero_le _, hm, hC, by simp⟩⟩
set_option maxHeartbeats 400000 in
theorem c_Grow_n (n : Nat) (w : World) (hn : n ≤ 8589934592) : Calls Try.prog 72 #[.slice none 0 0, .int .i64 n] w (RetS 5 Node.cells 41 w []) := by
  have EN := elemN
  by_cases h0 : n = 0
  · subst h0
    go_enter Try.func72, Try.ntmps72
    go_wp2_with (fail)
    go_ret
    exact ⟨_, rfl, World.ownsRow_nil _ _ _ _, Below.refl _ _⟩
  · have hpos : 0 < n := by omega
    go_enter Try.func72, Try.ntmps72
    go_wp2_with ((at_builtin; refine Stop.out ?_))
    obtain ⟨i, z, h2, h3, h4, h5, h6⟩ := EN.info
    have hb : n * i.bytes ≤ 281474976710656 := by rw [h5]; omega
    have hge := grownCap_ge w n 0 41
    have hcm := grownCap_le_maxLen w n 0 41 (by unfold maxLen; omega)
    refine Stop.mk (Lib.wpList_append_run _ rfl (.tmp 20) (.tmp 21) 23 3 rfl _ _ rfl rfl _ _ (Lib.run_append_nil_zeros w _ _ _ _ i z .i64 .i64 EN.under Try.underlying3 h2 h3 n hpos (by omega) (by omega) hb) ?_)
    have hC : (Builtin.zeroCells z.cells n ++ Builtin.zeroCells z.cells (grownCap w n 0 41 - n)).size = grownCap w n 0 41 * 5 := by
      rw [Array.size_append, size_zeroCells, size_zeroCells, h6]; omega
    generalize hcg : grownCap w n 0 41 = cap at hC hcm hge ⊢
    generalize hCg : Builtin.zeroCells z.cells n ++ Builtin.zeroCells z.cells (cap - n) = C at hC ⊢
    have hcm' : cap ≤ 9223372036854775807 := by unfold maxLen at hcm; omega
    have HC := Lib.hid hC
    have HM := Lib.hid hcm
    clear hC hcm hcg hCg h2 h3 h4 h5 h6 hb EN
    go_wp2_with (fail)
    go_ret
    exact ⟨_, rfl, own_zero HC.out HM.out, (by repeat (first | exact Below.refl _ _ | refine Below.drew ?_ | refine Below.alloc ?_ (by first | omega | (simp; done) | (simp; omega)) _ | refine Below.setCell ?_ (by first | omega | (simp; done) | (simp; omega)) _ | refine Below.trans ?_ (Below.mono (by assumption) (by first | omega | (simp; done) | (simp; omega)))))⟩
def sumLen (os : List Kid) : Nat := (os.map (·.2.2.length)).sum
theorem sumLen_at (os : List Kid) (k : Nat) (h : k < os.length) : sumLen (os.drop k) = os[k].2.2.length + sumLen (os.drop (k + 1)) := by
  unfold sumLen
  rw [List.drop_eq_getElem_cons h, List.map_cons, List.sum_cons]
theorem Kid.cells_len (x : Kid) : x.cells.length = 1 := rfl
theorem Row.kid {w : World} {b off : Nat} {l : List Kid} (h : Row 1 Kid.cells w b off l) {i : Nat} (hi : i < l.length) : w.cell? ⟨b, off + i, none⟩ = some l[i].val := by
  have := h i hi 0 _ rfl
  simpa using this
set_option maxHeartbeats 1000000 in
theorem c_Concat (os : List Kid) (A : Option Addr) (c : Nat) (w : World) (h : In 1 Kid.cells w A c os) (hk : ∀ o ∈ os, InN w o.1 o.2.1 o.2.2) (hs : sumLen os ≤ 4294967296) :
    Calls Try.prog 62 #[.slice A os.length c] w (RetS 5 Node.cells 41 w (os.flatMap (·.2.2))) := by
  have hL := h.1
  have hC := h.2.1
  have hS := h.2.2.1
  have EN := elemN
  have Hk := Lib.hid hk
  clear hk
  have H0 : Hid (0 + sumLen (os.drop 0) = sumLen os) := by show _ = _; simp
  go_enter Try.func62, Try.ntmps62
  go_wp2_with (fail)
  go_loopw [3, 5, 11] (fun sz x i wr => ∃ (k m : Nat), k ≤ os.length ∧ i = .int .i64 k ∧ sz = .int .i64 m ∧ Hid (m + sumLen (os.drop k) = sumLen os) ∧ Below w.heap.size w wr) (fun _ _ i _ => os.length - (intOf i).toNat)
  case atStart => exact ⟨0, 0, by omega, rfl, rfl, H0, (by repeat (first | exact Below.refl _ _ | refine Below.drew ?_ | refine Below.alloc ?_ (by first | omega | (simp; done) | (simp; omega)) _ | refine Below.setCell ?_ (by first | omega | (simp; done) | (simp; omega)) _ | refine Below.trans ?_ (Below.mono (by assumption) (by first | omega | (simp; done) | (simp; omega)))))⟩
  case round =>
    obtain ⟨k, m, hkl, rfl, rfl, H, hbl⟩ := hrel
    have hbz := hbl.size
    by_cases hlt : k < os.length
    · obtain ⟨bl, off, rfl, hb, hrow⟩ := h.at hlt
      obtain ⟨⟨A1, c1, l1⟩, ho⟩ : ∃ o, os[k] = o := ⟨_, rfl⟩
      have hcell : wr.cell? ⟨bl, off + k, none⟩ = some (.slice A1 l1.length c1) := by
        have := (hrow.below hbl hb).kid hlt
        rw [ho] at this
        exact this
      have hm := H.out
      rw [sumLen_at os k hlt, ho] at hm
      simp only at hm
      have hm1 : m + l1.length ≤ 4294967296 := by omega
      have HN : Hid (m + l1.length + sumLen (os.drop (k + 1)) = sumLen os) := by show _ = _; omega
      clear h hm H H0 ho
      go_wp2_with (fail)
      go_roundw
      case rel => exact ⟨k + 1, m + l1.length, by omega, by go_num, by go_num, HN, hbl⟩
      case measure => simp [intOf]; omega
    · have hm := H.out
      rw [List.drop_of_length_le (by omega)] at hm
      have hm1 : m ≤ 4294967296 := by omega
      have H2 : Hid (([] : List Node) ++ (os.drop 0).flatMap (·.2.2) = os.flatMap (·.2.2)) := by show _ = _; simp
      clear hm H H0
      go_wp2_with (go_at_call 72; refine (c_Grow_n m _ (by omega)).mono ?_; rintro e w2 ⟨v2, rfl, own2, hb2⟩)
      have hB2 : Below w.heap.size w w2 := (by repeat (first | exact Below.refl _ _ | refine Below.drew ?_ | refine Below.alloc ?_ (by first | omega | (simp; done) | (simp; omega)) _ | refine Below.setCell ?_ (by first | omega | (simp; done) | (simp; omega)) _ | refine Below.trans ?_ (Below.mono (by assumption) (by first | omega | (simp; done) | (simp; omega)))))
      have hz2 := hB2.size
      have own2' : w2.ownsRow w.heap.size 41 5 v2 0 (([] : List Node).flatMap Node.cells) := own_base own2 hbz
      have O2 := Lib.hid own2'
      clear own2 own2' hb2
      obtain ⟨wo, rfl⟩ : ∃ wo : World, wo = wr := ⟨_, rfl⟩
      go_loopw [6, 8, 27] (fun v x i wi => ∃ (k : Nat) (acc : List Node), k ≤ os.length ∧ i = .int .i64 k ∧ acc.length ≤ 4294967296 ∧ Hid (acc.length + sumLen (os.drop k) = sumLen os) ∧ Hid (wi.ownsRow w.heap.size 41 5 v acc.length (acc.flatMap Node.cells)) ∧ Hid (acc ++ (os.drop k).flatMap (·.2.2) = os.flatMap (·.2.2)) ∧ Below w.heap.size w wi)
        (fun _ _ i _ => os.length - (intOf i).toNat)
      case atStart => exact ⟨0, [], by omega, rfl, by simp, by show _ = _; simp, O2.out, H2, hB2⟩
      case round =>
        obtain ⟨k2, acc, hk2, rfl, hacc, HS, O, N, hbi⟩ := hrel
        have hzi := hbi.size
        obtain ⟨Av, cv, rfl, hcv1, hcv2⟩ := own_form O.out
        by_cases hlt2 : k2 < os.length
        · obtain ⟨bl, off, rfl, hb, hrow⟩ := h.at hlt2
          have hin := Hk.out os[k2] (List.getElem_mem hlt2)
          obtain ⟨⟨A1, c1, l1⟩, ho⟩ : ∃ o, os[k2] = o := ⟨_, rfl⟩
          rw [ho] at hin
          have hcell : wr.cell? ⟨bl, off + k2, none⟩ = some (.slice A1 l1.length c1) := by
            have := (hrow.below hbi hb).kid hlt2
            rw [ho] at this
            exact this
          have hm := HS.out
          rw [sumLen_at os k2 hlt2, ho] at hm
          simp only at hm hin
          have hm1 : acc.length + l1.length ≤ 4294967296 := by omega
          have HM : Hid (acc.length + l1.length + sumLen (os.drop (k2 + 1)) = sumLen os) := by show _ = _; omega
          have hn := N.out
          rw [List.drop_eq_getElem_cons hlt2, List.flatMap_cons, ho] at hn
          have HN := Lib.hid hn
          have HI := Lib.hid hin
          clear h hm HS N hn ho hin H2
          go_wp2_with ((at_builtin; refine Stop.out ?_))
          refine Stop.mk (wpList_app _ rfl (.tmp 31) (.tmp 32) EN rfl w.heap.size (.slice Av acc.length cv) acc.length (acc.flatMap Node.cells) rfl O.out A1 l1.length c1 (l1.flatMap Node.cells) rfl (Src.of_in Node.cells_len (by omega) (HI.out.below hbi)) (nodes_one _) (by omega) hzi ?_)
          intro v3 w3 own3 _ hb3 _
          have e : acc.flatMap Node.cells ++ l1.flatMap Node.cells = (acc ++ l1).flatMap Node.cells := by rw [List.flatMap_append]
          rw [e] at own3
          have O3 := Lib.hid own3
          have hB3 : Below w.heap.size w w3 := hbi.trans hb3
          clear own3 e hb3
          go_wp2_with (fail)
          go_roundw
          case rel => exact ⟨k2 + 1, acc ++ l1, by omega, by go_num, by simp only [List.length_append]; omega, by show _ = _; rw [List.length_append]; exact HM.out, by show World.ownsRow _ _ _ _ _ _ _; rw [List.length_append]; exact O3.out, by show _ = _; rw [← HN.out]; simp, hB3⟩
          case measure => simp [intOf]; omega
        · have hn := N.out
          rw [List.drop_of_length_le (by omega)] at hn
          have HN := Lib.hid hn
          clear hn N HS H2
          go_wp2_with (fail)
          go_ret
          exact RetS.of O.out (Nat.le_refl _) (by rw [← HN.out]; simp) hbi
end Go.Proofs.Ytbidnflcbgnckaa
namespace Go.Proofs.Ytbidnflcbgnckaa
open Go.RowKit

set_option maxHeartbeats 400000 in
theorem c_pred_Join (op : Int) (os : List Kid) (A : Option Addr) (c : Nat) (w : World) (h : In 1 Kid.cells w A c os) (hk : ∀ o ∈ os, InN w o.1 o.2.1 o.2.2) (hs : sumLen os ≤ 4294967295) :
    Calls Try.prog 52 #[.int .i64 op, .slice A os.length c] w (RetS 5 Node.cells 41 w (joined op (os.flatMap (·.2.2)))) := by
  have hL := h.1
  have hC := h.2.1
  have hS := h.2.2.1
  have EN := elemN
  have hlen : (os.flatMap (·.2.2)).length = sumLen os := by
    unfold sumLen; rw [List.length_flatMap]
  have Hlen := Lib.hid hlen
  have Hk := Lib.hid hk
  have Hin := Lib.hid h
  clear hlen hk h
  go_enter Try.func52, Try.ntmps52
  go_wp2_with (first
    | (go_at_call 62; refine (c_Concat os A c _ (Hin.out.below ((Below.refl _ _).alloc (Nat.le_refl _) _)) (fun o ho => (Hk.out o ho).below ((Below.refl _ _).alloc (Nat.le_refl _) _)) (by omega)).mono ?_; rintro e w1 ⟨v1, rfl, own1, hb1⟩)
    | (at_builtin; refine Stop.out ?_))
  have hz1 := hb1.size
  simp only [World.size_alloc] at hz1
  have hl := Hlen.out
  obtain ⟨l1, A1, c1, H1, hl1, rfl, in1, own1'⟩ := own_open Node.cells_len own1 (sumLen os) (by omega) (by omega)
  have ownL := own_below (World.ownsRow_lit w #[.int .i64 op, .int .i64 0, .int .i64 0, .int .i64 0, .string ⟨#[]⟩] 1 (Nat.le_refl _) (by unfold maxLen; omega) (by simp) (base := w.heap.size) (e := 41) (size := 5)) hb1
  refine Stop.mk (wpList_app _ rfl (.tmp 7) (.tmp 9) EN rfl w.heap.size (.slice (some ⟨w.heap.size, 0, none⟩) 1 1) 1 _ rfl ownL A1 l1.length c1 (l1.flatMap Node.cells) rfl (Src.of_in Node.cells_len (by omega) in1) (nodes_one _) (by omega) (by omega) ?_)
  intro v3 w3 own3 _ hb3 _
  have e : #[Value.int .i64 op, .int .i64 0, .int .i64 0, .int .i64 0, .string ⟨#[]⟩].toList ++ l1.flatMap Node.cells = (joined op (os.flatMap (·.2.2))).flatMap Node.cells := by rw [H1.out]; rfl
  rw [e, show 1 + l1.length = (joined op (os.flatMap (·.2.2))).length by rw [H1.out]; simp [joined]; omega] at own3
  have O3 := Lib.hid own3
  have hB3 : Below w.heap.size w w3 := Below.trans (b := w1) (by repeat (first | exact Below.refl _ _ | refine Below.drew ?_ | refine Below.alloc ?_ (by first | omega | (simp; done) | (simp; omega)) _ | refine Below.setCell ?_ (by first | omega | (simp; done) | (simp; omega)) _ | refine Below.trans ?_ (Below.mono (by assumption) (by first | omega | (simp; done) | (simp; omega))))) hb3
  clear own3 hb3
  go_wp2_with (fail)
  go_ret
  exact ⟨_, rfl, O3.out, hB3⟩
theorem neq_node (x y : Node) (w : World) (h : x ≠ y) : (binOp .neq 41 x.val y.val).run Try.prog w = .ok (.bool true) w := by
  obtain ⟨o1, n1, k1, m1, s1⟩ := x
  obtain ⟨o2, n2, k2, m2, s2⟩ := y
  unfold Node.val
  by_cases h1 : o1 = o2
  · by_cases h2 : n1 = n2
    · by_cases h3 : k1 = k2
      · by_cases h4 : m1 = m2
        · have h5 : s1 ≠ s2 := fun e => h (by rw [h1, h2, h3, h4, e])
          have h7 : str s1 ≠ str s2 := fun e => h5 (str_inj e)
          simp [go_sem, h1, h2, h3, h4, h5]
        · simp [go_sem, h1, h2, h3, h4]
      · simp [go_sem, h1, h2, h3]
    · simp [go_sem, h1, h2]
  · simp [go_sem, h1]
set_option maxHeartbeats 400000 in
theorem c_ref10_Same (l1 l2 : List Node) (A1 A2 : Option Addr) (c1 c2 : Nat) (w : World) (h1 : InN w A1 c1 l1) (h2 : InN w A2 c2 l2) :
    Calls Try.prog 8 #[.slice A1 l1.length c1, .slice A2 l2.length c2] w (RetV w (.bool (decide (l1 = l2)))) := by
  have hL1 := h1.1
  have hC1 := h1.2.1
  have hS1 := h1.2.2.1
  have hL2 := h2.1
  have hC2 := h2.2.1
  have hS2 := h2.2.2.1
  by_cases hlen : l1.length = l2.length
  case neg =>
    have H : Hid (false = decide (l1 = l2)) := by
      show _ = _
      symm
      rw [decide_eq_false_iff_not]
      exact fun e => hlen (by rw [e])
    go_enter Try.func8, Try.ntmps8
    go_wp2_with (fail)
    go_ret
    exact RetV.bool H.out (by repeat (first | exact Below.refl _ _ | refine Below.drew ?_ | refine Below.alloc ?_ (by first | omega | (simp; done) | (simp; omega)) _ | refine Below.setCell ?_ (by first | omega | (simp; done) | (simp; omega)) _ | refine Below.trans ?_ (Below.mono (by assumption) (by first | omega | (simp; done) | (simp; omega)))))
  have hd : ((l1.length : Int) != (l2.length : Int)) = false := by rw [hlen]; simp
  have HL := Lib.hid hlen
  clear hlen
  go_enter Try.func8, Try.ntmps8
  go_wp2_with (fail)
  go_loopw [5] (fun i wr => ∃ k : Nat, k ≤ l1.length ∧ i = .int .i64 k ∧ Hid (decide (l1.drop k = l2.drop k) = decide (l1 = l2)) ∧ Below w.heap.size w wr) (fun i _ => l1.length - (intOf i).toNat)
  case atStart => exact ⟨0, by omega, rfl, by simp [Hid], Below.refl _ _⟩
  case round =>
    obtain ⟨k, hk, rfl, H, hbl⟩ := hrel
    have hbz := hbl.size
    by_cases hlt : k < l1.length
    · have hlt2 : k < l2.length := by have := HL.out; omega
      obtain ⟨b1, off1, rfl, hb1, hrow1⟩ := h1.at hlt
      obtain ⟨b2, off2, rfl, hb2, hrow2⟩ := h2.at hlt2
      obtain ⟨e0, e1, e2, e3, e4⟩ := (hrow1.below hbl hb1).node hlt rfl
      obtain ⟨f0, f1, f2, f3, f4⟩ := (hrow2.below hbl hb2).node hlt2 rfl
      have hbr1 : b1 < wr.heap.size := by omega
      have hbr2 : b2 < wr.heap.size := by omega
      have hi1 : (0 : Int) ≤ (k : Int) := by omega
      have hi2 : (k : Int) < (l1.length : Int) := by omega
      have hi3 : (k : Int) < (l2.length : Int) := by omega
      have hH := H.out
      rw [List.drop_eq_getElem_cons hlt, List.drop_eq_getElem_cons hlt2] at hH
      clear h1 h2 H
      by_cases hx : l1[k] = l2[k]
      · have HN : Hid (decide (l1.drop (k + 1) = l2.drop (k + 1)) = decide (l1 = l2)) := by show _ = _; rw [← hH, hx]; simp only [List.cons.injEq, true_and]
        rw [← hx] at f0 f1 f2 f3 f4
        clear hH hx
        go_wp2_with (fail)
        refine wp_region_grow (by kernel_rfl) (by kernel_rfl) ?_
        repeat (quiet_step ((first | fail)))
        refine wpQuiet_nil ?_
        intro w2 hb2
        go_wp2_with (fail)
        go_roundw
        case rel => exact ⟨k + 1, by omega, by go_num, HN.out, (by repeat (first | exact Below.refl _ _ | refine Below.drew ?_ | refine Below.alloc ?_ (by first | omega | (simp; done) | (simp; omega)) _ | refine Below.setCell ?_ (by first | omega | (simp; done) | (simp; omega)) _ | refine Below.trans ?_ (Below.mono (by assumption) (by first | omega | (simp; done) | (simp; omega)))))⟩
        case measure => simp [intOf]; omega
      · have HN : Hid (false = decide (l1 = l2)) := by show _ = _; rw [← hH]; symm; rw [decide_eq_false_iff_not]; intro e; injection e with e; exact hx e
        have kn := fun w => neq_node l1[k] l2[k] w hx
        clear hH
        go_wp2_with (fail)
        refine wp_region_grow (by kernel_rfl) (by kernel_rfl) ?_
        repeat (quiet_step ((first | fail)))
        refine wpQuiet_nil ?_
        intro w2 hb2
        go_wp2_with (fail)
        go_ret
        exact RetV.bool HN.out (by repeat (first | exact Below.refl _ _ | refine Below.drew ?_ | refine Below.alloc ?_ (by first | omega | (simp; done) | (simp; omega)) _ | refine Below.setCell ?_ (by first | omega | (simp; done) | (simp; omega)) _ | refine Below.trans ?_ (Below.mono (by assumption) (by first | omega | (simp; done) | (simp; omega)))))
    · have hH := H.out
      rw [List.drop_of_length_le (by omega), List.drop_of_length_le (by have := HL.out; omega)] at hH
      have HN : Hid (true = decide (l1 = l2)) := by show _ = _; rw [← hH]; simp
      clear hH H
      go_wp2_with (fail)
      go_ret
      exact RetV.bool HN.out hbl
end Go.Proofs.Ytbidnflcbgnckaa
namespace Go.Proofs.Ytbidnflcbgnckaa
open Go.RowKit

set_option maxHeartbeats 1000000 in
theorem c_ref10_Depth (n : Nat) : ∀ (l : List Node) (A : Option Addr) (c : Nat) (w : World), l.length ≤ n → InN w A c l →
    Calls Try.prog 23 #[.slice A l.length c] w (RetV w (.int .i64 (depth l))) := by
  induction n with
  | zero =>
    intro l A c w hn h
    have h0 : l.length = 0 := by omega
    have H : Hid (depth l = 0) := by have := List.eq_nil_of_length_eq_zero h0; subst this; rfl
    go_enter Try.func23, Try.ntmps23
    go_wp2_with (fail)
    go_ret
    exact RetV.int H.out.symm (Below.refl _ _)
  | succ n ih =>
    intro l A c w hn h
    have IH := Lib.hid ih
    clear ih
    have hL := h.1
    have hC := h.2.1
    have hS := h.2.2.1
    by_cases h0 : l.length = 0
    · have H : Hid (depth l = 0) := by have := List.eq_nil_of_length_eq_zero h0; subst this; rfl
      go_enter Try.func23, Try.ntmps23
      go_wp2_with (fail)
      go_ret
      exact RetV.int H.out.symm (Below.refl _ _)
    have hl0 : ((l.length : Int) == 0) = false := by simpa using h0
    by_cases h1 : endAt l 0 = l.length
    case neg =>
      have H : Hid (depth l = 0) := by unfold Hid depth; rw [if_pos (.inr h1)]
      have hne : ((endAt l 0 : Int) != (l.length : Int)) = true := by simpa using h1
      go_enter Try.func23, Try.ntmps23
      go_wp2_with (go_at_call 22; refine (c_ref10_End l A c 0 _ h).mono ?_; rintro e w1 ⟨rfl, hb1⟩)
      go_ret
      exact RetV.int H.out.symm (by repeat (first | exact Below.refl _ _ | refine Below.drew ?_ | refine Below.alloc ?_ (by first | omega | (simp; done) | (simp; omega)) _ | refine Below.setCell ?_ (by first | omega | (simp; done) | (simp; omega)) _ | refine Below.trans ?_ (Below.mono (by assumption) (by first | omega | (simp; done) | (simp; omega)))))
    obtain ⟨d, ht⟩ := tree_of_end (by rintro rfl; simp at h0) h1
    have hlt : 0 < l.length := by omega
    have hdt := depth_tree ht
    obtain ⟨x, r, d', hl, htr, hd⟩ := ht.head
    have hx : l[0] = x := by subst hl; rfl
    have hr : l.drop 1 = r := by subst hl; rfl
    rw [← hx, ← hr] at htr
    obtain ⟨hc1, hc2, hc3⟩ := cut_trees htr
    have hdc := depth_cut htr 0 (by omega)
    have hne : ((endAt l 0 : Int) != (l.length : Int)) = false := by simpa using h1
    obtain ⟨ks, hks⟩ : ∃ ks, cut (parts l[0].op).toNat (l.drop (0 + 1)) = ks := ⟨_, rfl⟩
    have hks' : cut (parts l[0].op).toNat (l.drop 1) = ks := hks
    rw [hks'] at hc1 hc2 hc3 hdc
    have hkl : ∀ k ∈ ks, k.length ≤ n := by
      intro k hk
      have := flatten_len ks k hk
      have h2 := congrArg List.length hc2
      simp only [List.append_nil, List.length_drop] at h2
      omega
    have HD : Hid (depth l = (ks.map depth).foldl max 0 + 1) := by
      show _ = _
      rw [hdt, hdc, hd]; omega
    have Hks := Lib.hid hks
    have Hkl := Lib.hid hkl
    have htr0 := Lib.hid htr
    have hp2 := parts_bd l[0].op
    have hkl2 : ks.length ≤ 2 := by omega
    have hpos : ∀ k, 0 ≤ depth k := fun k => (depth_bd k).1
    have hbd : ∀ k ∈ ks, depth k ≤ 4294967296 := by
      intro k hk
      have h3 := (depth_bd k).2
      have h4 := flatten_len ks k hk
      have h2 := congrArg List.length hc2
      simp only [List.append_nil, List.length_drop] at h2
      omega
    have Hpos := Lib.hid hpos
    have Hbd := Lib.hid hbd
    clear h1 ht hdt hl htr hd hx hr hc1 hc2 hc3 hdc hks hks' hkl hp2 hpos hbd
    go_enter Try.func23, Try.ntmps23
    go_wp2_with (go_at_call 22; refine (c_ref10_End l A c 0 _ h).mono ?_; rintro e w1 ⟨rfl, hb1⟩)
    refine (c_ref10_Kids l 0 A c _ (h.below hb1) hlt _ _ htr0.out).mono ?_
    rintro e w2 ⟨os, hos, ⟨v, rfl, own, hb2⟩, hin⟩
    rw [Hks.out] at hos
    have hol : os.length = ks.length := by rw [← hos]; simp
    obtain ⟨Av, cv, rfl, hv1, hv2⟩ := own_form own
    have Hb2 := Lib.hid hb2
    have Own := Lib.hid own
    have Hin := Lib.hid hin
    have Hos := Lib.hid hos
    have hbw : Below w.heap.size w w2 := by refine Below.trans hb1 (hb2.mono hb1.size)
    have Hbw := Lib.hid hbw
    have hol2 : os.length ≤ 2 := by omega
    have Hol := Lib.hid hol
    clear hb1 hb2 own hin hos hol hbw
    go_wp2_with (fail)
    go_loopw [4, 5] (fun m i wr => ∃ (k : Nat) (dm : Int), k ≤ os.length ∧ i = .int .i64 k ∧ m = .int .i64 dm ∧ 0 ≤ dm ∧ dm ≤ 4294967296 ∧ Hid (((ks.take k).map depth).foldl max 0 = dm) ∧ Below w2.heap.size w2 wr)
      (fun _ i _ => os.length - (intOf i).toNat)
    case atStart => exact ⟨0, 0, by omega, rfl, rfl, by omega, by omega, rfl, Below.refl _ _⟩
    case round =>
      obtain ⟨k, dm, hk, rfl, rfl, hd0, hd1, HM, hbl⟩ := hrel
      have hbz := hbl.size
      by_cases hlt2 : k < os.length
      · have hlk : k < ks.length := by have := Hol.out; omega
        have hkk : (os[k]).2.2 = ks[k] := by
          have := Hos.out
          subst this
          simp
        obtain ⟨g, cg, he, hg1, hg2, hg3, hg4⟩ := own_form' Own.out (by omega)
        have hAv : Av = some ⟨g, 0, none⟩ := by simp only [Value.slice.injEq] at he; exact he.1
        subst hAv
        have hcell : wr.cell? ⟨g, k, none⟩ = some (.slice os[k].1 os[k].2.2.length os[k].2.1) := by
          have h1 := Own.out.cells (g := g) rfl k
          rw [add_lit] at h1
          rw [hbl.cell (p := ⟨g, k, none⟩) hg4]
          refine h1 _ ?_
          have := flat_get (k := 1) (cs := Kid.cells) (fun _ => rfl) os k hlt2 0 (by omega)
          rw [Nat.mul_one, Nat.add_zero] at this
          rw [this]; rfl
        have hin := Hin.out os[k] (List.getElem_mem hlt2)
        have hle : (os[k]).2.2.length ≤ n := by rw [hkk]; exact Hkl.out _ (List.getElem_mem hlk)
        have hm2 : depth (os[k]).2.2 = depth ks[k] := by rw [hkk]
        have hpk := Hpos.out ks[k]
        have hbk := Hbd.out ks[k] (List.getElem_mem hlk)
        have Hm2 := Lib.hid hm2
        have Hin2 := Lib.hid (hin.below hbl)
        clear hin hkk hm2 he
        go_wp2_with (go_at_call 23; refine (IH.out _ _ _ _ hle Hin2.out).mono ?_; rintro e w3 ⟨rfl, hb3⟩; rw [Hm2.out])
        go_roundw
        case rel =>
          refine ⟨k + 1, _, by omega, by go_num, rfl, by omega, by omega, ?_, (by repeat (first | exact Below.refl _ _ | refine Below.drew ?_ | refine Below.alloc ?_ (by first | omega | (simp; done) | (simp; omega)) _ | refine Below.setCell ?_ (by first | omega | (simp; done) | (simp; omega)) _ | refine Below.trans ?_ (Below.mono (by assumption) (by first | omega | (simp; done) | (simp; omega)))))⟩
          show _ = _
          rw [List.take_succ_eq_append_getElem hlk, List.map_append, List.foldl_append, HM.out]
          rfl
        case measure => simp [intOf]; omega
      · have HM2 : Hid ((ks.map depth).foldl max 0 = dm) := by
          have h1 := HM.out
          rw [List.take_of_length_le (by have := Hol.out; omega)] at h1
          exact h1
        clear HM
        go_wp2_with (fail)
        go_ret
        refine RetV.int ?_ (Below.trans Hbw.out (hbl.mono Hbw.out.size))
        rw [HD.out, HM2.out]
set_option maxHeartbeats 1000000 in
theorem c_ref10_Check (l : List Node) (A : Option Addr) (c : Nat) (w : World) (h : InN w A c l) (hs : ∀ x ∈ l, x.v.s.length ≤ 9223372036854775807) :
    Calls Try.prog 11 #[.slice A l.length c] w (RetV w (.int .i64 (check l))) := by
  have hL := h.1
  have hC := h.2.1
  have hS := h.2.2.1
  have Hs := Lib.hid hs
  clear hs
  by_cases h31 : 31 < l.length
  · have H : Hid (check l = 4) := by unfold Hid check; rw [if_pos h31]
    go_enter Try.func11, Try.ntmps11
    go_wp2_with (fail)
    go_ret
    exact RetV.int H.out.symm (Below.refl _ _)
  have h31b : decide (31 < (l.length : Int)) = false := by simp; omega
  have hlt31 : l.length ≤ 31 := by omega
  have HC : Hid (check l = if (l.any fun x => !x.ok) = true then 1 else if l.length = 0 ∨ endAt l 0 ≠ l.length then 1 else if 8 < depth l then 5 else 0) := by
    unfold Hid check
    rw [if_neg h31]
    by_cases h1 : l.length = 0 ∨ endAt l 0 ≠ l.length <;> by_cases h2 : (l.any fun x => !x.ok) = true <;> simp only [h1, h2, if_true, if_false, ite_self]
  clear h31
  go_enter Try.func11, Try.ntmps11
  go_wp2_with (fail)
  go_loopw [3] (fun i wr => ∃ k : Nat, k ≤ l.length ∧ i = .int .i64 k ∧ Hid (((l.take k).any fun x => !x.ok) = false) ∧ Below w.heap.size w wr) (fun i _ => l.length - (intOf i).toNat)
  case atStart => exact ⟨0, by omega, rfl, by simp [Hid], Below.refl _ _⟩
  case round =>
    obtain ⟨k, hk, rfl, H, hbl⟩ := hrel
    have hbz := hbl.size
    by_cases hlt : k < l.length
    · obtain ⟨b, off, rfl, hb, hrow⟩ := h.at hlt
      obtain ⟨e0, e1, e2, e3, e4⟩ := (hrow.below hbl hb).node hlt rfl
      have hs1 := Hs.out l[k] (List.getElem_mem hlt)
      clear h
      cases hok : l[k].ok
      · have H1 : Hid (check l = 1) := by
          unfold Hid
          rw [HC.out, if_pos]
          rw [List.any_eq_true]
          exact ⟨l[k], List.getElem_mem hlt, by simp [hok]⟩
        go_wp2_with (go_at_call 21; refine (c_ref10_Node l[k] _ hs1).mono ?_; rintro e w1 ⟨rfl, hb1⟩)
        go_ret
        exact RetV.int H1.out.symm (by repeat (first | exact Below.refl _ _ | refine Below.drew ?_ | refine Below.alloc ?_ (by first | omega | (simp; done) | (simp; omega)) _ | refine Below.setCell ?_ (by first | omega | (simp; done) | (simp; omega)) _ | refine Below.trans ?_ (Below.mono (by assumption) (by first | omega | (simp; done) | (simp; omega)))))
      · go_wp2_with (go_at_call 21; refine (c_ref10_Node l[k] _ hs1).mono ?_; rintro e w1 ⟨rfl, hb1⟩)
        go_roundw
        case rel =>
          refine ⟨k + 1, by omega, by go_num, ?_, (by repeat (first | exact Below.refl _ _ | refine Below.drew ?_ | refine Below.alloc ?_ (by first | omega | (simp; done) | (simp; omega)) _ | refine Below.setCell ?_ (by first | omega | (simp; done) | (simp; omega)) _ | refine Below.trans ?_ (Below.mono (by assumption) (by first | omega | (simp; done) | (simp; omega)))))⟩
          show List.any _ _ = false
          rw [List.take_succ_eq_append_getElem hlt, List.any_append, H.out]
          simp [hok]
        case measure => simp [intOf]; omega
    · have HC2 : Hid (check l = if l.length = 0 ∨ endAt l 0 ≠ l.length then 1 else if 8 < depth l then 5 else 0) := by
        have h1 := H.out
        rw [List.take_of_length_le (by omega)] at h1
        unfold Hid
        rw [HC.out, h1]; simp
      clear H HC
      go_wp2_with (first
        | (go_at_call 22; refine (c_ref10_End l A c 0 _ (h.below hbl)).mono ?_; rintro e w1 ⟨rfl, hb1⟩)
        | (go_at_call 23; refine (c_ref10_Depth l.length l A c _ (Nat.le_refl _) ((h.below hbl).below hb1)).mono ?_; rintro e w3 ⟨rfl, hb3⟩))
      all_goals (go_ret; (try have hz1 := hb1.size); refine RetV.int ?_ (by repeat (first | exact Below.refl _ _ | refine Below.drew ?_ | refine Below.alloc ?_ (by first | omega | (simp; done) | (simp; omega)) _ | refine Below.setCell ?_ (by first | omega | (simp; done) | (simp; omega)) _ | refine Below.trans ?_ (Below.mono (by assumption) (by first | omega | (simp; done) | (simp; omega))))); have HC3 := HC2.out; (try simp only [ne_eq] at *); (simp_all [] <;> first | omega | (intros; omega) | decide | grind))
end Go.Proofs.Ytbidnflcbgnckaa
namespace Go.Proofs.Ytbidnflcbgnckaa
open Go.RowKit

theorem InN.lit (w : World) (l : List Node) (t : TypeId) (n : Nat) (hn : n = l.length) (hl : l.length ≤ 4294967296) : InN (w.alloc (.cells (l.flatMap Node.cells).toArray t)) (some ⟨w.heap.size, 0, none⟩) n l := by
  subst hn
  refine ⟨Nat.le_refl _, by omega, hl, .inr ⟨_, 0, rfl, by simp, fun i hi j u hu => ?_⟩⟩
  have hj : j < 5 := by rw [← Node.cells_len l[i]]; exact (List.getElem?_eq_some_iff.1 hu).1
  rw [World.cell?_alloc_new, Nat.zero_add]
  have := flat_get (k := 5) Node.cells_len l i hi j hj
  rw [List.getElem?_toArray, this]; exact hu
end Go.Proofs.Ytbidnflcbgnckaa
namespace Go.Proofs.Ytbidnflcbgnckaa
open Go.RowKit

theorem In.lit {α : Type} {k : Nat} {cs : α → List Value} (hk : ∀ x, (cs x).length = k) (w : World) (l : List α) (t : TypeId) (n : Nat) (hn : n = l.length) (hl : l.length ≤ 4294967296) : In k cs (w.alloc (.cells (l.flatMap cs).toArray t)) (some ⟨w.heap.size, 0, none⟩) n l := by
  subst hn
  refine ⟨Nat.le_refl _, by omega, hl, .inr ⟨_, 0, rfl, by simp, fun i hi j u hu => ?_⟩⟩
  have hj : j < k := by rw [← hk l[i]]; exact (List.getElem?_eq_some_iff.1 hu).1
  rw [World.cell?_alloc_new, Nat.zero_add]
  have := flat_get (k := k) hk l i hi j hj
  rw [List.getElem?_toArray, this]; exact hu
end Go.Proofs.Ytbidnflcbgnckaa
namespace Go.Proofs.Ytbidnflcbgnckaa
open Go.RowKit

theorem c_parse_next (ks : List Int) (K : Option Addr) (kc : Nat) (ws : List Wd) (b : Nat) (N : Int) (w : World) (h : Rdr w b N ws) (hK : InI w K kc ks) : Calls Try.prog 68 #[.pointer (some ⟨b, 0, none⟩), .slice K ks.length kc] w (RetX w b N ks ws) := by
  cases ws with
  | nil => exact c_parse_next_nil ks K kc b N w h hK
  | cons x r => exact c_parse_next_cons ks K kc x r b N w h hK
def VI (_ : World) (a : Int) (v : Value) : Prop := v = .int .i64 a
def VL (b : Nat) (w : World) (l : List Node) (v : Value) : Prop := ∃ A c, v = .slice A l.length c ∧ InN w A c l ∧ ∀ ad, A = some ad → ad.block ≠ b
set_option maxHeartbeats 1000000 in
theorem c_parse_number (below : Int) (ws : List Wd) (b : Nat) (N : Int) (w : World) (h : Rdr w b N ws) : Calls Try.prog 70 #[.pointer (some ⟨b, 0, none⟩), .int .i64 below] w (RetPr w b N VI (pNum N below ws)) := by
  obtain ⟨w1, hw1⟩ : ∃ w1, w1 = w.alloc (.cells #[.int .i64 2] 3) := ⟨_, rfl⟩
  have b1 : Below w.heap.size w w1 := by rw [hw1]; exact (by repeat (first | exact Below.refl _ _ | refine Below.drew ?_ | refine Below.alloc ?_ (by first | omega | (simp; done) | (simp; omega)) _ | refine Below.setCell ?_ (by first | omega | (simp; done) | (simp; omega)) _ | refine Below.trans ?_ (Below.mono (by assumption) (by first | omega | (simp; done) | (simp; omega)))))
  have IK : InI w1 (some ⟨w.heap.size, 0, none⟩) 1 [2] := by rw [hw1]; exact In.lit (k := 1) (cs := ic) ic_len w [2] _ 1 rfl (by simp)
  have CN := Lib.hid (c_parse_next [2] _ 1 ws b N w1 (h.below b1) IK)
  have S1 := Lib.hid b1
  have s1 := b1.size
  have hbl := h.lt
  clear b1 IK h
  cases ws with
  | nil =>
    go_enter Try.func70, Try.ntmps70
    go_wp2_with (rw [← hw1]; clear hw1)
    refine CN.out.mono ?_
    rintro e w2 ⟨rfl, K2⟩
    unfold pan
    go_wp2_with (fail)
    exact ⟨rfl, rfl, (Kept.of_below S1.out).trans (K2.mono s1)⟩
  | cons x r =>
    by_cases hk : x.kind = 2
    · have hm : x.kind ∈ [2] := by simp [hk]
      by_cases hn : below ≤ x.n
      · have P := Lib.hid (show pNum N below (x :: r) = .bad x.pos 1 by simp [pNum, hk, hn])
        have bn : decide (below ≤ x.n) = true := by simpa using hn
        have HM := Lib.hid hm
        clear hk hn hm
        go_enter Try.func70, Try.ntmps70
        go_wp2_with (rw [← hw1]; clear hw1)
        refine CN.out.mono ?_
        intro e w2 h2
        replace h2 : (if x.kind ∈ [2] then _ else _ : Prop) := h2
        rw [if_pos HM.out] at h2
        obtain ⟨rfl, K2, R2⟩ := h2
        have HK := Lib.hid K2
        clear K2 R2
        go_wp2_with (fail)
        refine ⟨rfl, ?_⟩
        rw [P.out]
        have hb3 : Below w2.heap.size w2 (w2.alloc (.cells #[.int .i64 x.kind, .int .i64 x.n, .int .i64 x.pos, .string (str x.s)] 65)) := (by repeat (first | exact Below.refl _ _ | refine Below.drew ?_ | refine Below.alloc ?_ (by first | omega | (simp; done) | (simp; omega)) _ | refine Below.setCell ?_ (by first | omega | (simp; done) | (simp; omega)) _ | refine Below.trans ?_ (Below.mono (by assumption) (by first | omega | (simp; done) | (simp; omega)))))
        exact ⟨rfl, ((Kept.of_below S1.out).trans (HK.out.mono s1)).then_below hb3 (by have := HK.out.size; omega)⟩
      · have P := Lib.hid (show pNum N below (x :: r) = .ok x.n r by simp [pNum, hk, hn])
        have bn : decide (below ≤ x.n) = false := by simpa using hn
        have HM := Lib.hid hm
        clear hk hn hm
        go_enter Try.func70, Try.ntmps70
        go_wp2_with (rw [← hw1]; clear hw1)
        refine CN.out.mono ?_
        intro e w2 h2
        replace h2 : (if x.kind ∈ [2] then _ else _ : Prop) := h2
        rw [if_pos HM.out] at h2
        obtain ⟨rfl, K2, R2⟩ := h2
        have HK := Lib.hid K2
        have HR := Lib.hid R2
        clear K2 R2
        go_wp2_with (fail)
        go_ret
        rw [P.out]
        have hb3 : Below w2.heap.size w2 (w2.alloc (.cells #[.int .i64 x.kind, .int .i64 x.n, .int .i64 x.pos, .string (str x.s)] 65)) := (by repeat (first | exact Below.refl _ _ | refine Below.drew ?_ | refine Below.alloc ?_ (by first | omega | (simp; done) | (simp; omega)) _ | refine Below.setCell ?_ (by first | omega | (simp; done) | (simp; omega)) _ | refine Below.trans ?_ (Below.mono (by assumption) (by first | omega | (simp; done) | (simp; omega)))))
        exact ⟨_, rfl, rfl, ((Kept.of_below S1.out).trans (HK.out.mono s1)).then_below hb3 (by have := HK.out.size; omega), HR.out.below hb3⟩
    · have P := Lib.hid (show pNum N below (x :: r) = .bad x.pos 3 by simp [pNum, hk])
      have HM := Lib.hid (show x.kind ∉ [2] by simpa using hk)
      clear hk
      go_enter Try.func70, Try.ntmps70
      go_wp2_with (rw [← hw1]; clear hw1)
      refine CN.out.mono ?_
      intro e w2 h2
      replace h2 : (if x.kind ∈ [2] then _ else _ : Prop) := h2
      rw [if_neg HM.out] at h2
      obtain ⟨rfl, K2⟩ := h2
      unfold pan
      go_wp2_with (fail)
      refine ⟨rfl, ?_⟩
      rw [P.out]
      exact ⟨rfl, (Kept.of_below S1.out).trans (K2.mono s1)⟩
/-- A new list of nodes. -/
def RetL (w : World) (l : List Node) (e : Ending) (w' : World) : Prop := ∃ A c, e = .returned (.slice A l.length c) ∧ Below w.heap.size w w' ∧ InN w' A c l ∧ ∀ ad, A = some ad → w.heap.size ≤ ad.block
set_option maxHeartbeats 1000000 in
theorem c_parse_node (op n : Int) (x : Val) (w : World) : Calls Try.prog 69 #[.int .i64 op, .int .i64 n, x.val] w (RetL w (nd op n x)) := by
  unfold Val.val
  go_enter Try.func69, Try.ntmps69
  go_wp2_with (fail)
  go_ret
  have i1 := InN.lit (w.alloc (.cells #[.int .i64 x.kind, .int .i64 x.n, .string (str x.s)] 39)) (nd op n x) 41 1 rfl (by simp [nd])
  rw [World.size_alloc] at i1
  refine ⟨_, _, rfl, (by repeat (first | exact Below.refl _ _ | refine Below.drew ?_ | refine Below.alloc ?_ (by first | omega | (simp; done) | (simp; omega)) _ | refine Below.setCell ?_ (by first | omega | (simp; done) | (simp; omega)) _ | refine Below.trans ?_ (Below.mono (by assumption) (by first | omega | (simp; done) | (simp; omega))))), i1, ?_⟩
  intro ad e
  injection e with e
  subst e
  simp
/-- What stands behind a reader's call: the call's part of the state. -/
structure At11 (w : World) (b : Nat) (N : Int) (ws : List Wd) (w' : World) : Prop where
  K : Kept (some b) w.heap.size w w'
  R : Rdr w' b N ws
theorem At11.start {w : World} {b : Nat} {N : Int} {ws : List Wd} (h : Rdr w b N ws) : At11 w b N ws w := ⟨Kept.refl _ _ _, h⟩
theorem At11.below {w w1 w2 : World} {b : Nat} {N : Int} {ws : List Wd} (h : At11 w b N ws w1) (hb : Below w1.heap.size w1 w2) : At11 w b N ws w2 := ⟨h.K.then_below hb h.K.size, h.R.below hb⟩
theorem At11.call {w w1 w2 : World} {b : Nat} {N : Int} {ws r : List Wd} (h : At11 w b N ws w1) (hk : Kept (some b) w1.heap.size w1 w2) (hr : Rdr w2 b N r) : At11 w b N r w2 := ⟨h.K.then_kept hk h.K.size, hr⟩
theorem At11.bad {w w1 w2 : World} {b : Nat} {N : Int} {ws : List Wd} (h : At11 w b N ws w1) (hk : Kept (some b) w1.heap.size w1 w2) : Kept (some b) w.heap.size w w2 := h.K.then_kept hk h.K.size
/-- The next word, by its kinds laid in a new row. -/
theorem next_lit (ks : List Int) (ws : List Wd) (b : Nat) (N : Int) (w1 w2 : World) (R : Rdr w1 b N ws) (h : w2 = w1.alloc (.cells (ks.flatMap ic).toArray 3)) (hl : ks.length ≤ 4294967296) :
    Calls Try.prog 68 #[.pointer (some ⟨b, 0, none⟩), .slice (some ⟨w1.heap.size, 0, none⟩) ks.length ks.length] w2 (fun e w3 => RetX w1 b N ks ws e w3) := by
  have b1 : Below w1.heap.size w1 w2 := by rw [h]; exact (by repeat (first | exact Below.refl _ _ | refine Below.drew ?_ | refine Below.alloc ?_ (by first | omega | (simp; done) | (simp; omega)) _ | refine Below.setCell ?_ (by first | omega | (simp; done) | (simp; omega)) _ | refine Below.trans ?_ (Below.mono (by assumption) (by first | omega | (simp; done) | (simp; omega)))))
  have s1 := b1.size
  refine (c_parse_next ks _ ks.length ws b N w2 (R.below b1) (by rw [h]; exact In.lit (k := 1) (cs := ic) ic_len w1 ks _ _ rfl hl)).mono ?_
  intro e w3 h3
  cases ws with
  | nil =>
    obtain ⟨h4, h5⟩ := h3
    exact ⟨h4, (Kept.of_below b1).trans (h5.mono s1)⟩
  | cons x r =>
    replace h3 : (if x.kind ∈ ks then _ else _ : Prop) := h3
    show (if x.kind ∈ ks then _ else _ : Prop)
    by_cases hk : x.kind ∈ ks
    · rw [if_pos hk] at h3 ⊢
      exact ⟨h3.1, (Kept.of_below b1).trans (h3.2.1.mono s1), h3.2.2⟩
    · rw [if_neg hk] at h3 ⊢
      exact ⟨h3.1, (Kept.of_below b1).trans (h3.2.mono s1)⟩
end Go.Proofs.Ytbidnflcbgnckaa
