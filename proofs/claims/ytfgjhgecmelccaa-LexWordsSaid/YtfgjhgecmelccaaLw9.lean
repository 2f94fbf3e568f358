/-
  Lemmas (walks and plain laws), in one text.
-/
import Derived.Test.YtfgjhgecmelccaaLw8
import Derived.WalkKit
import Derived.WalkSpells
import Derived.WalkLawsBesides
import Derived.Lib.Hide
import Derived.Deep.QuietTactic
import Derived.BigQuiet
import Derived.Maps.AppendAt
import Derived.WalkSmall
import Derived.StillTail
import Derived.RangeFuncNested
import Derived.RangeFuncCalls
import Derived.OrdersIn
import Derived.ControlIn
import Derived.Test.YtfgjhgecmelccaaProg
import Derived.Deep.CutBlock
import Derived.Deep.DeepCutAuto
import Derived.Deep.AppendSrc
import Derived.Lib.AppendStr
import Derived.Laws.BytesArg
import Derived.WalkMore
import Derived.ScopeJumps
import Derived.Lib.Bytealg
import Derived.Laws.Externs
import Derived.Laws.IdiomStrings
import Derived.Outline
import Derived.IntWalk
import Derived.Laws.Tables
import Derived.Laws.Rows
import Derived.ChangeKeysEq
import Derived.Laws.StructEq
import Derived.RangeFuncBound
import Derived.RangeFuncLeaves
import Derived.OwnWalkIn
import Derived.LoopIn
import Derived.Shelf.Abstract
import Derived.Test.YtfgjhgecmelccaaRows
import Derived.ProofKit
import Derived.OpenShut
import Derived.JoinedCond
import Derived.Deep.Slices
import Derived.Deep.Fields
import Derived.Carry
namespace Go.Proofs.Ytfgjhgecmelccaa
open Go.RowKit

theorem Kept.grown {p : Nat} {w w' : World} (h : Kept (some p) w.heap.size w w') : w.grownBy w' (some p) := ⟨h.os, h.tape, h.output, h.size, fun k hk hne => h.block k hk (fun e => hne e.symm)⟩
def Wd.cells (x : Wd) : List Value := [.int .i64 x.kind, .int .i64 x.n, .int .i64 x.pos, .string (str x.s)]
theorem Wd.cells_len (x : Wd) : (Wd.cells x).length = 4 := rfl
theorem wds_one (l : List Wd) : ∀ u ∈ l.flatMap Wd.cells, u.oneCell' = true := by
  intro u hu
  obtain ⟨x, _, hx⟩ := List.mem_flatMap.1 hu
  simp only [Wd.cells, List.mem_cons, List.not_mem_nil, or_false] at hx
  rcases hx with rfl | rfl | rfl | rfl <;> rfl
theorem elemW : Elem Try.prog 23 34 4 40 := Elem.mk' (z := .agg (wdA 0 0 0 [])) Try.underlying23 (by kernel_rfl) rfl (by omega) (by omega)
/-- The words of a text, and the place of what is wrong. -/
def lexS (s : List UInt8) : List Wd × Option Nat := lexF s.length s 0
/-- How far a text has been cut. -/
def LexAt (s : List UInt8) (acc : List Wd) (k : Nat) : Prop := lexS s = (acc ++ (lexF (s.drop k).length (s.drop k) k).1, (lexF (s.drop k).length (s.drop k) k).2) ∧ k ≤ s.length ∧ acc.length ≤ k
theorem LexAt.start (s : List UInt8) : LexAt s [] 0 := ⟨by simp [lexS], by omega, by simp⟩
theorem LexAt.done {s : List UInt8} {acc : List Wd} (h : LexAt s acc s.length) : lexS s = (acc, none) := by rw [h.1, List.drop_length]; simp [lexF]
theorem LexAt.blank {s : List UInt8} {acc : List Wd} {k : Nat} (h : LexAt s acc k) (hk : k < s.length) (hc : s[k].toNat = 32) : LexAt s acc (k + 1) := by
  have e : s[k] = 32 := UInt8.toNat_inj.1 hc
  refine ⟨?_, by omega, by have := h.2.2; omega⟩
  rw [h.1, List.drop_eq_getElem_cons hk, List.length_cons, lexF, if_pos e]
theorem LexAt.bad {s : List UInt8} {acc : List Wd} {k : Nat} (h : LexAt s acc k) (hk : k < s.length) (hc : s[k].toNat ≠ 32) (hf : fst (s.drop k) = none) : (lexS s).2 = some k := by
  have e : s[k] ≠ 32 := fun e => hc (by rw [e]; rfl)
  rw [h.1, List.drop_eq_getElem_cons hk, List.length_cons, lexF, if_neg e]
  rw [List.drop_eq_getElem_cons hk] at hf
  rw [hf]
theorem LexAt.word {s : List UInt8} {acc : List Wd} {k : Nat} {x : Fst} (h : LexAt s acc k) (hk : k < s.length) (hc : s[k].toNat ≠ 32) (hf : fst (s.drop k) = some x) : LexAt s (acc ++ [⟨x.kind, x.n, k, x.s⟩]) (k + x.len) ∧ 0 < x.len ∧ k + x.len ≤ s.length := by
  have e : s[k] ≠ 32 := fun e => hc (by rw [e]; rfl)
  obtain ⟨_, h1, h2⟩ := fst_may hf
  rw [List.length_drop] at h2
  have hd : (s.drop k).length = s.length - k := List.length_drop
  refine ⟨⟨?_, by omega, by have := h.2.2; simp; omega⟩, h1, by omega⟩
  have hx := hf
  rw [List.drop_eq_getElem_cons hk] at hx
  rw [h.1, List.drop_eq_getElem_cons hk, List.length_cons, lexF, if_neg e, hx]
  simp only
  rw [← List.drop_eq_getElem_cons hk, List.drop_drop, lexF_more _ _ _ (by simp only [List.length_drop]; omega)]
  simp
/-- The end of All. -/
def RetAll (wt : TypeId) (w : World) (s : List UInt8) (e : Ending) (w' : World) : Prop :=
  Below w.heap.size w w' ∧ ((1000 < s.length ∧ e = .returned (.tuple #[.slice none 0 0, .int .i64 0, .int .i64 4])) ∨
    (s.length ≤ 1000 ∧ ((∃ k : Nat, (lexS s).2 = some k ∧ e = .returned (.tuple #[.slice none 0 0, .int .i64 k, .int .i64 3])) ∨
      (∃ v ws, lexS s = (ws, none) ∧ e = .returned (.tuple #[v, .int .i64 0, .int .i64 0]) ∧ w'.ownsRow w.heap.size wt 4 v ws.length (ws.flatMap Wd.cells)))))
set_option maxHeartbeats 400000 in
theorem lex_All_long (s : List UInt8) (w : World) (h : 1000 < s.length) (hs : s.length ≤ 9223372036854775807) : Calls Try.prog 6 #[.string (str s)] w (RetAll 34 w s) := by
  have d1 : decide ((1000 : Int) < (s.length : Int)) = true := by rw [decide_eq_true_iff]; omega
  go_enter Try.func6, Try.ntmps6
  go_wp2_with (fail)
  go_ret3
  exact ⟨(by repeat (first | exact Below.refl _ _ | refine Below.drew ?_ | refine Below.alloc ?_ (by first | omega | (simp; done) | (simp; omega)) _ | refine Below.setCell ?_ (by first | omega | (simp; done) | (simp; omega)) _ | refine Below.trans ?_ (Below.mono (by assumption) (by first | omega | (simp; done) | (simp; omega))))), .inl ⟨h, rfl⟩⟩
set_option maxHeartbeats 4000000 in
set_option maxRecDepth 4000 in
theorem lex_All_in (s : List UInt8) (w : World) (hs : s.length ≤ 1000) : Calls Try.prog 6 #[.string (str s)] w (RetAll 34 w s) := by
  have d1 : decide ((1000 : Int) < (s.length : Int)) = false := by rw [decide_eq_false_iff_not]; omega
  go_enter Try.func6, Try.ntmps6
  go_wp2_with (fail)
  go_loopw [5, 6] (fun v i wr => ∃ (k : Nat) (acc : List Wd) (v0 : Value), v = v0 ∧ i = .int .i64 k ∧ Hid (LexAt s acc k) ∧ Hid (wr.ownsRow w.heap.size 34 4 v acc.length (acc.flatMap Wd.cells)) ∧ Hid (Below w.heap.size w wr))
    (fun _ i _ => s.length - (intOf i).toNat)
  case atStart => exact ⟨0, [], _, rfl, rfl, LexAt.start s, World.ownsRow_nil _ _ _ _, Below.refl _ _⟩
  case round =>
    obtain ⟨k, acc, v0, rfl, rfl, H, O, B1⟩ := hrel
    obtain ⟨A9, c9, rfl, -, -⟩ := own_form O.out
    have hz := B1.out.size
    have hkl := H.out.2.1
    have hal := H.out.2.2
    by_cases hlt : k < s.length
    · have dl : decide (k < s.length) = true := by simpa using hlt
      by_cases g1 : s[k].toNat = 32
      · have j1 : ((s[k].toNat : Int) == 32) = true := by rw [beq_iff_eq]; omega
        have H2 := Lib.hid (H.out.blank hlt g1)
        clear H g1
        go_wp2_with (fail)
        go_roundw
        case rel => exact ⟨k + 1, acc, _, rfl, by go_num, H2.out, O.out, B1.out⟩
        case measure => simp [intOf]; omega
      · have j1 : ((s[k].toNat : Int) == 32) = false := by rw [beq_eq_false_iff_ne]; omega
        have HC := Lib.hid g1
        clear g1
        have CF := Lib.hid (fun w' => show Calls Try.prog 14 #[.string (str (s.drop k))] w' (RetV w' (fstT (fst (s.drop k)) 0 0)) by rw [List.drop_eq_getElem_cons hlt]; exact c_lex_first _ _ w' (by rw [List.length_drop]; omega))
        have hx : List.take (s.length - k) (List.drop k s) = List.drop k s := List.take_of_length_le (by rw [List.length_drop]; omega)
        cases hf : fst (s.drop k) with
        | none =>
          rw [hf] at CF
          have H2 := Lib.hid (H.out.bad hlt HC.out hf)
          clear hf H
          go_wp2_with (fail)
          refine (CF.out _).mono ?_
          rintro e w1 ⟨rfl, hb1⟩
          replace B1 := Lib.hid (B1.out.trans (hb1.mono hz))
          clear hb1 hz
          unfold fstT
          go_wp2_with (with_reducible refine stop_store 34 (.tmp 7) (.tmp 27) rfl rfl ?_)
          refine Stop.mk (wpList_storeB rfl _ _ _ rfl w1.heap.size (wdA 0 0 0 []) rfl rfl _ (Blk.new _ _ _) strWd rfl rfl (by simp [Value.oneCell']) ?_)
          intro w3 hb3 hk3
          replace B1 := Lib.hid (B1.out.trans ((fresh_below hk3).mono B1.out.size))
          clear hb3 hk3
          go_wp2_with (fail)
          go_ret3
          exact ⟨B1.out, .inr ⟨hs, .inl ⟨k, H2.out, rfl⟩⟩⟩
        | some x =>
          rw [hf] at CF
          have H2 := Lib.hid (H.out.word hlt HC.out hf)
          have hl0 := H2.out.2.1
          have hl1 := H2.out.2.2
          obtain ⟨xk, xn, xs, xl⟩ := x
          have j2 : ((xl : Int) == 0) = false := by rw [beq_eq_false_iff_ne]; simp only at hl0; omega
          clear hf H
          go_wp2_with (fail)
          refine (CF.out _).mono ?_
          rintro e w1 ⟨rfl, hb1⟩
          replace O := Lib.hid (own_below O.out hb1)
          replace B1 := Lib.hid (B1.out.trans (hb1.mono hz))
          clear hb1 hz
          unfold fstT
          go_wp2_with (with_reducible refine stop_store 34 (.tmp 7) (.tmp 27) rfl rfl ?_)
          refine Stop.mk (wpList_storeB rfl _ _ _ rfl w1.heap.size (wdA xk xn 0 xs) rfl rfl _ (Blk.new _ _ _) strWd rfl rfl (by simp [Value.oneCell']) ?_)
          intro w3 hb3 hk3
          have hop := Lib.hid (show ∀ b, (Value.slice A9 acc.length c9).ownBlock = some b → b ≠ w1.heap.size from fun b hb => by have := (O.out.lt b hb).2; omega)
          replace O := Lib.hid (own_below O.out (fresh_below hk3))
          have hpw := B1.out.size
          replace B1 := Lib.hid (B1.out.trans ((fresh_below hk3).mono B1.out.size))
          obtain ⟨p, hp⟩ : ∃ p, p = w1.heap.size := ⟨_, rfl⟩
          rw [← hp] at hb3 hop hpw ⊢
          have BP := Lib.hid hb3
          have c2 := hb3.cell (show (wdA xk xn 0 xs)[2]? = _ from rfl)
          have ff := fun i => hb3.frozen i
          have hpl := hb3.lt
          have BP2 := Lib.hid (show Blk (w3.setCell ⟨p, 2, none⟩ (.int .i64 k)) p (wdA xk xn k xs) from hb3.store 2 (.int .i64 k))
          have B2 := Lib.hid (B1.out.trans ((kept_set w3 p 2 (.int .i64 k)).oneB B1.out.size hpw))
          have O2 := Lib.hid (own_kept_lt O.out (kept_set w3 p 2 (.int .i64 k)).grown hop.out)
          clear hb3 hk3 hp
          go_wp2_with (with_reducible refine stop_load 34 (.tmp 7) rfl rfl ?_)
          refine Stop.mk (wpList_loadB rfl _ _ rfl p rfl _ BP2.out strWd rfl ?_)
          go_wp2_with ((at_builtin; refine Stop.out ?_))
          refine Stop.mk (wpList_app _ rfl _ _ elemW rfl w.heap.size (.slice A9 acc.length c9) acc.length _ rfl (own_below O2.out ((Below.refl _ _).alloc (Nat.le_refl _) _)) _ 1 1 (Wd.cells ⟨xk, xn, k, xs⟩) rfl (by
            have h := Src.new (w3.setCell ⟨p, 2, none⟩ (.int .i64 k)) (Wd.cells ⟨xk, xn, k, xs⟩) 34 4 rfl
            have e : (w3.setCell ⟨p, 2, none⟩ (Value.int .i64 (k : Int))).heap.size = w3.heap.size := by simp [World.setCell]
            rw [e] at h
            exact h) (by simpa using wds_one [⟨xk, xn, k, xs⟩]) (by omega) (by have := B2.out.size; simp at this ⊢; omega) ?_)
          intro v4 w4 own4 _ hb4 _
          have B4 := Lib.hid (B2.out.trans ((((Below.refl _ _).alloc B2.out.size _)).trans hb4))
          have O4 := Lib.hid (show w4.ownsRow w.heap.size 34 4 v4 ((acc ++ [(⟨xk, xn, k, xs⟩ : Wd)]).length) ((acc ++ [(⟨xk, xn, k, xs⟩ : Wd)]).flatMap Wd.cells) by simpa using own4)
          have H3 := Lib.hid H2.out.1
          have hl0' : 0 < xl := hl0
          have hl1' : k + xl ≤ s.length := hl1
          clear own4 hb4 c2 ff
          go_wp2_with (fail)
          go_roundw
          case rel => exact ⟨k + xl, _, _, rfl, by go_num, H3.out, O4.out, B4.out⟩
          case measure => simp [intOf]; omega
    · have dl : decide (k < s.length) = false := by simpa using hlt
      obtain rfl : k = s.length := by omega
      have HD := Lib.hid H.out.done
      clear H hlt
      go_wp2_with (fail)
      go_ret3
      exact ⟨B1.out, .inr ⟨hs, .inr ⟨_, acc, HD.out, rfl, O.out⟩⟩⟩
theorem c_lex_All (s : List UInt8) (w : World) (hs : s.length ≤ 9223372036854775807) : Calls Try.prog 6 #[.string (str s)] w (RetAll 34 w s) := by
  by_cases h : 1000 < s.length
  · exact lex_All_long s w h hs
  · exact lex_All_in s w (by omega)
end Go.Proofs.Ytfgjhgecmelccaa
namespace Go.Proofs.Ytfgjhgecmelccaa
open Go.RowKit

/-- How far a text has been put in quotes. -/
def QuoAt (s acc : List UInt8) (k : Nat) : Prop := acc ++ ((s.drop k).flatMap quC ++ [34]) = quote s ∧ acc.length ≤ 4 * k + 1
theorem QuoAt.step {s acc : List UInt8} {k : Nat} (h : QuoAt s acc k) (hk : k < s.length) : QuoAt s (acc ++ quC s[k]) (k + 1) := by
  refine ⟨?_, ?_⟩
  · rw [← h.1, List.drop_eq_getElem_cons hk, List.flatMap_cons]; simp
  · have := h.2
    have hq : (quC s[k]).length ≤ 4 := by
      unfold quC
      split
      · simp
      · split <;> simp
    rw [List.length_append]; omega
theorem quC_hex {c : UInt8} (h : c.toNat < 32 ∨ 126 < c.toNat) : quC c = [92, 120, hexD (c.toNat / 16), hexD (c.toNat % 16)] := by unfold quC; rw [if_pos h]
theorem quC_esc {c : UInt8} (h : ¬ (c.toNat < 32 ∨ 126 < c.toNat)) (h2 : c.toNat = 34 ∨ c.toNat = 92) : quC c = [92, c] := by
  unfold quC; rw [if_neg h, if_pos (h2.imp (fun h => UInt8.toNat_inj.1 h) (fun h => UInt8.toNat_inj.1 h))]
theorem quC_one {c : UInt8} (h : ¬ (c.toNat < 32 ∨ 126 < c.toNat)) (h2 : ¬ (c.toNat = 34 ∨ c.toNat = 92)) : quC c = [c] := by
  unfold quC; rw [if_neg h, if_neg (fun h3 => h2 (h3.imp (fun h => by rw [h]; rfl) (fun h => by rw [h]; rfl)))]
set_option maxHeartbeats 4000000 in
set_option maxRecDepth 4000 in
theorem c_ref04_Quote (s : List UInt8) (w : World) (hs : s.length ≤ 1000000) : Calls Try.prog 75 #[.string (str s)] w (RetV w (.string (str (quote s)))) := by
  go_enter Try.func75, Try.ntmps75
  go_wp2_with (fail)
  rw [show ({ data := #[] } : ByteArray) = str [] from rfl]
  go_loopw [3, 4] (fun t i wr => ∃ (k : Nat) (acc : List UInt8), k ≤ s.length ∧ i = .int .i64 k ∧ t = .string (str acc) ∧ Hid (QuoAt s acc k) ∧ Hid (Below w.heap.size w wr)) (fun _ i _ => s.length - (intOf i).toNat)
  case atStart => exact ⟨0, [34], by omega, rfl, rfl, ⟨rfl, by simp⟩, Below.refl _ _⟩
  case round =>
    obtain ⟨k, acc, hk, rfl, rfl, H, B1⟩ := hrel
    have ha := H.out.2
    by_cases hlt : k < s.length
    · have d1 : decide (k < s.length) = true := by simpa using hlt
      have U2 := Lib.hid (H.out.step hlt)
      have h1 : List.take 1 (List.drop k s) = [s[k]] := by rw [List.drop_eq_getElem_cons hlt]; rfl
      have hc := s[k].toNat_lt
      by_cases g1 : s[k].toNat < 32 ∨ 126 < s[k].toNat
      · have Q := Lib.hid (quC_hex g1)
        have hcs : s[k].toNat < 32 ∨ (¬ s[k].toNat < 32 ∧ 126 < s[k].toNat) := by omega
        replace U2 := Lib.hid (by have := U2.out; rw [Q.out] at this; exact this)
        clear g1 H
        rcases hcs with g1 | ⟨g1, g2⟩
        · have j1 : decide ((s[k].toNat : Int) < 32) = true := by rw [decide_eq_true_iff]; omega
          clear g1
          go_wp2_with (fail)
          refine (c_ref04_digit (s[k].toNat / 16) (by omega) _).mono ?_
          rintro e w1 ⟨rfl, hb1⟩
          go_wp2_with (fail)
          refine (c_ref04_digit (s[k].toNat % 16) (by omega) _).mono ?_
          rintro e w2 ⟨rfl, hb2⟩
          have B2 := Lib.hid (B1.out.trans ((hb1.trans (hb2.mono hb1.size)).mono B1.out.size))
          clear hb1 hb2
          go_wp2_with (fail)
          go_roundw
          case rel =>
            exact ⟨k + 1, _, by omega, by go_num, by first | rfl | (simp; done), U2.out, B2.out⟩
          case measure => simp [intOf]; omega
        · have j1 : decide ((s[k].toNat : Int) < 32) = false := by rw [decide_eq_false_iff_not]; omega
          have j2 : decide ((126 : Int) < (s[k].toNat : Int)) = true := by rw [decide_eq_true_iff]; omega
          clear g1 g2
          go_wp2_with (fail)
          refine (c_ref04_digit (s[k].toNat / 16) (by omega) _).mono ?_
          rintro e w1 ⟨rfl, hb1⟩
          go_wp2_with (fail)
          refine (c_ref04_digit (s[k].toNat % 16) (by omega) _).mono ?_
          rintro e w2 ⟨rfl, hb2⟩
          have B2 := Lib.hid (B1.out.trans ((hb1.trans (hb2.mono hb1.size)).mono B1.out.size))
          clear hb1 hb2
          go_wp2_with (fail)
          go_roundw
          case rel => exact ⟨k + 1, _, by omega, by go_num, by first | rfl | (simp; done), U2.out, B2.out⟩
          case measure => simp [intOf]; omega
      · have j1 : decide ((s[k].toNat : Int) < 32) = false := by rw [decide_eq_false_iff_not]; omega
        have j2 : decide ((126 : Int) < (s[k].toNat : Int)) = false := by rw [decide_eq_false_iff_not]; omega
        by_cases g2 : s[k].toNat = 34 ∨ s[k].toNat = 92
        · replace U2 := Lib.hid (by have := U2.out; rw [quC_esc g1 g2] at this; exact this)
          have hcs : s[k].toNat = 34 ∨ (s[k].toNat ≠ 34 ∧ s[k].toNat = 92) := by omega
          clear g1 g2 H
          rcases hcs with g1 | ⟨g1, g2⟩
          · have j3 : ((s[k].toNat : Int) == 34) = true := by rw [beq_iff_eq]; omega
            clear g1
            go_wp2_with (fail)
            go_roundw
            case rel => exact ⟨k + 1, _, by omega, by go_num, by first | rfl | (simp; done), U2.out, B1.out⟩
            case measure => simp [intOf]; omega
          · have j3 : ((s[k].toNat : Int) == 34) = false := by rw [beq_eq_false_iff_ne]; omega
            have j4 : ((s[k].toNat : Int) == 92) = true := by rw [beq_iff_eq]; omega
            clear g1 g2
            go_wp2_with (fail)
            go_roundw
            case rel => exact ⟨k + 1, _, by omega, by go_num, by first | rfl | (simp; done), U2.out, B1.out⟩
            case measure => simp [intOf]; omega
        · replace U2 := Lib.hid (by have := U2.out; rw [quC_one g1 g2] at this; exact this)
          have j3 : ((s[k].toNat : Int) == 34) = false := by rw [beq_eq_false_iff_ne]; omega
          have j4 : ((s[k].toNat : Int) == 92) = false := by rw [beq_eq_false_iff_ne]; omega
          clear g1 g2 H
          go_wp2_with (fail)
          go_roundw
          case rel => exact ⟨k + 1, _, by omega, by go_num, by first | rfl | (simp; done), U2.out, B1.out⟩
          case measure => simp [intOf]; omega
    · have d1 : decide (k < s.length) = false := by simpa using hlt
      have H2 := Lib.hid (show acc ++ [34] = quote s by rw [← H.out.1, List.drop_eq_nil_of_le (by omega)]; simp)
      clear hlt H
      go_wp2_with (fail)
      go_ret
      exact RetV.str H2.out B1.out
end Go.Proofs.Ytfgjhgecmelccaa
namespace Go.Proofs.Ytfgjhgecmelccaa
open Go.RowKit

/-- What stands between quotes, by any bytes behind a backslash; the last byte is not read. -/
def opn : List UInt8 → List UInt8
  | [] => []
  | [_] => []
  | c :: d :: r =>
    if c.toNat ≠ 92 then c :: opn (d :: r)
    else match r with
      | a :: b :: r2 => if d.toNat = 120 ∧ hexV a ≤ 15 ∧ hexV b ≤ 15 then UInt8.ofNat (16 * hexV a + hexV b) :: opn r2 else d :: opn (a :: b :: r2)
      | [a] => d :: opn [a]
      | [] => [d]
termination_by l => l.length
theorem opn_one (c : UInt8) : opn [c] = [] := by rw [opn]
theorem opn_two (c d : UInt8) (r : List UInt8) : opn (c :: d :: r) = if c.toNat ≠ 92 then c :: opn (d :: r)
    else match r with
      | a :: b :: r2 => if d.toNat = 120 ∧ hexV a ≤ 15 ∧ hexV b ≤ 15 then UInt8.ofNat (16 * hexV a + hexV b) :: opn r2 else d :: opn (a :: b :: r2)
      | [a] => d :: opn [a]
      | [] => [d] := opn.eq_def (c :: d :: r)
theorem opn_plain {c : UInt8} {r : List UInt8} (h : c.toNat ≠ 92) (hr : r ≠ []) : opn (c :: r) = c :: opn r := by
  cases r with
  | nil => exact absurd rfl hr
  | cons d r => rw [opn_two, if_pos h]
theorem opn_hex {c d a b : UInt8} {r : List UInt8} (hc : c.toNat = 92) (h : d.toNat = 120 ∧ hexV a ≤ 15 ∧ hexV b ≤ 15) : opn (c :: d :: a :: b :: r) = UInt8.ofNat (16 * hexV a + hexV b) :: opn r := by
  rw [opn_two, if_neg (by omega)]
  exact if_pos h
theorem opn_esc {c d : UInt8} {r : List UInt8} (hc : c.toNat = 92) (h : ∀ a b r2, r = a :: b :: r2 → ¬ (d.toNat = 120 ∧ hexV a ≤ 15 ∧ hexV b ≤ 15)) : opn (c :: d :: r) = d :: opn r := by
  rw [opn_two, if_neg (by omega)]
  match r, h with
  | [], _ => simp only; rw [opn]
  | [a], _ => rfl
  | a :: b :: r2, h => exact if_neg (h a b r2 rfl)
theorem opn_quC (c : UInt8) (r : List UInt8) (hr : r ≠ []) : opn (quC c ++ r) = c :: opn r := by
  have hc := c.toNat_lt
  by_cases h : c.toNat < 32 ∨ 126 < c.toNat
  · rw [quC_hex h]
    have e1 := hexV_D (n := c.toNat / 16) (by omega)
    have e2 := hexV_D (n := c.toNat % 16) (by omega)
    simp only [List.cons_append, List.nil_append]
    rw [opn_hex rfl ⟨rfl, by omega, by omega⟩, e1, e2, show 16 * (c.toNat / 16) + c.toNat % 16 = c.toNat by omega]
    simp
  · by_cases h2 : c.toNat = 34 ∨ c.toNat = 92
    · rw [quC_esc h h2]
      simp only [List.cons_append, List.nil_append]
      exact opn_esc rfl (fun a b r2 _ h3 => by omega)
    · rw [quC_one h h2]
      exact opn_plain (by omega) hr
theorem opn_quote : ∀ s : List UInt8, opn (s.flatMap quC ++ [34]) = s
  | [] => opn_one 34
  | c :: s => by rw [List.flatMap_cons, List.append_assoc, opn_quC c _ (by simp), opn_quote s]
end Go.Proofs.Ytfgjhgecmelccaa
