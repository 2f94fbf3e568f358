/-
  The walk of chapter 7's ids.along and ids.Minus. (Printed by gen07b.py.)
-/
import Derived.Test.YtldoedmclfbgpaaDoorBq3
namespace Go.Proofs.YtldoedmclfbgpaaDoor
open Go.RowKit

/-- Where along stands: its two boxes, the numbers taken so far. -/
structure AK (w w1 : World) (O : Nat) (l : List Int) : Prop where
  S : Below w.heap.size w w1
  hO : w.heap.size < O
  K : Blk w1 w.heap.size #[.bool true, .bool false, .bool false]
  box : ∃ v, Blk w1 O #[v] ∧ w1.ownsRow (O + 1) 3 1 v l.length (l.flatMap ic)
theorem TK.done {w w1 : World} {O : Nat} {l l' : List Int} {u : Nat → Value} (h : TK w O l l' (fun j => decide (j < 8)) u w1) : AK w w1 O l' := ⟨h.S, h.hO, h.K, h.box⟩
theorem AK.below {w w1 w2 : World} {O : Nat} {l : List Int} (h : AK w w1 O l) (hb : Below w1.heap.size w1 w2) : AK w w2 O l := by
  obtain ⟨v, h1, h2⟩ := h.box
  exact ⟨h.S.trans (hb.mono h.S.size), h.hO, h.K.below hb h.K.lt, v, h1.below hb h1.lt, own_below h2 hb⟩
theorem alongM_len : ∀ (n : Nat) (a b : List Int), a.length + b.length ≤ n → (alongM a b).length ≤ a.length
  | n, [], b, _ => by rw [alongM_nil]; simp
  | n, x :: a, [], _ => by rw [alongM_nilr]; exact Nat.le_refl _
  | 0, x :: a, y :: b, h => by simp at h
  | n + 1, x :: a, y :: b, h => by
    simp only [List.length_cons] at h ⊢
    rcases (show x < y ∨ y < x ∨ x = y by omega) with e | e | e
    · rw [alongM_lt e]; have := alongM_len n a (y :: b) (by simp only [List.length_cons]; omega); simp only [List.length_cons]; omega
    · rw [alongM_gt e]; have := alongM_len n (x :: a) b (by simp only [List.length_cons]; omega); simpa using this
    · rw [alongM_eq e]; have := alongM_len n a b (by omega); omega
set_option maxHeartbeats 1000000 in
theorem c_ids_along (a b : List Int) (A B : Option Addr) (ca cb : Nat) (w : World) (ha : InI w A ca a) (hb : InI w B cb b) (hal : a.length ≤ 1000000) :
    Calls Tryd.prog 64 #[.slice A a.length ca, .slice B b.length cb, .agg #[.bool true, .bool false, .bool false]] w (RetS 1 ic 3 w (alongM a b)) := by
  have hL := ha.1
  have hC := ha.2.1
  have hS := ha.2.2.1
  have hL2 := hb.1
  have hC2 := hb.2.1
  have hS2 := hb.2.2.1
  have HA := Lib.hid ha
  have HB := Lib.hid hb
  have HN := Lib.hid (alongM_len _ a b (Nat.le_refl _))
  clear ha hb
  go_enter Tryd.func64, Tryd.ntmps64
  go_wp2_with (fail)
  obtain ⟨O, hO⟩ : ∃ O, O = w.heap.size + 1 := ⟨_, rfl⟩
  have X0 : AK w ((w.alloc (.cells #[.bool true, .bool false, .bool false] 114)).alloc (.cells #[.slice none 0 0] 63)) O [] := by
    subst hO
    have b2 : Below (w.heap.size + 1) (w.alloc (.cells #[.bool true, .bool false, .bool false] 114)) ((w.alloc (.cells #[.bool true, .bool false, .bool false] 114)).alloc (.cells #[.slice none 0 0] 63)) := (Below.refl _ _).alloc (by simp) _
    refine ⟨Below.trans ((Below.refl _ _).alloc (Nat.le_refl _) _) (b2.mono (by omega)), by omega, (Blk.new w _ _).below b2 (by omega), _, ?_, World.ownsRow_nil _ _ _ _⟩
    have := Blk.new (w.alloc (.cells #[.bool true, .bool false, .bool false] 114)) 63 #[.slice none 0 0]
    simpa using this
  have X := Lib.hid X0
  clear X0
  rw [← hO]
  clear hO
  go_loopw [9, 10] (fun vi vj wr => ∃ (i j : Nat) (l : List Int), i ≤ a.length ∧ j ≤ b.length ∧ vi = .int .i64 i ∧ vj = .int .i64 j ∧ Hid (l ++ alongM (a.drop i) (b.drop j) = alongM a b) ∧ Hid (AK w wr O l)) (fun vi vj _ => (a.length - (intOf vi).toNat) + (b.length - (intOf vj).toNat))
  case atStart => exact ⟨0, 0, [], by omega, by omega, rfl, rfl, rfl, X.out⟩
  case round =>
    clear X
    obtain ⟨i, j, l, hi, hj, rfl, rfl, R, X⟩ := hrel
    have hll : l.length ≤ 1000000 := by have := HN.out; rw [← R.out, List.length_append] at this; omega
    have hz := X.out.S.size
    have q5 := X.out.K.lt
    by_cases hi2 : i < a.length
    case neg =>
      obtain rfl : i = a.length := by omega
      have d1 : decide ((a.length : Int) < (a.length : Int)) = false := by simp
      have R2 := Lib.hid (show l ++ a.drop a.length = alongM a b by have := R.out; rw [List.drop_length, alongM_nil] at this; rw [List.drop_length]; exact this)
      clear R hi2
      go_wp2_with (fail)
      go_loopw [9] (fun vi wr => ∃ (k : Nat) (l : List Int), k ≤ a.length ∧ vi = .int .i64 k ∧ Hid (l ++ a.drop k = alongM a b) ∧ Hid (AK w wr O l)) (fun vi _ => a.length - (intOf vi).toNat)
      case atStart => exact ⟨a.length, l, by omega, rfl, R2.out, X.out⟩
      case round =>
        clear X R2 hll hz q5
        obtain ⟨k, l, hk, rfl, R, X⟩ := hrel
        have hll : l.length ≤ 1000000 := by have := HN.out; rw [← R.out, List.length_append] at this; omega
        have q5 := X.out.K.lt
        by_cases hk2 : k < a.length
        · have d3 : decide ((k : Int) < (a.length : Int)) = true := by simp; omega
          obtain ⟨ba, oa, hA, hba, hra⟩ := HA.out.at hk2
          have e1 : w.cell? ⟨ba, oa + k, none⟩ = some (.int .i64 a[k]) := by have := hra k hk2 0 _ rfl; simpa using this
          have RA := Lib.hid (drop_at hk2)
          obtain ⟨x, hx⟩ : ∃ x, x = a[k] := ⟨_, rfl⟩
          rw [← hx] at e1 RA
          have E1 := Lib.hid e1
          have R4 := Lib.hid (show (l ++ [x]) ++ a.drop (k + 1) = alongM a b by rw [← R.out, RA.out]; simp)
          have n1 : (0 : Int) ≤ (k : Int) := by omega
          have n2 : (k : Int) < (a.length : Int) := by omega
          clear hx e1 hra RA
          subst hA
          go_wp2_with (fail)
          refine wp_region_relM (VB [some (.func (.func 80) #[] #[.pointer (some ⟨O, 0, none⟩)]), some (.slice (some ⟨ba, oa, none⟩) a.length ca), some (.int .i64 k), some (.pointer (some ⟨ba, oa + k, none⟩)), some (.int .i64 x), some (.pointer (some ⟨w.heap.size, 0, none⟩)), some (.bool true), none]) (TK w O l (l ++ [x])) 103 (by kernel_rfl) (by kernel_rfl) rfl ?_ ?_ ?_
          · intro u w' hb hh
            obtain ⟨v, h1, h2⟩ := X.out.box
            exact ⟨X.out.S.trans (hb.mono X.out.S.size), X.out.hO, X.out.K.below hb X.out.K.lt, v, h1.below hb h1.lt, own_below h2 hb⟩
          · refine ⟨?_, ?_, ?_, ?_, ?_, ?_, ?_, ?_, trivial⟩
            all_goals
              rintro L u W1 hM hL hd
              have M := Lib.hid hM
              clear hM
              simp [DepsM, Region.binds, VB] at hd
              simp only [putDeps, dstOf, Region.binds]
            case refine_4 =>
              obtain ⟨⟨-, hu1⟩, -, hu2⟩ := hd
              go_wp2_with (fail)
              exact EndM.mk rfl ⟨rfl, M.out.pure (by decide)⟩
            case refine_5 =>
              obtain ⟨-, hu3⟩ := hd
              have q0 : W1.cell? ⟨ba, oa + k, none⟩ = some (.int .i64 x) := (M.out.S.cell (p := ⟨ba, oa + k, none⟩) hba).trans E1.out
              go_wp2_with (fail)
              exact EndM.mk rfl ⟨rfl, M.out.pure (by decide)⟩
            case refine_7 =>
              obtain ⟨-, hu5⟩ := hd
              have q0 := M.out.K.cell (i := 0) rfl
              go_wp2_with (fail)
              exact EndM.mk rfl ⟨rfl, M.out.pure (by decide)⟩
            case refine_8 =>
              obtain ⟨⟨-, hu0⟩, ⟨-, hu4⟩, -, hu6⟩ := hd
              obtain ⟨v, h1, h2⟩ := M.out.box
              rw [if_neg (by rw [hL]; simp)] at h2
              have H1 := Lib.hid h1
              have H2 := Lib.hid h2
              clear h1 h2
              go_wp2_with (go_at_call 80; refine (c_take x true O l v _ H1.out H2.out (by omega)).mono ?_; rintro e w9 ⟨⟨v9, rfl⟩, hb9, ho9⟩)
              exact EndM.mk rfl ⟨trivial, M.out.call hb9 ho9⟩
            all_goals
              go_wp2_with (fail)
              exact EndM.mk rfl ⟨rfl, M.out.pure (by decide)⟩
          · rintro u W1 hv hM
            have Y := Lib.hid hM
            clear hv hM
            simp only [putAll, Act.put, Nat.reduceAdd, List.setIfInBounds_toArray, List.set_cons_zero, List.set_cons_succ]
            go_wp2_with (fail)
            go_roundw
            case rel => exact ⟨k + 1, l ++ [x], by omega, by go_num, R4.out, Y.out.done⟩
            case measure => simp [intOf]; omega
        · obtain rfl : k = a.length := by omega
          have d3 : decide ((a.length : Int) < (a.length : Int)) = false := by simp
          have RL := Lib.hid (show l = alongM a b by have := R.out; rwa [List.drop_length, List.append_nil] at this)
          clear R hk2
          go_wp2_with (fail)
          go_loopw [10] (fun vj wr => ∃ m : Nat, m ≤ b.length ∧ vj = .int .i64 m ∧ Hid (AK w wr O l)) (fun vj _ => b.length - (intOf vj).toNat)
          case atStart => exact ⟨j, by omega, rfl, X.out⟩
          case round =>
            clear X
            obtain ⟨m, hm, rfl, X⟩ := hrel
            have q6 := X.out.K.lt
            by_cases hm2 : m < b.length
            · have d4 : decide ((m : Int) < (b.length : Int)) = true := by simp; omega
              obtain ⟨bb, ob, hB, hbb, hrb⟩ := HB.out.at hm2
              have e2 : w.cell? ⟨bb, ob + m, none⟩ = some (.int .i64 b[m]) := by have := hrb m hm2 0 _ rfl; simpa using this
              obtain ⟨y, hy⟩ : ∃ y, y = b[m] := ⟨_, rfl⟩
              rw [← hy] at e2
              have E2 := Lib.hid e2
              have n1 : (0 : Int) ≤ (m : Int) := by omega
              have n2 : (m : Int) < (b.length : Int) := by omega
              clear hy e2 hrb
              subst hB
              go_wp2_with (fail)
              refine wp_region_relM (VB [some (.func (.func 80) #[] #[.pointer (some ⟨O, 0, none⟩)]), some (.slice (some ⟨bb, ob, none⟩) b.length cb), some (.int .i64 m), some (.pointer (some ⟨bb, ob + m, none⟩)), some (.int .i64 y), some (.pointer (some ⟨w.heap.size, 2, none⟩)), some (.bool false), none]) (TK w O l l) 103 (by kernel_rfl) (by kernel_rfl) rfl ?_ ?_ ?_
              · intro u w' hb hh
                obtain ⟨v, h1, h2⟩ := X.out.box
                exact ⟨X.out.S.trans (hb.mono X.out.S.size), X.out.hO, X.out.K.below hb X.out.K.lt, v, h1.below hb h1.lt, own_below h2 hb⟩
              · refine ⟨?_, ?_, ?_, ?_, ?_, ?_, ?_, ?_, trivial⟩
                all_goals
                  rintro L u W1 hM hL hd
                  have M := Lib.hid hM
                  clear hM
                  simp [DepsM, Region.binds, VB] at hd
                  simp only [putDeps, dstOf, Region.binds]
                case refine_4 =>
                  obtain ⟨⟨-, hu1⟩, -, hu2⟩ := hd
                  go_wp2_with (fail)
                  exact EndM.mk rfl ⟨rfl, M.out.pure (by decide)⟩
                case refine_5 =>
                  obtain ⟨-, hu3⟩ := hd
                  have q0 : W1.cell? ⟨bb, ob + m, none⟩ = some (.int .i64 y) := (M.out.S.cell (p := ⟨bb, ob + m, none⟩) hbb).trans E2.out
                  go_wp2_with (fail)
                  exact EndM.mk rfl ⟨rfl, M.out.pure (by decide)⟩
                case refine_7 =>
                  obtain ⟨-, hu5⟩ := hd
                  have q0 := M.out.K.cell (i := 2) rfl
                  go_wp2_with (fail)
                  exact EndM.mk rfl ⟨rfl, M.out.pure (by decide)⟩
                case refine_8 =>
                  obtain ⟨⟨-, hu0⟩, ⟨-, hu4⟩, -, hu6⟩ := hd
                  obtain ⟨v, h1, h2⟩ := M.out.box
                  rw [if_neg (by rw [hL]; simp)] at h2
                  have H1 := Lib.hid h1
                  have H2 := Lib.hid h2
                  clear h1 h2
                  go_wp2_with (go_at_call 80; refine (c_take y false O l v _ H1.out H2.out (by omega)).mono ?_; rintro e w9 ⟨⟨v9, rfl⟩, hb9, ho9⟩)
                  exact EndM.mk rfl ⟨trivial, M.out.call hb9 ho9⟩
                all_goals
                  go_wp2_with (fail)
                  exact EndM.mk rfl ⟨rfl, M.out.pure (by decide)⟩
              · rintro u W1 hv hM
                have Y := Lib.hid hM
                clear hv hM
                simp only [putAll, Act.put, Nat.reduceAdd, List.setIfInBounds_toArray, List.set_cons_zero, List.set_cons_succ]
                go_wp2_with (fail)
                go_roundw
                case rel => exact ⟨m + 1, by omega, by go_num, Y.out.done⟩
                case measure => simp [intOf]; omega
            · obtain rfl : m = b.length := by omega
              have d4 : decide ((b.length : Int) < (b.length : Int)) = false := by simp
              obtain ⟨v, h1, h2⟩ := X.out.box
              obtain ⟨A9, c9, rfl, -⟩ := own_form h2
              have e0 := h1.cell (i := 0) rfl
              have O2 := Lib.hid h2
              clear h1 h2
              go_wp2_with (fail)
              go_ret
              rw [← RL.out]
              exact ⟨_, rfl, own_base O2.out (by have := X.out.hO; omega), X.out.S⟩
    case pos =>
      by_cases hj2 : j < b.length
      case neg =>
        obtain rfl : j = b.length := by omega
        have d1 : decide ((i : Int) < (a.length : Int)) = true := by simp; omega
        have d2 : decide ((b.length : Int) < (b.length : Int)) = false := by simp
        have R2 := Lib.hid (show l ++ a.drop i = alongM a b by have := R.out; rwa [List.drop_length, alongM_nilr] at this)
        clear R hj2
        go_wp2_with (fail)
        go_loopw [9] (fun vi wr => ∃ (k : Nat) (l : List Int), k ≤ a.length ∧ vi = .int .i64 k ∧ Hid (l ++ a.drop k = alongM a b) ∧ Hid (AK w wr O l)) (fun vi _ => a.length - (intOf vi).toNat)
        case atStart => exact ⟨i, l, by omega, rfl, R2.out, X.out⟩
        case round =>
          clear X R2 hll hz q5
          obtain ⟨k, l, hk, rfl, R, X⟩ := hrel
          have hll : l.length ≤ 1000000 := by have := HN.out; rw [← R.out, List.length_append] at this; omega
          have q5 := X.out.K.lt
          by_cases hk2 : k < a.length
          · have d3 : decide ((k : Int) < (a.length : Int)) = true := by simp; omega
            obtain ⟨ba, oa, hA, hba, hra⟩ := HA.out.at hk2
            have e1 : w.cell? ⟨ba, oa + k, none⟩ = some (.int .i64 a[k]) := by have := hra k hk2 0 _ rfl; simpa using this
            have RA := Lib.hid (drop_at hk2)
            obtain ⟨x, hx⟩ : ∃ x, x = a[k] := ⟨_, rfl⟩
            rw [← hx] at e1 RA
            have E1 := Lib.hid e1
            have R4 := Lib.hid (show (l ++ [x]) ++ a.drop (k + 1) = alongM a b by rw [← R.out, RA.out]; simp)
            have n1 : (0 : Int) ≤ (k : Int) := by omega
            have n2 : (k : Int) < (a.length : Int) := by omega
            clear hx e1 hra RA
            subst hA
            go_wp2_with (fail)
            refine wp_region_relM (VB [some (.func (.func 80) #[] #[.pointer (some ⟨O, 0, none⟩)]), some (.slice (some ⟨ba, oa, none⟩) a.length ca), some (.int .i64 k), some (.pointer (some ⟨ba, oa + k, none⟩)), some (.int .i64 x), some (.pointer (some ⟨w.heap.size, 0, none⟩)), some (.bool true), none]) (TK w O l (l ++ [x])) 103 (by kernel_rfl) (by kernel_rfl) rfl ?_ ?_ ?_
            · intro u w' hb hh
              obtain ⟨v, h1, h2⟩ := X.out.box
              exact ⟨X.out.S.trans (hb.mono X.out.S.size), X.out.hO, X.out.K.below hb X.out.K.lt, v, h1.below hb h1.lt, own_below h2 hb⟩
            · refine ⟨?_, ?_, ?_, ?_, ?_, ?_, ?_, ?_, trivial⟩
              all_goals
                rintro L u W1 hM hL hd
                have M := Lib.hid hM
                clear hM
                simp [DepsM, Region.binds, VB] at hd
                simp only [putDeps, dstOf, Region.binds]
              case refine_4 =>
                obtain ⟨⟨-, hu1⟩, -, hu2⟩ := hd
                go_wp2_with (fail)
                exact EndM.mk rfl ⟨rfl, M.out.pure (by decide)⟩
              case refine_5 =>
                obtain ⟨-, hu3⟩ := hd
                have q0 : W1.cell? ⟨ba, oa + k, none⟩ = some (.int .i64 x) := (M.out.S.cell (p := ⟨ba, oa + k, none⟩) hba).trans E1.out
                go_wp2_with (fail)
                exact EndM.mk rfl ⟨rfl, M.out.pure (by decide)⟩
              case refine_7 =>
                obtain ⟨-, hu5⟩ := hd
                have q0 := M.out.K.cell (i := 0) rfl
                go_wp2_with (fail)
                exact EndM.mk rfl ⟨rfl, M.out.pure (by decide)⟩
              case refine_8 =>
                obtain ⟨⟨-, hu0⟩, ⟨-, hu4⟩, -, hu6⟩ := hd
                obtain ⟨v, h1, h2⟩ := M.out.box
                rw [if_neg (by rw [hL]; simp)] at h2
                have H1 := Lib.hid h1
                have H2 := Lib.hid h2
                clear h1 h2
                go_wp2_with (go_at_call 80; refine (c_take x true O l v _ H1.out H2.out (by omega)).mono ?_; rintro e w9 ⟨⟨v9, rfl⟩, hb9, ho9⟩)
                exact EndM.mk rfl ⟨trivial, M.out.call hb9 ho9⟩
              all_goals
                go_wp2_with (fail)
                exact EndM.mk rfl ⟨rfl, M.out.pure (by decide)⟩
            · rintro u W1 hv hM
              have Y := Lib.hid hM
              clear hv hM
              simp only [putAll, Act.put, Nat.reduceAdd, List.setIfInBounds_toArray, List.set_cons_zero, List.set_cons_succ]
              go_wp2_with (fail)
              go_roundw
              case rel => exact ⟨k + 1, l ++ [x], by omega, by go_num, R4.out, Y.out.done⟩
              case measure => simp [intOf]; omega
          · obtain rfl : k = a.length := by omega
            have d3 : decide ((a.length : Int) < (a.length : Int)) = false := by simp
            have RL := Lib.hid (show l = alongM a b by have := R.out; rwa [List.drop_length, List.append_nil] at this)
            clear R hk2
            go_wp2_with (fail)
            go_loopw [10] (fun vj wr => ∃ m : Nat, m ≤ b.length ∧ vj = .int .i64 m ∧ Hid (AK w wr O l)) (fun vj _ => b.length - (intOf vj).toNat)
            case atStart => exact ⟨b.length, by omega, rfl, X.out⟩
            case round =>
              clear X
              obtain ⟨m, hm, rfl, X⟩ := hrel
              have q6 := X.out.K.lt
              by_cases hm2 : m < b.length
              · have d4 : decide ((m : Int) < (b.length : Int)) = true := by simp; omega
                obtain ⟨bb, ob, hB, hbb, hrb⟩ := HB.out.at hm2
                have e2 : w.cell? ⟨bb, ob + m, none⟩ = some (.int .i64 b[m]) := by have := hrb m hm2 0 _ rfl; simpa using this
                obtain ⟨y, hy⟩ : ∃ y, y = b[m] := ⟨_, rfl⟩
                rw [← hy] at e2
                have E2 := Lib.hid e2
                have n1 : (0 : Int) ≤ (m : Int) := by omega
                have n2 : (m : Int) < (b.length : Int) := by omega
                clear hy e2 hrb
                subst hB
                go_wp2_with (fail)
                refine wp_region_relM (VB [some (.func (.func 80) #[] #[.pointer (some ⟨O, 0, none⟩)]), some (.slice (some ⟨bb, ob, none⟩) b.length cb), some (.int .i64 m), some (.pointer (some ⟨bb, ob + m, none⟩)), some (.int .i64 y), some (.pointer (some ⟨w.heap.size, 2, none⟩)), some (.bool false), none]) (TK w O l l) 103 (by kernel_rfl) (by kernel_rfl) rfl ?_ ?_ ?_
                · intro u w' hb hh
                  obtain ⟨v, h1, h2⟩ := X.out.box
                  exact ⟨X.out.S.trans (hb.mono X.out.S.size), X.out.hO, X.out.K.below hb X.out.K.lt, v, h1.below hb h1.lt, own_below h2 hb⟩
                · refine ⟨?_, ?_, ?_, ?_, ?_, ?_, ?_, ?_, trivial⟩
                  all_goals
                    rintro L u W1 hM hL hd
                    have M := Lib.hid hM
                    clear hM
                    simp [DepsM, Region.binds, VB] at hd
                    simp only [putDeps, dstOf, Region.binds]
                  case refine_4 =>
                    obtain ⟨⟨-, hu1⟩, -, hu2⟩ := hd
                    go_wp2_with (fail)
                    exact EndM.mk rfl ⟨rfl, M.out.pure (by decide)⟩
                  case refine_5 =>
                    obtain ⟨-, hu3⟩ := hd
                    have q0 : W1.cell? ⟨bb, ob + m, none⟩ = some (.int .i64 y) := (M.out.S.cell (p := ⟨bb, ob + m, none⟩) hbb).trans E2.out
                    go_wp2_with (fail)
                    exact EndM.mk rfl ⟨rfl, M.out.pure (by decide)⟩
                  case refine_7 =>
                    obtain ⟨-, hu5⟩ := hd
                    have q0 := M.out.K.cell (i := 2) rfl
                    go_wp2_with (fail)
                    exact EndM.mk rfl ⟨rfl, M.out.pure (by decide)⟩
                  case refine_8 =>
                    obtain ⟨⟨-, hu0⟩, ⟨-, hu4⟩, -, hu6⟩ := hd
                    obtain ⟨v, h1, h2⟩ := M.out.box
                    rw [if_neg (by rw [hL]; simp)] at h2
                    have H1 := Lib.hid h1
                    have H2 := Lib.hid h2
                    clear h1 h2
                    go_wp2_with (go_at_call 80; refine (c_take y false O l v _ H1.out H2.out (by omega)).mono ?_; rintro e w9 ⟨⟨v9, rfl⟩, hb9, ho9⟩)
                    exact EndM.mk rfl ⟨trivial, M.out.call hb9 ho9⟩
                  all_goals
                    go_wp2_with (fail)
                    exact EndM.mk rfl ⟨rfl, M.out.pure (by decide)⟩
                · rintro u W1 hv hM
                  have Y := Lib.hid hM
                  clear hv hM
                  simp only [putAll, Act.put, Nat.reduceAdd, List.setIfInBounds_toArray, List.set_cons_zero, List.set_cons_succ]
                  go_wp2_with (fail)
                  go_roundw
                  case rel => exact ⟨m + 1, by omega, by go_num, Y.out.done⟩
                  case measure => simp [intOf]; omega
              · obtain rfl : m = b.length := by omega
                have d4 : decide ((b.length : Int) < (b.length : Int)) = false := by simp
                obtain ⟨v, h1, h2⟩ := X.out.box
                obtain ⟨A9, c9, rfl, -⟩ := own_form h2
                have e0 := h1.cell (i := 0) rfl
                have O2 := Lib.hid h2
                clear h1 h2
                go_wp2_with (fail)
                go_ret
                rw [← RL.out]
                exact ⟨_, rfl, own_base O2.out (by have := X.out.hO; omega), X.out.S⟩
      case pos =>
        have d1 : decide ((i : Int) < (a.length : Int)) = true := by simp; omega
        have d2 : decide ((j : Int) < (b.length : Int)) = true := by simp; omega
        obtain ⟨ba, oa, hA, hba, hra⟩ := HA.out.at hi2
        obtain ⟨bb, ob, hB, hbb, hrb⟩ := HB.out.at hj2
        have e1 : w.cell? ⟨ba, oa + i, none⟩ = some (.int .i64 a[i]) := by have := hra i hi2 0 _ rfl; simpa using this
        have e2 : w.cell? ⟨bb, ob + j, none⟩ = some (.int .i64 b[j]) := by have := hrb j hj2 0 _ rfl; simpa using this
        have R2 := Lib.hid (show l ++ alongM (a[i] :: a.drop (i + 1)) (b[j] :: b.drop (j + 1)) = alongM a b by have := R.out; rwa [drop_at hi2, drop_at hj2] at this)
        have RA := Lib.hid (drop_at hi2)
        have RB := Lib.hid (drop_at hj2)
        obtain ⟨x, hx⟩ : ∃ x, x = a[i] := ⟨_, rfl⟩
        obtain ⟨y, hy⟩ : ∃ y, y = b[j] := ⟨_, rfl⟩
        rw [← hx] at e1 R2 RA
        rw [← hy] at e2 R2 RB
        have E1 := Lib.hid e1
        have E2 := Lib.hid e2
        have c1 := (X.out.S.cell (p := ⟨ba, oa + i, none⟩) hba).trans e1
        have c2 := (X.out.S.cell (p := ⟨bb, ob + j, none⟩) hbb).trans e2
        have hba2 : ba < wr.heap.size := by omega
        have hbb2 : bb < wr.heap.size := by omega
        have n1 : (0 : Int) ≤ (i : Int) := by omega
        have n2 : (i : Int) < (a.length : Int) := by omega
        have n3 : (0 : Int) ≤ (j : Int) := by omega
        have n4 : (j : Int) < (b.length : Int) := by omega
        clear hx hy e1 e2 hra hrb R
        subst hA hB
        by_cases hxy : x < y
        · have t1 : decide (x < y) = true := by simp; omega
          have R3 := Lib.hid (show (l ++ [x]) ++ alongM (a.drop (i + 1)) (b.drop j) = alongM a b by rw [RB.out, List.append_assoc, ← R2.out, alongM_lt hxy]; rfl)
          clear hxy
          go_wp2_with (fail)
          refine wp_region_grow (by kernel_rfl) (by kernel_rfl) ?_
          repeat (go_big_quiet_step ((first | (fail))))
          refine wpQuiet_nil ?_
          intro w3 hb3
          replace X := Lib.hid (X.out.below hb3)
          clear c1 c2 hb3
          go_wp2_with (fail)
          refine wp_region_relM (VB [some (.func (.func 80) #[] #[.pointer (some ⟨O, 0, none⟩)]), some (.slice (some ⟨ba, oa, none⟩) a.length ca), some (.int .i64 i), some (.pointer (some ⟨ba, oa + i, none⟩)), some (.int .i64 x), some (.pointer (some ⟨w.heap.size, 0, none⟩)), some (.bool true), none]) (TK w O l (l ++ [x])) 103 (by kernel_rfl) (by kernel_rfl) rfl ?_ ?_ ?_
          · intro u w' hb hh
            obtain ⟨v, h1, h2⟩ := X.out.box
            exact ⟨X.out.S.trans (hb.mono X.out.S.size), X.out.hO, X.out.K.below hb X.out.K.lt, v, h1.below hb h1.lt, own_below h2 hb⟩
          · refine ⟨?_, ?_, ?_, ?_, ?_, ?_, ?_, ?_, trivial⟩
            all_goals
              rintro L u W1 hM hL hd
              have M := Lib.hid hM
              clear hM
              simp [DepsM, Region.binds, VB] at hd
              simp only [putDeps, dstOf, Region.binds]
            case refine_4 =>
              obtain ⟨⟨-, hu1⟩, -, hu2⟩ := hd
              go_wp2_with (fail)
              exact EndM.mk rfl ⟨rfl, M.out.pure (by decide)⟩
            case refine_5 =>
              obtain ⟨-, hu3⟩ := hd
              have q0 : W1.cell? ⟨ba, oa + i, none⟩ = some (.int .i64 x) := (M.out.S.cell (p := ⟨ba, oa + i, none⟩) hba).trans E1.out
              go_wp2_with (fail)
              exact EndM.mk rfl ⟨rfl, M.out.pure (by decide)⟩
            case refine_7 =>
              obtain ⟨-, hu5⟩ := hd
              have q0 := M.out.K.cell (i := 0) rfl
              go_wp2_with (fail)
              exact EndM.mk rfl ⟨rfl, M.out.pure (by decide)⟩
            case refine_8 =>
              obtain ⟨⟨-, hu0⟩, ⟨-, hu4⟩, -, hu6⟩ := hd
              obtain ⟨v, h1, h2⟩ := M.out.box
              rw [if_neg (by rw [hL]; simp)] at h2
              have H1 := Lib.hid h1
              have H2 := Lib.hid h2
              clear h1 h2
              go_wp2_with (go_at_call 80; refine (c_take x true O l v _ H1.out H2.out (by omega)).mono ?_; rintro e w9 ⟨⟨v9, rfl⟩, hb9, ho9⟩)
              exact EndM.mk rfl ⟨trivial, M.out.call hb9 ho9⟩
            all_goals
              go_wp2_with (fail)
              exact EndM.mk rfl ⟨rfl, M.out.pure (by decide)⟩
          · rintro u W1 hv hM
            have Y := Lib.hid hM
            clear hv hM
            simp only [putAll, Act.put, Nat.reduceAdd, List.setIfInBounds_toArray, List.set_cons_zero, List.set_cons_succ]
            go_wp2_with (fail)
            go_roundw
            case rel => exact ⟨i + 1, j, l ++ [x], by omega, hj, by go_num, rfl, R3.out, Y.out.done⟩
            case measure => simp [intOf]; omega
        · by_cases hyx : y < x
          · have t1 : decide (x < y) = false := by simp; omega
            have t2 : decide (y < x) = true := by simp; omega
            have R3 := Lib.hid (show l ++ alongM (a.drop i) (b.drop (j + 1)) = alongM a b by rw [RA.out, ← R2.out, alongM_gt hyx])
            clear hxy hyx
            go_wp2_with (fail)
            refine wp_region_grow (by kernel_rfl) (by kernel_rfl) ?_
            repeat (go_big_quiet_step ((first | (fail))))
            refine wpQuiet_nil ?_
            intro w3 hb3
            replace X := Lib.hid (X.out.below hb3)
            have c3 := (hb3.cell (p := ⟨ba, oa + i, none⟩) hba2).trans c1
            have c4 := (hb3.cell (p := ⟨bb, ob + j, none⟩) hbb2).trans c2
            have hba3 : ba < w3.heap.size := by have := hb3.size; omega
            have hbb3 : bb < w3.heap.size := by have := hb3.size; omega
            clear c1 c2 hb3
            go_wp2_with (fail)
            refine wp_region_grow (by kernel_rfl) (by kernel_rfl) ?_
            repeat (go_big_quiet_step ((first | (fail))))
            refine wpQuiet_nil ?_
            intro w4 hb4
            replace X := Lib.hid (X.out.below hb4)
            clear c3 c4 hb4
            go_wp2_with (fail)
            refine wp_region_relM (VB [some (.func (.func 80) #[] #[.pointer (some ⟨O, 0, none⟩)]), some (.slice (some ⟨bb, ob, none⟩) b.length cb), some (.int .i64 j), some (.pointer (some ⟨bb, ob + j, none⟩)), some (.int .i64 y), some (.pointer (some ⟨w.heap.size, 2, none⟩)), some (.bool false), none]) (TK w O l l) 103 (by kernel_rfl) (by kernel_rfl) rfl ?_ ?_ ?_
            · intro u w' hb hh
              obtain ⟨v, h1, h2⟩ := X.out.box
              exact ⟨X.out.S.trans (hb.mono X.out.S.size), X.out.hO, X.out.K.below hb X.out.K.lt, v, h1.below hb h1.lt, own_below h2 hb⟩
            · refine ⟨?_, ?_, ?_, ?_, ?_, ?_, ?_, ?_, trivial⟩
              all_goals
                rintro L u W1 hM hL hd
                have M := Lib.hid hM
                clear hM
                simp [DepsM, Region.binds, VB] at hd
                simp only [putDeps, dstOf, Region.binds]
              case refine_4 =>
                obtain ⟨⟨-, hu1⟩, -, hu2⟩ := hd
                go_wp2_with (fail)
                exact EndM.mk rfl ⟨rfl, M.out.pure (by decide)⟩
              case refine_5 =>
                obtain ⟨-, hu3⟩ := hd
                have q0 : W1.cell? ⟨bb, ob + j, none⟩ = some (.int .i64 y) := (M.out.S.cell (p := ⟨bb, ob + j, none⟩) hbb).trans E2.out
                go_wp2_with (fail)
                exact EndM.mk rfl ⟨rfl, M.out.pure (by decide)⟩
              case refine_7 =>
                obtain ⟨-, hu5⟩ := hd
                have q0 := M.out.K.cell (i := 2) rfl
                go_wp2_with (fail)
                exact EndM.mk rfl ⟨rfl, M.out.pure (by decide)⟩
              case refine_8 =>
                obtain ⟨⟨-, hu0⟩, ⟨-, hu4⟩, -, hu6⟩ := hd
                obtain ⟨v, h1, h2⟩ := M.out.box
                rw [if_neg (by rw [hL]; simp)] at h2
                have H1 := Lib.hid h1
                have H2 := Lib.hid h2
                clear h1 h2
                go_wp2_with (go_at_call 80; refine (c_take y false O l v _ H1.out H2.out (by omega)).mono ?_; rintro e w9 ⟨⟨v9, rfl⟩, hb9, ho9⟩)
                exact EndM.mk rfl ⟨trivial, M.out.call hb9 ho9⟩
              all_goals
                go_wp2_with (fail)
                exact EndM.mk rfl ⟨rfl, M.out.pure (by decide)⟩
            · rintro u W1 hv hM
              have Y := Lib.hid hM
              clear hv hM
              simp only [putAll, Act.put, Nat.reduceAdd, List.setIfInBounds_toArray, List.set_cons_zero, List.set_cons_succ]
              go_wp2_with (fail)
              go_roundw
              case rel => exact ⟨i, j + 1, l, hi, by omega, rfl, by go_num, R3.out, Y.out.done⟩
              case measure => simp [intOf]; omega
          · have t1 : decide (x < y) = false := by simp; omega
            have t2 : decide (y < x) = false := by simp; omega
            have R3 := Lib.hid (show l ++ alongM (a.drop (i + 1)) (b.drop (j + 1)) = alongM a b by rw [← R2.out, alongM_eq (show x = y by omega)])
            clear hxy hyx
            go_wp2_with (fail)
            refine wp_region_grow (by kernel_rfl) (by kernel_rfl) ?_
            repeat (go_big_quiet_step ((first | (fail))))
            refine wpQuiet_nil ?_
            intro w3 hb3
            replace X := Lib.hid (X.out.below hb3)
            have c3 := (hb3.cell (p := ⟨ba, oa + i, none⟩) hba2).trans c1
            have c4 := (hb3.cell (p := ⟨bb, ob + j, none⟩) hbb2).trans c2
            have hba3 : ba < w3.heap.size := by have := hb3.size; omega
            have hbb3 : bb < w3.heap.size := by have := hb3.size; omega
            clear c1 c2 hb3
            go_wp2_with (fail)
            refine wp_region_grow (by kernel_rfl) (by kernel_rfl) ?_
            repeat (go_big_quiet_step ((first | (fail))))
            refine wpQuiet_nil ?_
            intro w4 hb4
            replace X := Lib.hid (X.out.below hb4)
            clear c3 c4 hb4
            go_wp2_with (fail)
            refine wp_region_relM (VB [some (.func (.func 80) #[] #[.pointer (some ⟨O, 0, none⟩)]), some (.slice (some ⟨ba, oa, none⟩) a.length ca), some (.int .i64 i), some (.pointer (some ⟨ba, oa + i, none⟩)), some (.int .i64 x), some (.pointer (some ⟨w.heap.size, 1, none⟩)), some (.bool false), none]) (TK w O l l) 103 (by kernel_rfl) (by kernel_rfl) rfl ?_ ?_ ?_
            · intro u w' hb hh
              obtain ⟨v, h1, h2⟩ := X.out.box
              exact ⟨X.out.S.trans (hb.mono X.out.S.size), X.out.hO, X.out.K.below hb X.out.K.lt, v, h1.below hb h1.lt, own_below h2 hb⟩
            · refine ⟨?_, ?_, ?_, ?_, ?_, ?_, ?_, ?_, trivial⟩
              all_goals
                rintro L u W1 hM hL hd
                have M := Lib.hid hM
                clear hM
                simp [DepsM, Region.binds, VB] at hd
                simp only [putDeps, dstOf, Region.binds]
              case refine_4 =>
                obtain ⟨⟨-, hu1⟩, -, hu2⟩ := hd
                go_wp2_with (fail)
                exact EndM.mk rfl ⟨rfl, M.out.pure (by decide)⟩
              case refine_5 =>
                obtain ⟨-, hu3⟩ := hd
                have q0 : W1.cell? ⟨ba, oa + i, none⟩ = some (.int .i64 x) := (M.out.S.cell (p := ⟨ba, oa + i, none⟩) hba).trans E1.out
                go_wp2_with (fail)
                exact EndM.mk rfl ⟨rfl, M.out.pure (by decide)⟩
              case refine_7 =>
                obtain ⟨-, hu5⟩ := hd
                have q0 := M.out.K.cell (i := 1) rfl
                go_wp2_with (fail)
                exact EndM.mk rfl ⟨rfl, M.out.pure (by decide)⟩
              case refine_8 =>
                obtain ⟨⟨-, hu0⟩, ⟨-, hu4⟩, -, hu6⟩ := hd
                obtain ⟨v, h1, h2⟩ := M.out.box
                rw [if_neg (by rw [hL]; simp)] at h2
                have H1 := Lib.hid h1
                have H2 := Lib.hid h2
                clear h1 h2
                go_wp2_with (go_at_call 80; refine (c_take x false O l v _ H1.out H2.out (by omega)).mono ?_; rintro e w9 ⟨⟨v9, rfl⟩, hb9, ho9⟩)
                exact EndM.mk rfl ⟨trivial, M.out.call hb9 ho9⟩
              all_goals
                go_wp2_with (fail)
                exact EndM.mk rfl ⟨rfl, M.out.pure (by decide)⟩
            · rintro u W1 hv hM
              have Y := Lib.hid hM
              clear hv hM
              simp only [putAll, Act.put, Nat.reduceAdd, List.setIfInBounds_toArray, List.set_cons_zero, List.set_cons_succ]
              go_wp2_with (fail)
              go_roundw
              case rel => exact ⟨i + 1, j + 1, l, by omega, by omega, by go_num, by go_num, R3.out, Y.out.done⟩
              case measure => simp [intOf]; omega

set_option maxHeartbeats 400000 in
theorem c_ids_Minus (a b : List Int) (A B : Option Addr) (ca cb : Nat) (w : World) (ha : InI w A ca a) (hb : InI w B cb b) (hal : a.length ≤ 1000000) :
    Calls Tryd.prog 47 #[.slice A a.length ca, .slice B b.length cb] w (RetS 1 ic 3 w (alongM a b)) := by
  have HA := Lib.hid ha
  have HB := Lib.hid hb
  clear ha hb
  go_enter Tryd.func47, Tryd.ntmps47
  go_wp2_with (go_at_call 64; refine (c_ids_along a b A B ca cb _ HA.out HB.out hal).mono ?_; rintro e w1 ⟨v, rfl, own, hb1⟩)
  obtain ⟨A9, c9, rfl, -⟩ := own_form own
  go_ret
  exact ⟨_, rfl, own, hb1⟩
end Go.Proofs.YtldoedmclfbgpaaDoor
