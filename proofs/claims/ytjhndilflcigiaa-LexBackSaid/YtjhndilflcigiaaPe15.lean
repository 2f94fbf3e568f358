/-
  Lemmas (walks and plain laws), in one text.
-/
import Derived.Test.YtjhndilflcigiaaPe14
import Derived.Test.YtjhndilflcigiaaRows
import Derived.WalkKit
import Derived.WalkSpells
import Derived.WalkLawsBesides
import Derived.Lib.Hide
import Derived.Deep.QuietTactic
import Derived.BigQuiet
import Derived.Maps.AppendAt
import Derived.WalkSmall
import Derived.ProofKit
import Derived.OpenShut
import Derived.JoinedCond
import Derived.Deep.Slices
import Derived.Deep.Fields
import Derived.Carry
import Derived.Deep.AppendSrc
import Derived.Lib.AppendStr
import Derived.Laws.BytesArg
import Derived.Test.YtjhndilflcigiaaProg
import Derived.Deep.CutBlock
import Derived.Deep.DeepCutAuto
import Derived.WalkMore
import Derived.ScopeJumps
import Derived.Lib.Bytealg
import Derived.Laws.Externs
import Derived.Laws.IdiomStrings
import Derived.Outline
import Derived.IntWalk
import Derived.StillTail
import Derived.Laws.Tables
import Derived.Laws.Rows
import Derived.ChangeKeysEq
import Derived.Laws.StructEq
namespace Go.Proofs.Ytjhndilflcigiaa
open Go.RowKit

/-! Words put one behind the other, one at a time. -/
theorem joinW_snoc : ∀ (l : List Wd) (p : Nat) (w : Wd), joinW p (l ++ [w]) = joinW p l ++ (gap (p + (joinW p l).length) ++ w.text)
  | [], p, w => by simp [joinW]
  | x :: l, p, w => by
    rw [List.cons_append, joinW, joinW_snoc l, joinW]
    simp only [List.append_assoc, List.length_append]
    rw [show p + (gap p).length + x.text.length + (joinW (p + (gap p).length + x.text.length) l).length = p + ((gap p).length + (x.text.length + (joinW (p + (gap p).length + x.text.length) l).length)) by omega]
theorem wantW_snoc : ∀ (l : List Wd) (p : Nat) (w : Wd), wantW p (l ++ [w]) = wantW p l ++ [⟨w.kind, w.n, (p + (joinW p l).length + (gap (p + (joinW p l).length)).length : Nat), w.s⟩]
  | [], p, w => by simp [wantW, joinW]
  | x :: l, p, w => by
    rw [List.cons_append, wantW, wantW_snoc l, wantW, joinW]
    simp only [List.cons_append, List.length_append]
    rw [show p + (gap p).length + x.text.length + (joinW (p + (gap p).length + x.text.length) l).length = p + ((gap p).length + (x.text.length + (joinW (p + (gap p).length + x.text.length) l).length)) by omega]
theorem wantW_len : ∀ (l : List Wd) (p : Nat), (wantW p l).length = l.length
  | [], _ => rfl
  | x :: l, p => by rw [wantW, List.length_cons, wantW_len l, List.length_cons]
theorem fst_slen {s : List UInt8} {x : Fst} (h : fst s = some x) : x.s.length ≤ s.length + 24 := by
  cases s with
  | nil => cases h
  | cons c r =>
    rw [fst] at h
    split at h
    · injection h with h
      subst h
      simp only [List.length_take]; omega
    · split at h
      · obtain ⟨v, hv, rfl⟩ := Option.map_eq_some_iff.1 h
        simp
      · split at h
        · split at h
          · cases h
          · cases hu : unquote ((c :: r).take (qt r 1)) with
            | none => rw [hu] at h; cases h
            | some u =>
              rw [hu] at h
              simp only at h
              split at h
              · injection h with h
                subst h
                simp only; omega
              · cases h
        · split at h
          · injection h with h
            subst h
            simp
          · cases h
theorem lexF_slen : ∀ f s p, ∀ w ∈ (lexF f s p).1, w.s.length ≤ s.length + 24
  | 0, _, _, w, h => by simp [lexF] at h
  | f + 1, [], p, w, h => by simp [lexF] at h
  | f + 1, c :: r, p, w, h => by
    rw [lexF] at h
    split at h
    · have := lexF_slen f r (p + 1) w h
      simp only [List.length_cons]; omega
    · cases hx : fst (c :: r) with
      | none => rw [hx] at h; simp at h
      | some x =>
        rw [hx] at h
        simp only at h
        rcases List.mem_cons.1 h with rfl | h
        · exact fst_slen hx
        · have := lexF_slen f _ _ w h
          simp only [List.length_drop] at this; omega
theorem wText_len {k n : Int} {s : List UInt8} (hn : k = 2 → 0 ≤ n ∧ n ≤ 1099511627776) (hs : s.length ≤ 1024) : (wText k n s).length ≤ 5000 := by
  unfold wText
  split
  · rename_i h
    have := hn h
    have := tens_len n.toNat 13 (by omega) (by omega)
    omega
  · split
    · have := quote_len s; omega
    · omega
theorem and_1023 (x : Int) : ∃ q : Nat, q ≤ 1023 ∧ bits .and .i64 x 1023 = (q : Int) := by
  refine ⟨(BitVec.ofInt 64 x &&& BitVec.ofInt 64 1023).toNat, ?_, ?_⟩
  · rw [BitVec.toNat_and]
    exact Nat.and_le_right
  · show IntKind.i64.wrap ((BitVec.ofInt 64 x &&& BitVec.ofInt 64 1023).toNat : Int) = _
    have : (BitVec.ofInt 64 x &&& BitVec.ofInt 64 1023).toNat ≤ 1023 := by rw [BitVec.toNat_and]; exact Nat.and_le_right
    rw [IntKind.wrap_i64]; omega
theorem lexF_count : ∀ f s p, (lexF f s p).1.length ≤ s.length
  | 0, _, _ => by simp [lexF]
  | f + 1, [], p => by simp [lexF]
  | f + 1, c :: r, p => by
    rw [lexF]
    split
    · have := lexF_count f r (p + 1)
      simp only [List.length_cons]; omega
    · cases hx : fst (c :: r) with
      | none => simp
      | some x =>
        obtain ⟨_, h1, h2⟩ := fst_may hx
        have := lexF_count f ((c :: r).drop x.len) (p + x.len)
        simp only [List.length_cons, List.length_drop] at this h2 ⊢; omega
def iC (n : Int) : List Value := [.int .i64 n]
/-- The words chosen so far. -/
structure Lb (s : List UInt8) (ws : List Wd) (k : Nat) (ch : List Wd) : Prop where
  may : ∀ x ∈ ch, Wd.may x.kind x.n x.s
  len : ch.length = k
  short : (joinW 0 ch).length ≤ 5001 * k
theorem Lb.next {s : List UInt8} {ws : List Wd} {k : Nat} {ch : List Wd} (h : Lb s ws k ch) {x : Wd} (hx : Wd.may x.kind x.n x.s) (hs : x.s.length ≤ 1024) : Lb s ws (k + 1) (ch ++ [x]) := by
  refine ⟨fun y hy => ?_, by simp [h.len], ?_⟩
  · rcases List.mem_append.1 hy with hy | hy
    · exact h.may y hy
    · obtain rfl : y = x := by simpa using hy
      exact hx
  · have hn : x.kind = 2 → 0 ≤ x.n ∧ x.n ≤ 1099511627776 := by
      intro e
      rcases hx with h | h | h | h
      · omega
      · exact h.2.2
      · omega
      · omega
    have h1 := wText_len hn hs
    have h2 := h.short
    have h3 : (gap (0 + (joinW 0 ch).length)).length ≤ 1 := by unfold gap; split <;> simp
    rw [joinW_snoc, List.length_append, List.length_append]
    have : x.text = wText x.kind x.n x.s := rfl
    rw [this]; omega
set_option maxHeartbeats 4000000 in
set_option maxRecDepth 4000 in
theorem c_law09_LexBack (s : List UInt8) (O : Option Addr) (c : Nat) (os : List Int) (w : World) (hs : s.length ≤ 9223372036854775807)
    (hol : os.length ≤ c) (_hoc : c ≤ 9223372036854775807) (hoi : os.length ≤ 30 → In 1 iC w O c os) :
    Calls Try.prog 3 #[.string (str s), .slice O os.length c] w (RetV w (.bool true)) := by
  obtain ⟨n, hn⟩ : ∃ n, n = os.length := ⟨_, rfl⟩
  rw [← hn] at hol hoi ⊢
  have HN := Lib.hid hn
  have HOI := Lib.hid hoi
  clear hn hoi
  have CA := Lib.hid (fun w' => c_law09_awake w')
  go_enter Try.func3, Try.ntmps3
  go_wp2_with (fail)
  refine (c_ref09_All s _ hs).mono ?_
  rintro e w1 ⟨hb1, h⟩
  have B1 := Lib.hid hb1
  clear hb1
  rcases h with ⟨h, rfl⟩ | ⟨hs2, ⟨k, hk, rfl⟩ | ⟨v, ws, hl, rfl, own⟩⟩
  · go_wp2_with (fail)
    refine (CA.out _).mono ?_
    rintro e w2 ⟨rfl, hb2⟩
    have B2 := Lib.hid (B1.out.trans (hb2.mono B1.out.size))
    clear hb2
    go_wp2_with (fail)
    go_ret
    exact RetV.bool rfl B2.out
  · go_wp2_with (fail)
    refine (CA.out _).mono ?_
    rintro e w2 ⟨rfl, hb2⟩
    have B2 := Lib.hid (B1.out.trans (hb2.mono B1.out.size))
    clear hb2
    go_wp2_with (fail)
    go_ret
    exact RetV.bool rfl B2.out
  · have hws : ws = (lexF s.length s 0).1 := by have := congrArg Prod.fst hl; exact this.symm
    have hwl : ws.length ≤ 1000 := by rw [hws]; have := lexF_count s.length s 0; omega
    have HW := Lib.hid (fun (j : Nat) (hj : j < ws.length) => (show Wd.may ws[j].kind ws[j].n ws[j].s ∧ ws[j].s.length ≤ 1024 from by
      have hm : ws[j] ∈ (lexF s.length s 0).1 := by rw [← hws]; exact List.getElem_mem hj
      exact ⟨lexF_may _ _ _ _ hm, by have := lexF_slen _ _ _ _ hm; omega⟩))
    obtain ⟨A, cA, rfl, hin⟩ := In.of_own Wd.cells_len own (by omega)
    have HI := Lib.hid hin
    have hcA := hin.1
    have hcA2 := hin.2.1
    clear hin own hl hws
    obtain ⟨m, hm⟩ : ∃ m, m = ws.length := ⟨_, rfl⟩
    have HM := Lib.hid hm
    rw [← hm] at hwl hcA ⊢
    clear hm
    by_cases hm0 : m = 0
    · have d1 : ((m : Int) == 0) = true := by rw [beq_iff_eq]; omega
      clear hm0
      go_wp2_with (fail)
      refine (CA.out _).mono ?_
      rintro e w2 ⟨rfl, hb2⟩
      have B2 := Lib.hid (B1.out.trans (hb2.mono B1.out.size))
      clear hb2
      go_wp2_with (fail)
      go_ret
      exact RetV.bool rfl B2.out
    have d1 : ((m : Int) == 0) = false := by rw [beq_eq_false_iff_ne]; omega
    by_cases hn30 : 30 < n
    · have d2 : decide ((30 : Int) < (n : Int)) = true := by rw [decide_eq_true_iff]; omega
      clear hn30
      go_wp2_with (fail)
      refine (CA.out _).mono ?_
      rintro e w2 ⟨rfl, hb2⟩
      have B2 := Lib.hid (B1.out.trans (hb2.mono B1.out.size))
      clear hb2
      go_wp2_with (fail)
      go_ret
      exact RetV.bool rfl B2.out
    have d2 : decide ((30 : Int) < (n : Int)) = false := by rw [decide_eq_false_iff_not]; omega
    have OI := HOI.out (by omega)
    have HOS := Lib.hid OI
    have hz1 := B1.out.size
    clear HOI OI
    go_wp2_with (fail)
    rw [show ({data := #[]} : ByteArray) = str [] from rfl]
    go_loopw [8, 9, 10] (fun t v i wr => ∃ (k : Nat) (ch : List Wd) (v0 : Value) (tl : List UInt8), k ≤ n ∧ v = v0 ∧ t = .string (str tl) ∧ i = .int .i64 k ∧ Hid (tl = joinW 0 ch) ∧ Hid (Lb s ws k ch) ∧ Hid (wr.ownsRow w1.heap.size 29 4 v k ((wantW 0 ch).flatMap Wd.cells)) ∧ Hid (Below w1.heap.size w1 wr))
      (fun _ _ i _ => n - (intOf i).toNat)
    case atStart => exact ⟨0, [], _, [], by omega, rfl, rfl, rfl, rfl, ⟨by simp, rfl, by simp [joinW]⟩, World.ownsRow_lit _ #[] 0 (Nat.le_refl _) (by unfold maxLen; omega) (by simp), (by repeat (first | exact Below.refl _ _ | refine Below.drew ?_ | refine Below.alloc ?_ (by first | omega | (simp; done) | (simp; omega)) _ | refine Below.setCell ?_ (by first | omega | (simp; done) | (simp; omega)) _ | refine Below.trans ?_ (Below.mono (by assumption) (by first | omega | (simp; done) | (simp; omega)))))⟩
    case round =>
      obtain ⟨k, ch, v0, tl, hk, rfl, rfl, rfl, T, L, OW, BW⟩ := hrel
      obtain ⟨A9, c9, rfl, -, -⟩ := own_form OW.out
      by_cases hlt : k < n
      · have dl : decide (k < n) = true := by simpa using hlt
        have hko : k < os.length := by rw [← HN.out]; exact hlt
        obtain ⟨bo, oo, rfl, hbo, RO⟩ := (HOS.out.below B1.out).at (by omega)
        have hbow := BW.out.size
        have qo : wr.cell? ⟨bo, oo + k, none⟩ = some (.int .i64 os[k]) := by
          have := (RO.below BW.out (by omega)) k hko 0 _ rfl
          simpa using this
        obtain ⟨ox, hox⟩ : ∃ x, x = os[k] := ⟨_, rfl⟩
        rw [← hox] at qo
        clear hox
        obtain ⟨q, hq, ho⟩ := and_1023 ox
        obtain ⟨j, hj⟩ : ∃ j, j = q % m := ⟨_, rfl⟩
        have hjm : j < m := by rw [hj]; exact Nat.mod_lt _ (by omega)
        have hr : (q : Int) % (m : Int) = (j : Int) := by rw [hj]; omega
        have hr2 : (q : Int).tmod (m : Int) = (j : Int) := by rw [Int.tmod_eq_emod_of_nonneg (by omega)]; exact hr
        have hjw : j < ws.length := by rw [← HM.out]; exact hjm
        have HX := HW.out j hjw
        obtain ⟨b, off, rfl, hb, RX⟩ := HI.out.wd hjw
        obtain ⟨c0, c1, c2, c3⟩ := RX _ BW.out
        obtain ⟨x, hx⟩ : ∃ x, x = ws[j] := ⟨_, rfl⟩
        rw [← hx] at c0 c1 c2 c3 HX
        obtain ⟨xk, xn, xp, xs⟩ := x
        simp only at c0 c1 c2 c3 HX
        have HXM := Lib.hid HX.1
        have HXS := Lib.hid HX.2
        have HLT := Lib.hid hlt
        clear RX RO HX hx hjw hj hr hq hko hlt
        have HC := Lib.hid (And.intro c0 (And.intro c1 (And.intro c2 c3)))
        have hLs := L.out.short
        rw [← T.out] at hLs
        have htl : tl.length ≤ 150030 := by omega
        have hn2 := Lib.hid (show xk = 2 → 0 ≤ xn ∧ xn ≤ 1099511627776 by
          intro e
          rcases HXM.out with h | h | h | h
          · omega
          · exact h.2.2
          · omega
          · omega)
        have LN := Lib.hid (L.out.next (x := ⟨xk, xn, xp, xs⟩) HXM.out HXS.out)
        clear hLs
        obtain ⟨tx, htx⟩ : ∃ x, x = wText xk xn xs := ⟨_, rfl⟩
        have htl2 : tx.length ≤ 5000 := by rw [htx]; exact wText_len hn2.out HXS.out
        have CT := Lib.hid (fun (pz : Int) w' => show Calls Try.prog 11 #[.agg (wdA xk xn pz xs)] w' (RetV w' (.string (str tx))) by rw [htx]; exact c_ref09_Text xk xn pz xs w' hn2.out (by have := HXS.out; omega))
        have HTX := Lib.hid htx
        clear htx
        by_cases h0 : 0 < tl.length
        · have dt : decide (0 < tl.length) = true := by rw [decide_eq_true_iff]; exact h0
          have TN := Lib.hid (show tl ++ 32 :: tx = joinW 0 (ch ++ [⟨xk, xn, xp, xs⟩]) by
            rw [HTX.out, joinW_snoc, ← T.out, gap, if_neg (by omega)]; rfl)
          have WN := Lib.hid (show wantW 0 ch ++ [⟨xk, xn, (tl.length : Int) + 1, xs⟩] = wantW 0 (ch ++ [⟨xk, xn, xp, xs⟩]) by
            rw [wantW_snoc, ← T.out, gap, if_neg (by omega)]; simp)
          clear h0
          go_wp2_with (fail)
          have BX := Lib.hid (At.new wr 29 (wdA xk xn ((tl.length : Int) + 1) xs))
          refine (CT.out _ _).mono ?_
          rintro e w2 ⟨rfl, hb2⟩
          replace BX := Lib.hid (BX.out.step hb2)
          replace OW := Lib.hid (own_below OW.out BX.out.1)
          have BW2 := Lib.hid (BW.out.trans (BX.out.1.mono BW.out.size))
          have q0 := BX.out.2.cell (show (wdA xk xn ((tl.length : Int) + 1) xs)[0]? = _ from rfl)
          have q1 := BX.out.2.cell (show (wdA xk xn ((tl.length : Int) + 1) xs)[1]? = _ from rfl)
          have q2 := BX.out.2.cell (show (wdA xk xn ((tl.length : Int) + 1) xs)[2]? = _ from rfl)
          have q3 := BX.out.2.cell (show (wdA xk xn ((tl.length : Int) + 1) xs)[3]? = _ from rfl)
          clear hb2 c0 c1 c2 c3
          go_wp2_with ((at_builtin; refine Stop.out ?_))
          refine Stop.mk (wpList_app _ rfl _ _ elemWr rfl w1.heap.size (.slice A9 k c9) k _ rfl (own_below OW.out ((Below.refl _ _).alloc (Nat.le_refl _) _)) _ 1 1 (Wd.cells ⟨xk, xn, (tl.length : Int) + 1, xs⟩) rfl (Src.new _ (Wd.cells ⟨xk, xn, (tl.length : Int) + 1, xs⟩) _ 4 rfl) (by simpa using wds_one [⟨xk, xn, (tl.length : Int) + 1, xs⟩]) (by omega) (by have := BW2.out.size; simp at this ⊢; omega) ?_)
          intro v4 w4 own4 _ hb4 _
          have B4 := Lib.hid (BW2.out.trans ((((Below.refl _ _).alloc BW2.out.size _)).trans hb4))
          have O4 := Lib.hid (show w4.ownsRow w1.heap.size 29 4 v4 (k + 1) ((wantW 0 (ch ++ [⟨xk, xn, xp, xs⟩])).flatMap Wd.cells) by rw [← WN.out]; simpa using own4)
          have hk1 : k < n := HLT.out
          clear own4 hb4
          go_wp2_with (fail)
          go_roundw
          case rel => exact ⟨k + 1, _, _, _, by omega, rfl, rfl, by go_num, TN.out, LN.out, O4.out, B4.out⟩
          case measure => simp [intOf]; omega
        · have dt : decide (0 < tl.length) = false := by rw [decide_eq_false_iff_not]; exact h0
          have TN := Lib.hid (show tl ++ tx = joinW 0 (ch ++ [⟨xk, xn, xp, xs⟩]) by
            rw [HTX.out, joinW_snoc, ← T.out, gap, if_pos (by omega), List.nil_append]; rfl)
          have WN := Lib.hid (show wantW 0 ch ++ [⟨xk, xn, (tl.length : Int), xs⟩] = wantW 0 (ch ++ [⟨xk, xn, xp, xs⟩]) by
            rw [wantW_snoc, ← T.out, gap, if_pos (by omega)]; simp)
          clear h0
          go_wp2_with (fail)
          have BX := Lib.hid (At.new wr 29 (wdA xk xn ((tl.length : Int)) xs))
          refine (CT.out _ _).mono ?_
          rintro e w2 ⟨rfl, hb2⟩
          replace BX := Lib.hid (BX.out.step hb2)
          replace OW := Lib.hid (own_below OW.out BX.out.1)
          have BW2 := Lib.hid (BW.out.trans (BX.out.1.mono BW.out.size))
          have q0 := BX.out.2.cell (show (wdA xk xn ((tl.length : Int)) xs)[0]? = _ from rfl)
          have q1 := BX.out.2.cell (show (wdA xk xn ((tl.length : Int)) xs)[1]? = _ from rfl)
          have q2 := BX.out.2.cell (show (wdA xk xn ((tl.length : Int)) xs)[2]? = _ from rfl)
          have q3 := BX.out.2.cell (show (wdA xk xn ((tl.length : Int)) xs)[3]? = _ from rfl)
          clear hb2 c0 c1 c2 c3
          go_wp2_with ((at_builtin; refine Stop.out ?_))
          refine Stop.mk (wpList_app _ rfl _ _ elemWr rfl w1.heap.size (.slice A9 k c9) k _ rfl (own_below OW.out ((Below.refl _ _).alloc (Nat.le_refl _) _)) _ 1 1 (Wd.cells ⟨xk, xn, (tl.length : Int), xs⟩) rfl (Src.new _ (Wd.cells ⟨xk, xn, (tl.length : Int), xs⟩) _ 4 rfl) (by simpa using wds_one [⟨xk, xn, (tl.length : Int), xs⟩]) (by omega) (by have := BW2.out.size; simp at this ⊢; omega) ?_)
          intro v4 w4 own4 _ hb4 _
          have B4 := Lib.hid (BW2.out.trans ((((Below.refl _ _).alloc BW2.out.size _)).trans hb4))
          have O4 := Lib.hid (show w4.ownsRow w1.heap.size 29 4 v4 (k + 1) ((wantW 0 (ch ++ [⟨xk, xn, xp, xs⟩])).flatMap Wd.cells) by rw [← WN.out]; simpa using own4)
          have hk1 : k < n := HLT.out
          clear own4 hb4
          go_wp2_with (fail)
          go_roundw
          case rel => exact ⟨k + 1, _, _, _, by omega, rfl, rfl, by go_num, TN.out, LN.out, O4.out, B4.out⟩
          case measure => simp [intOf]; omega
      · have dl : decide (k < n) = false := by simpa using hlt
        obtain rfl : k = n := by omega
        have hLs := L.out.short
        rw [← T.out] at hLs
        have htl : tl.length ≤ 150030 := by omega
        have hz2 := BW.out.size
        have BW2 := Lib.hid (B1.out.trans (BW.out.mono hz1))
        clear hLs hlt
        by_cases hl : 1000 < tl.length
        · have d3 : decide ((1000 : Int) < (tl.length : Int)) = true := by rw [decide_eq_true_iff]; omega
          clear hl
          go_wp2_with (fail)
          refine (CA.out _).mono ?_
          rintro e w2 ⟨rfl, hb2⟩
          have B2 := Lib.hid (BW2.out.trans (hb2.mono BW2.out.size))
          clear hb2
          go_wp2_with (fail)
          go_ret
          exact RetV.bool rfl B2.out
        have d3 : decide ((1000 : Int) < (tl.length : Int)) = false := by rw [decide_eq_false_iff_not]; omega
        have HL := Lib.hid (show lexS tl = (wantW 0 ch, none) by unfold lexS; rw [T.out]; exact lexF_join ch 0 L.out.may)
        have HT := Lib.hid (show tl.length ≤ 1000 by omega)
        clear hl
        go_wp2_with (fail)
        refine (c_lex_All tl _ (by omega)).mono ?_
        intro e w2 h2
        obtain ⟨hb2, v2, rfl, own2⟩ := h2.good HT.out HL.out
        clear h2
        have hcl : (wantW 0 ch).length = k := by rw [wantW_len]; exact L.out.len
        obtain ⟨A2, c2, rfl, in2⟩ := In.of_own Wd.cells_len own2 (by omega)
        have OW2 : w2.ownsRow w1.heap.size 29 4 (.slice A9 (wantW 0 ch).length c9) (wantW 0 ch).length ((wantW 0 ch).flatMap Wd.cells) := by rw [hcl]; exact own_below OW.out hb2
        obtain ⟨A3, c3, he3, in3⟩ := In.of_own Wd.cells_len OW2 (by omega)
        obtain ⟨rfl, -, rfl⟩ : A9 = A3 ∧ True ∧ c9 = c3 := by injection he3 with h1 _ h3; exact ⟨h1, trivial, h3⟩
        have CS := Lib.hid (fun w' (hb : Below w2.heap.size w2 w') => show Calls Try.prog 13 #[.slice A2 k c2, .slice A9 k c9] w' (RetV w' (.bool true)) by
          have := c_law09_Same (wantW 0 ch) A2 A9 c2 c9 w' (in2.below hb) (in3.below hb)
          rw [hcl] at this
          exact this)
        have B2 := Lib.hid (BW2.out.trans (hb2.mono BW2.out.size))
        have b1 := in2.1
        have b2 := in2.2.1
        rw [hcl] at b1 ⊢
        clear hb2 own2 OW2 in2 in3 he3 hcl
        go_wp2_with (fail)
        refine (CS.out _ (Below.refl _ _)).mono ?_
        rintro e w3 ⟨rfl, hb3⟩
        replace B2 := Lib.hid (B2.out.trans (hb3.mono B2.out.size))
        clear hb3
        go_wp2_with (fail)
        refine (CA.out _).mono ?_
        rintro e w4 ⟨rfl, hb4⟩
        replace B2 := Lib.hid (B2.out.trans (hb4.mono B2.out.size))
        clear hb4
        go_wp2_with (fail)
        go_ret
        exact RetV.bool rfl B2.out
end Go.Proofs.Ytjhndilflcigiaa
namespace Go.Proofs.Ytjhndilflcigiaa
open Go.ChangeShapes Go.WideShapes Go.ChangeAt Go.RowKit Go.Deep
open Go.ChangeMaps (open_string shut_string)

section
variable {H : Type} {enc : TypeId × Value → H} {w : World} {base : Nat} {spare : Nat → Bool} {held : Bool}
theorem c_intJ : Try.prog.cellsOf 3 = 1 := by kernel_rfl
/-- A slice of ints that came in. -/
theorem open_intsJ {fuel : Nat} {cs : List Value} {x : DataW H × List MemPlace} (h : DataW.trod enc Try.prog w 0 spare held fuel 22 cs = some x) :
    ∃ (A : Option Addr) (c : Nat) (l : List Int), cs = [.slice A l.length c] ∧ l.length ≤ c ∧ c ≤ 9223372036854775807 ∧ (l = [] ∨ ∃ b off, A = some ⟨b, off, none⟩ ∧ b < w.heap.size ∧ Row 1 iC w b off l) := by
  rcases open_slice Try.underlying22 h with ⟨rfl, rfl⟩ | ⟨a, len, cap, m, n, D, Pl, rfl, hb, hl, hm, hmm, hx, hi⟩
  · exact ⟨none, 0, [], rfl, by simp, by omega, .inl rfl⟩
  · have hlm : len ≤ m := by rw [hmm]; split <;> omega
    have hq : ∀ i, i < len → ∃ v : Int, ∀ j u, (iC v)[j]? = some u → w.cell? (a.add (i * 1 + j)) = some u := by
      intro i hil
      obtain ⟨cs', hc, ht⟩ := hi i (by omega)
      rw [c_intJ] at hc
      obtain ⟨k, hk, _, _⟩ := DataW.trod_int Try.underlying3 ht
      obtain ⟨_, hcl, hat⟩ := World.cells?_some hc
      refine ⟨k, fun j u hu => ?_⟩
      have hj : j < 1 := (List.getElem?_eq_some_iff.1 hu).1
      have hj0 : j = 0 := by omega
      subst hj0
      have h1 := hat 0 (by omega)
      rw [Go.Deep.add_add] at h1
      rw [h1, hk]
      exact hu
    obtain ⟨l, hll, hq⟩ := list_of len hq
    refine ⟨some a, cap, l, by rw [hll], by omega, by unfold maxLen at hm; omega, ?_⟩
    rcases Nat.eq_zero_or_pos len with h0 | h0
    · exact .inl (List.eq_nil_of_length_eq_zero (by omega))
    · right
      have h1 := hq 0 (by omega) 0 _ rfl
      have hsp := cell_spot h1
      have hlt := World.block_lt_of_cell? w _ h1
      obtain ⟨ab, ao, asp⟩ := a
      simp [Addr.add] at hsp hlt
      subst hsp
      refine ⟨ab, ao, rfl, hlt, fun i hi j u hu => ?_⟩
      have := hq i hi j u hu
      rw [add_lit'] at this
      rw [Nat.add_assoc]; exact this
end
end Go.Proofs.Ytjhndilflcigiaa
