/-
  Lemmas (walks and plain laws), in one text.
-/
import Derived.Test.YtldoedmclfbgpaaDoorBq5
import Derived.Test.YtldoedmclfbgpaaDoorBq6
import Derived.Test.YtldoedmclfbgpaaDoorBq12
namespace Go.Proofs.YtldoedmclfbgpaaDoor
open Go.RowKit

theorem rdL_e0 {α : Type} {one : Rd → α} {one' : Rd → Rd} (h0 : ∀ st, (one' st).e = 0 → st.e = 0) : ∀ (n : Nat) (st : Rd) (acc : List α), (rdL one one' n st acc).2.e = 0 → st.e = 0
  | 0, st, acc, h => h
  | n + 1, st, acc, h => by
    by_cases he : (one' st).e = 0
    · exact h0 st he
    · rw [rdL_bad he] at h; exact absurd h he
theorem rdL_exit {α : Type} {one : Rd → α} {one' : Rd → Rd} {N k : Nat} {S : Rd} {acc : List α} {T : List α × Rd} (hk : k ≤ N) (L : S.e = 0 → rdL one one' (N - k) S acc = T) (LE : S.e ≠ 0 → T.2 = S) (hlt : ¬ (k < N ∧ S.e = 0)) : T.2 = S ∧ (T.2.e = 0 → acc = T.1) := by
  by_cases he : S.e = 0
  · have hkn : k = N := by
      rcases Nat.lt_or_ge k N with h | h
      · exact absurd ⟨h, he⟩ hlt
      · omega
    have h := L he
    rw [hkn, Nat.sub_self] at h
    rw [← h]
    exact ⟨rfl, fun _ => rfl⟩
  · have h := LE he
    exact ⟨h, fun e => absurd (h ▸ e) he⟩
/-- One round of the reference's list: it goes on where nothing was wrong. -/
theorem rdL_step {α : Type} {one : Rd → α} {one' : Rd → Rd} {N k m : Nat} {S S2 : Rd} {acc : List α} {x : α} {T : List α × Rd} (h : S.e = 0 → rdL one one' (N - k) S acc = T) (he : S.e = 0) (hk : N - k = m + 1) (hx : x = one S) (hS : S2 = one' S) :
    (S2.e = 0 → rdL one one' m S2 (acc ++ [x]) = T) ∧ (S2.e ≠ 0 → T.2 = S2) := by
  have h1 := h he
  rw [hk] at h1
  subst hx hS
  refine ⟨fun e => by rw [← h1, rdL_ok e], fun e => by rw [← h1, rdL_bad e]⟩
/-- The end of a call of the reference's that reads a book: where nothing was wrong it is the book. -/
def RetRB (p : Nat) (st' : Rd) (w : World) (k : Book) (e : Ending) (w' : World) : Prop :=
  ∃ b : BQ, e = .returned (.agg b.arr) ∧ (st'.e = 0 → b.book = k) ∧ b.small ∧ OwnB w' w.heap.size b ∧ RdR w' p st' ∧ Kept (some p) w.heap.size w w'
set_option maxHeartbeats 40000000 in
set_option maxRecDepth 10000 in
theorem c_ref21_parts (p : Nat) (st : Rd) (w : World) (hr : RdR w p st) : Calls Tryd.prog 27 #[.pointer (some ⟨p, 0, none⟩)] w (RetRB p (bkG st).2 w (bkBook st)) := by
  obtain ⟨s, hs⟩ : ∃ a, a = rdN st 1099511627776 := ⟨_, rfl⟩
  obtain ⟨n, hn⟩ : ∃ a, a = rdN (bkA st) 1073741824 := ⟨_, rfl⟩
  obtain ⟨TC, hTC⟩ : ∃ T, T = bkC st := ⟨_, rfl⟩
  obtain ⟨TD, hTD⟩ : ∃ T, T = bkD st := ⟨_, rfl⟩
  obtain ⟨TG, hTG⟩ : ∃ T, T = bkG st := ⟨_, rfl⟩
  obtain ⟨N1, hN1⟩ : ∃ N : Nat, (N : Int) = rdN (bkB st) 48 := ⟨(rdN (bkB st) 48).toNat, by have := rdN_bd (bkB st) 48; omega⟩
  obtain ⟨N2, hN2⟩ : ∃ N : Nat, (N : Int) = rdN TC.2 40 := ⟨(rdN TC.2 40).toNat, by have := rdN_bd TC.2 40; omega⟩
  obtain ⟨N3, hN3⟩ : ∃ N : Nat, (N : Int) = rdN TD.2 16 := ⟨(rdN TD.2 16).toNat, by have := rdN_bd TD.2 16; omega⟩
  have hN1b : N1 ≤ 48 := by have := rdN_bd (bkB st) 48; omega
  have hN2b : N2 ≤ 40 := by have := rdN_bd TC.2 40; omega
  have hN3b : N3 ≤ 16 := by have := rdN_bd TD.2 16; omega
  have HS := Lib.hid hs
  have HN := Lib.hid hn
  have HN1 := Lib.hid hN1
  have HN2 := Lib.hid hN2
  have HN3 := Lib.hid hN3
  have HTC := Lib.hid (show TC = rdL rdCQ rdCard' N1 (rdN' (bkB st) 48) [] by rw [hTC]; unfold bkC; rw [← hN1, Int.toNat_natCast])
  have HTD := Lib.hid (show TD = rdL rdDead rdDead' N2 (rdN' TC.2 40) [] by rw [hTD]; unfold bkD; rw [← hTC, ← hN2, Int.toNat_natCast])
  have HTG := Lib.hid (show TG = rdL rdGrp rdGrp' N3 (rdN' TD.2 16) [] by rw [hTG]; unfold bkG; rw [← hTD, ← hN3, Int.toNat_natCast])
  have HBK := Lib.hid (show bkBook st = ⟨s, n, TC.1.map CQ.c, TD.1, TG.1⟩ by rw [hs, hn, hTC, hTD, hTG]; rfl)
  have E := Lib.hid ((EnvR.start hr).alloc 35 #[.int .i64 0, .int .i64 0, .slice none 0 0, .slice none 0 0, .slice none 0 0])
  rw [← hTG]
  clear hr hs hn hTC hTD hTG hN1 hN2 hN3
  go_enter Tryd.func27, Tryd.ntmps27
  go_wp2_with (fail)
  refine (c_ref01_RNum p st 1099511627776 _ E.out.rd).mono ?_
  rintro e w1 ⟨rfl, hr, hk⟩
  rw [← HS.out]
  replace E := Lib.hid ((E.out.call hr hk).state (show _ = bkA st from rfl))
  clear hr hk
  go_wp2_with (with_reducible refine stop_build 35 _ rfl ?_)
  refine Stop.mk (wpList_buildD rfl _ _ rfl _ rfl #[.int .i64 s, .int .i64 0, .slice none 0 0, .slice none 0 0, .slice none 0 0] (by kernel_rfl) ?_)
  go_wp2_with (with_reducible refine stS 35 _ _ rfl rfl ?_)
  refine Stop.mk (wsB rfl _ _ _ rfl w1.heap.size _ rfl rfl _ (Blk.new _ _ _) strBk rfl rfl (by simp [Value.oneCell']) ?_)
  intro w2 hb2 hk2
  replace E := Lib.hid ((E.out.alloc 35 #[.int .i64 0, .int .i64 0, .slice none 0 0, .slice none 0 0, .slice none 0 0]).put0 hb2 hk2)
  clear hb2 hk2
  obtain ⟨G1, hG1⟩ : ∃ g, g = w1.heap.size := ⟨_, rfl⟩
  rw [← hG1] at E ⊢
  clear hG1
  obtain ⟨BB, hBB⟩ : ∃ B, B = w2.heap.size := ⟨_, rfl⟩
  have HB := Lib.hid (show G1 < BB ∧ w.heap.size < BB ∧ p < BB ∧ BB ≤ w2.heap.size from ⟨by rw [hBB]; exact E.out.b0.lt, by rw [hBB]; exact E.out.b1.lt, by rw [hBB]; exact E.out.rd.lt, by omega⟩)
  have PB := Lib.hid (fun (g : Nat) (h : some p = some g) => show g < BB from by injection h with h; have := HB.out.2.2.1; omega)
  have GB := Lib.hid (fun (g : Nat) (h : some G1 = some g) => show g < BB from by injection h with h; have := HB.out.1; omega)
  have WB := Lib.hid (fun (g : Nat) (h : some w.heap.size = some g) => show g < BB from by injection h with h; have := HB.out.2.1; omega)
  clear hBB
  go_wp2_with (fail)
  refine (c_ref01_RNum p _ 1073741824 _ E.out.rd).mono ?_
  rintro e w3 ⟨rfl, hr, hk⟩
  rw [← HN.out]
  have hz3 := hk.size
  replace E := Lib.hid ((E.out.call hr hk).state (show _ = bkB st from rfl))
  clear hr hk
  have u1 := E.out.b0.cell (i := 1) rfl
  have ff := fun i => E.out.b0.frozen i
  have gl := E.out.b0.lt
  go_wp2_with (fail)
  clear u1 ff gl
  replace E := Lib.hid ((E.out.store0 1 (.int .i64 n)).as (show _ = #[.int .i64 s, .int .i64 n, .slice none 0 0, .slice none 0 0, .slice none 0 0] from rfl))
  have hz4 : BB ≤ (w3.setCell ⟨G1, 1, none⟩ (.int .i64 n)).heap.size := by have := HB.out.2.2.2; simp; omega
  obtain ⟨w4, hw4⟩ : ∃ x, x = w3.setCell ⟨G1, 1, none⟩ (.int .i64 n) := ⟨_, rfl⟩
  rw [← hw4] at E hz4 ⊢
  clear hw4 hz3
  refine (c_ref01_RNum p _ 48 _ E.out.rd).mono ?_
  rintro e w5 ⟨rfl, hr, hk⟩
  rw [← HN1.out]
  have hz5 := Lib.hid (show BB ≤ w5.heap.size from Nat.le_trans hz4 hk.size)
  replace E := Lib.hid (E.out.call hr hk)
  clear hr hk hz4
  go_upto_block 0 with (fail)
  go_cut [5] from 20 to 38 (fun _ wc => ∃ (acc : List CQ) (A : Option Addr) (c : Nat), acc.length ≤ 48 ∧ Hid (TC.2.e = 0 → acc = TC.1) ∧ Hid (∀ x ∈ acc, ∀ y ∈ x.c.f, y.s.length ≤ 4294967000) ∧ Hid (wc.ownsRow BB 56 27 (.slice A acc.length c) acc.length (acc.flatMap CQ.cells)) ∧ Hid (EnvR p TC.2 w wc [(G1, #[.int .i64 s, .int .i64 n, .slice A acc.length c, .slice none 0 0, .slice none 0 0]), (w.heap.size, #[.int .i64 0, .int .i64 0, .slice none 0 0, .slice none 0 0, .slice none 0 0])]) ∧ Hid (BB ≤ wc.heap.size))
  case first =>
   go_wp2_with (fail)
   go_loopw [5] (fun i wr => ∃ (k : Nat) (acc : List CQ) (A : Option Addr) (c : Nat) (S : Rd), k ≤ N1 ∧ i = .int .i64 k ∧ acc.length ≤ k ∧ Hid (S.e = 0 → rdL rdCQ rdCard' (N1 - k) S acc = TC) ∧ Hid (S.e ≠ 0 → TC.2 = S) ∧ Hid (∀ x ∈ acc, ∀ y ∈ x.c.f, y.s.length ≤ 4294967000) ∧ Hid (wr.ownsRow BB 56 27 (.slice A acc.length c) acc.length (acc.flatMap CQ.cells)) ∧ Hid (EnvR p S w wr [(G1, #[.int .i64 s, .int .i64 n, .slice A acc.length c, .slice none 0 0, .slice none 0 0]), (w.heap.size, #[.int .i64 0, .int .i64 0, .slice none 0 0, .slice none 0 0, .slice none 0 0])]) ∧ Hid (BB ≤ wr.heap.size)) (fun i _ => N1 - (intOf i).toNat)
   case atStart => exact ⟨0, [], none, 0, _, by omega, rfl, by simp, (fun _ => by rw [HTC.out]; rfl), (fun he => by
     have h0 : N1 = 0 := by have := rdN_err' he; have := HN1.out; omega
     rw [HTC.out, h0]; rfl), (fun x hx => (by first | cases hx | simp at hx)), World.ownsRow_nil _ _ _ _, E.out, hz5.out⟩
   case round =>
     clear E hz5
     obtain ⟨k, acc, A, c, S, hk, rfl, hal, L, LE, FT, OM, E, HZ⟩ := hrel
     have re := E.out.rd.eN
     have rl := E.out.rd.lt
     by_cases hlt : k < N1 ∧ S.e = 0
     · obtain ⟨hlt, he⟩ := hlt
       have d1 : decide ((k : Int) < (N1 : Int)) = true := by simp; omega
       have te : (S.e == 0) = true := by simpa using he
       obtain ⟨x, hx⟩ : ∃ x, x = rdCQ S := ⟨_, rfl⟩
       obtain ⟨S2, hS2⟩ : ∃ s, s = rdCard' S := ⟨_, rfl⟩
       obtain ⟨m, hm⟩ : ∃ m, m = N1 - (k + 1) := ⟨_, rfl⟩
       have ST := Lib.hid (rdL_step L.out he (show N1 - k = m + 1 by omega) hx hS2)
       have HM := Lib.hid hm
       have HXV := Lib.hid (show rdCard S = x.c by rw [hx]; rfl)
       have HS2 := Lib.hid hS2
       have FT2 := Lib.hid (show ∀ z ∈ acc ++ [x], ∀ y ∈ z.c.f, y.s.length ≤ 4294967000 from fun z hz => by
         rcases List.mem_append.1 hz with hz | hz
         · exact FT.out z hz
         · rw [List.mem_singleton.1 hz, hx]; exact rdCard_sizes S)
       have HBB := Lib.hid (show BB ≤ wr.heap.size ∧ w.heap.size ≤ BB ∧ G1 < BB ∧ ∀ y ∈ [(w.heap.size, (#[.int .i64 0, .int .i64 0, .slice none 0 0, .slice none 0 0, .slice none 0 0] : Array Value))], y.1 < BB from ⟨HZ.out, Nat.le_of_lt HB.out.2.1, HB.out.1, fun y hy => by rw [List.mem_singleton.1 hy]; exact HB.out.2.1⟩)
       clear hx hS2 hm L LE he
       go_wp2_with (fail)
       refine wp_region_relM (VQ [some (.pointer (some ⟨G1, 2, none⟩)), some (.slice A acc.length c), some (.pointer (some ⟨p, 0, none⟩)), some (.agg x.c.arr), none, none, some (.pointer (some ⟨G1, 2, none⟩)), none]) (KQ p S S2 w G1 BB 2 #[.int .i64 s, .int .i64 n, .slice A acc.length c, .slice none 0 0, .slice none 0 0] [(w.heap.size, (#[.int .i64 0, .int .i64 0, .slice none 0 0, .slice none 0 0, .slice none 0 0] : Array Value))] 56 27 (.slice A acc.length c) acc.length (acc.flatMap CQ.cells) (x.cells) (fun _ => True)) 113 (by kernel_rfl) (by kernel_rfl) rfl ?_ ?_ ?_
       · intro u w' hb hh
         exact KQ.start (Nat.le_trans HBB.out.1 hb.size) HBB.out.2.1 HBB.out.2.2.1 HBB.out.2.2.2 (E.out.below hb) (own_below OM.out hb) (trivial)
       · refine ⟨?_, ?_, ?_, ?_, ?_, ?_, ?_, ?_, trivial⟩
         all_goals
           rintro L u W1 hM hL hd
           have M := Lib.hid hM
           clear hM
           simp [DepsM, Region.binds, VQ] at hd
           simp only [putDeps, dstOf, Region.binds]
         case refine_2 =>
           have hu0 : u 0 = .pointer (some ⟨G1, 2, none⟩) := by first | exact hd.2 | exact hd.1.2
           have q2 := (M.out.blk (M.out.no7 (M.out.no5' hL))).cell (i := 2) rfl
           go_wp2_with (fail)
           exact EndM.mk rfl ⟨rfl, M.out.pure (by decide) (by decide) (by decide) (by decide)⟩
         case refine_4 =>
           have hu2 : u 2 = .pointer (some ⟨p, 0, none⟩) := by first | exact hd.2 | exact hd.1.2
           go_wp2_with (go_at_call 50; refine (c_ref08_Card p S _ (M.out.rd hL)).mono ?_; rintro e w9 ⟨rfl, hr9, hk9⟩; rw [HXV.out])
           rw [← HS2.out] at hr9
           exact EndM.mk rfl ⟨rfl, M.out.call hL hr9 hk9 (trivial)⟩
         case refine_5 =>
           have hu3 : u 3 = .agg x.c.arr := by first | exact hd.2 | exact hd.1.2
           rw [hu3]
           go_wp2_with (with_reducible refine stop_lit _ _ rfl ?_)
           refine Stop.mk (wpList_lit1 rfl _ _ _ rfl elemCard (by omega) x.c.arr rfl x.size ?_)
           exact EndM.mk rfl ⟨trivial, M.out.make (by first | exact hd.1 | exact hd.1.1) hL rfl x.cells_len (trivial)⟩
         case refine_6 =>
           obtain ⟨⟨hL1, hu1⟩, hL4⟩ := hd
           obtain ⟨g, e4, hsrc⟩ := M.out.lit (by first | exact hL4 | exact hL4.1) hL
           have own := M.out.own0 hL
           rw [e4]
           go_wp2_with ((at_builtin; refine Stop.out ?_))
           refine Stop.mk (wpList_app _ rfl _ _ elemCard rfl BB (.slice A acc.length c) acc.length _ rfl own _ 1 1 (x.cells) rfl hsrc x.ones_all (by omega) M.out.hB ?_)
           intro v7 w7 own7 hg7 hb7 _
           exact EndM.mk rfl ⟨trivial, M.out.app hL1 (by first | exact hL4 | exact hL4.1) hL own7 hb7 (trivial)⟩
         case refine_8 =>
           have hL5 : L 5 = true := by first | exact hd.2 | exact hd.2.1 | exact hd.1
           have hu6 : u 6 = .pointer (some ⟨G1, 2, none⟩) := by first | exact hd.1.2 | exact hd.2.2
           have own := M.out.own1 hL5
           obtain ⟨A5, c5, e5, -⟩ := own_form own
           have s9 := (M.out.blk hL).cell (i := 2) rfl
           have sf := fun i => (M.out.blk hL).frozen i
           have slt := (M.out.blk hL).lt
           have PUT := Lib.hid (M.out.put (v := undef) hL5 hL (trivial))
           rw [e5] at PUT
           rw [e5, hu6]
           clear own
           go_wp2_with (fail)
           exact EndM.mk0 rfl ⟨trivial, PUT.out⟩
         all_goals
           go_wp2_with (fail)
           exact EndM.mk rfl ⟨rfl, M.out.pure (by decide) (by decide) (by decide) (by decide)⟩
       · rintro u W1 hv hM
         obtain ⟨e9, o9, k9, z9⟩ := hM.done
         obtain ⟨A9, c9, e5, -⟩ := own_form o9
         have E2 := Lib.hid (e9.as (show _ = #[.int .i64 s, .int .i64 n, .slice A9 (acc ++ [x]).length c9, .slice none 0 0, .slice none 0 0] by rw [e5, List.length_append]; rfl))
         have O2 := Lib.hid (show W1.ownsRow BB 56 27 (.slice A9 (acc ++ [x]).length c9) (acc ++ [x]).length ((acc ++ [x]).flatMap CQ.cells) by rw [e5] at o9; simpa using o9)
         have Z2 := Lib.hid z9
         clear hv hM e9 o9 k9 z9 e5 E OM re rl
         simp only [putAll, Act.put, Nat.reduceAdd, List.setIfInBounds_toArray, List.set_cons_zero, List.set_cons_succ]
         go_wp2_with (fail)
         go_roundw
         case rel => exact ⟨k + 1, acc ++ [x], A9, c9, S2, by omega, by go_num, by simp; omega, (fun e => by rw [← HM.out]; exact ST.out.1 e), (fun e => ST.out.2 e), FT2.out, O2.out, E2.out, Z2.out⟩
         case measure => simp [intOf]; omega
     · have hfin := rdL_exit (T := TC) (S := S) (N := N1) (k := k) (acc := acc) hk L.out LE.out hlt
       have FIN := Lib.hid hfin
       replace E := Lib.hid (E.out.state hfin.1.symm)
       clear hfin L LE
       by_cases hkN : k < N1
       · have he : S.e ≠ 0 := fun e => hlt ⟨hkN, e⟩
         have d1 : decide ((k : Int) < (N1 : Int)) = true := by simp; omega
         have te : (S.e == 0) = false := by simpa using he
         go_wp2_with (fail)
         go_meet
         case rel => exact ⟨acc, A, c, by omega, FIN.out.2, FT.out, OM.out, E.out, HZ.out⟩
       · have d1 : decide ((k : Int) < (N1 : Int)) = false := by simp; omega
         go_wp2_with (fail)
         go_meet
         case rel => exact ⟨acc, A, c, by omega, FIN.out.2, FT.out, OM.out, E.out, HZ.out⟩
  case rest =>
    obtain ⟨acc, A, c, hac, HF1, FT, OM, E, HZ⟩ := hcut
    go_wp2_with (fail)
    refine (c_ref01_RNum p _ 40 _ E.out.rd).mono ?_
    rintro e w6 ⟨rfl, hr, hk⟩
    rw [← HN2.out]
    replace OM := Lib.hid (own_kept OM.out hk PB.out)
    replace HZ := Lib.hid (Nat.le_trans HZ.out hk.size)
    replace E := Lib.hid (E.out.call hr hk)
    clear hr hk
    go_upto_block 2 with (fail)
    go_cut [6, 7] from 41 to 67 (fun _ _ wc => ∃ (ds : List Dead) (D : Option Addr) (d : Nat), ds.length ≤ 40 ∧ Hid (TD.2.e = 0 → ds = TD.1) ∧ Hid (wc.ownsRow BB 56 27 (.slice A acc.length c) acc.length (acc.flatMap CQ.cells)) ∧ Hid (wc.ownsRow BB 60 3 (.slice D ds.length d) ds.length (ds.flatMap Dead.cells)) ∧ Hid (EnvR p TD.2 w wc [(G1, #[.int .i64 s, .int .i64 n, .slice A acc.length c, .slice D ds.length d, .slice none 0 0]), (w.heap.size, #[.int .i64 0, .int .i64 0, .slice none 0 0, .slice none 0 0, .slice none 0 0])]) ∧ Hid (BB ≤ wc.heap.size))
    case first =>
      go_wp2_with (fail)
      go_loopw [6, 7] (fun i _ wr => ∃ (k : Nat) (ds : List Dead) (D : Option Addr) (d : Nat) (S : Rd), k ≤ N2 ∧ i = .int .i64 k ∧ ds.length ≤ k ∧ Hid (S.e = 0 → rdL rdDead rdDead' (N2 - k) S ds = TD) ∧ Hid (S.e ≠ 0 → TD.2 = S) ∧ Hid (wr.ownsRow BB 56 27 (.slice A acc.length c) acc.length (acc.flatMap CQ.cells)) ∧ Hid (wr.ownsRow BB 60 3 (.slice D ds.length d) ds.length (ds.flatMap Dead.cells)) ∧ Hid (EnvR p S w wr [(G1, #[.int .i64 s, .int .i64 n, .slice A acc.length c, .slice D ds.length d, .slice none 0 0]), (w.heap.size, #[.int .i64 0, .int .i64 0, .slice none 0 0, .slice none 0 0, .slice none 0 0])]) ∧ Hid (BB ≤ wr.heap.size)) (fun i _ _ => N2 - (intOf i).toNat)
      case atStart => exact ⟨0, [], none, 0, _, by omega, rfl, by simp, (fun _ => by rw [HTD.out]; rfl), (fun he => by
        have h0 : N2 = 0 := by have := rdN_err' he; have := HN2.out; omega
        rw [HTD.out, h0]; rfl), OM.out, World.ownsRow_nil _ _ _ _, E.out, HZ.out⟩
      case round =>
        clear E HZ OM
        obtain ⟨k, ds, D, d, S, hk, rfl, hal, L, LE, OM, OD, E, HZ⟩ := hrel
        have re := E.out.rd.eN
        have rl := E.out.rd.lt
        by_cases hlt : k < N2 ∧ S.e = 0
        · obtain ⟨hlt, he⟩ := hlt
          have d1 : decide ((k : Int) < (N2 : Int)) = true := by simp; omega
          have te : (S.e == 0) = true := by simpa using he
          obtain ⟨x, hx⟩ : ∃ x, x = rdDead S := ⟨_, rfl⟩
          obtain ⟨S2, hS2⟩ : ∃ s, s = rdDead' S := ⟨_, rfl⟩
          obtain ⟨m, hm⟩ : ∃ m, m = N2 - (k + 1) := ⟨_, rfl⟩
          have ST := Lib.hid (rdL_step L.out he (show N2 - k = m + 1 by omega) hx hS2)
          have HM := Lib.hid hm
          have X1 := Lib.hid (show rdN S 1099511627776 = x.id by rw [hx]; rfl)
          have X2 := Lib.hid (show rdN (rdN' S 1099511627776) 1099511627776 = x.ver by rw [hx]; rfl)
          have X3 := Lib.hid (show rdN (rdN' (rdN' S 1099511627776) 1099511627776) 1099511627776 = x.seq by rw [hx]; rfl)
          have HS2 := Lib.hid hS2
          have E2 := Lib.hid (EnvR.start E.out.rd)
          clear hx hS2 hm L LE he
          go_wp2_with (fail)
          refine (c_ref01_RNum p _ 1099511627776 _ E2.out.rd).mono ?_
          rintro e w7 ⟨rfl, hr, hk7⟩
          rw [X1.out]
          replace E2 := Lib.hid (E2.out.call hr hk7)
          clear hr hk7 re rl
          go_wp2_with (with_reducible refine stop_build 60 _ rfl ?_)
          refine Stop.mk (wpList_buildD rfl _ _ rfl _ rfl #[.int .i64 x.id, .int .i64 0, .int .i64 0] (by kernel_rfl) ?_)
          go_wp2_with (with_reducible refine stS 60 _ _ rfl rfl ?_)
          refine Stop.mk (wsB rfl _ _ _ rfl w7.heap.size _ rfl rfl _ (Blk.new _ _ _) strDead rfl rfl (by simp [Value.oneCell']) ?_)
          intro w8 hb8 hk8
          replace E2 := Lib.hid ((E2.out.alloc 60 #[.int .i64 0, .int .i64 0, .int .i64 0]).put0 hb8 hk8)
          clear hb8 hk8
          obtain ⟨X7, hX7⟩ : ∃ g, g = w7.heap.size := ⟨_, rfl⟩
          rw [← hX7] at E2 ⊢
          clear hX7
          go_wp2_with (fail)
          refine (c_ref01_RNum p _ 1099511627776 _ E2.out.rd).mono ?_
          rintro e w9 ⟨rfl, hr, hk9⟩
          rw [X2.out]
          replace E2 := Lib.hid (E2.out.call hr hk9)
          clear hr hk9
          have u1 := E2.out.b0.cell (i := 1) rfl
          have ff := fun i => E2.out.b0.frozen i
          have gl := E2.out.b0.lt
          go_wp2_with (fail)
          clear u1 ff gl
          replace E2 := Lib.hid ((E2.out.store0 1 (.int .i64 x.ver)).as (show _ = #[.int .i64 x.id, .int .i64 x.ver, .int .i64 0] from rfl))
          refine (c_ref01_RNum p _ 1099511627776 _ E2.out.rd).mono ?_
          rintro e w10 ⟨rfl, hr, hk10⟩
          rw [X3.out]
          replace E2 := Lib.hid ((E2.out.call hr hk10).state (show _ = S2 from HS2.out.symm))
          clear hr hk10
          have u2 := E2.out.b0.cell (i := 2) rfl
          have ff := fun i => E2.out.b0.frozen i
          have gl := E2.out.b0.lt
          have E3 := Lib.hid ((E2.out.store0 2 (.int .i64 x.seq)).as (show _ = #[.int .i64 x.id, .int .i64 x.ver, .int .i64 x.seq] from rfl))
          have E4 := Lib.hid (E.out.call E3.out.rd E3.out.kept)
          have q3 := E4.out.b0.cell (i := 3) rfl
          go_wp2_with (with_reducible refine stop_load 60 _ rfl rfl ?_)
          clear u2 ff gl q3 E2
          obtain ⟨w11, hw11⟩ : ∃ x9, x9 = w10.setCell ⟨X7, 2, none⟩ (.int .i64 x.seq) := ⟨_, rfl⟩
          rw [← hw11] at E3 E4 ⊢
          clear hw11
          refine Stop.mk (wpList_loadB rfl _ _ rfl X7 rfl _ E3.out.b0 strDead rfl ?_)
          have OM2 := Lib.hid (own_kept OM.out E3.out.kept PB.out)
          have OD2 := Lib.hid (own_kept OD.out E3.out.kept PB.out)
          have HZ2 := Lib.hid (show BB ≤ w11.heap.size from Nat.le_trans HZ.out E3.out.kept.size)
          clear OM OD E E3 HZ
          go_wp2_with (with_reducible refine stop_lit _ _ rfl ?_)
          refine Stop.mk (wpList_lit1 rfl _ _ _ rfl elemDead (by omega) x.cells.toArray rfl rfl ?_)
          have ba := (Below.refl w11.heap.size w11).alloc (Nat.le_refl _) (.cells x.cells.toArray 60)
          have bz := ba.size
          go_wp2_with ((at_builtin; refine Stop.out ?_))
          refine Stop.mk (wpList_app _ rfl _ _ elemDead rfl BB (.slice D ds.length d) ds.length _ rfl (own_below OD2.out ba) _ 1 1 x.cells rfl (Src.new _ x.cells _ 3 rfl) (fun u hu => deads_one [x] u (by simpa using hu)) (by omega) (Nat.le_trans HZ2.out bz) ?_)
          intro v12 w12 own12 hg12 hb12 _
          have OM3 := Lib.hid (own_kept_ne (own_below OM2.out ba) (own_below OD2.out ba) (by decide) hg12)
          obtain ⟨ds2, hds2⟩ : ∃ l, l = ds ++ [x] := ⟨_, rfl⟩
          have hl2 : ds2.length ≤ k + 1 := by rw [hds2]; simp; omega
          have OD3 := Lib.hid (show w12.ownsRow BB 60 3 v12 ds2.length (ds2.flatMap Dead.cells) by rw [hds2]; simpa using own12)
          rw [← hds2] at ST
          have E5 := Lib.hid ((E4.out.below ba).belowQ (Nat.le_of_lt HB.out.2.1) (fun y hy => by
            rcases List.mem_cons.1 hy with rfl | hy
            · exact HB.out.1
            · rw [List.mem_singleton.1 hy]; exact HB.out.2.1) hb12)
          have HZ3 := Lib.hid (show BB ≤ w12.heap.size from Nat.le_trans (Nat.le_trans HZ2.out bz) hb12.size)
          obtain ⟨D2, d2, rfl, -⟩ := own_form OD3.out
          clear own12 hg12 hb12 ba bz OM2 OD2 E4 HZ2 hds2
          have u3 := E5.out.b0.cell (i := 3) rfl
          have ff := fun i => E5.out.b0.frozen i
          have gl := E5.out.b0.lt
          go_wp2_with (fail)
          clear u3 ff gl
          replace OM3 := Lib.hid (own_kept OM3.out (kept_set w12 G1 3 (.slice D2 ds2.length d2)) GB.out)
          replace OD3 := Lib.hid (own_kept OD3.out (kept_set w12 G1 3 (.slice D2 ds2.length d2)) GB.out)
          replace E5 := Lib.hid ((E5.out.store0 3 (.slice D2 ds2.length d2)).as (show _ = #[.int .i64 s, .int .i64 n, .slice A acc.length c, .slice D2 ds2.length d2, .slice none 0 0] from rfl))
          replace HZ3 := Lib.hid (Nat.le_trans HZ3.out (kept_set w12 G1 3 (.slice D2 ds2.length d2)).size)
          go_roundw
          case rel => exact ⟨k + 1, ds2, D2, d2, S2, by omega, by go_num, hl2, (fun e => by rw [← HM.out]; exact ST.out.1 e), (fun e => ST.out.2 e), OM3.out, OD3.out, E5.out, HZ3.out⟩
          case measure => simp [intOf]; omega
        · have hfin := rdL_exit (T := TD) (S := S) (N := N2) (k := k) (acc := ds) hk L.out LE.out hlt
          have FIN := Lib.hid hfin
          replace E := Lib.hid (E.out.state hfin.1.symm)
          clear hfin L LE
          by_cases hkN : k < N2
          · have he : S.e ≠ 0 := fun e => hlt ⟨hkN, e⟩
            have d1 : decide ((k : Int) < (N2 : Int)) = true := by simp; omega
            have te : (S.e == 0) = false := by simpa using he
            go_wp2_with (fail)
            go_meet
            case rel => exact ⟨ds, D, d, by omega, FIN.out.2, OM.out, OD.out, E.out, HZ.out⟩
          · have d1 : decide ((k : Int) < (N2 : Int)) = false := by simp; omega
            go_wp2_with (fail)
            go_meet
            case rel => exact ⟨ds, D, d, by omega, FIN.out.2, OM.out, OD.out, E.out, HZ.out⟩
    case rest =>
      clear OM E HZ
      obtain ⟨ds, D, d, had, HF2, OM, OD, E, HZ⟩ := hcut
      go_wp2_with (fail)
      refine (c_ref01_RNum p _ 16 _ E.out.rd).mono ?_
      rintro e w6 ⟨rfl, hr, hk⟩
      rw [← HN3.out]
      replace OM := Lib.hid (own_kept OM.out hk PB.out)
      replace OD := Lib.hid (own_kept OD.out hk PB.out)
      replace HZ := Lib.hid (Nat.le_trans HZ.out hk.size)
      replace E := Lib.hid (E.out.call hr hk)
      clear hr hk
      go_upto_block 4 with (fail)
      go_cut [8, 9, 10, 11] from 70 to 111 (fun _ _ _ _ wc => ∃ (gs : List GQ) (G : Option Addr) (g : Nat), gs.length ≤ 16 ∧ Hid (TG.2.e = 0 → grps gs = TG.1) ∧ Hid (∀ x ∈ gs, x.mem.length ≤ 48) ∧ Hid (OwnB wc BB ⟨s, n, acc, ds, gs, A, c, D, d, G, g⟩) ∧ Hid (EnvR p TG.2 w wc [(G1, #[.int .i64 s, .int .i64 n, .slice A acc.length c, .slice D ds.length d, .slice G gs.length g]), (w.heap.size, #[.int .i64 0, .int .i64 0, .slice none 0 0, .slice none 0 0, .slice none 0 0])]) ∧ Hid (BB ≤ wc.heap.size))
      case first =>
        have OO := Lib.hid (show OwnB w6 BB ⟨s, n, acc, ds, [], A, c, D, d, none, 0⟩ from ⟨OM.out, OD.out, World.ownsRow_nil _ _ _ _, fun x hx => (by first | cases hx | simp at hx)⟩)
        clear OM OD
        go_wp2_with (fail)
        go_loopw [8, 9, 10, 11] (fun i _ _ _ wr => ∃ (k : Nat) (gs : List GQ) (G : Option Addr) (g : Nat) (S : Rd), k ≤ N3 ∧ i = .int .i64 k ∧ gs.length ≤ k ∧ Hid (S.e = 0 → rdL rdGrp rdGrp' (N3 - k) S (grps gs) = TG) ∧ Hid (S.e ≠ 0 → TG.2 = S) ∧ Hid (∀ x ∈ gs, x.mem.length ≤ 48) ∧ Hid (OwnB wr BB ⟨s, n, acc, ds, gs, A, c, D, d, G, g⟩) ∧ Hid (EnvR p S w wr [(G1, #[.int .i64 s, .int .i64 n, .slice A acc.length c, .slice D ds.length d, .slice G gs.length g]), (w.heap.size, #[.int .i64 0, .int .i64 0, .slice none 0 0, .slice none 0 0, .slice none 0 0])]) ∧ Hid (BB ≤ wr.heap.size)) (fun i _ _ _ _ => N3 - (intOf i).toNat)
        case atStart => exact ⟨0, [], none, 0, _, by omega, rfl, by simp, (fun _ => by rw [HTG.out]; rfl), (fun he => by
          have h0 : N3 = 0 := by have := rdN_err' he; have := HN3.out; omega
          rw [HTG.out, h0]; rfl), (fun x hx => (by first | cases hx | simp at hx)), OO.out, E.out, HZ.out⟩
        case round =>
          clear E HZ OO
          obtain ⟨k, gs, G, g, S, hk, rfl, hal, L, LE, MB, OO, E, HZ⟩ := hrel
          have re := E.out.rd.eN
          have rl := E.out.rd.lt
          by_cases hlt : k < N3 ∧ S.e = 0
          · obtain ⟨wo, rfl⟩ : ∃ x, x = wr := ⟨_, rfl⟩
            obtain ⟨hlt, he⟩ := hlt
            have d1 : decide ((k : Int) < (N3 : Int)) = true := by simp; omega
            have te : (S.e == 0) = true := by simpa using he
            obtain ⟨y, hy⟩ : ∃ x, x = rdGrp S := ⟨_, rfl⟩
            obtain ⟨S2, hS2⟩ : ∃ s, s = rdGrp' S := ⟨_, rfl⟩
            obtain ⟨m, hm⟩ : ∃ m, m = N3 - (k + 1) := ⟨_, rfl⟩
            obtain ⟨a, ha⟩ : ∃ a, a = rdN S 15 := ⟨_, rfl⟩
            obtain ⟨TM, hTM⟩ : ∃ T, T = rdL rdMem rdMem' (grN S) (grS S) [] := ⟨_, rfl⟩
            obtain ⟨M, hM⟩ : ∃ N : Nat, (N : Int) = rdN (rdN' S 15) 48 := ⟨(rdN (rdN' S 15) 48).toNat, by have := rdN_bd (rdN' S 15) 48; omega⟩
            have hMb : M ≤ 48 := by have := rdN_bd (rdN' S 15) 48; omega
            have ST := Lib.hid (rdL_step L.out he (show N3 - k = m + 1 by omega) hy hS2)
            have HM := Lib.hid hm
            have HA := Lib.hid ha
            have HMM := Lib.hid hM
            have HTM := Lib.hid (show TM = rdL rdMem rdMem' M (rdN' (rdN' S 15) 48) [] by rw [hTM]; unfold grN grS; rw [← hM, Int.toNat_natCast])
            have HS2 := Lib.hid (show TM.2 = S2 by rw [hTM, hS2]; rfl)
            have HY := Lib.hid (show y = ⟨a, TM.1⟩ by rw [hy, ha, hTM]; rfl)
            have E2 := Lib.hid (EnvR.start E.out.rd)
            clear hy hS2 hm ha hTM hM L LE he
            go_wp2_with (fail)
            refine (c_ref01_RNum p _ 15 _ E2.out.rd).mono ?_
            rintro e w7 ⟨rfl, hr, hk7⟩
            rw [← HA.out]
            replace E2 := Lib.hid (E2.out.call hr hk7)
            clear hr hk7 re rl
            go_wp2_with (with_reducible refine stop_build 65 _ rfl ?_)
            refine Stop.mk (wpList_buildD rfl _ _ rfl _ rfl #[.int .i64 a, .slice none 0 0] (by kernel_rfl) ?_)
            go_wp2_with (with_reducible refine stS 65 _ _ rfl rfl ?_)
            refine Stop.mk (wsB rfl _ _ _ rfl w7.heap.size _ rfl rfl _ (Blk.new _ _ _) strGrp rfl rfl (by simp [Value.oneCell']) ?_)
            intro w8 hb8 hk8
            replace E2 := Lib.hid ((E2.out.alloc 65 #[.int .i64 0, .slice none 0 0]).put0 hb8 hk8)
            clear hb8 hk8
            obtain ⟨X7, hX7⟩ : ∃ g, g = w7.heap.size := ⟨_, rfl⟩
            rw [← hX7] at E2 ⊢
            clear hX7
            obtain ⟨BM, hBM⟩ : ∃ g, g = w8.heap.size := ⟨_, rfl⟩
            have HBM := Lib.hid (show BM ≤ w8.heap.size ∧ wo.heap.size ≤ BM ∧ X7 < BM ∧ BB ≤ BM from ⟨by omega, by rw [hBM]; exact E2.out.size, by rw [hBM]; exact E2.out.b0.lt, by rw [hBM]; exact Nat.le_trans HZ.out E2.out.size⟩)
            clear hBM
            go_wp2_with (fail)
            refine (c_ref01_RNum p _ 48 _ E2.out.rd).mono ?_
            rintro e w9 ⟨rfl, hr, hk9⟩
            rw [← HMM.out]
            have HZ9 := Lib.hid (show BM ≤ w9.heap.size from Nat.le_trans HBM.out.1 hk9.size)
            replace E2 := Lib.hid (E2.out.call hr hk9)
            clear hr hk9
            go_upto_block 6 with (fail)
            go_cut [11] from 87 to 105 (fun _ wc => ∃ (ms : List Int) (MA : Option Addr) (mc : Nat), ms.length ≤ 48 ∧ Hid (TM.2.e = 0 → ms = TM.1) ∧ Hid (wc.ownsRow BM 3 1 (.slice MA ms.length mc) ms.length (ms.flatMap ic)) ∧ Hid (EnvR p TM.2 wo wc [(X7, #[.int .i64 a, .slice MA ms.length mc])]) ∧ Hid (BM ≤ wc.heap.size))
            case first =>
              go_wp2_with (fail)
              go_loopw [11] (fun i wx => ∃ (j : Nat) (ms : List Int) (MA : Option Addr) (mc : Nat) (Q : Rd), j ≤ M ∧ i = .int .i64 j ∧ ms.length ≤ j ∧ Hid (Q.e = 0 → rdL rdMem rdMem' (M - j) Q ms = TM) ∧ Hid (Q.e ≠ 0 → TM.2 = Q) ∧ Hid (wx.ownsRow BM 3 1 (.slice MA ms.length mc) ms.length (ms.flatMap ic)) ∧ Hid (EnvR p Q wo wx [(X7, #[.int .i64 a, .slice MA ms.length mc])]) ∧ Hid (BM ≤ wx.heap.size)) (fun i _ => M - (intOf i).toNat)
              case atStart => exact ⟨0, [], none, 0, _, by omega, rfl, by simp, (fun _ => by rw [HTM.out]; rfl), (fun he => by
                have h0 : M = 0 := by have := rdN_err' he; have := HMM.out; omega
                rw [HTM.out, h0]; rfl), World.ownsRow_nil _ _ _ _, E2.out, HZ9.out⟩
              case round =>
                clear E2 HZ9
                obtain ⟨j, ms, MA, mc, Q, hj, rfl, hml, L, LE, OX, E2, HZ9⟩ := hrel
                have re := E2.out.rd.eN
                have rl := E2.out.rd.lt
                by_cases hlt : j < M ∧ Q.e = 0
                · obtain ⟨hlt, he⟩ := hlt
                  have d2 : decide ((j : Int) < (M : Int)) = true := by simp; omega
                  have te : (Q.e == 0) = true := by simpa using he
                  obtain ⟨x, hx⟩ : ∃ x, x = rdMem Q := ⟨_, rfl⟩
                  obtain ⟨Q2, hQ2⟩ : ∃ s, s = rdMem' Q := ⟨_, rfl⟩
                  obtain ⟨m2, hm2⟩ : ∃ m, m = M - (j + 1) := ⟨_, rfl⟩
                  have STM := Lib.hid (rdL_step L.out he (show M - j = m2 + 1 by omega) hx hQ2)
                  have HM2 := Lib.hid hm2
                  have HXV := Lib.hid (show rdN Q 1073741824 = x from hx.symm)
                  have HS2 := Lib.hid (show Q2 = rdN' Q 1073741824 from hQ2)
                  have HBB := Lib.hid (show BM ≤ wr.heap.size ∧ wo.heap.size ≤ BM ∧ X7 < BM ∧ ∀ y ∈ ([] : List (Nat × Array Value)), y.1 < BM from ⟨HZ9.out, HBM.out.2.1, HBM.out.2.2.1, fun y hy => (by first | cases hy | simp at hy)⟩)
                  clear hx hQ2 hm2 L LE he
                  go_wp2_with (fail)
                  refine wp_region_relM (VQ [some (.pointer (some ⟨X7, 1, none⟩)), some (.slice MA ms.length mc), some (.pointer (some ⟨p, 0, none⟩)), some (.int .i64 x), none, none, some (.pointer (some ⟨X7, 1, none⟩)), none]) (KQ p Q Q2 wo X7 BM 1 #[.int .i64 a, .slice MA ms.length mc] [] 3 1 (.slice MA ms.length mc) ms.length (ms.flatMap ic) (ic x) (fun _ => True)) 113 (by kernel_rfl) (by kernel_rfl) rfl ?_ ?_ ?_
                  · intro u w' hb hh
                    exact KQ.start (Nat.le_trans HBB.out.1 hb.size) HBB.out.2.1 HBB.out.2.2.1 HBB.out.2.2.2 (E2.out.below hb) (own_below OX.out hb) (trivial)
                  · refine ⟨?_, ?_, ?_, ?_, ?_, ?_, ?_, ?_, trivial⟩
                    all_goals
                      rintro L u W1 hM hL hd
                      have M := Lib.hid hM
                      clear hM
                      simp [DepsM, Region.binds, VQ] at hd
                      simp only [putDeps, dstOf, Region.binds]
                    case refine_2 =>
                      have hu0 : u 0 = .pointer (some ⟨X7, 1, none⟩) := by first | exact hd.2 | exact hd.1.2
                      have q2 := (M.out.blk (M.out.no7 (M.out.no5' hL))).cell (i := 1) rfl
                      go_wp2_with (fail)
                      exact EndM.mk rfl ⟨rfl, M.out.pure (by decide) (by decide) (by decide) (by decide)⟩
                    case refine_4 =>
                      have hu2 : u 2 = .pointer (some ⟨p, 0, none⟩) := by first | exact hd.2 | exact hd.1.2
                      go_wp2_with (go_at_call 49; refine (c_ref01_RNum p Q 1073741824 _ (M.out.rd hL)).mono ?_; rintro e w9 ⟨rfl, hr9, hk9⟩; rw [HXV.out])
                      rw [← HS2.out] at hr9
                      exact EndM.mk rfl ⟨rfl, M.out.call hL hr9 hk9 (trivial)⟩
                    case refine_5 =>
                      have hu3 : u 3 = .int .i64 x := by first | exact hd.2 | exact hd.1.2
                      rw [hu3]
                      go_wp2_with (fail)
                      exact EndM.mk rfl ⟨trivial, M.out.make (by first | exact hd.1 | exact hd.1.1) hL rfl rfl (trivial)⟩
                    case refine_6 =>
                      obtain ⟨⟨hL1, hu1⟩, hL4⟩ := hd
                      obtain ⟨g, e4, hsrc⟩ := M.out.lit (by first | exact hL4 | exact hL4.1) hL
                      have own := M.out.own0 hL
                      rw [e4]
                      go_wp2_with ((at_builtin; refine Stop.out ?_))
                      refine Stop.mk (wpList_app _ rfl _ _ elemInt rfl BM (.slice MA ms.length mc) ms.length _ rfl own _ 1 1 (ic x) rfl hsrc (by simp [ic, Value.oneCell']) (by omega) M.out.hB ?_)
                      intro v7 w7 own7 hg7 hb7 _
                      exact EndM.mk rfl ⟨trivial, M.out.app hL1 (by first | exact hL4 | exact hL4.1) hL own7 hb7 (trivial)⟩
                    case refine_8 =>
                      have hL5 : L 5 = true := by first | exact hd.2 | exact hd.2.1 | exact hd.1
                      have hu6 : u 6 = .pointer (some ⟨X7, 1, none⟩) := by first | exact hd.1.2 | exact hd.2.2
                      have own := M.out.own1 hL5
                      obtain ⟨A5, c5, e5, -⟩ := own_form own
                      have s9 := (M.out.blk hL).cell (i := 1) rfl
                      have sf := fun i => (M.out.blk hL).frozen i
                      have slt := (M.out.blk hL).lt
                      have PUT := Lib.hid (M.out.put (v := undef) hL5 hL (trivial))
                      rw [e5] at PUT
                      rw [e5, hu6]
                      clear own
                      go_wp2_with (fail)
                      exact EndM.mk0 rfl ⟨trivial, PUT.out⟩
                    all_goals
                      go_wp2_with (fail)
                      exact EndM.mk rfl ⟨rfl, M.out.pure (by decide) (by decide) (by decide) (by decide)⟩
                  · rintro u W1 hv hM
                    obtain ⟨e9, o9, k9, z9⟩ := hM.done
                    obtain ⟨A9, c9, e5, -⟩ := own_form o9
                    have E3 := Lib.hid (e9.as (show _ = #[.int .i64 a, .slice A9 (ms ++ [x]).length c9] by rw [e5, List.length_append]; rfl))
                    have O3 := Lib.hid (show W1.ownsRow BM 3 1 (.slice A9 (ms ++ [x]).length c9) (ms ++ [x]).length ((ms ++ [x]).flatMap ic) by rw [e5] at o9; simpa using o9)
                    have Z3 := Lib.hid z9
                    clear hv hM e9 o9 k9 z9 e5 E2 OX re rl
                    simp only [putAll, Act.put, Nat.reduceAdd, List.setIfInBounds_toArray, List.set_cons_zero, List.set_cons_succ]
                    go_wp2_with (fail)
                    go_roundw
                    case rel => exact ⟨j + 1, ms ++ [x], A9, c9, Q2, by omega, by go_num, by simp; omega, (fun e => by rw [← HM2.out]; exact STM.out.1 e), (fun e => STM.out.2 e), O3.out, E3.out, Z3.out⟩
                    case measure => simp [intOf]; omega
                · have hfin := rdL_exit (T := TM) (S := Q) (N := M) (k := j) (acc := ms) hj L.out LE.out hlt
                  have FIN := Lib.hid hfin
                  replace E2 := Lib.hid (E2.out.state hfin.1.symm)
                  clear hfin L LE
                  by_cases hkN : j < M
                  · have he : Q.e ≠ 0 := fun e => hlt ⟨hkN, e⟩
                    have d2 : decide ((j : Int) < (M : Int)) = true := by simp; omega
                    have te : (Q.e == 0) = false := by simpa using he
                    go_wp2_with (fail)
                    go_meet
                    case rel => exact ⟨ms, MA, mc, by omega, FIN.out.2, OX.out, E2.out, HZ9.out⟩
                  · have d2 : decide ((j : Int) < (M : Int)) = false := by simp; omega
                    go_wp2_with (fail)
                    go_meet
                    case rel => exact ⟨ms, MA, mc, by omega, FIN.out.2, OX.out, E2.out, HZ9.out⟩
            case rest =>
              clear E2 HZ9
              obtain ⟨ms, MA, mc, hml, HFM, OX, E2, HZ9⟩ := hcut
              replace E2 := Lib.hid (E2.out.state HS2.out)
              have E4 := Lib.hid (E.out.call E2.out.rd E2.out.kept)
              have OO2 := Lib.hid (OO.out.kept E2.out.kept PB.out)
              have OX2 := Lib.hid (show OwnG wc BB ⟨a, ms, MA, mc⟩ from own_base OX.out HBM.out.2.2.2)
              have HZ2 := Lib.hid (show BB ≤ wc.heap.size from Nat.le_trans HBM.out.2.2.2 HZ9.out)
              have q4 := E4.out.b0.cell (i := 4) rfl
              have gl1 := E4.out.b0.lt
              clear OX E OO HZ
              go_wp2_with (with_reducible refine stop_load 65 _ rfl rfl ?_)
              clear q4 gl1
              refine Stop.mk (wpList_loadB rfl _ _ rfl X7 rfl _ E2.out.b0 strGrp rfl ?_)
              go_wp2_with (with_reducible refine stop_lit _ _ rfl ?_)
              refine Stop.mk (wpList_lit1 rfl _ _ _ rfl elemGrp (by omega) #[.int .i64 a, .slice MA ms.length mc] rfl rfl ?_)
              have ba := (Below.refl wc.heap.size wc).alloc (Nat.le_refl _) (.cells #[.int .i64 a, .slice MA ms.length mc] 65)
              have bz := ba.size
              go_wp2_with ((at_builtin; refine Stop.out ?_))
              refine Stop.mk (wpList_app _ rfl _ _ elemGrp rfl BB (.slice G gs.length g) gs.length _ rfl (own_below OO2.out.groups ba) _ 1 1 (GQ.cells ⟨a, ms, MA, mc⟩) rfl (Src.new _ (GQ.cells ⟨a, ms, MA, mc⟩) _ 2 rfl) (GQ.ones_all _) (by omega) (Nat.le_trans HZ2.out bz) ?_)
              intro v12 w12 own12 hg12 hb12 _
              have og := own_below OO2.out.groups ba
              obtain ⟨gs2, hgs2⟩ : ∃ l, l = gs ++ [(⟨a, ms, MA, mc⟩ : GQ)] := ⟨_, rfl⟩
              have hl2 : gs2.length ≤ k + 1 := by rw [hgs2]; simp; omega
              have OG3 : w12.ownsRow BB 65 2 v12 gs2.length (gs2.flatMap GQ.cells) := by rw [hgs2]; simpa using own12
              obtain ⟨G2, g2, rfl, -⟩ := own_form OG3
              have OO3 := Lib.hid (show OwnB w12 BB ⟨s, n, acc, ds, gs2, A, c, D, d, G2, g2⟩ from ⟨own_kept_ne (own_below OO2.out.cards ba) og (by decide) hg12, own_kept_ne (own_below OO2.out.dead ba) og (by decide) hg12, OG3, fun z hz => by
                have hz' : z ∈ gs ++ [(⟨a, ms, MA, mc⟩ : GQ)] := by rw [← hgs2]; exact hz
                rcases List.mem_append.1 hz' with hz' | hz'
                · exact ((OO2.out.mem z hz').below ba).app og hg12
                · rw [List.mem_singleton.1 hz']; exact (OX2.out.below ba).app og hg12⟩)
              have MB2 := Lib.hid (show ∀ z ∈ gs2, z.mem.length ≤ 48 from fun z hz => by
                rw [hgs2] at hz
                rcases List.mem_append.1 hz with hz | hz
                · exact MB.out z hz
                · rw [List.mem_singleton.1 hz]; exact hml)
              have ST2 := Lib.hid (show (S2.e = 0 → rdL rdGrp rdGrp' m S2 (grps gs2) = TG) ∧ (S2.e ≠ 0 → TG.2 = S2) from ⟨fun e => by
                have h1 := HFM.out (by rw [HS2.out]; exact e)
                have h2 := ST.out.1 e
                rw [HY.out, ← h1] at h2
                rw [← h2, hgs2]
                unfold grps
                simp [GQ.g], ST.out.2⟩)
              have E5 := Lib.hid ((E4.out.below ba).belowQ (Nat.le_of_lt HB.out.2.1) (fun y hy => by
                rcases List.mem_cons.1 hy with rfl | hy
                · exact HB.out.1
                · rw [List.mem_singleton.1 hy]; exact HB.out.2.1) hb12)
              have HZ3 := Lib.hid (show BB ≤ w12.heap.size from Nat.le_trans (Nat.le_trans HZ2.out bz) hb12.size)
              clear own12 hg12 hb12 ba bz OO2 OX2 E4 E2 HZ2 hgs2 og OG3 ST MB HFM HZ9
              have u4 := E5.out.b0.cell (i := 4) rfl
              have ff := fun i => E5.out.b0.frozen i
              have gl := E5.out.b0.lt
              go_wp2_with (fail)
              clear u4 ff gl
              replace OO3 := Lib.hid (OO3.out.kept (kept_set w12 G1 4 (.slice G2 gs2.length g2)) GB.out)
              replace E5 := Lib.hid ((E5.out.store0 4 (.slice G2 gs2.length g2)).as (show _ = #[.int .i64 s, .int .i64 n, .slice A acc.length c, .slice D ds.length d, .slice G2 gs2.length g2] from rfl))
              replace HZ3 := Lib.hid (Nat.le_trans HZ3.out (kept_set w12 G1 4 (.slice G2 gs2.length g2)).size)
              go_roundw
              case rel => exact ⟨k + 1, gs2, G2, g2, S2, by omega, by go_num, hl2, (fun e => by rw [← HM.out]; exact ST2.out.1 e), (fun e => ST2.out.2 e), MB2.out, OO3.out, E5.out, HZ3.out⟩
              case measure => simp [intOf]; omega
          · have hfin := rdL_exit (T := TG) (S := S) (N := N3) (k := k) (acc := grps gs) hk L.out LE.out hlt
            have FIN := Lib.hid hfin
            replace E := Lib.hid (E.out.state hfin.1.symm)
            clear hfin L LE
            by_cases hkN : k < N3
            · have he : S.e ≠ 0 := fun e => hlt ⟨hkN, e⟩
              have d1 : decide ((k : Int) < (N3 : Int)) = true := by simp; omega
              have te : (S.e == 0) = false := by simpa using he
              go_wp2_with (fail)
              go_meet
              case rel => exact ⟨gs, G, g, by omega, FIN.out.2, MB.out, OO.out, E.out, HZ.out⟩
            · have d1 : decide ((k : Int) < (N3 : Int)) = false := by simp; omega
              go_wp2_with (fail)
              go_meet
              case rel => exact ⟨gs, G, g, by omega, FIN.out.2, MB.out, OO.out, E.out, HZ.out⟩
      case rest =>
        clear OM OD E HZ
        obtain ⟨gs, G, g, hag, HF3, MB, OO, E, HZ⟩ := hcut
        go_wp2_with (with_reducible refine stop_load 35 _ rfl rfl ?_)
        refine Stop.mk (wpList_loadB rfl _ _ rfl G1 rfl _ E.out.b0 strBk rfl ?_)
        go_wp2_with (with_reducible refine stS 35 _ _ rfl rfl ?_)
        refine Stop.mk (wsB rfl _ _ _ rfl w.heap.size _ rfl rfl _ E.out.b1 strBk rfl rfl (by simp [Value.oneCell']) ?_)
        intro w99 hb99 hk99
        replace E := Lib.hid (E.out.put1 hb99 hk99)
        replace OO := Lib.hid (OO.out.kept hk99 WB.out)
        clear hk99
        go_wp2_with (fail)
        exact bodyPost_ret (results_B rfl rfl hb99 strBk rfl) rfl ⟨⟨s, n, acc, ds, gs, A, c, D, d, G, g⟩, rfl, (fun e => by
          have h3 := rdL_e0 (one := rdGrp) (fun st h => (rdGrp_took st h).1) N3 (rdN' TD.2 16) [] (by rw [← HTG.out]; exact e)
          have h4 := (rdN_took2 h3).1
          have h5 := rdL_e0 (one := rdDead) (fun st h => (rdDead_took st h).1) N2 (rdN' TC.2 40) [] (by rw [← HTD.out]; exact h4)
          have h6 := (rdN_took2 h5).1
          rw [HBK.out, ← HF1.out h6, ← HF2.out h4, ← HF3.out e]
          rfl), ⟨hac, had, hag, MB.out, FT.out⟩, OO.out.base (Nat.le_of_lt HB.out.2.1), E.out.rd, E.out.kept⟩
end Go.Proofs.YtldoedmclfbgpaaDoor
namespace Go.Proofs.YtldoedmclfbgpaaDoor
open Go.RowKit

theorem BQ.small.nil (s n : Int) : BQ.small ⟨s, n, [], [], [], none, 0, none, 0, none, 0⟩ := ⟨by simp, by simp, by simp, (fun x hx => (by first | cases hx | simp at hx)), (fun x hx => (by first | cases hx | simp at hx))⟩
def RetRK (p : Nat) (st' : Rd) (w : World) (k : Book) (e : Ending) (w' : World) : Prop :=
  ∃ b : BQ, e = .returned (.agg b.arr) ∧ b.book = k ∧ b.small ∧ OwnB w' w.heap.size b ∧ RdR w' p st' ∧ Kept (some p) w.heap.size w w'
set_option maxHeartbeats 8000000 in
set_option maxRecDepth 4000 in
theorem c_ref21_Read (p : Nat) (st : Rd) (w : World) (hr : RdR w p st) : Calls Tryd.prog 9 #[.pointer (some ⟨p, 0, none⟩)] w (RetRK p (rdBook' st) w (rdBook st)) := by
  obtain ⟨S, hS⟩ : ∃ T, T = (bkG st).2 := ⟨_, rfl⟩
  have HRB' := Lib.hid (show rdBook' st = if (bkBook st).ok then S else rdF S 3 by rw [hS]; rfl)
  have HRB := Lib.hid (show rdBook st = if (rdBook' st).e = 0 then bkBook st else bkz from rfl)
  have CP := Lib.hid (fun w' h => c_ref21_parts p st w' h)
  rw [← hS] at CP
  have E := Lib.hid ((EnvR.start hr).alloc 35 #[.int .i64 0, .int .i64 0, .slice none 0 0, .slice none 0 0, .slice none 0 0])
  clear hr hS
  go_enter Tryd.func9, Tryd.ntmps9
  go_wp2_with (fail)
  refine (CP.out _ E.out.rd).mono ?_
  rintro e w1 ⟨b, rfl, hbk, hsm, hob, hr, hk⟩
  have HBK := Lib.hid hbk
  have SM := Lib.hid hsm
  have hz := E.out.b0.lt
  replace E := Lib.hid (E.out.call hr hk)
  have OO := Lib.hid (hob.base (Nat.le_refl _))
  obtain ⟨BB, hBB⟩ : ∃ B, B = w1.heap.size := ⟨_, rfl⟩
  clear hr hk hob hbk hsm
  go_wp2_with (with_reducible refine stS 35 _ _ rfl rfl ?_)
  refine Stop.mk (wsB rfl _ _ _ rfl w1.heap.size _ rfl rfl _ (Blk.new _ _ _) strBk rfl rfl (by simp [BQ.arr, Value.oneCell']) ?_)
  intro w2 hb2 hk2
  have k2 : Below w1.heap.size w1 w2 := fresh_below hk2
  replace OO := Lib.hid (OO.out.below k2)
  replace E := Lib.hid ((E.out.alloc 35 #[.int .i64 0, .int .i64 0, .slice none 0 0, .slice none 0 0, .slice none 0 0]).put0 hb2 hk2)
  clear hb2 hk2 k2
  obtain ⟨G1, hG1⟩ : ∃ g, g = w1.heap.size := ⟨_, rfl⟩
  rw [← hG1] at E ⊢
  clear hG1 hBB
  have re := E.out.rd.eN
  have rl := E.out.rd.lt
  by_cases he : S.e = 0
  · have te : (S.e == 0) = true := by simpa using he
    have HB := Lib.hid (HBK.out he)
    go_wp2_with (with_reducible refine slG 35 _ rfl ?_)
    refine Stop.mk (wlG (by simp [Region.wanted, yielded]) _ _ rfl G1 0 rfl b.arr E.out.b0.all strBk rfl ?_)
    go_wp2_with (fail)
    refine (c_ref20_Right b _ (OO.out.at_ SM.out) (fun x hx => by have := SM.out.mem x hx; omega)).mono ?_
    rintro e w3 ⟨rfl, hb3⟩
    rw [HB.out]
    replace E := Lib.hid (E.out.below hb3)
    replace OO := Lib.hid (OO.out.below hb3)
    clear hb3 re rl
    have re := E.out.rd.eN
    have rl := E.out.rd.lt
    cases hok : (bkBook st).ok
    · have HS' := Lib.hid (show rdBook' st = rdF S 3 by rw [HRB'.out, hok]; rfl)
      have hne := rdF_bad S (e := 3) (by decide)
      have t1 : ((rdF S 3).e != 0) = true := by simpa using hne
      have HZ := Lib.hid (show rdBook st = bkz by rw [HRB.out, if_neg (by rw [HS'.out]; exact hne)])
      clear hok hne he
      go_wp2_with (fail)
      refine (c_ref01_Fail p S 3 _ E.out.rd).mono ?_
      rintro e w4 ⟨rfl, hr, hk⟩
      replace E := Lib.hid (E.out.call hr hk)
      clear hr hk re rl
      have re := E.out.rd.eN
      have rl := E.out.rd.lt
      go_wp2_with (with_reducible refine stop_build 35 _ rfl ?_)
      refine Stop.mk (wpList_buildD rfl _ _ rfl _ rfl #[.int .i64 0, .int .i64 0, .slice none 0 0, .slice none 0 0, .slice none 0 0] (by kernel_rfl) ?_)
      go_wp2_with (with_reducible refine stS 35 _ _ rfl rfl ?_)
      refine Stop.mk (wsB rfl _ _ _ rfl w.heap.size _ rfl rfl _ E.out.b1 strBk rfl rfl (by simp [Value.oneCell']) ?_)
      intro w99 hb99 hk99
      replace E := Lib.hid (E.out.put1 hb99 hk99)
      clear hk99
      go_wp2_with (fail)
      rw [HZ.out, HS'.out]
      exact bodyPost_ret (results_B rfl rfl hb99 strBk rfl) rfl ⟨⟨0, 0, [], [], [], none, 0, none, 0, none, 0⟩, rfl, rfl, BQ.small.nil _ _, OwnB.nil _ _ _ _, E.out.rd, E.out.kept⟩
    · have HS' := Lib.hid (show rdBook' st = S by rw [HRB'.out, hok]; rfl)
      have t1 : (S.e != 0) = false := by simpa using he
      have HZ := Lib.hid (show rdBook st = bkBook st by rw [HRB.out, if_pos (by rw [HS'.out]; exact he)])
      clear hok he
      go_wp2_with (with_reducible refine stop_load 35 _ rfl rfl ?_)
      refine Stop.mk (wpList_loadB rfl _ _ rfl G1 rfl _ E.out.b0 strBk rfl ?_)
      go_wp2_with (with_reducible refine stS 35 _ _ rfl rfl ?_)
      refine Stop.mk (wsB rfl _ _ _ rfl w.heap.size _ rfl rfl _ E.out.b1 strBk rfl rfl (by simp [BQ.arr, Value.oneCell']) ?_)
      intro w99 hb99 hk99
      replace E := Lib.hid (E.out.put1 hb99 hk99)
      replace OO := Lib.hid (OO.out.kept hk99 (fun g h => by injection h with h; simp only [World.size_alloc]; omega))
      clear hk99
      go_wp2_with (fail)
      rw [HZ.out, HS'.out]
      exact bodyPost_ret (results_B rfl rfl hb99 strBk rfl) rfl ⟨b, rfl, HB.out, SM.out, OO.out.base (by simp only [World.size_alloc]; omega), E.out.rd, E.out.kept⟩
  · have te : (S.e == 0) = false := by simpa using he
    have t1 : (S.e != 0) = true := by simpa using he
    have HS' := Lib.hid (show rdBook' st = S by rw [HRB'.out]; split; rfl; exact rdF_err he)
    have HZ := Lib.hid (show rdBook st = bkz by rw [HRB.out, if_neg (by rw [HS'.out]; exact he)])
    clear he
    go_wp2_with (with_reducible refine stop_build 35 _ rfl ?_)
    refine Stop.mk (wpList_buildD rfl _ _ rfl _ rfl #[.int .i64 0, .int .i64 0, .slice none 0 0, .slice none 0 0, .slice none 0 0] (by kernel_rfl) ?_)
    go_wp2_with (with_reducible refine stS 35 _ _ rfl rfl ?_)
    refine Stop.mk (wsB rfl _ _ _ rfl w.heap.size _ rfl rfl _ E.out.b1 strBk rfl rfl (by simp [Value.oneCell']) ?_)
    intro w99 hb99 hk99
    replace E := Lib.hid (E.out.put1 hb99 hk99)
    clear hk99
    go_wp2_with (fail)
    rw [HZ.out, HS'.out]
    exact bodyPost_ret (results_B rfl rfl hb99 strBk rfl) rfl ⟨⟨0, 0, [], [], [], none, 0, none, 0, none, 0⟩, rfl, rfl, BQ.small.nil _ _, OwnB.nil _ _ _ _, E.out.rd, E.out.kept⟩
end Go.Proofs.YtldoedmclfbgpaaDoor
namespace Go.Proofs.YtldoedmclfbgpaaDoor
open Go.RowKit

theorem rdBook_err {st : Rd} (h : st.e ≠ 0) : rdBook st = bkz := by
  unfold rdBook
  rw [if_neg (fun e => h (rdBook_took e).1)]
set_option maxHeartbeats 400000 in
theorem c_law21_BookwireReads_long (n : Nat) (A : Option Addr) (c : Nat) (w : World) (hn : 2000 < n) :
    Calls Tryd.prog 3 #[.slice A n c] w (RetV w (.bool true)) := by
  go_enter Tryd.func3, Tryd.ntmps3
  go_wp2_with (go_at_call 5; refine (c_law21_awake _).mono ?_; rintro e w2 ⟨rfl, hb2⟩)
  go_ret
  exact RetV.bool rfl (by repeat (first | exact Below.refl _ _ | refine Below.drew ?_ | refine Below.alloc ?_ (by first | omega | (simp; done) | (simp; omega)) _ | refine Below.setCell ?_ (by first | omega | (simp; done) | (simp; omega)) _ | refine Below.trans ?_ (Below.mono (by assumption) (by first | omega | (simp; done) | (simp; omega)))))
set_option maxHeartbeats 8000000 in
set_option maxRecDepth 4000 in
theorem c_law21_BookwireReads (b : List UInt8) (A : Option Addr) (c : Nat) (w : World) (h : InB w A c b) (hb : b.length ≤ 2000) (hT : Tab w) :
    Calls Tryd.prog 3 #[.slice A b.length c] w (RetV w (.bool true)) := by
  have hL := h.1
  have hC := h.2.1
  have HI := Lib.hid h
  have HT := Lib.hid hT
  clear h hT
  go_enter Tryd.func3, Tryd.ntmps3
  go_wp2_with (fail)
  refine (c_octet_New b A c _ HI.out).mono ?_
  rintro e w1 ⟨g, rfl, hg, hr1, hb1⟩
  have kb := conv_str (P := Tryd.prog) w1 Tryd.underlying22 Tryd.underlying5 Tryd.underlying9 (HI.out.below hb1)
  go_wp2_with (fail)
  have L0 := Lib.hid (show RW w (w1.alloc (.cells #[.string (str b), .int .i64 0] 29)) g w1.heap.size ⟨b, 0⟩ ⟨b, 0⟩ from ⟨hb1.trans (((Below.refl _ _).alloc (Nat.le_refl _) _).mono hb1.size), hr1.below ((Below.refl _ _).alloc (Nat.le_refl _) _), ⟨Blk.new _ _ _, by simp only; omega⟩, hg, hr1.lt rfl⟩)
  obtain ⟨H, hH⟩ : ∃ h, h = w1.heap.size := ⟨_, rfl⟩
  rw [← hH] at L0 ⊢
  clear hr1 hb1 kb hg hH
  go_loopw [5] (fun i wr => ∃ (k : Nat) (st : Rd), k ≤ 2 ∧ i = .int .i64 k ∧ Hid (RW w wr g H st st)) (fun i _ => 2 - (intOf i).toNat)
  case atStart => exact ⟨0, ⟨b, 0⟩, by omega, rfl, L0.out⟩
  case round =>
    clear L0
    obtain ⟨k, st, hk3, rfl, L⟩ := hrel
    by_cases hlt : k < 2
    · have hd : decide ((k : Int) < 2) = true := by simp; omega
      have HLT := Lib.hid hlt
      have L1 := Lib.hid (L.out.step (Below.refl _ _).drew)
      obtain ⟨T, hTT⟩ : ∃ T, T = rdBook' st := ⟨_, rfl⟩
      have HTT := Lib.hid hTT
      clear hlt L hk3 hL hC hb hTT
      go_wp2_with (fail)
      refine wp_region_two (N := 51) (by kernel_rfl) (by kernel_rfl) rfl 21 rfl (by kernel_rfl) rfl ⟨rfl, rfl, rfl⟩ ⟨rfl, rfl, rfl⟩ ⟨rfl, rfl, rfl⟩ ⟨rfl, rfl, rfl⟩
        ⟨Tryd.func8, by kernel_rfl, by kernel_rfl⟩ ⟨Tryd.func9, by kernel_rfl, by kernel_rfl⟩ (by simp) ⟨by simp, by simp⟩ (by decide) (by decide) ?_
      refine (c_bookwire_Read (some g) st _ (HT.out.below L1.out.below) L1.out.rp).mono ?_
      rintro e w2 ⟨b1, rfl, hbk1, hsm1, hob1, hrp2, hk2⟩
      have L2 := Lib.hid (L1.out.readP hrp2 hk2)
      have O1' := Lib.hid hob1
      have SM1 := Lib.hid hsm1
      have HB1 := Lib.hid hbk1
      have hz1 : w.heap.size ≤ wr.drew.heap.size := L1.out.below.size
      have hHl : H < wr.drew.heap.size := L1.out.hi
      clear hrp2 hk2 hbk1 hsm1 hob1
      refine ⟨_, rfl, ?_⟩
      refine (c_ref21_Read H st _ L2.out.rr).mono ?_
      rintro e w3 ⟨b2, rfl, hbk2, hsm2, hob2, hrr3, hk3⟩
      have O1 := Lib.hid (O1'.out.kept hk3 (fun g h => by injection h with h; omega))
      have O2 := Lib.hid hob2
      have SM2 := Lib.hid hsm2
      have HB2 := Lib.hid hbk2
      have L3 := Lib.hid (L2.out.readR hrr3 hk3)
      rw [← HTT.out] at L3
      have hh3 : H < w3.heap.size := L3.out.hi
      clear hrr3 hk3 hbk2 hsm2 hob2 O1' hz1 hHl
      refine ⟨_, rfl, [Sp.eq (.bool true), Sp.eq (.bool false), Sp.eq (.bool false), Sp.eq (ptr (some g)), Sp.eq (.int .i64 T.e), Sp.eq (.pointer (some ⟨H, 0, none⟩)), Sp.eq (.pointer (some ⟨H, 0, none⟩)), Sp.eq (.pointer (some ⟨H, 1, none⟩)), Sp.eq (.int .i64 T.e), Sp.eq (.bool false), Sp.eq (.bool false), Sp.eq (.bool false), Sp.eq (ptr (some g)), Sp.eq (.int .i64 T.s.length), Sp.eq (.pointer (some ⟨H, 0, none⟩)), Sp.eq (.pointer (some ⟨H, 0, none⟩)), Sp.eq (.pointer (some ⟨H, 0, none⟩)), Sp.eq (.string (str T.s)), Sp.eq (.int .i64 T.s.length), Sp.eq (.bool false), Sp.eq (.bool false)], rfl, ?_, ?_⟩
      · show RelGoals _ _ (Sp.eq (ptr (some g)) :: Sp.eq (.agg b1.arr) :: Sp.eq (.pointer (some ⟨H, 0, none⟩)) :: Sp.eq (.agg b2.arr) :: _) _ _ _ _
        refine relgoals_genN fun fr hfr => ?_
        have HFR := Lib.hid hfr
        clear hfr
        refine ⟨?_, ?_, ?_, ?_, ?_, ?_, ?_, ?_, ?_, ?_, ?_, ?_, ?_, ?_, ?_, ?_, ?_, ?_, ?_, ?_, ?_, trivial⟩
        all_goals (intro u w4 hb4 hd; simp [Deps, Region.binds, Sp.eq_holds] at hd; simp only [putDeps, dstOf, Region.binds])
        case refine_1 =>
          rw [HFR.out]
          obtain ⟨d0, d1⟩ := hd
          rw [d0, d1]
          go_wp2_with (go_at_call 7; refine (c_ref20_SameE b1 b2 _ ((O1.out.below hb4).at_ SM1.out) ((O2.out.below hb4).at_ SM2.out) (HB1.out.trans HB2.out.symm)).mono ?_; rintro e w5 ⟨rfl, hb5⟩)
          exact RelEnd.mk rfl hb5 rfl
        case refine_2 =>
          (try (obtain ⟨d0, hd⟩ := hd; (try (obtain ⟨d1, hd⟩ := hd; (try (obtain ⟨d2, hd⟩ := hd))))))
          rw [HFR.out]
          go_wp2_with (fail)
          exact RelEnd.mk rfl (Below.refl _ _) rfl
        case refine_3 =>
          (try (obtain ⟨d0, hd⟩ := hd; (try (obtain ⟨d1, hd⟩ := hd; (try (obtain ⟨d2, hd⟩ := hd))))))
          rw [HFR.out]
          go_wp2_with (fail)
          exact RelEnd.mk rfl (Below.refl _ _) rfl
        case refine_4 =>
          (try (obtain ⟨d0, hd⟩ := hd; (try (obtain ⟨d1, hd⟩ := hd; (try (obtain ⟨d2, hd⟩ := hd))))))
          rw [HFR.out]
          go_wp2_with (fail)
          exact RelEnd.mk rfl (Below.refl _ _) rfl
        case refine_5 =>
          (try (obtain ⟨d0, hd⟩ := hd; (try (obtain ⟨d1, hd⟩ := hd; (try (obtain ⟨d2, hd⟩ := hd))))))
          rw [HFR.out]
          go_wp2_with (go_at_call 10; refine (c_octet_Err' (some g) _ _ (L3.out.rp.below hb4)).mono ?_; rintro e w5 ⟨rfl, hb5⟩)
          exact RelEnd.mk rfl hb5 rfl
        case refine_6 =>
          (try (obtain ⟨d0, hd⟩ := hd; (try (obtain ⟨d1, hd⟩ := hd; (try (obtain ⟨d2, hd⟩ := hd))))))
          rw [HFR.out]
          go_wp2_with (fail)
          exact RelEnd.mk rfl (Below.refl _ _) rfl
        case refine_7 =>
          (try (obtain ⟨d0, hd⟩ := hd; (try (obtain ⟨d1, hd⟩ := hd; (try (obtain ⟨d2, hd⟩ := hd))))))
          rw [HFR.out]
          go_wp2_with (fail)
          exact RelEnd.mk rfl (Below.refl _ _) rfl
        case refine_8 =>
          (try (obtain ⟨d0, hd⟩ := hd; (try (obtain ⟨d1, hd⟩ := hd; (try (obtain ⟨d2, hd⟩ := hd))))))
          rw [HFR.out]
          go_wp2_with (fail)
          exact RelEnd.mk rfl (Below.refl _ _) rfl
        case refine_9 =>
          (try (obtain ⟨d0, hd⟩ := hd; (try (obtain ⟨d1, hd⟩ := hd; (try (obtain ⟨d2, hd⟩ := hd))))))
          rw [HFR.out]
          have c1 := (L3.out.rr.below hb4).eN
          go_wp2_with (fail)
          exact RelEnd.mk rfl (Below.refl _ _) rfl
        case refine_10 =>
          (try (obtain ⟨d0, hd⟩ := hd; (try (obtain ⟨d1, hd⟩ := hd; (try (obtain ⟨d2, hd⟩ := hd))))))
          rw [HFR.out]
          go_wp2_with (fail)
          exact RelEnd.mk rfl (Below.refl _ _) rfl
        case refine_11 =>
          (try (obtain ⟨d0, hd⟩ := hd; (try (obtain ⟨d1, hd⟩ := hd; (try (obtain ⟨d2, hd⟩ := hd))))))
          rw [HFR.out]
          go_wp2_with (fail)
          exact RelEnd.mk rfl (Below.refl _ _) rfl
        case refine_12 =>
          (try (obtain ⟨d0, hd⟩ := hd; (try (obtain ⟨d1, hd⟩ := hd; (try (obtain ⟨d2, hd⟩ := hd))))))
          rw [HFR.out]
          go_wp2_with (fail)
          exact RelEnd.mk rfl (Below.refl _ _) rfl
        case refine_13 =>
          (try (obtain ⟨d0, hd⟩ := hd; (try (obtain ⟨d1, hd⟩ := hd; (try (obtain ⟨d2, hd⟩ := hd))))))
          rw [HFR.out]
          go_wp2_with (fail)
          exact RelEnd.mk rfl (Below.refl _ _) rfl
        case refine_14 =>
          (try (obtain ⟨d0, hd⟩ := hd; (try (obtain ⟨d1, hd⟩ := hd; (try (obtain ⟨d2, hd⟩ := hd))))))
          rw [HFR.out]
          go_wp2_with (go_at_call 11; refine (c_octet_Left' (some g) _ _ (L3.out.rp.below hb4)).mono ?_; rintro e w5 ⟨rfl, hb5⟩)
          exact RelEnd.mk rfl hb5 rfl
        case refine_15 =>
          (try (obtain ⟨d0, hd⟩ := hd; (try (obtain ⟨d1, hd⟩ := hd; (try (obtain ⟨d2, hd⟩ := hd))))))
          rw [HFR.out]
          go_wp2_with (fail)
          exact RelEnd.mk rfl (Below.refl _ _) rfl
        case refine_16 =>
          (try (obtain ⟨d0, hd⟩ := hd; (try (obtain ⟨d1, hd⟩ := hd; (try (obtain ⟨d2, hd⟩ := hd))))))
          rw [HFR.out]
          go_wp2_with (fail)
          exact RelEnd.mk rfl (Below.refl _ _) rfl
        case refine_17 =>
          (try (obtain ⟨d0, hd⟩ := hd; (try (obtain ⟨d1, hd⟩ := hd; (try (obtain ⟨d2, hd⟩ := hd))))))
          rw [HFR.out]
          go_wp2_with (fail)
          exact RelEnd.mk rfl (Below.refl _ _) rfl
        case refine_18 =>
          (try (obtain ⟨d0, hd⟩ := hd; (try (obtain ⟨d1, hd⟩ := hd; (try (obtain ⟨d2, hd⟩ := hd))))))
          rw [HFR.out]
          have c1 := (L3.out.rr.below hb4).sN
          go_wp2_with (fail)
          exact RelEnd.mk rfl (Below.refl _ _) rfl
        case refine_19 =>
          (try (obtain ⟨d0, hd⟩ := hd; (try (obtain ⟨d1, hd⟩ := hd; (try (obtain ⟨d2, hd⟩ := hd))))))
          rw [HFR.out]
          go_wp2_with (fail)
          exact RelEnd.mk rfl (Below.refl _ _) rfl
        case refine_20 =>
          (try (obtain ⟨d0, hd⟩ := hd; (try (obtain ⟨d1, hd⟩ := hd; (try (obtain ⟨d2, hd⟩ := hd))))))
          rw [HFR.out]
          go_wp2_with (fail)
          exact RelEnd.mk rfl (Below.refl _ _) rfl
        case refine_21 =>
          (try (obtain ⟨d0, hd⟩ := hd; (try (obtain ⟨d1, hd⟩ := hd; (try (obtain ⟨d2, hd⟩ := hd))))))
          rw [HFR.out]
          go_wp2_with (fail)
          exact RelEnd.mk rfl (Below.refl _ _) rfl
      · intro u w4 hb4 hold
        have L4 := Lib.hid (L3.out.step hb4)
        simp only [RelHold, Sp.eq_holds] at hold
        obtain ⟨-, -, -, -, -, -, -, -, -, -, -, -, -, -, -, -, -, -, -, -, -, -, -, -, hlast, -⟩ := hold
        simp only [putAll, Act.put, Nat.reduceAdd, List.setIfInBounds_toArray, List.set_cons_zero, List.set_cons_succ]
        rw [hlast]
        have hlt2 := HLT.out
        clear L3 L2 L1 hb4 hh3 O1 O2 SM1 SM2 HB1 HB2
        go_wp2_with (fail)
        go_roundw
        case rel => exact ⟨k + 1, T, by omega, by go_num, L4.out⟩
        case measure => simp [intOf]; omega
    · obtain rfl : k = 2 := by omega
      have HRD := Lib.hid (c_bookwire_Read none ⟨[], 1⟩ wr (HT.out.below L.out.below) (RdP.nilmk _))
      have HZ := Lib.hid (rdBook_err (st := ⟨[], 1⟩) (by decide))
      clear hk3 hlt
      go_wp2_with (fail)
      refine HRD.out.mono ?_
      rintro e w2 ⟨b1, rfl, hbk1, hsm1, hob1, -, hk2⟩
      have hb2 : Below wr.heap.size wr w2 := hk2.below (Nat.le_refl _) (fun g h => by cases h)
      have O1 := Lib.hid hob1
      have SM1 := Lib.hid hsm1
      have HB1 := Lib.hid (hbk1.trans HZ.out)
      have W2 := Lib.hid (L.out.below.trans (hb2.mono L.out.below.size))
      clear hbk1 hsm1 hob1 hk2 hb2 HRD
      go_wp2_with (with_reducible refine stop_build 35 _ rfl ?_)
      refine Stop.mk (wpList_buildD rfl _ _ rfl _ rfl #[.int .i64 0, .int .i64 0, .slice none 0 0, .slice none 0 0, .slice none 0 0] (by kernel_rfl) ?_)
      go_wp2_with (fail)
      refine (c_ref20_SameE b1 ⟨0, 0, [], [], [], none, 0, none, 0, none, 0⟩ _ (O1.out.at_ SM1.out) ((OwnB.nil _ 0 0 0).at_ (BQ.small.nil _ _)) HB1.out).mono ?_
      rintro e w3 ⟨rfl, hb3⟩
      have W3 := Lib.hid (W2.out.trans (hb3.mono W2.out.size))
      clear hb3
      go_wp2_with (fail)
      refine (c_law21_awake _).mono ?_
      rintro e w4 ⟨rfl, hb4⟩
      go_wp2_with (fail)
      go_ret
      exact RetV.bool rfl (W3.out.trans (hb4.mono W3.out.size))
end Go.Proofs.YtldoedmclfbgpaaDoor
