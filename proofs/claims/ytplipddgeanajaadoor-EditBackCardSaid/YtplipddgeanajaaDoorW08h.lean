/-
  The walk of chapter 8's fields: the values of a mask's fields, one by one, by a closure.
-/
import Derived.Test.YtplipddgeanajaaDoorW08g
namespace Go.Proofs.YtplipddgeanajaaDoor
open Go.RowKit

theorem Blk.alloc {w : World} {g : Nat} {cs : Array Value} (h : Blk w g cs) (o : Obj) : Blk (w.alloc o) g cs := h.below ((Below.refl _ _).alloc (Nat.le_refl _) o) h.lt
theorem farr_one (f : List Val) : ∀ v ∈ (farr f).toList, v.oneCell' = true := by
  intro v hv
  unfold farr at hv
  simp only [List.mem_flatMap] at hv
  obtain ⟨x, -, hx⟩ := hv
  simp only [Val.cells, List.mem_cons, List.not_mem_nil, or_false] at hx
  rcases hx with rfl | rfl | rfl <;> rfl
theorem farr_zero : farr f8z = #[.int .i64 0, .int .i64 0, .string (str []), .int .i64 0, .int .i64 0, .string (str []), .int .i64 0, .int .i64 0, .string (str []), .int .i64 0, .int .i64 0, .string (str []), .int .i64 0, .int .i64 0, .string (str []), .int .i64 0, .int .i64 0, .string (str []), .int .i64 0, .int .i64 0, .string (str []), .int .i64 0, .int .i64 0, .string (str [])] := by unfold farr; rfl
theorem farr_ones (f : List Val) : ((farr f).all fun x => x.oneCell') = true := by
  rw [Array.all_eq_true]
  exact fun i hi => farr_one f _ (Array.getElem_mem_toList hi)
/-- What stands when k of the mask's fields have been read. -/
structure FldAt (w : World) (p : Option Nat) (b : Bool) (S : Rd) (F : List Val) (m : Nat) (A7 : Option Addr) (c7 : Nat) (k : Nat) (st : Rd) (f : List Val) (wr : World) : Prop where
  len : f.length = 8
  eS : rdFs' b ((bitsTo m 8).drop k) st = S
  eF : rdFv b ((bitsTo m 8).drop k) st f = F
  rd : RdP wr p st
  P : Blk wr w.heap.size #[ptr p]
  N : Blk wr (w.heap.size + 1) #[.bool b]
  R : ∃ z, z.size = 24 ∧ Blk wr (w.heap.size + 2) z
  O : Blk wr (w.heap.size + 3) (farr f)
  own : wr.ownsRow (w.heap.size + 4) 3 1 (.slice A7 (idx8 m).length c7) (idx8 m).length ((idx8 m).flatMap ic)
  kept : Kept p w.heap.size w wr
theorem FldAt.next {w : World} {p : Option Nat} {b : Bool} {S : Rd} {F : List Val} {m : Nat} {A7 : Option Addr} {c7 k : Nat} {st : Rd} {f : List Val} {wr w' : World} {e : Ending} (hp : ∀ g, p = some g → g < w.heap.size) (h : FldAt w p b S F m A7 c7 k st f wr)
    {n : Nat} (hk : k < (bitsTo m 8).length) (hn : n = (bitsTo m 8)[k]) (h1 : RetOne b p st f n (w.heap.size + 3) wr e w') : FldAt w p b S F m A7 c7 (k + 1) (fldS b st) (f.set n (rdVal st)) w' := by
  obtain ⟨-, hr, ho, w1, w2, k1, k2, k3⟩ := h1
  have hS := h.eS
  have hF := h.eF
  rw [List.drop_eq_getElem_cons hk, ← hn] at hS hF
  have ne : ∀ g, w.heap.size ≤ g → p ≠ some g := fun g hg e => by have := hp g e; omega
  obtain ⟨z, hz, hR⟩ := h.R
  have z1 := k1.size
  have z2 := k2.size
  have z3 := k3.size
  have zw := h.kept.size
  have tr : ∀ {g : Nat} {cs : Array Value}, Blk wr g cs → w.heap.size ≤ g → g ≠ w.heap.size + 3 → Blk w' g cs := fun hb hg hne => by
    have b1 := hb.kept k1 hb.lt (ne _ hg)
    have b2 := b1.kept k2 b1.lt (fun e => hne (by injection e with e; exact e.symm))
    exact b2.kept k3 b2.lt (ne _ hg)
  refine ⟨by rw [List.length_set]; exact h.len, hS, hF, hr, tr h.P (Nat.le_refl _) (by omega), tr h.N (by omega) (by omega), ⟨z, hz, tr hR (by omega) (by omega)⟩, ho, ?_, ?_⟩
  · have o1 := own_kept h.own k1 (fun g hg => by have := hp g hg; omega)
    have o2 := own_kept o1 k2 (fun g hg => by injection hg with hg; omega)
    exact own_kept o2 k3 (fun g hg => by have := hp g hg; omega)
  · exact ((h.kept.trans (k1.mono zw)).trans (k2.one (by omega) (.inl (by omega)))).trans (k3.mono (by omega))
set_option maxHeartbeats 4000000 in
set_option maxRecDepth 4000 in
theorem c_cardwire_fields (p : Option Nat) (st : Rd) (m : Nat) (b : Bool) (w : World) (hm : m < 4294967296) (hT : Tab w) (hr : RdP w p st) :
    Calls Tryd.prog 126 #[ptr p, .int .u32 m, .bool b] w (RetP p (rdFs' b (bitsTo m 8) st) w (.agg (farr (rdFv b (bitsTo m 8) st f8z)))) := by
  have hpl := fun g (hg : p = some g) => hr.lt hg
  obtain ⟨S, hS⟩ : ∃ S, S = rdFs' b (bitsTo m 8) st := ⟨_, rfl⟩
  obtain ⟨F, hF⟩ : ∃ F, F = rdFv b (bitsTo m 8) st f8z := ⟨_, rfl⟩
  rw [← hS, ← hF]
  have hS0 := Lib.hid hS
  have hF0 := Lib.hid hF
  have IB := Lib.hid (idx8_bits m)
  have hl8 := idx8_len m
  clear hS hF
  go_enter Tryd.func126, Tryd.ntmps126
  go_wp2_with (go_at_call 131; refine (c_mask_Fields m hm _ (hT.below (by repeat (first | exact Below.refl _ _ | refine Below.drew ?_ | refine Below.alloc ?_ (by first | omega | (simp; done) | (simp; omega)) _ | refine Below.setCell ?_ (by first | omega | (simp; done) | (simp; omega)) _ | refine Below.trans ?_ (Below.mono (by assumption) (by first | omega | (simp; done) | (simp; omega))))))).mono ?_; rintro e w7 ⟨v7, rfl, own7, hb7⟩; have hbw : Below w.heap.size w w7 := (by repeat (first | exact Below.refl _ _ | refine Below.drew ?_ | refine Below.alloc ?_ (by first | omega | (simp; done) | (simp; omega)) _ | refine Below.setCell ?_ (by first | omega | (simp; done) | (simp; omega)) _ | refine Below.trans ?_ (Below.mono (by assumption) (by first | omega | (simp; done) | (simp; omega))))); have P7 := Lib.hid (((((Blk.new w _ _).alloc _).alloc _).alloc _).below hb7 (by simp; omega)); have N7 := Lib.hid ((((Blk.new _ _ _).alloc _).alloc _).below hb7 (by simp)); have R7 := Lib.hid (((Blk.new _ _ _).alloc _).below hb7 (by simp)); have O7 := Lib.hid ((Blk.new _ _ _).below hb7 (by simp)); have OW := Lib.hid own7; clear own7; obtain ⟨A7, c7, rfl, -⟩ := own_form OW.out)
  simp only [World.size_alloc] at OW
  go_loopw [10, 15] (fun _ i wr => ∃ (k : Nat) (st' : Rd) (f' : List Val), k ≤ (idx8 m).length ∧ i = .int .i64 k ∧ FldAt w p b S F m A7 c7 k st' f' wr)
    (fun _ i _ => (idx8 m).length - (intOf i).toNat)
  case atStart => exact ⟨0, st, f8z, by omega, rfl, rfl, by rw [List.drop_zero]; exact hS0.out.symm, by rw [List.drop_zero]; exact hF0.out.symm, hr.up hbw hpl, P7.out, by simpa using N7.out, ⟨_, rfl, by simpa using R7.out⟩, by rw [farr_zero]; simpa using O7.out, OW.out, .of_below hbw⟩
  case round =>
    clear P7 N7 R7 O7 OW hbw hb7
    obtain ⟨k, st', f', hk, rfl, I⟩ := hrel
    have IH := Lib.hid I
    have hwz := I.kept.size
    clear I
    by_cases hlt : k < (idx8 m).length
    · obtain ⟨A', c', he, in'⟩ := In.of_own ic_len IH.out.own (by omega)
      simp only [Value.slice.injEq, true_and] at he
      obtain ⟨rfl, rfl⟩ := he
      obtain ⟨bl, off, rfl, hbb, hrow⟩ := in'.at hlt
      have hc0 := hrow k hlt 0 _ rfl
      have hlt' : k < (bitsTo m 8).length := by rw [IB.out] at hlt; simpa using hlt
      obtain ⟨n, hn⟩ : ∃ n, n = (bitsTo m 8)[k] := ⟨_, rfl⟩
      have hn8 : n < 8 := by rw [hn]; exact bitsTo_bd (List.getElem_mem hlt')
      have hin : (idx8 m)[k] = (n : Int) := by simp [IB.out, hn]
      rw [hin] at hc0
      simp only [Nat.mul_one, Nat.add_zero] at hc0
      have HN := Lib.hid hn
      clear hn hin hrow in'
      go_wp2_with (fail)
      refine (c_fields_one b p st' f' n w.heap.size (w.heap.size + 1) (w.heap.size + 3) _ IH.out.len hn8 IH.out.rd IH.out.P IH.out.N IH.out.O hpl (by omega) (by omega)).mono ?_
      intro e w8 hone
      have I8 := Lib.hid (IH.out.next hpl hlt' HN.out hone)
      obtain ⟨rfl, -⟩ := hone
      go_wp2_with (fail)
      go_roundw
      case rel => exact ⟨k + 1, _, _, by omega, by go_num, I8.out⟩
      case measure => simp [intOf]; omega
    · have hge : (bitsTo m 8).length ≤ k := by rw [IB.out] at hlt; simpa using hlt
      obtain ⟨z, hz, hR⟩ := IH.out.R
      have Rz := Lib.hid hR
      have Zz := Lib.hid hz
      clear hR hz
      go_wp2_with (with_reducible refine stop_load 25 (.tmp 7) rfl rfl ?_)
      refine Stop.mk (wpList_loadB rfl _ _ rfl (w.heap.size + 3) rfl (farr f') IH.out.O strF (by rw [farr_size, IH.out.len]) ?_)
      go_wp2_with (with_reducible refine stop_store 25 (.tmp 6) (.tmp 23) rfl rfl ?_)
      refine Stop.mk (wpList_storeB rfl _ _ _ rfl (w.heap.size + 2) _ rfl rfl _ Rz.out strF (by rw [farr_size, IH.out.len]) (by rw [farr_size, IH.out.len, Zz.out]) (farr_ones f') ?_)
      intro w9 hb9 hk9
      have B9 := Lib.hid hb9
      clear hb9
      go_wp2_with (fail)
      have hS := IH.out.eS
      have hF := IH.out.eF
      rw [List.drop_of_length_le hge] at hS hF
      refine bodyPost_ret (results_B rfl rfl B9.out strF (by rw [farr_size, IH.out.len])) rfl ⟨?_, ?_, ?_⟩
      · rw [← hF]; rfl
      · rw [← hS]; exact IH.out.rd.own (b := w.heap.size + 2) hk9 (fun g hg => by have := hpl g hg; omega)
      · exact IH.out.kept.trans (hk9.one hwz (.inl (by omega)))
end Go.Proofs.YtplipddgeanajaaDoor
