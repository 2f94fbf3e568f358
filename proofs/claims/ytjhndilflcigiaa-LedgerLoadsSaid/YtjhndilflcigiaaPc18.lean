/-
  The walk of ledger.Load: a ledger of rows.
-/
import Derived.Test.YtjhndilflcigiaaPc17
import Derived.Test.YtjhndilflcigiaaRows
import Derived.WalkKit
import Derived.WalkSpells
import Derived.WalkLawsBesides
import Derived.Lib.Hide
import Derived.Deep.QuietTactic
import Derived.BigQuiet
import Derived.Maps.AppendAt
import Derived.WalkSmall
import Derived.ProofKit
import Derived.OpenShut
import Derived.JoinedCond
import Derived.Deep.Slices
import Derived.Deep.Fields
import Derived.Carry
import Derived.Test.YtjhndilflcigiaaProg
import Derived.Deep.CutBlock
import Derived.Deep.DeepCutAuto
import Derived.Deep.AppendSrc
import Derived.Lib.AppendStr
import Derived.Laws.BytesArg
import Derived.Laws.CopyOwn
import Derived.Outline
import Derived.IntWalk
import Derived.Lib.EndianBits
import Derived.Laws.Tables
import Derived.Laws.Rows
import Derived.Shelf.Spec.TrailingZeros
import Derived.StillTail
import Derived.Lib.AppendZeros
import Derived.Deep.Quiet
import Derived.ChangeKeysEq
import Derived.Laws.StructEq
import Derived.Laws.LoneSync
namespace Go.Proofs.Ytjhndilflcigiaa
open Go.RowKit

def rowOk (i : Int) (x : LRow) : Bool := decide (0 ≤ x.last ∧ x.last ≤ 1099511627776 ∧ 0 ≤ x.ep ∧ x.ep ≤ 1099511627776) && (if x.last = 0 then decide (x.a = rz) else (x.a.ok && decide (x.a.dev = i)) && decide (x.a.req = x.last))
def rightL (l : List LRow) : Bool := decide (l.length = 6) && (List.range 6).all fun i => rowOk i (rowAt l i)
theorem right_len {l : List LRow} (h : l.length ≠ 6) : rightL l = false := by unfold rightL; simp [h]
theorem right_bad {l : List LRow} {k : Nat} (hk : k < 6) (h : rowOk k (rowAt l k) = false) : rightL l = false := by
  unfold rightL
  rw [Bool.and_eq_false_iff]
  right
  rw [List.all_eq_false]
  exact ⟨k, List.mem_range.2 hk, by rw [h]; decide⟩
theorem right_good {l : List LRow} (h6 : l.length = 6) (h : ∀ k : Nat, k < 6 → rowOk k (rowAt l k) = true) : rightL l = true := by
  unfold rightL
  rw [Bool.and_eq_true_iff, List.all_eq_true]
  exact ⟨by simpa using h6, fun k hk => h k (List.mem_range.1 hk)⟩
/-- The first k rows, and zero ones. -/
def loadL (l : List LRow) (k : Nat) : List LRow := l.take k ++ List.replicate (6 - k) ⟨0, 0, rz⟩
theorem list6 {α : Type} {l : List α} (h : l.length = 6) : ∃ a b c d e f, l = [a, b, c, d, e, f] := by
  match l, h with
  | [a, b, c, d, e, f], _ => exact ⟨a, b, c, d, e, f, rfl⟩
theorem loadL_step {l : List LRow} (h6 : l.length = 6) {k : Nat} (hk : k < 6) : (loadL l k).set k (rowAt l k) = loadL l (k + 1) := by
  obtain ⟨a, b, c, d, e, f, rfl⟩ := list6 h6
  have hcs : k = 0 ∨ k = 1 ∨ k = 2 ∨ k = 3 ∨ k = 4 ∨ k = 5 := by omega
  rcases hcs with rfl | rfl | rfl | rfl | rfl | rfl <;> rfl
theorem loadL_all {l : List LRow} (h6 : l.length = 6) : loadL l 6 = l := by
  obtain ⟨a, b, c, d, e, f, rfl⟩ := list6 h6
  rfl
abbrev LR.arr (x : LR) : Array Value := #[.int .i64 x.1.last, .int .i64 x.1.ep, .int .i64 x.1.a.kind, .int .i64 x.1.a.dev, .int .i64 x.1.a.req, .int .i64 x.1.a.code, .int .i64 x.1.a.id, .int .i64 x.1.a.ver, .int .i64 x.1.a.seq, .int .i64 x.1.a.epoch, .slice x.2.1 x.1.a.f.length x.2.2, .int .u32 x.1.a.mask]
theorem LR.arr_cells (x : LR) : (LR.arr x).toList = LR.cells x := rfl
theorem lrow_part {w : World} {p : Nat} {x : LR} (h : Blk w p (LR.arr x)) (j : Nat) (u : Value) (hu : (x.1.a.arr x.2.1 x.2.2)[j]? = some u) : w.cell? ⟨p, 2 + j, none⟩ = some u := by
  refine h.cell ?_
  rw [← Array.getElem?_toList, LR.arr_cells]
  unfold LR.cells
  rw [List.getElem?_append_right (by simp)]
  simpa using hu
/-- The end of Load. -/
def RetLoad (w : World) (l : List LRow) (e : Ending) (w' : World) : Prop :=
  (rightL l = false ∧ e = .returned (.tuple #[.pointer none, .bool false]) ∧ Below w.heap.size w w') ∨
  (rightL l = true ∧ ∃ g lg, e = .returned (.tuple #[.pointer (some ⟨g, 0, none⟩), .bool true]) ∧ w.heap.size ≤ g ∧ Lg w' g lg ∧ rowsOf lg = l ∧ Below w.heap.size w w')
set_option maxHeartbeats 400000 in
theorem ledger_Load_len (n : Nat) (A : Option Addr) (c : Nat) (l : List LRow) (w : World) (hn : n ≠ 6) (hl : l.length = n) : Calls Try.prog 32 #[.slice A n c] w (RetLoad w l) := by
  have hr := Lib.hid (right_len (l := l) (by rw [hl]; exact hn))
  have j : (n == 6) = false := by simpa using hn
  clear hl hn
  go_enter Try.func32, Try.ntmps32
  go_wp2_with (fail)
  go_ret2
  exact .inl ⟨hr.out, rfl, (by repeat (first | exact Below.refl _ _ | refine Below.drew ?_ | refine Below.alloc ?_ (by first | omega | (simp; done) | (simp; omega)) _ | refine Below.setCell ?_ (by first | omega | (simp; done) | (simp; omega)) _ | refine Below.trans ?_ (Below.mono (by assumption) (by first | omega | (simp; done) | (simp; omega)))))⟩
structure LD (w wr : World) (g : Nat) (lg : List LR) : Prop where
  below : Below w.heap.size w wr
  og : w.heap.size ≤ g
  L : Lg wr g lg
theorem LD.step {w wr w1 : World} {g : Nat} {lg : List LR} (h : LD w wr g lg) (hb : Below wr.heap.size wr w1) : LD w w1 g lg := ⟨h.below.trans (hb.mono h.below.size), h.og, h.L.below hb⟩
set_option maxHeartbeats 8000000 in
set_option maxRecDepth 4000 in
theorem ledger_Load_6 (l : List LR) (A : Option Addr) (c : Nat) (w : World) (h : InRw w A c l) (h6 : l.length = 6) (hs : ∀ x ∈ l, ∀ y ∈ x.1.a.f, y.v.s.length ≤ 4294967000) (hm : ∀ x ∈ l, x.1.a.mask < 4294967296) :
    Calls Try.prog 32 #[.slice A 6 c] w (RetLoad w (rowsOf l)) := by
  have hc1 : 6 ≤ c := by have := h.1.1; omega
  have hc2 := h.1.2.1
  obtain ⟨b, off, rfl, hb, hrow⟩ := h.1.at (i := 0) (by omega)
  have H := Lib.hid h
  have H6 := Lib.hid h6
  have HS := Lib.hid hs
  have HM := Lib.hid hm
  have HR := Lib.hid hrow
  have R6 := Lib.hid (show (rowsOf l).length = 6 by unfold rowsOf; rw [List.length_map]; exact h6)
  clear h h6 hs hm hrow
  go_enter Try.func32, Try.ntmps32
  go_wp2_with (fail)
  refine (c_ledger_New _).mono ?_
  rintro e w1 ⟨rfl, bg, hb1⟩
  obtain ⟨g, hg⟩ : ∃ g, g = w.heap.size := ⟨_, rfl⟩
  rw [← hg] at bg ⊢
  have S := Lib.hid (show LD w w1 g lz from ⟨hb1, by omega, Lg.new bg⟩)
  clear bg hb1 hg
  go_wp2_with (fail)
  go_loopw [14] (fun i wr => ∃ (k : Nat) (lg : List LR), k ≤ 6 ∧ i = .int .i64 k ∧ Hid (rowsOf lg = loadL (rowsOf l) k) ∧ Hid (∀ j : Nat, j < k → rowOk j (rowAt (rowsOf l) j) = true) ∧ Hid (LD w wr g lg))
    (fun i _ => 6 - (intOf i).toNat)
  case atStart => exact ⟨0, lz, by omega, rfl, by show _ = _; rfl, (show ∀ j : Nat, j < 0 → rowOk j (rowAt (rowsOf l) j) = true from fun j hj => absurd hj (by omega)), S.out⟩
  case round =>
    obtain ⟨k, lg, hk, rfl, HLG, HOK, S0⟩ := hrel
    clear S
    by_cases h1 : k < 6
    · have d1 : decide ((k : Int) < 6) = true := by simp; omega
      have HK := Lib.hid h1
      have hkl : k < l.length := by rw [H6.out]; exact h1
      have HKL := Lib.hid hkl
      obtain ⟨x, hx⟩ : ∃ x, x = l[k] := ⟨_, rfl⟩
      have hxm : x ∈ l := by rw [hx]; exact List.getElem_mem hkl
      have PT := Lib.hid (show ∀ j u, (LR.arr x)[j]? = some u → wr.cell? ⟨b, off + k * 12 + j, none⟩ = some u from fun j u hu => (HR.out.below S0.out.below hb) k hkl j u (by rw [hx] at hu; rw [← LR.arr_cells, Array.getElem?_toList]; exact hu))
      have FX := Lib.hid (H.out.2 x hxm)
      have SX := Lib.hid (HS.out x hxm)
      have MX := HM.out x hxm
      have RA := Lib.hid (show rowAt (rowsOf l) k = x.1 by rw [hx]; exact rowAt_of hkl)
      have hbr := S0.out.below.size
      clear hx hxm hkl d1
      have d1 : decide ((k : Int) < 6) = true := by simp; omega
      go_wp2_with (with_reducible refine stop_load 77 (.tmp 17) rfl rfl ?_)
      refine Stop.mk (wpList_loadAt rfl _ _ rfl b _ rfl (LR.arr x) PT.out strRow rfl ?_)
      go_wp2_with (with_reducible refine stop_store 77 (.tmp 6) (.tmp 18) rfl rfl ?_)
      refine Stop.mk (wpList_storeB rfl _ _ _ rfl wr.heap.size _ rfl rfl _ (Blk.new _ _ _) strRow rfl rfl (by simp [Value.oneCell']) ?_)
      intro w6 hb6 hk6
      have S := Lib.hid (S0.out.step (fresh_below hk6))
      have hgp : g < wr.heap.size := S0.out.L.2.1.lt
      obtain ⟨p, hp⟩ : ∃ p, p = wr.heap.size := ⟨_, rfl⟩
      rw [← hp] at hb6 hgp ⊢
      obtain ⟨⟨last, ep, a⟩, Af, cf⟩ := x
      have BP := Lib.hid hb6
      replace FX := Lib.hid (show InN w Af cf a.f from FX.out)
      replace SX := Lib.hid (show ∀ y ∈ a.f, y.v.s.length ≤ 4294967000 from SX.out)
      replace MX : a.mask < 4294967296 := MX
      clear hb6 hk6 hp S0 PT h1
      by_cases hbd : 0 ≤ last ∧ last ≤ 1099511627776 ∧ 0 ≤ ep ∧ ep ≤ 1099511627776
      case neg =>
        have NO := Lib.hid (show rowOk k ⟨last, ep, a⟩ = false by unfold rowOk; simp only [hbd, decide_false, Bool.false_and])
        have hcs : min last ep < 0 ∨ (¬ min last ep < 0 ∧ 1099511627776 < max last ep) := by omega
        clear hbd
        have q0 : World.cell? _ ⟨p, 0, none⟩ = some (.int .i64 last) := BP.out.cell rfl
        have q1 : World.cell? _ ⟨p, 1, none⟩ = some (.int .i64 ep) := BP.out.cell rfl
        have q3 : World.cell? _ ⟨p, 3, none⟩ = some (.int .i64 a.dev) := BP.out.cell rfl
        have q4 : World.cell? _ ⟨p, 4, none⟩ = some (.int .i64 a.req) := BP.out.cell rfl
        have hpl := BP.out.lt
        rcases hcs with h1 | ⟨h1, h2⟩
        · have j1 : decide (min last ep < 0) = true := by simpa using h1
          clear h1
          go_wp2_with (fail)
          go_ret2
          exact .inl ⟨right_bad HK.out (by rw [RA.out]; exact NO.out), rfl, S.out.below⟩
        · have j1 : decide (min last ep < 0) = false := by simpa using h1
          have j2 : decide (1099511627776 < max last ep) = true := by simpa using h2
          clear h1 h2
          go_wp2_with (fail)
          go_ret2
          exact .inl ⟨right_bad HK.out (by rw [RA.out]; exact NO.out), rfl, S.out.below⟩
      case pos =>
        have HBD := Lib.hid hbd
        have j1 : decide (min last ep < 0) = false := by simp; omega
        have j2 : decide (1099511627776 < max last ep) = false := by simp; omega
        clear hbd
        have fin : rowOk k ⟨last, ep, a⟩ = false ∨ rowOk k ⟨last, ep, a⟩ = true := by cases rowOk k ⟨last, ep, a⟩ <;> simp
        by_cases h0 : last = 0
        · have ROK := Lib.hid (show rowOk k ⟨last, ep, a⟩ = decide (a = rz) by unfold rowOk; rw [decide_eq_true HBD.out, if_pos h0, Bool.true_and])
          have k0 : (last == 0) = true := by simpa using h0
          have k1 : decide (0 < last) = false := by simp; omega
          clear h0 fin
          have q0 : World.cell? _ ⟨p, 0, none⟩ = some (.int .i64 last) := BP.out.cell rfl
          have q1 : World.cell? _ ⟨p, 1, none⟩ = some (.int .i64 ep) := BP.out.cell rfl
          have q3 : World.cell? _ ⟨p, 3, none⟩ = some (.int .i64 a.dev) := BP.out.cell rfl
          have q4 : World.cell? _ ⟨p, 4, none⟩ = some (.int .i64 a.req) := BP.out.cell rfl
          have hpl := BP.out.lt
          by_cases hz : a = rz
          · have YES := Lib.hid (show rowOk k ⟨last, ep, a⟩ = true by rw [ROK.out]; exact decide_eq_true hz)
            have DZ := Lib.hid (decide_eq_true hz)
            clear hz
            go_wp2_with (with_reducible refine stop_loadG 47 (.tmp 39) rfl ?_)
            refine Stop.mk (wpList_loadAtG (by rfl) _ _ rfl p 2 rfl (a.arr Af cf) (lrow_part BP.out) strRp rfl ?_)
            go_wp2_with (fail)
            refine (c_ledger_Same a rz Af none cf 0 _ (FX.out.below S.out.below) (In.nil (by omega))).mono ?_
            rintro e w7 ⟨rfl, hb7⟩
            rw [DZ.out]
            replace S := Lib.hid (S.out.step hb7)
            replace BP := Lib.hid (BP.out.below hb7 BP.out.lt)
            clear hb7 q0 q1 q3 q4 hpl
            have q0 : World.cell? _ ⟨p, 0, none⟩ = some (.int .i64 last) := BP.out.cell rfl
            have q1 : World.cell? _ ⟨p, 1, none⟩ = some (.int .i64 ep) := BP.out.cell rfl
            have q3 : World.cell? _ ⟨p, 3, none⟩ = some (.int .i64 a.dev) := BP.out.cell rfl
            have q4 : World.cell? _ ⟨p, 4, none⟩ = some (.int .i64 a.req) := BP.out.cell rfl
            have hpl := BP.out.lt
            have h6 : k < 6 := HK.out
            go_wp2_with (fail)
            have HI := Lib.hid (FX.out.below S.out.below)
            have hz := S.out.below.size
            have hgs := S.out.L.2.1.lt
            clear q0 q1 q3 q4
            refine wp_region_relF [Sp.eq (.pointer (some ⟨g, k * 12, none⟩)), Sp.eq (.pointer (some ⟨g, k * 12, none⟩)), Sp.eq (.pointer (some ⟨p, 0, none⟩)), Sp.eq (.int .i64 last), Sp.eq (.pointer (some ⟨p, 2, none⟩)), Sp.eq (.agg (a.arr Af cf)), Sp.ownRep w7.heap.size a] 94 7 1 (by kernel_rfl) (by decide) (by decide) (by kernel_rfl) (by kernel_rfl) (by kernel_rfl) (by kernel_rfl) (by kernel_rfl) rfl rfl (fun _ _ _ _ _ h => h) (by rintro o0 x h1 h2; injection h1 with h1; subst h1; injection h2 with h2; subst h2; rfl) ?_ ?_
            · refine ⟨?_, ?_, ?_, ?_, ?_, ?_, ?_, trivial⟩
              all_goals (intro u w8 hb8 hd; simp [Deps, Region.binds, Sp.eq_holds] at hd; simp only [putDeps, dstOf, Region.binds])
              case refine_1 => go_wp2_with (fail); exact RelEnd.mk rfl (Below.refl _ _) rfl
              case refine_2 => go_wp2_with (fail); exact RelEnd.mk rfl (Below.refl _ _) rfl
              case refine_3 => go_wp2_with (fail); exact RelEnd.mk rfl (Below.refl _ _) rfl
              case refine_4 =>
                have q : World.cell? w8 ⟨p, 0, none⟩ = some (.int .i64 last) := (BP.out.below hb8 BP.out.lt).cell rfl
                go_wp2_with (fail); exact RelEnd.mk rfl (Below.refl _ _) rfl
              case refine_5 => go_wp2_with (fail); exact RelEnd.mk rfl (Below.refl _ _) rfl
              case refine_6 =>
                go_wp2_with (with_reducible refine stop_loadG 47 _ rfl ?_)
                refine Stop.mk (wpList_loadAtG (by simp [Region.wanted]) _ _ rfl p 2 rfl (a.arr Af cf) (lrow_part (BP.out.below hb8 BP.out.lt)) strRp rfl ?_)
                go_wp2_with (fail); exact RelEnd.mk rfl (Below.refl _ _) rfl
              case refine_7 =>
                go_wp2_with (go_at_call 40; refine (c_ledger_own a Af cf _ (HI.out.below hb8)).mono ?_; rintro e w9 ⟨A6, c6, rfl, own6, hb9⟩)
                exact RelEnd.mk rfl hb9 ⟨A6, c6, rfl, own_base own6 hb8.size⟩
            · intro u w8 hb8 hold
              simp only [RelHold, Sp.eq_holds, Sp.ownRep_holds, Nat.reduceAdd] at hold
              obtain ⟨e0, e1, -, e3, -, -, ⟨A6, c6, e6, own6⟩, -⟩ := hold
              have O6 := Lib.hid own6
              have S8 := Lib.hid (S.out.step hb8)
              have BP8 := Lib.hid (BP.out.below hb8 BP.out.lt)
              have HGS := Lib.hid hgs
              have hkg : k < lg.length := by rw [S8.out.L.1]; exact HK.out
              have HKG := Lib.hid hkg
              have hfl := O6.out.1
              clear own6 hb8
              have hc := S8.out.L.2.1.cell (by have := lg_get hkg 0 (by omega); rw [Nat.add_zero] at this; exact this)
              have hfz := S8.out.L.2.1.frozen
              have hg8 := S8.out.L.2.1.lt
              obtain ⟨cu, hcu⟩ : ∃ cu, w8.cell? ⟨g, k * 12, none⟩ = some cu := ⟨_, hc⟩
              simp only [List.drop, List.take, putAll, Act.put, Nat.reduceAdd, List.setIfInBounds_toArray, List.set_cons_zero, List.set_cons_succ]
              rw [e0, e1, e3, e6]
              have K6 := Lib.hid (kept_set w8 g (k * 12) (.int .i64 last))
              have B6 := Lib.hid (S8.out.L.2.1.store (k * 12) (.int .i64 last))
              clear hc e0 e1 e3 e6 hkg
              go_wp2_with (with_reducible refine stop_store 47 (.tmp 85) (.tmp 81) rfl rfl ?_)
              refine Stop.mk (wpList_storeAt rfl _ _ _ rfl g (k * 12 + 2) (a.arr A6 c6) rfl rfl _ B6.out strRp rfl (by rw [Array.size_setIfInBounds, lg_size, S8.out.L.1]; show _ + 10 ≤ 72; omega) (by simp [Value.oneCell']) ?_)
              intro w9 hb9 hk9
              have KK := Lib.hid (K6.out.trans (hk9.mono (by simp [World.setCell])))
              have B9 := Lib.hid (show Blk w9 g (lgArr (lg.set k (⟨last, lg[k].1.ep, a⟩, A6, c6))) by have e := lg_put HKG.out last a A6 c6; rw [e] at hb9; exact hb9)
              have L9 := Lib.hid (show Lg w9 g (lg.set k (⟨last, lg[k].1.ep, a⟩, A6, c6)) from ⟨by rw [List.length_set]; exact S8.out.L.1, B9.out, note_rows S8.out.L KK.out O6.out HGS.out HKG.out (by have := FX.out.2.2.1; omega)⟩)
              have S9 := Lib.hid (show Below w.heap.size w w9 from S8.out.below.trans (KK.out.oneB S8.out.below.size S8.out.og))
              have BP9 := Lib.hid (BP8.out.kept KK.out BP8.out.lt (fun e => by injection e with e; omega))
              obtain ⟨lg2, hlg2⟩ : ∃ x, x = lg.set k (⟨last, lg[k].1.ep, a⟩, A6, c6) := ⟨_, rfl⟩
              have RW2 := Lib.hid (show rowsOf lg2 = (rowsOf lg).set k ⟨last, lg[k].1.ep, a⟩ by rw [hlg2]; unfold rowsOf; rw [List.map_set])
              rw [← hlg2] at L9
              clear hb9 hk9 hfz hcu B6 K6 B9 KK hlg2 hg8 hgs
              have hg9 := L9.out.2.1.lt
              have hp9 := BP9.out.lt
              go_wp2_with (fail)
              refine wp_region_relT [Sp.eq (.pointer (some ⟨g, k * 12, none⟩)), Sp.eq (.pointer (some ⟨g, k * 12, none⟩)), Sp.eq (.pointer (some ⟨g, k * 12 + 1, none⟩)), Sp.eq (.pointer (some ⟨p, 1, none⟩)), Sp.eq (.int .i64 ep)] 94 5 (by kernel_rfl) (by decide) (by kernel_rfl) (by kernel_rfl) (by kernel_rfl) (by kernel_rfl) rfl rfl ?_ ?_
              · refine ⟨?_, ?_, ?_, ?_, ?_, trivial⟩
                all_goals (intro u w10 hb10 hd; simp [Deps, Region.binds, Sp.eq_holds] at hd; simp only [putDeps, dstOf, Region.binds])
                case refine_1 => go_wp2_with (fail); exact RelEnd.mk rfl (Below.refl _ _) rfl
                case refine_2 => go_wp2_with (fail); exact RelEnd.mk rfl (Below.refl _ _) rfl
                case refine_3 => go_wp2_with (fail); exact RelEnd.mk rfl (Below.refl _ _) rfl
                case refine_4 => go_wp2_with (fail); exact RelEnd.mk rfl (Below.refl _ _) rfl
                case refine_5 =>
                  have q : World.cell? w10 ⟨p, 1, none⟩ = some (.int .i64 ep) := (BP9.out.below hb10 hp9).cell rfl
                  go_wp2_with (fail); exact RelEnd.mk rfl (Below.refl _ _) rfl
              · intro u w10 hb10 hold
                simp only [RelHold, Sp.eq_holds, Nat.reduceAdd] at hold
                obtain ⟨-, -, e2, -, e4, -⟩ := hold
                simp only [List.drop, List.take, putAll, Act.put, Nat.reduceAdd, List.setIfInBounds_toArray, List.set_cons_zero, List.set_cons_succ]
                rw [e2, e4]
                have L10 := Lib.hid (L9.out.below hb10)
                have S10 := Lib.hid (S9.out.trans (hb10.mono S9.out.size))
                have hk2 : k < lg2.length := by rw [L10.out.1]; exact HK.out
                have HK2 := Lib.hid hk2
                clear e2 e4 hb10 hk2
                go_wp2_with (fail)
                refine (c_atomic_Store g (k * 12 + 1) _ ep _ (L10.out.2.1.cell (lg_get HK2.out 1 (by omega))) (L10.out.2.1.frozen _)).mono ?_
                rintro e w11 ⟨rfl, rfl⟩
                have L11 := Lib.hid (L10.out.ep HK2.out ep)
                have S11 := Lib.hid (show LD w _ g _ from ⟨S10.out.trans ((kept_set w10 g (k * 12 + 1) (.int .i64 ep)).oneB S10.out.size S.out.og), S.out.og, L11.out⟩)
                have RW3 := Lib.hid (show rowsOf (lg2.set k (⟨lg2[k].1.last, ep, lg2[k].1.a⟩, lg2[k].2.1, lg2[k].2.2)) = loadL (rowsOf l) (k + 1) by
                  refine (rowsOf_ep HK2.out ep).trans ?_
                  rw [RW2.out, rowAt_set (by unfold rowsOf; rw [List.length_map]; exact HKG.out), if_pos rfl, List.set_set, HLG.out, ← loadL_step R6.out HK.out, RA.out])
                have OK3 := Lib.hid (show ∀ j : Nat, j < k + 1 → rowOk j (rowAt (rowsOf l) j) = true from fun j hj => by
                  by_cases hjk : j < k
                  · exact HOK.out j hjk
                  · obtain rfl : j = k := by omega
                    rw [RA.out]; exact YES.out)
                have h6' : k < 6 := HK.out
                go_wp2_with (fail)
                go_roundw
                case rel => exact ⟨k + 1, _, by omega, by go_num, RW3.out, OK3.out, S11.out⟩
                case measure => simp [intOf]; omega
          · have NO := Lib.hid (show rowOk k ⟨last, ep, a⟩ = false by rw [ROK.out]; exact decide_eq_false hz)
            have DZ := Lib.hid (decide_eq_false hz)
            clear hz
            go_wp2_with (with_reducible refine stop_loadG 47 (.tmp 39) rfl ?_)
            refine Stop.mk (wpList_loadAtG (by rfl) _ _ rfl p 2 rfl (a.arr Af cf) (lrow_part BP.out) strRp rfl ?_)
            go_wp2_with (fail)
            refine (c_ledger_Same a rz Af none cf 0 _ (FX.out.below S.out.below) (In.nil (by omega))).mono ?_
            rintro e w7 ⟨rfl, hb7⟩
            rw [DZ.out]
            replace S := Lib.hid (S.out.step hb7)
            clear hb7 q0 q1 q3 q4 hpl
            go_wp2_with (fail)
            go_ret2
            exact .inl ⟨right_bad HK.out (by rw [RA.out]; exact NO.out), rfl, S.out.below⟩
        · have ROK := Lib.hid (show rowOk k ⟨last, ep, a⟩ = ((a.ok && decide (a.dev = k)) && decide (a.req = last)) by unfold rowOk; rw [decide_eq_true HBD.out, if_neg h0, Bool.true_and])
          have k0 : (last == 0) = false := by simpa using h0
          have k1 : decide (0 < last) = true := by have := HBD.out.1; simp; omega
          clear h0 fin
          have q0 : World.cell? _ ⟨p, 0, none⟩ = some (.int .i64 last) := BP.out.cell rfl
          have q1 : World.cell? _ ⟨p, 1, none⟩ = some (.int .i64 ep) := BP.out.cell rfl
          have q3 : World.cell? _ ⟨p, 3, none⟩ = some (.int .i64 a.dev) := BP.out.cell rfl
          have q4 : World.cell? _ ⟨p, 4, none⟩ = some (.int .i64 a.req) := BP.out.cell rfl
          have hpl := BP.out.lt
          cases hok : a.ok
          case false =>
            have NO := Lib.hid (show rowOk k ⟨last, ep, a⟩ = false by rw [ROK.out, hok]; rfl)
            have OK := Lib.hid hok
            clear hok
            go_wp2_with (with_reducible refine stop_loadG 47 (.tmp 50) rfl ?_)
            refine Stop.mk (wpList_loadAtG (by rfl) _ _ rfl p 2 rfl (a.arr Af cf) (lrow_part BP.out) strRp rfl ?_)
            go_wp2_with (fail)
            refine (c_ledger_Check a Af cf _ (FX.out.below S.out.below) SX.out MX).mono ?_
            rintro e w7 ⟨rfl, hb7⟩
            rw [OK.out]
            replace S := Lib.hid (S.out.step hb7)
            clear hb7 q0 q1 q3 q4 hpl
            go_wp2_with (fail)
            go_ret2
            exact .inl ⟨right_bad HK.out (by rw [RA.out]; exact NO.out), rfl, S.out.below⟩
          case true =>
            have OK := Lib.hid hok
            have ROK' := Lib.hid (show rowOk k ⟨last, ep, a⟩ = (decide (a.dev = k) && decide (a.req = last)) by rw [ROK.out, hok]; rfl)
            clear hok
            go_wp2_with (with_reducible refine stop_loadG 47 (.tmp 50) rfl ?_)
            refine Stop.mk (wpList_loadAtG (by rfl) _ _ rfl p 2 rfl (a.arr Af cf) (lrow_part BP.out) strRp rfl ?_)
            go_wp2_with (fail)
            refine (c_ledger_Check a Af cf _ (FX.out.below S.out.below) SX.out MX).mono ?_
            rintro e w7 ⟨rfl, hb7⟩
            rw [OK.out]
            replace S := Lib.hid (S.out.step hb7)
            replace BP := Lib.hid (BP.out.below hb7 BP.out.lt)
            clear hb7 q0 q1 q3 q4 hpl
            have q0 : World.cell? _ ⟨p, 0, none⟩ = some (.int .i64 last) := BP.out.cell rfl
            have q1 : World.cell? _ ⟨p, 1, none⟩ = some (.int .i64 ep) := BP.out.cell rfl
            have q3 : World.cell? _ ⟨p, 3, none⟩ = some (.int .i64 a.dev) := BP.out.cell rfl
            have q4 : World.cell? _ ⟨p, 4, none⟩ = some (.int .i64 a.req) := BP.out.cell rfl
            have hpl := BP.out.lt
            by_cases hd : a.dev = k
            · by_cases hr : a.req = last
              · have YES := Lib.hid (show rowOk k ⟨last, ep, a⟩ = true by rw [ROK'.out]; simp [hd, hr])
                have j3 : (a.dev != (k : Int)) = false := by simpa using hd
                have j4 : (a.req != last) = false := by simpa using hr
                clear hd hr
                have h6 : k < 6 := HK.out
                go_wp2_with (fail)
                have HI := Lib.hid (FX.out.below S.out.below)
                have hz := S.out.below.size
                have hgs := S.out.L.2.1.lt
                clear q0 q1 q3 q4
                refine wp_region_relF [Sp.eq (.pointer (some ⟨g, k * 12, none⟩)), Sp.eq (.pointer (some ⟨g, k * 12, none⟩)), Sp.eq (.pointer (some ⟨p, 0, none⟩)), Sp.eq (.int .i64 last), Sp.eq (.pointer (some ⟨p, 2, none⟩)), Sp.eq (.agg (a.arr Af cf)), Sp.ownRep w7.heap.size a] 94 7 1 (by kernel_rfl) (by decide) (by decide) (by kernel_rfl) (by kernel_rfl) (by kernel_rfl) (by kernel_rfl) (by kernel_rfl) rfl rfl (fun _ _ _ _ _ h => h) (by rintro o0 x h1 h2; injection h1 with h1; subst h1; injection h2 with h2; subst h2; rfl) ?_ ?_
                · refine ⟨?_, ?_, ?_, ?_, ?_, ?_, ?_, trivial⟩
                  all_goals (intro u w8 hb8 hd; simp [Deps, Region.binds, Sp.eq_holds] at hd; simp only [putDeps, dstOf, Region.binds])
                  case refine_1 => go_wp2_with (fail); exact RelEnd.mk rfl (Below.refl _ _) rfl
                  case refine_2 => go_wp2_with (fail); exact RelEnd.mk rfl (Below.refl _ _) rfl
                  case refine_3 => go_wp2_with (fail); exact RelEnd.mk rfl (Below.refl _ _) rfl
                  case refine_4 =>
                    have q : World.cell? w8 ⟨p, 0, none⟩ = some (.int .i64 last) := (BP.out.below hb8 BP.out.lt).cell rfl
                    go_wp2_with (fail); exact RelEnd.mk rfl (Below.refl _ _) rfl
                  case refine_5 => go_wp2_with (fail); exact RelEnd.mk rfl (Below.refl _ _) rfl
                  case refine_6 =>
                    go_wp2_with (with_reducible refine stop_loadG 47 _ rfl ?_)
                    refine Stop.mk (wpList_loadAtG (by simp [Region.wanted]) _ _ rfl p 2 rfl (a.arr Af cf) (lrow_part (BP.out.below hb8 BP.out.lt)) strRp rfl ?_)
                    go_wp2_with (fail); exact RelEnd.mk rfl (Below.refl _ _) rfl
                  case refine_7 =>
                    go_wp2_with (go_at_call 40; refine (c_ledger_own a Af cf _ (HI.out.below hb8)).mono ?_; rintro e w9 ⟨A6, c6, rfl, own6, hb9⟩)
                    exact RelEnd.mk rfl hb9 ⟨A6, c6, rfl, own_base own6 hb8.size⟩
                · intro u w8 hb8 hold
                  simp only [RelHold, Sp.eq_holds, Sp.ownRep_holds, Nat.reduceAdd] at hold
                  obtain ⟨e0, e1, -, e3, -, -, ⟨A6, c6, e6, own6⟩, -⟩ := hold
                  have O6 := Lib.hid own6
                  have S8 := Lib.hid (S.out.step hb8)
                  have BP8 := Lib.hid (BP.out.below hb8 BP.out.lt)
                  have HGS := Lib.hid hgs
                  have hkg : k < lg.length := by rw [S8.out.L.1]; exact HK.out
                  have HKG := Lib.hid hkg
                  have hfl := O6.out.1
                  clear own6 hb8
                  have hc := S8.out.L.2.1.cell (by have := lg_get hkg 0 (by omega); rw [Nat.add_zero] at this; exact this)
                  have hfz := S8.out.L.2.1.frozen
                  have hg8 := S8.out.L.2.1.lt
                  obtain ⟨cu, hcu⟩ : ∃ cu, w8.cell? ⟨g, k * 12, none⟩ = some cu := ⟨_, hc⟩
                  simp only [List.drop, List.take, putAll, Act.put, Nat.reduceAdd, List.setIfInBounds_toArray, List.set_cons_zero, List.set_cons_succ]
                  rw [e0, e1, e3, e6]
                  have K6 := Lib.hid (kept_set w8 g (k * 12) (.int .i64 last))
                  have B6 := Lib.hid (S8.out.L.2.1.store (k * 12) (.int .i64 last))
                  clear hc e0 e1 e3 e6 hkg
                  go_wp2_with (with_reducible refine stop_store 47 (.tmp 85) (.tmp 81) rfl rfl ?_)
                  refine Stop.mk (wpList_storeAt rfl _ _ _ rfl g (k * 12 + 2) (a.arr A6 c6) rfl rfl _ B6.out strRp rfl (by rw [Array.size_setIfInBounds, lg_size, S8.out.L.1]; show _ + 10 ≤ 72; omega) (by simp [Value.oneCell']) ?_)
                  intro w9 hb9 hk9
                  have KK := Lib.hid (K6.out.trans (hk9.mono (by simp [World.setCell])))
                  have B9 := Lib.hid (show Blk w9 g (lgArr (lg.set k (⟨last, lg[k].1.ep, a⟩, A6, c6))) by have e := lg_put HKG.out last a A6 c6; rw [e] at hb9; exact hb9)
                  have L9 := Lib.hid (show Lg w9 g (lg.set k (⟨last, lg[k].1.ep, a⟩, A6, c6)) from ⟨by rw [List.length_set]; exact S8.out.L.1, B9.out, note_rows S8.out.L KK.out O6.out HGS.out HKG.out (by have := FX.out.2.2.1; omega)⟩)
                  have S9 := Lib.hid (show Below w.heap.size w w9 from S8.out.below.trans (KK.out.oneB S8.out.below.size S8.out.og))
                  have BP9 := Lib.hid (BP8.out.kept KK.out BP8.out.lt (fun e => by injection e with e; omega))
                  obtain ⟨lg2, hlg2⟩ : ∃ x, x = lg.set k (⟨last, lg[k].1.ep, a⟩, A6, c6) := ⟨_, rfl⟩
                  have RW2 := Lib.hid (show rowsOf lg2 = (rowsOf lg).set k ⟨last, lg[k].1.ep, a⟩ by rw [hlg2]; unfold rowsOf; rw [List.map_set])
                  rw [← hlg2] at L9
                  clear hb9 hk9 hfz hcu B6 K6 B9 KK hlg2 hg8 hgs
                  have hg9 := L9.out.2.1.lt
                  have hp9 := BP9.out.lt
                  go_wp2_with (fail)
                  refine wp_region_relT [Sp.eq (.pointer (some ⟨g, k * 12, none⟩)), Sp.eq (.pointer (some ⟨g, k * 12, none⟩)), Sp.eq (.pointer (some ⟨g, k * 12 + 1, none⟩)), Sp.eq (.pointer (some ⟨p, 1, none⟩)), Sp.eq (.int .i64 ep)] 94 5 (by kernel_rfl) (by decide) (by kernel_rfl) (by kernel_rfl) (by kernel_rfl) (by kernel_rfl) rfl rfl ?_ ?_
                  · refine ⟨?_, ?_, ?_, ?_, ?_, trivial⟩
                    all_goals (intro u w10 hb10 hd; simp [Deps, Region.binds, Sp.eq_holds] at hd; simp only [putDeps, dstOf, Region.binds])
                    case refine_1 => go_wp2_with (fail); exact RelEnd.mk rfl (Below.refl _ _) rfl
                    case refine_2 => go_wp2_with (fail); exact RelEnd.mk rfl (Below.refl _ _) rfl
                    case refine_3 => go_wp2_with (fail); exact RelEnd.mk rfl (Below.refl _ _) rfl
                    case refine_4 => go_wp2_with (fail); exact RelEnd.mk rfl (Below.refl _ _) rfl
                    case refine_5 =>
                      have q : World.cell? w10 ⟨p, 1, none⟩ = some (.int .i64 ep) := (BP9.out.below hb10 hp9).cell rfl
                      go_wp2_with (fail); exact RelEnd.mk rfl (Below.refl _ _) rfl
                  · intro u w10 hb10 hold
                    simp only [RelHold, Sp.eq_holds, Nat.reduceAdd] at hold
                    obtain ⟨-, -, e2, -, e4, -⟩ := hold
                    simp only [List.drop, List.take, putAll, Act.put, Nat.reduceAdd, List.setIfInBounds_toArray, List.set_cons_zero, List.set_cons_succ]
                    rw [e2, e4]
                    have L10 := Lib.hid (L9.out.below hb10)
                    have S10 := Lib.hid (S9.out.trans (hb10.mono S9.out.size))
                    have hk2 : k < lg2.length := by rw [L10.out.1]; exact HK.out
                    have HK2 := Lib.hid hk2
                    clear e2 e4 hb10 hk2
                    go_wp2_with (fail)
                    refine (c_atomic_Store g (k * 12 + 1) _ ep _ (L10.out.2.1.cell (lg_get HK2.out 1 (by omega))) (L10.out.2.1.frozen _)).mono ?_
                    rintro e w11 ⟨rfl, rfl⟩
                    have L11 := Lib.hid (L10.out.ep HK2.out ep)
                    have S11 := Lib.hid (show LD w _ g _ from ⟨S10.out.trans ((kept_set w10 g (k * 12 + 1) (.int .i64 ep)).oneB S10.out.size S.out.og), S.out.og, L11.out⟩)
                    have RW3 := Lib.hid (show rowsOf (lg2.set k (⟨lg2[k].1.last, ep, lg2[k].1.a⟩, lg2[k].2.1, lg2[k].2.2)) = loadL (rowsOf l) (k + 1) by
                      refine (rowsOf_ep HK2.out ep).trans ?_
                      rw [RW2.out, rowAt_set (by unfold rowsOf; rw [List.length_map]; exact HKG.out), if_pos rfl, List.set_set, HLG.out, ← loadL_step R6.out HK.out, RA.out])
                    have OK3 := Lib.hid (show ∀ j : Nat, j < k + 1 → rowOk j (rowAt (rowsOf l) j) = true from fun j hj => by
                      by_cases hjk : j < k
                      · exact HOK.out j hjk
                      · obtain rfl : j = k := by omega
                        rw [RA.out]; exact YES.out)
                    have h6' : k < 6 := HK.out
                    go_wp2_with (fail)
                    go_roundw
                    case rel => exact ⟨k + 1, _, by omega, by go_num, RW3.out, OK3.out, S11.out⟩
                    case measure => simp [intOf]; omega
              · have NO := Lib.hid (show rowOk k ⟨last, ep, a⟩ = false by rw [ROK'.out]; simp [hr])
                have j3 : (a.dev != (k : Int)) = false := by simpa using hd
                have j4 : (a.req != last) = true := by simpa using hr
                clear hd hr
                go_wp2_with (fail)
                go_ret2
                exact .inl ⟨right_bad HK.out (by rw [RA.out]; exact NO.out), rfl, S.out.below⟩
            · have NO := Lib.hid (show rowOk k ⟨last, ep, a⟩ = false by rw [ROK'.out]; simp [hd])
              have j3 : (a.dev != (k : Int)) = true := by simpa using hd
              clear hd
              go_wp2_with (fail)
              go_ret2
              exact .inl ⟨right_bad HK.out (by rw [RA.out]; exact NO.out), rfl, S.out.below⟩
    · have d1 : decide ((k : Int) < 6) = false := by simp; omega
      obtain rfl : k = 6 := by omega
      clear h1 hk
      go_wp2_with (fail)
      go_ret2
      exact .inr ⟨right_good R6.out HOK.out, g, lg, rfl, S0.out.og, S0.out.L, by rw [HLG.out, loadL_all R6.out], S0.out.below⟩
end Go.Proofs.Ytjhndilflcigiaa
