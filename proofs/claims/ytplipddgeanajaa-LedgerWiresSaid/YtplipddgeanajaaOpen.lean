/-
  Arguments opened: values, nodes, slices of them, as the form reads them.
-/
import Derived.Test.YtplipddgeanajaaOpenV
namespace Go.Proofs.Ytplipddgeanajaa
open Go.ChangeShapes Go.WideShapes Go.ChangeAt Go.RowKit Go.Deep
open Go.ChangeMaps (open_string shut_string)

def Node.wf (x : Node) : Prop := I64 x.op ∧ I64 x.n ∧ x.v.wf
section
variable {H : Type} {enc : TypeId × Value → H} {w : World} {base : Nat} {spare : Nat → Bool} {held : Bool}
theorem c_node : Try.prog.cellsOf 74 = 5 := by kernel_rfl
theorem open_node {fuel : Nat} {cs : List Value} {x : DataW H × List MemPlace} (h : DataW.trod enc Try.prog w base spare held fuel 74 cs = some x) :
    ∃ v : Node, cs = v.cells ∧ x = (.agg [.lit (.int .i64 v.op), .lit (.int .i64 v.n), .agg [.lit (.int .i64 v.v.kind), .lit (.int .i64 v.v.n), .lit (.string v.v.s)]], []) ∧ v.wf := by
  obtain ⟨xs, n, _, hx, hl, hxl, hf⟩ := DataW.trod_struct Try.underlying74 h
  rw [c_node] at hl
  · obtain ⟨c0, c1, c2, c3, c4, rfl⟩ := list5 hl
    · obtain ⟨x0, x1, x2, rfl⟩ := list3 (show xs.length = 3 from hxl)
      have h0 := hf 0
      have h1 := hf 1
      have h2 := hf 2
      simp [c_int, c_value] at h0 h1 h2
      obtain ⟨a, ha, hxa, wa⟩ := DataW.trod_int Try.underlying3 h0
      obtain ⟨b, hb, hxb, wb⟩ := DataW.trod_int Try.underlying3 h1
      obtain ⟨v, hv, hxv, wv⟩ := open_val h2
      simp [Val.cells] at ha hb hv
      obtain ⟨e2, e3, e4⟩ := hv
      subst ha hb hxa hxb hxv e2 e3 e4
      exact ⟨⟨a, b, v⟩, rfl, by rw [hx]; rfl, i64_range wa, i64_range wb, wv⟩
/-- A slice of nodes that came in. -/
theorem open_nodes {fuel : Nat} {cs : List Value} {x : DataW H × List MemPlace} (h : DataW.trod enc Try.prog w 0 spare held fuel 34 cs = some x) :
    ∃ (A : Option Addr) (c : Nat) (l : List Node), cs = [.slice A l.length c] ∧ l.length ≤ c ∧ c ≤ 9223372036854775807 ∧ (l = [] ∨ ∃ b off, A = some ⟨b, off, none⟩ ∧ b < w.heap.size ∧ Row 5 Node.cells w b off l) ∧
      (∀ v ∈ l, v.wf) ∧ (x.1 = .nil ∧ l = [] ∨ ∃ spares, x.1 = .slice (l.map fun v => .agg [.lit (.int .i64 v.op), .lit (.int .i64 v.n), .agg [.lit (.int .i64 v.v.kind), .lit (.int .i64 v.v.n), .lit (.string v.v.s)]]) spares) := by
  rcases open_slice Try.underlying34 h with ⟨rfl, rfl⟩ | ⟨a, len, cap, m, n, D, Pl, rfl, hb, hl, hm, hmm, hx, hi⟩
  · exact ⟨none, 0, [], rfl, by simp, by omega, .inl rfl, by simp, .inl ⟨rfl, rfl⟩⟩
  · have hlm : len ≤ m := by rw [hmm]; split <;> omega
    have hq : ∀ i, i < len → ∃ v : Node, (∀ j u, v.cells[j]? = some u → w.cell? (a.add (i * 5 + j)) = some u) ∧ D i = .agg [.lit (.int .i64 v.op), .lit (.int .i64 v.n), .agg [.lit (.int .i64 v.v.kind), .lit (.int .i64 v.v.n), .lit (.string v.v.s)]] ∧ v.wf := by
      intro i hil
      obtain ⟨cs', hc, ht⟩ := hi i (by omega)
      rw [c_node] at hc
      obtain ⟨v, rfl, hv, wv⟩ := open_node ht
      obtain ⟨_, hcl, hat⟩ := World.cells?_some hc
      simp only [Prod.mk.injEq] at hv
      refine ⟨v, fun j u hu => ?_, hv.1, wv⟩
      have hj : j < 5 := by rw [← Node.cells_len v]; exact (List.getElem?_eq_some_iff.1 hu).1
      have h1 := hat j hj
      rw [Go.Deep.add_add] at h1
      rw [h1]; exact hu
    obtain ⟨l, hll, hq⟩ := list_of len hq
    refine ⟨some a, cap, l, by rw [hll], by omega, by unfold maxLen at hm; omega, ?_, ?_, .inr ⟨(List.range (m - len)).map fun j => D (len + j), ?_⟩⟩
    · rcases Nat.eq_zero_or_pos len with h0 | h0
      · exact .inl (List.eq_nil_of_length_eq_zero (by omega))
      · right
        have h1 := (hq 0 (by omega)).1 0 _ rfl
        have hsp := cell_spot h1
        have hlt := World.block_lt_of_cell? w _ h1
        obtain ⟨ab, ao, asp⟩ := a
        simp [Addr.add] at hsp hlt
        subst hsp
        refine ⟨ab, ao, rfl, hlt, fun i hi j u hu => ?_⟩
        have := (hq i hi).1 j u hu
        rw [add_lit'] at this
        rw [Nat.add_assoc]; exact this
    · intro v hv
      obtain ⟨i, hi, rfl⟩ := List.getElem_of_mem hv
      exact (hq i hi).2.2
    · rw [hx]
      have e : (List.range len).map D = l.map fun v => .agg [.lit (.int .i64 v.op), .lit (.int .i64 v.n), .agg [.lit (.int .i64 v.v.kind), .lit (.int .i64 v.v.n), .lit (.string v.v.s)]] := by
        apply List.ext_getElem
        · simp [hll]
        · intro i h1 h2
          simp only [List.getElem_map, List.getElem_range]
          exact (hq i (by simpa using h2)).2.1
      show DataW.slice _ _ = _
      rw [e]
end
end Go.Proofs.Ytplipddgeanajaa
