/-
  Filters that are joined, without any program: what is joined of trees is a tree, its parts are they again, and what is wrong with it.
-/
import Derived.Test.YtplipddgeanajaaDep
namespace Go.Proofs.Ytplipddgeanajaa
open Go.RowKit

def joined (op : Int) (l : List Node) : List Node := ⟨op, 0, ⟨0, 0, []⟩⟩ :: l
theorem Tree.ahead {a : List Node} {d : Nat} (h : Tree a d) (q : List Node) : Trees 1 (a ++ q) q d := by
  obtain ⟨p, hp, hq⟩ := Trees.behind h
  rw [List.append_nil] at hp
  subst hp
  exact hq q
theorem cut_tree {a : List Node} {d : Nat} (h : Tree a d) (n : Nat) (q : List Node) : cut (n + 1) (a ++ q) = a :: cut n q := by
  have he := endFrom_trees (h.ahead q) 0 (Nat.le_refl _)
  have he' : endFrom (a ++ q) 1 0 = (a.length : Int) := by
    have : ((1 : Nat) : Int) = 1 := rfl
    rw [this] at he
    rw [he]; simp
  simp [cut, he']
theorem tree_of_check {l : List Node} (h : check l = 0) : ∃ d, Tree l d ∧ depth l = d ∧ (l.any fun x => !x.ok) = false ∧ l.length ≤ 31 := by
  unfold check at h
  split at h
  · cases h
  · rename_i h1
    split at h
    · cases h
    · rename_i h2
      split at h
      · cases h
      · rename_i h3
        have hne : l ≠ [] := fun e => h2 (.inl (by rw [e]; rfl))
        have hend : endAt l 0 = l.length := by
          rcases Decidable.em (endAt l 0 = l.length) with h | h
          · exact h
          · exact absurd (.inr h) h2
        obtain ⟨d, ht⟩ := tree_of_end hne hend
        exact ⟨d, ht, depth_tree ht, by simpa using h3, by omega⟩
theorem joined_tree2 {a b : List Node} {da db : Nat} {op : Int} (hp : parts op = 2) (ha : Tree a da) (hb : Tree b db) : Tree (joined op (a ++ b)) (max da db + 1) := by
  have h2 : Trees 2 (a ++ b) [] (max da db) := (ha.ahead b).append hb
  have e : (parts (⟨op, 0, ⟨0, 0, []⟩⟩ : Node).op).toNat = 2 := by show (parts op).toNat = 2; rw [hp]; rfl
  have h3 := Trees.cons (x := ⟨op, 0, ⟨0, 0, []⟩⟩) (n := 0) (by rw [e]; exact h2) (Trees.nil [])
  rw [Nat.max_eq_left (Nat.zero_le _)] at h3
  exact h3
theorem joined_tree1 {a : List Node} {da : Nat} {op : Int} (hp : parts op = 1) (ha : Tree a da) : Tree (joined op a) (da + 1) := by
  have e : (parts (⟨op, 0, ⟨0, 0, []⟩⟩ : Node).op).toNat = 1 := by show (parts op).toNat = 1; rw [hp]; rfl
  have h3 := Trees.cons (x := ⟨op, 0, ⟨0, 0, []⟩⟩) (n := 0) (by rw [e]; exact ha) (Trees.nil [])
  rw [Nat.max_eq_left (Nat.zero_le _)] at h3
  exact h3
theorem cut_two {a b : List Node} {da db : Nat} (ha : Tree a da) (hb : Tree b db) : cut 2 (a ++ b) = [a, b] := by
  rw [cut_tree ha]
  have := cut_tree hb 0 []
  rw [List.append_nil] at this
  rw [this]; rfl
theorem cut_one {a : List Node} {da : Nat} (ha : Tree a da) : cut 1 a = [a] := by
  have := cut_tree ha 0 []
  rw [List.append_nil] at this
  rw [this]; rfl
theorem check_joined2 {a b : List Node} (ha : check a = 0) (hb : check b = 0) : check (joined 11 (a ++ b)) = if 31 < (joined 11 (a ++ b)).length then 4 else if 8 < max (depth a) (depth b) + 1 then 5 else 0 := by
  obtain ⟨da, ta, ea, oa, _⟩ := tree_of_check ha
  obtain ⟨db, tb, eb, ob, _⟩ := tree_of_check hb
  have ht := joined_tree2 (op := 11) rfl ta tb
  have hd := depth_tree ht
  have he := endAt_tree ht
  have hok : ((joined 11 (a ++ b)).any fun x => !x.ok) = false := by
    unfold joined
    rw [List.any_cons, List.any_append, oa, ob]
    rfl
  unfold check
  have hl : (joined 11 (a ++ b)).length ≠ 0 := by simp [joined]
  rw [if_neg (c := (joined 11 (a ++ b)).length = 0 ∨ _) (by rintro (h | h); exact hl h; exact h he), if_neg (c := _ = true) (by rw [hok]; simp), hd, ea, eb]
  have : (((max da db + 1 : Nat) : Nat) : Int) = max (da : Int) (db : Int) + 1 := by omega
  rw [this]
theorem depth_joined2 {a b : List Node} (ha : check a = 0) (hb : check b = 0) : depth (joined 11 (a ++ b)) = max (depth a) (depth b) + 1 := by
  obtain ⟨da, ta, ea, oa, _⟩ := tree_of_check ha
  obtain ⟨db, tb, eb, ob, _⟩ := tree_of_check hb
  rw [depth_tree (joined_tree2 (op := 11) rfl ta tb), ea, eb]
  omega
theorem end_joined2 {a b : List Node} (ha : check a = 0) (hb : check b = 0) : endAt (joined 11 (a ++ b)) 0 = (joined 11 (a ++ b)).length := by
  obtain ⟨da, ta, _⟩ := tree_of_check ha
  obtain ⟨db, tb, _⟩ := tree_of_check hb
  exact endAt_tree (joined_tree2 (op := 11) rfl ta tb)
theorem end_joined1 {a : List Node} (ha : check a = 0) : endAt (joined 10 a) 0 = (joined 10 a).length := by
  obtain ⟨da, ta, _⟩ := tree_of_check ha
  exact endAt_tree (joined_tree1 (op := 10) rfl ta)
end Go.Proofs.Ytplipddgeanajaa
