/- Plain lemmas on lists. -/
import Derived.Test.YteompacffdeekaaFa
namespace Go.Proofs.Yteompacffdeekaa.Sx
attribute [local irreducible] OkQ Ok
set_option linter.unusedSimpArgs false
set_option linter.unusedVariables false

theorem getD_at {α : Type} {l : List α} {i : Nat} (d : α) (h : i < l.length) : l.getD i d = l[i] := by simp [List.getD_eq_getElem?_getD, h]
theorem getD_mem {α : Type} {l : List α} {i : Nat} (d : α) (h : i < l.length) : l.getD i d ∈ l := by rw [getD_at d h]; exact List.getElem_mem h
theorem getD_end {α : Type} (l : List α) (x d : α) : (l ++ [x]).getD l.length d = x := by simp [List.getD_eq_getElem?_getD]
theorem wr_succ {n : Nat} (h : n ≤ 140737488355328) : wr .i64 ((n : Int) + 1) = ((n + 1 : Nat) : Int) := by rw [wr_i64 (by omega) (by omega)]; simp
theorem take_next {α : Type} {l : List α} {i : Nat} (d : α) (h : i < l.length) : l.take (i + 1) = l.take i ++ [l.getD i d] := by
  rw [getD_at d h, List.take_succ_eq_append_getElem h]
theorem eq_next {α : Type} {xs ys : List α} {i : Nat} (d : α) (h : xs.take i = ys.take i) (h1 : i < xs.length) (h2 : i < ys.length) (e : xs.getD i d = ys.getD i d) : xs.take (i + 1) = ys.take (i + 1) := by
  rw [take_next d h1, take_next d h2, h, e]
theorem eq_end {α : Type} {xs ys : List α} {i : Nat} (h : xs.take i = ys.take i) (h1 : xs.length ≤ i) (h2 : ys.length ≤ i) : xs = ys := by
  rwa [List.take_of_length_le h1, List.take_of_length_le h2] at h
theorem ne_at {α : Type} {xs ys : List α} {i : Nat} (d : α) (e : ¬ xs.getD i d = ys.getD i d) : xs ≠ ys := fun h => e (by rw [h])
theorem ne_len {α : Type} {xs ys : List α} (e : ¬ xs.length = ys.length) : xs ≠ ys := fun h => e (by rw [h])
theorem decF {p : Prop} [Decidable p] (h : ¬ p) : false = decide p := (decide_eq_false h).symm
theorem decT {p : Prop} [Decidable p] (h : p) : true = decide p := (decide_eq_true h).symm

end Go.Proofs.Yteompacffdeekaa.Sx
