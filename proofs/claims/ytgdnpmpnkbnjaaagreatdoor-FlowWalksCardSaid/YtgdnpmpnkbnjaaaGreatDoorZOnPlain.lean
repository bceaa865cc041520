/- The ways on from a zero-jump, as flow.on makes them: sorted, compacted. Plain. No condition. -/
import Derived.Test.YtgdnpmpnkbnjaaaGreatDoorZA
import Derived.Test.YtgdnpmpnkbnjaaaGreatDoorZShelf
namespace Go.Proofs.YtgdnpmpnkbnjaaaGreatDoor

theorem sort_two (a b : Int) : [a, b].mergeSort (fun x y => decide (x ≤ y)) = if a ≤ b then [a, b] else [b, a] := by
  by_cases h : a ≤ b
  · rw [if_pos h]
    exact List.mergeSort_of_pairwise (by simp [h])
  · rw [if_neg h]
    have hp : [b, a].Pairwise (fun x y : Int => decide (x ≤ y) = true) := by simp; omega
    have h1 := List.mergeSort_of_pairwise hp
    have h2 : ([a, b].mergeSort fun x y => decide (x ≤ y)).Perm ([b, a]) := (List.mergeSort_perm _ _).trans (List.Perm.swap _ _ _)
    have h3 : ([a, b].mergeSort fun x y => decide (x ≤ y)).Pairwise (fun x y : Int => decide (x ≤ y) = true) := List.pairwise_mergeSort (fun x y z h1 h2 => by simp at *; omega) (fun x y => by simp; omega) _
    refine h2.eq_of_pairwise (le := fun x y : Int => decide (x ≤ y) = true) ?_ h3 hp
    intro x y _ _ hx hy
    simp at hx hy
    omega
theorem compact_two (a b : Int) : Lib.compact [a, b] = if a = b then [a] else [a, b] := by
  by_cases h : a = b
  · subst h; simp [Lib.compact, Lib.compactUpTo, Lib.keeps, List.range_succ]
  · have h2 : ¬ b = a := fun e => h e.symm
    simp [Lib.compact, Lib.compactUpTo, Lib.keeps, List.range_succ, h, h2]
end Go.Proofs.YtgdnpmpnkbnjaaaGreatDoor
