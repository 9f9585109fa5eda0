/- Rising lists; the closed test as a contract. -/
import Derived.Test.YteoefjahcbfpeaaDoorSpB
namespace Go.Sh
open Go Go.Proofs
set_option linter.unusedSimpArgs false
set_option linter.unusedVariables false

/-! ### Rising -/
theorem up_iff {α : Type} (f : α → Int) (l : List α) : (∀ i, 0 < i → ∀ (h : i < l.length), f l[i-1] < f l[i]) ↔ l.Pairwise fun p q => f p < f q := by
  rw [List.pairwise_iff_getElem]
  constructor
  · intro h i j hi hj hij
    obtain ⟨k, rfl⟩ : ∃ k, j = i + 1 + k := ⟨j - (i + 1), by omega⟩
    clear hij
    induction k with
    | zero => exact h (i + 1) (by omega) hj
    | succ k ih => exact Int.lt_trans (ih (by omega)) (h (i + 1 + (k + 1)) (by omega) hj)
  · intro h i h0 hi
    exact h (i - 1) i (by omega) hi (by omega)

theorem rises_iff (l : List Int) : rises l ↔ (∀ x ∈ l, 0 ≤ x) ∧ l.Pairwise fun p q => p < q := by
  rw [← up_iff (fun x : Int => x)]
  constructor
  · intro h
    refine ⟨fun x hx => ?_, fun i h0 hi => (h i hi hi).2 h0⟩
    obtain ⟨i, hi, rfl⟩ := List.getElem_of_mem hx
    exact (h i hi hi).1
  · intro h i _ hi
    exact ⟨h.1 _ (List.getElem_mem hi), fun h0 => h.2 i h0 hi⟩

def keysUp {X : Type} (l : List (Int × X)) : Prop := l.Pairwise fun p q => p.1 < q.1

theorem wfs_iff (l : List PostL) : wfs l ↔ keysUp l ∧ ∀ p ∈ l, rises p.2 := by
  unfold keysUp
  rw [← up_iff (fun x : PostL => x.1)]
  constructor
  · intro h
    refine ⟨fun i h0 hi => (h i hi).1 h0, fun p hp => ?_⟩
    obtain ⟨i, hi, rfl⟩ := List.getElem_of_mem hp
    exact (h i hi).2
  · intro h i hi
    exact ⟨fun h0 => h.1 i h0 hi, h.2 _ (List.getElem_mem hi)⟩

theorem works_prim (A : AHeap) : Kt.prim 11 #[] A = some (.bool true, A) := by
  show prims 11 #[] A = some (.bool true, A)
  rw [prims, if_neg (by decide), if_pos rfl]
  rfl
end Go.Sh
