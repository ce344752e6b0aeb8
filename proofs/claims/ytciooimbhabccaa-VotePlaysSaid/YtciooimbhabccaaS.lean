/- Plain side of VoteMids: how many are below and above the middle one. -/
import Derived.Test.YtciooimbhabccaaR
namespace Go.Proofs.Ytciooimbhabccaa
open Go.RowKit

theorem mid_get {zs : List Int} (h : 0 < zs.length) : ∃ hk : (zs.length - 1) / 2 < (isort zs).length, midL zs = (isort zs)[(zs.length - 1) / 2] := by
  have hl : (isort zs).length = zs.length := (isort_perm zs).length_eq
  refine ⟨by omega, ?_⟩
  unfold midL
  rw [List.getD_eq_getElem?_getD, List.getElem?_eq_getElem (by omega)]; rfl
theorem count_le {p : Int → Bool} {l : List Int} (h : ∀ y ∈ l, p y = false) : l.countP p = 0 := by
  rw [List.countP_eq_zero]
  intro a ha; simp [h a ha]
theorem mid_below {zs : List Int} (h : 0 < zs.length) : 2 * zs.countP (fun y => decide (y < midL zs)) < zs.length := by
  obtain ⟨hk, e⟩ := mid_get h
  have hl : (isort zs).length = zs.length := (isort_perm zs).length_eq
  have hs := isort_sorted zs
  rw [← (isort_perm zs).countP_eq]
  have hp : ∀ y ∈ (isort zs).drop ((zs.length - 1) / 2), decide (y < midL zs) = false := by
    intro y hy
    obtain ⟨j, hj, rfl⟩ := List.getElem_of_mem hy
    rw [List.length_drop] at hj
    rw [List.getElem_drop, e, decide_eq_false_iff_not, Int.not_lt]
    rcases Nat.eq_zero_or_pos j with rfl | hj0
    · simp
    · exact List.pairwise_iff_getElem.1 hs _ _ hk (by omega) (by omega)
  have h1 := List.take_append_drop ((zs.length - 1) / 2) (isort zs)
  have h2 : (isort zs).countP (fun y => decide (y < midL zs)) = ((isort zs).take ((zs.length - 1) / 2)).countP (fun y => decide (y < midL zs)) := by
    conv => lhs; rw [← h1]
    rw [List.countP_append, count_le hp]; omega
  have h3 := List.countP_le_length (p := fun y => decide (y < midL zs)) (l := (isort zs).take ((zs.length - 1) / 2))
  rw [List.length_take] at h3
  omega
theorem mid_above {zs : List Int} (h : 0 < zs.length) : 2 * zs.countP (fun y => decide (midL zs < y)) ≤ zs.length := by
  obtain ⟨hk, e⟩ := mid_get h
  have hl : (isort zs).length = zs.length := (isort_perm zs).length_eq
  have hs := isort_sorted zs
  rw [← (isort_perm zs).countP_eq]
  have hp : ∀ y ∈ (isort zs).take ((zs.length - 1) / 2 + 1), decide (midL zs < y) = false := by
    intro y hy
    obtain ⟨j, hj, rfl⟩ := List.getElem_of_mem hy
    rw [List.length_take] at hj
    rw [List.getElem_take, e, decide_eq_false_iff_not, Int.not_lt]
    rcases Nat.eq_or_lt_of_le (show j ≤ (zs.length - 1) / 2 by omega) with hj0 | hj0
    · simp [hj0]
    · exact List.pairwise_iff_getElem.1 hs _ _ (by omega) hk hj0
  have h1 := List.take_append_drop ((zs.length - 1) / 2 + 1) (isort zs)
  have h2 : (isort zs).countP (fun y => decide (midL zs < y)) = ((isort zs).drop ((zs.length - 1) / 2 + 1)).countP (fun y => decide (midL zs < y)) := by
    conv => lhs; rw [← h1]
    rw [List.countP_append, count_le hp]; omega
  have h3 := List.countP_le_length (p := fun y => decide (midL zs < y)) (l := (isort zs).drop ((zs.length - 1) / 2 + 1))
  rw [List.length_drop] at h3
  omega
theorem mid_turn (zs : List Int) (k : Nat) : midL (zs.drop k ++ zs.take k) = midL zs :=
  midL_perm (List.perm_append_comm.trans (by rw [List.take_append_drop]))

/-- what the loop of VoteMids has counted -/
def blw (x : Int) (zs : List Int) : Nat := zs.countP (fun y => decide (y < x))
def abv (x : Int) (zs : List Int) : Nat := zs.countP (fun y => decide (x < y))
def hasB (x : Int) (zs : List Int) : Bool := zs.any (fun y => y == x)
theorem blw_snoc (x : Int) (zs : List Int) (y : Int) : blw x (zs ++ [y]) = blw x zs + (if y < x then 1 else 0) := by
  unfold blw; rw [List.countP_append]; by_cases h : y < x <;> simp [h]
theorem abv_snoc (x : Int) (zs : List Int) (y : Int) : abv x (zs ++ [y]) = abv x zs + (if x < y then 1 else 0) := by
  unfold abv; rw [List.countP_append]; by_cases h : x < y <;> simp [h]
theorem hasB_snoc (x : Int) (zs : List Int) (y : Int) : hasB x (zs ++ [y]) = (hasB x zs || (y == x)) := by
  unfold hasB; rw [List.any_append]; simp
theorem blw_le (x : Int) (zs : List Int) : blw x zs ≤ zs.length := List.countP_le_length
theorem abv_le (x : Int) (zs : List Int) : abv x zs ≤ zs.length := List.countP_le_length
theorem hasB_mid {zs : List Int} (h : 0 < zs.length) : hasB (midL zs) zs = true := by
  unfold hasB; rw [List.any_eq_true]; exact ⟨_, mid_mem (by intro e; simp [e] at h), by simp⟩

end Go.Proofs.Ytciooimbhabccaa
