/- The reference's middle one: what it computes. -/
import Derived.Test.YtciooimbhabccaaP
namespace Go.Proofs.Ytciooimbhabccaa
open Go.RowKit Go.Sort Go.Maps

/-- where x goes in: behind all that are no greater, from the front -/
def posR (x : Int) (o : List Int) : Nat := (o.takeWhile fun y => decide (y ≤ x)).length
def insR (o : List Int) (x : Int) : List Int := o.take (posR x o) ++ [x] ++ o.drop (posR x o)
theorem posR_le (x : Int) (o : List Int) : posR x o ≤ o.length := List.Sublist.length_le (List.takeWhile_sublist _)
theorem take_posR (x : Int) (o : List Int) : o.take (posR x o) = o.takeWhile fun y => decide (y ≤ x) := by
  have h := List.takeWhile_append_dropWhile (p := fun y => decide (y ≤ x)) (l := o)
  unfold posR
  generalize (o.takeWhile fun y => decide (y ≤ x)) = A at *
  generalize (o.dropWhile fun y => decide (y ≤ x)) = B at *
  subst h
  exact List.take_left
theorem drop_posR (x : Int) (o : List Int) : o.drop (posR x o) = o.dropWhile fun y => decide (y ≤ x) := by
  have h := List.takeWhile_append_dropWhile (p := fun y => decide (y ≤ x)) (l := o)
  unfold posR
  generalize (o.takeWhile fun y => decide (y ≤ x)) = A at *
  generalize (o.dropWhile fun y => decide (y ≤ x)) = B at *
  subst h
  exact List.drop_left
theorem insR_perm (x : Int) (o : List Int) : (insR o x).Perm (x :: o) := by
  unfold insR
  have h := List.take_append_drop (posR x o) o
  have p : (o.take (posR x o) ++ [x]).Perm ([x] ++ o.take (posR x o)) := List.perm_append_comm
  have q := p.append_right (o.drop (posR x o))
  rw [List.append_assoc [x], h] at q
  exact q
theorem insR_sorted (x : Int) : ∀ (o : List Int), o.Pairwise (· ≤ ·) → (insR o x).Pairwise (· ≤ ·) := by
  intro o ho
  unfold insR
  rw [take_posR, drop_posR]
  induction o with
  | nil => simp
  | cons a l ih =>
    obtain ⟨h1, h2⟩ := List.pairwise_cons.1 ho
    by_cases ha : a ≤ x
    · simp only [List.takeWhile_cons, List.dropWhile_cons, ha, decide_true, if_true, List.cons_append]
      refine List.pairwise_cons.2 ⟨fun y hy => ?_, ih h2⟩
      rw [← take_posR, ← drop_posR] at hy
      rcases List.mem_cons.1 ((insR_perm x l).mem_iff.1 hy) with rfl | hy
      · exact ha
      · exact h1 y hy
    · simp only [List.takeWhile_cons, List.dropWhile_cons, ha, decide_false, Bool.false_eq_true, if_false, List.nil_append, List.singleton_append]
      refine List.pairwise_cons.2 ⟨fun y hy => ?_, ho⟩
      rcases List.mem_cons.1 hy with rfl | hy
      · omega
      · have := h1 y hy; omega
def refL (zs : List Int) : List Int := zs.foldl insR []
theorem refL_both : ∀ (zs o : List Int), o.Pairwise (· ≤ ·) → (zs.foldl insR o).Perm (zs ++ o) ∧ (zs.foldl insR o).Pairwise (· ≤ ·)
  | [], o, h => ⟨.refl _, h⟩
  | z :: zs, o, h => by
    obtain ⟨p, s⟩ := refL_both zs (insR o z) (insR_sorted z o h)
    refine ⟨?_, s⟩
    rw [List.foldl_cons]
    refine p.trans (((insR_perm z o).append_left zs).trans ?_)
    exact List.perm_middle
theorem refL_srt (zs : List Int) : refL zs = srt zs := by
  obtain ⟨p, s⟩ := refL_both zs [] .nil
  rw [List.append_nil] at p
  unfold srt
  have e2 := mergeSort_of_perm_i p
  rw [show (fun x y : Int => decide (x ≤ y)) = leI from rfl, ← e2]
  exact (List.mergeSort_of_pairwise (s.imp (fun h => by simp [leI]; omega))).symm
theorem refL_len (zs : List Int) : (refL zs).length = zs.length := by rw [refL_srt, srt_len]
theorem refL_mid (zs : List Int) : (refL zs).getD ((zs.length - 1) / 2) 0 = midL zs := by rw [refL_srt, midL_srt]

end Go.Proofs.Ytciooimbhabccaa
