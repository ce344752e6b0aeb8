/- Plain facts for VoteResets. -/
import Derived.Test.YtciooimbhabccaaK
namespace Go.Proofs.Ytciooimbhabccaa
open Go.RowKit

def vq (i : Nat) (x off : Int) (k : Nat) : Int := if k = i then x + off else x
def rsS (i : Nat) (x off q : Int) (t : Nat) : VS := ⟨fun k => if k < 3 ∧ 0 < t then vq i x off k else 0, fun k => if k < 3 then (t : Int) - 1 else -1, fun k => decide (k = i ∧ q ≤ t ∧ 0 < t), fun k => if k = i then (t : Int) else 0, 1, 0, q, if 0 < t then x else 0⟩
def rpS (i : Nat) (x off q : Int) (t j : Nat) : VS := { rsS i x off q t with x := fun k => if k < j then vq i x off k else (rsS i x off q t).x k, t := fun k => if k < j then (t : Int) else (rsS i x off q t).t k }
theorem rs_new (i : Nat) (x off q : Int) : newS 1 0 q = rsS i x off q 0 := by
  simp only [newS, rsS, VS.mk.injEq]
  refine ⟨by funext k; simp, by funext k; split <;> simp, by funext k; simp, by funext k; split <;> simp, trivial, trivial, trivial, by simp⟩
theorem rp_zero (i : Nat) (x off q : Int) (t : Nat) : rpS i x off q t 0 = rsS i x off q t := by
  simp [rpS]
theorem upd_lt2 (f g : Nat → Int) (j : Nat) : upd (fun k => if k < j then f k else g k) j (f j) = fun k => if k < j + 1 then f k else g k := by
  funext k
  unfold upd
  by_cases h : k = j
  · subst h; simp
  · simp only [if_neg h]
    by_cases h2 : k < j
    · rw [if_pos h2, if_pos (by omega)]
    · rw [if_neg h2, if_neg (by omega)]
theorem rp_put (i : Nat) (x off q : Int) (t j : Nat) (hj : j < 3) : putE (rpS i x off q t j) j t = 0 ∧ putS (rpS i x off q t j) j (vq i x off j) t = rpS i x off q t (j + 1) := by
  have e : putE (rpS i x off q t j) j t = 0 := by
    unfold putE
    rw [if_neg (by omega), if_neg]
    rw [Int.toNat_natCast]
    have : (rpS i x off q t j).t j = (t : Int) - 1 := by simp [rpS, rsS, hj]
    omega
  refine ⟨e, ?_⟩
  unfold putS
  rw [if_pos e, Int.toNat_natCast]
  unfold rpS
  simp only [upd_lt2 (vq i x off), upd_lt2 (fun _ => (t : Int))]
theorem rp_cnt (i : Nat) (x off q : Int) (t : Nat) (h : (t : Int) < q) : cnt (rpS i x off q t 3) t 3 = [0, 1, 2] := by
  have hf : ∀ k, k < 3 → freshB (rpS i x off q t 3) k t = true := fun k hk => by
    have : (rpS i x off q t 3).t k = t := by simp [rpS, hk]
    simp [freshB, this]
    show (0 : Int) ≤ 0
    omega
  have hb : ∀ k, (rpS i x off q t 3).b k = false := fun k => by
    show decide (k = i ∧ q ≤ t ∧ 0 < t) = false
    simp; omega
  rw [cnt_hit (hf 2 (by omega)) (hb 2), cnt_hit (hf 1 (by omega)) (hb 1), cnt_hit (hf 0 (by omega)) (hb 0)]
  rfl
theorem mid_q (i : Nat) (hi : i < 3) (x off : Int) (ho : 2 ≤ off) : midL [vq i x off 0, vq i x off 1, vq i x off 2] = x := by
  have m : midL [x, x, x + off] = x := by
    simp [midL, isort, ins, show x ≤ x + off by omega]
  obtain rfl | rfl | rfl : i = 0 ∨ i = 1 ∨ i = 2 := by omega
  · exact (midL_perm (List.perm_append_comm (l₁ := [x + off]) (l₂ := [x, x]))).trans m
  · exact (midL_perm ((List.Perm.swap x (x + off) []).cons x)).trans m
  · exact m

theorem far_yes {x off : Int} (ho : 2 ≤ off) : farB (x + off) x 1 = true := by simp [farB]; omega
theorem far_no (x : Int) : farB x x 1 = false := by simp [farB]

theorem stp_far {P : VS} {out : List Nat} {k : Nat} (h : farB (P.x k) P.last P.tol = true) : stp (P, out) k = ({ P with s := upd P.s k (P.s k + 1) }, if P.strikes ≤ P.s k + 1 then out ++ [k] else out) := by simp [stp, h]
theorem stp_near {P : VS} {out : List Nat} {k : Nat} (h : farB (P.x k) P.last P.tol = false) : stp (P, out) k = ({ P with s := upd P.s k 0 }, out) := by simp [stp, h]
theorem rs_next {i : Nat} {x off q : Int} {t : Nat} {S : VS} (hx : S.x = (rpS i x off q t 3).x) (ht : S.t = (rpS i x off q t 3).t) (hb : ∀ k, S.b k = decide (k = i ∧ q ≤ (t : Int) + 1)) (hs : ∀ k, S.s k = if k = i then (t : Int) + 1 else 0) (h1 : S.tol = 1) (h2 : S.stale = 0) (h3 : S.strikes = q) (h4 : S.last = x) : S = rsS i x off q (t + 1) := by
  obtain ⟨sx, st, sb, ss, a, b, c, d⟩ := S
  simp only at hx ht hb hs h1 h2 h3 h4
  subst hx ht h1 h2 h3 h4
  simp only [rsS, VS.mk.injEq]
  refine ⟨?_, ?_, ?_, ?_, trivial, trivial, trivial, by simp⟩
  · funext k; by_cases h : k < 3 <;> simp [rpS, rsS, h]
  · funext k; by_cases h : k < 3 <;> simp [rpS, rsS, h]
  · funext k; rw [hb k]; simp
  · funext k; rw [hs k]; simp

theorem upd3 (f : Nat → Int) (i : Nat) (hi : i < 3) (t : Int) (h : ∀ k, f k = if k = i then t else 0) : ∀ k, upd (upd (upd f 0 (if 0 = i then f 0 + 1 else 0)) 1 (if 1 = i then f 1 + 1 else 0)) 2 (if 2 = i then f 2 + 1 else 0) k = if k = i then t + 1 else 0 := by
  intro k
  unfold upd
  by_cases h2 : k = 2
  · subst h2
    rw [if_pos rfl]
    by_cases e : 2 = i
    · rw [if_pos e, if_pos e, h 2, if_pos e]
    · rw [if_neg e, if_neg e]
  · rw [if_neg h2]
    by_cases h1 : k = 1
    · subst h1
      rw [if_pos rfl]
      by_cases e : 1 = i
      · rw [if_pos e, if_pos e, h 1, if_pos e]
      · rw [if_neg e, if_neg e]
    · rw [if_neg h1]
      by_cases h0 : k = 0
      · subst h0
        rw [if_pos rfl]
        by_cases e : 0 = i
        · rw [if_pos e, if_pos e, h 0, if_pos e]
        · rw [if_neg e, if_neg e]
      · rw [if_neg h0, h k, if_neg (by omega), if_neg (by omega)]

set_option maxHeartbeats 2000000 in
theorem rp_vote (i : Nat) (hi : i < 3) (x off q : Int) (ho : 2 ≤ off) (t : Nat) (h : (t : Int) < q) : voteX (rpS i x off q t 3) t = x ∧ voteS (rpS i x off q t 3) t = rsS i x off q (t + 1) := by
  have hc := rp_cnt i x off q t h
  have hm : midL (([0, 1, 2] : List Nat).map (rpS i x off q t 3).x) = x := mid_q i hi x off ho
  have f1 := far_yes (x := x) ho
  have f0 := far_no x
  refine ⟨by unfold voteX; rw [hc, if_neg (by simp), hm], ?_⟩
  unfold voteS
  rw [hc, if_neg (by simp), if_pos (by simp)]
  have e1 : vote1 (rpS i x off q t 3) t = { rpS i x off q t 3 with last := x } := by unfold vote1; rw [hc, hm]
  rw [e1]
  have hb : ∀ k, (rpS i x off q t 3).b k = false := fun k => by
    show decide (k = i ∧ q ≤ t ∧ 0 < t) = false
    simp; omega
  have hs : ∀ k, (rpS i x off q t 3).s k = if k = i then (t : Int) else 0 := fun k => rfl
  have hx : ∀ k, k < 3 → (rpS i x off q t 3).x k = if k = i then x + off else x := fun k hk => by simp [rpS, hk, vq]
  obtain ⟨R, hR⟩ : ∃ R, rpS i x off q t 3 = R := ⟨_, rfl⟩
  have hR1 : R.tol = 1 := by rw [← hR]; rfl
  have hR2 : R.stale = 0 := by rw [← hR]; rfl
  have hR3 : R.strikes = q := by rw [← hR]; rfl
  rw [hR] at hb hs hx ⊢
  have key : ([0, 1, 2] : List Nat).foldl stp ({ R with last := x }, []) = ({ R with last := x, s := upd (upd (upd R.s 0 (if 0 = i then R.s 0 + 1 else 0)) 1 (if 1 = i then R.s 1 + 1 else 0)) 2 (if 2 = i then R.s 2 + 1 else 0) }, if q ≤ (t : Int) + 1 then [i] else []) := by
    obtain rfl | rfl | rfl : i = 0 ∨ i = 1 ∨ i = 2 := by omega
    · rw [List.foldl_cons]
      rw [stp_far (show farB (R.x 0) x R.tol = true by rw [hx 0 (by omega), hR1]; exact f1)]
      rw [List.foldl_cons]
      rw [stp_near (show farB (R.x 1) x R.tol = false by rw [hx 1 (by omega), hR1]; exact f0)]
      rw [List.foldl_cons]
      rw [stp_near (show farB (R.x 2) x R.tol = false by rw [hx 2 (by omega), hR1]; exact f0)]
      rw [List.foldl_nil]
      have hs0 : R.s 0 = t := by rw [hs 0]; rfl
      simp only [hR3]
      by_cases hq : q ≤ (t : Int) + 1 <;> simp [hs0, hq]
    · rw [List.foldl_cons]
      rw [stp_near (show farB (R.x 0) x R.tol = false by rw [hx 0 (by omega), hR1]; exact f0)]
      rw [List.foldl_cons]
      rw [stp_far (show farB (R.x 1) x R.tol = true by rw [hx 1 (by omega), hR1]; exact f1)]
      rw [List.foldl_cons]
      rw [stp_near (show farB (R.x 2) x R.tol = false by rw [hx 2 (by omega), hR1]; exact f0)]
      rw [List.foldl_nil]
      have hs0 : R.s 1 = t := by rw [hs 1]; rfl
      simp only [hR3]
      by_cases hq : q ≤ (t : Int) + 1 <;> simp [upd, hs0, hq]
    · rw [List.foldl_cons]
      rw [stp_near (show farB (R.x 0) x R.tol = false by rw [hx 0 (by omega), hR1]; exact f0)]
      rw [List.foldl_cons]
      rw [stp_near (show farB (R.x 1) x R.tol = false by rw [hx 1 (by omega), hR1]; exact f0)]
      rw [List.foldl_cons]
      rw [stp_far (show farB (R.x 2) x R.tol = true by rw [hx 2 (by omega), hR1]; exact f1)]
      rw [List.foldl_nil]
      have hs0 : R.s 2 = t := by rw [hs 2]; rfl
      simp only [hR3]
      by_cases hq : q ≤ (t : Int) + 1 <;> simp [upd, hs0, hq]
  have hS : strikeS { R with last := x } [0, 1, 2] = (([0, 1, 2] : List Nat).foldl stp ({ R with last := x }, [])).2.foldl (fin1 (([0, 1, 2] : List Nat).foldl stp ({ R with last := x }, [])).2.length) (([0, 1, 2] : List Nat).foldl stp ({ R with last := x }, [])).1 := rfl
  rw [hS, key]
  have hss : ∀ k, upd (upd (upd R.s 0 (if 0 = i then R.s 0 + 1 else 0)) 1 (if 1 = i then R.s 1 + 1 else 0)) 2 (if 2 = i then R.s 2 + 1 else 0) k = if k = i then (t : Int) + 1 else 0 := upd3 R.s i hi t hs
  by_cases hq : q ≤ (t : Int) + 1
  · rw [if_pos hq]
    refine rs_next (i := i) ?_ ?_ ?_ ?_ ?_ ?_ ?_ ?_
    · rw [← hR]; rfl
    · rw [← hR]; rfl
    · intro k
      show upd R.b i true k = _
      unfold upd
      by_cases hk : k = i
      · simp [hk, hq]
      · rw [if_neg hk, hb k]; simp [hk]
    · exact hss
    · exact hR1
    · exact hR2
    · exact hR3
    · rfl
  · rw [if_neg hq]
    refine rs_next (i := i) ?_ ?_ ?_ ?_ ?_ ?_ ?_ ?_
    · rw [← hR]; rfl
    · rw [← hR]; rfl
    · intro k
      show R.b k = _
      rw [hb k]; simp [hq]
    · exact hss
    · exact hR1
    · exact hR2
    · exact hR3
    · rfl

end Go.Proofs.Ytciooimbhabccaa
