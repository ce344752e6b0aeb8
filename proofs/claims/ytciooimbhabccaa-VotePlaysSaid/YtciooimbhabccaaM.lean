/- More plain facts for VoteResets. -/
import Derived.Test.YtciooimbhabccaaL
namespace Go.Proofs.Ytciooimbhabccaa
open Go.RowKit

theorem upd_same (f : Nat → Int) (k : Nat) (h : f k = 0) : upd f k 0 = f := by
  funext j
  unfold upd
  by_cases e : j = k
  · rw [if_pos e, e, h]
  · rw [if_neg e]

/-- the channels beside i -/
def rest (i : Nat) : List Nat := if i = 0 then [1, 2] else if i = 1 then [0, 2] else [0, 1]

theorem rs_fresh (i : Nat) (x off q : Int) (n : Nat) (hn : 0 < n) (k : Nat) (hk : k < 3) : freshB (rsS i x off q n) k ((n : Int) - 1) = true := by
  have : (rsS i x off q n).t k = (n : Int) - 1 := by simp [rsS, hk]
  have hs : (rsS i x off q n).stale = 0 := rfl
  simp [freshB, this, hs]
  omega
theorem rs_cnt (i : Nat) (hi : i < 3) (x off : Int) (n : Nat) (hn : 0 < n) : cnt (rsS i x off n n) ((n : Int) - 1) 3 = rest i := by
  have hb : ∀ k, (rsS i x off n n).b k = decide (k = i) := fun k => by simp [rsS, hn]
  have f := rs_fresh i x off n n hn
  unfold cnt
  simp only [List.range_succ, List.range_zero, List.nil_append, List.filter_append, List.filter_cons, List.filter_nil, f 0 (by omega), f 1 (by omega), f 2 (by omega), hb]
  obtain rfl | rfl | rfl : i = 0 ∨ i = 1 ∨ i = 2 := by omega
  all_goals rfl
theorem rs_vote (i : Nat) (hi : i < 3) (x off : Int) (n : Nat) (hn : 0 < n) : voteS (rsS i x off n n) ((n : Int) - 1) = rsS i x off n n ∧ (rest i).length = 2 := by
  have hc := rs_cnt i hi x off n hn
  have f0 := far_no x
  have hx : ∀ k, k < 3 → k ≠ i → (rsS i x off n n).x k = x := fun k hk h => by simp [rsS, hk, hn, vq, h]
  have hs : ∀ k, k ≠ i → (rsS i x off n n).s k = 0 := fun k h => by simp [rsS, h]
  have hl : (rsS i x off n n).last = x := by simp [rsS, hn]
  have ht : (rsS i x off n n).tol = 1 := rfl
  have hlen : (rest i).length = 2 := by
    obtain rfl | rfl | rfl : i = 0 ∨ i = 1 ∨ i = 2 := by omega
    all_goals rfl
  refine ⟨?_, hlen⟩
  have hmap : (rest i).map (rsS i x off n n).x = [x, x] := by
    obtain rfl | rfl | rfl : i = 0 ∨ i = 1 ∨ i = 2 := by omega
    · show [_, _] = _; rw [hx 1 (by omega) (by omega), hx 2 (by omega) (by omega)]
    · show [_, _] = _; rw [hx 0 (by omega) (by omega), hx 2 (by omega) (by omega)]
    · show [_, _] = _; rw [hx 0 (by omega) (by omega), hx 1 (by omega) (by omega)]
  have hm : midL [x, x] = x := by simp [midL, isort, ins]
  have e1 : vote1 (rsS i x off n n) ((n : Int) - 1) = rsS i x off n n := by
    unfold vote1
    rw [hc, hmap, hm]
    conv => rhs; rw [show rsS i x off n n = { rsS i x off n n with last := (rsS i x off n n).last } from rfl, hl]
  unfold voteS
  rw [hc, hlen, if_neg (by decide), if_pos (by decide), e1]
  obtain ⟨R, hR⟩ : ∃ R, rsS i x off n n = R := ⟨_, rfl⟩
  rw [hR] at hx hs hl ht ⊢
  have nr : ∀ k, k < 3 → k ≠ i → ∀ out, stp (R, out) k = (R, out) := fun k hk hki out => by
    rw [stp_near (by rw [hx k hk hki, hl, ht]; exact f0), upd_same _ _ (hs k hki)]
  have key : (rest i).foldl stp (R, []) = (R, []) := by
    obtain rfl | rfl | rfl : i = 0 ∨ i = 1 ∨ i = 2 := by omega
    · show stp (stp (R, []) 1) 2 = _; rw [nr 1 (by omega) (by omega), nr 2 (by omega) (by omega)]
    · show stp (stp (R, []) 0) 2 = _; rw [nr 0 (by omega) (by omega), nr 2 (by omega) (by omega)]
    · show stp (stp (R, []) 0) 1 = _; rw [nr 0 (by omega) (by omega), nr 1 (by omega) (by omega)]
  unfold strikeS
  rw [key]
  rfl
theorem rs_reset (i : Nat) (hi : i < 3) (x off : Int) (n : Nat) (hn : 0 < n) : (cnt (reset1 (rsS i x off n n) i) ((n : Int) - 1) 3).length = 3 ∧ (reset1 (rsS i x off n n) i).b i = false ∧ (reset1 (rsS i x off n n) i).x i = x + off := by
  have e : reset1 (rsS i x off n n) i = { rsS i x off n n with b := upd (rsS i x off n n).b i false, s := upd (rsS i x off n n).s i 0 } := by
    rw [reset1, if_pos (by omega), Int.toNat_natCast]
  rw [e]
  have hb : ∀ k, upd (rsS i x off n n).b i false k = false := fun k => by
    unfold upd
    by_cases h : k = i
    · rw [if_pos h]
    · rw [if_neg h]; simp [rsS, h]
  have f : ∀ k, k < 3 → freshB { rsS i x off n n with b := upd (rsS i x off n n).b i false, s := upd (rsS i x off n n).s i 0 } k ((n : Int) - 1) = true := rs_fresh i x off n n hn
  refine ⟨?_, hb i, by simp [rsS, hi, hn, vq]⟩
  rw [cnt_hit (f 2 (by omega)) (hb 2), cnt_hit (f 1 (by omega)) (hb 1), cnt_hit (f 0 (by omega)) (hb 0)]
  rfl
theorem rs_bad (i : Nat) (x off q : Int) (t : Nat) (h : (t : Int) < q) : ((List.range 3).filter fun k => (rsS i x off q t).b k).length = 0 := by
  have hb : ∀ k, (rsS i x off q t).b k = false := fun k => by
    show decide (k = i ∧ q ≤ t ∧ 0 < t) = false
    simp; omega
  simp [hb]
theorem rp_ok (i : Nat) (x off q : Int) (t j : Nat) (hx : -1099511627776 ≤ x ∧ x ≤ 1099511627776) (ho : 2 ≤ off ∧ off ≤ 1099511627776) (hq : 1 ≤ q ∧ q ≤ 100) (ht : (t : Int) ≤ q) : (rpS i x off q t j).ok 1000 := by
  have hv : ∀ k, -9223372036854775808 ≤ vq i x off k ∧ vq i x off k ≤ 9223372036854775807 := fun k => by unfold vq; split <;> omega
  have hx2 : ∀ k, -9223372036854775808 ≤ (rpS i x off q t j).x k ∧ (rpS i x off q t j).x k ≤ 9223372036854775807 := fun k => by
    show _ ≤ (if k < j then vq i x off k else if k < 3 ∧ 0 < t then vq i x off k else 0) ∧ (if k < j then vq i x off k else if k < 3 ∧ 0 < t then vq i x off k else 0) ≤ _
    have := hv k
    split
    · omega
    · split <;> omega
  have ht2 : ∀ k, -1 ≤ (rpS i x off q t j).t k ∧ (rpS i x off q t j).t k ≤ 9223372036854775807 := fun k => by
    show _ ≤ (if k < j then (t : Int) else if k < 3 then (t : Int) - 1 else -1) ∧ (if k < j then (t : Int) else if k < 3 then (t : Int) - 1 else -1) ≤ _
    split
    · omega
    · split <;> omega
  have hs2 : ∀ k, 0 ≤ (rpS i x off q t j).s k ∧ (rpS i x off q t j).s k ≤ 1000 := fun k => by
    show 0 ≤ (if k = i then (t : Int) else 0) ∧ (if k = i then (t : Int) else 0) ≤ 1000
    split <;> omega
  have hl : -9223372036854775808 ≤ (rpS i x off q t j).last ∧ (rpS i x off q t j).last ≤ 9223372036854775807 := by
    show _ ≤ (if 0 < t then x else 0) ∧ (if 0 < t then x else 0) ≤ _
    split <;> omega
  exact { tol0 := by show (0 : Int) ≤ 1; omega, tol1 := by show (1 : Int) ≤ _; omega, stale0 := by show (0 : Int) ≤ 0; omega, stale1 := by show (0 : Int) ≤ _; omega, strikes1 := hq.1, strikes2 := by show q ≤ 1000; omega, x0 := fun k => (hx2 k).1, x1 := fun k => (hx2 k).2, t0 := fun k => (ht2 k).1, t1 := fun k => (ht2 k).2, s0 := fun k => (hs2 k).1, s1 := fun k => (hs2 k).2, sB := by decide, l0 := hl.1, l1 := hl.2 }

end Go.Proofs.Ytciooimbhabccaa
