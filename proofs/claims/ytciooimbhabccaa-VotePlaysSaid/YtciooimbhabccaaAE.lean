/- The reference's voter: NewVoter, Put, Fresh, Bads. -/
import Derived.Test.YtciooimbhabccaaAD
import Derived.Test.YtciooimbhabccaaX
namespace Go.Proofs.Ytciooimbhabccaa
open Go.RowKit

set_option maxRecDepth 100000 in
theorem rfresh_any {w : World} {rp : Nat} {S : VS} (h : Blk w rp 61 S.rcells) (k : Nat) (hk : k < 3) (now : Int) (hn : now ≤ 9223372036854775807) (ht : S.t k ≤ 9223372036854775807) : Calls Try.prog 26 #[.pointer (some ⟨rp, 0, none⟩), .int .i64 k, .int .i64 now] w fun e w' => e = .returned (.bool (freshB S k now)) ∧ Below w.heap.size w w' := by
  have c0 : w.cell? ⟨rp, 6 + k, none⟩ = some (.int .i64 (S.t k)) := by rw [h.cell, rc_t S k hk]
  have c1 : w.cell? ⟨rp, 1, none⟩ = some (.int .i64 S.stale) := by rw [h.cell]; rfl
  have hi0 : (0 : Int) ≤ (k : Int) := Int.natCast_nonneg _
  have hi1 : (k : Int) < 3 := by omega
  clear h
  by_cases h0 : 0 ≤ S.t k
  · have d0 : decide (0 ≤ S.t k) = true := by simp [h0]
    by_cases h1 : S.t k ≤ now
    · have d1 : decide (S.t k ≤ now) = true := by simp [h1]
      have e : freshB S k now = decide (now - S.t k ≤ S.stale) := by simp [freshB, h0, h1]
      rw [e]
      clear e
      have hw : IntKind.i64.wrap (now - S.t k) = now - S.t k := IntWalk.i64_in _ (by omega)
      go_enter Try.func26, Try.ntmps26
      go_wp2_with fail
      go_quiet (fail)
      go_wp2_with fail
      go_ret
      exact ⟨rfl, below_dn' _ _ _⟩
    · have d1 : decide (S.t k ≤ now) = false := by simp; omega
      have e : freshB S k now = false := by simp [freshB, h1]
      rw [e]
      clear e
      go_enter Try.func26, Try.ntmps26
      go_wp2_with fail
      go_quiet (fail)
      go_wp2_with fail
      go_ret
      exact ⟨rfl, below_dn' _ _ _⟩
  · have d0 : decide (0 ≤ S.t k) = false := by simp; omega
    have e : freshB S k now = false := by simp [freshB, h0]
    rw [e]
    clear e
    go_enter Try.func26, Try.ntmps26
    go_wp2_with fail
    go_quiet (fail)
    go_wp2_with fail
    go_ret
    exact ⟨rfl, below_dn' _ _ _⟩

set_option maxRecDepth 100000 in
theorem rbads_any {w : World} {rp : Nat} {S : VS} (h : Blk w rp 61 S.rcells) : Calls Try.prog 27 #[.pointer (some ⟨rp, 0, none⟩)] w fun e w' => e = .returned (.int .i64 (((List.range 3).filter fun k => S.b k).length : Nat)) ∧ w = w' := by
  have H := hide h
  clear h
  go_enter Try.func27, Try.ntmps27
  go_wp2_with fail
  go_loop [3, 4] (fun n i => ∃ k : Nat, k ≤ 3 ∧ i = .int .i64 k ∧ n = .int .i64 (((List.range k).filter fun k => S.b k).length : Nat)) (fun _ i => 3 - (intOf i).toNat)
  case atStart => exact ⟨0, by omega, rfl, rfl⟩
  case round =>
    obtain ⟨k, hk, rfl, rfl⟩ := hrel
    by_cases hlt : k < 3
    · have e1 : ((List.range (k + 1)).filter fun k => S.b k).length = ((List.range k).filter fun k => S.b k).length + (if S.b k = true then 1 else 0) := by
        rw [List.range_succ, List.filter_append, List.length_append]
        cases hx : S.b k <;> simp [hx]
      have hle : ((List.range k).filter fun k => S.b k).length ≤ k := by
        have := List.length_filter_le (fun k => S.b k) (List.range k)
        simpa using this
      have E1 := hide e1
      clear e1
      obtain ⟨N, hN⟩ : ∃ N, ((List.range k).filter fun k => S.b k).length = N := ⟨_, rfl⟩
      rw [hN] at hle E1 ⊢
      clear hN
      have c0 : w.cell? ⟨rp, 12 + k, none⟩ = some (.bool (S.b k)) := by rw [H.out.cell, rc_b S k hlt]
      have hi0 : (0 : Int) ≤ (k : Int) := Int.natCast_nonneg _
      have hi1 : (k : Int) < 3 := by omega
      cases hbk : S.b k
      all_goals
        rw [hbk] at c0
        have Hbk := hide hbk
        clear hbk
        go_wp2_with fail
        go_round
        case rel => exact ⟨k + 1, by omega, by go_num, by rw [E1.out, Hbk.out]; go_num⟩
        case measure => simp [intOf]; omega
    · obtain rfl : k = 3 := by omega
      go_wp2
      go_ret
      exact ⟨rfl, rfl⟩

set_option maxRecDepth 100000 in
set_option maxHeartbeats 1000000 in
theorem rput_any {w : World} {rp : Nat} {S : VS} (h : Blk w rp 61 S.rcells) (i x tick : Int) : Calls Try.prog 22 #[.pointer (some ⟨rp, 0, none⟩), .int .i64 i, .int .i64 x, .int .i64 tick] w fun e w' => e = .returned (.int .i64 (putE S i tick)) ∧ Blk w' rp 61 (putS S i x tick).rcells ∧ w.grownBy w' (some rp) := by
  have H := hide h
  by_cases hi : i < 0 ∨ 3 ≤ i
  · have e1 : putE S i tick = 3 := by unfold putE; rw [if_pos hi]
    have e2 : putS S i x tick = S := by unfold putS; rw [e1]; rfl
    rw [e1, e2]
    clear h e1 e2
    rcases hi with hi | hi
    all_goals
      go_enter Try.func22, Try.ntmps22
      go_wp2_with fail
      go_ret
      exact ⟨rfl, H.out, grown_refl _ _⟩
  · obtain ⟨k, rfl⟩ : ∃ k : Nat, i = k := ⟨i.toNat, by omega⟩
    have hk : k < 3 := by omega
    have hi0 : (0 : Int) ≤ (k : Int) := Int.natCast_nonneg _
    have hi1 : (k : Int) < 3 := by omega
    have di : decide ((k : Int) < 0) = false := by simp
    have di2 : decide (2 < (k : Int)) = false := by simp; omega
    have ct : w.cell? ⟨rp, 6 + k, none⟩ = some (.int .i64 (S.t k)) := by rw [h.cell, rc_t S k hk]
    have cx : w.cell? ⟨rp, 3 + k, none⟩ = some (.int .i64 (S.x k)) := by rw [h.cell, rc_x S k hk]
    have f := h.frozen
    by_cases ht : tick < 0 ∨ tick ≤ S.t k
    · have e1 : putE S k tick = 1 := by unfold putE; rw [if_neg hi, if_pos (by simpa using ht)]
      have e2 : putS S k x tick = S := by unfold putS; rw [e1]; rfl
      rw [e1, e2]
      clear h e1 e2 hi
      by_cases ht0 : tick < 0
      · have d1 : decide (tick < 0) = true := by simp [ht0]
        go_enter Try.func22, Try.ntmps22
        go_wp2_with fail
        go_ret
        exact ⟨rfl, H.out, grown_refl _ _⟩
      · have d1 : decide (tick < 0) = false := by simp; omega
        have d2 : decide (tick ≤ S.t k) = true := by simp; omega
        go_enter Try.func22, Try.ntmps22
        go_wp2_with fail
        go_ret
        exact ⟨rfl, H.out, grown_refl _ _⟩
    · have e1 : putE S k tick = 0 := by unfold putE; rw [if_neg hi, if_neg (by simpa using ht)]
      have e2 : putS S k x tick = { S with x := upd S.x k x, t := upd S.t k tick } := by unfold putS; rw [if_pos e1]; rfl
      have d1 : decide (tick < 0) = false := by simp; omega
      have d2 : decide (tick ≤ S.t k) = false := by simp; omega
      have hE : ∀ W, Blk W rp 61 S.rcells → Blk ((W.setCell ⟨rp, 3 + k, none⟩ (.int .i64 x)).setCell ⟨rp, 6 + k, none⟩ (.int .i64 tick)) rp 61 (VS.rcells { S with x := upd S.x k x, t := upd S.t k tick }) := fun W hW => by
        have h1 := Blk.set hW (3 + k) (.int .i64 x)
        rw [rs_x S k hk] at h1
        have h2 := Blk.set h1 (6 + k) (.int .i64 tick)
        rwa [rs_t _ k hk] at h2
      have hE2 : ∀ W, Blk W rp 61 S.rcells → Blk ((W.setCell ⟨rp, 6 + k, none⟩ (.int .i64 tick)).setCell ⟨rp, 3 + k, none⟩ (.int .i64 x)) rp 61 (VS.rcells { S with x := upd S.x k x, t := upd S.t k tick }) := fun W hW => by
        have h1 := Blk.set hW (6 + k) (.int .i64 tick)
        rw [rs_t S k hk] at h1
        have h2 := Blk.set h1 (3 + k) (.int .i64 x)
        rwa [rs_x _ k hk] at h2
      have HE := hide hE
      have HE2 := hide hE2
      rw [e1, e2]
      clear h e1 e2 hi ht hE hE2
      go_enter Try.func22, Try.ntmps22
      go_wp2_with fail
      go_region
      all_goals
        go_wp2_with fail
        go_ret
        refine ⟨rfl, ?_, grown_trans (grown_drew _ _) (grown_trans (grown_set _ _ _ _) (grown_set _ _ _ _))⟩
        first | exact HE.out _ H.out.drew | exact HE2.out _ H.out.drew

set_option maxRecDepth 100000 in
set_option maxHeartbeats 1000000 in
theorem rnew_yes (tol stale strikes : Int) (w : World) (h : newB tol stale strikes = true) : Calls Try.prog 21 #[.int .i64 tol, .int .i64 stale, .int .i64 strikes] w fun e w' => e = .returned (.tuple #[.pointer (some ⟨w.heap.size, 0, none⟩), .int .i64 0]) ∧
    Blk w' w.heap.size 61 (newS tol stale strikes).rcells ∧ Below w.heap.size w w' := by
  obtain ⟨a, b, c, d, e⟩ : 0 ≤ tol ∧ 0 ≤ stale ∧ stale ≤ 1000 ∧ 1 ≤ strikes ∧ strikes ≤ 1000 := by simpa [newB, and_assoc] using h
  clear h
  go_enter Try.func21, Try.ntmps21
  go_wp2_with fail
  go_ret2
  exact ⟨rfl, Blk.new _ _ _, (Below.refl _ _).alloc (Nat.le_refl _) _⟩
theorem newB_no {tol stale strikes : Int} (h : newB tol stale strikes = false) : tol < 0 ∨ stale < 0 ∨ 1000 < stale ∨ strikes < 1 ∨ 1000 < strikes := by
  have : ¬ (0 ≤ tol ∧ 0 ≤ stale ∧ stale ≤ 1000 ∧ 1 ≤ strikes ∧ strikes ≤ 1000) := by
    intro h'
    have : newB tol stale strikes = true := by simp [newB, h']
    rw [this] at h; cases h
  omega
set_option maxRecDepth 100000 in
set_option maxHeartbeats 1000000 in
theorem rnew_no (tol stale strikes : Int) (w : World) (h : newB tol stale strikes = false) : Calls Try.prog 21 #[.int .i64 tol, .int .i64 stale, .int .i64 strikes] w fun e w' => e = .returned (.tuple #[.pointer none, .int .i64 1]) ∧ w = w' := by
  have h' := newB_no h
  clear h
  go_enter Try.func21, Try.ntmps21
  go_wp2_with fail
  all_goals first
    | (exfalso; omega)
    | (go_ret2; exact ⟨rfl, rfl⟩)
set_option maxRecDepth 100000 in
set_option maxHeartbeats 1000000 in
theorem new_no (tol stale strikes : Int) (w : World) (h : newB tol stale strikes = false) : Calls Try.prog 13 #[.int .i64 tol, .int .i64 stale, .int .i64 strikes] w fun e w' => e = .returned (.tuple #[.pointer none, .int .i64 1]) ∧ w = w' := by
  have h' := newB_no h
  clear h
  go_enter Try.func13, Try.ntmps13
  go_wp2_with fail
  all_goals first
    | (exfalso; omega)
    | (go_ret2; exact ⟨rfl, rfl⟩)

end Go.Proofs.Ytciooimbhabccaa
