/- The voter: fresh, far, Bad, New, Mid. -/
import Derived.Test.YtciooimbhabccaaA
import Derived.Test.YtciooimbhabccaaB
namespace Go.Proofs.Ytciooimbhabccaa
open Go.RowKit

def freshB (S : VS) (k : Nat) (now : Int) : Bool := decide (0 ≤ S.t k) && (decide (S.t k ≤ now) && decide (now - S.t k ≤ S.stale))

theorem fresh_any {w : World} {bp : Nat} {S : VS} (h : Blk w bp 68 S.cells) (k : Nat) (hk : k < 3) (now : Int) (hn : now ≤ 9223372036854775807) (ht : S.t k ≤ 9223372036854775807) : Calls Try.prog 31 #[.pointer (some ⟨bp, 0, none⟩), .int .i64 k, .int .i64 now] w fun e w' => e = .returned (.bool (freshB S k now)) ∧ w = w' := by
  have c16 := h.cell 16
  have c0 := h.cell 1
  have c1 := h.cell 6
  have c2 := h.cell 11
  simp [VS.cells] at c16 c0 c1 c2
  clear h
  by_cases h0 : 0 ≤ S.t k
  · by_cases h1 : S.t k ≤ now
    · have e : freshB S k now = decide (now - S.t k ≤ S.stale) := by simp [freshB, h0, h1]
      rw [e]
      clear e
      obtain rfl | rfl | rfl : k = 0 ∨ k = 1 ∨ k = 2 := by omega
      all_goals
        go_enter Try.func31, Try.ntmps31
        go_wp2
        go_ret
        simp
    · have e : freshB S k now = false := by simp [freshB, h1]
      rw [e]
      clear e
      obtain rfl | rfl | rfl : k = 0 ∨ k = 1 ∨ k = 2 := by omega
      all_goals
        go_enter Try.func31, Try.ntmps31
        go_wp2
        go_ret
        simp
  · have e : freshB S k now = false := by simp [freshB, h0]
    rw [e]
    clear e
    obtain rfl | rfl | rfl : k = 0 ∨ k = 1 ∨ k = 2 := by omega
    all_goals
      go_enter Try.func31, Try.ntmps31
      go_wp2
      go_ret
      simp

def farB (a b tol : Int) : Bool := decide (tol < max a b - min a b)

theorem far_any (a b tol : Int) (w : World) (ha : -9223372036854775808 ≤ a ∧ a ≤ 9223372036854775807) (hb : -9223372036854775808 ≤ b ∧ b ≤ 9223372036854775807) (ht : 0 ≤ tol ∧ tol ≤ 9223372036854775807) : Calls Try.prog 40 #[.int .i64 a, .int .i64 b, .int .i64 tol] w fun e w' => e = .returned (.bool (farB a b tol)) ∧ w = w' := by
  have e : IntKind.u64.wrap (IntKind.u64.wrap (max a b) - IntKind.u64.wrap (min a b)) = max a b - min a b := by
    rw [IntKind.wrap_u64, IntKind.wrap_u64, IntKind.wrap_u64]
    omega
  go_enter Try.func40, Try.ntmps40
  go_wp2
  go_ret
  exact ⟨rfl, rfl⟩

theorem ix0 (a0 a1 a2 a3 a4 a5 a6 a7 a8 a9 a10 a11 a12 a13 a14 : Value) (w : World) : (Instr.index 66 (.agg #[a0, a1, a2, a3, a4, a5, a6, a7, a8, a9, a10, a11, a12, a13, a14]) (.int .i64 0)).run Try.prog w = .ok (.agg #[a0, a1, a2, a3, a4]) w := by kernel_rfl
theorem ix1 (a0 a1 a2 a3 a4 a5 a6 a7 a8 a9 a10 a11 a12 a13 a14 : Value) (w : World) : (Instr.index 66 (.agg #[a0, a1, a2, a3, a4, a5, a6, a7, a8, a9, a10, a11, a12, a13, a14]) (.int .i64 1)).run Try.prog w = .ok (.agg #[a5, a6, a7, a8, a9]) w := by kernel_rfl
theorem ix2 (a0 a1 a2 a3 a4 a5 a6 a7 a8 a9 a10 a11 a12 a13 a14 : Value) (w : World) : (Instr.index 66 (.agg #[a0, a1, a2, a3, a4, a5, a6, a7, a8, a9, a10, a11, a12, a13, a14]) (.int .i64 2)).run Try.prog w = .ok (.agg #[a10, a11, a12, a13, a14]) w := by kernel_rfl

set_option maxRecDepth 100000 in
set_option maxHeartbeats 1000000 in
theorem bad_any {w : World} {bp : Nat} {S : VS} (h : Blk w bp 68 S.cells) (hs : 1 ≤ S.strikes) : Calls Try.prog 20 #[.pointer (some ⟨bp, 0, none⟩)] w fun e w' => e = .returned (.int .i64 (((List.range 3).filter fun k => S.b k).length : Nat)) ∧ Below w.heap.size w w' := by
  have hn := none_any h
  have e0 : (S.strikes == 0) = false := by simp; omega
  rw [e0] at hn
  have Hn := hide hn
  have H := hide h
  have hc : ∀ j v, S.cells[j]? = some v → w.cell? ⟨bp, j, none⟩ = some v := fun j v hv => by rw [h.cell, hv]
  have c0 := h.cell 0
  have c1 := h.cell 1
  have c2 := h.cell 2
  have c3 := h.cell 3
  have c4 := h.cell 4
  have c5 := h.cell 5
  have c6 := h.cell 6
  have c7 := h.cell 7
  have c8 := h.cell 8
  have c9 := h.cell 9
  have c10 := h.cell 10
  have c11 := h.cell 11
  have c12 := h.cell 12
  have c13 := h.cell 13
  have c14 := h.cell 14
  simp [VS.cells] at c0 c1 c2 c3 c4 c5 c6 c7 c8 c9 c10 c11 c12 c13 c14
  clear h hn e0 hc
  have i0 := ix0
  have i1 := ix1
  have i2 := ix2
  go_enter Try.func20, Try.ntmps20
  go_wp2_with (go_at_call 30; refine Hn.out.mono ?_; rintro e w' ⟨rfl, rfl⟩)
  go_loopw [3, 12] (fun n i wr => ∃ k : Nat, k ≤ 3 ∧ i = .int .i64 k ∧ n = .int .i64 (((List.range k).filter fun k => S.b k).length : Nat) ∧ Below w.heap.size w wr) (fun _ i _ => 3 - (intOf i).toNat)
  case atStart => exact ⟨0, by omega, rfl, rfl, Below.refl _ _⟩
  case round =>
    obtain ⟨k, hk, rfl, rfl, hb⟩ := hrel
    by_cases hlt : k < 3
    · have hz := hb.size
      have e1 : ((List.range (k + 1)).filter fun k => S.b k).length = ((List.range k).filter fun k => S.b k).length + (if S.b k = true then 1 else 0) := by
        rw [List.range_succ, List.filter_append, List.length_append]
        cases hx : S.b k <;> simp [hx]
      have hle : ((List.range k).filter fun k => S.b k).length ≤ k := by
        have := List.length_filter_le (fun k => S.b k) (List.range k)
        simpa using this
      have E1 := hide e1
      clear e1
      obtain ⟨N, hN⟩ : ∃ N, ((List.range k).filter fun k => S.b k).length = N := ⟨_, rfl⟩
      rw [hN] at hle E1 ⊢
      clear hN
      cases hbk : S.b k
      all_goals
        have Hbk := hide hbk
        clear c0 c1 c2 c3 c4 c5 c6 c7 c8 c9 c10 c11 c12 c13 c14
        obtain rfl | rfl | rfl : k = 0 ∨ k = 1 ∨ k = 2 := by omega
        all_goals
          first | rw [show ((0 : Nat) : Int) = 0 from rfl] | rw [show ((1 : Nat) : Int) = 1 from rfl] | rw [show ((2 : Nat) : Int) = 2 from rfl]
          go_wp2_with fail
          go_roundw
          case rel => first | exact ⟨0 + 1, by omega, by go_num, by rw [E1.out, Hbk.out]; go_num, hb.alloc hb.size _⟩ | exact ⟨1 + 1, by omega, by go_num, by rw [E1.out, Hbk.out]; go_num, hb.alloc hb.size _⟩ | exact ⟨2 + 1, by omega, by go_num, by rw [E1.out, Hbk.out]; go_num, hb.alloc hb.size _⟩
          case measure => simp [intOf]
    · obtain rfl : k = 3 := by omega
      go_wp2
      go_ret
      exact ⟨rfl, hb⟩

end Go.Proofs.Ytciooimbhabccaa
