/- The voter: alive. -/
import Derived.Test.YtciooimbhabccaaF
namespace Go.Proofs.Ytciooimbhabccaa
open Go.RowKit

def alS : Nat → VS
  | 0 => newS 1 5 2
  | j + 1 => voteS (putS (putS (putS (alS j) 0 10 (1 + j)) 1 11 (1 + j)) 2 90 (1 + j)) (1 + j)
theorem alS_ok : ∀ j : Nat, j ≤ 3 → (alS j).ok (1000 + 3 * j)
  | 0, _ => new_ok (by decide) (by decide)
  | j + 1, h => by
    have h0 := alS_ok j (by omega)
    have h1 := vote_ok (put_ok (put_ok (put_ok h0 0 10 (1 + j) ⟨by decide, by decide⟩ (by omega)) 1 11 (1 + j) ⟨by decide, by decide⟩ (by omega)) 2 90 (1 + j) ⟨by decide, by decide⟩ (by omega)) (1 + j)
    exact h1.mono (by omega)

theorem grown_below {B : Nat} {w w1 w2 : World} {row : Option Nat} (h : Below B w w1) (hB : B ≤ w1.heap.size) (hg : w1.grownBy w2 row) (hr : ∀ k, row = some k → B ≤ k) : Below B w w2 := h.grown hg hB hr

theorem voteX_val : voteX (alS 2) 2 = 10 ∧ (cnt (alS 2) 2 3).length = 2 ∧ ((List.range 3).filter fun k => (voteS (alS 2) 2).b k).length = 1 := by decide +kernel
theorem mid_val : midL [3, 1, 2] = 2 ∧ midL [4, 1, 2, 3] = 2 := by decide +kernel

theorem ints_lit {w : World} {cs : List Int} {t : TypeId} (B : Nat) (n : Nat) (hn : n = w.heap.size) (hB : w.heap.size < B) : Ints B (w.alloc (.cells (cs.map (Value.int .i64)).toArray t)) (.slice (some ⟨n, 0, none⟩) cs.length cs.length) cs := by
  subst hn
  refine .inr ⟨w.heap.size, 0, cs.length, rfl, hB, fun j hj => ?_⟩
  rw [Nat.zero_add, cell_of_row _ _ j _ t (0, 0) (heap_alloc_new w _)]
  simp [hj]

set_option maxRecDepth 100000 in
set_option maxHeartbeats 2000000 in
theorem alive_any (w : World) : Calls Try.prog 10 #[] w fun e w' => e = .returned (.bool true) ∧ Below w.heap.size w w' := by
  have hn : newB 1 5 2 = true := rfl
  obtain ⟨v1, v2, v3⟩ := voteX_val
  obtain ⟨m1, m2⟩ := mid_val
  have V1 := hide v1
  have V2 := hide v2
  have V3 := hide v3
  have M1 := hide m1
  have M2 := hide m2
  clear v1 v2 v3 m1 m2
  go_enter Try.func10, Try.ntmps10
  go_wp2_with fail
  refine (new_yes 1 5 2 w hn).mono ?_
  rintro e w1 ⟨rfl, hB1, hb1, hz1⟩
  have HB1 := hide hB1
  have Hb1 := hide hb1
  clear hB1 hb1
  go_wp2_with fail
  go_loopw [3] (fun i wr => ∃ j : Nat, j ≤ 2 ∧ i = .int .i64 (1 + j) ∧ Blk wr w.heap.size 68 (alS j).cells ∧ Below w.heap.size w wr) (fun i _ => 4 - (intOf i).toNat)
  case atStart => exact ⟨0, by omega, rfl, HB1.out, Hb1.out⟩
  case round =>
    obtain ⟨j, hj, rfl, hB, hb⟩ := hrel
    have hok := alS_ok j (by omega)
    have hj2 : (1 : Int) + j ≤ 9223372036854775807 := by omega
    by_cases hlt : j < 2
    · have H := hide hB
      have Hb := hide hb
      have Hok := hide hok
      have hbz : w.heap.size ≤ wr.heap.size := hb.size
      clear hB hb hok
      go_wp2_with fail
      refine (put_in H.out Hok.out.strikes1 0 10 (1 + j) (.inl rfl)).mono ?_
      rintro e w2 ⟨rfl, h2, g2⟩
      have k2 := put_ok Hok.out 0 10 (1 + j) ⟨by decide, by decide⟩ hj2
      have H2 := hide h2
      have G2 := hide (Hb.out.grown g2 hbz (fun k e => by injection e; omega))
      have K2 := hide k2
      clear h2 g2 k2
      go_wp2_with fail
      refine (put_in H2.out K2.out.strikes1 1 11 (1 + j) (.inr (.inl rfl))).mono ?_
      rintro e w3 ⟨rfl, h3, g3⟩
      have k3 := put_ok K2.out 1 11 (1 + j) ⟨by decide, by decide⟩ hj2
      have H3 := hide h3
      have G3 := hide (G2.out.grown g3 G2.out.size (fun k e => by injection e; omega))
      have K3 := hide k3
      clear h3 g3 k3
      go_wp2_with fail
      refine (put_in H3.out K3.out.strikes1 2 90 (1 + j) (.inr (.inr rfl))).mono ?_
      rintro e w4 ⟨rfl, h4, g4⟩
      have k4 := put_ok K3.out 2 90 (1 + j) ⟨by decide, by decide⟩ hj2
      have H4 := hide h4
      have G4 := hide (G3.out.grown g4 G3.out.size (fun k e => by injection e; omega))
      have K4 := hide k4
      clear h4 g4 k4
      go_wp2_with fail
      refine (vote_any H4.out K4.out (by omega) (1 + j) hj2).mono ?_
      rintro e w5 ⟨rfl, h5, g5⟩
      have H5 := hide h5
      have G5 := hide (G4.out.grown g5 G4.out.size (fun k e => by injection e; omega))
      clear h5 g5
      go_wp2_with fail
      go_roundw
      case rel => exact ⟨j + 1, by omega, by go_num, H5.out, G5.out⟩
      case measure => simp [intOf]; omega
    · obtain rfl : j = 2 := by omega
      have H := hide hB
      have Hb := hide hb
      have Hok := hide hok
      clear hB hb hok
      go_wp2_with fail
      refine (vote_any H.out Hok.out (by omega) 2 (by decide)).mono ?_
      rintro e w2 ⟨rfl, h2, g2⟩
      rw [V1.out, V2.out]
      have hst := (vote_ok Hok.out 2).strikes1
      have H2 := hide h2
      have G2 := hide (Hb.out.grown g2 Hb.out.size (fun k e => by injection e; omega))
      clear h2 g2
      go_wp2_with fail
      have I1 := ints_lit (w := w2) (cs := [3, 1, 2]) (t := 3) (w2.heap.size + 1) _ rfl (by omega)
      refine (mid_any (by simpa using I1) (by decide)).mono ?_
      rintro e w3 ⟨rfl, h3⟩
      rw [M1.out]
      have H3 := hide (H2.out.below (((Below.refl _ _).alloc (Nat.le_refl _) _).trans (h3.mono (by simp))) H2.out.lt)
      have G3 := hide ((G2.out.alloc G2.out.size _).trans (h3.mono (by have := G2.out.size; simp; omega)))
      clear h3 I1
      go_wp2_with fail
      have I2 := ints_lit (w := w3) (cs := [4, 1, 2, 3]) (t := 3) (w3.heap.size + 1) _ rfl (by omega)
      refine (mid_any (by simpa using I2) (by decide)).mono ?_
      rintro e w4 ⟨rfl, h4⟩
      rw [M2.out]
      have H4 := hide (H3.out.below (((Below.refl _ _).alloc (Nat.le_refl _) _).trans (h4.mono (by simp))) H3.out.lt)
      have G4 := hide ((G3.out.alloc G3.out.size _).trans (h4.mono (by have := G3.out.size; simp; omega)))
      clear h4 I2
      go_wp2_with fail
      refine (bad_any H4.out hst).mono ?_
      rintro e w5 ⟨rfl, h5⟩
      rw [V3.out]
      have G5 := hide (G4.out.trans (h5.mono G4.out.size))
      clear h5
      go_wp2
      go_ret
      exact ⟨rfl, G5.out⟩

end Go.Proofs.Ytciooimbhabccaa
