/- The law VoteTurned. -/
import Derived.Test.YtciooimbhabccaaH
import Derived.Laws.BitsAllLaws
import Derived.Laws.BitsLemmas
namespace Go.Proofs.Ytciooimbhabccaa
open Go.RowKit

theorem and_1023 (x : Int) : bits .and .i64 x 1023 = x % 1024 := by
  show IntKind.i64.wrap ((BitVec.ofInt 64 x &&& BitVec.ofInt 64 1023).toNat : Int) = _
  have e1 : (BitVec.ofInt 64 1023).toNat = 2 ^ 10 - 1 := by decide
  have e2 : (BitVec.ofInt 64 x).toNat = (x % 18446744073709551616).toNat := by simp [BitVec.toNat_ofInt]
  rw [BitVec.toNat_and, e1, Nat.and_two_pow_sub_one_eq_mod, e2, IntKind.wrap_i64]
  omega

def trS (L : Nat → Int) (j : Nat) : VS := ⟨fun k => if k < j then L k else 0, fun k => if k < j then 1 else -1, fun _ => false, fun _ => 0, 9223372036854775807, 0, 1, 0⟩
theorem tr_new (L : Nat → Int) : newS 9223372036854775807 0 1 = trS L 0 := by simp [newS, trS]
theorem upd_lt (f : Nat → Int) (c : Int) (j : Nat) : upd (fun k => if k < j then f k else c) j (f j) = fun k => if k < j + 1 then f k else c := by
  funext k
  unfold upd
  by_cases h : k = j
  · subst h; simp
  · simp only [if_neg h]
    by_cases h2 : k < j
    · rw [if_pos h2, if_pos (by omega)]
    · rw [if_neg h2, if_neg (by omega)]
theorem tr_put (L : Nat → Int) (j : Nat) (hj : j < 3) : putE (trS L j) j 1 = 0 ∧ putS (trS L j) j (L j) 1 = trS L (j + 1) := by
  have e : putE (trS L j) j 1 = 0 := by
    unfold putE
    rw [if_neg (by omega), if_neg]
    simp [trS]
  refine ⟨e, ?_⟩
  unfold putS
  rw [if_pos e, Int.toNat_natCast]
  unfold trS
  simp only [upd_lt L 0 j, upd_lt (fun _ => 1) (-1) j]
theorem tr_cnt (L : Nat → Int) : cnt (trS L 3) 1 3 = [0, 1, 2] := by simp [cnt, List.range_succ, freshB, trS]
theorem tr_vote (L : Nat → Int) : voteX (trS L 3) 1 = midL [L 0, L 1, L 2] ∧ (cnt (trS L 3) 1 3).length = 3 := by
  refine ⟨?_, by rw [tr_cnt]; rfl⟩
  unfold voteX
  rw [tr_cnt, if_neg (by simp)]
  rfl
theorem tr_ok (L : Nat → Int) (j : Nat) (h : ∀ k, -9223372036854775808 ≤ L k ∧ L k ≤ 9223372036854775807) : (trS L j).ok 1000 :=
  { tol0 := by simp [trS], tol1 := by simp [trS], stale0 := by simp [trS], stale1 := by simp [trS], strikes1 := by simp [trS], strikes2 := by simp [trS]
    x0 := fun k => by have := h k; simp only [trS]; split <;> omega
    x1 := fun k => by have := h k; simp only [trS]; split <;> omega
    t0 := fun k => by simp only [trS]; split <;> omega
    t1 := fun k => by simp only [trS]; split <;> omega
    s0 := fun k => by simp [trS], s1 := fun k => by simp [trS], sB := by decide, l0 := by simp [trS], l1 := by simp [trS] }

def lst (x y z : Int) (k : Nat) : Int := if k = 0 then x else if k = 1 then y else z
theorem lst_cell (x y z : Int) (k : Nat) (hk : k < 3) : (#[Value.int .i64 x, .int .i64 y, .int .i64 z] : Array Value)[k]? = some (.int .i64 (lst x y z k)) := by
  obtain rfl | rfl | rfl : k = 0 ∨ k = 1 ∨ k = 2 := by omega
  all_goals rfl
theorem tr_turned (x y z : Int) (r : Nat) : midL [lst x y z ((0 + r) % 3), lst x y z ((1 + r) % 3), lst x y z ((2 + r) % 3)] = midL [x, y, z] := by
  have h : r % 3 = 0 ∨ r % 3 = 1 ∨ r % 3 = 2 := by omega
  rcases h with h | h | h
  · rw [show (0 + r) % 3 = 0 by omega, show (1 + r) % 3 = 1 by omega, show (2 + r) % 3 = 2 by omega]; rfl
  · rw [show (0 + r) % 3 = 1 by omega, show (1 + r) % 3 = 2 by omega, show (2 + r) % 3 = 0 by omega]
    exact midL_perm (List.perm_append_comm (l₁ := [y, z]) (l₂ := [x]))
  · rw [show (0 + r) % 3 = 2 by omega, show (1 + r) % 3 = 0 by omega, show (2 + r) % 3 = 1 by omega]
    exact midL_perm (List.perm_append_comm (l₁ := [z]) (l₂ := [x, y]))
theorem tr_turned2 (x y z : Int) : midL [z, x, y] = midL [x, y, z] := midL_perm (List.perm_append_comm (l₁ := [z]) (l₂ := [x, y]))

set_option maxRecDepth 100000 in
set_option maxHeartbeats 2000000 in
theorem law_turned (x y z turn : Int) (w : World) (hx : (Lit.int .i64 x).wf = true) (hy : (Lit.int .i64 y).wf = true) (hz : (Lit.int .i64 z).wf = true) : Calls Try.prog 5 #[.int .i64 x, .int .i64 y, .int .i64 z, .int .i64 turn] w fun e w' => e = .returned (.bool true) ∧ Below w.heap.size w w' := by
  have hx := wf_bd hx
  have hy := wf_bd hy
  have hz := wf_bd hz
  have hL : ∀ k, -9223372036854775808 ≤ lst x y z k ∧ lst x y z k ≤ 9223372036854775807 := fun k => by
    unfold lst
    split
    · exact hx
    · split
      · exact hy
      · exact hz
  obtain ⟨r, hr⟩ : ∃ r : Nat, (r : Int) = turn % 1024 := ⟨(turn % 1024).toNat, by omega⟩
  have hr2 : r < 1024 := by omega
  have h1023 : bits .and .i64 turn 1023 = (r : Int) := by rw [and_1023, hr]
  have HL := hide hL
  have hnew : newB 9223372036854775807 0 1 = true := rfl
  have ha := tr_vote (lst x y z)
  have hb := tr_vote (fun k => lst x y z ((k + r) % 3))
  have e1 := tr_turned x y z r
  have e2 := tr_turned2 x y z
  have e3 : midL [lst x y z 0, lst x y z 1, lst x y z 2] = midL [x, y, z] := rfl
  rw [e3] at ha
  rw [e1] at hb
  obtain ⟨M, hM⟩ : ∃ M, midL [x, y, z] = M := ⟨_, rfl⟩
  rw [hM] at ha hb e2
  have Ha := hide ha
  have Hb := hide hb
  have E2 := hide e2
  have EM := hide hM
  clear hL hr ha hb e1 e2 e3 hM hx hy hz
  go_enter Try.func5, Try.ntmps5
  go_wp2_with fail
  refine (new_yes 9223372036854775807 0 1 w hnew).mono ?_
  rintro e w1 ⟨rfl, h1, b1, z1⟩
  rw [tr_new (lst x y z)] at h1
  have H1 := hide h1
  have B1 := hide b1
  clear h1 b1
  go_wp2_with fail
  refine (new_yes 9223372036854775807 0 1 w1 hnew).mono ?_
  rintro e w2 ⟨rfl, h2, b2, z2⟩
  rw [tr_new (fun k => lst x y z ((k + r) % 3))] at h2
  have H2 := hide h2
  have H1' := hide (H1.out.below b2 z1)
  have B2 := hide (B1.out.trans (b2.mono B1.out.size))
  obtain ⟨bp, hbp⟩ : ∃ bp, w.heap.size = bp := ⟨_, rfl⟩
  obtain ⟨bq, hbq⟩ : ∃ bq, w1.heap.size = bq := ⟨_, rfl⟩
  rw [hbq] at H2 z2 z1 ⊢
  rw [hbp] at H1' z1 ⊢
  clear h2 b2 H1 B1
  go_wp2_with fail
  have Hl0 := Blk.new w2 35 #[.int .i64 x, .int .i64 y, .int .i64 z]
  have H3 := hide (H1'.out.alloc (.cells #[.int .i64 x, .int .i64 y, .int .i64 z] 35))
  have H4 := hide (H2.out.alloc (.cells #[.int .i64 x, .int .i64 y, .int .i64 z] 35))
  have B3 := hide (B2.out.alloc B2.out.size (.cells #[.int .i64 x, .int .i64 y, .int .i64 z] 35))
  have Hl := hide Hl0
  have hz2 := z2
  have hs2 : w2.heap.size < (w2.alloc (.cells #[.int .i64 x, .int .i64 y, .int .i64 z] 35)).heap.size := by simp
  clear Hl0 H1' H2 B2
  obtain ⟨w3, hw3⟩ : ∃ w3, w2.alloc (.cells #[.int .i64 x, .int .i64 y, .int .i64 z] 35) = w3 := ⟨_, rfl⟩
  obtain ⟨gl, hgl⟩ : ∃ gl, w2.heap.size = gl := ⟨_, rfl⟩
  rw [hw3] at H3 H4 B3 Hl hs2 ⊢
  rw [hgl] at Hl hz2 hs2 ⊢
  clear hw3 z2
  go_loopw [14] (fun i wr => ∃ j : Nat, j ≤ 3 ∧ i = .int .i64 j ∧ Blk wr bp 68 (trS (lst x y z) j).cells ∧ Blk wr bq 68 (trS (fun k => lst x y z ((k + r) % 3)) j).cells ∧ Blk wr gl 35 #[.int .i64 x, .int .i64 y, .int .i64 z] ∧ Below w.heap.size w wr) (fun i _ => 3 - (intOf i).toNat)
  case atStart => exact ⟨0, by omega, rfl, H3.out, H4.out, Hl.out, B3.out⟩
  case round =>
    obtain ⟨j, hj, rfl, hA, hB, hG, hb⟩ := hrel
    have HA := hide hA
    have HB := hide hB
    have HG := hide hG
    have Hb' := hide hb
    by_cases hlt : j < 3
    · have hm : (j + r) % 3 < 3 := Nat.mod_lt _ (by decide)
      have l1 := hG.cell j
      rw [lst_cell x y z j hlt] at l1
      have hrem : ((j : Int) + (r : Int)).tmod 3 = (((j + r) % 3 : Nat) : Int) := by
        rw [Int.tmod_eq_emod_of_nonneg (by omega)]; omega
      have p1 := tr_put (lst x y z) j hlt
      have p2 := tr_put (fun k => lst x y z ((k + r) % 3)) j hlt
      have hji : ((j : Nat) : Int) = 0 ∨ ((j : Nat) : Int) = 1 ∨ ((j : Nat) : Int) = 2 := by omega
      have P1 := hide p1
      have P2 := hide p2
      have Hji := hide hji
      obtain ⟨m, hmm⟩ : ∃ m, (j + r) % 3 = m := ⟨_, rfl⟩
      rw [hmm] at hm hrem
      have Hmm := hide hmm
      clear p1 p2 hji hA hB hG hb hmm
      go_wp2_with fail
      refine (put_in HA.out (by show (1 : Int) ≤ 1; omega) j (lst x y z j) 1 Hji.out).mono ?_
      rw [P1.out.1, P1.out.2]
      rintro e w4 ⟨rfl, h4, g4⟩
      have H4a := hide h4
      have H4b := hide (HB.out.grown g4 (fun e => by injection e; omega))
      have h4c := HG.out.grown g4 (fun e => by injection e; omega)
      have B4 := hide (Hb'.out.grown g4 Hb'.out.size (fun k e => by injection e; omega))
      have l2 := h4c.cell m
      rw [lst_cell x y z m hm] at l2
      have H4c := hide h4c
      clear h4 g4 h4c l1
      go_wp2_with fail
      have q2 := put_in H4b.out (by show (1 : Int) ≤ 1; omega) j (lst x y z m) 1 Hji.out
      have P2' : putE (trS (fun k => lst x y z ((k + r) % 3)) j) j 1 = 0 ∧ putS (trS (fun k => lst x y z ((k + r) % 3)) j) j (lst x y z m) 1 = trS (fun k => lst x y z ((k + r) % 3)) (j + 1) := by
        rw [← Hmm.out]; exact P2.out
      rw [P2'.1, P2'.2] at q2
      refine q2.mono ?_
      rintro e w5 ⟨rfl, h5, g5⟩
      have H5b := hide h5
      have H5a := hide (H4a.out.grown g5 (fun e => by injection e; omega))
      have H5c := hide (H4c.out.grown g5 (fun e => by injection e; omega))
      have B5 := hide (B4.out.grown g5 B4.out.size (fun k e => by injection e; omega))
      clear h5 g5 q2 P2' l2
      go_wp2_with fail
      go_roundw
      case rel => exact ⟨j + 1, by omega, by go_num, H5a.out, H5b.out, H5c.out, B5.out⟩
      case measure => simp [intOf]; omega
    · obtain rfl : j = 3 := by omega
      have K1 := hide (tr_ok (lst x y z) 3 HL.out)
      have K2 := hide (tr_ok (fun k => lst x y z ((k + r) % 3)) 3 (fun k => HL.out _))
      clear hA hB hG hb
      go_wp2_with fail
      refine (vote_any HA.out K1.out (by decide) 1 (by decide)).mono ?_
      rw [Ha.out.1, Ha.out.2]
      rintro e w4 ⟨rfl, h4, g4⟩
      have H4b := hide (HB.out.grown g4 (fun e => by injection e; omega))
      have B4 := hide (Hb'.out.grown g4 Hb'.out.size (fun k e => by injection e; omega))
      clear h4 g4
      go_wp2_with fail
      refine (vote_any H4b.out K2.out (by decide) 1 (by decide)).mono ?_
      rw [Hb.out.1, Hb.out.2]
      rintro e w5 ⟨rfl, h5, g5⟩
      have B5 := hide (B4.out.grown g5 B4.out.size (fun k e => by injection e; omega))
      clear h5 g5
      go_wp2_with fail
      refine (alive_any _).mono ?_
      rintro e w6 ⟨rfl, h6⟩
      have B6 := hide (B5.out.trans (h6.mono B5.out.size))
      clear h6
      go_wp2_with fail
      have I1 := ints_lit (w := w6) (cs := [x, y, z]) (t := 3) (w6.heap.size + 1) _ rfl (by omega)
      refine (mid_any (by simpa using I1) (by simp)).mono ?_
      rw [EM.out]
      rintro e w7 ⟨rfl, h7⟩
      have B7 := hide ((B6.out.alloc B6.out.size _).trans (h7.mono (by have := B6.out.size; simp; omega)))
      clear h7 I1
      go_wp2_with fail
      have I2 := ints_lit (w := w7) (cs := [z, x, y]) (t := 3) (w7.heap.size + 1) _ rfl (by omega)
      refine (mid_any (by simpa using I2) (by simp)).mono ?_
      rw [E2.out]
      rintro e w8 ⟨rfl, h8⟩
      have B8 := hide ((B7.out.alloc B7.out.size _).trans (h8.mono (by have := B7.out.size; simp; omega)))
      clear h8 I2
      go_wp2
      go_ret
      exact ⟨rfl, B8.out⟩

end Go.Proofs.Ytciooimbhabccaa
