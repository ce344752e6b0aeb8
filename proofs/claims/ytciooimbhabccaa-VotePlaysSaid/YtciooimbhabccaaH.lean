/- The law VoteStale. -/
import Derived.Test.YtciooimbhabccaaG
namespace Go.Proofs.Ytciooimbhabccaa
open Go.RowKit

theorem wf_bd {x : Int} (h : (Lit.int .i64 x).wf = true) : -9223372036854775808 ≤ x ∧ x ≤ 9223372036854775807 := by
  simp [Lit.wf, IntKind.min, IntKind.max, IntKind.signed, IntKind.bits] at h
  exact ⟨by omega, by omega⟩

/-- channel 0 alone said something -/
theorem cnt_one {S : VS} (t1 : S.t 1 = -1) (t2 : S.t 2 = -1) (b0 : S.b 0 = false) (now : Int) : cnt S now 3 = if freshB S 0 now = true then [0] else [] := by
  have f1 : freshB S 1 now = false := by simp [freshB, t1]
  have f2 : freshB S 2 now = false := by simp [freshB, t2]
  rw [cnt_miss1 f2, cnt_miss1 f1]
  by_cases h : freshB S 0 now = true
  · rw [if_pos h, cnt_hit h b0]; rfl
  · rw [if_neg h, cnt_miss1 (by simpa using h)]; rfl

def stS (stale x now : Int) (last : Int) : VS := ⟨upd (fun _ => 0) 0 x, upd (fun _ => -1) 0 now, fun _ => false, fun _ => 0, 0, stale, 1, last⟩
theorem st_put {stale x now : Int} (hn : 0 ≤ now) : putE (newS 0 stale 1) 0 now = 0 ∧ putS (newS 0 stale 1) 0 x now = stS stale x now 0 := by
  have e : putE (newS 0 stale 1) 0 now = 0 := by
    unfold putE
    rw [if_neg (by omega), if_neg]
    show ¬ (now < 0 ∨ now ≤ -1)
    omega
  exact ⟨e, by unfold putS; rw [if_pos e]; rfl⟩
theorem st_cnt (stale x now last n : Int) : cnt (stS stale x now last) n 3 = if 0 ≤ now ∧ now ≤ n ∧ n - now ≤ stale then [0] else [] := by
  rw [cnt_one rfl rfl rfl]
  have : (freshB (stS stale x now last) 0 n = true) = (0 ≤ now ∧ now ≤ n ∧ n - now ≤ stale) := by
    show ((decide (0 ≤ now) && (decide (now ≤ n) && decide (n - now ≤ stale))) = true) = _
    simp
  simp only [this]
theorem st_hit {stale x now last n : Int} (h : 0 ≤ now ∧ now ≤ n ∧ n - now ≤ stale) : voteX (stS stale x now last) n = x ∧ (cnt (stS stale x now last) n 3).length = 1 ∧ voteS (stS stale x now last) n = stS stale x now x := by
  have e := st_cnt stale x now last n
  rw [if_pos h] at e
  have m : midL (([0] : List Nat).map (stS stale x now last).x) = x := by
    show midL [upd (fun _ => 0) 0 x 0] = x
    simp [upd, midL, isort, ins]
  refine ⟨?_, by rw [e]; rfl, ?_⟩
  · unfold voteX; rw [e, if_neg (by simp), m]
  · unfold voteS vote1; rw [e, if_neg (by simp), if_neg (by simp), m]; rfl
theorem st_miss {stale x now last n : Int} (h : ¬ (0 ≤ now ∧ now ≤ n ∧ n - now ≤ stale)) : voteX (stS stale x now last) n = last ∧ (cnt (stS stale x now last) n 3).length = 0 ∧ voteS (stS stale x now last) n = stS stale x now last := by
  have e := st_cnt stale x now last n
  rw [if_neg h] at e
  refine ⟨?_, by rw [e]; rfl, ?_⟩
  · unfold voteX; rw [e, if_pos (by simp)]; rfl
  · unfold voteS; rw [e, if_pos (by simp)]
theorem st_late {stale x now last y : Int} (hn : 0 ≤ now) : putE (stS stale x now last) 0 now = 1 ∧ putS (stS stale x now last) 0 y now = stS stale x now last ∧ putE (stS stale x now last) 0 (now + 1) = 0 := by
  have e : putE (stS stale x now last) 0 now = 1 := by
    unfold putE
    rw [if_neg (by omega), if_pos (.inr (Int.le_refl now))]
  have e2 : putE (stS stale x now last) 0 (now + 1) = 0 := by
    unfold putE
    rw [if_neg (by omega), if_neg]
    show ¬ (now + 1 < 0 ∨ now + 1 ≤ now)
    omega
  exact ⟨e, by unfold putS; rw [e]; rfl, e2⟩

theorem st_ok {stale x now last : Int} (h1 : 0 ≤ stale) (h2 : stale ≤ 1000) (hx : -9223372036854775808 ≤ x ∧ x ≤ 9223372036854775807) (hl : -9223372036854775808 ≤ last ∧ last ≤ 9223372036854775807) (hn : 0 ≤ now) (hn2 : now ≤ 9223372036854775807) : (stS stale x now last).ok 1000 := by
  have h0 : newB 0 stale 1 = true := by simp [newB]; omega
  have h := put_ok (new_ok h0 (by decide)) 0 x now hx hn2
  rw [(st_put hn).2] at h
  exact { h with l0 := hl.1, l1 := hl.2 }

set_option maxRecDepth 100000 in
set_option maxHeartbeats 2000000 in
theorem law_stale (x stale now : Int) (w : World) (hx : (Lit.int .i64 x).wf = true) : Calls Try.prog 4 #[.int .i64 x, .int .i64 stale, .int .i64 now] w fun e w' => e = .returned (.bool true) ∧ Below w.heap.size w w' := by
  have hx := wf_bd hx
  by_cases hg : 0 ≤ stale ∧ stale ≤ 1000 ∧ 0 ≤ now ∧ now ≤ 1099511627776
  · obtain ⟨s0, s1, n0, n1⟩ := hg
    have hN := hide (show newB 0 stale 1 = true by simp [newB]; omega)
    have p0 := st_put (x := x) (stale := stale) n0
    have k0 := st_ok s0 s1 hx ⟨(by decide : -9223372036854775808 ≤ (0 : Int)), by decide⟩ n0 (by omega)
    have kx := st_ok s0 s1 hx hx n0 (by omega)
    obtain ⟨u1, u2, u3⟩ := st_hit (stale := stale) (x := x) (now := now) (last := 0) (n := now + stale) ⟨n0, by omega, by omega⟩
    obtain ⟨v1, v2, v3⟩ := st_miss (stale := stale) (x := x) (now := now) (last := x) (n := now + stale + 1) (by omega)
    obtain ⟨y1, y2, y3⟩ := st_miss (stale := stale) (x := x) (now := now) (last := x) (n := now - 1) (by omega)
    obtain ⟨z1, z2, z3⟩ := st_late (stale := stale) (x := x) (now := now) (last := x) (y := x) n0
    have P0 := hide p0
    have K0 := hide k0
    have KX := hide kx
    have U := hide (And.intro u1 (And.intro u2 u3))
    have V := hide (And.intro v1 (And.intro v2 v3))
    have Y := hide (And.intro y1 (And.intro y2 y3))
    have Z := hide (And.intro z1 (And.intro z2 z3))
    clear p0 k0 kx u1 u2 u3 v1 v2 v3 y1 y2 y3 z1 z2 z3
    go_enter Try.func4, Try.ntmps4
    go_wp2_with fail
    refine (new_yes 0 stale 1 w hN.out).mono ?_
    rintro e w1 ⟨rfl, h1, b1, _⟩
    have H1 := hide h1
    have B1 := hide b1
    have hz := b1.size
    have hbp := h1.lt
    clear h1 b1
    go_wp2_with fail
    refine (put_in H1.out (by show (1 : Int) ≤ 1; omega) 0 x now (.inl rfl)).mono ?_
    rw [P0.out.1, P0.out.2]
    rintro e w2 ⟨rfl, h2, g2⟩
    have H2 := hide h2
    have B2 := hide (B1.out.grown g2 hz (fun k e => by injection e; omega))
    clear h2 g2
    go_wp2_with fail
    refine (vote_any H2.out K0.out (by decide) (now + stale) (by omega)).mono ?_
    rw [U.out.1, U.out.2.1, U.out.2.2]
    rintro e w3 ⟨rfl, h3, g3⟩
    have H3 := hide h3
    have B3 := hide (B2.out.grown g3 B2.out.size (fun k e => by injection e; omega))
    clear h3 g3
    go_wp2_with fail
    refine (vote_any H3.out KX.out (by decide) (now + stale + 1) (by omega)).mono ?_
    rw [V.out.1, V.out.2.1, V.out.2.2]
    rintro e w4 ⟨rfl, h4, g4⟩
    have H4 := hide h4
    have B4 := hide (B3.out.grown g4 B3.out.size (fun k e => by injection e; omega))
    clear h4 g4
    go_wp2_with fail
    refine (vote_any H4.out KX.out (by decide) (now - 1) (by omega)).mono ?_
    rw [Y.out.1, Y.out.2.1, Y.out.2.2]
    rintro e w5 ⟨rfl, h5, g5⟩
    have H5 := hide h5
    have B5 := hide (B4.out.grown g5 B4.out.size (fun k e => by injection e; omega))
    clear h5 g5
    go_wp2_with fail
    refine (alive_any w5).mono ?_
    rintro e w6 ⟨rfl, b6⟩
    have H6 := hide (H5.out.below b6 H5.out.lt)
    have B6 := hide (B5.out.trans (b6.mono B5.out.size))
    clear b6
    go_wp2_with fail
    refine (put_in H6.out (by show (1 : Int) ≤ 1; omega) 0 x now (.inl rfl)).mono ?_
    rw [Z.out.1, Z.out.2.1]
    rintro e w7 ⟨rfl, h7, g7⟩
    have H7 := hide h7
    have B7 := hide (B6.out.grown g7 B6.out.size (fun k e => by injection e; omega))
    clear h7 g7
    go_wp2_with fail
    refine (put_in H7.out (by show (1 : Int) ≤ 1; omega) 0 x (now + 1) (.inl rfl)).mono ?_
    rw [Z.out.2.2]
    rintro e w8 ⟨rfl, h8, g8⟩
    have B8 := hide (B7.out.grown g8 B7.out.size (fun k e => by injection e; omega))
    clear h8 g8
    go_wp2
    go_ret
    exact ⟨rfl, B8.out⟩
  · have hd : stale < 0 ∨ 1000 < stale ∨ now < 0 ∨ 1099511627776 < now := by omega
    clear hg
    rcases hd with hd | hd | hd | hd
    all_goals
      go_enter Try.func4, Try.ntmps4
      go_wp2_with (go_at_call 10; refine (alive_any _).mono ?_; rintro e w' ⟨rfl, hb⟩)
      all_goals
        go_ret
        exact ⟨rfl, hb⟩

end Go.Proofs.Ytciooimbhabccaa
