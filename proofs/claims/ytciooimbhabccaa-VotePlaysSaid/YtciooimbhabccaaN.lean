/- The law VoteResets. -/
import Derived.Test.YtciooimbhabccaaM
namespace Go.Proofs.Ytciooimbhabccaa
open Go.RowKit

theorem reset_ok {B : Int} {S : VS} (h : S.ok B) (i : Int) : (reset1 S i).ok B := by
  unfold reset1
  split
  · have hB := h.sB
    exact { h with
      s0 := fun k => by
        show 0 ≤ upd S.s i.toNat 0 k
        unfold upd; split
        · omega
        · exact h.s0 k
      s1 := fun k => by
        show upd S.s i.toNat 0 k ≤ B
        unfold upd; split
        · omega
        · exact h.s1 k }
  · exact h

set_option maxRecDepth 100000 in
set_option maxHeartbeats 4000000 in
theorem law_resets (x off q i : Int) (w : World) : Calls Try.prog 9 #[.int .i64 x, .int .i64 off, .int .i64 q, .int .i64 i] w fun e w' => e = .returned (.bool true) ∧ Below w.heap.size w w' := by
  by_cases h0 : off < 2
  · go_enter Try.func9, Try.ntmps9
    go_wp2_with (go_at_call 10; refine (alive_any _).mono ?_; rintro e w' ⟨rfl, hb⟩)
    go_ret
    exact ⟨rfl, hb⟩
  have g0 : 2 ≤ off := by omega
  clear h0
  by_cases h1 : 1099511627776 < off
  · go_enter Try.func9, Try.ntmps9
    go_wp2_with (go_at_call 10; refine (alive_any _).mono ?_; rintro e w' ⟨rfl, hb⟩)
    go_ret
    exact ⟨rfl, hb⟩
  have g1 : off ≤ 1099511627776 := by omega
  clear h1
  by_cases h2 : 1099511627776 < x
  · go_enter Try.func9, Try.ntmps9
    go_wp2_with (go_at_call 10; refine (alive_any _).mono ?_; rintro e w' ⟨rfl, hb⟩)
    go_ret
    exact ⟨rfl, hb⟩
  have g2 : x ≤ 1099511627776 := by omega
  clear h2
  by_cases h3 : x < -1099511627776
  · go_enter Try.func9, Try.ntmps9
    go_wp2_with (go_at_call 10; refine (alive_any _).mono ?_; rintro e w' ⟨rfl, hb⟩)
    go_ret
    exact ⟨rfl, hb⟩
  have g3 : -1099511627776 ≤ x := by omega
  clear h3
  by_cases h4 : q < 1
  · go_enter Try.func9, Try.ntmps9
    go_wp2_with (go_at_call 10; refine (alive_any _).mono ?_; rintro e w' ⟨rfl, hb⟩)
    go_ret
    exact ⟨rfl, hb⟩
  have g4 : 1 ≤ q := by omega
  clear h4
  by_cases h5 : 100 < q
  · go_enter Try.func9, Try.ntmps9
    go_wp2_with (go_at_call 10; refine (alive_any _).mono ?_; rintro e w' ⟨rfl, hb⟩)
    go_ret
    exact ⟨rfl, hb⟩
  have g5 : q ≤ 100 := by omega
  clear h5
  by_cases h6 : i < 0
  · go_enter Try.func9, Try.ntmps9
    go_wp2_with (go_at_call 10; refine (alive_any _).mono ?_; rintro e w' ⟨rfl, hb⟩)
    go_ret
    exact ⟨rfl, hb⟩
  have g6 : 0 ≤ i := by omega
  clear h6
  by_cases h7 : 2 < i
  · go_enter Try.func9, Try.ntmps9
    go_wp2_with (go_at_call 10; refine (alive_any _).mono ?_; rintro e w' ⟨rfl, hb⟩)
    go_ret
    exact ⟨rfl, hb⟩
  have g7 : i ≤ 2 := by omega
  clear h7
  obtain ⟨m, rfl⟩ : ∃ m : Nat, i = m := ⟨i.toNat, by omega⟩
  obtain ⟨n, rfl⟩ : ∃ n : Nat, q = n := ⟨q.toNat, by omega⟩
  have hm : m < 3 := by omega
  have hn : 0 < n := by omega
  have hN := hide (show newB 1 0 n = true by simp [newB]; omega)
  have rok := fun (t j : Nat) (ht : (t : Int) ≤ n) => rp_ok m x off n t j ⟨g3, g2⟩ ⟨g0, g1⟩ ⟨g4, g5⟩ ht
  have ROK := hide rok
  have G0 := hide g0
  clear rok
  go_enter Try.func9, Try.ntmps9
  go_wp2_with fail
  refine (new_yes 1 0 n w hN.out).mono ?_
  rintro e w1 ⟨rfl, h1, b1, z1⟩
  rw [rs_new m x off n] at h1
  have H1 := hide h1
  have B1 := hide b1
  obtain ⟨bp, hbp⟩ : ∃ bp, w.heap.size = bp := ⟨_, rfl⟩
  rw [hbp] at H1 z1 ⊢
  clear h1 b1
  go_wp2_with fail
  go_loopw [11] (fun t wr => ∃ j : Nat, j ≤ n ∧ t = .int .i64 j ∧ Blk wr bp 68 (rsS m x off n j).cells ∧ Below w.heap.size w wr) (fun t _ => n - (intOf t).toNat)
  case atStart => exact ⟨0, Nat.zero_le _, rfl, H1.out, B1.out⟩
  case round =>
    obtain ⟨j, hj, rfl, hB, hb⟩ := hrel
    by_cases hlt : j < n
    · have H2 := hide hB
      have B2 := hide hb
      have hbad := rs_bad m x off n j (by omega)
      have HBad := hide hbad
      clear hB hb hbad
      go_wp2_with fail
      refine (bad_any H2.out (by show (1 : Int) ≤ n; omega)).mono ?_
      rw [HBad.out]
      rintro e w3 ⟨rfl, b3⟩
      have H3 := hide (H2.out.below b3 H2.out.lt)
      have B3 := hide (B2.out.trans (b3.mono B2.out.size))
      clear b3
      obtain ⟨wk, hwk⟩ : ∃ wk, wk = wr := ⟨_, rfl⟩
      subst hwk
      go_wp2_with fail
      go_loopw [12] (fun t wr => ∃ k : Nat, k ≤ 3 ∧ t = .int .i64 k ∧ Blk wr bp 68 (rpS m x off n j k).cells ∧ Below w.heap.size w wr) (fun t _ => 3 - (intOf t).toNat)
      case atStart => exact ⟨0, Nat.zero_le _, rfl, by rw [rp_zero]; exact H3.out, B3.out⟩
      case round =>
        obtain ⟨k, hk, rfl, hB, hb⟩ := hrel
        by_cases hk3 : k < 3
        · have H4 := hide hB
          have B4 := hide hb
          have P := hide (rp_put m x off n j k hk3)
          have Hki := hide (show ((k : Nat) : Int) = 0 ∨ ((k : Nat) : Int) = 1 ∨ ((k : Nat) : Int) = 2 by omega)
          clear hB hb
          by_cases hkm : k = m
          · have e1 := hide (show vq m x off k = x + off by rw [vq, if_pos hkm])
            have q1 : (((k : Nat) : Int) == ((m : Nat) : Int)) = true := by simp [hkm]
            clear hkm
            go_wp2_with fail
            have hp := put_in H4.out (by show (1 : Int) ≤ n; omega) k (vq m x off k) j Hki.out
            rw [P.out.1, P.out.2, e1.out] at hp
            refine hp.mono ?_
            rintro e w5 ⟨rfl, h5, g5'⟩
            have H5 := hide h5
            have B5 := hide (B4.out.grown g5' B4.out.size (fun k e => by injection e; omega))
            clear hp h5 g5'
            go_wp2_with fail
            go_roundw
            case rel => exact ⟨k + 1, by omega, by go_num, H5.out, B5.out⟩
            case measure => simp [intOf]; omega
          · have e1 := hide (show vq m x off k = x by rw [vq, if_neg hkm])
            have q1 : (((k : Nat) : Int) == ((m : Nat) : Int)) = false := by rw [beq_eq_false_iff_ne]; omega
            clear hkm
            go_wp2_with fail
            have hp := put_in H4.out (by show (1 : Int) ≤ n; omega) k (vq m x off k) j Hki.out
            rw [P.out.1, P.out.2, e1.out] at hp
            refine hp.mono ?_
            rintro e w5 ⟨rfl, h5, g5'⟩
            have H5 := hide h5
            have B5 := hide (B4.out.grown g5' B4.out.size (fun k e => by injection e; omega))
            clear hp h5 g5'
            go_wp2_with fail
            go_roundw
            case rel => exact ⟨k + 1, by omega, by go_num, H5.out, B5.out⟩
            case measure => simp [intOf]; omega
        · obtain rfl : k = 3 := by omega
          have H4 := hide hB
          have B4 := hide hb
          have V := hide (rp_vote m hm x off n G0.out j (by omega))
          have C := hide (rp_cnt m x off n j (by omega))
          clear hB hb
          go_wp2_with fail
          refine (vote_any H4.out (ROK.out j 3 (by omega)) (by decide) j (by omega)).mono ?_
          rw [V.out.1, V.out.2, C.out]
          rintro e w5 ⟨rfl, h5, g5'⟩
          have H5 := hide h5
          have B5 := hide (B4.out.grown g5' B4.out.size (fun k e => by injection e; omega))
          clear h5 g5'
          simp only [List.length_cons, List.length_nil]
          go_wp2_with fail
          go_roundw
          case rel => exact ⟨j + 1, by omega, by go_num, H5.out, B5.out⟩
          case measure => simp [intOf]; omega
    · obtain rfl : j = n := by omega
      have H2 := hide hB
      have B2 := hide hb
      have ok0 := ROK.out j 0 (Int.le_refl _)
      rw [rp_zero] at ok0
      have OK := hide ok0
      have hx := rs_reset m hm x off j hn
      have X := hide hx
      have V := hide (rs_vote m hm x off j hn)
      have C := hide (rs_cnt m hm x off j hn)
      have tb : (rsS m x off j j).b m = true := by simp [rsS, hn]
      have tx : (rsS m x off j j).x m = x + off := by simp [rsS, hn, hm, vq]
      have TB := hide tb
      have TX := hide tx
      clear hB hb ok0 hx tb tx
      go_wp2_with fail
      refine (channel_any H2.out OK.out m hm (j - 1) (by omega)).mono ?_
      rw [TB.out, TX.out]
      generalize (rsS m x off j j).t m = ct
      generalize freshB (rsS m x off j j) m (j - 1) = cf
      rintro e w3 ⟨rfl, b3⟩
      have H3 := hide (H2.out.below b3 H2.out.lt)
      have B3 := hide (B2.out.trans (b3.mono B2.out.size))
      clear b3
      go_wp2_with fail
      obtain ⟨w4, hw4⟩ : ∃ w4, w3.alloc (.cells #[.int .i64 (x + off), .int .i64 ct, .bool cf, .bool true] 40) = w4 := ⟨_, rfl⟩
      obtain ⟨gc, hgc⟩ : ∃ gc, w3.heap.size = gc := ⟨_, rfl⟩
      have K0 := Blk.new w3 40 #[.int .i64 (x + off), .int .i64 ct, .bool cf, .bool true]
      have h4 := H3.out.alloc (.cells #[.int .i64 (x + off), .int .i64 ct, .bool cf, .bool true] 40)
      have b4 := B3.out.alloc B3.out.size (.cells #[.int .i64 (x + off), .int .i64 ct, .bool cf, .bool true] 40)
      have hne : gc ≠ bp := by have := H3.out.lt; omega
      rw [hw4, hgc] at K0
      rw [hw4] at h4 b4
      rw [hw4, hgc]
      have K4 := hide K0
      have H4 := hide h4
      have B4 := hide b4
      clear K0 h4 b4 hw4 hgc
      refine (vote_any H4.out OK.out (by decide) (j - 1) (by omega)).mono ?_
      rw [V.out.1, C.out, V.out.2]
      rintro e w5 ⟨rfl, h5, g5'⟩
      have H5 := hide h5
      have K5 := hide (K4.out.grown g5' (fun e => hne (by injection e)))
      have B5 := hide (B4.out.grown g5' B4.out.size (fun k e => by injection e; omega))
      clear h5 g5'
      go_wp2_with fail
      obtain ⟨w6, hw6⟩ : ∃ w6, w5.alloc (.cells #[.int .i64 m] 3) = w6 := ⟨_, rfl⟩
      obtain ⟨gl, hgl⟩ : ∃ gl, w5.heap.size = gl := ⟨_, rfl⟩
      have L0 := Blk.new w5 3 #[.int .i64 m]
      have h6 := H5.out.alloc (.cells #[.int .i64 m] 3)
      have k6 := K5.out.alloc (.cells #[.int .i64 m] 3)
      have b6 := B5.out.alloc B5.out.size (.cells #[.int .i64 m] 3)
      have hne2 : gl ≠ bp := by have := H5.out.lt; omega
      have hgl6 : gl < w6.heap.size := by rw [← hw6, ← hgl]; simp
      rw [hw6, hgl] at L0
      rw [hw6] at h6 k6 b6
      rw [hw6, hgl]
      have hr := reset_any h6 (by show (1 : Int) ≤ j; omega) [(m : Int)] (by simp) (by simp) gl 1 hne2 hgl6 (fun k hk => by
        have : k = 0 := by simpa using hk
        subst this
        exact L0.cell 0)
      have HR := hide hr
      have H6 := hide h6
      have K6 := hide k6
      have B6 := hide b6
      clear L0 h6 k6 b6 hw6 hgl hr hgl6
      refine HR.out.mono ?_
      rintro e w7 ⟨rfl, h7, g7⟩
      have H7 := hide (show Blk w7 bp 68 (reset1 (rsS m x off j j) m).cells from h7)
      have K7 := hide (K6.out.grown g7 (fun e => hne (by injection e)))
      have B7 := hide (B6.out.grown g7 B6.out.size (fun k e => by injection e; omega))
      have OK2 := hide (reset_ok OK.out m)
      clear h7 g7
      go_wp2_with fail
      refine (channel_any H7.out OK2.out m hm (j - 1) (by omega)).mono ?_
      rw [X.out.2.1, X.out.2.2]
      generalize (reset1 (rsS m x off j j) m).t m = dt
      generalize freshB (reset1 (rsS m x off j j) m) m (j - 1) = df
      rintro e w8 ⟨rfl, b8⟩
      have H8 := hide (H7.out.below b8 H7.out.lt)
      have K8 := hide (K7.out.below b8 K7.out.lt)
      have B8 := hide (B7.out.trans (b8.mono B7.out.size))
      clear b8
      go_wp2_with fail
      obtain ⟨w9, hw9⟩ : ∃ w9, w8.alloc (.cells #[.int .i64 (x + off), .int .i64 dt, .bool df, .bool false] 40) = w9 := ⟨_, rfl⟩
      obtain ⟨gd, hgd⟩ : ∃ gd, w8.heap.size = gd := ⟨_, rfl⟩
      have D0 := Blk.new w8 40 #[.int .i64 (x + off), .int .i64 dt, .bool df, .bool false]
      have h9 := H8.out.alloc (.cells #[.int .i64 (x + off), .int .i64 dt, .bool df, .bool false] 40)
      have k9 := K8.out.alloc (.cells #[.int .i64 (x + off), .int .i64 dt, .bool df, .bool false] 40)
      have b9 := B8.out.alloc B8.out.size (.cells #[.int .i64 (x + off), .int .i64 dt, .bool df, .bool false] 40)
      have hne3 : gd ≠ bp := by have := H8.out.lt; omega
      rw [hw9, hgd] at D0
      rw [hw9] at h9 k9 b9
      rw [hw9, hgd]
      have D9 := hide D0
      have H9 := hide h9
      have K9 := hide k9
      have B9 := hide b9
      clear D0 h9 k9 b9 hw9 hgd
      refine (vote_any H9.out OK2.out (by decide) (j - 1) (by omega)).mono ?_
      rw [X.out.1]
      rintro e w10 ⟨rfl, h10, g10⟩
      have K10 := hide (K9.out.grown g10 (fun e => hne (by injection e)))
      have D10 := hide (D9.out.grown g10 (fun e => hne3 (by injection e)))
      have B10 := hide (B9.out.grown g10 B9.out.size (fun k e => by injection e; omega))
      clear h10 g10
      go_wp2_with fail
      refine (alive_any _).mono ?_
      rintro e w11 ⟨rfl, b11⟩
      have k11 := K10.out.below b11 K10.out.lt
      have d11 := D10.out.below b11 D10.out.lt
      have B11 := hide (B10.out.trans (b11.mono B10.out.size))
      have c0 : w11.cell? ⟨gc, 0, none⟩ = some (.int .i64 (x + off)) := k11.cell 0
      have c3 : w11.cell? ⟨gc, 3, none⟩ = some (.bool true) := k11.cell 3
      have e0 : w11.cell? ⟨gd, 0, none⟩ = some (.int .i64 (x + off)) := d11.cell 0
      have e3 : w11.cell? ⟨gd, 3, none⟩ = some (.bool false) := d11.cell 3
      clear b11 k11 d11
      go_wp2
      go_ret
      exact ⟨rfl, B11.out⟩

end Go.Proofs.Ytciooimbhabccaa
