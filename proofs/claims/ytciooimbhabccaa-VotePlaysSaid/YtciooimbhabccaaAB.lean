/- The walk of VoteHealthy. -/
import Derived.Test.YtciooimbhabccaaAA
import Derived.Test.YtciooimbhabccaaY
import Derived.Test.YtciooimbhabccaaT
namespace Go.Proofs.Ytciooimbhabccaa
open Go.RowKit

/-- a slice of pairs of ints that came in -/
def IsPairs (w : World) (G : Option Addr) (gl : Nat) (g0 g1 : Nat → Int) : Prop :=
  0 < gl → ∃ gb go, G = some ⟨gb, go, none⟩ ∧ gb < w.heap.size ∧ ∀ j, j < gl → w.cell? ⟨gb, go + j * 2, none⟩ = some (.int .i64 (g0 j)) ∧ w.cell? ⟨gb, go + j * 2 + 1, none⟩ = some (.int .i64 (g1 j))

theorem keep2 {W w' : World} {b i k : Nat} {u v : Value} (hb : b < W.heap.size) (h0 : W.cell? ⟨b, i, none⟩ = some u) (h1 : W.cell? ⟨b, k, none⟩ = some v) (h : Below W.heap.size W w') : Below W.heap.size W w' ∧ w'.cell? ⟨b, i, none⟩ = some u ∧ w'.cell? ⟨b, k, none⟩ = some v :=
  ⟨h, (h.cell (p := ⟨b, i, none⟩) hb).trans h0, (h.cell (p := ⟨b, k, none⟩) hb).trans h1⟩
theorem trB2 {wr A B : World} {p : Prop} (h : Below wr.heap.size wr A ∧ p) (k : Below A.heap.size A B) : Below wr.heap.size wr B := h.1.trans (k.mono h.1.size)

set_option maxRecDepth 100000 in
set_option maxHeartbeats 4000000 in
theorem law_healthy (tol q i : Int) (G : Option Addr) (gl gc : Nat) (A : Option Addr) (len cap : Nat) (w : World) (g0 g1 : Nat → Int) (zs : List Int) (hG : IsPairs w G gl g0 g1) (hgc : gl ≤ gc)
    (hb0 : ∀ j, -9223372036854775808 ≤ g0 j ∧ g0 j ≤ 9223372036854775807) (hb1 : ∀ j, -9223372036854775808 ≤ g1 j ∧ g1 j ≤ 9223372036854775807) (hr : IsRow .i64 w A len cap zs) (htol : tol ≤ 9223372036854775807) (hgm : gl ≤ 9223372036854775807) (hlm : len ≤ 9223372036854775807) :
    Calls Try.prog 6 #[.int .i64 tol, .int .i64 q, .int .i64 i, .slice G gl gc, .slice A len cap] w fun e w' => e = .returned (.bool true) ∧ Below w.heap.size w w' := by
  by_cases a0 : tol < 0
  · clear hG hr hb0 hb1
    go_enter Try.func6, Try.ntmps6
    go_wp2_with (go_at_call 10; refine (alive_any _).mono ?_; rintro e w' ⟨rfl, hb⟩)
    go_ret
    exact ⟨rfl, hb⟩
  have c0 : 0 ≤ tol := by omega
  clear a0
  by_cases a1 : q < 1
  · clear hG hr hb0 hb1
    go_enter Try.func6, Try.ntmps6
    go_wp2_with (go_at_call 10; refine (alive_any _).mono ?_; rintro e w' ⟨rfl, hb⟩)
    go_ret
    exact ⟨rfl, hb⟩
  have c1 : 1 ≤ q := by omega
  clear a1
  by_cases a2 : 100 < q
  · clear hG hr hb0 hb1
    go_enter Try.func6, Try.ntmps6
    go_wp2_with (go_at_call 10; refine (alive_any _).mono ?_; rintro e w' ⟨rfl, hb⟩)
    go_ret
    exact ⟨rfl, hb⟩
  have c2 : q ≤ 100 := by omega
  clear a2
  by_cases a3 : 60 < gl
  · have dd : decide ((60 : Int) < gl) = true := by simp; omega
    clear hG hr hb0 hb1
    go_enter Try.func6, Try.ntmps6
    go_wp2_with (go_at_call 10; refine (alive_any _).mono ?_; rintro e w' ⟨rfl, hb⟩)
    go_ret
    exact ⟨rfl, hb⟩
  have c3 : gl ≤ 60 := by omega
  clear a3
  by_cases a4 : len = 0
  · have dd : ((len : Int) == 0) = true := by subst a4; rfl
    clear hG hr hb0 hb1
    go_enter Try.func6, Try.ntmps6
    go_wp2_with (go_at_call 10; refine (alive_any _).mono ?_; rintro e w' ⟨rfl, hb⟩)
    go_ret
    exact ⟨rfl, hb⟩
  have c4 : 0 < len := by omega
  clear a4
  by_cases a5 : i < 0
  · clear hG hr hb0 hb1
    go_enter Try.func6, Try.ntmps6
    go_wp2_with (go_at_call 10; refine (alive_any _).mono ?_; rintro e w' ⟨rfl, hb⟩)
    go_ret
    exact ⟨rfl, hb⟩
  have c5 : 0 ≤ i := by omega
  clear a5
  by_cases a6 : 2 < i
  · clear hG hr hb0 hb1
    go_enter Try.func6, Try.ntmps6
    go_wp2_with (go_at_call 10; refine (alive_any _).mono ?_; rintro e w' ⟨rfl, hb⟩)
    go_ret
    exact ⟨rfl, hb⟩
  have c6 : i ≤ 2 := by omega
  clear a6
  have d3 : decide ((60 : Int) < gl) = false := by simp; omega
  have d4 : ((len : Int) == 0) = false := by rw [beq_eq_false_iff_ne]; omega
  obtain ⟨bd, rfl, hlc, hcm, hzl, hbd, hbs⟩ : ∃ x, A = some x ∧ len ≤ cap ∧ cap ≤ maxLen ∧ zs.length = cap ∧ (∀ i, i < zs.length → w.cell? (x.add i) = some (.int .i64 (zs.getD i 0))) ∧ ∀ n ∈ zs, (Lit.int .i64 n).wf = true := by
    rcases hr with ⟨_, h0, _⟩ | h
    · omega
    · exact h
  obtain ⟨ill, rfl⟩ : ∃ ill : Nat, i = ill := ⟨i.toNat, by omega⟩
  have hill : ill < 3 := by omega
  have dg0 : decide (tol < 0) = false := by simp; omega
  have dg1 : decide (q < 1) = false := by simp; omega
  have dg2 : decide (100 < q) = false := by simp; omega
  have dg3 : decide ((ill : Int) < 0) = false := by simp
  have dg4 : decide (2 < (ill : Int)) = false := by simp; omega
  have hN : newB tol 0 q = true := by simp [newB]; omega
  have HN := hide hN
  have HG := hide hG
  have Hb0 := hide hb0
  have Hb1 := hide hb1
  have Hbd := hide (fun k (hk : k < len) => hbd k (by omega))
  have Hbs := hide (fun k (hk : k < len) => show -9223372036854775808 ≤ zs.getD k 0 ∧ zs.getD k 0 ≤ 9223372036854775807 from wf_bd (hbs _ (by rw [List.getD_eq_getElem?_getD, List.getElem?_eq_getElem (by omega)]; exact List.getElem_mem _)))
  have hbb : bd.block < w.heap.size := by
    have := World.block_lt_of_cell? w _ (hbd 0 (by omega))
    rwa [add_block] at this
  clear hG hb0 hb1 hr hbd hbs hN hzl hcm
  go_enter Try.func6, Try.ntmps6
  go_wp2_with fail
  refine (new_yes tol 0 q w HN.out).mono ?_
  rintro e w1 ⟨rfl, h1, b1, z1⟩
  have H1 := hide h1
  have B1 := hide b1
  obtain ⟨bp, hbp⟩ : ∃ bp, w.heap.size = bp := ⟨_, rfl⟩
  simp only [hbp] at H1 z1 hbb ⊢
  have hbp1 : w.heap.size ≤ bp := by omega
  have hbp2 : bp ≤ w.heap.size := by omega
  clear h1 b1 hbp
  go_wp2_with fail
  go_loopw [13] (fun t wr => ∃ j : Nat, j ≤ gl ∧ t = .int .i64 j ∧ ∃ S, Hl ill tol q j S ∧ Blk wr bp 68 S.cells ∧ Below w.heap.size w wr) (fun t _ => gl - (intOf t).toNat)
  case atStart => exact ⟨0, Nat.zero_le _, rfl, _, hl_new ill tol q HN.out htol, H1.out, B1.out⟩
  case round =>
    obtain ⟨j, hj, rfl, S, hS, hB, hb⟩ := hrel
    by_cases hlt : j < gl
    · obtain ⟨gb, go, rfl, hadb, hadc⟩ := HG.out (by omega)
      have hc0 := (hb.cell (p := ⟨gb, go + j * 2, none⟩) hadb).trans (hadc j hlt).1
      have hc1 := (hb.cell (p := ⟨gb, go + j * 2 + 1, none⟩) hadb).trans (hadc j hlt).2
      have hjl : j % len < len := Nat.mod_lt _ c4
      have hcb := (hb.cell (p := bd.add (j % len)) (by rw [add_block]; omega)).trans (Hbd.out (j % len) hjl)
      have hmod : (j : Int).tmod (len : Int) = ((j % len : Nat) : Int) := by rw [Int.tmod_eq_emod_of_nonneg (by omega)]; rfl
      obtain ⟨G0, hG0⟩ : ∃ x, g0 j = x := ⟨_, rfl⟩
      obtain ⟨G1, hG1⟩ : ∃ x, g1 j = x := ⟨_, rfl⟩
      obtain ⟨b, hbv⟩ : ∃ x, zs.getD (j % len) 0 = x := ⟨_, rfl⟩
      have kb0 := Hb0.out j
      have kb1 := Hb1.out j
      have kbb := Hbs.out _ hjl
      rw [hG0] at hc0 kb0
      rw [hG1] at hc1 kb1
      rw [hbv] at hcb kbb
      have hX : ∀ k, -9223372036854775808 ≤ hx ill b G0 G1 k ∧ hx ill b G0 G1 k ≤ 9223372036854775807 := fun k => by
        unfold hx; split
        · exact kbb
        · split
          · exact kb0
          · exact kb1
      have HX := hide hX
      have HS := hide hS
      have H2 := hide hB
      have B2 := hide hb
      clear hG0 hG1 hbv hX hS hB hb hadc
      obtain ⟨wk, hwk⟩ : ∃ wk, wk = wr := ⟨_, rfl⟩
      subst hwk
      go_wp2_with fail
      go_loopw [14, 15] (fun a i wr => ∃ k : Nat, k ≤ 3 ∧ i = .int .i64 k ∧ a = .int .i64 ((if k ≤ ill then k else k - 1 : Nat) : Int) ∧ Blk wr bp 68 (hp S (hx ill b G0 G1) j k).cells ∧ Below w.heap.size w wr ∧ Below bp wk wr) (fun _ i _ => 3 - (intOf i).toNat)
      case atStart => exact ⟨0, Nat.zero_le _, rfl, rfl, by rw [hp_zero]; exact H2.out, B2.out, Below.refl _ _⟩
      case round =>
        obtain ⟨k, hk, rfl, rfl, hB, hb, hbk⟩ := hrel
        by_cases hk3 : k < 3
        · have h0 := (hbk.cell (p := ⟨gb, go + j * 2, none⟩) (show gb < bp by omega)).trans hc0
          have h1 := (hbk.cell (p := ⟨gb, go + j * 2 + 1, none⟩) (show gb < bp by omega)).trans hc1
          have h2 := (hbk.cell (p := bd.add (j % len)) (by rw [add_block]; omega)).trans hcb
          have H4 := hide hB
          have B4 := hide hb
          have K4 := hide hbk
          have P := hide (hp_put (S := S) (X := hx ill b G0 G1) (t := j) hk3 (by omega) (by rw [HS.out.tick k hk3]; omega))
          have Hki := hide (show ((k : Nat) : Int) = 0 ∨ ((k : Nat) : Int) = 1 ∨ ((k : Nat) : Int) = 2 by omega)
          have hqs : 1 ≤ (hp S (hx ill b G0 G1) j k).strikes := by have := HS.out.strikes; show 1 ≤ S.strikes; omega
          have Hqs := hide hqs
          clear hB hb hbk hqs hc0 hc1 hcb
          by_cases hkm : k = ill
          · have e1 := hide (show hx ill b G0 G1 k = b by rw [hx, if_pos hkm])
            have q1 : (((k : Nat) : Int) == ((ill : Nat) : Int)) = true := by simp [hkm]
            have ea : (if k ≤ ill then k else k - 1) = k := by rw [if_pos (by omega)]
            have eb : (if k + 1 ≤ ill then k + 1 else k + 1 - 1) = k := by rw [if_neg (by omega)]; rfl
            have Eb := hide eb
            rw [ea]
            clear hkm ea eb
            go_wp2_with fail
            have hpu := put_in H4.out Hqs.out k (hx ill b G0 G1 k) j Hki.out
            rw [P.out.1, P.out.2, e1.out] at hpu
            refine hpu.mono ?_
            rintro e w5 ⟨rfl, h5, g5'⟩
            have H5 := hide h5
            have B5 := hide (B4.out.grown g5' B4.out.size (fun k e => by injection e; omega))
            have K5 := hide (K4.out.grown g5' (by have := B4.out.size; omega) (fun k e => by injection e; omega))
            clear hpu h5 g5'
            go_wp2_with fail
            go_roundw
            case rel => exact ⟨k + 1, by omega, by go_num, by rw [Eb.out], H5.out, B5.out, K5.out⟩
            case measure => simp [intOf]; omega
          · have q1 : (((k : Nat) : Int) == ((ill : Nat) : Int)) = false := by rw [beq_eq_false_iff_ne]; omega
            obtain ⟨c, hc⟩ : ∃ c, (if k ≤ ill then k else k - 1) = c := ⟨_, rfl⟩
            have eb : (if k + 1 ≤ ill then k + 1 else k + 1 - 1) = c + 1 := by rw [← hc]; split <;> split <;> omega
            have Eb := hide eb
            have hc01 : c = 0 ∨ c = 1 := by rw [← hc]; split <;> omega
            have ev : hx ill b G0 G1 k = if c = 0 then G0 else G1 := by
              unfold hx
              rw [if_neg hkm]
              rw [← hc]
              split <;> split <;> split <;> first | rfl | omega
            rw [hc]
            rcases hc01 with rfl | rfl
            all_goals
              have e1 := hide ev
              simp only [if_true, Nat.reduceEqDiff, if_false] at e1
              clear hkm eb ev hc
              first | rw [show ((0 : Nat) : Int) = 0 from rfl] | rw [show ((1 : Nat) : Int) = 1 from rfl]
              go_wp2_with fail
              have hpu := put_in H4.out Hqs.out k (hx ill b G0 G1 k) j Hki.out
              rw [P.out.1, P.out.2, e1.out] at hpu
              refine hpu.mono ?_
              rintro e w5 ⟨rfl, h5, g5'⟩
              have H5 := hide h5
              have B5 := hide (B4.out.grown g5' B4.out.size (fun k e => by injection e; omega))
              have K5 := hide (K4.out.grown g5' (by have := B4.out.size; omega) (fun k e => by injection e; omega))
              clear hpu h5 g5'
              go_wp2_with fail
              go_roundw
              case rel => exact ⟨k + 1, by omega, by go_num, by rw [Eb.out]; rfl, H5.out, B5.out, K5.out⟩
              case measure => simp [intOf]; omega
        · obtain rfl : k = 3 := by omega
          have h0 := (hbk.cell (p := ⟨gb, go + j * 2, none⟩) (show gb < bp by omega)).trans hc0
          have h1 := (hbk.cell (p := ⟨gb, go + j * 2 + 1, none⟩) (show gb < bp by omega)).trans hc1
          have ho := hp_ok HS.out.ok (hx ill b G0 G1) (j : Int) 3 HX.out ⟨by omega, by omega⟩
          have hm := hl_mid hill HS.out b G0 G1
          have hl := hl_len hill HS.out (hx ill b G0 G1)
          have hvx : voteX (hp S (hx ill b G0 G1) j 3) j = midL ((cnt (hp S (hx ill b G0 G1) j 3) j 3).map (hp S (hx ill b G0 G1) j 3).x) := by
            unfold voteX; rw [if_neg (by rw [hl]; split <;> omega)]
          have hv := vote_any hB ho (by omega) j (by omega)
          obtain ⟨S3, hS3⟩ : ∃ S3, hp S (hx ill b G0 G1) j 3 = S3 := ⟨_, rfl⟩
          have hnx := fun h => hl_next hill HS.out b G0 G1 ho h
          rw [hS3] at hv hvx hl hm hnx ho
          rw [← hvx] at hm
          have hcv := far_cmp kb0.1 kb0.2 kb1.1 kb1.2 c0 htol
          have hF := farG_any G0 G1 kb0.1 kb0.2 kb1.1 kb1.2
          have hT := of_any tol (by omega) htol
          have hC := cmp_any (farG G0 G1) (ofB tol) (farG_ok kb0.1 kb0.2 kb1.1 kb1.2).1.dg (ofB_ok (by omega) htol).1.dg
          obtain ⟨cv, hcvv⟩ : ∃ cv, cmpB (farG G0 G1) (ofB tol) = cv := ⟨_, rfl⟩
          rw [hcvv] at hcv hC
          obtain ⟨x, hxx⟩ : ∃ x, voteX S3 j = x := ⟨_, rfl⟩
          rw [hxx] at hv hm
          obtain ⟨n, hnn⟩ : ∃ n, (cnt S3 j 3).length = n := ⟨_, rfl⟩
          rw [hnn] at hv hl
          have hn23 : n = 2 ∨ n = 3 := by rw [hl]; split <;> omega
          have hv4 := vote_ok ho j
          have hs4 : (voteS S3 j).strikes = q := by
            have : S3.strikes = q := by rw [← hS3]; exact HS.out.strikes
            unfold voteS; split
            · exact this
            · split
              · exact (strike_keeps _ _).2.2.2.trans this
              · exact this
          obtain ⟨S4, hS4⟩ : ∃ S4, voteS S3 j = S4 := ⟨_, rfl⟩
          rw [hS4] at hv hnx hv4 hs4
          have HV := hide hv
          have HF := hide hF
          have HT := hide hT
          have HC := hide hC
          have HNX := hide hnx
          have HV4 := hide hv4
          have Hs4 := hide hs4
          have B4 := hide hb
          have K4 := hide hbk
          have hm1 := hm.1
          have hm2 := hm.2
          have dx1 : decide (x < min G0 G1) = false := by simp; omega
          have dx2 : decide (max G0 G1 < x) = false := by simp; omega
          obtain ⟨FR, hFR⟩ : ∃ FR, freshB S4 ill j = FR := ⟨_, rfl⟩
          obtain ⟨BX, hBX⟩ : ∃ BX, S4.x ill = BX := ⟨_, rfl⟩
          obtain ⟨BT, hBT⟩ : ∃ BT, S4.t ill = BT := ⟨_, rfl⟩
          obtain ⟨BB, hBB⟩ : ∃ BB, S4.b ill = BB := ⟨_, rfl⟩
          have Hch := hide (fun (w5 : World) (h5 : Blk w5 bp 68 S4.cells) => channel_any h5 HV4.out ill hill j (by omega))
          have Hcnt := hide (fun h => hl_bads hill (HNX.out h))
          rw [hFR, hBX, hBT, hBB] at Hch
          rw [hBB] at Hcnt
          have HBB := hide hBB
          clear hvx hv hF hT hC hnx hv4 hs4 hb hbk hm hm1 hm2 hl ho hB hxx hnn hS4 hS3 hcvv hFR hBX hBT hBB hc0 hc1 hcb
          go_wp2_with fail
          refine HV.out.mono ?_
          rintro e w5 ⟨rfl, h5, g5'⟩
          have H5 := hide h5
          have B5 := hide (B4.out.grown g5' B4.out.size (fun k e => by injection e; omega))
          have K5 := hide (grown_below (Below.refl bp wr) (by have := B4.out.size; omega) g5' (fun k e => by injection e; omega))
          clear h5 g5'
          go_wp2_with fail
          refine (Hch.out w5 H5.out).mono ?_
          rintro e w6 ⟨rfl, hb6⟩
          have B6 := hide (B5.out.trans (hb6.mono B5.out.size))
          have H6 := hide (H5.out.below hb6 H5.out.lt)
          have K6 := hide (K5.out.trans (hb6.mono (by have := B5.out.size; omega)))
          have z6 := B6.out.size
          clear hb6
          go_wp2_with fail
          have h7 := Blk.new w6 40 #[.int .i64 BX, .int .i64 BT, .bool FR, .bool BB]
          obtain ⟨w7, hw7⟩ : ∃ w7, w6.alloc (.cells #[.int .i64 BX, .int .i64 BT, .bool FR, .bool BB] 40) = w7 := ⟨_, rfl⟩
          have B7 := hide (show Below w.heap.size w w7 by rw [← hw7]; exact B6.out.alloc z6 _)
          have K7 := hide (show Below bp wr w7 by rw [← hw7]; exact K6.out.alloc (by omega) _)
          have H7 := hide (show Blk w7 bp 68 S4.cells by rw [← hw7]; exact H6.out.alloc _)
          obtain ⟨gc7, hgc7⟩ : ∃ gc7, w6.heap.size = gc7 := ⟨_, rfl⟩
          rw [hw7, hgc7] at h7
          rw [hw7, hgc7]
          have k0 := (K7.out.cell (p := ⟨gb, go + j * 2, none⟩) (show gb < bp by omega)).trans h0
          have k1 := (K7.out.cell (p := ⟨gb, go + j * 2 + 1, none⟩) (show gb < bp by omega)).trans h1
          have z7 := K7.out.size
          have zb7 := H7.out.lt
          have H70 := hide h7
          have Hj0 := hide (show (0 : Int) ≤ (j : Int) by omega)
          clear h0 h1 h7 hw7 hgc7 z6
          have hj0 : (0 : Int) ≤ (j : Int) := Hj0.out
          have hj1 : (j : Int) < (gl : Int) := by omega
          by_cases hnr : max G0 G1 - min G0 G1 ≤ tol
          · have dcv : decide (0 < cv) = false := by rw [hcv]; split <;> simp; omega
            have Hnr := hide hnr
            have hcn := Hcnt.out hnr
            have Hcn := hide hcn
            clear hcv hnr hcn
            rcases hn23 with rfl | rfl
            all_goals
              first | rw [show ((2 : Nat) : Int) = 2 from rfl] | rw [show ((3 : Nat) : Int) = 3 from rfl]
              go_quiet (fail)
              go_wp2_with fail
              obtain ⟨w8, hw8⟩ : ∃ w8, w7.drewN nq = w8 := ⟨_, rfl⟩
              have B8 := hide (show Below w.heap.size w w8 by rw [← hw8]; exact below_dn B7.out nq)
              have H8 := hide (show Blk w8 bp 68 S4.cells by rw [← hw8]; exact H7.out)
              have H80 := hide (show Blk w8 gc7 40 #[.int .i64 BX, .int .i64 BT, .bool FR, .bool BB] by rw [← hw8]; exact H70.out)
              have l0 : w8.cell? ⟨gb, go + j * 2, none⟩ = some (.int .i64 G0) := by rw [← hw8]; exact k0
              have l1 : w8.cell? ⟨gb, go + j * 2 + 1, none⟩ = some (.int .i64 G1) := by rw [← hw8]; exact k1
              rw [hw8]
              have L0 := hide l0
              have L1 := hide l1
              have zg8 := World.block_lt_of_cell? w8 _ l0
              clear hw8 k0 k1
              go_region_held3 (fun w' => Below w8.heap.size w8 w' ∧ w'.cell? ⟨gb, go + j * 2, none⟩ = some (.int .i64 G0) ∧ w'.cell? ⟨gb, go + j * 2 + 1, none⟩ = some (.int .i64 G1))
                (first | exact keep2 zg8 L0.out L1.out (Below.refl _ _).drew | exact keep2 zg8 L0.out L1.out (trB2 (by assumption) (by assumption)))
                (first
                  | (go_at_call 18; (with_reducible refine (HF.out _).mono ?_); rintro e wa ⟨rfl, hba⟩; have E1 := hide (trB0 (wr := w8) (Below.refl _ w8).drew hba))
                  | (go_at_call 19; (with_reducible refine (HT.out _).mono ?_); rintro e wt ⟨rfl, hbt⟩; have E2 := hide (trB0 E1.out hbt))
                  | (go_at_call 17; (with_reducible refine (HC.out _).mono ?_); rintro e wc ⟨rfl, hbc⟩; have E3 := hide (trB0 E2.out hbc)))
              have H9 := hide (H8.out.below E3.out H8.out.lt)
              have H90 := hide (H80.out.below E3.out H80.out.lt)
              have B9 := hide (B8.out.trans (E3.out.mono B8.out.size))
              clear hba hbt hbc
              cases BB
              all_goals
                have Hcn2 := hide Hcn.out
                go_wp2_with (first
                  | (go_at_call 20; (with_reducible refine (bad_any H9.out (by have := Hs4.out; omega)).mono ?_); rintro e wd ⟨rfl, hbd2⟩; rw [Hcn2.out]; have H91 := hide (H9.out.below hbd2 H9.out.lt); have H92 := hide (H90.out.below hbd2 H90.out.lt); have B91 := hide (B9.out.trans (hbd2.mono B9.out.size)); clear hbd2)
                  | (go_at_call 20; (with_reducible refine (bad_any H91.out (by have := Hs4.out; omega)).mono ?_); rintro e wf ⟨rfl, hbd3⟩; rw [Hcn2.out]; have H93 := hide (H91.out.below hbd3 H91.out.lt); have c3 := (H92.out.below hbd3 H92.out.lt).cell 3; have B93 := hide (B91.out.trans (hbd3.mono B91.out.size)); clear hbd3))
                all_goals
                  go_roundw
                  case rel => exact ⟨j + 1, by omega, by go_num, S4, HNX.out Hnr.out, H93.out, B93.out⟩
                  case measure => simp [intOf]; omega
          · have dcv : decide (0 < cv) = true := by rw [hcv, if_neg (by omega), if_pos (by omega)]; simp
            clear hcv hnr
            rcases hn23 with rfl | rfl
            all_goals
              first | rw [show ((2 : Nat) : Int) = 2 from rfl] | rw [show ((3 : Nat) : Int) = 3 from rfl]
              go_quiet (fail)
              go_wp2_with fail
              obtain ⟨w8, hw8⟩ : ∃ w8, w7.drewN nq = w8 := ⟨_, rfl⟩
              have B8 := hide (show Below w.heap.size w w8 by rw [← hw8]; exact below_dn B7.out nq)
              have H8 := hide (show Blk w8 bp 68 S4.cells by rw [← hw8]; exact H7.out)
              have H80 := hide (show Blk w8 gc7 40 #[.int .i64 BX, .int .i64 BT, .bool FR, .bool BB] by rw [← hw8]; exact H70.out)
              have l0 : w8.cell? ⟨gb, go + j * 2, none⟩ = some (.int .i64 G0) := by rw [← hw8]; exact k0
              have l1 : w8.cell? ⟨gb, go + j * 2 + 1, none⟩ = some (.int .i64 G1) := by rw [← hw8]; exact k1
              rw [hw8]
              have L0 := hide l0
              have L1 := hide l1
              have zg8 := World.block_lt_of_cell? w8 _ l0
              clear hw8 k0 k1
              go_region_held3 (fun w' => Below w8.heap.size w8 w' ∧ w'.cell? ⟨gb, go + j * 2, none⟩ = some (.int .i64 G0) ∧ w'.cell? ⟨gb, go + j * 2 + 1, none⟩ = some (.int .i64 G1))
                (first | exact keep2 zg8 L0.out L1.out (Below.refl _ _).drew | exact keep2 zg8 L0.out L1.out (trB2 (by assumption) (by assumption)))
                (first
                  | (go_at_call 18; (with_reducible refine (HF.out _).mono ?_); rintro e wa ⟨rfl, hba⟩; have E1 := hide (trB0 (wr := w8) (Below.refl _ w8).drew hba))
                  | (go_at_call 19; (with_reducible refine (HT.out _).mono ?_); rintro e wt ⟨rfl, hbt⟩; have E2 := hide (trB0 E1.out hbt))
                  | (go_at_call 17; (with_reducible refine (HC.out _).mono ?_); rintro e wc ⟨rfl, hbc⟩; have E3 := hide (trB0 E2.out hbc)))
              have H9 := hide (H8.out.below E3.out H8.out.lt)
              have H90 := hide (H80.out.below E3.out H80.out.lt)
              have B9 := hide (B8.out.trans (E3.out.mono B8.out.size))
              clear hba hbt hbc
              go_wp2_with (go_at_call 10; refine (alive_any _).mono ?_; rintro e wd ⟨rfl, hbd2⟩)
              go_ret
              exact ⟨rfl, B9.out.trans (hbd2.mono B9.out.size)⟩
    · obtain rfl : j = gl := by omega
      have B2 := hide hb
      clear hS hB hb
      go_wp2_with (go_at_call 10; refine (alive_any _).mono ?_; rintro e wd ⟨rfl, hbd2⟩)
      go_ret
      exact ⟨rfl, B2.out.trans (hbd2.mono B2.out.size)⟩

end Go.Proofs.Ytciooimbhabccaa
