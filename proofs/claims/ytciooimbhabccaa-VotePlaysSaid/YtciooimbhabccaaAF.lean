/- The reference's voter: Vote. -/
import Derived.Test.YtciooimbhabccaaAE
import Derived.Test.YtciooimbhabccaaT
import Derived.Test.YtciooimbhabccaaY
namespace Go.Proofs.Ytciooimbhabccaa
open Go.RowKit

theorem rc_last (S : VS) : S.rcells[15]? = some (.int .i64 S.last) := rfl
theorem rc_strikes (S : VS) : S.rcells[2]? = some (.int .i64 S.strikes) := rfl
theorem rc_tol (S : VS) : S.rcells[0]? = some (.int .i64 S.tol) := rfl
theorem near_cnt {B : Int} {S : VS} (hok : S.ok B) (now : Int) (h0 : (cnt S now 3).length ≠ 0) (j : Nat) (hj : j ≤ 3) : Near B (vote1 S now) (cnt S now j).length ((cnt S now j).foldl stp (vote1 S now, [])) := by
  have h := near_fold (vote1_ok hok now h0) (cnt S now j) (fun k hk => by have := cnt_lt S now j k hk; omega) (cnt S now j).length (Nat.le_refl _)
  rwa [List.take_of_length_le (Nat.le_refl _)] at h
theorem keep3 {W w' : World} {b i k l : Nat} {u v x : Value} (hb : b < W.heap.size) (h0 : W.cell? ⟨b, i, none⟩ = some u) (h1 : W.cell? ⟨b, k, none⟩ = some v) (h2 : W.cell? ⟨b, l, none⟩ = some x) (h : Below W.heap.size W w') : Below W.heap.size W w' ∧ w'.cell? ⟨b, i, none⟩ = some u ∧ w'.cell? ⟨b, k, none⟩ = some v ∧ w'.cell? ⟨b, l, none⟩ = some x :=
  ⟨h, (h.cell (p := ⟨b, i, none⟩) hb).trans h0, (h.cell (p := ⟨b, k, none⟩) hb).trans h1, (h.cell (p := ⟨b, l, none⟩) hb).trans h2⟩
theorem trB3 {wr A B : World} {p : Prop} (h : Below wr.heap.size wr A ∧ p) (k : Below A.heap.size A B) : Below wr.heap.size wr B := h.1.trans (k.mono h.1.size)
theorem below_grown {w w' : World} (h : Below w.heap.size w w') (row : Option Nat) : w.grownBy w' row := ⟨h.os, h.tape, h.output, h.size, fun i hi _ => h.block i hi⟩

set_option maxRecDepth 100000 in
set_option maxHeartbeats 8000000 in
theorem rvote_any {w : World} {rp : Nat} {S : VS} {B : Int} (h : Blk w rp 61 S.rcells) (hok : S.ok B) (hB9 : B ≤ 1000000) (hcalm : Calm S) (now : Int) (hnow : now ≤ 9223372036854775807) :
    Calls Try.prog 23 #[.pointer (some ⟨rp, 0, none⟩), .int .i64 now] w fun e w' => e = .returned (.tuple #[.int .i64 (voteX S now), .int .i64 ((cnt S now 3).length : Nat)]) ∧ Blk w' rp 61 (voteS S now).rcells ∧ w.grownBy w' (some rp) := by
  have H := hide h
  have Hok := hide hok
  have Hcalm := hide hcalm
  have hrp := h.lt
  have hB8 := hide hB9
  clear h hok hcalm
  go_enter Try.func23, Try.ntmps23
  go_wp2_with fail
  go_loopw [6, 7] (fun l i wr => ∃ k : Nat, k ≤ 3 ∧ i = .int .i64 k ∧ wr.ownsRow w.heap.size 3 1 l ((cnt S now k).map S.x).length (((cnt S now k).map S.x).map encI) ∧ Below w.heap.size w wr) (fun _ i _ => 3 - (intOf i).toNat)
  case atStart => exact ⟨0, by omega, rfl, by simpa [cnt] using World.ownsRow_nil _ _ _ _, Below.refl _ _⟩
  case round =>
    obtain ⟨k, hk, rfl, hown, hb⟩ := hrel
    have Hb := hide hb
    have Hown := hide hown
    have H1 := hide (H.out.below hb hrp)
    have hz := hb.size
    by_cases hlt : k < 3
    · have hlen := cnt_len S now k
      have hi0 : (0 : Int) ≤ (k : Int) := Int.natCast_nonneg _
      have hi1 : (k : Int) < 3 := by omega
      have HF := hide (rfresh_any H1.out k hlt now hnow (Hok.out.t1 k))
      clear hb hown
      obtain ⟨L, hL⟩ : ∃ L, (cnt S now k).map S.x = L := ⟨_, rfl⟩
      have hLl : L.length ≤ 3 := by rw [← hL, List.length_map]; omega
      have HL := hide hL
      rw [hL] at Hown
      clear hL
      cases hF : freshB S k now
      · have Hc := hide (cnt_miss1 hF)
        rw [hF] at HF
        clear hF
        go_wp2_with (go_at_call 26; refine HF.out.mono ?_; rintro e w2 ⟨rfl, hb2⟩; have Hb2 := hide hb2; clear hb2)
        go_roundw
        case rel => exact ⟨k + 1, by omega, by go_num, by rw [Hc.out, HL.out]; exact Hown.out.kept (below_grown Hb2.out none) (by cases hh : Value.ownBlock _ <;> simp), Hb.out.trans (Hb2.out.mono Hb.out.size)⟩
        case measure => simp [intOf]; omega
      · rw [hF] at HF
        cases hbk : S.b k
        · have Hc := hide (cnt_hit hF hbk)
          clear hF
          go_wp2_with (first
            | (go_at_call 26; refine HF.out.mono ?_; rintro e w2 ⟨rfl, hb2⟩; have Hb2 := hide hb2; have h2 := H1.out.below hb2 H1.out.lt; have cb : w2.cell? ⟨rp, 12 + k, none⟩ = some (.bool (S.b k)) := (h2.cell _).trans (rc_b S k hlt); have cx : w2.cell? ⟨rp, 3 + k, none⟩ = some (.int .i64 (S.x k)) := (h2.cell _).trans (rc_x S k hlt); rw [hbk] at cb; have hz2 := hb2.size; have Hown2 := hide (Hown.out.kept (below_grown hb2 none) (by cases hh : Value.ownBlock _ <;> simp)); clear hb2 h2)
            | (at_builtin; refine wpList_own (by rfl) (.tmp 28) (.tmp 35) (by rfl) w.heap.size _ _ (by rfl) (by rfl) L [S.x k] (Hown2.out.alloc _) (src_one _ _ _) (by simp; omega) (by simp; omega) ?_; intro v3 w3 hown3 hg3; have Hown3 := hide hown3; have Hb3 := hide ((((Hb.out.trans (Hb2.out.mono Hb.out.size)).alloc (by omega) _).grown hg3 (by simp; omega) (fun j hj => (Hown2.out.lt j hj).1))); clear hown3 hg3))
          go_roundw
          case rel => exact ⟨k + 1, by omega, by go_num, by rw [Hc.out, List.map_append, HL.out]; exact Hown3.out, Hb3.out⟩
          case measure => simp [intOf]; omega
        · have Hc := hide (cnt_miss2 (now := now) hbk)
          clear hF
          go_wp2_with (go_at_call 26; refine HF.out.mono ?_; rintro e w2 ⟨rfl, hb2⟩; have Hb2 := hide hb2; have h2 := H1.out.below hb2 H1.out.lt; have cb : w2.cell? ⟨rp, 12 + k, none⟩ = some (.bool (S.b k)) := (h2.cell _).trans (rc_b S k hlt); rw [hbk] at cb; clear hb2 h2)
          go_roundw
          case rel => exact ⟨k + 1, by omega, by go_num, by rw [Hc.out, HL.out]; exact Hown.out.kept (below_grown Hb2.out none) (by cases hh : Value.ownBlock _ <;> simp), Hb.out.trans (Hb2.out.mono Hb.out.size)⟩
          case measure => simp [intOf]; omega
    · obtain rfl : k = 3 := by omega
      clear hb hown
      obtain ⟨L, hL⟩ : ∃ L, (cnt S now 3).map S.x = L := ⟨_, rfl⟩
      have hLn : L.length = (cnt S now 3).length := by rw [← hL, List.length_map]
      have hL3 : L.length ≤ 3 := by have := cnt_len S now 3; omega
      have hX : voteX S now = if L.length = 0 then S.last else midL L := by unfold voteX; rw [hLn, hL]
      have hV1 : vote1 S now = { S with last := midL L } := by unfold vote1; rw [hL]
      have hN := fun h0 => near_cnt Hok.out now h0
      have hbd := fun h0 => (vote1_ok Hok.out now h0)
      have hR := rfin_eq Hcalm.out (S := S) Hok.out.strikes1 now
      have hvs : voteS S now = if L.length = 0 then S else if 1 < L.length then strikeS (vote1 S now) (cnt S now 3) else vote1 S now := by unfold voteS; rw [hLn]
      rw [hL] at Hown
      have HLn := hide hLn
      have HX := hide hX
      have HV1 := hide hV1
      have HN := hide hN
      have Hbd := hide hbd
      have HR := hide hR
      have Hvs := hide hvs
      obtain ⟨XX, hXX⟩ : ∃ XX, voteX S now = XX := ⟨_, rfl⟩
      obtain ⟨NN, hNN⟩ : ∃ NN, (cnt S now 3).length = NN := ⟨_, rfl⟩
      have HNN := hide hNN
      have HXX := hide hXX
      clear hX hV1 hN hbd hR hvs hL hLn hXX hNN
      obtain ⟨A, cap, rfl, hcs⟩ := row_cells Hown.out
      clear hcs
      by_cases h0 : L.length = 0
      · have d0 : ((L.length : Int) == 0) = true := by rw [h0]; rfl
        have cl : wr.cell? ⟨rp, 15, none⟩ = some (.int .i64 S.last) := (H1.out.cell _).trans (rc_last S)
        have Hh0 := hide h0
        clear h0
        go_wp2_with fail
        go_ret2
        exact ⟨by rw [HX.out, if_pos Hh0.out, ← HLn.out, Hh0.out]; rfl, by rw [Hvs.out, if_pos Hh0.out]; exact H1.out, below_grown Hb.out _⟩
      · have d0 : ((L.length : Int) == 0) = false := by rw [beq_eq_false_iff_ne]; omega
        have hM := refmid_any (ints_own Hown.out).any (by omega)
        have HM := hide hM
        clear hM
        by_cases h1 : L.length < 2
        · have d1 : decide ((L.length : Int) < 2) = true := by simp; omega
          have cl := H1.out.cell 15
          rw [rc_last] at cl
          have fl := H1.out.frozen 15
          go_wp2_with (go_at_call 12; (with_reducible refine HM.out.mono ?_); rintro e w2 ⟨rfl, hb2⟩; have cl2 : w2.cell? ⟨rp, 15, none⟩ = some (.int .i64 S.last) := ((H1.out.below hb2 H1.out.lt).cell _).trans (rc_last S); have fl2 := (H1.out.below hb2 H1.out.lt).frozen 15; have H2 := hide (show Blk (w2.setCell ⟨rp, 15, none⟩ (.int .i64 (midL L))) rp 61 (vote1 S now).rcells by rw [HV1.out]; exact (H1.out.below hb2 H1.out.lt).set 15 (.int .i64 (midL L))); have G2 := hide (grown_trans (below_grown (Hb.out.trans (hb2.mono Hb.out.size)) (some rp)) (grown_set w2 rp 15 (.int .i64 (midL L)))); clear hb2)
          go_ret2
          exact ⟨by rw [HX.out, if_neg h0, ← HLn.out]; rfl, by rw [Hvs.out, if_neg h0, if_neg (by omega)]; exact H2.out, G2.out⟩
        · have d1 : decide ((L.length : Int) < 2) = false := by simp; omega
          have cl := H1.out.cell 15
          rw [rc_last] at cl
          have fl := H1.out.frozen 15
          go_wp2_with (go_at_call 12; (with_reducible refine HM.out.mono ?_); rintro e w2 ⟨rfl, hb2⟩; have cl2 : w2.cell? ⟨rp, 15, none⟩ = some (.int .i64 S.last) := ((H1.out.below hb2 H1.out.lt).cell _).trans (rc_last S); have fl2 := (H1.out.below hb2 H1.out.lt).frozen 15; have H2 := hide (show Blk (w2.setCell ⟨rp, 15, none⟩ (.int .i64 (midL L))) rp 61 (vote1 S now).rcells by rw [HV1.out]; exact (H1.out.below hb2 H1.out.lt).set 15 (.int .i64 (midL L))); have G2 := hide (grown_trans (below_grown (Hb.out.trans (hb2.mono Hb.out.size)) (some rp)) (grown_set w2 rp 15 (.int .i64 (midL L)))); clear hb2)
          obtain ⟨w3, hw3⟩ : ∃ w3, w2.setCell ⟨rp, 15, none⟩ (.int .i64 (midL L)) = w3 := ⟨_, rfl⟩
          rw [hw3] at H2 G2 ⊢
          have hk1 := fun j => (stp_keeps (cnt S now j) (vote1 S now, []))
          have HK := hide hk1
          clear hw3 cl2 fl2 cl fl hk1
          go_loopw [8, 9] (fun m i wx => ∃ j : Nat, j ≤ 3 ∧ i = .int .i64 j ∧ m = .int .i64 (((cnt S now j).foldl stp (vote1 S now, [])).2.length : Nat) ∧ Blk wx rp 61 ((cnt S now j).foldl stp (vote1 S now, [])).1.rcells ∧ w.grownBy wx (some rp)) (fun _ i _ => 3 - (intOf i).toNat)
          case atStart => exact ⟨0, by omega, rfl, rfl, H2.out, G2.out⟩
          case round =>
            obtain ⟨j, hj, rfl, rfl, hB, hg⟩ := hrel
            by_cases hj3 : j < 3
            · have hi0 : (0 : Int) ≤ (j : Int) := Int.natCast_nonneg _
              have hi1 : (j : Int) < 3 := by omega
              have hN := HN.out (by rw [← HLn.out]; exact h0) j (by omega)
              have hl3 := cnt_len S now j
              have hns0 := hN.s0 j
              have hns1 := hN.s1 j
              have hnl := hN.len
              have kk := HK.out j
              obtain ⟨P, hP⟩ : ∃ P, (cnt S now j).foldl stp (vote1 S now, []) = P := ⟨_, rfl⟩
              rw [hP] at hB hns0 hns1 hnl kk ⊢
              have HP := hide hP
              obtain ⟨kx, kt, kb, ktol, kst, kss, kl⟩ := kk
              have kx' : P.1.x = S.x := kx
              have kt' : P.1.t = S.t := kt
              have kb' : P.1.b = S.b := kb
              have hfr : freshB P.1 j now = freshB S j now := by
                unfold freshB; rw [kt', show P.1.stale = S.stale from kst]
              have htb : P.1.t j ≤ 9223372036854775807 := by rw [kt']; exact Hok.out.t1 j
              have HF := hide (rfresh_any hB j hj3 now hnow htb)
              rw [hfr] at HF
              have HB := hide hB
              have HG := hide hg
              have hrpx := hB.lt
              clear hN hP hB hg hfr htb kx kt kb
              cases hF : freshB S j now
              · have Hc := hide (cnt_miss1 hF)
                rw [hF] at HF
                clear hF kx' kt' kb' ktol kst kss kl
                go_wp2_with (go_at_call 26; refine HF.out.mono ?_; rintro e w5 ⟨rfl, hb5⟩; have H5 := hide (HB.out.below hb5 HB.out.lt); have G5 := hide (grown_trans HG.out (below_grown hb5 (some rp))); clear hb5)
                go_roundw
                case rel => exact ⟨j + 1, by omega, by go_num, by rw [Hc.out, HP.out], by rw [Hc.out, HP.out]; exact H5.out, G5.out⟩
                case measure => simp [intOf]; omega
              · rw [hF] at HF
                cases hbk : S.b j
                · have Hc := hide (cnt_hit hF hbk)
                  have HCS := hide (fun (W : World) (hW : Blk W rp 61 P.1.rcells) => (⟨by rw [hW.cell, rc_b _ j hj3, kb', hbk], by rw [hW.cell, rc_x _ j hj3], by rw [hW.cell, rc_last], by rw [hW.cell, rc_tol], by rw [hW.cell, rc_s _ j hj3], by rw [hW.cell, rc_strikes], hW.lt⟩ :
                    W.cell? ⟨rp, 12 + j, none⟩ = some (.bool false) ∧ W.cell? ⟨rp, 3 + j, none⟩ = some (.int .i64 (P.1.x j)) ∧ W.cell? ⟨rp, 15, none⟩ = some (.int .i64 P.1.last) ∧ W.cell? ⟨rp, 0, none⟩ = some (.int .i64 P.1.tol) ∧ W.cell? ⟨rp, 9 + j, none⟩ = some (.int .i64 (P.1.s j)) ∧ W.cell? ⟨rp, 2, none⟩ = some (.int .i64 P.1.strikes) ∧ rp < W.heap.size))
                  have hfold : (cnt S now (j + 1)).foldl stp (vote1 S now, []) = stp P j := by rw [Hc.out, List.foldl_append, HP.out]; rfl
                  have Hfold := hide hfold
                  have hv1 := Hbd.out (by rw [← HLn.out]; exact h0)
                  have bx0 : -9223372036854775808 ≤ P.1.x j := by rw [kx']; exact Hok.out.x0 j
                  have bx1 : P.1.x j ≤ 9223372036854775807 := by rw [kx']; exact Hok.out.x1 j
                  have bl0 : -9223372036854775808 ≤ P.1.last := by rw [kl]; exact hv1.l0
                  have bl1 : P.1.last ≤ 9223372036854775807 := by rw [kl]; exact hv1.l1
                  have bt0 : 0 ≤ P.1.tol := by rw [ktol]; exact hv1.tol0
                  have bt1 : P.1.tol ≤ 9223372036854775807 := by rw [ktol]; exact hv1.tol1
                  have hcv := far_cmp bx0 bx1 bl0 bl1 bt0 bt1
                  have HFA := hide (farG_any (P.1.x j) P.1.last bx0 bx1 bl0 bl1)
                  have HT := hide (of_any P.1.tol (by omega) bt1)
                  have HC := hide (cmp_any (farG (P.1.x j) P.1.last) (ofB P.1.tol) (farG_ok bx0 bx1 bl0 bl1).1.dg (ofB_ok (by omega) bt1).1.dg)
                  obtain ⟨cv, hcvv⟩ : ∃ cv, cmpB (farG (P.1.x j) P.1.last) (ofB P.1.tol) = cv := ⟨_, rfl⟩
                  rw [hcvv] at hcv HC
                  have hst : stp P j = if farB (P.1.x j) P.1.last P.1.tol = true then ({ P.1 with s := upd P.1.s j (P.1.s j + 1) }, if P.1.strikes ≤ P.1.s j + 1 then P.2 ++ [j] else P.2) else ({ P.1 with s := upd P.1.s j 0 }, P.2) := rfl
                  have Hst := hide hst
                  obtain ⟨PX, hPX⟩ : ∃ PX, P.1.x j = PX := ⟨_, rfl⟩
                  obtain ⟨PL, hPL⟩ : ∃ PL, P.1.last = PL := ⟨_, rfl⟩
                  obtain ⟨PT, hPT⟩ : ∃ PT, P.1.tol = PT := ⟨_, rfl⟩
                  obtain ⟨PS, hPS⟩ : ∃ PS, P.1.s j = PS := ⟨_, rfl⟩
                  obtain ⟨PQ, hPQ⟩ : ∃ PQ, P.1.strikes = PQ := ⟨_, rfl⟩
                  rw [hPX, hPL] at HFA
                  rw [hPT] at HT
                  rw [hPX, hPL, hPT] at HC hcv Hst
                  rw [hPX, hPL, hPT, hPS, hPQ] at HCS
                  rw [hPS] at hns0 hns1 Hst
                  rw [hPQ] at Hst
                  clear hF kx' kt' kb' ktol kst kss kl hbk hfold hv1 hst hcvv hPX hPL hPT hPS hPQ bx0 bx1 bl0 bl1
                  go_wp2_with (go_at_call 26; refine HF.out.mono ?_; rintro e w5 ⟨rfl, hb5⟩; have H5 := hide (HB.out.below hb5 HB.out.lt); obtain ⟨cb, cx, cl, ct, cs, cq, hz5⟩ := HCS.out _ H5.out; have G5 := hide (grown_trans HG.out (below_grown hb5 (some rp))); clear hb5)
                  have Hcv := hide hcv
                  clear hcv
                  have L0 := hide cx
                  have L1 := hide cl
                  have L2 := hide ct
                  clear cs cq cb
                  go_region_held3 (fun w' => Below w5.heap.size w5 w' ∧ w'.cell? ⟨rp, 3 + j, none⟩ = some (.int .i64 PX) ∧ w'.cell? ⟨rp, 15, none⟩ = some (.int .i64 PL) ∧ w'.cell? ⟨rp, 0, none⟩ = some (.int .i64 PT))
                    (first | exact keep3 hz5 L0.out L1.out L2.out (Below.refl _ _).drew | exact keep3 hz5 L0.out L1.out L2.out (trB3 (by assumption) (by assumption)))
                    (first
                      | (go_at_call 18; (with_reducible refine (HFA.out _).mono ?_); rintro e wa ⟨rfl, hba⟩; have E1 := hide (trB0 (wr := w5) (Below.refl _ w5).drew hba))
                      | (go_at_call 19; (with_reducible refine (HT.out _).mono ?_); rintro e wt ⟨rfl, hbt⟩; have E2 := hide (trB0 E1.out hbt))
                      | (go_at_call 17; (with_reducible refine (HC.out _).mono ?_); rintro e wc ⟨rfl, hbc⟩; have E3 := hide (trB0 E2.out hbc)))
                  have H6 := hide (H5.out.below E3.out H5.out.lt)
                  have G6 := hide (grown_trans G5.out (below_grown E3.out (some rp)))
                  obtain ⟨_, _, _, _, cs, cq, hz6⟩ := HCS.out _ H6.out
                  have fs := H6.out.frozen
                  clear hba hbt hbc cx cl ct
                  by_cases hfar : PT < max PX PL - min PX PL
                  · have dcv : 0 < cv := by rw [Hcv.out, if_neg (by omega), if_pos hfar]; decide
                    have hfb : farB PX PL PT = true := by simp [farB, hfar]
                    have Hfb := hide hfb
                    have H7 := hide (show Blk (wc.setCell ⟨rp, 9 + j, none⟩ (.int .i64 (PS + 1))).drew rp 61 (VS.rcells { P.1 with s := upd P.1.s j (PS + 1) }) by
                      have h := (H6.out.set (9 + j) (.int .i64 (PS + 1))).drew
                      rwa [rs_s _ j hj3] at h)
                    have G7 := hide (grown_trans G6.out (grown_trans (grown_set wc rp (9 + j) (.int .i64 (PS + 1))) (grown_drew _ _)))
                    clear hfar hfb
                    have hws : IntKind.i64.wrap (PS + 1) = PS + 1 := IntWalk.i64_in _ (by have := hB8.out; omega)
                    go_wp2_with fail
                    go_region
                    obtain ⟨w7, hw7⟩ : ∃ w7, (wc.setCell ⟨rp, 9 + j, none⟩ (.int .i64 (PS + 1))).drew = w7 := ⟨_, rfl⟩
                    rw [hw7] at H7 G7 ⊢
                    have cs7 : w7.cell? ⟨rp, 9 + j, none⟩ = some (.int .i64 (PS + 1)) := by
                      rw [H7.out.cell, rc_s _ j hj3]; simp [upd]
                    have cq7 : w7.cell? ⟨rp, 2, none⟩ = some (.int .i64 PQ) := by
                      obtain ⟨_, _, _, _, _, cq2, _⟩ := HCS.out _ H6.out
                      have e := H6.out.cell 2
                      rw [H7.out.cell]
                      rw [e] at cq2
                      exact cq2
                    clear hw7 cs cq fs
                    by_cases hq : PQ ≤ PS + 1
                    · have Hq := hide hq
                      go_wp2_with fail
                      go_quiet (fail)
                      go_wp2_with fail
                      go_roundw
                      case rel => exact ⟨j + 1, by omega, by go_num, by rw [Hfold.out, Hst.out, if_pos Hfb.out, if_pos Hq.out, List.length_append]; go_num, by rw [Hfold.out, Hst.out, if_pos Hfb.out]; exact H7.out, grown_trans G7.out ⟨rfl, rfl, rfl, Nat.le_refl _, fun _ _ _ => rfl⟩⟩
                      case measure => simp [intOf]; omega
                    · have hq' : PS + 1 < PQ := by omega
                      have Hq := hide hq
                      clear hq
                      go_wp2_with fail
                      go_quiet (fail)
                      go_wp2_with fail
                      go_roundw
                      case rel => exact ⟨j + 1, by omega, by go_num, by rw [Hfold.out, Hst.out, if_pos Hfb.out, if_neg (by have := Hq.out; omega)], by rw [Hfold.out, Hst.out, if_pos Hfb.out]; exact H7.out, grown_trans G7.out ⟨rfl, rfl, rfl, Nat.le_refl _, fun _ _ _ => rfl⟩⟩
                      case measure => simp [intOf]; omega
                  · have dcv : cv ≤ 0 := by rw [Hcv.out, if_neg hfar]; split <;> decide
                    have hfb : farB PX PL PT = false := by simp [farB]; omega
                    have Hfb := hide hfb
                    have H7 := hide (show Blk (wc.setCell ⟨rp, 9 + j, none⟩ (.int .i64 0)) rp 61 (VS.rcells { P.1 with s := upd P.1.s j 0 }) by
                      have h := H6.out.set (9 + j) (.int .i64 0)
                      rwa [rs_s _ j hj3] at h)
                    have G7 := hide (grown_trans G6.out (grown_set wc rp (9 + j) (.int .i64 0)))
                    clear hfar hfb
                    go_wp2_with fail
                    go_roundw
                    case rel => exact ⟨j + 1, by omega, by go_num, by rw [Hfold.out, Hst.out, if_neg (by rw [Hfb.out]; simp)], by rw [Hfold.out, Hst.out, if_neg (by rw [Hfb.out]; simp)]; exact H7.out, G7.out⟩
                    case measure => simp [intOf]; omega
                · have Hc := hide (cnt_miss2 (now := now) hbk)
                  have cb0 : ∀ W, Blk W rp 61 P.1.rcells → W.cell? ⟨rp, 12 + j, none⟩ = some (.bool true) := fun W hW => by rw [hW.cell, rc_b _ j hj3, kb', hbk]
                  have Cb := hide cb0
                  clear hF kx' kt' kb' ktol kst kss kl hbk cb0
                  go_wp2_with (go_at_call 26; refine HF.out.mono ?_; rintro e w5 ⟨rfl, hb5⟩; have H5 := hide (HB.out.below hb5 HB.out.lt); have cb := Cb.out _ H5.out; have G5 := hide (grown_trans HG.out (below_grown hb5 (some rp))); clear hb5)
                  go_roundw
                  case rel => exact ⟨j + 1, by omega, by go_num, by rw [Hc.out, HP.out], by rw [Hc.out, HP.out]; exact H5.out, G5.out⟩
                  case measure => simp [intOf]; omega
            · obtain rfl : j = 3 := by omega
              have hN := HN.out (by rw [← HLn.out]; exact h0) 3 (by omega)
              have kk := HK.out 3
              have hnl := hN.len
              have hlst := hN.last
              have hl3 := cnt_len S now 3
              have hR := HR.out
              have hs1 : 1 ≤ S.strikes := Hok.out.strikes1
              have hs2 : S.strikes ≤ 1000 := Hok.out.strikes2
              obtain ⟨P, hP⟩ : ∃ P, (cnt S now 3).foldl stp (vote1 S now, []) = P := ⟨_, rfl⟩
              rw [hP] at hB hR kk hnl hlst ⊢
              have HR2 := hide hR
              have HB := hide hB
              have HG := hide hg
              have hpq : ∀ j, (rfin P.2.length P.1 j).strikes = S.strikes := by
                intro j
                induction j with
                | zero => exact kk.2.2.2.2.2.1
                | succ j ih => rw [rfin_succ]; unfold rfin1; split; exact ih; split <;> exact ih
              have hpl : ∀ j, (rfin P.2.length P.1 j).last = midL L := by
                intro j
                induction j with
                | zero => exact hlst.trans (by rw [HV1.out])
                | succ j ih => rw [rfin_succ]; unfold rfin1; split; exact ih; split <;> exact ih
              have Hpq := hide hpq
              have Hpl := hide hpl
              obtain ⟨m, hm⟩ : ∃ m, P.2.length = m := ⟨_, rfl⟩
              obtain ⟨SQ, hSQ⟩ : ∃ SQ, S.strikes = SQ := ⟨_, rfl⟩
              rw [hm] at HR2 Hpq Hpl hnl ⊢
              rw [hSQ] at Hpq hs1 hs2
              have hm3 : m ≤ 3 := by omega
              clear hN kk hlst hP hB hg hR hpq hpl hm hSQ hnl
              go_wp2_with fail
              go_loopw [10] (fun i wx => ∃ j : Nat, j ≤ 3 ∧ i = .int .i64 j ∧ Blk wx rp 61 (rfin m P.1 j).rcells ∧ w.grownBy wx (some rp)) (fun i _ => 3 - (intOf i).toNat)
              case atStart => exact ⟨0, by omega, rfl, HB.out, HG.out⟩
              case round =>
                obtain ⟨j, hj, rfl, hB, hg⟩ := hrel
                by_cases hj3 : j < 3
                · have hi0 : (0 : Int) ≤ (j : Int) := Int.natCast_nonneg _
                  have hi1 : (j : Int) < 3 := by omega
                  have cb : wr.cell? ⟨rp, 12 + j, none⟩ = some (.bool ((rfin m P.1 j).b j)) := by rw [hB.cell, rc_b _ j hj3]
                  have cs : wr.cell? ⟨rp, 9 + j, none⟩ = some (.int .i64 ((rfin m P.1 j).s j)) := by rw [hB.cell, rc_s _ j hj3]
                  have cq : wr.cell? ⟨rp, 2, none⟩ = some (.int .i64 SQ) := by rw [hB.cell, rc_strikes, Hpq.out]
                  have hsucc := rfin_succ m P.1 j
                  have hq := Hpq.out j
                  obtain ⟨R, hR⟩ : ∃ R, rfin m P.1 j = R := ⟨_, rfl⟩
                  rw [hR] at cb cs hsucc hB hq
                  unfold rfin1 at hsucc
                  have Hq := hide hq
                  have Hsucc := hide hsucc
                  have HB := hide hB
                  have HG := hide hg
                  have fz := hB.frozen
                  obtain ⟨RS, hRS⟩ : ∃ RS, R.s j = RS := ⟨_, rfl⟩
                  rw [hRS] at cs Hsucc
                  clear hsucc hB hg hq hR hRS
                  cases hbj : R.b j
                  · have Hbj := hide hbj
                    rw [hbj] at cb
                    clear hbj
                    by_cases hlt2 : RS < SQ
                    · have Hlt := hide hlt2
                      go_wp2_with fail
                      go_quiet (fail)
                      go_wp2_with fail
                      go_roundw
                      case rel => exact ⟨j + 1, by omega, by go_num, by rw [Hsucc.out, if_pos (.inr (by rw [Hq.out]; exact Hlt.out))]; exact HB.out, grown_trans HG.out ⟨rfl, rfl, rfl, Nat.le_refl _, fun _ _ _ => rfl⟩⟩
                      case measure => simp [intOf]; omega
                    · have hge : SQ ≤ RS := by omega
                      have Hn := hide (show ¬ (R.b j = true ∨ RS < R.strikes) by rw [Hbj.out, Hq.out]; simp; omega)
                      clear hlt2
                      by_cases hm2 : 2 ≤ m
                      · have hm2' : (2 : Int) ≤ (m : Int) := by omega
                        have Hm := hide hm2
                        have hws : IntKind.i64.wrap (SQ - 1) = SQ - 1 := IntWalk.i64_in _ (by omega)
                        have HS := hide (fun (W : World) (hW : Blk W rp 61 R.rcells) => (show Blk (W.setCell ⟨rp, 9 + j, none⟩ (.int .i64 (SQ - 1))) rp 61 (VS.rcells { R with s := upd R.s j (R.strikes - 1) }) by
                          have h := hW.set (9 + j) (.int .i64 (R.strikes - 1))
                          rw [rs_s _ j hj3] at h
                          have e : (Value.int .i64 (SQ - 1)) = .int .i64 (R.strikes - 1) := by rw [Hq.out]
                          rw [e]
                          exact h))
                        go_wp2_with fail
                        go_quiet (fail)
                        go_wp2_with fail
                        go_region
                        go_wp2_with fail
                        go_roundw
                        case rel => exact ⟨j + 1, by omega, by go_num, by rw [Hsucc.out, if_neg Hn.out, if_pos Hm.out]; exact HS.out _ (HB.out.drewN _), grown_trans HG.out (grown_trans (grown_drewN wr _ _) (grown_set _ _ _ _))⟩
                        case measure => simp [intOf]; omega
                      · have hm2' : (m : Int) < 2 := by omega
                        have Hm := hide hm2
                        have HS := hide (fun (W : World) (hW : Blk W rp 61 R.rcells) => (show Blk (W.setCell ⟨rp, 12 + j, none⟩ (.bool true)) rp 61 (VS.rcells { R with b := upd R.b j true }) by
                          have h := hW.set (12 + j) (.bool true)
                          rwa [rs_b _ j hj3] at h))
                        clear hm2
                        go_wp2_with fail
                        go_quiet (fail)
                        go_wp2_with fail
                        go_roundw
                        case rel => exact ⟨j + 1, by omega, by go_num, by rw [Hsucc.out, if_neg Hn.out, if_neg Hm.out]; exact HS.out _ (HB.out.drewN _), grown_trans HG.out (grown_trans (grown_drewN wr _ _) (grown_set _ _ _ _))⟩
                        case measure => simp [intOf]; omega
                  · have Hbj := hide hbj
                    rw [hbj] at cb
                    clear hbj
                    go_wp2_with fail
                    go_quiet (fail)
                    go_wp2_with fail
                    go_roundw
                    case rel => exact ⟨j + 1, by omega, by go_num, by rw [Hsucc.out, if_pos (.inl Hbj.out)]; exact HB.out, grown_trans HG.out ⟨rfl, rfl, rfl, Nat.le_refl _, fun _ _ _ => rfl⟩⟩
                    case measure => simp [intOf]; omega
                · obtain rfl : j = 3 := by omega
                  have cl : wr.cell? ⟨rp, 15, none⟩ = some (.int .i64 (midL L)) := by rw [hB.cell, rc_last, Hpl.out]
                  have HB := hide hB
                  have HG := hide hg
                  clear hB hg
                  go_wp2_with fail
                  go_ret2
                  exact ⟨by rw [HX.out, if_neg h0, ← HLn.out]; rfl, by rw [Hvs.out, if_neg h0, if_pos (by omega), ← HR2.out]; exact HB.out, HG.out⟩

end Go.Proofs.Ytciooimbhabccaa
