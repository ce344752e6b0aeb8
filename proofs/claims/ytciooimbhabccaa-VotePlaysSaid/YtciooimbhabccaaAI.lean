/- The walk of VotePlays. -/
import Derived.Test.YtciooimbhabccaaAH
import Derived.Test.YtciooimbhabccaaO
import Derived.Deep.DeepCutAuto
import Derived.Deep.CutBlock
namespace Go.Proofs.Ytciooimbhabccaa
open Go.RowKit

/-- what is done at one step -/
structure OpV where
  kind : Int
  i : Int
  tick : Int
  x : Int
  A : Option Addr
  len : Nat
  cap : Nat
  zs : List Int
def OpV.cells (o : OpV) : Array Value := #[.int .i64 o.kind, .int .i64 o.i, .int .i64 o.tick, .int .i64 o.x, .slice o.A o.len o.cap]
def OpV.fit (w : World) (o : OpV) : Prop := (-9223372036854775808 ≤ o.i ∧ o.i ≤ 9223372036854775807) ∧ (-9223372036854775808 ≤ o.tick ∧ o.tick ≤ 9223372036854775807) ∧ (-9223372036854775808 ≤ o.x ∧ o.x ≤ 9223372036854775807) ∧ IsRow .i64 w o.A o.len o.cap o.zs
/-- a slice of such steps that came in -/
def IsOps (w : World) (A : Option Addr) (n : Nat) (os : Nat → OpV) : Prop :=
  0 < n → ∃ b off, A = some ⟨b, off, none⟩ ∧ b < w.heap.size ∧ ∀ j, j < n → (os j).fit w ∧ ∀ k, k < 5 → w.cell? ⟨b, off + j * 5 + k, none⟩ = (os j).cells[k]?
theorem far_cell {w w' : World} {g k bp : Nat} (h : w.grownBy w' (some bp)) (hg : g < w.heap.size) (hne : g ≠ bp) : w'.cell? ⟨g, k, none⟩ = w.cell? ⟨g, k, none⟩ := World.cell?_of_block (h.block g hg (fun e => hne (by injection e)))

theorem row_addr {w : World} {A : Option Addr} {cap : Nat} {ys : List Int} (h : 0 < ys.length → IntsA w.heap.size w (.slice A ys.length cap) ys) : 0 < ys.length → ∃ g off, A = some ⟨g, off, none⟩ ∧ g < w.heap.size ∧ ∀ j (hj : j < ys.length), w.cell? ⟨g, off + j, none⟩ = some (.int .i64 ys[j]) := fun h0 => by
  rcases h h0 with ⟨_, e⟩ | ⟨a, c, e, hb, hc⟩
  · rw [e] at h0; simp at h0
  · injection e with e1 e2 e3
    subst e1
    have hsp : a.spot = none := by
      have h1 := hc 0 h0
      have e0 : a.add 0 = a := by simp [Addr.add]
      rw [e0] at h1
      exact World.cell?_spot h1
    obtain ⟨g, off, sp⟩ := a
    simp only at hsp hb
    subst hsp
    refine ⟨g, off, rfl, hb, fun j hj => ?_⟩
    have h1 := hc j hj
    have e0 : (⟨g, off, none⟩ : Addr).add j = ⟨g, off + j, none⟩ := by unfold Addr.add; split <;> simp_all
    rw [e0, List.getElem?_eq_getElem hj] at h1
    exact h1
theorem src_below {w W : World} {v : Value} {zs : List Int} (h : Src w v zs) (hb : Below w.heap.size w W) : Src W v zs := by
  rcases h with h | ⟨a, c, e, hc⟩
  · exact .inl h
  · exact .inr ⟨a, c, e, fun j u hj => (hb.cell (World.block_lt_of_cell? w _ (hc j u hj))).trans (hc j u hj)⟩
theorem keep9 {W w' : World} {a0 a1 a2 a3 a4 a5 a6 a7 a8 : Addr} {v0 v1 v2 v3 v4 v5 v6 v7 v8 : Value} (h0 : W.cell? a0 = some v0) (h1 : W.cell? a1 = some v1) (h2 : W.cell? a2 = some v2) (h3 : W.cell? a3 = some v3) (h4 : W.cell? a4 = some v4) (h5 : W.cell? a5 = some v5) (h6 : W.cell? a6 = some v6) (h7 : W.cell? a7 = some v7) (h8 : W.cell? a8 = some v8) (h : Below W.heap.size W w') :
    Below W.heap.size W w' ∧ w'.cell? a0 = some v0 ∧ w'.cell? a1 = some v1 ∧ w'.cell? a2 = some v2 ∧ w'.cell? a3 = some v3 ∧ w'.cell? a4 = some v4 ∧ w'.cell? a5 = some v5 ∧ w'.cell? a6 = some v6 ∧ w'.cell? a7 = some v7 ∧ w'.cell? a8 = some v8 :=
  have k {a : Addr} {v : Value} (hv : W.cell? a = some v) : w'.cell? a = some v := (h.cell (World.block_lt_of_cell? W _ hv)).trans hv
  ⟨h, k h0, k h1, k h2, k h3, k h4, k h5, k h6, k h7, k h8⟩

theorem two_meet {w wa w5 w6 : World} {bp rp g : Nat} {OC : Array Value} {S' : VS} {B C : Int} (h1 : w.heap.size ≤ bp) (_ : bp ≤ w.heap.size) (hgb : g ≠ bp) (hgr : g ≠ rp) (hbr : bp ≠ rp) (hok : S'.ok B) (hBC : B ≤ C) (hc : Calm S') (hO : Blk wa g 56 OC) (hb : Below w.heap.size w wa) (h5 : Blk w5 bp 68 S'.cells) (g5 : wa.grownBy w5 (some bp)) (h6 : Blk w6 rp 61 S'.rcells) (g6 : w5.grownBy w6 (some rp)) (hrp : w.heap.size ≤ rp) :
    ∃ S' : VS, S'.ok C ∧ Calm S' ∧ Blk w6 bp 68 S'.cells ∧ Blk w6 rp 61 S'.rcells ∧ Blk w6 g 56 OC ∧ Below w.heap.size w w6 :=
  ⟨S', hok.mono hBC, hc, h5.grown g6 (by simpa using hbr), h6, (hO.grown g5 (by simpa using hgb)).grown g6 (by simpa using hgr), (hb.grown g5 hb.size (fun k e => by injection e; omega)).grown g6 (Nat.le_trans hb.size g5.size) (fun k e => by injection e; omega)⟩

set_option maxRecDepth 100000 in
set_option maxHeartbeats 8000000 in
theorem law_plays (tol stale strikes : Int) (A : Option Addr) (n cap : Nat) (w : World) (os : Nat → OpV) (hO : IsOps w A n os) (hnc : n ≤ cap) (htol : tol ≤ 9223372036854775807) (hnm : n ≤ 9223372036854775807) :
    Calls Try.prog 7 #[.int .i64 tol, .int .i64 stale, .int .i64 strikes, .slice A n cap] w fun e w' => e = .returned (.bool true) ∧ Below w.heap.size w w' := by
  by_cases a0 : 300 < n
  · have dd : decide ((300 : Int) < n) = true := by simp; omega
    clear hO
    go_enter Try.func7, Try.ntmps7
    go_wp2_with (go_at_call 10; refine (alive_any _).mono ?_; rintro e w' ⟨rfl, hb⟩)
    go_ret
    exact ⟨rfl, hb⟩
  have hn300 : n ≤ 300 := by omega
  have d0 : decide ((300 : Int) < n) = false := by simp; omega
  clear a0
  cases hN : newB tol stale strikes
  · have H1 := hide (new_no tol stale strikes w hN)
    have H2 := hide (rnew_no tol stale strikes w hN)
    clear hN hO
    go_enter Try.func7, Try.ntmps7
    go_wp2_with (first
      | (go_at_call 13; refine H1.out.mono ?_; rintro e w1 ⟨rfl, rfl⟩)
      | (go_at_call 21; refine H2.out.mono ?_; rintro e w1 ⟨rfl, rfl⟩)
      | (go_at_call 10; refine (alive_any _).mono ?_; rintro e w' ⟨rfl, hb⟩))
    go_ret
    exact ⟨rfl, hb⟩
  have HN := hide hN
  have HO := hide hO
  clear hN hO
  go_enter Try.func7, Try.ntmps7
  go_wp2_with fail
  refine (new_yes tol stale strikes w HN.out).mono ?_
  rintro e w1 ⟨rfl, h1, b1, z1⟩
  have H1 := hide h1
  have B1 := hide b1
  clear h1 b1
  go_wp2_with fail
  refine (rnew_yes tol stale strikes w1 HN.out).mono ?_
  rintro e w2 ⟨rfl, h2, b2⟩
  have H2 := hide h2
  have H1' := hide (H1.out.below b2 H1.out.lt)
  have B2 := hide (B1.out.trans (b2.mono B1.out.size))
  obtain ⟨bp, hbp⟩ : ∃ bp, w.heap.size = bp := ⟨_, rfl⟩
  obtain ⟨rp, hrp⟩ : ∃ rp, w1.heap.size = rp := ⟨_, rfl⟩
  simp only [hbp, hrp] at H1' H2 z1 ⊢
  have hbp1 : w.heap.size ≤ bp := by omega
  have hbp2 : bp ≤ w.heap.size := by omega
  have hrp1 : w.heap.size ≤ rp := by omega
  clear h2 b2 hbp hrp
  go_wp2_with fail
  go_loopw [13] (fun i wr => ∃ j : Nat, j ≤ n ∧ i = .int .i64 j ∧ ∃ S : VS, S.ok (1000 + 3 * j) ∧ Calm S ∧ Blk wr bp 68 S.cells ∧ Blk wr rp 61 S.rcells ∧ Below w.heap.size w wr) (fun i _ => n - (intOf i).toNat)
  case atStart => exact ⟨0, Nat.zero_le _, rfl, newS tol stale strikes, by simpa using new_ok HN.out htol, calm_new HN.out, H1'.out, H2.out, B2.out⟩
  case round =>
    obtain ⟨j, hj, rfl, S, hok, hcalm, hB, hR, hb⟩ := hrel
    by_cases hlt : j < n
    · obtain ⟨ob, oo, rfl, hobl, hops⟩ := HO.out (by omega)
      obtain ⟨⟨hib, htb, hxb, hrow⟩, hcs⟩ := hops j hlt
      obtain ⟨O, hOj⟩ : ∃ O, os j = O := ⟨_, rfl⟩
      rw [hOj] at hib htb hxb hrow hcs
      obtain ⟨kind, ii, tt, xx, LA, ll, lc, lz⟩ := O
      simp only at hib htb hxb hrow
      obtain ⟨ys, rfl, hlc, hcm, hints, hsrc⟩ := row_ints hrow
      have Hadr := hide (row_addr hints)
      have Hsrc := hide hsrc
      clear hints hsrc
      have q0 := (hb.cell (p := ⟨ob, oo + j * 5, none⟩) hobl).trans (hcs 0 (by omega))
      have q1 := (hb.cell (p := ⟨ob, oo + j * 5 + 1, none⟩) hobl).trans (hcs 1 (by omega))
      have q2 := (hb.cell (p := ⟨ob, oo + j * 5 + 2, none⟩) hobl).trans (hcs 2 (by omega))
      have q3 := (hb.cell (p := ⟨ob, oo + j * 5 + 3, none⟩) hobl).trans (hcs 3 (by omega))
      have q4 := (hb.cell (p := ⟨ob, oo + j * 5 + 4, none⟩) hobl).trans (hcs 4 (by omega))
      simp only [OpV.cells, List.getElem?_toArray, List.getElem?_cons_zero, List.getElem?_cons_succ] at q0 q1 q2 q3 q4
      have Hok := hide hok
      have Hcalm := hide hcalm
      have HB := hide hB
      have HR := hide hR
      have Hb := hide hb
      have Hrow := hide hrow
      have hbz := hB.lt
      have hrz := hR.lt
      have hz := hb.size
      have hj0 : (0 : Int) ≤ (j : Int) := Int.natCast_nonneg _
      have hj1 : (j : Int) < (n : Int) := by omega
      clear hok hcalm hB hR hb hrow hops hcs hOj
      by_cases hl : 20 < ys.length
      · have dl : decide ((20 : Int) < ys.length) = true := by simp; omega
        go_wp2_with fail
        go_ret
        exact ⟨rfl, Hb.out.alloc hz _⟩
      · have dl : decide ((20 : Int) < ys.length) = false := by simp; omega
        have hl20 : ys.length ≤ 20 := by omega
        clear hl
        obtain ⟨g, hg⟩ : ∃ g, wr.heap.size = g := ⟨_, rfl⟩
        obtain ⟨w4, hw4⟩ : ∃ w4, wr.alloc (.cells #[.int .i64 kind, .int .i64 ii, .int .i64 tt, .int .i64 xx, .slice LA ys.length lc] 56) = w4 := ⟨_, rfl⟩
        have HO4 := hide (show Blk w4 g 56 #[.int .i64 kind, .int .i64 ii, .int .i64 tt, .int .i64 xx, .slice LA ys.length lc] by rw [← hw4]; exact Blk.newAt 56 _ hg.symm)
        have HB4 := hide (show Blk w4 bp 68 S.cells by rw [← hw4]; exact HB.out.alloc _)
        have HR4 := hide (show Blk w4 rp 61 S.rcells by rw [← hw4]; exact HR.out.alloc _)
        have Hb4 := hide (show Below w.heap.size w w4 by rw [← hw4]; exact Hb.out.alloc hz _)
        have hgl : g < w4.heap.size := HO4.out.lt
        have hgb : g ≠ bp := by omega
        have hgr : g ≠ rp := by omega
        have hbr : bp ≠ rp := by omega
        have HW4 := hide hw4
        clear hw4
        go_upto_block 2 with fail
        rw [HW4.out]
        try simp only [hg]
        clear q0 q1 q2 q3 q4
        have hs1 := Hok.out.strikes1
        go_cut [] (fun wx => ∃ S' : VS, S'.ok (1000 + 3 * ((j + 1 : Nat) : Int)) ∧ Calm S' ∧ Blk wx bp 68 S'.cells ∧ Blk wx rp 61 S'.rcells ∧ Blk wx g 56 #[.int .i64 kind, .int .i64 ii, .int .i64 tt, .int .i64 xx, .slice LA ys.length lc] ∧ Below w.heap.size w wx)
        case first =>
          have c1 := HO4.out.cell 1
          have c2 := HO4.out.cell 2
          have c3 := HO4.out.cell 3
          have c4 := HO4.out.cell 4
          simp only [List.getElem?_toArray, List.getElem?_cons_zero, List.getElem?_cons_succ] at c1 c2 c3 c4
          by_cases k1 : kind = 1
          · have dk : (kind == 1) = true := by simp [k1]
            as_aux_lemma =>
              have C1 := hide c1
              have C2 := hide c2
              have C3 := hide c3
              clear k1 c4
              go_wp2_with fail
              go_region_held3 (fun w' => w'.cell? ⟨g, 1, none⟩ = some (.int .i64 ii) ∧ w'.cell? ⟨g, 2, none⟩ = some (.int .i64 tt) ∧ w'.cell? ⟨g, 3, none⟩ = some (.int .i64 xx))
                (first | exact ⟨C1.out, C2.out, C3.out⟩ | exact K5.out | exact K6.out)
                (first
                  | (go_at_call 14; (with_reducible refine (put_all HB4.out.drew hs1 _ _ _).mono ?_); rintro e w5 ⟨rfl, h5, g5⟩; have H5 := hide h5; have G5 := hide g5; have K5 := hide (show w5.cell? ⟨g, 1, none⟩ = some (.int .i64 ii) ∧ w5.cell? ⟨g, 2, none⟩ = some (.int .i64 tt) ∧ w5.cell? ⟨g, 3, none⟩ = some (.int .i64 xx) from ⟨(far_cell g5 hgl hgb).trans C1.out, (far_cell g5 hgl hgb).trans C2.out, (far_cell g5 hgl hgb).trans C3.out⟩); clear h5 g5)
                  | (go_at_call 22; (with_reducible refine (rput_any (HR4.out.drew.grown G5.out (by simpa using Ne.symm hbr)) _ _ _).mono ?_); rintro e w6 ⟨rfl, h6, g6⟩; have H6 := hide h6; have G6 := hide g6; have K6 := hide (show w6.cell? ⟨g, 1, none⟩ = some (.int .i64 ii) ∧ w6.cell? ⟨g, 2, none⟩ = some (.int .i64 tt) ∧ w6.cell? ⟨g, 3, none⟩ = some (.int .i64 xx) from ⟨(far_cell g6 (Nat.lt_of_lt_of_le hgl G5.out.size) hgr).trans K5.out.1, (far_cell g6 (Nat.lt_of_lt_of_le hgl G5.out.size) hgr).trans K5.out.2.1, (far_cell g6 (Nat.lt_of_lt_of_le hgl G5.out.size) hgr).trans K5.out.2.2⟩); clear h6 g6))
              go_wp2_with fail
              go_meet
              exact two_meet hbp1 hbp2 hgb hgr hbr (put_ok Hok.out ii xx tt hxb htb.2) (by omega) (calm_put Hcalm.out _ _ _) HO4.out.drew Hb4.out.drew H5.out G5.out H6.out G6.out hrp1
          · have dk1 : (kind == 1) = false := by simp [k1]
            by_cases k2 : kind = 2
            · have dk : (kind == 2) = true := by simp [k2]
              as_aux_lemma =>
                have C2 := hide c2
                have HX := hide (rvote_any (w := w4) HR4.out Hok.out (by omega) Hcalm.out tt htb.2)
                clear k1 k2 c1 c3 c4
                go_wp2_with (first
                  | (go_at_call 15; (with_reducible refine (vote_any HB4.out Hok.out (by omega) _ htb.2).mono ?_); rintro e w5 ⟨rfl, h5, g5⟩; have H5 := hide h5; have G5 := hide g5; have c5 := (far_cell (k := 2) g5 hgl hgb).trans C2.out; clear h5 g5)
                  | (go_at_call 23; (with_reducible refine (rvote_any (HR4.out.grown G5.out (by simpa using Ne.symm hbr)) Hok.out (by omega) Hcalm.out _ htb.2).mono ?_); rintro e w6 ⟨rfl, h6, g6⟩; have H6 := hide h6; have G6 := hide g6; clear h6 g6))
                go_meet
                exact two_meet hbp1 hbp2 hgb hgr hbr (vote_ok Hok.out tt) (by omega) (calm_vote Hcalm.out hs1 tt) HO4.out Hb4.out H5.out G5.out H6.out G6.out hrp1
            · have dk2 : (kind == 2) = false := by simp [k2]
              by_cases k3 : kind = 3
              · have dk3 : (kind == 3) = true := by simp [k3]
                as_aux_lemma =>
                  have C4 := hide c4
                  have hl0 : (0 : Int) ≤ (ys.length : Int) := Int.natCast_nonneg _
                  clear k1 k2 k3 c1 c2 c3
                  go_wp2_with fail
                  go_region_held3 (fun w' => Below w4.heap.size w4 w' ∧ w'.cell? ⟨g, 4, none⟩ = some (.slice LA ys.length lc))
                    (first | exact keepB hgl C4.out (by assumption) | exact keepA hgl C4.out (by assumption) _ | exact keepB hgl C4.out (Below.refl _ _).drew | exact keepB hgl C4.out ((Below.refl _ _).drew.alloc (Nat.le_refl _) _))
                    (first
                      | (refine step_ownB (wr := w4) (by rfl) (.const (.slice none 0 0)) (.tmp 121) (by rfl) _ _ (by rfl) (by rfl) [] ys (by go_split_ands; assumption) (World.ownsRow_nil _ _ _ _) (src_below Hsrc.out (Hb4.out.trans (Below.mono (by go_split_ands; assumption) Hb4.out.size))) (by simp <;> omega) ?_; intro v1 x1 hown1 hbe1 hkp1)
                      | (refine step_ownB (wr := w4) (by rfl) (.tmp 122) (.tmp 123) (by rfl) _ _ (by rfl) (by rfl) ([] ++ ys) [-77] (by go_split_ands; assumption) (by first | assumption | exact World.ownsRow.alloc hown1 _) (by first | exact src_one _ _ _ | exact hkp1 _ _ rfl (src_one _ _ _)) (by simp <;> omega) ?_; intro v2 x2 hown2 hbe2 hkp2; rw [List.nil_append] at hown2; obtain ⟨g2, cap2, rfl, hc1, hc2, hgb2, hgl2, hcs2⟩ := own_form hown2 (by simp); simp only [List.length_append, List.length_singleton] at hc1 ⊢; have hc3 : ys.length ≤ cap2 := by omega))
                  all_goals
                    have E5 := hide hbe2
                    have HB5 := hide (HB4.out.below hbe2 HB4.out.lt)
                    have HR5 := hide (HR4.out.below hbe2 HR4.out.lt)
                    have HO5 := hide (HO4.out.below hbe2 HO4.out.lt)
                    have Hb5 := hide (Hb4.out.trans (hbe2.mono Hb4.out.size))
                    have Hc5 := hide (fun j (hj : j < ys.length) => show x2.cell? ⟨g2, j, none⟩ = some (.int .i64 ys[j]) by rw [hcs2 j (by simp; omega), List.getElem_append_left hj])
                    have Hl5 := hide (cell_last hcs2)
                    have hg2b : g2 ≠ bp := by have := HB4.out.lt; omega
                    have hg2r : g2 ≠ rp := by have := HR4.out.lt; omega
                    have hl1 : (ys.length : Int) ≤ (cap2 : Int) := by omega
                    clear hown1 hown2 hbe1 hbe2 hkp1 hkp2 hcs2
                    go_wp2_with (first
                      | (go_at_call 24; (with_reducible refine (reset_all HB5.out hs1 ys (by omega) g2 cap2 hg2b hgl2 Hc5.out).mono ?_); rintro e w7 ⟨rfl, h7, g7⟩; have H7 := hide h7; have G7 := hide g7; have c7 : w7.cell? ⟨g, 4, none⟩ = some (.slice LA ys.length lc) := (far_cell g7 HO5.out.lt hgb).trans (HO5.out.cell 4); have l7 := (far_cell g7 hgl2 hg2b).trans Hl5.out; have Hl7 := hide l7; have hgl7 := Nat.lt_of_lt_of_le hgl2 g7.size; clear h7 g7 l7)
                      | (go_at_call 25; (with_reducible refine (rreset_any (HR5.out.grown G7.out (by simpa using Ne.symm hbr)) ys (by omega) LA lc (fun h0 => by
                          obtain ⟨ga, off, e, hga, hca⟩ := Hadr.out h0
                          have hz7 := Nat.lt_of_lt_of_le hga (Nat.le_trans Hb5.out.size G7.out.size)
                          exact ⟨ga, off, e, by omega, hz7, fun j hj => (far_cell G7.out (Nat.lt_of_lt_of_le hga Hb5.out.size) (by omega)).trans ((Hb5.out.cell (p := ⟨ga, off + j, none⟩) hga).trans (hca j hj))⟩)).mono ?_); rintro e w8 ⟨rfl, h8, g8⟩; have H8 := hide h8; have G8 := hide g8; have l8 := (far_cell g8 hgl7 hg2r).trans Hl7.out; clear h8 g8))
                    go_meet
                    exact two_meet hbp1 hbp2 hgb hgr hbr (rsetS_ok Hok.out ys) (by omega) (calm_reset Hcalm.out hs1 ys) HO5.out Hb5.out H7.out G7.out H8.out G8.out hrp1
              · have dk3 : (kind == 3) = false := by simp [k3]
                clear k1 k2 k3 c1 c2 c3 c4
                go_wp2_with fail
                go_meet
                exact ⟨S, Hok.out.mono (by omega), Hcalm.out, HB4.out, HR4.out, HO4.out, Hb4.out⟩
        case rest =>
          obtain ⟨S', hok', hcalm', hB', hR', hO', hb'⟩ := hcut
          rename_i wx
          have Hok' := hide hok'
          have Hcalm' := hide hcalm'
          have HB' := hide hB'
          have HR' := hide hR'
          have HO' := hide hO'
          have Hb' := hide hb'
          have hs1' := hok'.strikes1
          have c1 := hO'.cell 1
          have c2 := hO'.cell 2
          simp only [List.getElem?_toArray, List.getElem?_cons_zero, List.getElem?_cons_succ] at c1 c2
          clear hok' hcalm' hB' hR' hO' hb'
          by_cases hir : ii < 0 ∨ 3 ≤ ii
          · rcases hir with hir | hir
            all_goals
              as_aux_lemma =>
                have HCH := hide (channel_out HB'.out hs1' ii tt (by omega))
                go_wp2_with (first
                  | (go_at_call 16; (with_reducible refine HCH.out.mono ?_); rintro e w5 ⟨rfl, hb5⟩; have H5 := hide ((HB'.out.below hb5 HB'.out.lt).alloc (.cells #[.int .i64 0, .int .i64 0, .bool false, .bool false] 40)); have HR5 := hide ((HR'.out.below hb5 HR'.out.lt).alloc (.cells #[.int .i64 0, .int .i64 0, .bool false, .bool false] 40)); have c5 := ((HO'.out.below hb5 HO'.out.lt).cell 1); simp only [List.getElem?_toArray, List.getElem?_cons_zero, List.getElem?_cons_succ] at c5; have Hb5 := hide ((Hb'.out.trans (hb5.mono Hb'.out.size)).alloc (Hb'.out.trans (hb5.mono Hb'.out.size)).size (.cells #[.int .i64 0, .int .i64 0, .bool false, .bool false] 40)); have hg5 := (HO'.out.below hb5 HO'.out.lt).lt; clear hb5)
                  | (go_at_call 20; (with_reducible refine (bad_any H5.out hs1').mono ?_); rintro e w6 ⟨rfl, hb6⟩; have H6 := hide (H5.out.below hb6 H5.out.lt); have HR6 := hide (HR5.out.below hb6 HR5.out.lt); have Hb6 := hide (Hb5.out.trans (hb6.mono Hb5.out.size)); clear hb6)
                  | (go_at_call 27; (with_reducible refine (rbads_any HR6.out).mono ?_); rintro e w7 ⟨rfl, rfl⟩))
                go_roundw
                case rel => exact ⟨j + 1, by omega, by go_num, S', Hok'.out, Hcalm'.out, H6.out, HR6.out, Hb6.out⟩
                case measure => simp [intOf]; omega
          · obtain ⟨k, rfl⟩ : ∃ k : Nat, ii = k := ⟨ii.toNat, by omega⟩
            as_aux_lemma =>
              have hk3 : k < 3 := by omega
              have hk0 : (0 : Int) ≤ (k : Int) := Int.natCast_nonneg _
              have hk1 : (k : Int) < 3 := by omega
              have dk0 : decide ((k : Int) < 0) = false := by simp
              have dk1 : decide (2 < (k : Int)) = false := by simp; omega
              have HCH := hide (channel_any HB'.out Hok'.out k hk3 tt htb.2)
              have HFR := hide (fun (W : World) (hW : Blk W rp 61 S'.rcells) => rfresh_any hW k hk3 tt htb.2 (Hok'.out.t1 k))
              have HRC := hide (fun (W : World) (hW : Blk W rp 61 S'.rcells) => (⟨by rw [hW.cell, rc_x _ k hk3], by rw [hW.cell, rc_t _ k hk3], by rw [hW.cell, rc_b _ k hk3]⟩ : W.cell? ⟨rp, 3 + k, none⟩ = some (.int .i64 (S'.x k)) ∧ W.cell? ⟨rp, 6 + k, none⟩ = some (.int .i64 (S'.t k)) ∧ W.cell? ⟨rp, 12 + k, none⟩ = some (.bool (S'.b k))))
              obtain ⟨X, hX⟩ : ∃ X, S'.x k = X := ⟨_, rfl⟩
              obtain ⟨T, hT⟩ : ∃ T, S'.t k = T := ⟨_, rfl⟩
              obtain ⟨F, hF⟩ : ∃ F, freshB S' k tt = F := ⟨_, rfl⟩
              obtain ⟨D, hD⟩ : ∃ D, S'.b k = D := ⟨_, rfl⟩
              rw [hX, hT, hF, hD] at HCH
              rw [hF] at HFR
              rw [hX, hT, hD] at HRC
              clear hir hX hT hF hD
              go_wp2_with (go_at_call 16; (with_reducible refine HCH.out.mono ?_); rintro e w5 ⟨rfl, hb5⟩; have H5 := hide (HB'.out.below hb5 HB'.out.lt); have HR5 := hide (HR'.out.below hb5 HR'.out.lt); have HO5 := hide (HO'.out.below hb5 HO'.out.lt); have c5 := (HO'.out.below hb5 HO'.out.lt).cell 1; simp only [List.getElem?_toArray, List.getElem?_cons_zero, List.getElem?_cons_succ] at c5; have Hb5 := hide (Hb'.out.trans (hb5.mono Hb'.out.size)); have hg5 := HO5.out.lt; clear hb5)
              obtain ⟨w6, hw6⟩ : ∃ w6, w5.alloc (.cells #[.int .i64 X, .int .i64 T, .bool F, .bool D] 40) = w6 := ⟨_, rfl⟩
              obtain ⟨gc, hgc⟩ : ∃ gc, w5.heap.size = gc := ⟨_, rfl⟩
              have H6 := hide (show Blk w6 bp 68 S'.cells by rw [← hw6]; exact H5.out.alloc _)
              have HR6 := hide (show Blk w6 rp 61 S'.rcells by rw [← hw6]; exact HR5.out.alloc _)
              have HO6 := hide (show Blk w6 g 56 #[.int .i64 kind, .int .i64 (k : Int), .int .i64 tt, .int .i64 xx, .slice LA ys.length lc] by rw [← hw6]; exact HO5.out.alloc _)
              have HC6 := hide (show Blk w6 gc 40 #[.int .i64 X, .int .i64 T, .bool F, .bool D] by rw [← hw6]; exact Blk.newAt 40 _ hgc.symm)
              have Hb6 := hide (show Below w.heap.size w w6 by rw [← hw6]; exact Hb5.out.alloc Hb5.out.size _)
              have HW6 := hide hw6
              clear hw6
              rw [HW6.out]
              try simp only [hgc]
              clear hgc c1 c2 c5
              obtain ⟨r0, r1, r2⟩ := HRC.out _ HR6.out
              have K9 := hide (fun w' hb => keep9 (W := w6) (w' := w') (HC6.out.cell 0) (HC6.out.cell 1) (HC6.out.cell 2) (HC6.out.cell 3) (HO6.out.cell 1) (HO6.out.cell 2) r0 r1 r2 hb)
              clear r0 r1 r2
              go_region_held3 (fun w' => Below w6.heap.size w6 w' ∧ w'.cell? ⟨gc, 0, none⟩ = some (.int .i64 X) ∧ w'.cell? ⟨gc, 1, none⟩ = some (.int .i64 T) ∧ w'.cell? ⟨gc, 2, none⟩ = some (.bool F) ∧ w'.cell? ⟨gc, 3, none⟩ = some (.bool D) ∧ w'.cell? ⟨g, 1, none⟩ = some (.int .i64 (k : Int)) ∧ w'.cell? ⟨g, 2, none⟩ = some (.int .i64 tt) ∧ w'.cell? ⟨rp, 3 + k, none⟩ = some (.int .i64 X) ∧ w'.cell? ⟨rp, 6 + k, none⟩ = some (.int .i64 T) ∧ w'.cell? ⟨rp, 12 + k, none⟩ = some (.bool D))
                (first | exact K9.out _ (Below.refl _ _).drew | exact K9.out _ (trB3 (by assumption) (by assumption)))
                (first
                  | (go_at_call 26; (with_reducible refine (HFR.out _ HR6.out.drew).mono ?_); rintro e w7 ⟨rfl, hb7⟩; have E7 := hide (trB0 (wr := w6) (Below.refl _ w6).drew hb7)))
              have H7 := hide (H6.out.below E7.out H6.out.lt)
              have HR7 := hide (HR6.out.below E7.out HR6.out.lt)
              have Hb7 := hide (Hb6.out.trans (E7.out.mono Hb6.out.size))
              go_wp2_with (first
                | (go_at_call 20; (with_reducible refine (bad_any H7.out hs1').mono ?_); rintro e w8 ⟨rfl, hb8⟩; have H8 := hide (H7.out.below hb8 H7.out.lt); have HR8 := hide (HR7.out.below hb8 HR7.out.lt); have Hb8 := hide (Hb7.out.trans (hb8.mono Hb7.out.size)); clear hb8)
                | (go_at_call 27; (with_reducible refine (rbads_any HR8.out).mono ?_); rintro e w9 ⟨rfl, rfl⟩))
              go_roundw
              case rel => exact ⟨j + 1, by omega, by go_num, S', Hok'.out, Hcalm'.out, H8.out, HR8.out, Hb8.out⟩
              case measure => simp [intOf]; omega
    · obtain rfl : j = n := by omega
      have Hb := hide hb
      clear hok hcalm hB hR hb
      go_wp2_with (go_at_call 10; refine (alive_any _).mono ?_; rintro e w' ⟨rfl, hbA⟩)
      go_ret
      exact ⟨rfl, Hb.out.trans (hbA.mono Hb.out.size)⟩

end Go.Proofs.Ytciooimbhabccaa
