/- The law PeerLate: the walk. -/
import Derived.Test.YtmcncdiiiplhcaaN
import Derived.Test.YtmcncdiiiplhcaaO
namespace Go.Proofs.Ytmcncdiiiplhcaa
open Go.RowKit Go.Maps

def lateF (t : Int) (b : Nat) : Fr := sayF 1 t (lateX t) (some ⟨b, 0, none⟩)
def two (f g : Fr) (i : Nat) : Fr := if i = 0 then f else g

theorem late_at {W : World} {t : Int} {g : Nat} (hB : Blk W g 3 #[.int .i64 (lateX t)]) (_ : 0 ≤ t) (_ : t ≤ 1099511627776) : (lateF t g).At W W.heap.size :=
  at_one hB (by unfold lateX; omega) (by unfold lateX; omega)

theorem frames_pair {W : World} {f h : Fr} {g : Nat} (hB : Blk W g 32 (f.vals ++ h.vals)) (hA : f.At W W.heap.size) (hA2 : h.At W W.heap.size) (hwf : (Lit.int .i64 f.frm).wf = true) (hwf2 : (Lit.int .i64 h.frm).wf = true) : FramesAt W W.heap.size (some ⟨g, 0, none⟩) 2 (two f h) := by
  refine ⟨fun i hi => ?_, fun _ => ⟨g, 0, rfl, hB.lt, fun i hi j v hv => ?_⟩⟩
  · obtain rfl | rfl : i = 0 ∨ i = 1 := by omega
    · exact ⟨hA, hwf⟩
    · exact ⟨hA2, hwf2⟩
  · have hj : ∀ x : Fr, x.vals.size = 5 := fun _ => rfl
    have hj5 : j < 5 := by
      have := (Array.getElem?_eq_some_iff.1 hv).1
      rw [hj] at this; exact this
    rw [hB.cell]
    obtain rfl | rfl : i = 0 ∨ i = 1 := by omega
    · rw [show 0 + 0 * 5 + j = j by omega, Array.getElem?_append_left (show j < f.vals.size from hj5)]
      exact hv
    · rw [show 0 + 1 * 5 + j = f.vals.size + j by rw [hj f, Nat.one_mul, Nat.zero_add], Array.getElem?_append_right (by omega), Nat.add_sub_cancel_left]
      exact hv

/-- the world of one frame said -/
def said1 (w : World) (t : Int) : World := (w.alloc (.cells (lateF t (w.heap.size + 1)).vals 32)).alloc (.cells #[.int .i64 (lateX t)] 3)
theorem said1_size (w : World) (t : Int) : (said1 w t).heap.size = w.heap.size + 2 := by simp [said1]
theorem said1_blk (w : World) (t : Int) : Blk (said1 w t) (w.heap.size + 1) 3 #[.int .i64 (lateX t)] := by
  have := Blk.new (w.alloc (.cells (lateF t (w.heap.size + 1)).vals 32)) 3 #[.int .i64 (lateX t)]
  simpa [said1] using this
theorem said1_peers {w : World} {t : Int} {bp bm N : Nat} {own n stale : Int} {g : Known} (h : Peers w bp bm N own n stale g) : Peers (said1 w t) bp bm N own n stale g := (h.alloc _).alloc _
theorem said1_below (w : World) (t : Int) : Below w.heap.size w (said1 w t) := ((Below.refl _ _).alloc (Nat.le_refl _) _).alloc (by simp) _
theorem said1_any (t : Int) (w : World) (h0 : 0 ≤ t) (h1 : t ≤ 1099511627776) : Calls Try.prog 10 #[.int .i64 t] w fun e w' => e = .returned (.agg #[.int .i64 1, .int .i64 1, .int .i64 t, .slice (some ⟨w.heap.size + 1, 0, none⟩) 1 1, .string ByteArray.empty]) ∧ said1 w t = w' := said_any t w h0 h1

theorem frames_late {w : World} {t : Int} (h0 : 0 ≤ t) (h1 : t ≤ 1099511627776) : FramesAt ((said1 w t).alloc (.cells (lateF t (w.heap.size + 1)).vals 32)) ((said1 w t).alloc (.cells (lateF t (w.heap.size + 1)).vals 32)).heap.size (some ⟨(said1 w t).heap.size, 0, none⟩) 1 (fun _ => lateF t (w.heap.size + 1)) :=
  frames_one (Blk.new _ _ _) (late_at ((said1_blk w t).alloc _) h0 h1) (show (Lit.int .i64 1).wf = true by decide)
theorem frames_late2 {w : World} {t : Int} (h0 : 0 ≤ t) (h1 : t ≤ 1099511627776) : FramesAt ((said1 (said1 w t) t).alloc (.cells ((lateF t (w.heap.size + 1)).vals ++ (lateF t ((said1 w t).heap.size + 1)).vals) 32)) ((said1 (said1 w t) t).alloc (.cells ((lateF t (w.heap.size + 1)).vals ++ (lateF t ((said1 w t).heap.size + 1)).vals) 32)).heap.size (some ⟨(said1 (said1 w t) t).heap.size, 0, none⟩) 2 (two (lateF t (w.heap.size + 1)) (lateF t ((said1 w t).heap.size + 1))) :=
  frames_pair (Blk.new _ _ _) (late_at ((((said1_blk w t).alloc _).alloc _).alloc _) h0 h1) (late_at ((said1_blk (said1 w t) t).alloc _) h0 h1) (show (Lit.int .i64 1).wf = true by decide) (show (Lit.int .i64 1).wf = true by decide)

theorem keep6 {W W1 W2 : World} {a b : Nat} {x0 x1 x2 y0 y1 y2 : Value} (ha : a < W.heap.size) (hb : b < W.heap.size)
    (h : Below W.heap.size W W1 ∧ W1.cell? ⟨a, 0, none⟩ = some x0 ∧ W1.cell? ⟨a, 1, none⟩ = some x1 ∧ W1.cell? ⟨a, 2, none⟩ = some x2 ∧ W1.cell? ⟨b, 0, none⟩ = some y0 ∧ W1.cell? ⟨b, 1, none⟩ = some y1 ∧ W1.cell? ⟨b, 2, none⟩ = some y2) (hB : Below W1.heap.size W1 W2) :
    Below W.heap.size W W2 ∧ W2.cell? ⟨a, 0, none⟩ = some x0 ∧ W2.cell? ⟨a, 1, none⟩ = some x1 ∧ W2.cell? ⟨a, 2, none⟩ = some x2 ∧ W2.cell? ⟨b, 0, none⟩ = some y0 ∧ W2.cell? ⟨b, 1, none⟩ = some y1 ∧ W2.cell? ⟨b, 2, none⟩ = some y2 := by
  obtain ⟨h0, a0, a1, a2, a3, a4, a5⟩ := h
  have la : a < W1.heap.size := Nat.lt_of_lt_of_le ha h0.size
  have lb : b < W1.heap.size := Nat.lt_of_lt_of_le hb h0.size
  exact ⟨h0.trans (hB.mono h0.size), (hB.cell (p := ⟨a, 0, none⟩) la).trans a0, (hB.cell (p := ⟨a, 1, none⟩) la).trans a1, (hB.cell (p := ⟨a, 2, none⟩) la).trans a2, (hB.cell (p := ⟨b, 0, none⟩) lb).trans a3, (hB.cell (p := ⟨b, 1, none⟩) lb).trans a4, (hB.cell (p := ⟨b, 2, none⟩) lb).trans a5⟩

theorem end6 {w W W1 : World} {P : Prop} (hB : Below w.heap.size w W) (h : Below W.heap.size W W1 ∧ P) : Below w.heap.size w W1 := hB.trans (h.1.mono hB.size)

attribute [local go_sem ↓] Go.wp_at_zero Go.wp_at_succ
set_option maxRecDepth 100000 in
set_option maxHeartbeats 4000000 in
theorem law_late (A : Option Addr) (len cap : Nat) (zs : List Int) (k : Int) (w : World) (hr : IsRow .i64 w A len cap zs) (hlm : len ≤ 9223372036854775807) :
    Calls Try.prog 3 #[.slice A len cap, .int .i64 k] w fun e w' => e = .returned (.bool true) ∧ Below w.heap.size w w' := by
  by_cases h1 : 60 < len
  · have d1 : decide ((60 : Int) < len) = true := by simp; omega
    go_enter Try.func3, Try.ntmps3
    go_wp2_with (go_at_call 7; refine (alive_any _).mono ?_; rintro e w' ⟨rfl, hb⟩)
    go_ret
    exact ⟨rfl, hb⟩
  have d1 : decide ((60 : Int) < len) = false := by simp; omega
  by_cases h2 : len = 0
  · have d2 : ((len : Int) == 0) = true := by simp; omega
    go_enter Try.func3, Try.ntmps3
    go_wp2_with (go_at_call 7; refine (alive_any _).mono ?_; rintro e w' ⟨rfl, hb⟩)
    go_ret
    exact ⟨rfl, hb⟩
  have d2 : ((len : Int) == 0) = false := by simp; omega
  obtain ⟨x, rfl, hlc, hcm, hzl, hcells, hwfs⟩ : ∃ x, A = some x ∧ len ≤ cap ∧ cap ≤ maxLen ∧ zs.length = cap ∧ (∀ i, i < zs.length → w.cell? (x.add i) = some (.int .i64 (zs.getD i 0))) ∧ ∀ n ∈ zs, (Lit.int .i64 n).wf = true := by
    rcases hr with ⟨_, h0, _⟩ | h
    · omega
    · exact h
  obtain ⟨T, hT⟩ : ∃ T : Nat → Int, ∀ i, zs.getD i 0 = T i := ⟨_, fun _ => rfl⟩
  have Hc : Hid (∀ i, i < len → w.cell? (x.add i) = some (.int .i64 (T i)) ∧ x.block < w.heap.size) := hide fun i hi => by
    have h := hcells i (by omega)
    rw [hT] at h
    refine ⟨h, ?_⟩
    have : (x.add i).block = x.block := by unfold Addr.add; split <;> rfl
    rcases Nat.lt_or_ge (x.add i).block w.heap.size with h' | h'
    · omega
    · simp [World.cell?, Array.getElem?_eq_none h'] at h
  clear hcells hwfs hzl hr hT
  have h0 : newOk 0 2 1000 = true := rfl
  go_enter Try.func3, Try.ntmps3
  go_wp2_with fail
  refine (new_yes 0 2 1000 w h0).mono ?_
  rintro e w1 ⟨rfl, hP1, hb1, hs1⟩
  go_wp2_with fail
  refine (new_yes 0 2 1000 w1 h0).mono ?_
  rintro e w2 ⟨rfl, hQ2, hb2, hs2⟩
  have hP2 := hP1.below hb2 hP1.lt.1 hP1.lt.2
  have hbb := hb1.trans (hb2.mono (by omega))
  obtain ⟨bq, hbq⟩ : ∃ bq, w1.heap.size = bq := ⟨_, rfl⟩
  obtain ⟨bp, hbp⟩ : ∃ bp, w.heap.size = bp := ⟨_, rfl⟩
  rw [hbq] at hQ2 hs2 ⊢
  rw [hbq] at hs1
  simp only [hbp] at hP2 hs1 ⊢
  have HP2 := hide hP2
  have HQ2 := hide hQ2
  have Hbb := hide hbb
  clear hP1 hP2 hQ2 hb1 hb2 hbb
  have t1 : k.tmod (len : Int) < len := Int.tmod_lt_of_pos k (by omega)
  have t2 : -(len : Int) < k.tmod len := by
    have := Int.tmod_lt_of_pos (-k) (show (0 : Int) < len by omega)
    rw [Int.neg_tmod] at this
    omega
  go_upto_if 55 with fail
  go_cut [1] (fun s1 wx => ∃ K : Nat, K < len ∧ s1 = .int .i64 K ∧ w2 = wx)
  case first =>
    go_wp2_with fail
    all_goals go_meet
    all_goals first
      | exact ⟨(k.tmod len + len).toNat, by omega, by rw [Int.toNat_of_nonneg (by omega)], rfl⟩
      | exact ⟨(k.tmod len).toNat, by omega, by rw [Int.toNat_of_nonneg (by omega)], rfl⟩
  case rest =>
    obtain ⟨K, hK, rfl, rfl⟩ := hcut
    clear t1 t2
    go_wp2_with fail
    go_loopw [9, 10] (fun m i wr => ∃ j : Nat, j ≤ len ∧ i = .int .i64 j ∧ m = .int .i64 (mxF T j) ∧ (∀ x, x < j → 0 ≤ T x ∧ T x ≤ 1099511627776) ∧ Peers wr (bp + 1) bp j 0 2 1000 (lateG (mxF T j)) ∧ Peers wr (bq + 1) bq (2 * j) 0 2 1000 (lateG (mxF (fun i => T ((i + K) % len)) j)) ∧ Below w.heap.size w wr) (fun _ i _ => len - (intOf i).toNat)
    case atStart => exact ⟨0, Nat.zero_le _, rfl, rfl, fun x hx => absurd hx (Nat.not_lt_zero x), HP2.out, HQ2.out, Hbb.out⟩
    case round =>
      obtain ⟨j, hj, rfl, rfl, hTb, hP, hQ, hb⟩ := hrel
      by_cases hlt : j < len
      · have hN : (j + K) % len < len := Nat.mod_lt _ (by omega)
        have hc := (Hc.out j hlt).1
        have hc2 := (Hc.out _ hN).1
        have hx := (Hc.out j hlt).2
        have ex : ∀ i, (x.add i).block = x.block := fun i => by unfold Addr.add; split <;> rfl
        rw [← hb.cell (p := x.add j) (by rw [ex]; exact hx)] at hc
        rw [← hb.cell (p := x.add ((j + K) % len)) (by rw [ex]; exact hx)] at hc2
        clear ex hx
        obtain ⟨t, ht⟩ : ∃ t, T j = t := ⟨_, rfl⟩
        obtain ⟨s, hs⟩ : ∃ s, T ((j + K) % len) = s := ⟨_, rfl⟩
        rw [ht] at hc
        rw [hs] at hc2
        have hrem : ((j : Int) + K).tmod len = (((j + K) % len : Nat) : Int) := by
          rw [Int.tmod_eq_emod_of_nonneg (by omega)]
          simp
        have HP := hide hP
        have HQ := hide hQ
        have HB := hide hb
        have HTb := hide hTb
        clear hP hQ hb hTb
        generalize hNN : (j + K) % len = NN at *
        by_cases ht0 : 0 ≤ t ∧ t ≤ 1099511627776
        · by_cases hs0 : 0 ≤ s ∧ s ≤ 1099511627776
          · obtain ⟨ht0, ht1⟩ := ht0
            obtain ⟨hs0, hs1⟩ := hs0
            go_wp2_with fail
            refine (said1_any t wr ht0 ht1).mono ?_
            rintro e w' ⟨rfl, rfl⟩
            go_wp2_with fail
            refine (hear_any ((said1_peers HP.out).alloc _) _ 1 1 _ (frames_late ht0 ht1) (by decide) (by omega)).mono ?_
            rintro e w3 ⟨rfl, hP3, hg3⟩
            have hQ3 := ((said1_peers (t := t) HQ.out).alloc (.cells (lateF t (wr.heap.size + 1)).vals 32)).kept hg3 (fun e => by injection e; omega) (fun e => by injection e; omega)
            have hz := HB.out.size
            have hb3 : Below w.heap.size w w3 := ((HB.out.trans ((said1_below wr t).mono hz)).alloc (by rw [said1_size]; omega) _).grown hg3 (by have := said1_size wr t; simp; omega) (fun k hk => by injection hk; omega)
            have hP4 : Peers w3 (bp + 1) bp (j + 1) 0 2 1000 (lateG (mxF T (j + 1))) := by
              rw [show mxF T (j + 1) = max (mxF T j) t by rw [mxF, ht], ← late_hear (mxF T j) t (some ⟨wr.heap.size + 1, 0, none⟩) ht0 ht1]
              exact hP3
            clear hP3 hg3 HP HQ HB hc hc2 hz
            have HB3 := hide hb3
            have HP4 := hide hP4
            have HQ3 := hide hQ3
            clear hb3 hP4 hQ3
            go_wp2_with fail
            refine (said1_any s w3 hs0 hs1).mono ?_
            rintro e w' ⟨rfl, rfl⟩
            go_wp2_with fail
            refine (said1_any s (said1 w3 s) hs0 hs1).mono ?_
            rintro e w' ⟨rfl, rfl⟩
            go_wp2_with fail
            refine (hear_any ((said1_peers (said1_peers HQ3.out)).alloc _) _ 2 2 _ (frames_late2 hs0 hs1) (by decide) (by omega)).mono ?_
            rintro e w5 ⟨rfl, hQ5, hg5⟩
            have hP5 := ((said1_peers (t := s) (said1_peers (t := s) HP4.out)).alloc (.cells ((lateF s (w3.heap.size + 1)).vals ++ (lateF s ((said1 w3 s).heap.size + 1)).vals) 32)).kept hg5 (fun e => by injection e; omega) (fun e => by injection e; omega)
            have hz := HB3.out.size
            have hz2 := said1_size w3 s
            have hz3 := said1_size (said1 w3 s) s
            have hb5 : Below w.heap.size w w5 := (((HB3.out.trans ((said1_below w3 s).mono hz)).trans ((said1_below (said1 w3 s) s).mono (by omega))).alloc (by omega) _).grown hg5 (by simp; omega) (fun k hk => by injection hk; omega)
            have hQ6 : Peers w5 (bq + 1) bq (2 * (j + 1)) 0 2 1000 (lateG (mxF (fun i => T ((i + K) % len)) (j + 1))) := by
              have e : max (max (mxF (fun i => T ((i + K) % len)) j) s) s = mxF (fun i => T ((i + K) % len)) (j + 1) := by
                rw [mxF, hNN, hs]; omega
              rw [← e, ← late_hear _ s (some ⟨(said1 w3 s).heap.size + 1, 0, none⟩) hs0 hs1, ← late_hear _ s (some ⟨w3.heap.size + 1, 0, none⟩) hs0 hs1, show 2 * (j + 1) = 2 * j + 2 by omega]
              exact hQ5
            clear hQ5 hg5 HP4 HQ3 HB3 hz hz2 hz3
            have HP5 := hide hP5
            have HQ6 := hide hQ6
            have HB5 := hide hb5
            clear hP5 hQ6 hb5
            go_wp2_with fail
            go_roundw
            case rel =>
              refine ⟨j + 1, by omega, by go_num, by rw [mxF, ht], fun y hy => ?_, HP5.out, HQ6.out, HB5.out⟩
              by_cases e : y = j
              · subst e; rw [ht]; exact ⟨ht0, ht1⟩
              · exact HTb.out y (by omega)
            case measure => simp [intOf]; omega
          · have hd : s < 0 ∨ 1099511627776 < s := by omega
            obtain ⟨ht0, ht1⟩ := ht0
            clear hs0
            have HB := HB.out
            rcases hd with hd | hd
            all_goals
              go_wp2_with (go_at_call 7; refine (alive_any _).mono ?_; rintro e w' ⟨rfl, hb⟩)
              go_ret
              exact ⟨rfl, HB.trans (hb.mono HB.size)⟩
        · have hd : t < 0 ∨ 1099511627776 < t := by omega
          clear ht0
          have HB := HB.out
          rcases hd with hd | hd
          all_goals
            go_wp2_with (go_at_call 7; refine (alive_any _).mono ?_; rintro e w' ⟨rfl, hb⟩)
            go_ret
            exact ⟨rfl, HB.trans (hb.mono HB.size)⟩
      · obtain rfl : j = len := by omega
        have hn : 0 < j := by omega
        have hmx := mxF_turned T j K (fun i hi => (hTb i hi).1) hn
        obtain ⟨i0, hi0, ei0⟩ := mxF_at T j (fun i hi => (hTb i hi).1) hn
        have hM := hTb i0 hi0
        rw [ei0] at hM
        rw [hmx] at hQ
        clear hmx ei0 hi0 hTb Hc
        obtain ⟨M, eM⟩ : ∃ M, mxF T j = M := ⟨_, rfl⟩
        rw [eM] at hM hP hQ ⊢
        clear eM HP2 HQ2 Hbb
        have Hb := hide hb
        clear hb
        obtain ⟨hM0, hM1⟩ := hM
        go_wp2_with fail
        refine (seen_any hP (M + 3) (wf_of ⟨by omega, by omega⟩)).mono ?_
        rintro e w6 ⟨v, rfl, hrow, hb6⟩
        rw [late_seen M hM0] at hrow
        obtain ⟨A6, cap6, rfl, hcs6⟩ := rowForm3 hrow
        obtain ⟨b6, rfl, hbl6, hbm6, hcs6⟩ := hcs6 (by simp)
        have hP6 := hP.below hb6 hP.lt.1 hP.lt.2
        have hQ6 := hQ.below hb6 hQ.lt.1 hQ.lt.2
        have hb7 := Hb.out.trans (hb6.mono Hb.out.size)
        have a0 : w6.cell? ⟨b6, 0, none⟩ = some (.int .i64 1) := hcs6 0 _ rfl
        have a1 : w6.cell? ⟨b6, 1, none⟩ = some (.int .i64 (M % 1000)) := hcs6 1 _ rfl
        have a2 : w6.cell? ⟨b6, 2, none⟩ = some (.int .i64 3) := hcs6 2 _ rfl
        have HA := hide (And.intro a0 (And.intro a1 a2))
        have HB7 := hide hb7
        clear hcs6 hrow hP hQ hb6 a0 a1 a2 Hb hb7
        simp only [List.length_cons, List.length_nil]
        go_wp2_with fail
        refine (seen_any hQ6 (M + 3) (wf_of ⟨by omega, by omega⟩)).mono ?_
        rintro e w7 ⟨v, rfl, hrow, hb8⟩
        rw [late_seen M hM0] at hrow
        obtain ⟨A7, cap7, rfl, hcs7⟩ := rowForm3 hrow
        obtain ⟨b7, rfl, hbl7, hbm7, hcs7⟩ := hcs7 (by simp)
        have hP8 := hP6.below hb8 hP6.lt.1 hP6.lt.2
        have hb9 := HB7.out.trans (hb8.mono HB7.out.size)
        have a0 := (hb8.cell (p := ⟨b6, 0, none⟩) hbm6).trans HA.out.1
        have a1 := (hb8.cell (p := ⟨b6, 1, none⟩) hbm6).trans HA.out.2.1
        have a2 := (hb8.cell (p := ⟨b6, 2, none⟩) hbm6).trans HA.out.2.2
        have c0 : w7.cell? ⟨b7, 0, none⟩ = some (.int .i64 1) := hcs7 0 _ rfl
        have c1 : w7.cell? ⟨b7, 1, none⟩ = some (.int .i64 (M % 1000)) := hcs7 1 _ rfl
        have c2 : w7.cell? ⟨b7, 2, none⟩ = some (.int .i64 3) := hcs7 2 _ rfl
        have hbm6' : b6 < w7.heap.size := Nat.lt_of_lt_of_le hbm6 hb8.size
        obtain ⟨W, hW⟩ : ∃ W, w7 = W := ⟨_, rfl⟩
        subst hW
        clear hcs7 hrow hP6 hQ6 hb8 HA HB7 hbl6 hbl7 hbm6
        simp only [List.length_cons, List.length_nil]
        have h37 := eq37
        obtain ⟨e1, e2⟩ := late_heard M hM0
        have E1 := hide e1
        have E2 := hide e2
        clear e1 e2
        have hrem3 : M.tmod 1000 = M % 1000 := Int.tmod_eq_emod_of_nonneg hM0
        have hr0 : 0 ≤ M % 1000 := by omega
        have hr1 : M % 1000 < 1000 := by omega
        have w1000 : IntKind.i64.wrap (M + 1000) = M + 1000 := by rw [IntKind.wrap_i64]; omega
        have w1001 : IntKind.i64.wrap (M + 1001) = M + 1001 := by rw [IntKind.wrap_i64]; omega
        go_upto_region 28 with fail
        go_region_held3 (fun w' => Below w7.heap.size w7 w' ∧ w'.cell? ⟨b6, 0, none⟩ = some (.int .i64 1) ∧ w'.cell? ⟨b6, 1, none⟩ = some (.int .i64 (M % 1000)) ∧ w'.cell? ⟨b6, 2, none⟩ = some (.int .i64 3) ∧ w'.cell? ⟨b7, 0, none⟩ = some (.int .i64 1) ∧ w'.cell? ⟨b7, 1, none⟩ = some (.int .i64 (M % 1000)) ∧ w'.cell? ⟨b7, 2, none⟩ = some (.int .i64 3))
          (first | exact ⟨(Below.refl _ _).drew, a0, a1, a2, c0, c1, c2⟩ | exact keep6 hbm6' hbm7 (by assumption) (by assumption) | assumption)
          (first
            | (go_at_call 7; refine (alive_any _).mono ?_; rintro e w' ⟨rfl, hb⟩)
            | (go_at_call 12; ((with_reducible refine (heard_any (hP8.below (And.left (by assumption)) hP8.lt.1 hP8.lt.2) _ (wf_of ⟨by omega, by omega⟩)).mono ?_); rintro e w' ⟨rfl, hb⟩; first | rw [E1.out] | rw [E2.out])))
        all_goals go_wp2
        all_goals go_ret
        all_goals exact ⟨rfl, end6 hb9 (by assumption)⟩

end Go.Proofs.Ytmcncdiiiplhcaa
