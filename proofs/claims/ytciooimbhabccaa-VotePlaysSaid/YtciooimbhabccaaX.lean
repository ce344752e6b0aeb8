/- The reference's great whole numbers: Neg, Add, Of, Compare; Far. -/
import Derived.Test.YtciooimbhabccaaV
import Derived.Deep.RegionHeld3
namespace Go.Proofs.Ytciooimbhabccaa
open Go.RowKit

theorem one_new (w : World) (A : BG) : Blk (w.alloc (.cells A.cells 46)) w.heap.size 46 A.cells ∧ Below w.heap.size w (w.alloc (.cells A.cells 46)) := ⟨Blk.newAt 46 _ rfl, (Below.refl _ _).alloc (Nat.le_refl _) _⟩
theorem BG.cell0 {w : World} {g : Nat} {A : BG} (h : Blk w g 46 A.cells) : w.cell? ⟨g, 0, none⟩ = some (.bool A.m) := by rw [h.cell]; rfl
theorem BG.setM {w : World} {g : Nat} {A : BG} (h : Blk w g 46 A.cells) (m : Bool) : Blk (w.setCell ⟨g, 0, none⟩ (.bool m)) g 46 (BG.cells ⟨m, A.d⟩) := h.set 0 (.bool m)

def ZB : BG := ⟨false, fun _ => 0⟩

set_option maxRecDepth 100000 in
set_option maxHeartbeats 1000000 in
theorem neg_any (A : BG) (w : World) : Calls Try.prog 34 #[.agg A.cells] w fun e w' => e = .returned (.agg (negB A).cells) ∧ Below w.heap.size w w' := by
  obtain ⟨n1, n2, n4⟩ := two_new w A ⟨false, fun _ => 0⟩
  have N1 := hide n1
  have N2 := hide n2
  have N4 := hide n4
  have HZ := hide (zero_any A)
  obtain ⟨R, hR⟩ : ∃ R : BG, negB A = R := ⟨_, rfl⟩
  rw [hR]
  unfold negB at hR
  have HR := hide hR
  clear n1 n2 n4 hR
  cases hz : zeroD A.d
  · have Hz := hide hz
    clear hz
    go_enter Try.func34, Try.ntmps34
    go_wp2_with (first
      | (refine loadB (by rfl) (.tmp 1) (by rfl) _ _ (by rfl) N1.out ?_)
      | (go_at_call 35; refine (HZ.out _).mono ?_; rintro e w1 ⟨rfl, hb1⟩; rw [Hz.out]; have m1 := N1.out.below hb1 N1.out.lt; have c0 := BG.cell0 m1; have f0 := m1.frozen; have M1 := hide (BG.setM m1 (!A.m)); have M2 := hide ((N2.out.below hb1 N2.out.lt).setNe (g' := w.heap.size) (i := 0) (v := .bool (!A.m)) (by omega)); have HB := hide ((N4.out.trans (hb1.mono N4.out.size)).setCell (p := ⟨w.heap.size, 0, none⟩) (Nat.le_refl _) (.bool (!A.m))); clear m1 hb1)
      | (refine loadB (by rfl) (.tmp 1) (by rfl) _ _ (by rfl) M1.out ?_)
      | (refine storeB (by rfl) (.tmp 2) (.tmp 10) (by rfl) _ _ _ (by rfl) (by rfl) M2.out ?_; intro W' hW hK hB hz))
    refine bodyPost_ret (v := .agg (BG.cells ⟨!A.m, A.d⟩)) (retB rfl _ _ _ _ rfl hW) rfl ⟨by rw [← HR.out, Hz.out]; rfl, hB _ _ (by omega) HB.out⟩
  · have Hz := hide hz
    clear hz
    go_enter Try.func34, Try.ntmps34
    go_wp2_with (first
      | (refine loadB (by rfl) (.tmp 1) (by rfl) _ _ (by rfl) N1.out ?_)
      | (go_at_call 35; refine (HZ.out _).mono ?_; rintro e w1 ⟨rfl, hb1⟩; rw [Hz.out]; have M1 := hide (N1.out.below hb1 N1.out.lt); have M2 := hide (N2.out.below hb1 N2.out.lt); have HB := hide (N4.out.trans (hb1.mono N4.out.size)); clear hb1)
      | (refine loadB (by rfl) (.tmp 1) (by rfl) _ _ (by rfl) M1.out ?_)
      | (refine storeB (by rfl) (.tmp 2) (.tmp 10) (by rfl) _ _ _ (by rfl) (by rfl) M2.out ?_; intro W' hW hK hB hz))
    refine bodyPost_ret (v := .agg A.cells) (retB rfl _ _ _ _ rfl hW) rfl ⟨by rw [← HR.out, Hz.out]; rfl, hB _ _ (by omega) HB.out⟩

theorem addB_s (m : Bool) (x y : Nat → Int) (h : sz x y 6 < 0) (hz : zeroD (ld y x) = false) : addB ⟨m, x⟩ ⟨!m, y⟩ = ⟨!m, ld y x⟩ := by
  unfold addB subB
  cases m <;> simp [h, hz]
theorem addB_sz (m : Bool) (x y : Nat → Int) (h : sz x y 6 < 0) (hz : zeroD (ld y x) = true) : addB ⟨m, x⟩ ⟨!m, y⟩ = ⟨false, ld y x⟩ := by
  unfold addB subB
  cases m <;> simp [h, hz]
theorem addB_n (m : Bool) (x y : Nat → Int) (h : ¬ sz x y 6 < 0) (hz : zeroD (ld x y) = false) : addB ⟨m, x⟩ ⟨!m, y⟩ = ⟨m, ld x y⟩ := by
  unfold addB subB
  rw [if_neg h]
  cases m <;> simp [hz]
theorem addB_nz (m : Bool) (x y : Nat → Int) (h : ¬ sz x y 6 < 0) (hz : zeroD (ld x y) = true) : addB ⟨m, x⟩ ⟨!m, y⟩ = ⟨false, ld x y⟩ := by
  unfold addB subB
  rw [if_neg h]
  cases m <;> simp [hz]

set_option maxRecDepth 100000 in
set_option maxHeartbeats 4000000 in
theorem add_any (A B : BG) (hA : dig A.d) (hB : dig B.d) (w : World) : Calls Try.prog 33 #[.agg A.cells, .agg B.cells] w fun e w' => e = .returned (.agg (addB A B).cells) ∧ Below w.heap.size w w' := by
  obtain ⟨ma, da⟩ := A
  obtain ⟨mb, db⟩ := B
  obtain ⟨n1, n2, n3, n4⟩ := three_new w ⟨ma, da⟩ ⟨mb, db⟩ ZB
  have hda : dig da := hA
  have hdb : dig db := hB
  clear hA hB
  have N1 := hide n1
  have N2 := hide n2
  have N3 := hide n3
  have N4 := hide n4
  have x1 : (BG.cells ⟨ma, da⟩)[0]? = some (.bool ma) := rfl
  have x2 : (BG.cells ⟨mb, db⟩)[0]? = some (.bool mb) := rfl
  have HP := hide (plus_any ⟨ma, da⟩ ⟨mb, db⟩ hda hdb)
  obtain ⟨R, hR⟩ : ∃ R : BG, addB ⟨ma, da⟩ ⟨mb, db⟩ = R := ⟨_, rfl⟩
  rw [hR]
  have HR := hide hR
  clear n1 n2 n3 n4 hR
  cases ma <;> cases mb
  · -- the same sign
    go_enter Try.func33, Try.ntmps33
    go_wp2_with (first
      | (refine loadB (by rfl) (.tmp 2) (by rfl) _ _ (by rfl) N1.out ?_)
      | (refine loadB (by rfl) (.tmp 3) (by rfl) _ _ (by rfl) N2.out ?_)
      | (go_at_call 41; refine (HP.out _).mono ?_; rintro e w1 ⟨rfl, hb1⟩; have M3 := hide (N3.out.below hb1 N3.out.lt); have HB := hide (N4.out.trans (hb1.mono N4.out.size)); clear hb1)
      | (refine storeB (by rfl) (.tmp 4) (.tmp 13) (by rfl) _ _ _ (by rfl) (by rfl) M3.out ?_; intro W' hW hK hB hz))
    refine bodyPost_ret (v := .agg (BG.cells ⟨false, pd da db⟩)) (retB rfl _ _ _ _ rfl hW) rfl ⟨by rw [← HR.out]; rfl, hB _ _ (by omega) HB.out⟩
  · -- signs false, true
    have HS := hide (size_any ⟨false, da⟩ ⟨true, db⟩)
    obtain ⟨sv, hs⟩ : ∃ sv, sz da db 6 = sv := ⟨_, rfl⟩
    have Hs := hide hs
    clear hs
    by_cases hlt : sv < 0
    · have dl : decide (sv < 0) = true := by simp [hlt]
      have HL := hide (less_any ⟨true, db⟩ ⟨false, da⟩ hdb hda)
      have HZ := hide (zero_any ⟨true, ld db da⟩)
      clear hda hdb
      cases hz : zeroD (ld db da)
      · have Hz := hide hz
        clear hz
        go_enter Try.func33, Try.ntmps33
        go_wp2_with (first
          | (refine loadB (by rfl) (.tmp 2) (by rfl) _ _ (by rfl) N1.out ?_)
          | (refine loadB (by rfl) (.tmp 3) (by rfl) _ _ (by rfl) N2.out ?_)
          | (go_at_call 42; refine (HS.out _).mono ?_; rintro e w1 ⟨rfl, hb1⟩; rw [Hs.out]; have M1 := hide (N1.out.below hb1 N1.out.lt); have M2 := hide (N2.out.below hb1 N2.out.lt); have M3 := hide (N3.out.below hb1 N3.out.lt); have HB1 := hide (N4.out.trans (hb1.mono N4.out.size)); clear hb1)
          | (refine loadB (by rfl) (.tmp 3) (by rfl) _ _ (by rfl) M2.out ?_)
          | (refine loadB (by rfl) (.tmp 2) (by rfl) _ _ (by rfl) M1.out ?_)
          | (refine storeB (by rfl) (.tmp 2) (.tmp 18) (by rfl) _ _ _ (by rfl) (by rfl) M1.out ?_; intro w2 hW hK hB hz; have P1 := hide hW; have P2 := hide (hK _ _ _ (by omega) M2.out); have P3 := hide (hK _ _ _ (by omega) M3.out); have HB2 := hide (hB _ _ (by omega) HB1.out); clear hW hK hB hz)
          | (refine storeB (by rfl) (.tmp 3) (.tmp 19) (by rfl) _ _ _ (by rfl) (by rfl) P2.out ?_; intro w3 hW hK hB hz; have R2 := hide hW; have R1 := hide (hK _ _ _ (by omega) P1.out); have R3 := hide (hK _ _ _ (by omega) P3.out); have HB3 := hide (hB _ _ (by omega) HB2.out); clear hW hK hB hz)
          | (refine loadB (by rfl) (.tmp 2) (by rfl) _ _ (by rfl) R1.out ?_)
          | (refine loadB (by rfl) (.tmp 3) (by rfl) _ _ (by rfl) R2.out ?_)
          | (go_at_call 43; refine (HL.out _).mono ?_; rintro e w4 ⟨rfl, hb4⟩; have S3 := hide ((R3.out.below hb4 R3.out.lt).alloc (.cells ZB.cells 46)); have HB4 := hide (HB3.out.trans (hb4.mono HB3.out.size)); have hz4 := HB4.out.size; have HB5 := hide (HB4.out.alloc HB4.out.size (.cells ZB.cells 46)); have S5 := hide (Blk.newAt (w := w4) 46 ZB.cells rfl); have hl3 := (R3.out.below hb4 R3.out.lt).lt; clear hb4)
          | (refine storeB (by rfl) (.tmp 5) (.tmp 22) (by rfl) _ _ _ (by rfl) (by rfl) S5.out ?_; intro w5 hW hK hB hz; have T5 := hide hW; have T3 := hide (hK _ _ _ (by omega) S3.out); have HB6 := hide (hB _ _ (by omega) HB5.out); clear hW hK hB hz)
          | (refine loadB (by rfl) (.tmp 5) (by rfl) _ _ (by rfl) T5.out ?_)
          | (go_at_call 35; refine (HZ.out _).mono ?_; rintro e w6 ⟨rfl, hb6⟩; rw [Hz.out]; have U5 := hide (T5.out.below hb6 T5.out.lt); have U3 := hide (T3.out.below hb6 T3.out.lt); have HB7 := hide (HB6.out.trans (hb6.mono HB6.out.size)); clear hb6)
          | (refine loadB (by rfl) (.tmp 5) (by rfl) _ _ (by rfl) U5.out ?_)
          | (refine storeB (by rfl) (.tmp 4) (.tmp 26) (by rfl) _ _ _ (by rfl) (by rfl) U3.out ?_; intro W' hW hK hB hz))
        refine bodyPost_ret (v := .agg (BG.cells ⟨true, ld db da⟩)) (retB rfl _ _ _ _ rfl hW) rfl ⟨by rw [← HR.out]; exact congrArg (fun R : BG => Ending.returned (.agg R.cells)) (addB_s false _ _ (by rw [Hs.out]; omega) Hz.out).symm, hB _ _ (by omega) HB7.out⟩
      · have Hz := hide hz
        clear hz
        go_enter Try.func33, Try.ntmps33
        go_wp2_with (first
          | (refine loadB (by rfl) (.tmp 2) (by rfl) _ _ (by rfl) N1.out ?_)
          | (refine loadB (by rfl) (.tmp 3) (by rfl) _ _ (by rfl) N2.out ?_)
          | (go_at_call 42; refine (HS.out _).mono ?_; rintro e w1 ⟨rfl, hb1⟩; rw [Hs.out]; have M1 := hide (N1.out.below hb1 N1.out.lt); have M2 := hide (N2.out.below hb1 N2.out.lt); have M3 := hide (N3.out.below hb1 N3.out.lt); have HB1 := hide (N4.out.trans (hb1.mono N4.out.size)); clear hb1)
          | (refine loadB (by rfl) (.tmp 3) (by rfl) _ _ (by rfl) M2.out ?_)
          | (refine loadB (by rfl) (.tmp 2) (by rfl) _ _ (by rfl) M1.out ?_)
          | (refine storeB (by rfl) (.tmp 2) (.tmp 18) (by rfl) _ _ _ (by rfl) (by rfl) M1.out ?_; intro w2 hW hK hB hz; have P1 := hide hW; have P2 := hide (hK _ _ _ (by omega) M2.out); have P3 := hide (hK _ _ _ (by omega) M3.out); have HB2 := hide (hB _ _ (by omega) HB1.out); clear hW hK hB hz)
          | (refine storeB (by rfl) (.tmp 3) (.tmp 19) (by rfl) _ _ _ (by rfl) (by rfl) P2.out ?_; intro w3 hW hK hB hz; have R2 := hide hW; have R1 := hide (hK _ _ _ (by omega) P1.out); have R3 := hide (hK _ _ _ (by omega) P3.out); have HB3 := hide (hB _ _ (by omega) HB2.out); clear hW hK hB hz)
          | (refine loadB (by rfl) (.tmp 2) (by rfl) _ _ (by rfl) R1.out ?_)
          | (refine loadB (by rfl) (.tmp 3) (by rfl) _ _ (by rfl) R2.out ?_)
          | (go_at_call 43; refine (HL.out _).mono ?_; rintro e w4 ⟨rfl, hb4⟩; have S3 := hide ((R3.out.below hb4 R3.out.lt).alloc (.cells ZB.cells 46)); have HB4 := hide (HB3.out.trans (hb4.mono HB3.out.size)); have hz4 := HB4.out.size; have HB5 := hide (HB4.out.alloc HB4.out.size (.cells ZB.cells 46)); have S5 := hide (Blk.newAt (w := w4) 46 ZB.cells rfl); have hl3 := (R3.out.below hb4 R3.out.lt).lt; clear hb4)
          | (refine storeB (by rfl) (.tmp 5) (.tmp 22) (by rfl) _ _ _ (by rfl) (by rfl) S5.out ?_; intro w5 hW hK hB hz; have T5 := hide hW; have T3 := hide (hK _ _ _ (by omega) S3.out); have HB6 := hide (hB _ _ (by omega) HB5.out); clear hW hK hB hz)
          | (refine loadB (by rfl) (.tmp 5) (by rfl) _ _ (by rfl) T5.out ?_)
          | (go_at_call 35; refine (HZ.out _).mono ?_; rintro e w6 ⟨rfl, hb6⟩; rw [Hz.out]; have u5 := T5.out.below hb6 T5.out.lt; have c0 := BG.cell0 u5; have f0 := u5.frozen; have U5 := hide (BG.setM u5 false); have U3 := hide ((T3.out.below hb6 T3.out.lt).setNe (g' := w4.heap.size) (i := 0) (v := .bool false) (by omega)); have HB7 := hide ((HB6.out.trans (hb6.mono HB6.out.size)).setCell (p := ⟨w4.heap.size, 0, none⟩) (by omega) (.bool false)); clear hb6 u5)
          | (refine loadB (by rfl) (.tmp 5) (by rfl) _ _ (by rfl) U5.out ?_)
          | (refine storeB (by rfl) (.tmp 4) (.tmp 26) (by rfl) _ _ _ (by rfl) (by rfl) U3.out ?_; intro W' hW hK hB hz))
        refine bodyPost_ret (v := .agg (BG.cells ⟨false, ld db da⟩)) (retB rfl _ _ _ _ rfl hW) rfl ⟨by rw [← HR.out]; exact congrArg (fun R : BG => Ending.returned (.agg R.cells)) (addB_sz false _ _ (by rw [Hs.out]; omega) Hz.out).symm, hB _ _ (by omega) HB7.out⟩
    · have dl : decide (sv < 0) = false := by simp; omega
      have HL := hide (less_any ⟨false, da⟩ ⟨true, db⟩ hda hdb)
      have HZ := hide (zero_any ⟨false, ld da db⟩)
      clear hda hdb
      cases hz : zeroD (ld da db)
      · have Hz := hide hz
        clear hz
        go_enter Try.func33, Try.ntmps33
        go_wp2_with (first
          | (refine loadB (by rfl) (.tmp 2) (by rfl) _ _ (by rfl) N1.out ?_)
          | (refine loadB (by rfl) (.tmp 3) (by rfl) _ _ (by rfl) N2.out ?_)
          | (go_at_call 42; refine (HS.out _).mono ?_; rintro e w1 ⟨rfl, hb1⟩; rw [Hs.out]; have M1 := hide (N1.out.below hb1 N1.out.lt); have M2 := hide (N2.out.below hb1 N2.out.lt); have M3 := hide (N3.out.below hb1 N3.out.lt); have HB1 := hide (N4.out.trans (hb1.mono N4.out.size)); clear hb1)
          | (refine loadB (by rfl) (.tmp 3) (by rfl) _ _ (by rfl) M2.out ?_)
          | (refine loadB (by rfl) (.tmp 2) (by rfl) _ _ (by rfl) M1.out ?_)
          | (go_at_call 43; refine (HL.out _).mono ?_; rintro e w4 ⟨rfl, hb4⟩; have S3 := hide ((M3.out.below hb4 M3.out.lt).alloc (.cells ZB.cells 46)); have HB4 := hide (HB1.out.trans (hb4.mono HB1.out.size)); have hz4 := HB4.out.size; have HB5 := hide (HB4.out.alloc HB4.out.size (.cells ZB.cells 46)); have S5 := hide (Blk.newAt (w := w4) 46 ZB.cells rfl); have hl3 := (M3.out.below hb4 M3.out.lt).lt; clear hb4)
          | (refine storeB (by rfl) (.tmp 5) (.tmp 22) (by rfl) _ _ _ (by rfl) (by rfl) S5.out ?_; intro w5 hW hK hB hz; have T5 := hide hW; have T3 := hide (hK _ _ _ (by omega) S3.out); have HB6 := hide (hB _ _ (by omega) HB5.out); clear hW hK hB hz)
          | (refine loadB (by rfl) (.tmp 5) (by rfl) _ _ (by rfl) T5.out ?_)
          | (go_at_call 35; refine (HZ.out _).mono ?_; rintro e w6 ⟨rfl, hb6⟩; rw [Hz.out]; have U5 := hide (T5.out.below hb6 T5.out.lt); have U3 := hide (T3.out.below hb6 T3.out.lt); have HB7 := hide (HB6.out.trans (hb6.mono HB6.out.size)); clear hb6)
          | (refine loadB (by rfl) (.tmp 5) (by rfl) _ _ (by rfl) U5.out ?_)
          | (refine storeB (by rfl) (.tmp 4) (.tmp 26) (by rfl) _ _ _ (by rfl) (by rfl) U3.out ?_; intro W' hW hK hB hz))
        refine bodyPost_ret (v := .agg (BG.cells ⟨false, ld da db⟩)) (retB rfl _ _ _ _ rfl hW) rfl ⟨by rw [← HR.out]; exact congrArg (fun R : BG => Ending.returned (.agg R.cells)) (addB_n false _ _ (by rw [Hs.out]; omega) Hz.out).symm, hB _ _ (by omega) HB7.out⟩
      · have Hz := hide hz
        clear hz
        go_enter Try.func33, Try.ntmps33
        go_wp2_with (first
          | (refine loadB (by rfl) (.tmp 2) (by rfl) _ _ (by rfl) N1.out ?_)
          | (refine loadB (by rfl) (.tmp 3) (by rfl) _ _ (by rfl) N2.out ?_)
          | (go_at_call 42; refine (HS.out _).mono ?_; rintro e w1 ⟨rfl, hb1⟩; rw [Hs.out]; have M1 := hide (N1.out.below hb1 N1.out.lt); have M2 := hide (N2.out.below hb1 N2.out.lt); have M3 := hide (N3.out.below hb1 N3.out.lt); have HB1 := hide (N4.out.trans (hb1.mono N4.out.size)); clear hb1)
          | (refine loadB (by rfl) (.tmp 3) (by rfl) _ _ (by rfl) M2.out ?_)
          | (refine loadB (by rfl) (.tmp 2) (by rfl) _ _ (by rfl) M1.out ?_)
          | (go_at_call 43; refine (HL.out _).mono ?_; rintro e w4 ⟨rfl, hb4⟩; have S3 := hide ((M3.out.below hb4 M3.out.lt).alloc (.cells ZB.cells 46)); have HB4 := hide (HB1.out.trans (hb4.mono HB1.out.size)); have hz4 := HB4.out.size; have HB5 := hide (HB4.out.alloc HB4.out.size (.cells ZB.cells 46)); have S5 := hide (Blk.newAt (w := w4) 46 ZB.cells rfl); have hl3 := (M3.out.below hb4 M3.out.lt).lt; clear hb4)
          | (refine storeB (by rfl) (.tmp 5) (.tmp 22) (by rfl) _ _ _ (by rfl) (by rfl) S5.out ?_; intro w5 hW hK hB hz; have T5 := hide hW; have T3 := hide (hK _ _ _ (by omega) S3.out); have HB6 := hide (hB _ _ (by omega) HB5.out); clear hW hK hB hz)
          | (refine loadB (by rfl) (.tmp 5) (by rfl) _ _ (by rfl) T5.out ?_)
          | (go_at_call 35; refine (HZ.out _).mono ?_; rintro e w6 ⟨rfl, hb6⟩; rw [Hz.out]; have u5 := T5.out.below hb6 T5.out.lt; have c0 := BG.cell0 u5; have f0 := u5.frozen; have U5 := hide (BG.setM u5 false); have U3 := hide ((T3.out.below hb6 T3.out.lt).setNe (g' := w4.heap.size) (i := 0) (v := .bool false) (by omega)); have HB7 := hide ((HB6.out.trans (hb6.mono HB6.out.size)).setCell (p := ⟨w4.heap.size, 0, none⟩) (by omega) (.bool false)); clear hb6 u5)
          | (refine loadB (by rfl) (.tmp 5) (by rfl) _ _ (by rfl) U5.out ?_)
          | (refine storeB (by rfl) (.tmp 4) (.tmp 26) (by rfl) _ _ _ (by rfl) (by rfl) U3.out ?_; intro W' hW hK hB hz))
        refine bodyPost_ret (v := .agg (BG.cells ⟨false, ld da db⟩)) (retB rfl _ _ _ _ rfl hW) rfl ⟨by rw [← HR.out]; exact congrArg (fun R : BG => Ending.returned (.agg R.cells)) (addB_nz false _ _ (by rw [Hs.out]; omega) Hz.out).symm, hB _ _ (by omega) HB7.out⟩
  · -- signs true, false
    have HS := hide (size_any ⟨true, da⟩ ⟨false, db⟩)
    obtain ⟨sv, hs⟩ : ∃ sv, sz da db 6 = sv := ⟨_, rfl⟩
    have Hs := hide hs
    clear hs
    by_cases hlt : sv < 0
    · have dl : decide (sv < 0) = true := by simp [hlt]
      have HL := hide (less_any ⟨false, db⟩ ⟨true, da⟩ hdb hda)
      have HZ := hide (zero_any ⟨false, ld db da⟩)
      clear hda hdb
      cases hz : zeroD (ld db da)
      · have Hz := hide hz
        clear hz
        go_enter Try.func33, Try.ntmps33
        go_wp2_with (first
          | (refine loadB (by rfl) (.tmp 2) (by rfl) _ _ (by rfl) N1.out ?_)
          | (refine loadB (by rfl) (.tmp 3) (by rfl) _ _ (by rfl) N2.out ?_)
          | (go_at_call 42; refine (HS.out _).mono ?_; rintro e w1 ⟨rfl, hb1⟩; rw [Hs.out]; have M1 := hide (N1.out.below hb1 N1.out.lt); have M2 := hide (N2.out.below hb1 N2.out.lt); have M3 := hide (N3.out.below hb1 N3.out.lt); have HB1 := hide (N4.out.trans (hb1.mono N4.out.size)); clear hb1)
          | (refine loadB (by rfl) (.tmp 3) (by rfl) _ _ (by rfl) M2.out ?_)
          | (refine loadB (by rfl) (.tmp 2) (by rfl) _ _ (by rfl) M1.out ?_)
          | (refine storeB (by rfl) (.tmp 2) (.tmp 18) (by rfl) _ _ _ (by rfl) (by rfl) M1.out ?_; intro w2 hW hK hB hz; have P1 := hide hW; have P2 := hide (hK _ _ _ (by omega) M2.out); have P3 := hide (hK _ _ _ (by omega) M3.out); have HB2 := hide (hB _ _ (by omega) HB1.out); clear hW hK hB hz)
          | (refine storeB (by rfl) (.tmp 3) (.tmp 19) (by rfl) _ _ _ (by rfl) (by rfl) P2.out ?_; intro w3 hW hK hB hz; have R2 := hide hW; have R1 := hide (hK _ _ _ (by omega) P1.out); have R3 := hide (hK _ _ _ (by omega) P3.out); have HB3 := hide (hB _ _ (by omega) HB2.out); clear hW hK hB hz)
          | (refine loadB (by rfl) (.tmp 2) (by rfl) _ _ (by rfl) R1.out ?_)
          | (refine loadB (by rfl) (.tmp 3) (by rfl) _ _ (by rfl) R2.out ?_)
          | (go_at_call 43; refine (HL.out _).mono ?_; rintro e w4 ⟨rfl, hb4⟩; have S3 := hide ((R3.out.below hb4 R3.out.lt).alloc (.cells ZB.cells 46)); have HB4 := hide (HB3.out.trans (hb4.mono HB3.out.size)); have hz4 := HB4.out.size; have HB5 := hide (HB4.out.alloc HB4.out.size (.cells ZB.cells 46)); have S5 := hide (Blk.newAt (w := w4) 46 ZB.cells rfl); have hl3 := (R3.out.below hb4 R3.out.lt).lt; clear hb4)
          | (refine storeB (by rfl) (.tmp 5) (.tmp 22) (by rfl) _ _ _ (by rfl) (by rfl) S5.out ?_; intro w5 hW hK hB hz; have T5 := hide hW; have T3 := hide (hK _ _ _ (by omega) S3.out); have HB6 := hide (hB _ _ (by omega) HB5.out); clear hW hK hB hz)
          | (refine loadB (by rfl) (.tmp 5) (by rfl) _ _ (by rfl) T5.out ?_)
          | (go_at_call 35; refine (HZ.out _).mono ?_; rintro e w6 ⟨rfl, hb6⟩; rw [Hz.out]; have U5 := hide (T5.out.below hb6 T5.out.lt); have U3 := hide (T3.out.below hb6 T3.out.lt); have HB7 := hide (HB6.out.trans (hb6.mono HB6.out.size)); clear hb6)
          | (refine loadB (by rfl) (.tmp 5) (by rfl) _ _ (by rfl) U5.out ?_)
          | (refine storeB (by rfl) (.tmp 4) (.tmp 26) (by rfl) _ _ _ (by rfl) (by rfl) U3.out ?_; intro W' hW hK hB hz))
        refine bodyPost_ret (v := .agg (BG.cells ⟨false, ld db da⟩)) (retB rfl _ _ _ _ rfl hW) rfl ⟨by rw [← HR.out]; exact congrArg (fun R : BG => Ending.returned (.agg R.cells)) (addB_s true _ _ (by rw [Hs.out]; omega) Hz.out).symm, hB _ _ (by omega) HB7.out⟩
      · have Hz := hide hz
        clear hz
        go_enter Try.func33, Try.ntmps33
        go_wp2_with (first
          | (refine loadB (by rfl) (.tmp 2) (by rfl) _ _ (by rfl) N1.out ?_)
          | (refine loadB (by rfl) (.tmp 3) (by rfl) _ _ (by rfl) N2.out ?_)
          | (go_at_call 42; refine (HS.out _).mono ?_; rintro e w1 ⟨rfl, hb1⟩; rw [Hs.out]; have M1 := hide (N1.out.below hb1 N1.out.lt); have M2 := hide (N2.out.below hb1 N2.out.lt); have M3 := hide (N3.out.below hb1 N3.out.lt); have HB1 := hide (N4.out.trans (hb1.mono N4.out.size)); clear hb1)
          | (refine loadB (by rfl) (.tmp 3) (by rfl) _ _ (by rfl) M2.out ?_)
          | (refine loadB (by rfl) (.tmp 2) (by rfl) _ _ (by rfl) M1.out ?_)
          | (refine storeB (by rfl) (.tmp 2) (.tmp 18) (by rfl) _ _ _ (by rfl) (by rfl) M1.out ?_; intro w2 hW hK hB hz; have P1 := hide hW; have P2 := hide (hK _ _ _ (by omega) M2.out); have P3 := hide (hK _ _ _ (by omega) M3.out); have HB2 := hide (hB _ _ (by omega) HB1.out); clear hW hK hB hz)
          | (refine storeB (by rfl) (.tmp 3) (.tmp 19) (by rfl) _ _ _ (by rfl) (by rfl) P2.out ?_; intro w3 hW hK hB hz; have R2 := hide hW; have R1 := hide (hK _ _ _ (by omega) P1.out); have R3 := hide (hK _ _ _ (by omega) P3.out); have HB3 := hide (hB _ _ (by omega) HB2.out); clear hW hK hB hz)
          | (refine loadB (by rfl) (.tmp 2) (by rfl) _ _ (by rfl) R1.out ?_)
          | (refine loadB (by rfl) (.tmp 3) (by rfl) _ _ (by rfl) R2.out ?_)
          | (go_at_call 43; refine (HL.out _).mono ?_; rintro e w4 ⟨rfl, hb4⟩; have S3 := hide ((R3.out.below hb4 R3.out.lt).alloc (.cells ZB.cells 46)); have HB4 := hide (HB3.out.trans (hb4.mono HB3.out.size)); have hz4 := HB4.out.size; have HB5 := hide (HB4.out.alloc HB4.out.size (.cells ZB.cells 46)); have S5 := hide (Blk.newAt (w := w4) 46 ZB.cells rfl); have hl3 := (R3.out.below hb4 R3.out.lt).lt; clear hb4)
          | (refine storeB (by rfl) (.tmp 5) (.tmp 22) (by rfl) _ _ _ (by rfl) (by rfl) S5.out ?_; intro w5 hW hK hB hz; have T5 := hide hW; have T3 := hide (hK _ _ _ (by omega) S3.out); have HB6 := hide (hB _ _ (by omega) HB5.out); clear hW hK hB hz)
          | (refine loadB (by rfl) (.tmp 5) (by rfl) _ _ (by rfl) T5.out ?_)
          | (go_at_call 35; refine (HZ.out _).mono ?_; rintro e w6 ⟨rfl, hb6⟩; rw [Hz.out]; have u5 := T5.out.below hb6 T5.out.lt; have c0 := BG.cell0 u5; have f0 := u5.frozen; have U5 := hide (BG.setM u5 false); have U3 := hide ((T3.out.below hb6 T3.out.lt).setNe (g' := w4.heap.size) (i := 0) (v := .bool false) (by omega)); have HB7 := hide ((HB6.out.trans (hb6.mono HB6.out.size)).setCell (p := ⟨w4.heap.size, 0, none⟩) (by omega) (.bool false)); clear hb6 u5)
          | (refine loadB (by rfl) (.tmp 5) (by rfl) _ _ (by rfl) U5.out ?_)
          | (refine storeB (by rfl) (.tmp 4) (.tmp 26) (by rfl) _ _ _ (by rfl) (by rfl) U3.out ?_; intro W' hW hK hB hz))
        refine bodyPost_ret (v := .agg (BG.cells ⟨false, ld db da⟩)) (retB rfl _ _ _ _ rfl hW) rfl ⟨by rw [← HR.out]; exact congrArg (fun R : BG => Ending.returned (.agg R.cells)) (addB_sz true _ _ (by rw [Hs.out]; omega) Hz.out).symm, hB _ _ (by omega) HB7.out⟩
    · have dl : decide (sv < 0) = false := by simp; omega
      have HL := hide (less_any ⟨true, da⟩ ⟨false, db⟩ hda hdb)
      have HZ := hide (zero_any ⟨true, ld da db⟩)
      clear hda hdb
      cases hz : zeroD (ld da db)
      · have Hz := hide hz
        clear hz
        go_enter Try.func33, Try.ntmps33
        go_wp2_with (first
          | (refine loadB (by rfl) (.tmp 2) (by rfl) _ _ (by rfl) N1.out ?_)
          | (refine loadB (by rfl) (.tmp 3) (by rfl) _ _ (by rfl) N2.out ?_)
          | (go_at_call 42; refine (HS.out _).mono ?_; rintro e w1 ⟨rfl, hb1⟩; rw [Hs.out]; have M1 := hide (N1.out.below hb1 N1.out.lt); have M2 := hide (N2.out.below hb1 N2.out.lt); have M3 := hide (N3.out.below hb1 N3.out.lt); have HB1 := hide (N4.out.trans (hb1.mono N4.out.size)); clear hb1)
          | (refine loadB (by rfl) (.tmp 3) (by rfl) _ _ (by rfl) M2.out ?_)
          | (refine loadB (by rfl) (.tmp 2) (by rfl) _ _ (by rfl) M1.out ?_)
          | (go_at_call 43; refine (HL.out _).mono ?_; rintro e w4 ⟨rfl, hb4⟩; have S3 := hide ((M3.out.below hb4 M3.out.lt).alloc (.cells ZB.cells 46)); have HB4 := hide (HB1.out.trans (hb4.mono HB1.out.size)); have hz4 := HB4.out.size; have HB5 := hide (HB4.out.alloc HB4.out.size (.cells ZB.cells 46)); have S5 := hide (Blk.newAt (w := w4) 46 ZB.cells rfl); have hl3 := (M3.out.below hb4 M3.out.lt).lt; clear hb4)
          | (refine storeB (by rfl) (.tmp 5) (.tmp 22) (by rfl) _ _ _ (by rfl) (by rfl) S5.out ?_; intro w5 hW hK hB hz; have T5 := hide hW; have T3 := hide (hK _ _ _ (by omega) S3.out); have HB6 := hide (hB _ _ (by omega) HB5.out); clear hW hK hB hz)
          | (refine loadB (by rfl) (.tmp 5) (by rfl) _ _ (by rfl) T5.out ?_)
          | (go_at_call 35; refine (HZ.out _).mono ?_; rintro e w6 ⟨rfl, hb6⟩; rw [Hz.out]; have U5 := hide (T5.out.below hb6 T5.out.lt); have U3 := hide (T3.out.below hb6 T3.out.lt); have HB7 := hide (HB6.out.trans (hb6.mono HB6.out.size)); clear hb6)
          | (refine loadB (by rfl) (.tmp 5) (by rfl) _ _ (by rfl) U5.out ?_)
          | (refine storeB (by rfl) (.tmp 4) (.tmp 26) (by rfl) _ _ _ (by rfl) (by rfl) U3.out ?_; intro W' hW hK hB hz))
        refine bodyPost_ret (v := .agg (BG.cells ⟨true, ld da db⟩)) (retB rfl _ _ _ _ rfl hW) rfl ⟨by rw [← HR.out]; exact congrArg (fun R : BG => Ending.returned (.agg R.cells)) (addB_n true _ _ (by rw [Hs.out]; omega) Hz.out).symm, hB _ _ (by omega) HB7.out⟩
      · have Hz := hide hz
        clear hz
        go_enter Try.func33, Try.ntmps33
        go_wp2_with (first
          | (refine loadB (by rfl) (.tmp 2) (by rfl) _ _ (by rfl) N1.out ?_)
          | (refine loadB (by rfl) (.tmp 3) (by rfl) _ _ (by rfl) N2.out ?_)
          | (go_at_call 42; refine (HS.out _).mono ?_; rintro e w1 ⟨rfl, hb1⟩; rw [Hs.out]; have M1 := hide (N1.out.below hb1 N1.out.lt); have M2 := hide (N2.out.below hb1 N2.out.lt); have M3 := hide (N3.out.below hb1 N3.out.lt); have HB1 := hide (N4.out.trans (hb1.mono N4.out.size)); clear hb1)
          | (refine loadB (by rfl) (.tmp 3) (by rfl) _ _ (by rfl) M2.out ?_)
          | (refine loadB (by rfl) (.tmp 2) (by rfl) _ _ (by rfl) M1.out ?_)
          | (go_at_call 43; refine (HL.out _).mono ?_; rintro e w4 ⟨rfl, hb4⟩; have S3 := hide ((M3.out.below hb4 M3.out.lt).alloc (.cells ZB.cells 46)); have HB4 := hide (HB1.out.trans (hb4.mono HB1.out.size)); have hz4 := HB4.out.size; have HB5 := hide (HB4.out.alloc HB4.out.size (.cells ZB.cells 46)); have S5 := hide (Blk.newAt (w := w4) 46 ZB.cells rfl); have hl3 := (M3.out.below hb4 M3.out.lt).lt; clear hb4)
          | (refine storeB (by rfl) (.tmp 5) (.tmp 22) (by rfl) _ _ _ (by rfl) (by rfl) S5.out ?_; intro w5 hW hK hB hz; have T5 := hide hW; have T3 := hide (hK _ _ _ (by omega) S3.out); have HB6 := hide (hB _ _ (by omega) HB5.out); clear hW hK hB hz)
          | (refine loadB (by rfl) (.tmp 5) (by rfl) _ _ (by rfl) T5.out ?_)
          | (go_at_call 35; refine (HZ.out _).mono ?_; rintro e w6 ⟨rfl, hb6⟩; rw [Hz.out]; have u5 := T5.out.below hb6 T5.out.lt; have c0 := BG.cell0 u5; have f0 := u5.frozen; have U5 := hide (BG.setM u5 false); have U3 := hide ((T3.out.below hb6 T3.out.lt).setNe (g' := w4.heap.size) (i := 0) (v := .bool false) (by omega)); have HB7 := hide ((HB6.out.trans (hb6.mono HB6.out.size)).setCell (p := ⟨w4.heap.size, 0, none⟩) (by omega) (.bool false)); clear hb6 u5)
          | (refine loadB (by rfl) (.tmp 5) (by rfl) _ _ (by rfl) U5.out ?_)
          | (refine storeB (by rfl) (.tmp 4) (.tmp 26) (by rfl) _ _ _ (by rfl) (by rfl) U3.out ?_; intro W' hW hK hB hz))
        refine bodyPost_ret (v := .agg (BG.cells ⟨false, ld da db⟩)) (retB rfl _ _ _ _ rfl hW) rfl ⟨by rw [← HR.out]; exact congrArg (fun R : BG => Ending.returned (.agg R.cells)) (addB_nz true _ _ (by rw [Hs.out]; omega) Hz.out).symm, hB _ _ (by omega) HB7.out⟩
  · -- the same sign
    go_enter Try.func33, Try.ntmps33
    go_wp2_with (first
      | (refine loadB (by rfl) (.tmp 2) (by rfl) _ _ (by rfl) N1.out ?_)
      | (refine loadB (by rfl) (.tmp 3) (by rfl) _ _ (by rfl) N2.out ?_)
      | (go_at_call 41; refine (HP.out _).mono ?_; rintro e w1 ⟨rfl, hb1⟩; have M3 := hide (N3.out.below hb1 N3.out.lt); have HB := hide (N4.out.trans (hb1.mono N4.out.size)); clear hb1)
      | (refine storeB (by rfl) (.tmp 4) (.tmp 13) (by rfl) _ _ _ (by rfl) (by rfl) M3.out ?_; intro W' hW hK hB hz))
    refine bodyPost_ret (v := .agg (BG.cells ⟨true, pd da db⟩)) (retB rfl _ _ _ _ rfl hW) rfl ⟨by rw [← HR.out]; rfl, hB _ _ (by omega) HB.out⟩

set_option maxRecDepth 100000 in
set_option maxHeartbeats 2000000 in
theorem of_any (v : Int) (v0 : -9223372036854775808 ≤ v) (v1 : v ≤ 9223372036854775807) (w : World) : Calls Try.prog 19 #[.int .i64 v] w fun e w' => e = .returned (.agg (ofB v).cells) ∧ Below w.heap.size w w' := by
  by_cases hn : v < 0
  · have dn : decide (v < 0) = true := by simp [hn]
    obtain ⟨u, hu⟩ : ∃ u, -(v + 1) = u := ⟨_, rfl⟩
    have hu0 : 0 ≤ u := by omega
    have hu1 : u ≤ 9223372036854775807 := by omega
    have HA := hide (addOne_any ⟨true, fun k => if k = 0 then u % 4294967296 else if k = 1 then u / 4294967296 else 0⟩ (by show 0 ≤ u % 4294967296 ∧ u % 4294967296 < 4294967296; omega) (by show 0 ≤ u / 4294967296 ∧ u / 4294967296 < 4294967295; omega))
    have he : (if u % 4294967296 < 4294967295 then (⟨true, fun i => if i = 0 then u % 4294967296 + 1 else if i = 0 then u % 4294967296 else if i = 1 then u / 4294967296 else 0⟩ : BG) else ⟨true, fun i => if i = 1 then u / 4294967296 + 1 else if i = 0 then 0 else if i = 0 then u % 4294967296 else if i = 1 then u / 4294967296 else 0⟩).cells = (ofB v).cells := by
      have hm : (ofB v).m = true := by simp [ofB, hn]
      have hv : v = -(u + 1) := by omega
      split
      · unfold BG.cells ofB
        simp [hn]
        omega
      · unfold BG.cells ofB
        simp [hn]
        omega
    have He := hide he
    clear he
    go_enter Try.func19, Try.ntmps19
    go_wp2_with (first
      | (refine loadB (by rfl) (.tmp 3) (by rfl) (w.heap.size + 1) ⟨true, fun k => if k = 0 then u % 4294967296 else if k = 1 then u / 4294967296 else 0⟩ (by rfl) (Blk.newAt 46 _ (by simp)) ?_)
      | (go_at_call 36; refine (HA.out _).mono ?_; rintro e w1 ⟨he, hb1⟩; obtain rfl := he.trans (congrArg (fun c => Ending.returned (.agg c)) He.out); have M2 := hide (Blk.below (t := 46) (cs := ZB.cells) ((Blk.newAt (w := w) 46 _ rfl).alloc _) hb1 (by simp; omega)); have HB := hide ((((Below.refl w.heap.size w).alloc (Nat.le_refl _) _).alloc (by simp) _).trans (hb1.mono (by simp; omega))); clear he hb1)
      | (refine storeB (by rfl) (.tmp 2) (.tmp 20) (by rfl) _ _ _ (by rfl) (by rfl) M2.out ?_; intro W' hW hK hB hz))
    refine bodyPost_ret (v := .agg (ofB v).cells) (retB rfl _ _ _ _ rfl hW) rfl ⟨rfl, hB _ _ (by omega) HB.out⟩
  · have dn : decide (v < 0) = false := by simp; omega
    have hv0 : 0 ≤ v := by omega
    have he : (⟨false, fun k => if k = 0 then v % 4294967296 else if k = 1 then v / 4294967296 else 0⟩ : BG).cells = (ofB v).cells := by
      unfold BG.cells ofB
      simp [hn]
    have He := hide he
    clear he
    go_enter Try.func19, Try.ntmps19
    go_wp2_with (first
      | (refine loadB (by rfl) (.tmp 3) (by rfl) (w.heap.size + 1) ⟨false, fun k => if k = 0 then v % 4294967296 else if k = 1 then v / 4294967296 else 0⟩ (by rfl) (Blk.newAt 46 _ (by simp)) ?_; rw [He.out])
      | (refine storeB (by rfl) (.tmp 2) (.tmp 29) (by rfl) w.heap.size _ ZB (by rfl) (by rfl) ((Blk.newAt (w := w) 46 ZB.cells rfl).alloc _) ?_; intro W' hW hK hB hz))
    refine bodyPost_ret (v := .agg (ofB v).cells) (retB rfl _ _ _ _ rfl hW) rfl ⟨rfl, hB _ _ (by omega) (((Below.refl _ _).alloc (Nat.le_refl _) _).alloc (by simp) _)⟩

end Go.Proofs.Ytciooimbhabccaa
