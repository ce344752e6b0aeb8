/- The reference's great whole numbers: Compare; Far. -/
import Derived.Test.YtciooimbhabccaaX
namespace Go.Proofs.Ytciooimbhabccaa
open Go.RowKit

theorem trB0 {wr A B : World} (h : Below wr.heap.size wr A) (k : Below A.heap.size A B) : Below wr.heap.size wr B := h.trans (k.mono h.size)
theorem alB0 {wr A : World} (h : Below wr.heap.size wr A) (o : Obj) : Below wr.heap.size wr (A.alloc o) := h.alloc h.size _
theorem srB {wr A : World} {g : Nat} (h : Below wr.heap.size wr A) (hg : wr.heap.size ≤ g) (cs : Array Value) : Below wr.heap.size wr (A.setRow g cs) := h.trans ⟨rfl, rfl, rfl, by simp, fun k hk => setRow_other A g k _ (by omega)⟩
theorem zNew {wr A : World} (h : Below wr.heap.size wr A) : Blk (A.alloc (.cells ZB.cells 46)) A.heap.size 46 ZB.cells ∧ wr.heap.size ≤ A.heap.size := ⟨Blk.newAt 46 _ rfl, h.size⟩
theorem zbB {wr A B : World} {g : Nat} (h : Blk A g 46 ZB.cells ∧ wr.heap.size ≤ g) (hb : Below A.heap.size A B) : Blk B g 46 ZB.cells ∧ wr.heap.size ≤ g := ⟨h.1.below hb h.1.lt, h.2⟩
theorem run_loadB {w : World} {g : Nat} {A : BG} (h : Blk w g 46 A.cells) : (Instr.loadAt 46 (.pointer (some ⟨g, 0, none⟩))).run Try.prog w = .ok (.agg A.cells) w := by
  simp only [Instr.loadAt, Instr.sureAddr, Sem.run_bind, Sem.run_pure, Result.andThen_ok, run_loadVar_row w g 46 46 A.cells (0, 0) _ h Try.underlying46 rfl info46]
theorem yields_loadB {ops : Array Oper} {W : World} {o : Oper} {a : Act} (hg : o.guard = none) (x : Operand) (ho : o.op = .load 46 x) (g : Nat) (A : BG) (hx : a.eval x = .pointer (some ⟨g, 0, none⟩)) (h : Blk W g 46 A.cells) :
    YieldsIf Try.prog ops (fun w' => Below W.heap.size W w') o (.agg A.cells) a :=
  .inl ⟨by simp [Region.wanted, hg], fun w hw => by
    unfold execOp
    simp only [ho, hx, Instr.loadAt, Instr.sureAddr, Sem.run_bind, Sem.run_pure, Result.andThen_ok, run_loadVar_row w g 46 46 A.cells (0, 0) _ (h.below hw h.lt) Try.underlying46 rfl info46]⟩

set_option maxRecDepth 100000 in
set_option maxHeartbeats 4000000 in
theorem cmp_any (A B : BG) (hA : dig A.d) (hB : dig B.d) (w : World) : Calls Try.prog 17 #[.agg A.cells, .agg B.cells] w fun e w' => e = .returned (.int .i64 (cmpB A B)) ∧ Below w.heap.size w w' := by
  have hN : dig (negB B).d := by unfold negB; split <;> exact hB
  have HG := hide (neg_any B)
  have HA := hide (add_any A (negB B) hA hN)
  obtain ⟨X, hX⟩ : ∃ X, addB A (negB B) = X := ⟨_, rfl⟩
  rw [hX] at HA
  have HZ := hide (zero_any X)
  have hR : cmpB A B = if zeroD X.d = true then 0 else if X.m = true then -1 else 1 := by unfold cmpB; rw [hX]
  obtain ⟨R, hR'⟩ : ∃ R, cmpB A B = R := ⟨_, rfl⟩
  rw [hR']
  rw [hR'] at hR
  have HR := hide hR
  clear hR'
  obtain ⟨n1, n2, n4⟩ := two_new w A B
  obtain ⟨W, hW⟩ : ∃ W, (w.alloc (.cells A.cells 46)).alloc (.cells B.cells 46) = W := ⟨_, rfl⟩
  rw [hW] at n1 n2 n4
  have H2 := hide n1
  have H3 := hide n2
  have H4 := hide n4
  have HW := hide hW
  have hl2 := H2.out.lt
  have hl3 := H3.out.lt
  clear hA hB hN n1 n2 n4 hR hW hX
  go_enter Try.func17, Try.ntmps17
  go_wp2_with fail
  rw [HW.out]
  refine Code.wp_mono (Q := fun e a' w' => e = .normal ∧ ∃ g5, a' = ⟨#[.agg A.cells, .agg B.cells, .pointer (some ⟨w.heap.size, 0, none⟩), .pointer (some ⟨w.heap.size + 1, 0, none⟩), .int .i64 0, .pointer (some ⟨g5, 0, none⟩), .agg A.cells, .agg B.cells, .agg (negB B).cells, .agg X.cells, undef, undef, undef, undef], []⟩ ∧ Blk w' g5 46 X.cells ∧ Below W.heap.size W w') ?post ?reg
  case reg =>
    refine wp_region_held_drew (S := fun w' => Below W.heap.size W w') (by kernel_rfl) ((Below.refl _ _).drew) (fun q0 => ?_)
    refine wpAnyH_take (i := 0) (oi := _) (v := _) rfl (by kernel_rfl) (by kernel_rfl) (by kernel_rfl) (fun _ _ _ h => by cases h.1) (yields_loadB (by rfl) _ (by rfl) _ _ (by rfl) H2.out) q0 ?_
    refine wpAnyH_take (i := 1) (oi := _) (v := _) rfl (by kernel_rfl) (by kernel_rfl) (by kernel_rfl) (fun _ _ _ h => by cases h.1) (yields_loadB (by rfl) _ (by rfl) _ _ (by rfl) H3.out) q0 ?_
    refine wpAnyH_ready (rs := [2, 4]) (by kernel_rfl) (by simp) ?_
    refine AllReadyH.cons (o := _) rfl (fun K hK => ?_) ?_
    · go_simp
      (go_at_call 34; refine (HG.out _).mono ?_; rintro e w1 ⟨rfl, hb⟩)
      have q1 := trB0 q0 hb
      refine hK.out _ _ q1 (fun _ => ?_)
      clear hK K hb q0
      refine wpAnyH_ready (rs := [3, 4]) (by kernel_rfl) (by simp) ?_
      refine AllReadyH.cons (o := _) rfl (fun K hK => ?_) ?_
      · go_simp
        (go_at_call 33; refine (HA.out _).mono ?_; rintro e w2 ⟨rfl, hb⟩)
        have q2 := trB0 q1 hb
        refine hK.out _ _ q2 (fun _ => ?_)
        clear hK K hb q1
        refine wpAnyH_ready (rs := [4]) (by kernel_rfl) (by simp) ?_
        refine AllReadyH.cons (o := _) rfl (fun K hK => ?_) ?_
        · go_simp
          have q3 := alB0 q2 (.cells ZB.cells 46)
          have zb := hide (zNew q2)
          refine hK.out _ _ q3 (fun _ => ?_)
          clear hK K q2
          refine wpAnyH_ready (rs := [5]) (by kernel_rfl) (by simp) ?_
          refine AllReadyH.cons (o := _) rfl (fun K hK => ?_) ?_
          · rw [if_pos (by rfl)]
            refine wp_store_row 46 (.tmp 5) (.tmp 9) rfl _ (X).cells rfl rfl 46 ZB.cells zb.out.1 info46 rfl (BG.one _) ?_
            have q4 := srB q3 zb.out.2 (X).cells
            have zr := setRow_heap _ _ _ (X).cells 46 _ zb.out.1
            refine hK.out _ _ q4 (fun _ => ?_)
            clear hK K q3 zb
            refine wpAnyH_done (by kernel_rfl) ?_ _
            exact ⟨rfl, _, rfl, zr, q4⟩
          exact AllReadyH.nil
        exact AllReadyH.nil
      refine AllReadyH.cons (o := _) rfl (fun K hK => ?_) ?_
      · go_simp
        have q2 := alB0 q1 (.cells ZB.cells 46)
        have zb := hide (zNew q1)
        refine hK.out _ _ q2 (fun _ => ?_)
        clear hK K q1
        refine wpAnyH_ready (rs := [3]) (by kernel_rfl) (by simp) ?_
        refine AllReadyH.cons (o := _) rfl (fun K hK => ?_) ?_
        · go_simp
          (go_at_call 33; refine (HA.out _).mono ?_; rintro e w2 ⟨rfl, hb⟩)
          have q3 := trB0 q2 hb
          have zb := hide (zbB zb.out hb)
          refine hK.out _ _ q3 (fun _ => ?_)
          clear hK K hb q2
          refine wpAnyH_ready (rs := [5]) (by kernel_rfl) (by simp) ?_
          refine AllReadyH.cons (o := _) rfl (fun K hK => ?_) ?_
          · rw [if_pos (by rfl)]
            refine wp_store_row 46 (.tmp 5) (.tmp 9) rfl _ (X).cells rfl rfl 46 ZB.cells zb.out.1 info46 rfl (BG.one _) ?_
            have q4 := srB q3 zb.out.2 (X).cells
            have zr := setRow_heap _ _ _ (X).cells 46 _ zb.out.1
            refine hK.out _ _ q4 (fun _ => ?_)
            clear hK K q3 zb
            refine wpAnyH_done (by kernel_rfl) ?_ _
            exact ⟨rfl, _, rfl, zr, q4⟩
          exact AllReadyH.nil
        exact AllReadyH.nil
      exact AllReadyH.nil
    refine AllReadyH.cons (o := _) rfl (fun K hK => ?_) ?_
    · go_simp
      have q1 := alB0 q0 (.cells ZB.cells 46)
      have zb := hide (zNew q0)
      refine hK.out _ _ q1 (fun _ => ?_)
      clear hK K q0
      refine wpAnyH_ready (rs := [2]) (by kernel_rfl) (by simp) ?_
      refine AllReadyH.cons (o := _) rfl (fun K hK => ?_) ?_
      · go_simp
        (go_at_call 34; refine (HG.out _).mono ?_; rintro e w1 ⟨rfl, hb⟩)
        have q2 := trB0 q1 hb
        have zb := hide (zbB zb.out hb)
        refine hK.out _ _ q2 (fun _ => ?_)
        clear hK K hb q1
        refine wpAnyH_ready (rs := [3]) (by kernel_rfl) (by simp) ?_
        refine AllReadyH.cons (o := _) rfl (fun K hK => ?_) ?_
        · go_simp
          (go_at_call 33; refine (HA.out _).mono ?_; rintro e w2 ⟨rfl, hb⟩)
          have q3 := trB0 q2 hb
          have zb := hide (zbB zb.out hb)
          refine hK.out _ _ q3 (fun _ => ?_)
          clear hK K hb q2
          refine wpAnyH_ready (rs := [5]) (by kernel_rfl) (by simp) ?_
          refine AllReadyH.cons (o := _) rfl (fun K hK => ?_) ?_
          · rw [if_pos (by rfl)]
            refine wp_store_row 46 (.tmp 5) (.tmp 9) rfl _ (X).cells rfl rfl 46 ZB.cells zb.out.1 info46 rfl (BG.one _) ?_
            have q4 := srB q3 zb.out.2 (X).cells
            have zr := setRow_heap _ _ _ (X).cells 46 _ zb.out.1
            refine hK.out _ _ q4 (fun _ => ?_)
            clear hK K q3 zb
            refine wpAnyH_done (by kernel_rfl) ?_ _
            exact ⟨rfl, _, rfl, zr, q4⟩
          exact AllReadyH.nil
        exact AllReadyH.nil
      exact AllReadyH.nil
    exact AllReadyH.nil
  case post =>
    rintro e a' w' ⟨rfl, g5, rfl, hX, hB⟩
    have HX := hide hX
    have HB := hide (H4.out.trans (hB.mono H4.out.size))
    clear hX hB
    cases hz : zeroD X.d
    · cases hm : X.m
      all_goals
        have Hz := hide hz
        have Hm := hide hm
        clear hz hm
        go_wp2_with (first
          | (refine loadB (by rfl) (.tmp 5) (by rfl) _ _ (by rfl) HX.out ?_)
          | (go_at_call 35; refine (HZ.out _).mono ?_; rintro e w6 ⟨rfl, hb6⟩; rw [Hz.out]; have c0 := BG.cell0 (HX.out.below hb6 HX.out.lt); rw [Hm.out] at c0; have HB7 := hide (HB.out.trans (hb6.mono HB.out.size)); clear hb6))
        go_ret
        exact ⟨by rw [HR.out, Hz.out, Hm.out]; rfl, HB7.out⟩
    · have Hz := hide hz
      clear hz
      go_wp2_with (first
        | (refine loadB (by rfl) (.tmp 5) (by rfl) _ _ (by rfl) HX.out ?_)
        | (go_at_call 35; refine (HZ.out _).mono ?_; rintro e w6 ⟨rfl, hb6⟩; rw [Hz.out]; have HB7 := hide (HB.out.trans (hb6.mono HB.out.size)); clear hb6))
      go_ret
      exact ⟨by rw [HR.out, Hz.out]; rfl, HB7.out⟩

theorem ofB_dig {v : Int} (h0 : -9223372036854775808 ≤ v) (h1 : v ≤ 9223372036854775807) : dig (ofB v).d := (ofB_ok h0 h1).1.dg

set_option maxRecDepth 100000 in
set_option maxHeartbeats 4000000 in
theorem farG_any (x y : Int) (x0 : -9223372036854775808 ≤ x) (x1 : x ≤ 9223372036854775807) (y0 : -9223372036854775808 ≤ y) (y1 : y ≤ 9223372036854775807) (w : World) : Calls Try.prog 18 #[.int .i64 x, .int .i64 y] w fun e w' => e = .returned (.agg (farG x y).cells) ∧ Below w.heap.size w w' := by
  have hN : dig (negB (ofB y)).d := by unfold negB; split <;> exact ofB_dig y0 y1
  have HX1 := hide (of_any x x0 x1)
  have HX2 := hide (of_any y y0 y1)
  have HG := hide (neg_any (ofB y))
  have HA := hide (add_any (ofB x) (negB (ofB y)) (ofB_dig x0 x1) hN)
  obtain ⟨X, hX⟩ : ∃ X, addB (ofB x) (negB (ofB y)) = X := ⟨_, rfl⟩
  rw [hX] at HA
  have HZ := hide (neg_any X)
  have hR : farG x y = if X.m = true then negB X else X := by unfold farG; rw [hX]
  obtain ⟨R, hR'⟩ : ∃ R, farG x y = R := ⟨_, rfl⟩
  rw [hR']
  rw [hR'] at hR
  have HR := hide hR
  clear hR'
  obtain ⟨n1, n4⟩ := one_new w ZB
  obtain ⟨W, hW⟩ : ∃ W, w.alloc (.cells ZB.cells 46) = W := ⟨_, rfl⟩
  rw [hW] at n1 n4
  have H2 := hide n1
  have H4 := hide n4
  have HW := hide hW
  have hl2 := H2.out.lt
  clear x0 x1 y0 y1 hN n1 n4 hR hW hX
  have HY := hide (fun (w1 : World) (hb : Below W.heap.size W w1) => H2.out.below hb H2.out.lt)
  have hB := hide (fun (w1 : World) (hb : Below W.heap.size W w1) => H4.out.trans (hb.mono H4.out.size))
  have Hnz := hide (fun (w1 : World) (hb : Below W.heap.size W w1) => Nat.le_trans (Nat.le_of_lt H2.out.lt) hb.size)
  cases hm : X.m
  all_goals
    have Hm := hide hm
    have hx0 : X.cells[0]? = some (.bool X.m) := rfl
    rw [hm] at hx0
    clear hm
    go_enter Try.func18, Try.ntmps18
    go_wp2_with (first
      | (go_at_call 19; (with_reducible refine (HX1.out _).mono ?_); rintro e w1 ⟨rfl, hb⟩; have B1 := hide (show Below W.heap.size W w1 by rw [← HW.out]; exact hb); clear hb)
      | (go_at_call 19; (with_reducible refine (HX2.out _).mono ?_); rintro e w2 ⟨rfl, hb⟩; have B2 := hide (trB0 B1.out hb); clear hb)
      | (go_at_call 34; (with_reducible refine (HG.out _).mono ?_); rintro e w3 ⟨rfl, hb⟩; have B3 := hide (trB0 B2.out hb); clear hb)
      | (go_at_call 33; (with_reducible refine (HA.out _).mono ?_); rintro e w4 ⟨rfl, hb⟩; have B4 := hide (trB0 B3.out hb); have B5 := hide (alB0 B4.out (.cells ZB.cells 46)); have hz := Hnz.out _ B4.out; clear hb)
      | (refine storeB (by rfl) (.tmp 5) (.tmp 11) (by rfl) _ X ZB (by rfl) (by rfl) (Blk.newAt (w := w4) 46 ZB.cells rfl) ?_; intro w5 hW hK hBb hz5; have B6 := hide (hBb _ _ B4.out.size B5.out); have HX := hide hW; have c0 := BG.cell0 hW; rw [Hm.out] at c0; clear hW hK hBb)
      | (refine loadB (by rfl) (.tmp 5) (by rfl) _ _ (by rfl) HX.out ?_)
      | (go_at_call 34; (with_reducible refine (HZ.out _).mono ?_); rintro e w6 ⟨rfl, hb⟩; have B7 := hide (trB0 B6.out hb); clear hb)
      | (refine storeB (by rfl) (.tmp 4) (.tmp 16) (by rfl) _ _ _ (by rfl) (by rfl) (HY.out _ B6.out) ?_; intro W' hW hK hBb hz7)
      | (refine storeB (by rfl) (.tmp 4) (.tmp 15) (by rfl) _ _ _ (by rfl) (by rfl) (HY.out _ B7.out) ?_; intro W' hW hK hBb hz7))
  · refine bodyPost_ret (v := .agg X.cells) (retB rfl _ _ _ _ rfl hW) rfl ⟨by rw [HR.out, Hm.out]; rfl, hBb _ _ (Nat.le_refl _) (hB.out _ B6.out)⟩
  · refine bodyPost_ret (v := .agg (negB X).cells) (retB rfl _ _ _ _ rfl hW) rfl ⟨by rw [HR.out, Hm.out]; rfl, hBb _ _ (Nat.le_refl _) (hB.out _ B7.out)⟩

end Go.Proofs.Ytciooimbhabccaa
