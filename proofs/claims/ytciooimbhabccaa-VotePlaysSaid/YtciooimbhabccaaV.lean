/- The reference's great whole numbers: the walks. -/
import Derived.Test.YtciooimbhabccaaU
import Derived.Test.YtciooimbhabccaaA
namespace Go.Proofs.Ytciooimbhabccaa
open Go.RowKit

theorem BG.cell (A : BG) (k : Nat) (hk : k < 6) : A.cells[1 + k]? = some (.int .i64 (A.d k)) := by
  obtain rfl | rfl | rfl | rfl | rfl | rfl : k = 0 ∨ k = 1 ∨ k = 2 ∨ k = 3 ∨ k = 4 ∨ k = 5 := by omega
  all_goals rfl
theorem BG.set (A : BG) (k : Nat) (hk : k < 6) (v : Int) : A.cells.setIfInBounds (1 + k) (.int .i64 v) = BG.cells ⟨A.m, fun i => if i = k then v else A.d i⟩ := by
  obtain rfl | rfl | rfl | rfl | rfl | rfl : k = 0 ∨ k = 1 ∨ k = 2 ∨ k = 3 ∨ k = 4 ∨ k = 5 := by omega
  all_goals rfl
theorem BG.ext6 {m : Bool} {f g : Nat → Int} (h : ∀ k, k < 6 → f k = g k) : BG.cells ⟨m, f⟩ = BG.cells ⟨m, g⟩ := by
  unfold BG.cells
  simp only [h 0 (by omega), h 1 (by omega), h 2 (by omega), h 3 (by omega), h 4 (by omega), h 5 (by omega)]

theorem Blk.drewN {w : World} {g : Nat} {t : TypeId} {cs : Array Value} (h : Blk w g t cs) (n : Nat) : Blk (w.drewN n) g t cs := h
theorem Blk.setNe {w : World} {g g' i : Nat} {t : TypeId} {cs : Array Value} {v : Value} (h : Blk w g t cs) (hg : g ≠ g') : Blk (w.setCell ⟨g', i, none⟩ v) g t cs := (Below.heap_setCell w ⟨g', i, none⟩ v g hg).trans h
theorem below_dn' (B : Nat) (w : World) (n : Nat) : Below B w (w.drewN n) := ⟨rfl, rfl, rfl, Nat.le_refl _, fun _ _ => rfl⟩

theorem info46 : (Try.prog.info? 46).map (·.size) = some 7 := by kernel_rfl
theorem BG.one (A : BG) : A.cells.all (·.oneCell') = true := by simp [BG.cells, Value.oneCell']
theorem loadB {ops : Array Oper} {rest : List Oper} {o : Oper} {a : Act} {w : World} {Q : Exit → Act → World → Prop} (hgd : o.guard = none) (x : Operand) (ho : o.op = .load 46 x)
    (g : Nat) (A : BG) (hx : a.eval x = .pointer (some ⟨g, 0, none⟩)) (hg : Blk w g 46 A.cells) (h : wpList Try.prog ops Q rest (a.put o.dst (.agg A.cells)) w) : wpList Try.prog ops Q (o :: rest) a w :=
  wpList_load_row hgd 46 x ho g hx 46 A.cells (0, 0) _ hg Try.underlying46 rfl info46 h
theorem storeB {ops : Array Oper} {rest : List Oper} {o : Oper} {a : Act} {w : World} {Q : Exit → Act → World → Prop} (hgd : o.guard = none) (x y : Operand) (ho : o.op = .store 46 x y)
    (g : Nat) (A Z : BG) (hx : a.eval x = .pointer (some ⟨g, 0, none⟩)) (hy : a.eval y = .agg A.cells) (hg : Blk w g 46 Z.cells)
    (h : ∀ W', Blk W' g 46 A.cells → (∀ (g' : Nat) (t : TypeId) (cs : Array Value), g' ≠ g → Blk w g' t cs → Blk W' g' t cs) → (∀ (B : Nat) (a : World), B ≤ g → Below B a w → Below B a W') → W'.heap.size = w.heap.size → wpList Try.prog ops Q rest (a.put o.dst undef) W') : wpList Try.prog ops Q (o :: rest) a w :=
  wpList_store_row hgd 46 x y ho g A.cells hx hy 46 Z.cells hg info46 rfl A.one
    (h _ (setRow_heap w g _ _ 46 _ hg) (fun g' _ _ hne hb => (setRow_other w g g' _ hne).trans hb) (fun B a hB hb => hb.trans ⟨rfl, rfl, rfl, by simp, fun k hk => setRow_other w g k _ (by omega)⟩) (by simp))
theorem retB {fn : Func} {p : Tmp} (h : fn.results = #[.cell p 46]) (tmps : Array Value) (w : World) (g : Nat) (A : BG) (hp : tmps.getD p undef = .pointer (some ⟨g, 0, none⟩)) (hg : Blk w g 46 A.cells) : (results fn tmps).run Try.prog w = .ok (.agg A.cells) w :=
  results_cell_row h tmps w g 46 A.cells (0, 0) _ hp hg Try.underlying46 rfl info46

theorem set_upto {W : World} {g : Nat} {m : Bool} {f a : Nat → Int} {k : Nat} {v : Int} (hlt : k < 6) (h : Blk W g 46 ((BG.cells ⟨m, fun i => if i < k then f i else a i⟩).setIfInBounds (1 + k) (.int .i64 v))) (hv : v = f k) : Blk W g 46 (BG.cells ⟨m, fun i => if i < k + 1 then f i else a i⟩) := by
  rw [BG.set _ k hlt, hv] at h
  rwa [BG.ext6 (g := fun i => if i < k + 1 then f i else a i) (fun j hj => by
    show (if j = k then _ else if j < k then _ else _) = _
    split
    · subst j; rw [if_pos (by omega)]
    · split
      · rw [if_pos (by omega)]
      · rw [if_neg (by omega)])] at h
theorem Blk.newAt {w : World} {n : Nat} (t : TypeId) (cs : Array Value) (h : n = w.heap.size) : Blk (w.alloc (.cells cs t)) n t cs := by subst h; exact Blk.new w t cs
theorem three_new (w : World) (A B Z : BG) : Blk (((w.alloc (.cells A.cells 46)).alloc (.cells B.cells 46)).alloc (.cells Z.cells 46)) w.heap.size 46 A.cells ∧ Blk (((w.alloc (.cells A.cells 46)).alloc (.cells B.cells 46)).alloc (.cells Z.cells 46)) (w.heap.size + 1) 46 B.cells ∧
    Blk (((w.alloc (.cells A.cells 46)).alloc (.cells B.cells 46)).alloc (.cells Z.cells 46)) (w.heap.size + 2) 46 Z.cells ∧ Below w.heap.size w (((w.alloc (.cells A.cells 46)).alloc (.cells B.cells 46)).alloc (.cells Z.cells 46)) :=
  ⟨((Blk.newAt 46 _ rfl).alloc _).alloc _, (Blk.newAt 46 _ (by simp)).alloc _, Blk.newAt 46 _ (by simp), (((Below.refl _ _).alloc (Nat.le_refl _) _).alloc (by simp) _).alloc (by simp; omega) _⟩
theorem two_new (w : World) (A B : BG) : Blk ((w.alloc (.cells A.cells 46)).alloc (.cells B.cells 46)) w.heap.size 46 A.cells ∧ Blk ((w.alloc (.cells A.cells 46)).alloc (.cells B.cells 46)) (w.heap.size + 1) 46 B.cells ∧ Below w.heap.size w ((w.alloc (.cells A.cells 46)).alloc (.cells B.cells 46)) :=
  ⟨(Blk.newAt 46 _ rfl).alloc _, Blk.newAt 46 _ (by simp), ((Below.refl _ _).alloc (Nat.le_refl _) _).alloc (by simp) _⟩

set_option maxRecDepth 100000 in
set_option maxHeartbeats 1000000 in
theorem plus_any (A B : BG) (hA : dig A.d) (hB : dig B.d) (w : World) : Calls Try.prog 41 #[.agg A.cells, .agg B.cells] w fun e w' => e = .returned (.agg (BG.cells ⟨A.m, pd A.d B.d⟩)) ∧ Below w.heap.size w w' := by
  have HA := hide hA
  have HB := hide hB
  clear hA hB
  go_enter Try.func41, Try.ntmps41
  go_wp2_with fail
  go_loopw [5, 6] (fun c i wr => ∃ k : Nat, k ≤ 6 ∧ i = .int .i64 k ∧ c = .int .i64 (cy A.d B.d k) ∧ Blk wr w.heap.size 46 (BG.cells ⟨A.m, fun i => if i < k then pd A.d B.d i else A.d i⟩) ∧ Blk wr (w.heap.size + 1) 46 B.cells ∧ Blk wr (w.heap.size + 2) 46 (BG.cells ⟨false, fun _ => 0⟩) ∧ Below w.heap.size w wr) (fun _ i _ => 6 - (intOf i).toNat)
  case atStart =>
    obtain ⟨n1, n2, n3, n4⟩ := three_new w A B ⟨false, fun _ => 0⟩
    exact ⟨0, Nat.zero_le _, rfl, rfl, n1, n2, n3, n4⟩
  case round =>
    obtain ⟨k, hk, rfl, rfl, h2, h3, h4, hb⟩ := hrel
    by_cases hlt : k < 6
    · have c2 := h2.cell (1 + k)
      rw [BG.cell _ k hlt] at c2
      simp only [Nat.lt_irrefl, if_false] at c2
      have c3 := h3.cell (1 + k)
      rw [BG.cell _ k hlt] at c3
      have f2 := h2.frozen
      have H2 := hide h2
      have H3 := hide h3
      have H4 := hide h4
      have Hb := hide hb
      have b1 := (HA.out k).1
      have b2 := (HA.out k).2
      have b3 := (HB.out k).1
      have b4 := (HB.out k).2
      have b5 := (cy_bd HA.out HB.out k).1
      have b6 := (cy_bd HA.out HB.out k).2
      have Hc := hide (show cy A.d B.d (k + 1) = (A.d k + B.d k + cy A.d B.d k) / 4294967296 from rfl)
      have Hp := hide (show pd A.d B.d k = (A.d k + B.d k + cy A.d B.d k) % 4294967296 from rfl)
      clear h2 h3 h4 hb
      have hi0 : (0 : Int) ≤ (k : Int) := Int.natCast_nonneg _
      have hi1 : (k : Int) < 6 := by omega
      go_wp2_with fail
      go_quiet (fail)
      go_wp2_with fail
      go_roundw
      case rel =>
        exact ⟨k + 1, by omega, by go_num, by rw [Hc.out], set_upto hlt (Blk.set (H2.out.drewN _) _ _) Hp.out.symm, (H3.out.drewN _).setNe (by omega), (H4.out.drewN _).setNe (by omega), (Hb.out.trans (below_dn' _ _ _)).setCell (Nat.le_refl _) _⟩
      case measure => (simp [intOf] <;> omega)
    · obtain rfl : k = 6 := by omega
      rw [BG.ext6 (g := pd A.d B.d) (fun j hj => by rw [if_pos hj])] at h2
      have H2 := hide h2
      have H4 := hide h4
      have Hb := hide hb
      clear h2 h3 h4 hb
      go_wp2_with (first
        | (refine loadB (by rfl) (.tmp 2) (by rfl) _ _ (by rfl) H2.out ?_)
        | (refine storeB (by rfl) (.tmp 4) (.tmp 30) (by rfl) _ _ _ (by rfl) (by rfl) H4.out ?_; intro W' hW hK hB hz))
      refine bodyPost_ret (v := .agg (BG.cells ⟨A.m, pd A.d B.d⟩)) (retB rfl _ _ _ _ rfl hW) rfl ⟨rfl, hB _ _ (by omega) Hb.out⟩

set_option maxRecDepth 100000 in
set_option maxHeartbeats 1000000 in
theorem less_any (A B : BG) (hA : dig A.d) (hB : dig B.d) (w : World) : Calls Try.prog 43 #[.agg A.cells, .agg B.cells] w fun e w' => e = .returned (.agg (BG.cells ⟨A.m, ld A.d B.d⟩)) ∧ Below w.heap.size w w' := by
  have HA := hide hA
  have HB := hide hB
  clear hA hB
  go_enter Try.func43, Try.ntmps43
  go_wp2_with fail
  go_loopw [5, 6] (fun c i wr => ∃ k : Nat, k ≤ 6 ∧ i = .int .i64 k ∧ c = .int .i64 (bw A.d B.d k) ∧ Blk wr w.heap.size 46 (BG.cells ⟨A.m, fun i => if i < k then ld A.d B.d i else A.d i⟩) ∧ Blk wr (w.heap.size + 1) 46 B.cells ∧ Blk wr (w.heap.size + 2) 46 (BG.cells ⟨false, fun _ => 0⟩) ∧ Below w.heap.size w wr) (fun _ i _ => 6 - (intOf i).toNat)
  case atStart =>
    obtain ⟨n1, n2, n3, n4⟩ := three_new w A B ⟨false, fun _ => 0⟩
    exact ⟨0, Nat.zero_le _, rfl, rfl, n1, n2, n3, n4⟩
  case round =>
    obtain ⟨k, hk, rfl, rfl, h2, h3, h4, hb⟩ := hrel
    by_cases hlt : k < 6
    · have c2 := h2.cell (1 + k)
      rw [BG.cell _ k hlt] at c2
      simp only [Nat.lt_irrefl, if_false] at c2
      have c3 := h3.cell (1 + k)
      rw [BG.cell _ k hlt] at c3
      have f2 := h2.frozen
      have H2 := hide h2
      have H3 := hide h3
      have H4 := hide h4
      have Hb := hide hb
      have b1 := (HA.out k).1
      have b2 := (HA.out k).2
      have b3 := (HB.out k).1
      have b4 := (HB.out k).2
      have b5 := (bw_bd A.d B.d k).1
      have b6 := (bw_bd A.d B.d k).2
      have Hc := hide (show bw A.d B.d (k + 1) = if A.d k - B.d k - bw A.d B.d k < 0 then 1 else 0 from rfl)
      have Hp := hide (show ld A.d B.d k = if A.d k - B.d k - bw A.d B.d k < 0 then A.d k - B.d k - bw A.d B.d k + 4294967296 else A.d k - B.d k - bw A.d B.d k from rfl)
      clear h2 h3 h4 hb
      have hi0 : (0 : Int) ≤ (k : Int) := Int.natCast_nonneg _
      have hi1 : (k : Int) < 6 := by omega
      by_cases hn : A.d k - B.d k - bw A.d B.d k < 0
      · have dn : decide (A.d k - B.d k - bw A.d B.d k < 0) = true := by simp [hn]
        go_wp2_with fail
        go_quiet (fail)
        go_wp2_with fail
        go_roundw
        case rel => exact ⟨k + 1, by omega, by go_num, by rw [Hc.out, if_pos hn], set_upto hlt (Blk.set (H2.out.drewN _) _ _) (by rw [Hp.out, if_pos hn]), (H3.out.drewN _).setNe (by omega), (H4.out.drewN _).setNe (by omega), (Hb.out.trans (below_dn' _ _ _)).setCell (Nat.le_refl _) _⟩
        case measure => simp [intOf]; omega
      · have dn : decide (A.d k - B.d k - bw A.d B.d k < 0) = false := by simp; omega
        go_wp2_with fail
        go_quiet (fail)
        go_wp2_with fail
        go_roundw
        case rel => exact ⟨k + 1, by omega, by go_num, by rw [Hc.out, if_neg (by omega)], set_upto hlt (Blk.set (H2.out.drewN _) _ _) (by rw [Hp.out, if_neg (by omega)]), (H3.out.drewN _).setNe (by omega), (H4.out.drewN _).setNe (by omega), (Hb.out.trans (below_dn' _ _ _)).setCell (Nat.le_refl _) _⟩
        case measure => simp [intOf]; omega
    · obtain rfl : k = 6 := by omega
      rw [BG.ext6 (g := ld A.d B.d) (fun j hj => by rw [if_pos hj])] at h2
      have H2 := hide h2
      have H4 := hide h4
      have Hb := hide hb
      clear h2 h3 h4 hb
      go_wp2_with (first
        | (refine loadB (by rfl) (.tmp 2) (by rfl) _ _ (by rfl) H2.out ?_)
        | (refine storeB (by rfl) (.tmp 4) (.tmp 31) (by rfl) _ _ _ (by rfl) (by rfl) H4.out ?_; intro W' hW hK hB hz))
      refine bodyPost_ret (v := .agg (BG.cells ⟨A.m, ld A.d B.d⟩)) (retB rfl _ _ _ _ rfl hW) rfl ⟨rfl, hB _ _ (by omega) Hb.out⟩

set_option maxRecDepth 100000 in
set_option maxHeartbeats 1000000 in
theorem size_any (A B : BG) (w : World) : Calls Try.prog 42 #[.agg A.cells, .agg B.cells] w fun e w' => e = .returned (.int .i64 (sz A.d B.d 6)) ∧ Below w.heap.size w w' := by
  go_enter Try.func42, Try.ntmps42
  go_wp2_with fail
  go_loopw [5] (fun i wr => ∃ k : Nat, k ≤ 6 ∧ i = .int .i64 ((k : Int) - 1) ∧ sz A.d B.d 6 = sz A.d B.d k ∧ Blk wr w.heap.size 46 A.cells ∧ Blk wr (w.heap.size + 1) 46 B.cells ∧ Below w.heap.size w wr) (fun i _ => (intOf i + 1).toNat)
  case atStart =>
    obtain ⟨n1, n2, n4⟩ := two_new w A B
    exact ⟨6, Nat.le_refl _, rfl, rfl, n1, n2, n4⟩
  case round =>
    obtain ⟨k, hk, rfl, he, h2, h3, hb⟩ := hrel
    have He := hide he
    have Hb := hide hb
    clear he hb
    cases k with
    | zero =>
      have Hz := hide (show sz A.d B.d 0 = 0 from rfl)
      clear h2 h3
      rw [show ((0 : Nat) : Int) - 1 = -1 from rfl]
      go_wp2_with fail
      go_ret
      exact ⟨by rw [He.out, Hz.out]; rfl, Hb.out⟩
    | succ j =>
      rw [show ((j + 1 : Nat) : Int) - 1 = (j : Int) by omega]
      have hlt : j < 6 := by omega
      have c2 := h2.cell (1 + j)
      rw [BG.cell _ j hlt] at c2
      have c3 := h3.cell (1 + j)
      rw [BG.cell _ j hlt] at c3
      have H2 := hide h2
      have H3 := hide h3
      have Hs := hide (show sz A.d B.d (j + 1) = if A.d j < B.d j then -1 else if B.d j < A.d j then 1 else sz A.d B.d j from rfl)
      clear h2 h3
      have hi0 : (0 : Int) ≤ (j : Int) := Int.natCast_nonneg _
      have hi1 : (j : Int) < 6 := by omega
      by_cases h1 : A.d j < B.d j
      · have d1 : decide (A.d j < B.d j) = true := by simp [h1]
        go_wp2_with fail
        go_quiet (fail)
        go_wp2_with fail
        go_ret
        exact ⟨by rw [He.out, Hs.out, if_pos h1]; rfl, Hb.out.trans (below_dn' _ _ _)⟩
      · have d1 : decide (A.d j < B.d j) = false := by simp; omega
        by_cases h2 : B.d j < A.d j
        · have d2 : decide (B.d j < A.d j) = true := by simp [h2]
          go_wp2_with fail
          go_quiet (fail)
          go_wp2_with fail
          go_quiet (fail)
          go_wp2_with fail
          go_ret
          exact ⟨by rw [He.out, Hs.out, if_neg (by omega), if_pos h2]; rfl, Hb.out.trans ((below_dn' _ _ _).trans (below_dn' _ _ _))⟩
        · have d2 : decide (B.d j < A.d j) = false := by simp; omega
          go_wp2_with fail
          go_quiet (fail)
          go_wp2_with fail
          go_quiet (fail)
          go_wp2_with fail
          go_roundw
          case rel => exact ⟨j, by omega, rfl, by rw [He.out, Hs.out, if_neg (by omega), if_neg (by omega)], H2.out, H3.out, Hb.out.trans ⟨rfl, rfl, rfl, Nat.le_refl _, fun _ _ => rfl⟩⟩
          case measure => simp [intOf]

set_option maxRecDepth 100000 in
set_option maxHeartbeats 1000000 in
theorem addOne_any (A : BG) (h0 : 0 ≤ A.d 0 ∧ A.d 0 < 4294967296) (h1 : 0 ≤ A.d 1 ∧ A.d 1 < 4294967295) (w : World) : Calls Try.prog 36 #[.agg A.cells] w fun e w' =>
    e = .returned (.agg (BG.cells (if A.d 0 < 4294967295 then ⟨A.m, fun i => if i = 0 then A.d 0 + 1 else A.d i⟩ else ⟨A.m, fun i => if i = 1 then A.d 1 + 1 else if i = 0 then 0 else A.d i⟩))) ∧ Below w.heap.size w w' := by
  obtain ⟨a0, a1⟩ := h0
  obtain ⟨b0, b1⟩ := h1
  obtain ⟨R, hR⟩ : ∃ R : BG, (if A.d 0 < 4294967295 then ⟨A.m, fun i => if i = 0 then A.d 0 + 1 else A.d i⟩ else ⟨A.m, fun i => if i = 1 then A.d 1 + 1 else if i = 0 then 0 else A.d i⟩) = R := ⟨_, rfl⟩
  rw [hR]
  have HR := hide hR
  clear hR
  go_enter Try.func36, Try.ntmps36
  go_wp2_with fail
  go_loopw [3] (fun i wr => Blk wr (w.heap.size + 1) 46 (BG.cells ⟨false, fun _ => 0⟩) ∧ Below w.heap.size w wr ∧ ((i = .int .i64 0 ∧ Blk wr w.heap.size 46 A.cells) ∨ (i = .int .i64 1 ∧ ¬ A.d 0 < 4294967295 ∧ Blk wr w.heap.size 46 (BG.cells ⟨A.m, fun i => if i = 0 then 0 else A.d i⟩)))) (fun i _ => (2 - intOf i).toNat)
  case atStart =>
    obtain ⟨n1, n2, n4⟩ := two_new w A ⟨false, fun _ => 0⟩
    exact ⟨n2, n4, .inl ⟨rfl, n1⟩⟩
  case round =>
    obtain ⟨h3, hb, ⟨rfl, h2⟩ | ⟨rfl, hn, h2⟩⟩ := hrel
    · have c2 : wr.cell? ⟨w.heap.size, 1, none⟩ = some (.int .i64 (A.d 0)) := by rw [h2.cell]; rfl
      have f2 := h2.frozen
      have Hb := hide hb
      have H2 := hide h2
      have H3 := hide h3
      clear hb h2 h3
      by_cases hlt : A.d 0 < 4294967295
      · have dl : decide (A.d 0 + 1 < 4294967296) = true := by simp; omega
        have H2' : Hid (Blk (wr.setCell ⟨w.heap.size, 1, none⟩ (.int .i64 (A.d 0 + 1))) w.heap.size 46 (BG.cells ⟨A.m, fun i => if i = 0 then A.d 0 + 1 else A.d i⟩)) := hide (by
          have h := H2.out.set 1 (.int .i64 (A.d 0 + 1))
          have e := A.set 0 (by omega) (A.d 0 + 1)
          rw [Nat.add_zero] at e
          rwa [e] at h)
        have H3' : Hid (Blk (wr.setCell ⟨w.heap.size, 1, none⟩ (.int .i64 (A.d 0 + 1))) (w.heap.size + 1) 46 (BG.cells ⟨false, fun _ => 0⟩)) := hide (H3.out.setNe (by omega))
        have Hb' := hide (Hb.out.setCell (p := ⟨w.heap.size, 1, none⟩) (Nat.le_refl _) (.int .i64 (A.d 0 + 1)))
        go_wp2_with (first
          | (refine loadB (by rfl) (.tmp 1) (by rfl) _ _ (by rfl) H2'.out ?_)
          | (refine storeB (by rfl) (.tmp 2) (.tmp 23) (by rfl) _ _ _ (by rfl) (by rfl) H3'.out ?_; intro W' hW hK hB hz))
        refine bodyPost_ret (v := .agg (BG.cells ⟨A.m, fun i => if i = 0 then A.d 0 + 1 else A.d i⟩)) (retB rfl _ _ _ _ rfl hW) rfl ⟨by rw [← HR.out, if_pos hlt], hB _ _ (by omega) Hb'.out⟩
      · have dl : decide (A.d 0 + 1 < 4294967296) = false := by simp; omega
        go_wp2_with fail
        go_roundw
        case rel =>
          refine ⟨(H3.out.setNe (by omega)).setNe (by omega), (Hb.out.setCell (Nat.le_refl _) _).setCell (Nat.le_refl _) _, .inr ⟨rfl, hlt, ?_⟩⟩
          have h := (H2.out.set 1 (.int .i64 (A.d 0 + 1))).set 1 (.int .i64 0)
          have e := A.set 0 (by omega) (A.d 0 + 1)
          rw [Nat.add_zero] at e
          rw [e] at h
          have e2 := BG.set ⟨A.m, fun i => if i = 0 then A.d 0 + 1 else A.d i⟩ 0 (by omega) 0
          rw [Nat.add_zero] at e2
          rw [e2] at h
          rwa [BG.ext6 (g := fun i => if i = 0 then 0 else A.d i) (fun j hj => by
            show (if j = 0 then _ else if j = 0 then _ else _) = _
            split <;> rfl)] at h
        case measure => simp [intOf]
    · have c2 : wr.cell? ⟨w.heap.size, 2, none⟩ = some (.int .i64 (A.d 1)) := by rw [h2.cell]; rfl
      have f2 := h2.frozen
      have Hb := hide hb
      have H2 := hide h2
      have H3 := hide h3
      clear hb h2 h3
      have dl : decide (A.d 1 + 1 < 4294967296) = true := by simp; omega
      have H2' : Hid (Blk (wr.setCell ⟨w.heap.size, 2, none⟩ (.int .i64 (A.d 1 + 1))) w.heap.size 46 (BG.cells ⟨A.m, fun i => if i = 1 then A.d 1 + 1 else if i = 0 then 0 else A.d i⟩)) := hide (by
        have h := H2.out.set 2 (.int .i64 (A.d 1 + 1))
        have e := BG.set ⟨A.m, fun i => if i = 0 then 0 else A.d i⟩ 1 (by omega) (A.d 1 + 1)
        rw [show 1 + 1 = 2 from rfl] at e
        rwa [e] at h)
      have H3' : Hid (Blk (wr.setCell ⟨w.heap.size, 2, none⟩ (.int .i64 (A.d 1 + 1))) (w.heap.size + 1) 46 (BG.cells ⟨false, fun _ => 0⟩)) := hide (H3.out.setNe (by omega))
      have Hb' := hide (Hb.out.setCell (p := ⟨w.heap.size, 2, none⟩) (Nat.le_refl _) (.int .i64 (A.d 1 + 1)))
      go_wp2_with (first
        | (refine loadB (by rfl) (.tmp 1) (by rfl) _ _ (by rfl) H2'.out ?_)
        | (refine storeB (by rfl) (.tmp 2) (.tmp 23) (by rfl) _ _ _ (by rfl) (by rfl) H3'.out ?_; intro W' hW hK hB hz))
      refine bodyPost_ret (v := .agg (BG.cells ⟨A.m, fun i => if i = 1 then A.d 1 + 1 else if i = 0 then 0 else A.d i⟩)) (retB rfl _ _ _ _ rfl hW) rfl ⟨by rw [← HR.out, if_neg (by omega)], hB _ _ (by omega) Hb'.out⟩

theorem info3s (w : World) : (sizeOf 3).run Try.prog w = .ok 1 w := by kernel_rfl
theorem eq44 (k d : Nat) (hk : k = d + 1) (a0 a1 a2 a3 a4 a5 : Int) (w : World) : (Op.equalIn (k + 1) 44 (.agg #[.int .i64 a0, .int .i64 a1, .int .i64 a2, .int .i64 a3, .int .i64 a4, .int .i64 a5]) (.agg #[.int .i64 0, .int .i64 0, .int .i64 0, .int .i64 0, .int .i64 0, .int .i64 0])).run Try.prog w =
    .ok (a0 == 0 && (a1 == 0 && (a2 == 0 && (a3 == 0 && (a4 == 0 && a5 == 0))))) w := by
  have e : ∀ (a b : Int) (w : World), (Op.equalIn k 3 (.int .i64 a) (.int .i64 b)).run Try.prog w = .ok (a == b) w := fun a b w => by
    subst hk; exact run_equalIn_int w d 3 .i64 .i64 _ _ Try.underlying3
  have r0 : ∀ (a0 a1 a2 a3 a4 a5 : Int) (w : World), (part 3 #[.int .i64 a0, .int .i64 a1, .int .i64 a2, .int .i64 a3, .int .i64 a4, .int .i64 a5] 0).run Try.prog w = .ok (.int .i64 a0) w := fun _ _ _ _ _ _ _ => by kernel_rfl
  have r1 : ∀ (a0 a1 a2 a3 a4 a5 : Int) (w : World), (part 3 #[.int .i64 a0, .int .i64 a1, .int .i64 a2, .int .i64 a3, .int .i64 a4, .int .i64 a5] 1).run Try.prog w = .ok (.int .i64 a1) w := fun _ _ _ _ _ _ _ => by kernel_rfl
  have r2 : ∀ (a0 a1 a2 a3 a4 a5 : Int) (w : World), (part 3 #[.int .i64 a0, .int .i64 a1, .int .i64 a2, .int .i64 a3, .int .i64 a4, .int .i64 a5] 2).run Try.prog w = .ok (.int .i64 a2) w := fun _ _ _ _ _ _ _ => by kernel_rfl
  have r3 : ∀ (a0 a1 a2 a3 a4 a5 : Int) (w : World), (part 3 #[.int .i64 a0, .int .i64 a1, .int .i64 a2, .int .i64 a3, .int .i64 a4, .int .i64 a5] 3).run Try.prog w = .ok (.int .i64 a3) w := fun _ _ _ _ _ _ _ => by kernel_rfl
  have r4 : ∀ (a0 a1 a2 a3 a4 a5 : Int) (w : World), (part 3 #[.int .i64 a0, .int .i64 a1, .int .i64 a2, .int .i64 a3, .int .i64 a4, .int .i64 a5] 4).run Try.prog w = .ok (.int .i64 a4) w := fun _ _ _ _ _ _ _ => by kernel_rfl
  have r5 : ∀ (a0 a1 a2 a3 a4 a5 : Int) (w : World), (part 3 #[.int .i64 a0, .int .i64 a1, .int .i64 a2, .int .i64 a3, .int .i64 a4, .int .i64 a5] 5).run Try.prog w = .ok (.int .i64 a5) w := fun _ _ _ _ _ _ _ => by kernel_rfl
  simp only [Op.equalIn, Sem.run_bind, run_underlying Try.underlying44, Result.andThen_ok, info3s]
  rw [Std.Legacy.Range.forIn_eq_forIn_range']
  simp only [Std.Legacy.Range.size, List.range']
  by_cases h0 : a0 = 0 <;> by_cases h1 : a1 = 0 <;> by_cases h2 : a2 = 0 <;> by_cases h3 : a3 = 0 <;> by_cases h4 : a4 = 0 <;> by_cases h5 : a5 = 0 <;> simp [Sem.run_bind, r0, r1, r2, r3, r4, r5, e, h0, h1, h2, h3, h4, h5]

theorem BG.lit (A : BG) : A.cells = #[.bool A.m, .int .i64 (A.d 0), .int .i64 (A.d 1), .int .i64 (A.d 2), .int .i64 (A.d 3), .int .i64 (A.d 4), .int .i64 (A.d 5)] := rfl
theorem zeroD_beq (d : Nat → Int) : (d 0 == 0 && (d 1 == 0 && (d 2 == 0 && (d 3 == 0 && (d 4 == 0 && d 5 == 0))))) = zeroD d := by
  unfold zeroD
  rw [Bool.eq_iff_iff]; simp
set_option maxRecDepth 100000 in
set_option maxHeartbeats 1000000 in
theorem zero_any (A : BG) (w : World) : Calls Try.prog 35 #[.agg A.cells] w fun e w' => e = .returned (.bool (zeroD A.d)) ∧ Below w.heap.size w w' := by
  rw [BG.lit, ← zeroD_beq]
  generalize A.d = d
  have heq : ∀ (a0 a1 a2 a3 a4 a5 : Int) (w : World), (Op.equalIn 10000 44 (.agg #[.int .i64 a0, .int .i64 a1, .int .i64 a2, .int .i64 a3, .int .i64 a4, .int .i64 a5]) (.agg #[.int .i64 0, .int .i64 0, .int .i64 0, .int .i64 0, .int .i64 0, .int .i64 0])).run Try.prog w =
    .ok (a0 == 0 && (a1 == 0 && (a2 == 0 && (a3 == 0 && (a4 == 0 && a5 == 0))))) w := eq44 9999 9998 rfl
  go_enter Try.func35, Try.ntmps35
  go_wp2_with fail
  go_ret
  exact ⟨rfl, (Below.refl _ _).alloc (Nat.le_refl _) _⟩

end Go.Proofs.Ytciooimbhabccaa
