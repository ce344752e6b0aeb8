/- The law PeerRefuses. -/
import Derived.Test.YtmcncdiiiplhcaaL
import Derived.Deep.DrawnRows
import Derived.Deep.DeepCutAuto
import Derived.BigGuardPart
namespace Go.Proofs.Ytmcncdiiiplhcaa
open Go.RowKit Go.Maps

/-- frames fr 0, fr 1 in a slice of two -/
theorem frames_two {W : World} {f : Fr} {g : Nat} (hB : Blk W g 32 (f.vals ++ f.vals)) (hA : f.At W W.heap.size) (hwf : (Lit.int .i64 f.frm).wf = true) : FramesAt W W.heap.size (some ⟨g, 0, none⟩) 2 (fun _ => f) := by
  refine ⟨fun i hi => ⟨hA, hwf⟩, fun _ => ⟨g, 0, rfl, hB.lt, fun i hi j v hv => ?_⟩⟩
  have hj : j < f.vals.size := (Array.getElem?_eq_some_iff.1 hv).1
  have hs : f.vals.size = 5 := rfl
  rw [hB.cell]
  obtain rfl | rfl : i = 0 ∨ i = 1 := by omega
  · rw [show 0 + 0 * 5 + j = j by omega, Array.getElem?_append_left hj]
    exact hv
  · rw [show 0 + 1 * 5 + j = f.vals.size + j by omega, Array.getElem?_append_right (by omega), Nat.add_sub_cancel_left]
    exact hv

def rightOf (n : Int) (f : Fr) : Bool := (f.kind == 1) && (decide (1 ≤ f.frm) && (decide (f.frm < n) && (decide (0 ≤ f.tick) && (decide (f.tick < 140737488355328) && (decide (f.len = 1) && (f.data.toList.isEmpty && (bits .and .i64 f.num 4294967295 == 0)))))))
theorem rightOf_eq (n : Int) (f : Fr) : rightOf n f = rightB 0 n f := by
  unfold rightOf rightB othB
  rw [low_zero, Bool.eq_iff_iff]
  simp only [Bool.and_eq_true, decide_eq_true_eq, beq_iff_eq, bne_iff_ne]
  constructor
  · rintro ⟨a, b, c, d, e, f, g, h⟩
    exact ⟨a, ⟨⟨by omega, c⟩, by omega⟩, d, by omega, f, h, g⟩
  · rintro ⟨a, ⟨⟨b, c⟩, b2⟩, d, e, f, h, g⟩
    exact ⟨a, by omega, c, d, by omega, f, g, h⟩

theorem fin_true {rb : Bool} {n x t : Int} (h : rb = (decide (1 ≤ x) && (decide (x < n) && (decide (0 ≤ t) && decide (t < 140737488355328))))) (h1 : 1 ≤ x) (h2 : x < n) (h3 : 0 ≤ t) (h4 : t < 140737488355328) : Value.bool true = Value.bool rb := by
  rw [h]; simp [h1, h2, h3, h4]
theorem fin_false {rb : Bool} {n x t : Int} (h : rb = (decide (1 ≤ x) && (decide (x < n) && (decide (0 ≤ t) && decide (t < 140737488355328))))) (hn : ¬ (1 ≤ x ∧ x < n ∧ 0 ≤ t ∧ t < 140737488355328)) : Value.bool false = Value.bool rb := by
  have : rb = false := by
    rw [← Bool.not_eq_true]
    intro e
    rw [h] at e
    simp at e
    exact hn e
  rw [this]

set_option maxRecDepth 100000 in
set_option maxHeartbeats 4000000 in
theorem law_refuses (f : Fr) (n : Int) (w : World) (hl : f.len ≤ 9223372036854775807) (hd : f.data.size ≤ 9223372036854775807) (hf : f.At w w.heap.size) (hw : (Lit.int .i64 f.frm).wf = true) (ht : (Lit.int .i64 f.tick).wf = true) :
    Calls Try.prog 4 #[.agg f.vals, .int .i64 n] w fun e w' => e = .returned (.bool true) ∧ Below w.heap.size w w' := by
  by_cases h1 : 200 < f.len
  · have d1 : decide ((200 : Int) < f.len) = true := by simp; omega
    unfold Fr.vals
    go_enter Try.func4, Try.ntmps4
    go_wp2_with (go_at_call 7; refine (alive_any _).mono ?_; rintro e w' ⟨rfl, hb⟩)
    go_ret
    exact ⟨rfl, ((Below.refl _ _).alloc (Nat.le_refl _) _).trans (hb.mono (by simp))⟩
  have d1 : decide ((200 : Int) < f.len) = false := by simp; omega
  by_cases h2 : 3000 < f.data.size
  · have d2 : decide ((3000 : Int) < f.data.size) = true := by simp; omega
    unfold Fr.vals
    go_enter Try.func4, Try.ntmps4
    go_wp2_with (go_at_call 7; refine (alive_any _).mono ?_; rintro e w' ⟨rfl, hb⟩)
    go_ret
    exact ⟨rfl, ((Below.refl _ _).alloc (Nat.le_refl _) _).trans (hb.mono (by simp))⟩
  have d2 : decide ((3000 : Int) < f.data.size) = false := by simp; omega
  by_cases h3 : n < 1
  · have d3 : decide (n < 1) = true := by simp; omega
    unfold Fr.vals
    go_enter Try.func4, Try.ntmps4
    go_wp2_with (go_at_call 7; refine (alive_any _).mono ?_; rintro e w' ⟨rfl, hb⟩)
    go_ret
    exact ⟨rfl, ((Below.refl _ _).alloc (Nat.le_refl _) _).trans (hb.mono (by simp))⟩
  have d3 : decide (n < 1) = false := by simp; omega
  by_cases h4 : 8 < n
  · have d4 : decide (8 < n) = true := by simp; omega
    unfold Fr.vals
    go_enter Try.func4, Try.ntmps4
    go_wp2_with (go_at_call 7; refine (alive_any _).mono ?_; rintro e w' ⟨rfl, hb⟩)
    go_ret
    exact ⟨rfl, ((Below.refl _ _).alloc (Nat.le_refl _) _).trans (hb.mono (by simp))⟩
  have d4 : decide (8 < n) = false := by simp; omega
  have hok : newOk 0 n 5 = true := by simp [newOk]; omega
  have Hok := hide hok
  clear hok
  go_enter Try.func4, Try.ntmps4
  unfold Fr.vals
  go_wp2_with fail
  refine (new_yes 0 n 5 _ Hok.out).mono ?_
  rintro e w1 ⟨rfl, hP1, hb1, hs1⟩
  have hBf : Blk w1 w.heap.size 32 f.vals := (Blk.new w 32 f.vals).below hb1 (by simp)
  have hfa : f.At w1 w.heap.size := by
    refine hf.below (((Below.refl _ w).alloc (Nat.le_refl _) (.cells f.vals 32)).trans (hb1.mono (by simp)))
  have hb0 : Below w.heap.size w w1 := ((Below.refl _ w).alloc (Nat.le_refl _) (.cells f.vals 32)).trans (hb1.mono (by simp))
  simp at hs1 hP1
  clear hb1 hf
  have HBf := hide hBf
  have b0 : w1.cell? ⟨w.heap.size, 0, none⟩ = some (.int .i64 f.kind) := hBf.cell 0
  have b1 : w1.cell? ⟨w.heap.size, 1, none⟩ = some (.int .i64 f.frm) := hBf.cell 1
  have b2 : w1.cell? ⟨w.heap.size, 2, none⟩ = some (.int .i64 f.tick) := hBf.cell 2
  have b3 : w1.cell? ⟨w.heap.size, 3, none⟩ = some (.slice f.A f.len f.cap) := hBf.cell 3
  have b4 : w1.cell? ⟨w.heap.size, 4, none⟩ = some (.string f.data) := hBf.cell 4
  clear hBf
  go_wp2_with fail
  have hF := frames_one (f := f) (g := w1.heap.size) (W := w1.alloc (.cells f.vals 32)) (Blk.new w1 32 f.vals) ((hfa.below ((Below.refl _ _).alloc (by omega) _)).more (by simp; omega)) hw
  refine (hear_any (hP1.alloc _) _ 1 1 _ hF (by decide) (by decide)).mono ?_
  rintro e w2 ⟨rfl, hP2, hg2⟩
  have hg3 : w1.grownBy w2 (some (w.heap.size + 1)) := ⟨hg2.os, hg2.tape, hg2.output, Nat.le_trans (by simp) hg2.size, fun i hi hne => (hg2.block i (by simp; omega) hne).trans (Below.heap_alloc _ _ _ hi)⟩
  have hBf2 : Blk w2 w.heap.size 32 f.vals := HBf.out.grown hg3 (by simp)
  have hfa2 : f.At w2 w.heap.size := fun e => by
    obtain ⟨ad, e1, e2, e3, e4⟩ := hfa e
    exact ⟨ad, e1, e2, (cell_grown hg3 (by omega) (by simp; omega)).trans e3, e4⟩
  have hbb2 : Below w.heap.size w w2 := hb0.grown hg3 hb0.size (fun k hk => by injection hk with hk; omega)
  clear hg2 hg3 HBf hfa hb0 hP1 hF b0 b1 b2 b3 b4 hs1
  have b0 : w2.cell? ⟨w.heap.size, 0, none⟩ = some (.int .i64 f.kind) := hBf2.cell 0
  have b1 : w2.cell? ⟨w.heap.size, 1, none⟩ = some (.int .i64 f.frm) := hBf2.cell 1
  have b2 : w2.cell? ⟨w.heap.size, 2, none⟩ = some (.int .i64 f.tick) := hBf2.cell 2
  have b3 : w2.cell? ⟨w.heap.size, 3, none⟩ = some (.slice f.A f.len f.cap) := hBf2.cell 3
  have b4 : w2.cell? ⟨w.heap.size, 4, none⟩ = some (.string f.data) := hBf2.cell 4
  have HBf := hide hBf2
  have Hfa := hide hfa2
  have HP2 := hide hP2
  have Hbb := hide hbb2
  clear hBf2 hfa2 hP2 hbb2
  go_upto_region 9 with fail
  go_cut [8] (fun s8 wx => s8 = .bool (rightB 0 n f) ∧ w2 = wx)
  case first =>
    have Hq := hide (rightOf_eq n f)
    cases hk : (f.kind == 1) with
    | false =>
      have Hf : Hid (rightB 0 n f = false) := hide (by rw [← Hq.out]; simp [rightOf, hk])
      go_wp2_with fail
      go_meet
      exact ⟨by rw [Hf.out], rfl⟩
    | true =>
      by_cases hl1 : f.len = 1
      · obtain ⟨ad, eA, hadB, had, hn1, hn2⟩ := Hfa.out hl1
        rw [eA, hl1] at b3
        have HeA := hide eA
        have Hl1 := hide hl1
        clear eA hl1
        cases he : f.data.toList.isEmpty with
        | false =>
          have Hf : Hid (rightB 0 n f = false) := hide (by rw [← Hq.out]; simp only [rightOf, he]; simp)
          go_wp2_with fail
          all_goals go_meet
          all_goals exact ⟨by rw [Hf.out], rfl⟩
        | true =>
          cases hb : (bits .and .i64 f.num 4294967295 == 0) with
          | false =>
            have Hf : Hid (rightB 0 n f = false) := hide (by rw [← Hq.out]; simp only [rightOf, hb]; simp)
            go_wp2_with fail
            all_goals go_meet
            all_goals exact ⟨by rw [Hf.out], rfl⟩
          | true =>
            have Hf : Hid (rightB 0 n f = (decide (1 ≤ f.frm) && (decide (f.frm < n) && (decide (0 ≤ f.tick) && decide (f.tick < 140737488355328))))) := hide (by rw [← Hq.out]; simp only [rightOf, hb, he, hk, Hl1.out]; simp)
            go_wp2_with fail
            all_goals go_meet
            all_goals first | exact ⟨fin_true Hf.out (by omega) (by omega) (by omega) (by omega), rfl⟩ | exact ⟨fin_false Hf.out (by omega), rfl⟩
      · have Hf : Hid (rightB 0 n f = false) := hide (by rw [← Hq.out]; simp [rightOf, hl1])
        have q4 : ((f.len : Int) == 1) = false := by simp; omega
        go_wp2_with fail
        all_goals go_meet
        all_goals exact ⟨by rw [Hf.out], rfl⟩
  case rest =>
    obtain ⟨rfl, rfl⟩ := hcut
    have htk : takesB 0 n (fun _ => none) f = rightB 0 n f := by simp [takesB, newerB]
    have htrue := @rightB_true 0 n f
    cases hrb : rightB 0 n f with
    | false =>
      rw [hrb] at htk
      have e1 : hearN 0 n (fun _ => none) (fun _ => f) 1 = 0 := by simp [hearN, hearK, htk]
      have e2 : hearK 0 n (fun _ => none) (fun _ => f) 1 = fun _ => none := by simp [hearK, hear1, htk]
      rw [e1]
      have hP2 := HP2.out
      rw [e2] at hP2
      have n1 := hP2.n1
      have e3 := heard_none n 5 f.tick n1
      have E3 := hide e3
      clear e1 e2 e3 htk hrb HP2 htrue
      go_wp2_with fail
      refine (alive_any _).mono ?_
      rintro e w3 ⟨rfl, hb3⟩
      have hP3 := hP2.below hb3 hP2.lt.1 hP2.lt.2
      have hbb3 := Hbb.out.trans (hb3.mono Hbb.out.size)
      have hBf3 := HBf.out.below hb3 HBf.out.lt
      clear hb3 hP2
      go_wp2_with fail
      refine (seen_any hP3 _ (by decide)).mono ?_
      rintro e w4 ⟨v, rfl, hrow, hb4⟩
      rw [ids_none] at hrow
      obtain ⟨A, cap, rfl, _⟩ := rowForm3 hrow
      have hP4 := hP3.below hb4 hP3.lt.1 hP3.lt.2
      have hbb4 := hbb3.trans (hb4.mono hbb3.size)
      have hBf4 := hBf3.below hb4 hBf3.lt
      have t4 : w4.cell? ⟨w.heap.size, 2, none⟩ = some (.int .i64 f.tick) := hBf4.cell 2
      clear hb4 hP3 hBf3 hrow
      simp only [seenL, List.filter_nil, List.map_nil, List.length_nil]
      go_wp2_with fail
      refine (heard_any hP4 _ ht).mono ?_
      rintro e w5 ⟨rfl, hb5⟩
      rw [E3.out]
      have hbb5 := hbb4.trans (hb5.mono hbb4.size)
      clear hb5 hP4
      go_wp2
      go_ret
      exact ⟨rfl, hbb5⟩
    | true =>
      rw [hrb] at htk
      obtain ⟨f9, f0, f1, f2, f3, f4, f8⟩ := htrue hrb
      clear f8 f9
      have ho : othB 0 n f.frm = true := by simp [othB, f0, f1, f2]
      have e1 : hearN 0 n (fun _ => none) (fun _ => f) 1 = 1 := by simp [hearN, hearK, htk]
      have e2 : hearK 0 n (fun _ => none) (fun _ => f) 1 = putK (fun _ => none) f.frm (f.num.tdiv 4294967296) f.tick := by simp [hearK, hear1, htk]
      rw [e1]
      have hP2 := HP2.out
      rw [e2] at hP2
      have e3 : takesB 0 n (putK (fun _ => none) f.frm (f.num.tdiv 4294967296) f.tick) f = false := by simp [takesB, newerB, putK, tOf]
      have E4 : Hid (hearN 0 n (putK (fun _ => none) f.frm (f.num.tdiv 4294967296) f.tick) (fun _ => f) 2 = 0) := hide (by simp [hearN, hearK, hear1, e3])
      have E5 : Hid (hearK 0 n (putK (fun _ => none) f.frm (f.num.tdiv 4294967296) f.tick) (fun _ => f) 2 = putK (fun _ => none) f.frm (f.num.tdiv 4294967296) f.tick) := hide (by simp [hearK, hear1, e3])
      have a1 := age_put (n := n) (h := f.num.tdiv 4294967296) (t := f.tick) (now := f.tick) ho
      have a2 := age_put (n := n) (h := f.num.tdiv 4294967296) (t := f.tick) (now := f.tick - 1) ho
      have hids := ids_put hP2
      generalize hG : putK (fun _ => none) f.frm (f.num.tdiv 4294967296) f.tick = G at *
      have E6 : Hid ((seenL 0 n G f.tick (idsOf n G)).length = 1) := hide (by rw [hids]; simp [seenL, a1])
      have E7 : Hid ((seenL 0 n G (f.tick - 1) (idsOf n G)).length = 0) := hide (by rw [hids]; simp [seenL, a2]; omega)
      have E8 : Hid (ageE 0 n G f.frm f.tick = 0 ∧ ageV 0 n G f.frm f.tick = 0) := hide (by rw [a1.1, a1.2]; simp)
      clear e1 e2 htk hrb HP2 htrue hG a1 a2 hids e3
      have b1 : w2.cell? ⟨w.heap.size, 1, none⟩ = some (.int .i64 f.frm) := HBf.out.cell 1
      have b2 : w2.cell? ⟨w.heap.size, 2, none⟩ = some (.int .i64 f.tick) := HBf.out.cell 2
      go_wp2_with fail
      refine (age_any hP2 _ _ hw ht).mono ?_
      rintro e w3 ⟨rfl, rfl⟩
      rw [E8.out.1, E8.out.2]
      have hP3 := hP2.alloc (.cells #[.int .i64 (hOf G f.frm), .int .i64 (tOf G f.frm)] 56)
      have hb3 := (Below.refl w2.heap.size w2).alloc (Nat.le_refl _) (.cells #[.int .i64 (hOf G f.frm), .int .i64 (tOf G f.frm)] 56)
      obtain ⟨w3, hw3⟩ : ∃ w3, w2.alloc (.cells #[.int .i64 (hOf G f.frm), .int .i64 (tOf G f.frm)] 56) = w3 := ⟨_, rfl⟩
      rw [hw3] at hP3 hb3 ⊢
      have hbb3 := Hbb.out.trans (hb3.mono Hbb.out.size)
      have hBf3 := HBf.out.below hb3 HBf.out.lt
      have hfa3 := Hfa.out.below (hb3.mono Hbb.out.size)
      clear hw3 hb3 hP2 b1 b2
      go_wp2_with fail
      refine (alive_any _).mono ?_
      rintro e w4 ⟨rfl, hb4⟩
      have hP4 := hP3.below hb4 hP3.lt.1 hP3.lt.2
      have hbb4 := hbb3.trans (hb4.mono hbb3.size)
      have hBf4 := hBf3.below hb4 hBf3.lt
      have hfa4 := hfa3.below (hb4.mono hbb3.size)
      clear hb4 hP3 hbb3 hBf3 hfa3
      have b0 : w4.cell? ⟨w.heap.size, 0, none⟩ = some (.int .i64 f.kind) := hBf4.cell 0
      have b1 : w4.cell? ⟨w.heap.size, 1, none⟩ = some (.int .i64 f.frm) := hBf4.cell 1
      have b2 : w4.cell? ⟨w.heap.size, 2, none⟩ = some (.int .i64 f.tick) := hBf4.cell 2
      have b3 : w4.cell? ⟨w.heap.size, 3, none⟩ = some (.slice f.A f.len f.cap) := hBf4.cell 3
      have b4 : w4.cell? ⟨w.heap.size, 4, none⟩ = some (.string f.data) := hBf4.cell 4
      go_wp2_with fail
      have hF := frames_two (f := f) (g := w4.heap.size) (W := w4.alloc (.cells (f.vals ++ f.vals) 32)) (Blk.new w4 32 (f.vals ++ f.vals)) ((hfa4.below ((Below.refl _ _).alloc hbb4.size _)).more (by have := hbb4.size; simp; omega)) hw
      refine (hear_any (hP4.alloc _) _ 2 2 _ hF (by decide) (by decide)).mono ?_
      rintro e w5 ⟨rfl, hP5, hg5⟩
      rw [E4.out]
      rw [E5.out] at hP5
      have hg6 : w4.grownBy w5 (some (w.heap.size + 1)) := ⟨hg5.os, hg5.tape, hg5.output, Nat.le_trans (by simp) hg5.size, fun i hi hne => (hg5.block i (by simp; omega) hne).trans (Below.heap_alloc _ _ _ hi)⟩
      have hBf5 : Blk w5 w.heap.size 32 f.vals := hBf4.grown hg6 (by simp)
      have hbb5 := hbb4.grown hg6 hbb4.size (fun k hk => by injection hk with hk; omega)
      clear hg5 hg6 hP4 hbb4 hBf4 hfa4 hF b0 b1 b2 b3 b4
      have b2 : w5.cell? ⟨w.heap.size, 2, none⟩ = some (.int .i64 f.tick) := hBf5.cell 2
      go_wp2_with fail
      refine (seen_any hP5 _ ht).mono ?_
      rintro e w6 ⟨v, rfl, hrow, hb6⟩
      obtain ⟨A6, cap6, rfl, _⟩ := rowForm3 hrow
      rw [E6.out]
      have hP6 := hP5.below hb6 hP5.lt.1 hP5.lt.2
      have hbb6 := hbb5.trans (hb6.mono hbb5.size)
      have hBf6 := hBf5.below hb6 hBf5.lt
      clear hb6 hP5 hbb5 hBf5 hrow b2
      have b2 : w6.cell? ⟨w.heap.size, 2, none⟩ = some (.int .i64 f.tick) := hBf6.cell 2
      go_wp2_with fail
      refine (seen_any hP6 _ (wf_of ⟨by omega, by omega⟩)).mono ?_
      rintro e w7 ⟨v, rfl, hrow, hb7⟩
      obtain ⟨A7, cap7, rfl, _⟩ := rowForm3 hrow
      rw [E7.out]
      have hbb7 := hbb6.trans (hb7.mono hbb6.size)
      clear hb7 hP6 hbb6 hBf6 hrow b2
      go_wp2
      go_ret
      exact ⟨rfl, hbb7⟩

end Go.Proofs.Ytmcncdiiiplhcaa
