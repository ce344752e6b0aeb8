/- The voter: Mid, New. -/
import Derived.Test.YtciooimbhabccaaC
namespace Go.Proofs.Ytciooimbhabccaa
open Go.RowKit Go.Shelf Go.Sort Go.Maps

theorem values_any (a : Option Addr) (len cap : Nat) (w : World) : Calls Try.prog 29 #[.slice a len cap] w fun e w' => e = .returned (.func (.func 39) #[] #[.pointer (some ⟨w.heap.size, 0, none⟩)]) ∧ w.alloc (.cells #[.slice a len cap] 22) = w' := by
  go_enter Try.func29, Try.ntmps29
  go_wp2
  go_ret
  exact ⟨rfl, rfl⟩

theorem appendSeq_any (Bv : Nat) (sv : Value) (zs : List Int) (hlen : zs.length ≤ 1000000000) (w : World) (hBv : Bv < w.heap.size) (hcv : w.cell? ⟨Bv, 0, none⟩ = some sv) (hI : Ints w.heap.size w sv zs) :
    Calls Try.prog 44 #[.slice none 0 0, .func (.func 39) #[] #[.pointer (some ⟨Bv, 0, none⟩)]] w fun e W' => ∃ v, e = .returned v ∧ W'.ownsRow w.heap.size 3 1 v zs.length (zs.map (Value.int .i64)) ∧ (v = .slice none 0 0 ↔ zs = []) ∧ Below w.heap.size w W' :=
  (callsIn_wide (n := 3)).1 (appendSeq_in Fence.wide 3 trivial trivial rfl (by decide) Bv sv zs hlen w hBv hcv hI)

theorem collect_any (Bv : Nat) (sv : Value) (zs : List Int) (hlen : zs.length ≤ 1000000000) (w : World) (hBv : Bv < w.heap.size) (hcv : w.cell? ⟨Bv, 0, none⟩ = some sv) (hI : Ints w.heap.size w sv zs) :
    Calls Try.prog 37 #[.func (.func 39) #[] #[.pointer (some ⟨Bv, 0, none⟩)]] w fun e W' => ∃ v, e = .returned v ∧ W'.ownsRow w.heap.size 3 1 v zs.length (zs.map (Value.int .i64)) ∧ (v = .slice none 0 0 ↔ zs = []) ∧ Below w.heap.size w W' := by
  have H := hide (appendSeq_any Bv sv zs hlen w hBv hcv hI)
  clear hcv hI
  go_enter Try.func37, Try.ntmps37
  go_wp2_with (go_at_call 44; refine H.out.mono ?_; rintro e W ⟨v, rfl, hrow, hnil, hb⟩)
  go_ret
  exact ⟨v, rfl, hrow, hnil, hb⟩

def leZ (x y : Int) : Bool := decide (x ≤ y)
def srt (zs : List Int) : List Int := zs.mergeSort fun x y => decide (x ≤ y)
theorem srt_len (zs : List Int) : (srt zs).length = zs.length := by simp [srt]

theorem sorted_any (Bv : Nat) (sv : Value) (zs : List Int) (hlen : zs.length ≤ 1000000000) (w : World) (hBv : Bv < w.heap.size) (hcv : w.cell? ⟨Bv, 0, none⟩ = some sv) (hI : Ints w.heap.size w sv zs) :
    Calls Try.prog 28 #[.func (.func 39) #[] #[.pointer (some ⟨Bv, 0, none⟩)]] w fun e W' => ∃ v, e = .returned v ∧ W'.ownsRow w.heap.size 3 1 v zs.length ((srt zs).map (Value.int .i64)) ∧ Below w.heap.size w W' := by
  have H := hide (collect_any Bv sv zs hlen w hBv hcv hI)
  clear hcv hI
  go_enter Try.func28, Try.ntmps28
  go_wp2_with (go_at_call 37; refine H.out.mono ?_; rintro e W ⟨v, rfl, hrow, hnil, hb⟩)
  rcases hrow.2 with ⟨rfl, hz⟩ | ⟨gb, cap, cur, rfl, hbase, hgb, r1, r2, r3, r4⟩
  · obtain rfl : zs = [] := List.eq_nil_of_length_eq_zero hz
    have hS : Calls Try.prog 38 #[.slice none 0 0] W fun e w' => e = .returned (.tuple #[]) ∧ w' = W := AnyM.slices_Sort_int_none Try.sortA none 0 W
    have HS := hide hS
    clear hS
    go_wp2_with (go_at_call 38; refine HS.out.mono ?_; rintro e w' ⟨rfl, rfl⟩)
    go_ret
    exact ⟨.slice none 0 0, rfl, by simpa [srt] using hrow, hb⟩
  · have hH : Holds encZ W gb 0 zs.toArray := holds_of_block_i hgb (by simpa using r4)
    have hgl : gb < W.heap.size := (Array.getElem?_eq_some_iff.1 hgb).1
    have hS : Calls Try.prog 38 #[.slice (some ⟨gb, 0, none⟩) zs.length cap] W fun e w' => e = .returned (.tuple #[]) ∧ ∃ n os, w' = grow (putRow (Value.int .i64) (Sort.ahead W n) gb 0 (zs.mergeSort fun x y => decide (x ≤ y)).toArray) os := AnyM.slices_Sort_int Try.sortA gb 0 cap zs W hH hgl (by omega)
    have HS := hide hS
    clear hS hH
    go_wp2_with (go_at_call 38; refine HS.out.mono ?_; rintro e w' ⟨rfl, nn, os, rfl⟩)
    go_ret
    exact ⟨_, rfl, by simpa [srt] using ownsRow_sorted_i (by simp) hbase hgb r1 r2 r3, hb.grown (grownBy_sorted_i _) hb.size (fun j hj => by cases hj; exact hbase)⟩

/-- the same, by insertion -/
def ins (a : Int) : List Int → List Int
  | [] => [a]
  | b :: l => if a ≤ b then a :: b :: l else b :: ins a l
def isort : List Int → List Int
  | [] => []
  | a :: l => ins a (isort l)
theorem ins_perm (a : Int) : ∀ l, (ins a l).Perm (a :: l)
  | [] => .refl _
  | b :: l => by
    unfold ins
    split
    · exact .refl _
    · exact ((ins_perm a l).cons b).trans (.swap a b l)
theorem ins_sorted (a : Int) : ∀ l : List Int, l.Pairwise (· ≤ ·) → (ins a l).Pairwise (· ≤ ·)
  | [], _ => by simp [ins]
  | b :: l, h => by
    obtain ⟨h1, h2⟩ := List.pairwise_cons.1 h
    unfold ins
    split
    · refine List.pairwise_cons.2 ⟨fun x hx => ?_, h⟩
      rcases List.mem_cons.1 hx with rfl | hx
      · assumption
      · have := h1 x hx; omega
    · refine List.pairwise_cons.2 ⟨fun x hx => ?_, ins_sorted a l h2⟩
      rcases List.mem_cons.1 ((ins_perm a l).mem_iff.1 hx) with rfl | hx
      · omega
      · exact h1 x hx
theorem isort_perm : ∀ l, (isort l).Perm l
  | [] => .refl _
  | a :: l => (ins_perm a _).trans ((isort_perm l).cons a)
theorem isort_sorted : ∀ l, (isort l).Pairwise (· ≤ ·)
  | [] => .nil
  | a :: l => ins_sorted a _ (isort_sorted l)
theorem srt_isort (zs : List Int) : srt zs = isort zs := by
  unfold srt
  have e2 := mergeSort_of_perm_i (isort_perm zs).symm
  rw [show (fun x y : Int => decide (x ≤ y)) = leI from rfl, e2]
  exact List.mergeSort_of_pairwise ((isort_sorted zs).imp (fun h => by simp [leI]; omega))

def midL (zs : List Int) : Int := (isort zs).getD ((zs.length - 1) / 2) 0
theorem midL_srt (zs : List Int) : midL zs = (srt zs).getD ((zs.length - 1) / 2) 0 := by rw [midL, srt_isort]
theorem midL_perm {zs ys : List Int} (h : zs.Perm ys) : midL zs = midL ys := by
  rw [midL_srt, midL_srt]
  have e2 := mergeSort_of_perm_i h
  rw [h.length_eq, show srt zs = srt ys from e2]

theorem row_cells {w : World} {base : Nat} {v : Value} {xs : List Int} (h : w.ownsRow base 3 1 v xs.length (xs.map (Value.int .i64))) :
    ∃ A cap, v = .slice A xs.length cap ∧ (∀ k (hk : k < xs.length), ∃ b, A = some ⟨b, 0, none⟩ ∧ base ≤ b ∧ b < w.heap.size ∧ w.cell? ⟨b, k, none⟩ = some (.int .i64 xs[k])) := by
  rcases h.2 with ⟨rfl, hz⟩ | ⟨g, cap, cur, rfl, hb, hg, h1, h2, h3, h4⟩
  · exact ⟨none, 0, by rw [hz], fun k hk => by omega⟩
  · refine ⟨_, cap, rfl, fun k hk => ⟨g, rfl, hb, (Array.getElem?_eq_some_iff.1 hg).1, ?_⟩⟩
    have e : (cur.toList.take (xs.length * 1))[k]? = (xs.map (Value.int .i64))[k]? := by rw [h4]
    rw [List.getElem?_take_of_lt (by omega)] at e
    rw [cell_of_row w g k cur 3 (0, 0) hg, ← Array.getElem?_toList, e]
    simp [hk]

set_option maxRecDepth 100000 in
set_option maxHeartbeats 1000000 in
theorem mid_any {w : World} {A : Option Addr} {len cap : Nat} {zs : List Int} (hI : Ints w.heap.size w (.slice A len cap) zs) (hlen : zs.length ≤ 1000000000) :
    Calls Try.prog 11 #[.slice A len cap] w fun e w' => e = .returned (.int .i64 (midL zs)) ∧ Below w.heap.size w w' := by
  have hl : len = zs.length := by
    rcases hI with ⟨e, rfl⟩ | ⟨b, off, c, e, _⟩ <;> simp at e <;> simp [e]
  by_cases h0 : len = 0
  · have e : midL zs = 0 := by
      have : zs = [] := List.eq_nil_of_length_eq_zero (by omega)
      rw [this]; rfl
    rw [e]
    have d0 : ((len : Int) == 0) = true := by simp; omega
    clear hI hl e
    go_enter Try.func11, Try.ntmps11
    go_wp2
    go_ret
    exact ⟨rfl, Below.refl _ _⟩
  · have d0 : ((len : Int) == 0) = false := by simp; omega
    have hB1 : Below w.heap.size w (w.alloc (.cells #[.slice A len cap] 22)) := (Below.refl _ _).alloc (Nat.le_refl _) _
    have H := hide (sorted_any w.heap.size (.slice A len cap) zs hlen (w.alloc (.cells #[.slice A len cap] 22)) (by simp) ((Blk.new w 22 #[.slice A len cap]).cell 0) ((hI.below hB1).mono (by simp)))
    have H29 := hide (values_any A len cap w)
    have hz0 : zs.length ≠ 0 := by omega
    clear hI hl
    go_enter Try.func11, Try.ntmps11
    go_wp2_with (go_at_call 29; refine H29.out.mono ?_; rintro e w' ⟨rfl, rfl⟩)
    refine H.out.mono ?_
    rintro e w2 ⟨v, rfl, hrow, hb2⟩
    rw [← srt_len] at hrow
    obtain ⟨A2, cap2, rfl, hcs⟩ := row_cells hrow
    have hk : (zs.length - 1) / 2 < (srt zs).length := by rw [srt_len]; omega
    obtain ⟨b2, rfl, hb1, hb3, hc⟩ := hcs _ hk
    have em : midL zs = (srt zs)[(zs.length - 1) / 2] := by
      rw [midL_srt, List.getD_eq_getElem?_getD, List.getElem?_eq_getElem hk]; rfl
    rw [← em] at hc
    have hsl := srt_len zs
    have hix : (((srt zs).length : Int) - 1).tdiv 2 = (((zs.length - 1) / 2 : Nat) : Int) := by
      rw [hsl, Int.tdiv_eq_ediv_of_nonneg (by omega)]; omega
    obtain ⟨m, hm⟩ : ∃ m, (zs.length - 1) / 2 = m := ⟨_, rfl⟩
    obtain ⟨L, hL⟩ : ∃ L, (srt zs).length = L := ⟨_, rfl⟩
    have hL1 : 1 ≤ L := by omega
    have hL2 : L ≤ 1000000000 := by omega
    rw [hm] at hk hc hix
    rw [hL] at hk hix ⊢
    have HB2 := hide hb2
    clear em hcs hrow hL hsl hm hb2 hlen hz0
    go_wp2
    go_ret
    exact ⟨rfl, hB1.trans (HB2.out.mono (by simp))⟩

def newC (tol stale strikes : Int) (k : Nat) : VS := ⟨fun _ => 0, fun j => if j < k then -1 else 0, fun _ => false, fun _ => 0, tol, stale, strikes, 0⟩
def newS (tol stale strikes : Int) : VS := ⟨fun _ => 0, fun _ => -1, fun _ => false, fun _ => 0, tol, stale, strikes, 0⟩
def newB (tol stale strikes : Int) : Bool := decide (0 ≤ tol) && (decide (0 ≤ stale) && (decide (stale ≤ 1000) && (decide (1 ≤ strikes) && decide (strikes ≤ 1000))))

set_option maxRecDepth 100000 in
set_option maxHeartbeats 1000000 in
theorem new_yes (tol stale strikes : Int) (w : World) (h : newB tol stale strikes = true) : Calls Try.prog 13 #[.int .i64 tol, .int .i64 stale, .int .i64 strikes] w fun e w' => e = .returned (.tuple #[.pointer (some ⟨w.heap.size, 0, none⟩), .int .i64 0]) ∧
    Blk w' w.heap.size 68 (newS tol stale strikes).cells ∧ Below w.heap.size w w' ∧ w.heap.size < w'.heap.size := by
  obtain ⟨a, b, c, d, e⟩ : 0 ≤ tol ∧ 0 ≤ stale ∧ stale ≤ 1000 ∧ 1 ≤ strikes ∧ strikes ≤ 1000 := by simpa [newB, and_assoc] using h
  clear h
  go_enter Try.func13, Try.ntmps13
  go_wp2_with fail
  go_loopw [33] (fun i wr => ∃ k : Nat, k ≤ 3 ∧ i = .int .i64 k ∧ Blk wr w.heap.size 68 (newC tol stale strikes k).cells ∧ Below w.heap.size w wr ∧ w.heap.size < wr.heap.size) (fun i _ => 3 - (intOf i).toNat)
  case atStart => exact ⟨0, by omega, rfl, Blk.new _ _ _, (Below.refl _ _).alloc (Nat.le_refl _) _, by simp⟩
  case round =>
    obtain ⟨k, hk, rfl, hB, hb, hz⟩ := hrel
    have H := hide hB
    have HB := hide hb
    by_cases hlt : k < 3
    · obtain rfl | rfl | rfl : k = 0 ∨ k = 1 ∨ k = 2 := by omega
      all_goals
        have c0 := hB.cell 1
        have c1 := hB.cell 6
        have c2 := hB.cell 11
        simp [VS.cells] at c0 c1 c2
        have f := hB.frozen
        clear hB hb
        first | rw [show ((0 : Nat) : Int) = 0 from rfl] | rw [show ((1 : Nat) : Int) = 1 from rfl] | rw [show ((2 : Nat) : Int) = 2 from rfl]
        go_wp2_with fail
        go_roundw
        case rel => first
          | exact ⟨0 + 1, by omega, by go_num, Blk.set H.out _ _, HB.out.setCell (Nat.le_refl _) _, by simpa using hz⟩
          | exact ⟨1 + 1, by omega, by go_num, Blk.set H.out _ _, HB.out.setCell (Nat.le_refl _) _, by simpa using hz⟩
          | exact ⟨2 + 1, by omega, by go_num, Blk.set H.out _ _, HB.out.setCell (Nat.le_refl _) _, by simpa using hz⟩
        case measure => simp [intOf]
    · obtain rfl : k = 3 := by omega
      clear hB hb
      go_wp2
      go_ret2
      exact ⟨rfl, H.out, HB.out, hz⟩

end Go.Proofs.Ytciooimbhabccaa
