/- The voter: Channel, Reset. -/
import Derived.Test.YtciooimbhabccaaH
namespace Go.Proofs.Ytciooimbhabccaa
open Go.RowKit

set_option maxRecDepth 100000 in
set_option maxHeartbeats 2000000 in
theorem channel_any {w : World} {bp : Nat} {S : VS} {B : Int} (h : Blk w bp 68 S.cells) (hok : S.ok B) (k : Nat) (hk : k < 3) (now : Int) (hnow : now ≤ 9223372036854775807) :
    Calls Try.prog 16 #[.pointer (some ⟨bp, 0, none⟩), .int .i64 k, .int .i64 now] w fun e w' => e = .returned (.tuple #[.agg #[.int .i64 (S.x k), .int .i64 (S.t k), .bool (freshB S k now), .bool (S.b k)], .int .i64 0]) ∧ Below w.heap.size w w' := by
  have e0 : (S.strikes == 0) = false := by have := hok.strikes1; simp; omega
  have H := hide h
  have hbp := h.lt
  have HN := hide (fun w' (hb : Below w.heap.size w w') => (e0 ▸ none_any (h.below hb hbp) : Calls Try.prog 30 #[.pointer (some ⟨bp, 0, none⟩)] w' fun e w'' => e = .returned (.bool false) ∧ w' = w''))
  have HF := hide (fun w' (hb : Below w.heap.size w w') => fresh_any (h.below hb hbp) k hk now hnow (hok.t1 k))
  have x0 := h.cell 0
  have x1 := h.cell 5
  have x2 := h.cell 10
  have t0 := h.cell 1
  have t1 := h.cell 6
  have t2 := h.cell 11
  have f0 := h.cell 2
  have f1 := h.cell 7
  have f2 := h.cell 12
  have d0 := h.cell 3
  have d1 := h.cell 8
  have d2 := h.cell 13
  simp [VS.cells] at x0 x1 x2 t0 t1 t2 f0 f1 f2 d0 d1 d2
  clear h hok e0
  generalize hF : freshB S k now = F at *
  clear hF
  obtain rfl | rfl | rfl : k = 0 ∨ k = 1 ∨ k = 2 := by omega
  all_goals
    go_enter Try.func16, Try.ntmps16
    go_wp2_with (first
      | (go_at_call 30; refine (HN.out _ ((Below.refl _ _).alloc (Nat.le_refl _) _)).mono ?_; rintro e w' ⟨rfl, rfl⟩)
      | (go_at_call 31; refine (HF.out _ (((Below.refl _ _).alloc (Nat.le_refl _) _).alloc (by simp) _)).mono ?_; rintro e w' ⟨rfl, rfl⟩))
    refine bodyPost_ret (v := .tuple #[.agg #[_, _, _, _], .int .i64 0]) (by simp [results, Try.results16, go_sem]) rfl ⟨rfl, ((Below.refl _ _).alloc (Nat.le_refl _) _).alloc (by simp) _⟩

def reset1 (S : VS) (i : Int) : VS := if 0 ≤ i ∧ i < 3 then { S with b := upd S.b i.toNat false, s := upd S.s i.toNat 0 } else S
theorem reset_succ {l : List Int} {S : VS} {j : Nat} (hj : j < l.length) : (l.take (j + 1)).foldl reset1 S = reset1 ((l.take j).foldl reset1 S) l[j] := by
  rw [List.take_succ_eq_append_getElem hj, List.foldl_append]; rfl

set_option maxRecDepth 100000 in
set_option maxHeartbeats 2000000 in
theorem reset_any {w : World} {bp : Nat} {S : VS} (h : Blk w bp 68 S.cells) (hs : 1 ≤ S.strikes) (l : List Int) (h0 : l ≠ []) (hlen : l.length ≤ 1000000) (g cap : Nat) (hg : g ≠ bp) (hgl : g < w.heap.size)
    (hrow : ∀ j (hj : j < l.length), w.cell? ⟨g, j, none⟩ = some (.int .i64 l[j])) :
    Calls Try.prog 24 #[.pointer (some ⟨bp, 0, none⟩), .slice (some ⟨g, 0, none⟩) l.length cap] w fun e w' => e = .returned (.tuple #[]) ∧ Blk w' bp 68 (l.foldl reset1 S).cells ∧ w.grownBy w' (some bp) := by
  have e0 : (S.strikes == 0) = false := by simp; omega
  have H := hide h
  have HN := hide (e0 ▸ none_any h : Calls Try.prog 30 #[.pointer (some ⟨bp, 0, none⟩)] w fun e w'' => e = .returned (.bool false) ∧ w = w'')
  have Hrow := hide hrow
  have q0 : ((l.length : Int) == 0) = false := by
    rw [beq_eq_false_iff_ne]
    have := List.length_pos_iff.2 h0
    omega
  clear h hs e0 hrow h0
  go_enter Try.func24, Try.ntmps24
  go_wp2_with (go_at_call 30; refine HN.out.mono ?_; rintro e w' ⟨rfl, rfl⟩)
  go_loopw [14] (fun i wr => ∃ j : Nat, j ≤ l.length ∧ i = .int .i64 j ∧ Blk wr bp 68 ((l.take j).foldl reset1 S).cells ∧ w.grownBy wr (some bp)) (fun i _ => l.length - (intOf i).toNat)
  case atStart => exact ⟨0, Nat.zero_le _, rfl, H.out, grown_refl _ _⟩
  case round =>
    obtain ⟨j, hj, rfl, hB, hgw⟩ := hrel
    by_cases hlt : j < l.length
    · have hcx : wr.cell? ⟨g, j, none⟩ = some (.int .i64 l[j]) := (World.cell?_of_block (hgw.block g hgl (fun e => hg (by injection e)))).trans (Hrow.out j hlt)
      have hsucc := reset_succ (S := S) hlt
      obtain ⟨Q, hQ⟩ : ∃ Q, (l.take j).foldl reset1 S = Q := ⟨_, rfl⟩
      obtain ⟨i, hi⟩ : ∃ i, l[j] = i := ⟨_, rfl⟩
      rw [hQ] at hB hsucc
      rw [hi] at hcx hsucc
      have Hsucc := hide hsucc
      have HB := hide hB
      have Hgw := hide hgw
      have hf := hB.frozen
      have b0 := hB.cell 4
      have b1 := hB.cell 9
      have b2 := hB.cell 14
      have d0 := hB.cell 3
      have d1 := hB.cell 8
      have d2 := hB.cell 13
      simp [VS.cells] at b0 b1 b2 d0 d1 d2
      clear hsucc hQ hi hB hgw
      by_cases hr : 0 ≤ i ∧ i < 3
      · have E := hide (show reset1 Q i = { Q with b := upd Q.b i.toNat false, s := upd Q.s i.toNat 0 } by rw [reset1, if_pos hr])
        have hr3 : i = 0 ∨ i = 1 ∨ i = 2 := by omega
        clear hr
        rcases hr3 with rfl | rfl | rfl
        all_goals
          go_wp2_with fail
          go_region
          go_wp2_with fail
          go_roundw
          case rel => exact ⟨j + 1, by omega, by go_num, by rw [Hsucc.out, E.out]; exact Blk.set (Blk.set (w := wr.drew) HB.out _ _) _ _, grown_trans Hgw.out (grown_trans (grown_drew _ _) (grown_trans (grown_set _ _ _ _) (grown_set _ _ _ _)))⟩
          case measure => simp [intOf]; omega
      · have E := hide (show reset1 Q i = Q by rw [reset1, if_neg hr])
        have hr3 : i < 0 ∨ 3 ≤ i := by omega
        clear hr
        rcases hr3 with hr | hr
        all_goals
          go_wp2_with fail
          go_roundw
          case rel => exact ⟨j + 1, by omega, by go_num, by rw [Hsucc.out, E.out]; exact HB.out, Hgw.out⟩
          case measure => simp [intOf]; omega
    · obtain rfl : j = l.length := by omega
      rw [List.take_of_length_le (Nat.le_refl _)] at hB
      have HB := hide hB
      have Hgw := hide hgw
      clear hB hgw
      go_wp2
      first | go_end0 | (refine bodyPost_ret (results_none rfl _ _ _) rfl ?_)
      exact ⟨rfl, HB.out, Hgw.out⟩

end Go.Proofs.Ytciooimbhabccaa
