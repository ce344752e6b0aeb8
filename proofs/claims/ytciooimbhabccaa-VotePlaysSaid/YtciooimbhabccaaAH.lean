/- Both voters: Reset at the empty list; Put at every channel; Channel out of range. -/
import Derived.Test.YtciooimbhabccaaAG
namespace Go.Proofs.Ytciooimbhabccaa
open Go.RowKit

theorem put_all {w : World} {bp : Nat} {S : VS} (h : Blk w bp 68 S.cells) (hs : 1 ≤ S.strikes) (i x tick : Int) : Calls Try.prog 14 #[.pointer (some ⟨bp, 0, none⟩), .int .i64 i, .int .i64 x, .int .i64 tick] w fun e w' => e = .returned (.int .i64 (putE S i tick)) ∧ Blk w' bp 68 (putS S i x tick).cells ∧ w.grownBy w' (some bp) := by
  by_cases hi : i < 0 ∨ 3 ≤ i
  · refine (put_out h hs i x tick hi).mono fun e w' ⟨he, hw⟩ => ?_
    have e1 : putE S i tick = 3 := by unfold putE; rw [if_pos hi]
    have e2 : putS S i x tick = S := by unfold putS; rw [e1]; rfl
    subst hw
    rw [e1, e2]
    exact ⟨he, h, grown_refl _ _⟩
  · exact put_in h hs i x tick (by omega)

set_option maxRecDepth 100000 in
theorem channel_out {w : World} {bp : Nat} {S : VS} (h : Blk w bp 68 S.cells) (hs : 1 ≤ S.strikes) (i now : Int) (hi : i < 0 ∨ 3 ≤ i) :
    Calls Try.prog 16 #[.pointer (some ⟨bp, 0, none⟩), .int .i64 i, .int .i64 now] w fun e w' => e = .returned (.tuple #[.agg #[.int .i64 0, .int .i64 0, .bool false, .bool false], .int .i64 3]) ∧ Below w.heap.size w w' := by
  have e0 : (S.strikes == 0) = false := by simp; omega
  have hbp := h.lt
  have HN := hide (fun w' (hb : Below w.heap.size w w') => (e0 ▸ none_any (h.below hb hbp) : Calls Try.prog 30 #[.pointer (some ⟨bp, 0, none⟩)] w' fun e w'' => e = .returned (.bool false) ∧ w' = w''))
  clear h e0
  rcases hi with hi | hi
  all_goals
    go_enter Try.func16, Try.ntmps16
    go_wp2_with (go_at_call 30; refine (HN.out _ ((Below.refl _ _).alloc (Nat.le_refl _) _)).mono ?_; rintro e w' ⟨rfl, rfl⟩)
    refine bodyPost_ret (v := .tuple #[.agg #[_, _, _, _], .int .i64 3]) (by simp [results, Try.results16, go_sem]) rfl ⟨rfl, (Below.refl _ _).alloc (Nat.le_refl _) _⟩

set_option maxRecDepth 100000 in
set_option maxHeartbeats 2000000 in
theorem reset_nil {w : World} {bp : Nat} {S : VS} (h : Blk w bp 68 S.cells) (hs : 1 ≤ S.strikes) (A : Option Addr) (cap : Nat) :
    Calls Try.prog 24 #[.pointer (some ⟨bp, 0, none⟩), .slice A 0 cap] w fun e w' => e = .returned (.tuple #[]) ∧ Blk w' bp 68 (([0, 1, 2] : List Int).foldl reset1 S).cells ∧ w.grownBy w' (some bp) := by
  have e0 : (S.strikes == 0) = false := by simp; omega
  have H := hide (h.alloc (.cells #[.int .i64 0, .int .i64 1, .int .i64 2] 3))
  have hbp := h.lt
  have HN := hide (e0 ▸ none_any h : Calls Try.prog 30 #[.pointer (some ⟨bp, 0, none⟩)] w fun e w'' => e = .returned (.bool false) ∧ w = w'')
  have HG := hide (show w.grownBy (w.alloc (.cells #[.int .i64 0, .int .i64 1, .int .i64 2] 3)) (some bp) from below_grown ((Below.refl _ _).alloc (Nat.le_refl _) _) _)
  obtain ⟨l, hl⟩ : ∃ l : List Int, [0, 1, 2] = l := ⟨_, rfl⟩
  have hl3 : l.length = 3 := by rw [← hl]; rfl
  have Hrow := hide (show ∀ j (hj : j < l.length), (w.alloc (.cells #[.int .i64 0, .int .i64 1, .int .i64 2] 3)).cell? ⟨w.heap.size, j, none⟩ = some (.int .i64 l[j]) by
    subst hl
    intro j hj
    rw [(Blk.new w 3 #[.int .i64 0, .int .i64 1, .int .i64 2]).cell j]
    have : j = 0 ∨ j = 1 ∨ j = 2 := by simp at hj; omega
    rcases this with rfl | rfl | rfl <;> rfl)
  obtain ⟨W, hW⟩ : ∃ W, w.alloc (.cells #[.int .i64 0, .int .i64 1, .int .i64 2] 3) = W := ⟨_, rfl⟩
  rw [hW] at H HG Hrow
  have hgl : w.heap.size < W.heap.size := by rw [← hW]; simp
  have HW := hide hW
  have Hl3 := hide hl3
  rw [hl]
  clear h hs e0 hl hW hl3
  go_enter Try.func24, Try.ntmps24
  go_wp2_with (go_at_call 30; refine HN.out.mono ?_; rintro e w' ⟨rfl, rfl⟩)
  rw [HW.out]
  go_loopw [14] (fun i wr => ∃ j : Nat, j ≤ 3 ∧ i = .int .i64 j ∧ Blk wr bp 68 ((l.take j).foldl reset1 S).cells ∧ W.grownBy wr (some bp)) (fun i _ => 3 - (intOf i).toNat)
  case atStart => exact ⟨0, Nat.zero_le _, rfl, H.out, grown_refl _ _⟩
  case round =>
    obtain ⟨j, hj, rfl, hB, hgw⟩ := hrel
    by_cases hlt3 : j < 3
    · have hlt : j < l.length := by rw [Hl3.out]; exact hlt3
      have hcx : wr.cell? ⟨w.heap.size, j, none⟩ = some (.int .i64 l[j]) := (World.cell?_of_block (hgw.block w.heap.size hgl (fun e => by injection e; omega))).trans (Hrow.out j hlt)
      have hsucc := reset_succ (S := S) hlt
      obtain ⟨Q, hQ⟩ : ∃ Q, (l.take j).foldl reset1 S = Q := ⟨_, rfl⟩
      obtain ⟨i, hi⟩ : ∃ i, l[j] = i := ⟨_, rfl⟩
      rw [hQ] at hB hsucc
      rw [hi] at hcx hsucc
      have Hsucc := hide hsucc
      have HB := hide hB
      have Hgw := hide hgw
      have hf := hB.frozen
      have b0 := hB.cell 4
      have b1 := hB.cell 9
      have b2 := hB.cell 14
      have d0 := hB.cell 3
      have d1 := hB.cell 8
      have d2 := hB.cell 13
      simp [VS.cells] at b0 b1 b2 d0 d1 d2
      have hj3 : (j : Int) < 3 := by omega
      have hj0 : (0 : Int) ≤ (j : Int) := Int.natCast_nonneg _
      clear hsucc hQ hi hB hgw
      clear hlt
      by_cases hr : 0 ≤ i ∧ i < 3
      · have E := hide (show reset1 Q i = { Q with b := upd Q.b i.toNat false, s := upd Q.s i.toNat 0 } by rw [reset1, if_pos hr])
        have hr3 : i = 0 ∨ i = 1 ∨ i = 2 := by omega
        clear hr
        rcases hr3 with rfl | rfl | rfl
        all_goals
          go_wp2_with fail
          go_region
          go_wp2_with fail
          go_roundw
          case rel => exact ⟨j + 1, by omega, by go_num, by rw [Hsucc.out, E.out]; exact Blk.set (Blk.set (w := wr.drew) HB.out _ _) _ _, grown_trans Hgw.out (grown_trans (grown_drew _ _) (grown_trans (grown_set _ _ _ _) (grown_set _ _ _ _)))⟩
          case measure => simp [intOf]; omega
      · have E := hide (show reset1 Q i = Q by rw [reset1, if_neg hr])
        have hr3 : i < 0 ∨ 3 ≤ i := by omega
        clear hr
        rcases hr3 with hr | hr
        all_goals
          go_wp2_with fail
          go_roundw
          case rel => exact ⟨j + 1, by omega, by go_num, by rw [Hsucc.out, E.out]; exact HB.out, Hgw.out⟩
          case measure => simp [intOf]; omega
    · obtain rfl : j = 3 := by omega
      rw [List.take_of_length_le (by rw [Hl3.out]; exact Nat.le_refl _)] at hB
      have HB := hide hB
      have Hgw := hide hgw
      clear hB hgw
      go_wp2
      first | go_end0 | (refine bodyPost_ret (results_none rfl _ _ _) rfl ?_)
      exact ⟨rfl, HB.out, grown_trans HG.out Hgw.out⟩


theorem reset_all {w : World} {bp : Nat} {S : VS} (h : Blk w bp 68 S.cells) (hs : 1 ≤ S.strikes) (l : List Int) (hlen : l.length ≤ 1000000) (g cap : Nat) (hg : g ≠ bp) (hgl : g < w.heap.size)
    (hrow : ∀ j (hj : j < l.length), w.cell? ⟨g, j, none⟩ = some (.int .i64 l[j])) :
    Calls Try.prog 24 #[.pointer (some ⟨bp, 0, none⟩), .slice (some ⟨g, 0, none⟩) l.length cap] w fun e w' => e = .returned (.tuple #[]) ∧ Blk w' bp 68 (rsetS S l).cells ∧ w.grownBy w' (some bp) := by
  by_cases h0 : l = []
  · subst h0
    have e : rsetS S [] = ([0, 1, 2] : List Int).foldl reset1 S := by unfold rsetS; rw [if_pos rfl]
    rw [e]
    exact reset_nil h hs _ _
  · have e : rsetS S l = l.foldl reset1 S := by unfold rsetS; rw [if_neg h0]
    rw [e]
    exact reset_any h hs l h0 hlen g cap hg hgl hrow

end Go.Proofs.Ytciooimbhabccaa
