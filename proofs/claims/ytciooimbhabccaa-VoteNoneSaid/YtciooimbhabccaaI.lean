/- The law VoteNone. -/
import Derived.Test.YtciooimbhabccaaH
namespace Go.Proofs.Ytciooimbhabccaa
open Go.RowKit

def zeroS : VS := ⟨fun _ => 0, fun _ => 0, fun _ => false, fun _ => 0, 0, 0, 0, 0⟩
/-- a nil or a zero voter -/
def IsNone (w : World) (v : Option Addr) : Prop := v = none ∨ ∃ bp, v = some ⟨bp, 0, none⟩ ∧ Blk w bp 68 zeroS.cells
theorem IsNone.below {B : Nat} {w w' : World} {v : Option Addr} (h : IsNone w v) (hb : Below B w w') (hB : ∀ a, v = some a → a.block < B) : IsNone w' v := by
  rcases h with rfl | ⟨bp, rfl, h⟩
  · exact .inl rfl
  · exact .inr ⟨bp, rfl, h.below hb (hB _ rfl)⟩
theorem isNone_any {w : World} {v : Option Addr} (h : IsNone w v) : Calls Try.prog 30 #[.pointer v] w fun e w' => e = .returned (.bool true) ∧ w = w' := by
  rcases h with rfl | ⟨bp, rfl, h⟩
  · go_enter Try.func30, Try.ntmps30
    go_wp2
    go_ret
    exact ⟨rfl, rfl⟩
  · exact none_any h
theorem reset_gone {w : World} {v : Option Addr} (h : IsNone w v) (l : Value) : Calls Try.prog 24 #[.pointer v, l] w fun e w' => e = .returned (.tuple #[]) ∧ w = w' := by
  have H := hide (isNone_any h)
  clear h
  go_enter Try.func24, Try.ntmps24
  go_wp2_with (go_at_call 30; refine H.out.mono ?_; rintro e w' ⟨rfl, rfl⟩)
  first | go_end0 | (refine bodyPost_ret (results_none rfl _ _ _) rfl ?_)
  exact ⟨rfl, rfl⟩
theorem vote_gone {w : World} {v : Option Addr} (h : IsNone w v) (now : Int) : Calls Try.prog 15 #[.pointer v, .int .i64 now] w fun e w' => e = .returned (.tuple #[.int .i64 0, .int .i64 0]) ∧ w = w' := by
  have H := hide (isNone_any h)
  clear h
  go_enter Try.func15, Try.ntmps15
  go_wp2_with (go_at_call 30; refine H.out.mono ?_; rintro e w' ⟨rfl, rfl⟩)
  go_ret2
  exact ⟨rfl, rfl⟩
theorem put_gone {w : World} {v : Option Addr} (h : IsNone w v) (i x tick : Int) : Calls Try.prog 14 #[.pointer v, .int .i64 i, .int .i64 x, .int .i64 tick] w fun e w' => e = .returned (.int .i64 1) ∧ w = w' := by
  have H := hide (isNone_any h)
  clear h
  go_enter Try.func14, Try.ntmps14
  go_wp2_with (go_at_call 30; refine H.out.mono ?_; rintro e w' ⟨rfl, rfl⟩)
  go_ret
  exact ⟨rfl, rfl⟩
theorem bad_gone {w : World} {v : Option Addr} (h : IsNone w v) : Calls Try.prog 20 #[.pointer v] w fun e w' => e = .returned (.int .i64 0) ∧ w = w' := by
  have H := hide (isNone_any h)
  clear h
  go_enter Try.func20, Try.ntmps20
  go_wp2_with (go_at_call 30; refine H.out.mono ?_; rintro e w' ⟨rfl, rfl⟩)
  go_ret
  exact ⟨rfl, rfl⟩
theorem channel_gone {w : World} {v : Option Addr} (h : ∀ w', Below w.heap.size w w' → IsNone w' v) (i now : Int) : Calls Try.prog 16 #[.pointer v, .int .i64 i, .int .i64 now] w fun e w' => e = .returned (.tuple #[.agg #[.int .i64 0, .int .i64 0, .bool false, .bool false], .int .i64 1]) ∧ Below w.heap.size w w' := by
  have H := hide (fun w' hb => isNone_any (h w' hb))
  clear h
  go_enter Try.func16, Try.ntmps16
  go_wp2_with (go_at_call 30; refine (H.out _ ((Below.refl _ _).alloc (Nat.le_refl _) _)).mono ?_; rintro e w' ⟨rfl, rfl⟩)
  refine bodyPost_ret (v := .tuple #[.agg #[.int .i64 0, .int .i64 0, .bool false, .bool false], .int .i64 1]) (by simp [results, Try.results16, go_sem]) rfl ⟨rfl, (Below.refl _ _).alloc (Nat.le_refl _) _⟩

set_option maxRecDepth 100000 in
set_option maxHeartbeats 2000000 in
theorem law_none (i now x : Int) (w : World) : Calls Try.prog 8 #[.int .i64 i, .int .i64 now, .int .i64 x] w fun e w' => e = .returned (.bool true) ∧ Below w.heap.size w w' := by
  have nn : ∀ w', IsNone w' none := fun _ => .inl rfl
  have zz : ∀ w' w'' : World, Blk w' w.heap.size 68 zeroS.cells → Below w'.heap.size w' w'' → IsNone w'' (some ⟨w.heap.size, 0, none⟩) := fun w' w'' h hb => .inr ⟨_, rfl, h.below hb h.lt⟩
  have z0 : ∀ w' : World, Blk w' w.heap.size 68 zeroS.cells → IsNone w' (some ⟨w.heap.size, 0, none⟩) := fun w' h => .inr ⟨_, rfl, h⟩
  have NN := hide nn
  have ZZ := hide zz
  have Z0 := hide z0
  have Hb0 := hide (Blk.new w 68 zeroS.cells)
  have B0 := hide ((Below.refl w.heap.size w).alloc (Nat.le_refl _) (.cells zeroS.cells 68))
  clear nn zz z0
  go_enter Try.func8, Try.ntmps8
  go_wp2_with fail
  obtain ⟨w1, hw1⟩ : ∃ w1, w.alloc (.cells zeroS.cells 68) = w1 := ⟨_, rfl⟩
  rw [hw1] at Hb0 B0
  rw [show w.alloc (.cells #[.int .i64 0, .int .i64 0, .bool false, .bool false, .int .i64 0, .int .i64 0, .int .i64 0, .bool false, .bool false, .int .i64 0, .int .i64 0, .int .i64 0, .bool false, .bool false, .int .i64 0, .int .i64 0, .int .i64 0, .int .i64 0, .int .i64 0] 68) = w1 from hw1]
  clear hw1
  refine (reset_gone (NN.out w1) _).mono ?_
  rintro e w' ⟨rfl, rfl⟩
  go_wp2_with fail
  have Hb1 := hide (Hb0.out.alloc (.cells #[.int .i64 1] 3))
  refine (reset_gone (Z0.out _ Hb1.out) _).mono ?_
  rintro e w' ⟨rfl, rfl⟩
  have B1 := hide (B0.out.alloc B0.out.size (.cells #[.int .i64 1] 3))
  obtain ⟨w2, hw2⟩ : ∃ w2, w1.alloc (.cells #[.int .i64 1] 3) = w2 := ⟨_, rfl⟩
  rw [hw2] at B1 Hb1 ⊢
  clear hw2 B0 Hb0
  go_wp2_with fail
  refine (vote_gone (NN.out _) now).mono ?_
  rintro e w' ⟨rfl, rfl⟩
  go_wp2_with fail
  refine (vote_gone (Z0.out _ Hb1.out) now).mono ?_
  rintro e w' ⟨rfl, rfl⟩
  go_wp2_with fail
  refine (channel_gone (fun w' _ => NN.out w') i now).mono ?_
  rintro e w3 ⟨rfl, h3⟩
  have Hb3 := hide (Hb1.out.below h3 Hb1.out.lt)
  have B3 := hide (B1.out.trans (h3.mono B1.out.size))
  clear h3
  go_wp2_with fail
  have Hb4 := hide (Hb3.out.alloc (.cells #[.int .i64 0, .int .i64 0, .bool false, .bool false] 40))
  have B4 := hide (B3.out.alloc B3.out.size (.cells #[.int .i64 0, .int .i64 0, .bool false, .bool false] 40))
  refine (channel_gone (fun w' hb => ZZ.out _ _ Hb4.out hb) i now).mono ?_
  rintro e w5 ⟨rfl, h5⟩
  have Hb5 := hide (Hb4.out.below h5 Hb4.out.lt)
  have B5 := hide (B4.out.trans (h5.mono B4.out.size))
  clear h5
  go_wp2_with fail
  have Hb6 := hide (Hb5.out.alloc (.cells #[.int .i64 0, .int .i64 0, .bool false, .bool false] 40))
  have B6 := hide (B5.out.alloc B5.out.size (.cells #[.int .i64 0, .int .i64 0, .bool false, .bool false] 40))
  refine (alive_any _).mono ?_
  rintro e w7 ⟨rfl, h7⟩
  have Hb7 := hide (Hb6.out.below h7 Hb6.out.lt)
  have B7 := hide (B6.out.trans (h7.mono B6.out.size))
  clear h7
  obtain ⟨bz, hbz⟩ : ∃ bz, w.heap.size = bz := ⟨_, rfl⟩
  rw [hbz] at Hb7 Z0 ⊢
  go_wp2_with fail
  refine (put_gone (NN.out w7) i x now).mono ?_
  rintro e w' ⟨rfl, rfl⟩
  go_wp2_with fail
  refine (put_gone (Z0.out _ Hb7.out) i x now).mono ?_
  rintro e w' ⟨rfl, rfl⟩
  go_wp2_with fail
  refine (bad_gone (NN.out w7)).mono ?_
  rintro e w' ⟨rfl, rfl⟩
  go_wp2_with fail
  refine (bad_gone (Z0.out _ Hb7.out)).mono ?_
  rintro e w' ⟨rfl, rfl⟩
  go_wp2
  go_ret
  exact ⟨rfl, B7.out⟩

end Go.Proofs.Ytciooimbhabccaa
