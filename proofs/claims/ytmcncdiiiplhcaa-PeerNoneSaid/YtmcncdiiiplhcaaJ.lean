/- The law PeerNone. -/
import Derived.Test.YtmcncdiiiplhcaaI
import Derived.Deep.DrawnRows
namespace Go.Proofs.Ytmcncdiiiplhcaa
open Go.RowKit Go.Maps
attribute [local go_sem ↓] Go.wp_at_zero Go.wp_at_succ

theorem keepF {W W1 W2 : World} {n : Nat} {v0 v1 v2 v3 v4 : Value} (hn : n < W.heap.size) (h : Below W.heap.size W W1 ∧ W1.cell? ⟨n, 0, none⟩ = some v0 ∧ W1.cell? ⟨n, 1, none⟩ = some v1 ∧ W1.cell? ⟨n, 2, none⟩ = some v2 ∧ W1.cell? ⟨n, 3, none⟩ = some v3 ∧ W1.cell? ⟨n, 4, none⟩ = some v4) (hb : Below W1.heap.size W1 W2) :
    Below W.heap.size W W2 ∧ W2.cell? ⟨n, 0, none⟩ = some v0 ∧ W2.cell? ⟨n, 1, none⟩ = some v1 ∧ W2.cell? ⟨n, 2, none⟩ = some v2 ∧ W2.cell? ⟨n, 3, none⟩ = some v3 ∧ W2.cell? ⟨n, 4, none⟩ = some v4 := by
  obtain ⟨h0, a0, a1, a2, a3, a4⟩ := h
  have hl : n < W1.heap.size := Nat.lt_of_lt_of_le hn h0.size
  exact ⟨h0.trans (hb.mono h0.size), (hb.cell (p := ⟨n, 0, none⟩) hl).trans a0, (hb.cell (p := ⟨n, 1, none⟩) hl).trans a1, (hb.cell (p := ⟨n, 2, none⟩) hl).trans a2, (hb.cell (p := ⟨n, 3, none⟩) hl).trans a3, (hb.cell (p := ⟨n, 4, none⟩) hl).trans a4⟩

theorem keepEnd {w W W1 : World} {n : Nat} {v0 v1 v2 v3 v4 : Value} (hB : Below w.heap.size w W) (h : Below W.heap.size W W1 ∧ W1.cell? ⟨n, 0, none⟩ = some v0 ∧ W1.cell? ⟨n, 1, none⟩ = some v1 ∧ W1.cell? ⟨n, 2, none⟩ = some v2 ∧ W1.cell? ⟨n, 3, none⟩ = some v3 ∧ W1.cell? ⟨n, 4, none⟩ = some v4) : Below w.heap.size w W1 := hB.trans (h.1.mono hB.size)

set_option maxRecDepth 100000 in
set_option maxHeartbeats 4000000 in
theorem law_none (kind frm tick : Int) (A : Option Addr) (len cap : Nat) (data : ByteArray) (now : Int) (w : World) (hl : len ≤ 9223372036854775807) (hd : data.size ≤ 9223372036854775807) :
    Calls Try.prog 5 #[.agg #[.int .i64 kind, .int .i64 frm, .int .i64 tick, .slice A len cap, .string data], .int .i64 now] w fun e w' => e = .returned (.bool true) ∧ Below w.heap.size w w' := by
  by_cases h1 : 200 < len
  · go_enter Try.func5, Try.ntmps5
    go_wp2_with (go_at_call 7; refine (alive_any _).mono ?_; rintro e w' ⟨rfl, hb⟩)
    go_ret
    exact ⟨rfl, ((Below.refl _ _).alloc (Nat.le_refl _) _).trans (hb.mono (by simp))⟩
  by_cases h2 : 3000 < data.size
  · go_enter Try.func5, Try.ntmps5
    go_wp2_with (go_at_call 7; refine (alive_any _).mono ?_; rintro e w' ⟨rfl, hb⟩)
    go_ret
    exact ⟨rfl, ((Below.refl _ _).alloc (Nat.le_refl _) _).trans (hb.mono (by simp))⟩
  have hZ : ∀ o1 o2, Blk (((w.alloc o1).alloc (.cells #[.int .i64 0, .int .i64 0, .int .i64 0, .map none] 45)).alloc o2) (w.heap.size + 1) 45 #[.int .i64 0, .int .i64 0, .int .i64 0, .map none] := fun o1 o2 => by
    have := (Blk.new (w.alloc o1) 45 #[.int .i64 0, .int .i64 0, .int .i64 0, .map none]).alloc o2
    simpa using this
  have HZ := hide hZ
  clear hZ
  go_enter Try.func5, Try.ntmps5
  go_wp2_with fail
  refine (say_gone (fun _ => none_nil _) _ _).mono ?_
  rintro e w' ⟨rfl, rfl⟩
  go_wp2_with fail
  refine (say_gone (fun _ => none_zero (((HZ.out _ _).alloc _).alloc _)) _ _).mono ?_
  rintro e w' ⟨rfl, rfl⟩
  go_wp2_with fail
  refine (age_gone (none_nil _) _ _).mono ?_
  rintro e w' ⟨rfl, rfl⟩
  go_wp2_with fail
  refine (age_gone (none_zero ((((HZ.out _ _).alloc _).alloc _).alloc _)) _ _).mono ?_
  rintro e w' ⟨rfl, rfl⟩
  go_wp2_with fail
  obtain ⟨W, hW⟩ : ∃ W, W = (((((w.alloc (.cells #[.int .i64 kind, .int .i64 frm, .int .i64 tick, .slice A len cap, .string data] 32)).alloc (.cells #[.int .i64 0, .int .i64 0, .int .i64 0, .map none] 45)).alloc (.cells #[.int .i64 0, .int .i64 0, .int .i64 0, .slice none 0 0, .string ByteArray.empty] 32)).alloc (.cells #[.int .i64 0, .int .i64 0, .int .i64 0, .slice none 0 0, .string ByteArray.empty] 32)).alloc (.cells #[.int .i64 0, .int .i64 0, .int .i64 0, .slice none 0 0, .string ByteArray.empty] 32)).alloc (.cells #[.int .i64 0, .int .i64 0, .int .i64 0, .slice none 0 0, .string ByteArray.empty] 32) := ⟨_, rfl⟩
  have hB : Below w.heap.size w W := by
    rw [hW]
    exact ((((((Below.refl _ _).alloc (Nat.le_refl _) _).alloc (by simp) _).alloc (by simp; omega) _).alloc (by simp; omega) _).alloc (by simp; omega) _).alloc (by simp; omega) _
  have hBz : Blk W (w.heap.size + 1) 45 #[.int .i64 0, .int .i64 0, .int .i64 0, .map none] := by
    rw [hW]
    exact (((HZ.out _ _).alloc _).alloc _).alloc _
  have hBf : Blk W w.heap.size 32 #[.int .i64 kind, .int .i64 frm, .int .i64 tick, .slice A len cap, .string data] := by
    rw [hW]
    exact (((((Blk.new _ _ _).alloc _).alloc _).alloc _).alloc _).alloc _
  rw [← hW]
  clear hW HZ
  have hs := hB.size
  have d1 : decide ((200 : Int) < len) = false := by simp; omega
  have d2 : decide ((3000 : Int) < data.size) = false := by simp; omega
  have hz := hBz.lt
  have hf := hBf.lt
  go_region_held3 (fun w' => Below W.heap.size W w' ∧ w'.cell? ⟨w.heap.size, 0, none⟩ = some (.int .i64 kind) ∧ w'.cell? ⟨w.heap.size, 1, none⟩ = some (.int .i64 frm) ∧ w'.cell? ⟨w.heap.size, 2, none⟩ = some (.int .i64 tick) ∧ w'.cell? ⟨w.heap.size, 3, none⟩ = some (.slice A len cap) ∧ w'.cell? ⟨w.heap.size, 4, none⟩ = some (.string data))
    (first | exact ⟨(Below.refl _ _).drew, hBf.cell 0, hBf.cell 1, hBf.cell 2, hBf.cell 3, hBf.cell 4⟩ | exact keepF hf (by assumption) (by assumption) | exact keepF hf (by assumption) ((Below.refl _ _).alloc (Nat.le_refl _) _) | assumption)
    (first
      | (go_at_call 7; refine (alive_any _).mono ?_; rintro e w' ⟨rfl, hb⟩)
      | (go_at_call 9; ((with_reducible refine (hear_gone (none_nil _) _).mono ?_); rintro e w' ⟨rfl, rfl⟩))
      | (go_at_call 9; ((with_reducible refine (hear_gone (none_zero (hBz.below (And.left (by assumption)) hz)) _).mono ?_); rintro e w' ⟨rfl, rfl⟩))
      | (go_at_call 11; ((with_reducible refine (seen_gone (none_nil _) _).mono ?_); rintro e w' ⟨rfl, rfl⟩))
      | (go_at_call 11; ((with_reducible refine (seen_gone (none_zero (hBz.below (And.left (by assumption)) hz)) _).mono ?_); rintro e w' ⟨rfl, rfl⟩))
      | (go_at_call 12; ((with_reducible refine (heard_gone (none_nil _) _).mono ?_); rintro e w' ⟨rfl, rfl⟩))
      | (go_at_call 12; ((with_reducible refine (heard_gone (none_zero (hBz.below (And.left (by assumption)) hz)) _).mono ?_); rintro e w' ⟨rfl, rfl⟩)))
  all_goals go_wp2
  all_goals go_ret
  all_goals exact ⟨rfl, keepEnd hB (by assumption)⟩

end Go.Proofs.Ytmcncdiiiplhcaa
