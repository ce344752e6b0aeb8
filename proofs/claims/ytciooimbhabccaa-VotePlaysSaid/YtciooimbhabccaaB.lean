/- The voter's state: New, Put, fresh, Bad, far. -/
import Derived.Test.YtciooimbhabccaaProg
import Derived.WalkKit
import Derived.WalkArith
import Derived.Below
import Derived.ProofKit
import Derived.KernelRfl
import Derived.Deep.QuietTactic
import Derived.BigQuiet
import Derived.RegionTactic
import Derived.Outline
namespace Go.Proofs.Ytciooimbhabccaa
open Go.RowKit

theorem hide {p : Prop} (h : p) : Hid p := h

/-- block g holds just the cells cs, of element type t, none frozen -/
def Blk (w : World) (g : Nat) (t : TypeId) (cs : Array Value) : Prop := w.heap[g]? = some (.cells cs t (0, 0))
theorem Blk.lt {w : World} {g : Nat} {t : TypeId} {cs : Array Value} (h : Blk w g t cs) : g < w.heap.size := by
  rcases Nat.lt_or_ge g w.heap.size with hlt | hge
  · exact hlt
  · unfold Blk at h; rw [Array.getElem?_eq_none hge] at h; cases h
theorem Blk.cell {w : World} {g : Nat} {t : TypeId} {cs : Array Value} (h : Blk w g t cs) (i : Nat) : w.cell? ⟨g, i, none⟩ = cs[i]? := cell_of_row w g i cs t (0, 0) h
theorem Blk.frozen {w : World} {g : Nat} {t : TypeId} {cs : Array Value} (h : Blk w g t cs) (i : Nat) : w.frozen? ⟨g, i, none⟩ = false := by
  unfold Blk at h
  simp [World.frozen?, h]
theorem Blk.new (w : World) (t : TypeId) (cs : Array Value) : Blk (w.alloc (.cells cs t)) w.heap.size t cs := heap_alloc_new w _
theorem Blk.below {B : Nat} {w w' : World} {g : Nat} {t : TypeId} {cs : Array Value} (h : Blk w g t cs) (hb : Below B w w') (hg : g < B) : Blk w' g t cs := (hb.block g hg).trans h
theorem Blk.grown {w w' : World} {g : Nat} {t : TypeId} {cs : Array Value} {row : Option Nat} (h : Blk w g t cs) (hb : w.grownBy w' row) (hg : some g ≠ row) : Blk w' g t cs := (hb.block g h.lt hg).trans h
theorem Blk.alloc {w : World} {g : Nat} {t : TypeId} {cs : Array Value} (h : Blk w g t cs) (o : Obj) : Blk (w.alloc o) g t cs := (Below.heap_alloc w o g h.lt).trans h
theorem Blk.drew {w : World} {g : Nat} {t : TypeId} {cs : Array Value} (h : Blk w g t cs) : Blk w.drew g t cs := h
theorem Blk.set {w : World} {g : Nat} {t : TypeId} {cs : Array Value} (h : Blk w g t cs) (i : Nat) (v : Value) : Blk (w.setCell ⟨g, i, none⟩ v) g t (cs.setIfInBounds i v) := heap_setCell_same w g i cs t v h

theorem grown_refl (w : World) (row : Option Nat) : w.grownBy w row := ⟨rfl, rfl, rfl, Nat.le_refl _, fun _ _ _ => rfl⟩
theorem grown_drew (w : World) (row : Option Nat) : w.grownBy w.drew row := ⟨rfl, rfl, rfl, Nat.le_refl _, fun _ _ _ => rfl⟩
theorem grown_set (w : World) (g i : Nat) (v : Value) : w.grownBy (w.setCell ⟨g, i, none⟩ v) (some g) := ⟨rfl, rfl, rfl, by simp, fun k _ hk => heap_setCell_other w _ k v (fun e => hk (by rw [e]))⟩
theorem grown_trans {a b c : World} {row : Option Nat} (h : a.grownBy b row) (k : b.grownBy c row) : a.grownBy c row :=
  ⟨k.os.trans h.os, k.tape.trans h.tape, k.output.trans h.output, Nat.le_trans h.size k.size, fun i hi hn => (k.block i (Nat.lt_of_lt_of_le hi h.size) hn).trans (h.block i hi hn)⟩

/-! ### the state -/
structure VS where
  x : Nat → Int
  t : Nat → Int
  b : Nat → Bool
  s : Nat → Int
  tol : Int
  stale : Int
  strikes : Int
  last : Int
def VS.cells (S : VS) : Array Value := #[.int .i64 (S.x 0), .int .i64 (S.t 0), .bool false, .bool (S.b 0), .int .i64 (S.s 0), .int .i64 (S.x 1), .int .i64 (S.t 1), .bool false, .bool (S.b 1), .int .i64 (S.s 1), .int .i64 (S.x 2), .int .i64 (S.t 2), .bool false, .bool (S.b 2), .int .i64 (S.s 2), .int .i64 S.tol, .int .i64 S.stale, .int .i64 S.strikes, .int .i64 S.last]
def upd {α : Type} (f : Nat → α) (k : Nat) (v : α) : Nat → α := fun j => if j = k then v else f j

structure VS.ok (S : VS) (B : Int) : Prop where
  tol0 : 0 ≤ S.tol
  tol1 : S.tol ≤ 9223372036854775807
  stale0 : 0 ≤ S.stale
  stale1 : S.stale ≤ 1000
  strikes1 : 1 ≤ S.strikes
  strikes2 : S.strikes ≤ 1000
  x0 : ∀ k, -9223372036854775808 ≤ S.x k
  x1 : ∀ k, S.x k ≤ 9223372036854775807
  t0 : ∀ k, -1 ≤ S.t k
  t1 : ∀ k, S.t k ≤ 9223372036854775807
  s0 : ∀ k, 0 ≤ S.s k
  s1 : ∀ k, S.s k ≤ B
  sB : 1000 ≤ B
  l0 : -9223372036854775808 ≤ S.last
  l1 : S.last ≤ 9223372036854775807

theorem none_any {w : World} {bp : Nat} {S : VS} (h : Blk w bp 68 S.cells) : Calls Try.prog 30 #[.pointer (some ⟨bp, 0, none⟩)] w fun e w' => e = .returned (.bool (S.strikes == 0)) ∧ w = w' := by
  have c := h.cell 17
  simp [VS.cells] at c
  clear h
  go_enter Try.func30, Try.ntmps30
  go_wp2
  go_ret
  exact ⟨rfl, rfl⟩

def putE (S : VS) (i tick : Int) : Int := if i < 0 ∨ 3 ≤ i then 3 else if tick < 0 ∨ tick ≤ S.t i.toNat then 1 else 0
def putS (S : VS) (i x tick : Int) : VS := if putE S i tick = 0 then { S with x := upd S.x i.toNat x, t := upd S.t i.toNat tick } else S

theorem put_out {w : World} {bp : Nat} {S : VS} (h : Blk w bp 68 S.cells) (hs : 1 ≤ S.strikes) (i x tick : Int) (hi : i < 0 ∨ 3 ≤ i) : Calls Try.prog 14 #[.pointer (some ⟨bp, 0, none⟩), .int .i64 i, .int .i64 x, .int .i64 tick] w fun e w' => e = .returned (.int .i64 3) ∧ w = w' := by
  have hn := none_any h
  have e0 : (S.strikes == 0) = false := by simp; omega
  rw [e0] at hn
  have Hn := hide hn
  clear h hn e0
  rcases hi with hi | hi
  all_goals
    go_enter Try.func14, Try.ntmps14
    go_wp2_with (go_at_call 30; refine Hn.out.mono ?_; rintro e w' ⟨rfl, rfl⟩)
    go_ret
    exact ⟨rfl, rfl⟩

set_option maxHeartbeats 1000000 in
theorem put_in {w : World} {bp : Nat} {S : VS} (h : Blk w bp 68 S.cells) (hs : 1 ≤ S.strikes) (i x tick : Int) (hi : i = 0 ∨ i = 1 ∨ i = 2) : Calls Try.prog 14 #[.pointer (some ⟨bp, 0, none⟩), .int .i64 i, .int .i64 x, .int .i64 tick] w fun e w' => e = .returned (.int .i64 (putE S i tick)) ∧ Blk w' bp 68 (putS S i x tick).cells ∧ w.grownBy w' (some bp) := by
  have hn := none_any h
  have e0 : (S.strikes == 0) = false := by simp; omega
  rw [e0] at hn
  have Hn := hide hn
  clear hn e0
  by_cases ht : tick < 0
  · have e1 : putE S i tick = 1 := by unfold putE; rw [if_neg (by omega), if_pos (.inl ht)]
    have e2 : putS S i x tick = S := by unfold putS; rw [e1]; rfl
    rw [e1, e2]
    have H := hide h
    clear h e1 e2
    rcases hi with rfl | rfl | rfl
    all_goals
      go_enter Try.func14, Try.ntmps14
      go_wp2_with (go_at_call 30; refine Hn.out.mono ?_; rintro e w' ⟨rfl, rfl⟩)
      go_ret
      exact ⟨rfl, H.out, grown_refl _ _⟩
  · by_cases ht2 : tick ≤ S.t i.toNat
    · have e1 : putE S i tick = 1 := by unfold putE; rw [if_neg (by omega), if_pos (.inr ht2)]
      have e2 : putS S i x tick = S := by unfold putS; rw [e1]; rfl
      rw [e1, e2]
      have H := hide h
      have c0 := h.cell 1
      have c1 := h.cell 6
      have c2 := h.cell 11
      simp [VS.cells] at c0 c1 c2
      clear h e1 e2
      rcases hi with rfl | rfl | rfl
      all_goals
        simp at ht2
        go_enter Try.func14, Try.ntmps14
        go_wp2_with (go_at_call 30; refine Hn.out.mono ?_; rintro e w' ⟨rfl, rfl⟩)
        go_ret
        exact ⟨rfl, H.out, grown_refl _ _⟩
    · have e1 : putE S i tick = 0 := by unfold putE; rw [if_neg (by omega), if_neg (by omega)]
      have e2 : putS S i x tick = { S with x := upd S.x i.toNat x, t := upd S.t i.toNat tick } := by unfold putS; rw [if_pos e1]
      rw [e1, e2]
      have H := hide h
      have c0 := h.cell 1
      have c1 := h.cell 6
      have c2 := h.cell 11
      have d0 := h.cell 0
      have d1 := h.cell 5
      have d2 := h.cell 10
      simp [VS.cells] at c0 c1 c2 d0 d1 d2
      have f := h.frozen
      clear h e1 e2
      rcases hi with rfl | rfl | rfl
      all_goals
        simp at ht2
        go_enter Try.func14, Try.ntmps14
        go_wp2_with (go_at_call 30; refine Hn.out.mono ?_; rintro e w' ⟨rfl, rfl⟩)
        go_region
        go_wp2
        go_ret
        refine ⟨rfl, ?_, grown_trans (grown_drew _ _) (grown_trans (grown_set _ _ _ _) (grown_set _ _ _ _))⟩
        exact (Blk.set (Blk.set H.out.drew _ _) _ _)

end Go.Proofs.Ytciooimbhabccaa
