/- The voter: strike. -/
import Derived.Test.YtciooimbhabccaaD
namespace Go.Proofs.Ytciooimbhabccaa
open Go.RowKit

def stp (p : VS × List Nat) (k : Nat) : VS × List Nat :=
  if farB (p.1.x k) p.1.last p.1.tol = true then ({ p.1 with s := upd p.1.s k (p.1.s k + 1) }, if p.1.strikes ≤ p.1.s k + 1 then p.2 ++ [k] else p.2)
  else ({ p.1 with s := upd p.1.s k 0 }, p.2)
def fin1 (m : Nat) (S : VS) (k : Nat) : VS := if m = 1 then { S with b := upd S.b k true } else { S with s := upd S.s k (S.strikes - 1) }
def strikeS (S : VS) (l : List Nat) : VS := (l.foldl stp (S, [])).2.foldl (fin1 (l.foldl stp (S, [])).2.length) (l.foldl stp (S, [])).1

structure Near (B : Int) (S : VS) (j : Nat) (p : VS × List Nat) : Prop where
  x : p.1.x = S.x
  t : p.1.t = S.t
  b : p.1.b = S.b
  tol : p.1.tol = S.tol
  stale : p.1.stale = S.stale
  strikes : p.1.strikes = S.strikes
  last : p.1.last = S.last
  s0 : ∀ k, 0 ≤ p.1.s k
  s1 : ∀ k, p.1.s k ≤ B + j
  len : p.2.length ≤ j
  lt : ∀ k ∈ p.2, k < 3

theorem Near.step {B : Int} {S : VS} {j : Nat} {p : VS × List Nat} (h : Near B S j p) (hs : 1000 ≤ B) {k : Nat} (hk : k < 3) : Near B S (j + 1) (stp p k) := by
  have hx : ∀ (f : Nat → Int) (v : Int), (∀ i, 0 ≤ f i) → (∀ i, f i ≤ B + j) → 0 ≤ v → v ≤ B + (j + 1 : Nat) → (∀ i, 0 ≤ upd f k v i) ∧ ∀ i, upd f k v i ≤ B + (j + 1 : Nat) := by
    intro f v h0 h1 h2 h3
    constructor
    · intro i; unfold upd; split
      · exact h2
      · exact h0 i
    · intro i; unfold upd; split
      · exact h3
      · have := h1 i; omega
  unfold stp
  split
  · have q := hx p.1.s (p.1.s k + 1) h.s0 h.s1 (by have := h.s0 k; omega) (by have := h.s1 k; omega)
    refine ⟨h.x, h.t, h.b, h.tol, h.stale, h.strikes, h.last, q.1, q.2, ?_, ?_⟩
    · have := h.len; split <;> simp <;> omega
    · intro i hi
      split at hi
      · simp at hi; rcases hi with hi | rfl
        · exact h.lt i hi
        · exact hk
      · exact h.lt i hi
  · have q := hx p.1.s 0 h.s0 h.s1 (by omega) (by omega)
    exact ⟨h.x, h.t, h.b, h.tol, h.stale, h.strikes, h.last, q.1, q.2, by have := h.len; simp; omega, h.lt⟩

theorem near_fold {B : Int} {S : VS} (hok : S.ok B) (l : List Nat) (hl : ∀ k ∈ l, k < 3) : ∀ j, j ≤ l.length → Near B S j ((l.take j).foldl stp (S, [])) := by
  intro j
  induction j with
  | zero => intro _; exact ⟨rfl, rfl, rfl, rfl, rfl, rfl, rfl, hok.s0, fun k => by have := hok.s1 k; simp; omega, by simp, by simp⟩
  | succ j ih =>
    intro hj
    have h := ih (by omega)
    rw [List.take_succ_eq_append_getElem (by omega), List.foldl_append]
    exact h.step hok.sB (hl _ (List.getElem_mem _))

theorem fold_succ {l : List Nat} {S : VS} {j : Nat} (hj : j < l.length) : (l.take (j + 1)).foldl stp (S, []) = stp ((l.take j).foldl stp (S, [])) l[j] := by
  rw [List.take_succ_eq_append_getElem hj, List.foldl_append]; rfl

theorem new_cells (w : World) (n : Nat) (hn : n = w.heap.size) (cs : List Value) (t : TypeId) : ∀ (j : Nat) (u : Value), cs[j]? = some u → (w.alloc (.cells cs.toArray t)).cell? (({ block := n, off := 0 } : Addr).add j) = some u := by
  intro j u hj
  subst hn
  have e : (({ block := w.heap.size, off := 0 } : Addr).add j) = ⟨w.heap.size, j, none⟩ := by
    unfold Addr.add
    by_cases h : j = 0 <;> simp [h]
  rw [e, cell_of_row _ _ j cs.toArray t (0, 0) (heap_alloc_new w _)]
  simpa using hj
theorem grown_own {a X w3 : World} {row r2 : Option Nat} (h : a.grownBy X row) (h3 : X.grownBy w3 r2) (hr : ∀ j, r2 = some j → a.heap.size ≤ j) : a.grownBy w3 row :=
  ⟨h3.os.trans h.os, h3.tape.trans h.tape, h3.output.trans h.output, Nat.le_trans h.size h3.size, fun i hi hn => (h3.block i (Nat.lt_of_lt_of_le hi h.size) (fun e => by have := hr i e.symm; omega)).trans (h.block i hi hn)⟩
theorem rowN {w : World} {base : Nat} {v : Value} {xs : List Nat} (h : w.ownsRow base 3 1 v xs.length (xs.map fun (k : Nat) => Value.int .i64 (k : Int))) :
    ∃ A cap, v = .slice A xs.length cap ∧ (∀ k (hk : k < xs.length), ∃ b, A = some ⟨b, 0, none⟩ ∧ base ≤ b ∧ b < w.heap.size ∧ w.cell? ⟨b, k, none⟩ = some (.int .i64 (xs[k] : Int))) := by
  rcases h.2 with ⟨rfl, hz⟩ | ⟨g, cap, cur, rfl, hb, hg, h1, h2, h3, h4⟩
  · exact ⟨none, 0, by rw [hz], fun k hk => by omega⟩
  · refine ⟨_, cap, rfl, fun k hk => ⟨g, rfl, hb, (Array.getElem?_eq_some_iff.1 hg).1, ?_⟩⟩
    have e : (cur.toList.take (xs.length * 1))[k]? = (xs.map fun (k : Nat) => Value.int .i64 (k : Int))[k]? := by rw [h4]
    rw [List.getElem?_take_of_lt (by omega)] at e
    rw [cell_of_row w g k cur 3 (0, 0) hg, ← Array.getElem?_toList, e]
    simp [hk]
theorem fin_succ {out : List Nat} {m : Nat} {P : VS} {j : Nat} (hj : j < out.length) : (out.take (j + 1)).foldl (fin1 m) P = fin1 m ((out.take j).foldl (fin1 m) P) out[j] := by
  rw [List.take_succ_eq_append_getElem hj, List.foldl_append]; rfl
theorem fin_strikes (m : Nat) : ∀ (l : List Nat) (P : VS), (l.foldl (fin1 m) P).strikes = P.strikes
  | [], _ => rfl
  | k :: l, P => by
    rw [List.foldl_cons, fin_strikes m l]
    unfold fin1
    split <;> rfl
theorem fin_ok {B : Int} (hB : 1000 ≤ B) (m : Nat) : ∀ (l : List Nat) (P : VS), P.ok B → (l.foldl (fin1 m) P).ok B
  | [], _, h => h
  | k :: l, P, h => by
    rw [List.foldl_cons]
    refine fin_ok hB m l _ ?_
    unfold fin1
    split
    · exact { h with }
    · exact { h with
        s0 := fun i => by
          have := h.strikes1
          show 0 ≤ upd P.s k (P.strikes - 1) i
          unfold upd; split
          · omega
          · exact h.s0 i
        s1 := fun i => by
          have := h.strikes2
          show upd P.s k (P.strikes - 1) i ≤ B
          unfold upd; split
          · omega
          · exact h.s1 i }
theorem strike_ok {B : Int} {S : VS} (hok : S.ok B) (l : List Nat) (hl : ∀ k ∈ l, k < 3) (hl3 : l.length ≤ 3) : (strikeS S l).ok (B + 3) := by
  have hn := near_fold hok l hl l.length (Nat.le_refl _)
  rw [List.take_of_length_le (Nat.le_refl _)] at hn
  have hB := hok.sB
  refine fin_ok (by omega) _ _ _ ?_
  exact { tol0 := by rw [hn.tol]; exact hok.tol0, tol1 := by rw [hn.tol]; exact hok.tol1, stale0 := by rw [hn.stale]; exact hok.stale0, stale1 := by rw [hn.stale]; exact hok.stale1, strikes1 := by rw [hn.strikes]; exact hok.strikes1, strikes2 := by rw [hn.strikes]; exact hok.strikes2, x0 := by rw [hn.x]; exact hok.x0, x1 := by rw [hn.x]; exact hok.x1, t0 := by rw [hn.t]; exact hok.t0, t1 := by rw [hn.t]; exact hok.t1, s0 := hn.s0, s1 := fun k => by have := hn.s1 k; omega, sB := by omega, l0 := by rw [hn.last]; exact hok.l0, l1 := by rw [hn.last]; exact hok.l1 }
theorem grown_drewN (w : World) (n : Nat) (row : Option Nat) : w.grownBy (w.drewN n) row := ⟨rfl, rfl, rfl, Nat.le_refl _, fun _ _ _ => rfl⟩

set_option maxRecDepth 100000 in
set_option maxHeartbeats 4000000 in
theorem strike_any {w : World} {bp : Nat} {S : VS} {B : Int} (h : Blk w bp 68 S.cells) (hok : S.ok B) (hB9 : B ≤ 1000000) (l : List Nat) (hl : ∀ k ∈ l, k < 3) (hl3 : l.length ≤ 3) (A : Option Addr) (cap : Nat)
    (hrow : ∀ j (hj : j < l.length), ∃ b, A = some ⟨b, 0, none⟩ ∧ b < w.heap.size ∧ b ≠ bp ∧ w.cell? ⟨b, j, none⟩ = some (.int .i64 (l[j] : Int))) :
    Calls Try.prog 32 #[.pointer (some ⟨bp, 0, none⟩), .slice A l.length cap] w fun e w' => e = .returned (.tuple #[]) ∧ Blk w' bp 68 (strikeS S l).cells ∧ w.grownBy w' (some bp) := by
  have H := hide h
  have Hrow := hide hrow
  have Hnear := hide (near_fold hok l hl)
  have hbp := h.lt
  obtain ⟨i0, hi, hz0, hz1, hz2⟩ := info_parts info3
  clear h hrow
  go_enter Try.func32, Try.ntmps32
  go_wp2_with fail
  go_loopw [4, 12] (fun o i wr => ∃ j : Nat, j ≤ l.length ∧ i = .int .i64 j ∧ Blk wr bp 68 ((l.take j).foldl stp (S, [])).1.cells ∧ wr.ownsRow w.heap.size 3 1 o ((l.take j).foldl stp (S, [])).2.length (((l.take j).foldl stp (S, [])).2.map fun (k : Nat) => .int .i64 (k : Int)) ∧ w.grownBy wr (some bp)) (fun _ i _ => l.length - (intOf i).toNat)
  case atStart => exact ⟨0, Nat.zero_le _, rfl, H.out, by simpa using World.ownsRow_nil _ _ _ _, grown_refl _ _⟩
  case round =>
    obtain ⟨j, hj, rfl, hB, hown, hg⟩ := hrel
    by_cases hlt : j < l.length
    · obtain ⟨b, rfl, hb1, hb2, hc⟩ := Hrow.out j hlt
      have hcx : wr.cell? ⟨b, j, none⟩ = some (.int .i64 (l[j] : Int)) := (World.cell?_of_block (hg.block b hb1 (fun e => hb2 (by injection e)))).trans hc
      have hn := Hnear.out j hj
      have hk3 := hl _ (List.getElem_mem hlt)
      have hsucc := fold_succ (S := S) hlt
      obtain ⟨p, hp⟩ : ∃ p, (l.take j).foldl stp (S, []) = p := ⟨_, rfl⟩
      obtain ⟨k, hk⟩ : ∃ k, l[j] = k := ⟨_, rfl⟩
      rw [hp] at hB hown hn hsucc
      rw [hk] at hcx hk3 hsucc
      have Hsucc := hide hsucc
      clear hsucc hp hk hc hb2
      obtain ⟨P, out⟩ := p
      have HB := hide hB
      have Hg := hide hg
      have hf := hB.frozen
      have f0 := fun W => far_any (P.x k) P.last P.tol W ⟨by rw [hn.x]; exact hok.x0 k, by rw [hn.x]; exact hok.x1 k⟩ ⟨by rw [hn.last]; exact hok.l0, by rw [hn.last]; exact hok.l1⟩ ⟨by rw [hn.tol]; exact hok.tol0, by rw [hn.tol]; exact hok.tol1⟩
      have hs0 := hn.s0 k
      have hs1 : P.s k ≤ 1000003 := by
        have h1 := hn.s1 k
        change P.s k ≤ _ at h1
        have := hok.strikes2
        omega
      have hol : out.length ≤ j := hn.len
      by_cases hfar : farB (P.x k) P.last P.tol = true
      · rw [hfar] at f0
        have F0 := hide f0
        by_cases hst : P.strikes ≤ P.s k + 1
        · have e1 : stp (P, out) k = ({ P with s := upd P.s k (P.s k + 1) }, out ++ [k]) := by simp [stp, hfar, hst]
          rw [e1] at Hsucc
          have t1 := hB.cell 15
          have t2 := hB.cell 17
          have t3 := hB.cell 18
          have a0 := hB.cell 0
          have a1 := hB.cell 5
          have a2 := hB.cell 10
          have b0 := hB.cell 4
          have b1 := hB.cell 9
          have b2 := hB.cell 14
          simp [VS.cells] at t1 t2 t3 a0 a1 a2 b0 b1 b2
          have hst' : decide (P.strikes ≤ P.s k + 1) = true := by simp [hst]
          have pk : ∀ {n1 n2 i : Nat} {v : Value} {W : World}, ((wr.drewN n1).setCell ⟨bp, i, none⟩ v).drewN n2 = W → Blk W bp 68 (P.cells.setIfInBounds i v) ∧ W.ownsRow w.heap.size 3 1 u4 out.length (out.map fun (k : Nat) => .int .i64 (k : Int)) ∧ w.grownBy W (some bp) ∧ W.heap.size = wr.heap.size := by
            rintro n1 n2 i v W rfl
            exact ⟨Blk.set (w := wr.drewN _) HB.out _ _, ownsRow_setCell_below (w := wr.drewN _) hown hbp _, grown_trans Hg.out (grown_trans (grown_drewN _ _ _) (grown_trans (grown_set _ _ _ _) (grown_drewN _ _ _))), World.size_setCell (wr.drewN n1) _ _⟩
          have hwz := hg.size
          clear hB hg e1 hfar hn f0 hst
          obtain rfl | rfl | rfl : k = 0 ∨ k = 1 ∨ k = 2 := by omega
          · go_wp2_with fail
            go_quiet ((go_at_call 40; exact Calls.quiet_of_same ((F0.out _).mono fun e w' h => ⟨h.1, h.2.symm⟩)))
            go_wp2_with fail
            go_quiet (fail)
            generalize hW : World.drewN (World.setCell (wr.drewN _) _ _) _ = W
            obtain ⟨hBW, hoW, hgW, hzW⟩ := pk hW
            have hwW : w.heap.size ≤ W.heap.size := by omega
            clear hzW
            clear pk hW hown t1 t2 t3 a0 a1 a2 b0 b1 b2
            have HBW := hide hBW
            have HgW := hide hgW
            clear hBW hgW
            go_wp2_with (at_builtin; (refine wpList_append_own _ rfl _ _ 22 rfl w.heap.size 3 i0 (.int .i64 0) 1 8 Try.underlying22 hi hz0 hz1 hz2 rfl (by decide) _ _ _ rfl (hoW.alloc _) ⟨W.heap.size, 0, none⟩ 1 1 [.int .i64 0] rfl rfl ?c1 ?c2 ?c3 ?c4 ?c5 ?_))
            case c1 => exact new_cells _ _ rfl _ _
            case c2 => intro u hu; simp at hu; subst hu; rfl
            case c3 => unfold maxLen; omega
            case c4 => omega
            case c5 => simp; omega
            intro v' w3 hown3 hg3 _
            have hg4 : w.grownBy w3 (some bp) := grown_own (grown_trans HgW.out (World.grownBy_alloc _ _ _)) hg3 (fun j hj => (hoW.lt j hj).1)
            have hB4 := (HBW.out.alloc (.cells #[.int .i64 0] 3)).grown hg3 (fun e => absurd (hoW.lt bp e.symm).1 (by omega))
            have Hown3 := hide hown3
            have HB4 := hide hB4
            have Hg4 := hide hg4
            clear hown3 hB4 hg4 hoW hg3 HgW HBW
            go_wp2_with fail
            go_roundw
            case rel => exact ⟨j + 1, by omega, by go_num, by rw [Hsucc.out]; exact HB4.out, by rw [Hsucc.out]; simpa using Hown3.out, Hg4.out⟩
            case measure => simp [intOf]; omega
          · go_wp2_with fail
            go_quiet ((go_at_call 40; exact Calls.quiet_of_same ((F0.out _).mono fun e w' h => ⟨h.1, h.2.symm⟩)))
            go_wp2_with fail
            go_quiet (fail)
            generalize hW : World.drewN (World.setCell (wr.drewN _) _ _) _ = W
            obtain ⟨hBW, hoW, hgW, hzW⟩ := pk hW
            have hwW : w.heap.size ≤ W.heap.size := by omega
            clear hzW
            clear pk hW hown t1 t2 t3 a0 a1 a2 b0 b1 b2
            have HBW := hide hBW
            have HgW := hide hgW
            clear hBW hgW
            go_wp2_with (at_builtin; (refine wpList_append_own _ rfl _ _ 22 rfl w.heap.size 3 i0 (.int .i64 0) 1 8 Try.underlying22 hi hz0 hz1 hz2 rfl (by decide) _ _ _ rfl (hoW.alloc _) ⟨W.heap.size, 0, none⟩ 1 1 [.int .i64 1] rfl rfl ?c1 ?c2 ?c3 ?c4 ?c5 ?_))
            case c1 => exact new_cells _ _ rfl _ _
            case c2 => intro u hu; simp at hu; subst hu; rfl
            case c3 => unfold maxLen; omega
            case c4 => omega
            case c5 => simp; omega
            intro v' w3 hown3 hg3 _
            have hg4 : w.grownBy w3 (some bp) := grown_own (grown_trans HgW.out (World.grownBy_alloc _ _ _)) hg3 (fun j hj => (hoW.lt j hj).1)
            have hB4 := (HBW.out.alloc (.cells #[.int .i64 1] 3)).grown hg3 (fun e => absurd (hoW.lt bp e.symm).1 (by omega))
            have Hown3 := hide hown3
            have HB4 := hide hB4
            have Hg4 := hide hg4
            clear hown3 hB4 hg4 hoW hg3 HgW HBW
            go_wp2_with fail
            go_roundw
            case rel => exact ⟨j + 1, by omega, by go_num, by rw [Hsucc.out]; exact HB4.out, by rw [Hsucc.out]; simpa using Hown3.out, Hg4.out⟩
            case measure => simp [intOf]; omega
          · go_wp2_with fail
            go_quiet ((go_at_call 40; exact Calls.quiet_of_same ((F0.out _).mono fun e w' h => ⟨h.1, h.2.symm⟩)))
            go_wp2_with fail
            go_quiet (fail)
            generalize hW : World.drewN (World.setCell (wr.drewN _) _ _) _ = W
            obtain ⟨hBW, hoW, hgW, hzW⟩ := pk hW
            have hwW : w.heap.size ≤ W.heap.size := by omega
            clear hzW
            clear pk hW hown t1 t2 t3 a0 a1 a2 b0 b1 b2
            have HBW := hide hBW
            have HgW := hide hgW
            clear hBW hgW
            go_wp2_with (at_builtin; (refine wpList_append_own _ rfl _ _ 22 rfl w.heap.size 3 i0 (.int .i64 0) 1 8 Try.underlying22 hi hz0 hz1 hz2 rfl (by decide) _ _ _ rfl (hoW.alloc _) ⟨W.heap.size, 0, none⟩ 1 1 [.int .i64 2] rfl rfl ?c1 ?c2 ?c3 ?c4 ?c5 ?_))
            case c1 => exact new_cells _ _ rfl _ _
            case c2 => intro u hu; simp at hu; subst hu; rfl
            case c3 => unfold maxLen; omega
            case c4 => omega
            case c5 => simp; omega
            intro v' w3 hown3 hg3 _
            have hg4 : w.grownBy w3 (some bp) := grown_own (grown_trans HgW.out (World.grownBy_alloc _ _ _)) hg3 (fun j hj => (hoW.lt j hj).1)
            have hB4 := (HBW.out.alloc (.cells #[.int .i64 2] 3)).grown hg3 (fun e => absurd (hoW.lt bp e.symm).1 (by omega))
            have Hown3 := hide hown3
            have HB4 := hide hB4
            have Hg4 := hide hg4
            clear hown3 hB4 hg4 hoW hg3 HgW HBW
            go_wp2_with fail
            go_roundw
            case rel => exact ⟨j + 1, by omega, by go_num, by rw [Hsucc.out]; exact HB4.out, by rw [Hsucc.out]; simpa using Hown3.out, Hg4.out⟩
            case measure => simp [intOf]; omega
        · have e1 : stp (P, out) k = ({ P with s := upd P.s k (P.s k + 1) }, out) := by simp [stp, hfar, hst]
          rw [e1] at Hsucc
          have t1 := hB.cell 15
          have t2 := hB.cell 17
          have t3 := hB.cell 18
          have a0 := hB.cell 0
          have a1 := hB.cell 5
          have a2 := hB.cell 10
          have b0 := hB.cell 4
          have b1 := hB.cell 9
          have b2 := hB.cell 14
          simp [VS.cells] at t1 t2 t3 a0 a1 a2 b0 b1 b2
          have hst' : decide (P.strikes ≤ P.s k + 1) = false := by simp [hst]
          clear hB hg e1 hfar hn f0 hst
          obtain rfl | rfl | rfl : k = 0 ∨ k = 1 ∨ k = 2 := by omega
          all_goals
            go_wp2_with fail
            go_quiet ((go_at_call 40; exact Calls.quiet_of_same ((F0.out _).mono fun e w' h => ⟨h.1, h.2.symm⟩)))
            go_wp2_with fail
            go_quiet (fail)
            go_wp2_with fail
            go_roundw
            case rel => exact ⟨j + 1, by omega, by go_num, by rw [Hsucc.out]; exact Blk.set (w := wr.drewN _) HB.out _ _, by rw [Hsucc.out]; exact ownsRow_setCell_below (w := wr.drewN _) hown hbp _, grown_trans Hg.out (grown_trans (grown_drewN _ _ _) (grown_trans (grown_set _ _ _ _) (grown_drewN _ _ _)))⟩
            case measure => simp [intOf]; omega
      · have hfar' : farB (P.x k) P.last P.tol = false := by simpa using hfar
        have e1 : stp (P, out) k = ({ P with s := upd P.s k 0 }, out) := by simp [stp, hfar']
        rw [e1] at Hsucc
        have t1 := hB.cell 15
        have t2 := hB.cell 17
        have t3 := hB.cell 18
        have a0 := hB.cell 0
        have a1 := hB.cell 5
        have a2 := hB.cell 10
        have b0 := hB.cell 4
        have b1 := hB.cell 9
        have b2 := hB.cell 14
        simp [VS.cells] at t1 t2 t3 a0 a1 a2 b0 b1 b2
        rw [hfar'] at f0
        have F0 := hide f0
        clear hB hg e1 hfar hfar' hn f0
        obtain rfl | rfl | rfl : k = 0 ∨ k = 1 ∨ k = 2 := by omega
        all_goals
          go_wp2_with fail
          go_quiet ((go_at_call 40; exact Calls.quiet_of_same ((F0.out _).mono fun e w' h => ⟨h.1, h.2.symm⟩)))
          go_wp2_with fail
          go_roundw
          case rel => exact ⟨j + 1, by omega, by go_num, by rw [Hsucc.out]; exact Blk.set (w := wr.drewN _) HB.out _ _, by rw [Hsucc.out]; exact ownsRow_setCell_below (w := wr.drewN _) hown hbp _, grown_trans Hg.out (grown_trans (grown_drewN _ _ _) (grown_set _ _ _ _))⟩
          case measure => simp [intOf]; omega
    · obtain rfl : j = l.length := by omega
      have hn := Hnear.out _ (Nat.le_refl _)
      rw [List.take_of_length_le (Nat.le_refl _)] at hB hown hn
      have hfin : ∀ m, strikeS S l = (l.foldl stp (S, [])).2.foldl (fin1 m) (l.foldl stp (S, [])).1 ∨ m ≠ (l.foldl stp (S, [])).2.length := fun m => by
        by_cases e : m = (l.foldl stp (S, [])).2.length
        · subst e; exact .inl rfl
        · exact .inr e
      obtain ⟨p, hp⟩ : ∃ p, l.foldl stp (S, []) = p := ⟨_, rfl⟩
      rw [hp] at hB hown hn hfin
      obtain ⟨P, out⟩ := p
      have hS : strikeS S l = out.foldl (fin1 out.length) P := (hfin out.length).resolve_right (fun h => h rfl)
      have HS := hide hS
      have hst : 1 ≤ P.strikes ∧ P.strikes ≤ 1000 := by rw [show P.strikes = S.strikes from hn.strikes]; exact ⟨hok.strikes1, hok.strikes2⟩
      have hlt3 : ∀ k ∈ out, k < 3 := hn.lt
      have hol : out.length ≤ 3 := Nat.le_trans hn.len hl3
      obtain ⟨O, ocap, rfl, hocs⟩ := rowN hown
      have HB := hide hB
      have Hg := hide hg
      have Hocs := hide hocs
      have Hown := hide hown
      have hwz := hg.size
      clear hp hfin hS hB hg hocs hown hn Hrow Hnear H
      obtain ⟨w1, hw1⟩ : ∃ w1, w1 = wr := ⟨_, rfl⟩
      subst hw1
      go_wp2_with fail
      go_loopw [62] (fun i wx => ∃ j : Nat, j ≤ out.length ∧ i = .int .i64 j ∧ Blk wx bp 68 ((out.take j).foldl (fin1 out.length) P).cells ∧ w1.grownBy wx (some bp)) (fun i _ => out.length - (intOf i).toNat)
      case atStart => exact ⟨0, Nat.zero_le _, rfl, HB.out, grown_refl _ _⟩
      case round =>
        obtain ⟨j, hj, rfl, hB, hg⟩ := hrel
        by_cases hlt : j < out.length
        · obtain ⟨b, rfl, hb1, hb2, hc⟩ := Hocs.out j hlt
          have hcx : wr.cell? ⟨b, j, none⟩ = some (.int .i64 (out[j] : Int)) := (World.cell?_of_block (hg.block b hb2 (fun e => by injection e; omega))).trans hc
          have hk3 := hlt3 _ (List.getElem_mem hlt)
          have hsucc := fin_succ (P := P) (m := out.length) hlt
          have hstr := fin_strikes out.length (out.take j) P
          obtain ⟨Q, hQ⟩ : ∃ Q, (out.take j).foldl (fin1 out.length) P = Q := ⟨_, rfl⟩
          obtain ⟨k, hk⟩ : ∃ k, out[j] = k := ⟨_, rfl⟩
          rw [hQ] at hB hsucc hstr
          rw [hk] at hcx hk3 hsucc
          rw [← hstr] at hst
          have hf := hB.frozen
          have t2 := hB.cell 17
          have b0 := hB.cell 4
          have b1 := hB.cell 9
          have b2 := hB.cell 14
          have d0 := hB.cell 3
          have d1 := hB.cell 8
          have d2 := hB.cell 13
          simp [VS.cells] at t2 b0 b1 b2 d0 d1 d2
          obtain ⟨hst1, hst2⟩ := hst
          have HB2 := hide hB
          have Hg2 := hide hg
          have Hsucc := hide hsucc
          by_cases h1 : out.length = 1
          · have e1 : fin1 out.length Q k = { Q with b := upd Q.b k true } := by rw [fin1, if_pos h1]
            have q1 : ((out.length : Int) == 1) = true := by simp; omega
            have E1 := hide e1
            have H1 := hide h1
            clear h1 e1 hB hg hsucc hstr hQ hk hc
            obtain rfl | rfl | rfl : k = 0 ∨ k = 1 ∨ k = 2 := by omega
            all_goals
              go_wp2_with fail
              go_roundw
              case rel => exact ⟨j + 1, by omega, by go_num, by rw [Hsucc.out, E1.out]; exact Blk.set HB2.out _ _, grown_trans Hg2.out (grown_set _ _ _ _)⟩
              case measure => simp [intOf]; omega
          · have e1 : fin1 out.length Q k = { Q with s := upd Q.s k (Q.strikes - 1) } := by rw [fin1, if_neg h1]
            have q1 : ((out.length : Int) == 1) = false := by simp; omega
            have E1 := hide e1
            clear h1 e1 hB hg hsucc hstr hQ hk hc
            obtain rfl | rfl | rfl : k = 0 ∨ k = 1 ∨ k = 2 := by omega
            all_goals
              go_wp2_with fail
              go_region
              go_wp2_with fail
              go_roundw
              case rel => exact ⟨j + 1, by omega, by go_num, by rw [Hsucc.out, E1.out]; exact Blk.set (w := wr.drew) HB2.out _ _, grown_trans Hg2.out (grown_trans (grown_drew _ _) (grown_set _ _ _ _))⟩
              case measure => simp [intOf]; omega
        · obtain rfl : j = out.length := by omega
          rw [List.take_of_length_le (Nat.le_refl _), ← HS.out] at hB
          have HB2 := hide hB
          have Hg2 := hide hg
          clear hB hg
          go_wp2
          first | go_end0 | (refine bodyPost_ret (results_none rfl _ _ _) rfl ?_)
          exact ⟨rfl, HB2.out, grown_trans Hg.out Hg2.out⟩



end Go.Proofs.Ytciooimbhabccaa
