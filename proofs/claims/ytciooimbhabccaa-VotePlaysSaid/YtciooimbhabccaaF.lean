/- The voter: Vote. -/
import Derived.Test.YtciooimbhabccaaE
namespace Go.Proofs.Ytciooimbhabccaa
open Go.RowKit

def cnt (S : VS) (now : Int) (k : Nat) : List Nat := (List.range k).filter fun i => freshB S i now && !S.b i
theorem cnt_hit {S : VS} {now : Int} {k : Nat} (h1 : freshB S k now = true) (h2 : S.b k = false) : cnt S now (k + 1) = cnt S now k ++ [k] := by
  simp [cnt, List.range_succ, List.filter_append, h1, h2]
theorem cnt_miss1 {S : VS} {now : Int} {k : Nat} (h1 : freshB S k now = false) : cnt S now (k + 1) = cnt S now k := by
  simp [cnt, List.range_succ, List.filter_append, h1]
theorem cnt_miss2 {S : VS} {now : Int} {k : Nat} (h2 : S.b k = true) : cnt S now (k + 1) = cnt S now k := by
  simp [cnt, List.range_succ, List.filter_append, h2]
theorem cnt_len (S : VS) (now : Int) (k : Nat) : (cnt S now k).length ≤ k := by
  have := List.length_filter_le (fun i => freshB S i now && !S.b i) (List.range k)
  simpa [cnt] using this
theorem cnt_lt (S : VS) (now : Int) (k : Nat) : ∀ i ∈ cnt S now k, i < k := by
  intro i hi
  simp [cnt] at hi
  exact hi.1

def Sep (c l : Value) : Prop := ∀ b, c.ownBlock = some b → l.ownBlock ≠ some b
theorem Sep.left {c l c' : Value} {n m : Nat} (h : Sep c l) (hat : c'.ownBlock = c.ownBlock ∨ c'.ownBlock = some n) (hl : ∀ b, l.ownBlock = some b → b < m) (hm : m ≤ n) : Sep c' l := by
  intro b hb e
  rcases hat with h1 | h1
  · exact h b (h1 ▸ hb) e
  · rw [h1] at hb; injection hb with hb; have := hl b e; omega
theorem Sep.right {c l l' : Value} {n m : Nat} (h : Sep c l) (hat : l'.ownBlock = l.ownBlock ∨ l'.ownBlock = some n) (hl : ∀ b, c.ownBlock = some b → b < m) (hm : m ≤ n) : Sep c l' := by
  intro b hb e
  rcases hat with h1 | h1
  · exact h b hb (h1 ▸ e)
  · rw [h1] at e; injection e with e; have := hl b hb; omega
theorem Sep.ne {c l : Value} (h : Sep c l) : l.ownBlock = none ∨ l.ownBlock ≠ c.ownBlock := by
  by_cases e : l.ownBlock = none
  · exact .inl e
  · obtain ⟨b, hb⟩ := Option.ne_none_iff_exists'.1 e
    exact .inr (fun h2 => h b (h2 ▸ hb) hb)
theorem Sep.ne' {c l : Value} (h : Sep c l) : c.ownBlock = none ∨ c.ownBlock ≠ l.ownBlock := by
  rcases h.ne with e | e
  · by_cases e2 : c.ownBlock = none
    · exact .inl e2
    · exact .inr (by rw [e]; exact e2)
  · exact .inr (fun h2 => e h2.symm)

def voteX (S : VS) (now : Int) : Int := if (cnt S now 3).length = 0 then S.last else midL ((cnt S now 3).map S.x)
def vote1 (S : VS) (now : Int) : VS := { S with last := midL ((cnt S now 3).map S.x) }
def voteS (S : VS) (now : Int) : VS := if (cnt S now 3).length = 0 then S else if 1 < (cnt S now 3).length then strikeS (vote1 S now) (cnt S now 3) else vote1 S now

theorem fin_last (m : Nat) : ∀ (l : List Nat) (P : VS), (l.foldl (fin1 m) P).last = P.last
  | [], _ => rfl
  | k :: l, P => by
    rw [List.foldl_cons, fin_last m l]
    unfold fin1
    split <;> rfl
theorem stp_last : ∀ (l : List Nat) (p : VS × List Nat), (l.foldl stp p).1.last = p.1.last
  | [], _ => rfl
  | k :: l, p => by
    rw [List.foldl_cons, stp_last l]
    unfold stp
    split <;> rfl
theorem strike_last (S : VS) (l : List Nat) : (strikeS S l).last = S.last := by
  unfold strikeS
  rw [fin_last, stp_last]

theorem mid_mem {zs : List Int} (h : zs ≠ []) : midL zs ∈ zs := by
  have hl : 0 < zs.length := List.length_pos_iff.2 h
  have hk : (zs.length - 1) / 2 < (srt zs).length := by rw [srt_len]; omega
  have em : midL zs = (srt zs)[(zs.length - 1) / 2] := by
    rw [midL_srt, List.getD_eq_getElem?_getD, List.getElem?_eq_getElem hk]; rfl
  rw [em]
  exact (List.mergeSort_perm zs _).mem_iff.1 (List.getElem_mem hk)

theorem vote1_ok {B : Int} {S : VS} (h : S.ok B) (now : Int) (h0 : (cnt S now 3).length ≠ 0) : (vote1 S now).ok B := by
  have hm : midL ((cnt S now 3).map S.x) ∈ (cnt S now 3).map S.x := mid_mem (by intro e; apply h0; simpa using e)
  obtain ⟨k, _, e⟩ := List.mem_map.1 hm
  exact { h with l0 := by show _ ≤ midL _; rw [← e]; exact h.x0 k, l1 := by show midL _ ≤ _; rw [← e]; exact h.x1 k }

theorem VS.ok.mono {B C : Int} {S : VS} (h : S.ok B) (hBC : B ≤ C) : S.ok C := { h with s1 := fun k => Int.le_trans (h.s1 k) hBC, sB := Int.le_trans h.sB hBC }
theorem vote_ok {B : Int} {S : VS} (h : S.ok B) (now : Int) : (voteS S now).ok (B + 3) := by
  unfold voteS
  split
  · exact h.mono (by omega)
  · rename_i h0
    split
    · exact strike_ok (vote1_ok h now h0) _ (cnt_lt S now 3) (cnt_len S now 3)
    · exact (vote1_ok h now h0).mono (by omega)
theorem put_ok {B : Int} {S : VS} (h : S.ok B) (i x tick : Int) (hx : -9223372036854775808 ≤ x ∧ x ≤ 9223372036854775807) (ht : tick ≤ 9223372036854775807) : (putS S i x tick).ok B := by
  unfold putS
  split
  · rename_i e
    have ht0 : 0 ≤ tick := by
      unfold putE at e
      split at e
      · cases e
      · split at e
        · cases e
        · omega
    have up : ∀ (f : Nat → Int) (v : Int) (Q : Int → Prop), (∀ k, Q (f k)) → Q v → ∀ k, Q (upd f i.toNat v k) := fun f v Q h1 h2 k => by
      unfold upd; split
      · exact h2
      · exact h1 k
    exact { h with x0 := up _ _ (fun y => -9223372036854775808 ≤ y) h.x0 hx.1, x1 := up _ _ (fun y => y ≤ 9223372036854775807) h.x1 hx.2, t0 := up _ _ (fun y => -1 ≤ y) h.t0 (by omega), t1 := up _ _ (fun y => y ≤ 9223372036854775807) h.t1 ht }
  · exact h
theorem new_ok {tol stale strikes : Int} (h : newB tol stale strikes = true) (ht : tol ≤ 9223372036854775807) : (newS tol stale strikes).ok 1000 := by
  obtain ⟨a, b, c, d, e⟩ : 0 ≤ tol ∧ 0 ≤ stale ∧ stale ≤ 1000 ∧ 1 ≤ strikes ∧ strikes ≤ 1000 := by simpa [newB, and_assoc] using h
  exact { tol0 := a, tol1 := ht, stale0 := b, stale1 := c, strikes1 := d, strikes2 := e, x0 := fun _ => by simp [newS], x1 := fun _ => by simp [newS], t0 := fun _ => by simp [newS], t1 := fun _ => by simp [newS], s0 := fun _ => by simp [newS], s1 := fun _ => by simp [newS], sB := by decide, l0 := by simp [newS], l1 := by simp [newS] }

set_option maxRecDepth 100000 in
set_option maxHeartbeats 4000000 in
theorem vote_any {w : World} {bp : Nat} {S : VS} {B : Int} (h : Blk w bp 68 S.cells) (hok : S.ok B) (hB9 : B ≤ 1000000) (now : Int) (hnow : now ≤ 9223372036854775807) :
    Calls Try.prog 15 #[.pointer (some ⟨bp, 0, none⟩), .int .i64 now] w fun e w' => e = .returned (.tuple #[.int .i64 (voteX S now), .int .i64 ((cnt S now 3).length : Nat)]) ∧ Blk w' bp 68 (voteS S now).cells ∧ w.grownBy w' (some bp) := by
  have hn := none_any h
  have e0 : (S.strikes == 0) = false := by have := hok.strikes1; simp; omega
  rw [e0] at hn
  have Hn := hide hn
  have H := hide h
  have hbp := h.lt
  have Hok := hide hok
  have hB8 := hide hB9
  obtain ⟨i0, hi, hz0, hz1, hz2⟩ := info_parts info3
  clear h hn e0
  go_enter Try.func15, Try.ntmps15
  go_wp2_with (go_at_call 30; refine Hn.out.mono ?_; rintro e w' ⟨rfl, rfl⟩)
  go_loopw [6, 7, 11] (fun c l i wr => ∃ k : Nat, k ≤ 3 ∧ i = .int .i64 k ∧ wr.ownsRow w.heap.size 3 1 c (cnt S now k).length ((cnt S now k).map fun (k : Nat) => .int .i64 (k : Int)) ∧ wr.ownsRow w.heap.size 3 1 l (cnt S now k).length ((cnt S now k).map fun (k : Nat) => .int .i64 (S.x k)) ∧ Sep c l ∧ Below w.heap.size w wr) (fun _ _ i _ => 3 - (intOf i).toNat)
  case atStart => exact ⟨0, by omega, rfl, by simpa [cnt] using World.ownsRow_nil _ _ _ _, by simpa [cnt] using World.ownsRow_nil _ _ _ _, (by intro b hb; cases hb), Below.refl _ _⟩
  case round =>
    obtain ⟨k, hk, rfl, hc, hl, hsep, hb⟩ := hrel
    have hB := H.out.below hb hbp
    by_cases hlt : k < 3
    · have hfr := fresh_any hB k hlt now hnow (hok.t1 k)
      have x0 := hB.cell 0
      have x1 := hB.cell 5
      have x2 := hB.cell 10
      have d0 := hB.cell 3
      have d1 := hB.cell 8
      have d2 := hB.cell 13
      simp [VS.cells] at x0 x1 x2 d0 d1 d2
      have hz := hb.size
      have hlen := cnt_len S now k
      cases hf : freshB S k now
      · have E := hide (cnt_miss1 hf)
        rw [hf] at hfr
        have Hfr := hide hfr
        have HC := hide hc
        have HL := hide hl
        have HSep := hide hsep
        have Hb := hide hb
        clear hf hfr hc hl hsep hb hB hok
        obtain rfl | rfl | rfl : k = 0 ∨ k = 1 ∨ k = 2 := by omega
        all_goals
          go_wp2_with (go_at_call 31; refine Hfr.out.mono ?_; rintro e w' ⟨rfl, rfl⟩)
          go_roundw
          case rel => first
            | exact ⟨0 + 1, by omega, by go_num, by rw [E.out]; exact HC.out, by rw [E.out]; exact HL.out, HSep.out, Hb.out⟩
            | exact ⟨1 + 1, by omega, by go_num, by rw [E.out]; exact HC.out, by rw [E.out]; exact HL.out, HSep.out, Hb.out⟩
            | exact ⟨2 + 1, by omega, by go_num, by rw [E.out]; exact HC.out, by rw [E.out]; exact HL.out, HSep.out, Hb.out⟩
          case measure => simp [intOf]
      · rw [hf] at hfr
        have Hfr := hide hfr
        have Hb := hide hb
        cases hbk : S.b k
        · have E := hide (cnt_hit hf hbk)
          clear hf hfr hb hB hok
          obtain rfl | rfl | rfl : k = 0 ∨ k = 1 ∨ k = 2 := by omega
          · have HE := hide E.out
            go_wp2_with (first
              | (go_at_call 31; refine Hfr.out.mono ?_; rintro e w' ⟨rfl, rfl⟩)
              | (at_builtin; refine wpList_append_own_at _ rfl _ _ 22 rfl w.heap.size 3 i0 (.int .i64 0) 1 8 Try.underlying22 hi hz0 hz1 hz2 rfl (by decide) _ _ _ rfl (hc.alloc _) ⟨wr.heap.size, 0, none⟩ 1 1 [.int .i64 0] rfl rfl ?c1 ?c2 ?c3 ?c4 ?c5 ?_))
            case c1 => exact new_cells _ _ rfl _ _
            case c2 => intro u hu; simp at hu; subst hu; rfl
            case c3 => unfold maxLen; omega
            case c4 => omega
            case c5 => simp; omega
            intro c' w3 hc3 hg3 _ hat3
            have hl3 := (hl.alloc (.cells #[.int .i64 0] 3)).kept hg3 hsep.ne
            have hsep3 := hsep.left hat3 (fun b hb => (hl.lt b hb).2) (by simp)
            have hb3 : Below w.heap.size w w3 := (Hb.out.alloc hz _).grown hg3 (by simp; omega) (fun j hj => (hc.lt j hj).1)
            have hB3 := H.out.below hb3 hbp
            have hz3 := hb3.size
            have y := hB3.cell 0
            simp [VS.cells] at y
            have Hb3 := hide hb3
            have Hsep3 := hide hsep3
            have Hc3 := hide hc3
            clear hg3 hat3 hc hb3 hB3 hsep3 hl x0 x1 x2 d0 d1 d2 hsep hc3
            go_wp2_with (at_builtin; refine wpList_append_own_at _ rfl _ _ 22 rfl w.heap.size 3 i0 (.int .i64 0) 1 8 Try.underlying22 hi hz0 hz1 hz2 rfl (by decide) _ _ _ rfl (hl3.alloc _) ⟨w3.heap.size, 0, none⟩ 1 1 [.int .i64 (S.x 0)] rfl rfl ?c1 ?c2 ?c3 ?c4 ?c5 ?_)
            case c1 => exact new_cells _ _ rfl _ _
            case c2 => intro u hu; simp at hu; subst hu; rfl
            case c3 => unfold maxLen; omega
            case c4 => omega
            case c5 => simp; omega
            intro l' w4 hl4 hg4 _ hat4
            have hc4 := (Hc3.out.alloc (.cells #[.int .i64 (S.x 0)] 3)).kept hg4 Hsep3.out.ne'
            have hsep4 := Hsep3.out.right hat4 (fun b hb => (Hc3.out.lt b hb).2) (by simp)
            have hb4 : Below w.heap.size w w4 := (Hb3.out.alloc hz3 _).grown hg4 (by simp; omega) (fun j hj => (hl3.lt j hj).1)
            have Hc4 := hide hc4
            have Hl4 := hide hl4
            have Hsep4 := hide hsep4
            have Hb4 := hide hb4
            clear hc4 hl4 hsep4 hb4 hg4 hat4 hl3
            go_wp2_with fail
            go_roundw
            case rel => exact ⟨0 + 1, by omega, by go_num, by rw [HE.out]; simpa using Hc4.out, by rw [HE.out]; simpa using Hl4.out, Hsep4.out, Hb4.out⟩
            case measure => simp [intOf]
          · have HE := hide E.out
            go_wp2_with (first
              | (go_at_call 31; refine Hfr.out.mono ?_; rintro e w' ⟨rfl, rfl⟩)
              | (at_builtin; refine wpList_append_own_at _ rfl _ _ 22 rfl w.heap.size 3 i0 (.int .i64 0) 1 8 Try.underlying22 hi hz0 hz1 hz2 rfl (by decide) _ _ _ rfl (hc.alloc _) ⟨wr.heap.size, 0, none⟩ 1 1 [.int .i64 1] rfl rfl ?c1 ?c2 ?c3 ?c4 ?c5 ?_))
            case c1 => exact new_cells _ _ rfl _ _
            case c2 => intro u hu; simp at hu; subst hu; rfl
            case c3 => unfold maxLen; omega
            case c4 => omega
            case c5 => simp; omega
            intro c' w3 hc3 hg3 _ hat3
            have hl3 := (hl.alloc (.cells #[.int .i64 1] 3)).kept hg3 hsep.ne
            have hsep3 := hsep.left hat3 (fun b hb => (hl.lt b hb).2) (by simp)
            have hb3 : Below w.heap.size w w3 := (Hb.out.alloc hz _).grown hg3 (by simp; omega) (fun j hj => (hc.lt j hj).1)
            have hB3 := H.out.below hb3 hbp
            have hz3 := hb3.size
            have y := hB3.cell 5
            simp [VS.cells] at y
            have Hb3 := hide hb3
            have Hsep3 := hide hsep3
            have Hc3 := hide hc3
            clear hg3 hat3 hc hb3 hB3 hsep3 hl x0 x1 x2 d0 d1 d2 hsep hc3
            go_wp2_with (at_builtin; refine wpList_append_own_at _ rfl _ _ 22 rfl w.heap.size 3 i0 (.int .i64 0) 1 8 Try.underlying22 hi hz0 hz1 hz2 rfl (by decide) _ _ _ rfl (hl3.alloc _) ⟨w3.heap.size, 0, none⟩ 1 1 [.int .i64 (S.x 1)] rfl rfl ?c1 ?c2 ?c3 ?c4 ?c5 ?_)
            case c1 => exact new_cells _ _ rfl _ _
            case c2 => intro u hu; simp at hu; subst hu; rfl
            case c3 => unfold maxLen; omega
            case c4 => omega
            case c5 => simp; omega
            intro l' w4 hl4 hg4 _ hat4
            have hc4 := (Hc3.out.alloc (.cells #[.int .i64 (S.x 1)] 3)).kept hg4 Hsep3.out.ne'
            have hsep4 := Hsep3.out.right hat4 (fun b hb => (Hc3.out.lt b hb).2) (by simp)
            have hb4 : Below w.heap.size w w4 := (Hb3.out.alloc hz3 _).grown hg4 (by simp; omega) (fun j hj => (hl3.lt j hj).1)
            have Hc4 := hide hc4
            have Hl4 := hide hl4
            have Hsep4 := hide hsep4
            have Hb4 := hide hb4
            clear hc4 hl4 hsep4 hb4 hg4 hat4 hl3
            go_wp2_with fail
            go_roundw
            case rel => exact ⟨1 + 1, by omega, by go_num, by rw [HE.out]; simpa using Hc4.out, by rw [HE.out]; simpa using Hl4.out, Hsep4.out, Hb4.out⟩
            case measure => simp [intOf]
          · have HE := hide E.out
            go_wp2_with (first
              | (go_at_call 31; refine Hfr.out.mono ?_; rintro e w' ⟨rfl, rfl⟩)
              | (at_builtin; refine wpList_append_own_at _ rfl _ _ 22 rfl w.heap.size 3 i0 (.int .i64 0) 1 8 Try.underlying22 hi hz0 hz1 hz2 rfl (by decide) _ _ _ rfl (hc.alloc _) ⟨wr.heap.size, 0, none⟩ 1 1 [.int .i64 2] rfl rfl ?c1 ?c2 ?c3 ?c4 ?c5 ?_))
            case c1 => exact new_cells _ _ rfl _ _
            case c2 => intro u hu; simp at hu; subst hu; rfl
            case c3 => unfold maxLen; omega
            case c4 => omega
            case c5 => simp; omega
            intro c' w3 hc3 hg3 _ hat3
            have hl3 := (hl.alloc (.cells #[.int .i64 2] 3)).kept hg3 hsep.ne
            have hsep3 := hsep.left hat3 (fun b hb => (hl.lt b hb).2) (by simp)
            have hb3 : Below w.heap.size w w3 := (Hb.out.alloc hz _).grown hg3 (by simp; omega) (fun j hj => (hc.lt j hj).1)
            have hB3 := H.out.below hb3 hbp
            have hz3 := hb3.size
            have y := hB3.cell 10
            simp [VS.cells] at y
            have Hb3 := hide hb3
            have Hsep3 := hide hsep3
            have Hc3 := hide hc3
            clear hg3 hat3 hc hb3 hB3 hsep3 hl x0 x1 x2 d0 d1 d2 hsep hc3
            go_wp2_with (at_builtin; refine wpList_append_own_at _ rfl _ _ 22 rfl w.heap.size 3 i0 (.int .i64 0) 1 8 Try.underlying22 hi hz0 hz1 hz2 rfl (by decide) _ _ _ rfl (hl3.alloc _) ⟨w3.heap.size, 0, none⟩ 1 1 [.int .i64 (S.x 2)] rfl rfl ?c1 ?c2 ?c3 ?c4 ?c5 ?_)
            case c1 => exact new_cells _ _ rfl _ _
            case c2 => intro u hu; simp at hu; subst hu; rfl
            case c3 => unfold maxLen; omega
            case c4 => omega
            case c5 => simp; omega
            intro l' w4 hl4 hg4 _ hat4
            have hc4 := (Hc3.out.alloc (.cells #[.int .i64 (S.x 2)] 3)).kept hg4 Hsep3.out.ne'
            have hsep4 := Hsep3.out.right hat4 (fun b hb => (Hc3.out.lt b hb).2) (by simp)
            have hb4 : Below w.heap.size w w4 := (Hb3.out.alloc hz3 _).grown hg4 (by simp; omega) (fun j hj => (hl3.lt j hj).1)
            have Hc4 := hide hc4
            have Hl4 := hide hl4
            have Hsep4 := hide hsep4
            have Hb4 := hide hb4
            clear hc4 hl4 hsep4 hb4 hg4 hat4 hl3
            go_wp2_with fail
            go_roundw
            case rel => exact ⟨2 + 1, by omega, by go_num, by rw [HE.out]; simpa using Hc4.out, by rw [HE.out]; simpa using Hl4.out, Hsep4.out, Hb4.out⟩
            case measure => simp [intOf]
        · have E := hide (cnt_miss2 (now := now) hbk)
          have HC := hide hc
          have HL := hide hl
          have HSep := hide hsep
          clear hf hfr hc hl hsep hb hB hok
          obtain rfl | rfl | rfl : k = 0 ∨ k = 1 ∨ k = 2 := by omega
          all_goals
            go_wp2_with (go_at_call 31; refine Hfr.out.mono ?_; rintro e w' ⟨rfl, rfl⟩)
            go_roundw
            case rel => first
              | exact ⟨0 + 1, by omega, by go_num, by rw [E.out]; exact HC.out, by rw [E.out]; exact HL.out, HSep.out, Hb.out⟩
              | exact ⟨1 + 1, by omega, by go_num, by rw [E.out]; exact HC.out, by rw [E.out]; exact HL.out, HSep.out, Hb.out⟩
              | exact ⟨2 + 1, by omega, by go_num, by rw [E.out]; exact HC.out, by rw [E.out]; exact HL.out, HSep.out, Hb.out⟩
            case measure => simp [intOf]
    · obtain rfl : k = 3 := by omega
      have Hb := hide hb
      have HB := hide hB
      have hlen := cnt_len S now 3
      have hclt := cnt_lt S now 3
      have hX : voteX S now = if (cnt S now 3).length = 0 then S.last else midL ((cnt S now 3).map S.x) := rfl
      have hV : voteS S now = if (cnt S now 3).length = 0 then S else if 1 < (cnt S now 3).length then strikeS (vote1 S now) (cnt S now 3) else vote1 S now := rfl
      have hv1 : vote1 S now = { S with last := midL ((cnt S now 3).map S.x) } := rfl
      have hok1 := vote1_ok hok now
      have l4 := hB.cell 18
      simp [VS.cells] at l4
      obtain ⟨C, hC⟩ : ∃ C, cnt S now 3 = C := ⟨_, rfl⟩
      have HCC := hide hC
      rw [hC] at hc hl hlen hclt hX hV hv1 hok1
      obtain ⟨A, cap, rfl, hcs⟩ := rowN hc
      have hl' : wr.ownsRow w.heap.size 3 1 u7 (C.map S.x).length ((C.map S.x).map (Value.int .i64)) := by simpa [Function.comp_def] using hl
      obtain ⟨A2, cap2, rfl, hls⟩ := row_cells hl'
      have Hcs := hide hcs
      have Hls := hide hls
      have Hc := hide hc
      have Hl := hide hl'
      rw [List.length_map]
      by_cases h0 : C.length = 0
      · rw [if_pos h0] at hX hV
        have HX := hide hX
        have HV := hide hV
        have q0 : ((C.length : Int) == 0) = true := by rw [h0]; rfl
        have H0 := hide h0
        clear hX hV hv1 hok1 hc hl hl' hls hcs hb hB hC h0 hsep
        go_wp2
        go_ret2
        refine ⟨?_, ?_, ?_⟩
        · rw [HX.out, HCC.out]; simp [H0.out]
        · rw [HV.out]; exact HB.out
        · exact ⟨Hb.out.os, Hb.out.tape, Hb.out.output, Hb.out.size, fun i hi _ => Hb.out.block i hi⟩
      · rw [if_neg h0] at hX hV
        have q0 : ((C.length : Int) == 0) = false := by rw [beq_eq_false_iff_ne]; omega
        obtain ⟨b, rfl, hb1, hb2, hfst⟩ := hls 0 (by rw [List.length_map]; omega)
        clear hfst
        have hI : Ints wr.heap.size wr (.slice (some ⟨b, 0, none⟩) C.length cap2) (C.map S.x) := .inr ⟨b, 0, cap2, by rw [List.length_map], hb2, fun j hj => by
          obtain ⟨b', e, _, _, hcell⟩ := Hls.out j hj
          injection e with e
          injection e with e
          subst e
          rw [Nat.zero_add, hcell, List.getElem?_eq_getElem hj]
          rfl⟩
        have Hmid := hide (mid_any hI (by rw [List.length_map]; omega))
        have hok2 := hok1 h0
        have HX := hide hX
        have HV := hide hV
        have Hok2 := hide hok2
        have Hv1 := hide hv1
        have Hhs := hide hcs
        have Hclt := hide hclt
        have hz := hb.size
        obtain ⟨M, hM⟩ : ∃ M, midL (C.map S.x) = M := ⟨_, rfl⟩
        rw [hM] at Hmid HX Hv1
        clear hX hV hv1 hok1 hok2 hok hc hl hl' hls hcs hb hB hC hsep hI hM hclt
        have HB6 : ∀ (w5 : World), Blk w5 bp 68 S.cells → Blk (w5.setCell ⟨bp, 18, none⟩ (.int .i64 M)) bp 68 (vote1 S now).cells := fun w5 h5 => by rw [Hv1.out]; exact Blk.set h5 _ _
        have HHB6 := hide HB6
        clear HB6
        by_cases h1 : 1 < C.length
        · rw [if_pos h1] at HV
          have q1 : decide ((1 : Int) < C.length) = true := by simp; omega
          clear h1 h0
          go_wp2_with (go_at_call 11; refine Hmid.out.mono ?_; rintro e w5 ⟨rfl, hb5⟩; have hB5 := HB.out.below hb5 HB.out.lt; have c18 := hB5.cell 18; simp [VS.cells] at c18; have hf5 := hB5.frozen)
          have hb6 := Hb.out.trans (hb5.mono hz)
          have hz5 := hb5.size
          have hcs6 : ∀ j (hj : j < C.length), ∃ b, A = some ⟨b, 0, none⟩ ∧ b < (w5.setCell ⟨bp, 18, none⟩ (.int .i64 M)).heap.size ∧ b ≠ bp ∧ (w5.setCell ⟨bp, 18, none⟩ (.int .i64 M)).cell? ⟨b, j, none⟩ = some (.int .i64 (C[j] : Int)) := fun j hj => by
            obtain ⟨b', e, q1, q2, hcell⟩ := Hcs.out j hj
            refine ⟨b', e, by simp; omega, by omega, ?_⟩
            rw [World.cell?_of_block (Below.heap_setCell w5 _ _ b' (by show b' ≠ bp; omega))]
            exact (hb5.cell (p := ⟨b', j, none⟩) q2).trans hcell
          refine (strike_any (HHB6.out _ hB5) Hok2.out hB8.out C Hclt.out hlen A cap hcs6).mono ?_
          rintro e w7 ⟨rfl, hB7, hg7⟩
          have y := hB7.cell 18
          simp only [VS.cells] at y
          rw [strike_last] at y
          have y2 : w7.cell? ⟨bp, 18, none⟩ = some (.int .i64 M) := by
            rw [Hv1.out] at y
            simpa using y
          have HB7 := hide hB7
          have hg8 : w.grownBy w7 (some bp) := grown_trans (grown_trans ⟨hb6.os, hb6.tape, hb6.output, hb6.size, fun i hi _ => hb6.block i hi⟩ (grown_set w5 bp 18 (.int .i64 M))) hg7
          have Hg8 := hide hg8
          clear y hB7 hg7 hg8 hcs6 hB5 c18 hf5 hb5 hb6 l4
          go_wp2
          go_ret2
          refine ⟨?_, ?_, ?_⟩
          · rw [HX.out, HCC.out]; rfl
          · rw [HV.out]; exact HB7.out
          · exact Hg8.out
        · rw [if_neg h1] at HV
          have q1 : decide ((1 : Int) < C.length) = false := by simp; omega
          clear h1 h0
          go_wp2_with (go_at_call 11; refine Hmid.out.mono ?_; rintro e w5 ⟨rfl, hb5⟩; have hB5 := HB.out.below hb5 HB.out.lt; have c18 := hB5.cell 18; simp [VS.cells] at c18; have hf5 := hB5.frozen)
          have hb6 := Hb.out.trans (hb5.mono hz)
          go_ret2
          refine ⟨?_, ?_, ?_⟩
          · rw [HX.out, HCC.out]; rfl
          · rw [HV.out]; exact HHB6.out _ hB5
          · exact grown_trans ⟨hb6.os, hb6.tape, hb6.output, hb6.size, fun i hi _ => hb6.block i hi⟩ (grown_set w5 bp 18 (.int .i64 M))

end Go.Proofs.Ytciooimbhabccaa
