/- The reference's voter: its state, and what it comes to. -/
import Derived.Test.YtciooimbhabccaaAA
namespace Go.Proofs.Ytciooimbhabccaa
open Go.RowKit

def VS.rcells (S : VS) : Array Value := #[.int .i64 S.tol, .int .i64 S.stale, .int .i64 S.strikes, .int .i64 (S.x 0), .int .i64 (S.x 1), .int .i64 (S.x 2), .int .i64 (S.t 0), .int .i64 (S.t 1), .int .i64 (S.t 2), .int .i64 (S.s 0), .int .i64 (S.s 1), .int .i64 (S.s 2), .bool (S.b 0), .bool (S.b 1), .bool (S.b 2), .int .i64 S.last]

section
variable (S : VS) (k : Nat) (hk : k < 3)
include hk
theorem rc_x : S.rcells[3 + k]? = some (.int .i64 (S.x k)) := by
  obtain rfl | rfl | rfl : k = 0 ∨ k = 1 ∨ k = 2 := by omega
  all_goals rfl
theorem rc_t : S.rcells[6 + k]? = some (.int .i64 (S.t k)) := by
  obtain rfl | rfl | rfl : k = 0 ∨ k = 1 ∨ k = 2 := by omega
  all_goals rfl
theorem rc_s : S.rcells[9 + k]? = some (.int .i64 (S.s k)) := by
  obtain rfl | rfl | rfl : k = 0 ∨ k = 1 ∨ k = 2 := by omega
  all_goals rfl
theorem rc_b : S.rcells[12 + k]? = some (.bool (S.b k)) := by
  obtain rfl | rfl | rfl : k = 0 ∨ k = 1 ∨ k = 2 := by omega
  all_goals rfl
theorem rs_x (v : Int) : S.rcells.setIfInBounds (3 + k) (.int .i64 v) = VS.rcells { S with x := upd S.x k v } := by
  obtain rfl | rfl | rfl : k = 0 ∨ k = 1 ∨ k = 2 := by omega
  all_goals rfl
theorem rs_t (v : Int) : S.rcells.setIfInBounds (6 + k) (.int .i64 v) = VS.rcells { S with t := upd S.t k v } := by
  obtain rfl | rfl | rfl : k = 0 ∨ k = 1 ∨ k = 2 := by omega
  all_goals rfl
theorem rs_s (v : Int) : S.rcells.setIfInBounds (9 + k) (.int .i64 v) = VS.rcells { S with s := upd S.s k v } := by
  obtain rfl | rfl | rfl : k = 0 ∨ k = 1 ∨ k = 2 := by omega
  all_goals rfl
theorem rs_b (v : Bool) : S.rcells.setIfInBounds (12 + k) (.bool v) = VS.rcells { S with b := upd S.b k v } := by
  obtain rfl | rfl | rfl : k = 0 ∨ k = 1 ∨ k = 2 := by omega
  all_goals rfl
end

/-- a channel that is not bad has not struck out -/
def Calm (S : VS) : Prop := ∀ k, k < 3 → S.b k = false → S.s k < S.strikes

/-- the last loop of the reference's Vote -/
def rfin1 (m : Nat) (P : VS) (i : Nat) : VS := if P.b i = true ∨ P.s i < P.strikes then P else if 2 ≤ m then { P with s := upd P.s i (P.strikes - 1) } else { P with b := upd P.b i true }
def rfin (m : Nat) (P : VS) (j : Nat) : VS := (List.range j).foldl (rfin1 m) P
theorem rfin_succ (m : Nat) (P : VS) (j : Nat) : rfin m P (j + 1) = rfin1 m (rfin m P j) j := by
  unfold rfin; rw [List.range_succ, List.foldl_append]; rfl

/-- what the fold of stp leaves -/
theorem stp_mem (l : List Nat) (hnd : l.Nodup) : ∀ (p : VS × List Nat) (k : Nat), (k ∉ l → (l.foldl stp p).1.s k = p.1.s k) ∧ (k ∈ l → (k ∈ (l.foldl stp p).2 ↔ k ∈ p.2 ∨ p.1.strikes ≤ (l.foldl stp p).1.s k ∧ farB (p.1.x k) p.1.last p.1.tol = true)) ∧ (k ∉ l → (k ∈ (l.foldl stp p).2 ↔ k ∈ p.2)) ∧ (k ∈ l → farB (p.1.x k) p.1.last p.1.tol = false → (l.foldl stp p).1.s k = 0) := by
  induction l with
  | nil => intro p k; simp
  | cons i l ih =>
    intro p k
    obtain ⟨hi, hnd'⟩ := List.nodup_cons.1 hnd
    rw [List.foldl_cons]
    obtain ⟨kx, _, _, kt, _, ks, kl⟩ := stp_keeps [i] p
    simp only [List.foldl_cons, List.foldl_nil] at kx kt ks kl
    obtain ⟨a, b, c, d⟩ := ih hnd' (stp p i) k
    rw [kx, kt, ks, kl] at b
    rw [kx, kt, kl] at d
    have hs : ∀ j, j ≠ i → (stp p i).1.s j = p.1.s j := fun j hj => by
      unfold stp; split <;> simp [upd, hj]
    have hm : ∀ j, j ≠ i → (j ∈ (stp p i).2 ↔ j ∈ p.2) := fun j hj => by
      unfold stp; split
      · simp only; split
        · simp [hj]
        · exact Iff.rfl
      · exact Iff.rfl
    by_cases hki : k = i
    · subst hki
      refine ⟨fun h => absurd List.mem_cons_self h, fun _ => ?_, fun h => absurd List.mem_cons_self h, fun _ hf => ?_⟩
      · rw [c hi, a hi]
        unfold stp
        by_cases hf : farB (p.1.x k) p.1.last p.1.tol = true
        · rw [if_pos hf]
          simp only [upd, if_true]
          split
          · rename_i hq
            simp [hf, hq]
          · rename_i hq
            simp [hf, hq]
        · rw [if_neg hf]; simp [hf]
      · rw [a hi]; unfold stp; rw [if_neg (by simp [hf])]; simp [upd]
    · refine ⟨fun h => ?_, fun h => ?_, fun h => ?_, fun h hf => ?_⟩
      · rw [a (fun h' => h (List.mem_cons_of_mem _ h')), hs k hki]
      · rw [b ((List.mem_cons.1 h).resolve_left hki), hm k hki]
      · rw [c (fun h' => h (List.mem_cons_of_mem _ h')), hm k hki]
      · exact d ((List.mem_cons.1 h).resolve_left hki) hf

theorem cnt_nodup (S : VS) (now : Int) (k : Nat) : (cnt S now k).Nodup := List.Pairwise.filter _ List.nodup_range
theorem mem_cnt {S : VS} {now : Int} {k i : Nat} : i ∈ cnt S now k ↔ i < k ∧ freshB S i now = true ∧ S.b i = false := by
  unfold cnt
  simp [List.mem_filter]

/-- out as the reference sees it -/
theorem out_iff {S : VS} (hc : Calm S) (hs : 1 ≤ S.strikes) (now : Int) (i : Nat) (hi : i < 3) :
    i ∈ ((cnt S now 3).foldl stp (vote1 S now, [])).2 ↔ ((cnt S now 3).foldl stp (vote1 S now, [])).1.b i = false ∧ S.strikes ≤ ((cnt S now 3).foldl stp (vote1 S now, [])).1.s i := by
  obtain ⟨a, b, c, d⟩ := stp_mem (cnt S now 3) (cnt_nodup S now 3) (vote1 S now, []) i
  have hb : ((cnt S now 3).foldl stp (vote1 S now, [])).1.b = S.b := (stp_keeps _ _).2.2.1
  rw [hb]
  by_cases hm : i ∈ cnt S now 3
  · have hbi := (mem_cnt.1 hm).2.2
    rw [b hm]
    simp only [List.not_mem_nil, false_or, hbi, true_and]
    constructor
    · exact fun h => h.1
    · intro h
      refine ⟨h, ?_⟩
      cases hf : farB ((vote1 S now, ([] : List Nat)).1.x i) (vote1 S now, ([] : List Nat)).1.last (vote1 S now, ([] : List Nat)).1.tol
      · rw [d hm hf] at h; omega
      · rfl
  · rw [c hm]
    simp only [List.not_mem_nil, false_iff, not_and]
    intro hbi
    rw [a hm]
    have := hc i hi hbi
    show ¬ S.strikes ≤ S.s i
    omega
theorem out_sorted (l : List Nat) : ∀ p : VS × List Nat, ∃ t, (l.foldl stp p).2 = p.2 ++ t ∧ List.Sublist t l := by
  induction l with
  | nil => intro p; exact ⟨[], by simp, List.Sublist.refl _⟩
  | cons i l ih =>
    intro p
    rw [List.foldl_cons]
    obtain ⟨t, h1, h2⟩ := ih (stp p i)
    by_cases h : (stp p i).2 = p.2
    · exact ⟨t, by rw [h1, h], h2.cons _⟩
    · refine ⟨i :: t, ?_, h2.cons_cons _⟩
      have : (stp p i).2 = p.2 ++ [i] := by
        unfold stp at h ⊢
        split
        · rename_i hf
          rw [if_pos hf] at h
          simp only at h ⊢
          split
          · rfl
          · rename_i hq; rw [if_neg hq] at h; exact absurd rfl h
        · rename_i hf
          rw [if_neg hf] at h
          exact absurd rfl h
      rw [h1, this]; simp
theorem out_filter {S : VS} (now : Int) : ((cnt S now 3).foldl stp (vote1 S now, [])).2 = (List.range 3).filter fun i => decide (i ∈ ((cnt S now 3).foldl stp (vote1 S now, [])).2) := by
  obtain ⟨t, h1, h2⟩ := out_sorted (cnt S now 3) (vote1 S now, [])
  rw [List.nil_append] at h1
  rw [h1]
  have h3 : List.Sublist t (List.range 3) := h2.trans List.filter_sublist
  have hr : List.range 3 = [0, 1, 2] := rfl
  rw [hr] at h3 ⊢
  have hn : t.Nodup := h3.nodup (by simp)
  -- a sublist of [0, 1, 2] is its filter
  have : ∀ (L t : List Nat), L.Nodup → List.Sublist t L → L.filter (fun i => decide (i ∈ t)) = t := by
    intro L
    induction L with
    | nil => intro t _ h; rw [List.sublist_nil.1 h]; rfl
    | cons a L ih =>
      intro t hL h
      obtain ⟨ha, hL'⟩ := List.nodup_cons.1 hL
      cases h with
      | cons _ h =>
        rw [List.filter_cons, if_neg (by simpa using fun h' => ha (h.subset h'))]
        exact ih t hL' h
      | @cons_cons t' _ _ h =>
        rw [List.filter_cons, if_pos (by simp)]
        congr 1
        rw [← ih t' hL' h]
        refine List.filter_congr fun i hi => ?_
        have hia : i ≠ a := fun e => ha (e ▸ hi)
        have e := ih t' hL' h
        rw [e]
        simp [hia]
  exact (this [0, 1, 2] t (by simp) h3).symm

/-- the last loop of the reference does what the program's does -/
theorem rfin_eq {S : VS} (hc : Calm S) (hs : 1 ≤ S.strikes) (now : Int) : rfin ((cnt S now 3).foldl stp (vote1 S now, [])).2.length ((cnt S now 3).foldl stp (vote1 S now, [])).1 3 = strikeS (vote1 S now) (cnt S now 3) := by
  have ho := out_iff hc hs now
  have hf := out_filter (S := S) now
  have hst : ((cnt S now 3).foldl stp (vote1 S now, [])).1.strikes = S.strikes := (stp_keeps _ _).2.2.2.2.2.1
  unfold strikeS
  generalize (cnt S now 3).foldl stp (vote1 S now, []) = p at *
  obtain ⟨P, out⟩ := p
  simp only at *
  -- step by step
  have key : ∀ j, j ≤ 3 → rfin out.length P j = ((List.range j).filter fun i => decide (i ∈ out)).foldl (fin1 out.length) P ∧ (∀ k, j ≤ k → (rfin out.length P j).b k = P.b k ∧ (rfin out.length P j).s k = P.s k) ∧ (rfin out.length P j).strikes = P.strikes := by
    intro j
    induction j with
    | zero => intro _; exact ⟨rfl, fun _ _ => ⟨rfl, rfl⟩, rfl⟩
    | succ j ih =>
      intro hj
      obtain ⟨e, hk, hq⟩ := ih (by omega)
      have hbs := hk j (Nat.le_refl _)
      rw [rfin_succ, List.range_succ, List.filter_append, List.foldl_append, ← e]
      have hiff := ho j (by omega)
      by_cases hm : j ∈ out
      · obtain ⟨h1, h2⟩ := hiff.1 hm
        have hn : ¬ ((rfin out.length P j).b j = true ∨ (rfin out.length P j).s j < (rfin out.length P j).strikes) := by
          rw [hbs.1, hbs.2, hq, h1, hst]; simp; omega
        have e1 : rfin1 out.length (rfin out.length P j) j = fin1 out.length (rfin out.length P j) j := by
          unfold rfin1 fin1
          rw [if_neg hn]
          have hl : 1 ≤ out.length := List.length_pos_of_mem hm
          by_cases h2 : 2 ≤ out.length
          · rw [if_pos h2, if_neg (by omega)]
          · rw [if_neg h2, if_pos (by omega)]
        refine ⟨by rw [e1]; simp [hm], fun k hjk => ?_, ?_⟩
        · have := hk k (by omega)
          have hne : k ≠ j := by omega
          rw [e1]; unfold fin1
          split <;> simp [upd, hne, this]
        · rw [e1]; unfold fin1; split <;> exact hq
      · have hy : (rfin out.length P j).b j = true ∨ (rfin out.length P j).s j < (rfin out.length P j).strikes := by
          rw [hbs.1, hbs.2, hq, hst]
          cases hb : P.b j
          · right
            have := mt hiff.2 hm
            rw [hb] at this
            simp at this
            omega
          · left; rfl
        have e1 : rfin1 out.length (rfin out.length P j) j = rfin out.length P j := by unfold rfin1; rw [if_pos hy]
        refine ⟨by rw [e1]; simp [hm], fun k hjk => ?_, ?_⟩
        · rw [e1]; exact hk k (by omega)
        · rw [e1]; exact hq
  rw [(key 3 (Nat.le_refl _)).1, ← hf]

end Go.Proofs.Ytciooimbhabccaa
