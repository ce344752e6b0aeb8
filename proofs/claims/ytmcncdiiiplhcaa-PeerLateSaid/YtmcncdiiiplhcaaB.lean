/- The contracts of package peer's functions. -/
import Derived.Test.YtmcncdiiiplhcaaA
import Derived.StillTailTactics
import Derived.Handy
namespace Go.Proofs.Ytmcncdiiiplhcaa
open Go.RowKit Go.Maps

theorem wf_of {x : Int} (h : -9223372036854775808 ≤ x ∧ x ≤ 9223372036854775807) : (Lit.int .i64 x).wf = true := WalkArith.wf_i64 h
theorem wf_bd {x : Int} (h : (Lit.int .i64 x).wf = true) : -9223372036854775808 ≤ x ∧ x ≤ 9223372036854775807 := by
  simp [Lit.wf, IntKind.min, IntKind.max, IntKind.signed, IntKind.bits] at h
  exact ⟨by omega, by omega⟩

def ageV (own n : Int) (g : Known) (id now : Int) : Int := if othB own n id = true then (match g id with | some p => if now < p.2 then 0 else now - p.2 | none => 0) else 0
def ageE (own n : Int) (g : Known) (id now : Int) : Int := if othB own n id = true then (match g id with | some p => if now < p.2 then 1 else 0 | none => 1) else 3

set_option maxRecDepth 100000 in
set_option maxHeartbeats 400000 in
theorem age_any {w : World} {bp bm N : Nat} {own n stale : Int} {g : Known} (h : Peers w bp bm N own n stale g) (id now : Int) (hi : (Lit.int .i64 id).wf = true) (hn : (Lit.int .i64 now).wf = true) :
    Calls Try.prog 13 #[.pointer (some ⟨bp, 0, none⟩), .int .i64 id, .int .i64 now] w fun e w' => e = .returned (.tuple #[.int .i64 (ageV own n g id now), .int .i64 (ageE own n g id now)]) ∧ w.alloc (.cells #[.int .i64 (hOf g id), .int .i64 (tOf g id)] 56) = w' := by
  have c3 := h.blk.cell 3
  simp at c3
  have hlk := h.map.look hi
  have hb := wf_bd hn
  have Ho := hide (other_any (h.alloc (.cells #[.int .i64 (hOf g id), .int .i64 (tOf g id)] 56)) id)
  have Hn := hide (none_any h)
  have hk := h.keys id
  clear h hi hn
  by_cases h1 : othB own n id = true
  · cases hg : g id with
    | none =>
      have e1 : ageV own n g id now = 0 := by simp [ageV, h1, hg]
      have e2 : ageE own n g id now = 1 := by simp [ageE, h1, hg]
      rw [e1, e2]
      rw [hg] at hlk
      rw [h1] at Ho
      clear h1 hg e1 e2 hk
      go_enter Try.func13, Try.ntmps13
      go_wp2_with (first
        | (go_at_call 17; refine Hn.out.mono ?_; rintro e w' ⟨rfl, rfl⟩)
        | (go_at_call 21; refine Ho.out.mono ?_; rintro e w' ⟨rfl, rfl⟩))
      go_ret2
      exact ⟨rfl, rfl⟩
    | some p =>
      obtain ⟨pa, pt⟩ := p
      have ht : tOf g id = pt := by simp [tOf, hg]
      obtain ⟨_, _, _, _, _, k1, k2⟩ := hk _ hg
      simp only at k1 k2
      rw [ht] at hlk Ho ⊢
      rw [hg] at hlk
      rw [h1] at Ho
      by_cases hlt : now < pt
      · have e1 : ageV own n g id now = 0 := by simp [ageV, h1, hg, hlt]
        have e2 : ageE own n g id now = 1 := by simp [ageE, h1, hg, hlt]
        rw [e1, e2]
        clear h1 hg e1 e2 hk ht
        go_enter Try.func13, Try.ntmps13
        go_wp2_with (first
          | (go_at_call 17; refine Hn.out.mono ?_; rintro e w' ⟨rfl, rfl⟩)
          | (go_at_call 21; refine Ho.out.mono ?_; rintro e w' ⟨rfl, rfl⟩))
        go_ret2
        exact ⟨rfl, rfl⟩
      · have e1 : ageV own n g id now = now - pt := by simp [ageV, h1, hg, hlt]
        have e2 : ageE own n g id now = 0 := by simp [ageE, h1, hg, hlt]
        rw [e1, e2]
        clear h1 hg e1 e2 hk ht
        go_enter Try.func13, Try.ntmps13
        go_wp2_with (first
          | (go_at_call 17; refine Hn.out.mono ?_; rintro e w' ⟨rfl, rfl⟩)
          | (go_at_call 21; refine Ho.out.mono ?_; rintro e w' ⟨rfl, rfl⟩))
        go_ret2
        exact ⟨rfl, rfl⟩
  · have e1 : ageV own n g id now = 0 := by simp [ageV, h1]
    have e2 : ageE own n g id now = 3 := by simp [ageE, h1]
    rw [e1, e2]
    have h1' : othB own n id = false := by simpa using h1
    rw [h1'] at Ho
    clear h1 h1' e1 e2 hk
    go_enter Try.func13, Try.ntmps13
    go_wp2_with (first
      | (go_at_call 17; refine Hn.out.mono ?_; rintro e w' ⟨rfl, rfl⟩)
      | (go_at_call 21; refine Ho.out.mono ?_; rintro e w' ⟨rfl, rfl⟩))
    go_ret2
    exact ⟨rfl, rfl⟩

/-- New, where it is refused -/
def newOk (own n stale : Int) : Bool := decide (1 ≤ n) && decide (n ≤ 8) && decide (0 ≤ own) && decide (own < n) && decide (0 ≤ stale) && decide (stale ≤ 1000)

set_option maxHeartbeats 400000 in
theorem new_no (own n stale : Int) (w : World) (h : newOk own n stale = false) :
    Calls Try.prog 8 #[.int .i64 own, .int .i64 n, .int .i64 stale] w fun e w' => e = .returned (.tuple #[.pointer none, .int .i64 1]) ∧ w = w' := by
  have hc : n < 1 ∨ (1 ≤ n ∧ 8 < n) ∨ (1 ≤ n ∧ n ≤ 8 ∧ own < 0) ∨ (1 ≤ n ∧ n ≤ 8 ∧ 0 ≤ own ∧ n ≤ own) ∨ (1 ≤ n ∧ n ≤ 8 ∧ 0 ≤ own ∧ own < n ∧ stale < 0) ∨ (1 ≤ n ∧ n ≤ 8 ∧ 0 ≤ own ∧ own < n ∧ 0 ≤ stale ∧ 1000 < stale) := by
    by_cases a1 : 1 ≤ n <;> by_cases a2 : n ≤ 8 <;> by_cases a3 : 0 ≤ own <;> by_cases a4 : own < n <;> by_cases a5 : 0 ≤ stale <;> by_cases a6 : stale ≤ 1000 <;> first | omega | (exfalso; simp [newOk, a1, a2, a3, a4, a5, a6] at h)
  clear h
  rcases hc with a | ⟨a, b⟩ | ⟨a, b, c⟩ | ⟨a, b, c, d⟩ | ⟨a, b, c, d, e⟩ | ⟨a, b, c, d, e, f⟩
  all_goals
    go_enter Try.func8, Try.ntmps8
    go_wp2
    go_ret2
    exact ⟨rfl, rfl⟩

theorem isHeard_made (w : World) : IsHeard (w.alloc (.map #[] 0)) w.heap.size 0 (fun _ => none) := by
  refine ⟨_, World.ownsMap_made w Try.prog 3 heardElem, ?_, ?_⟩
  · intro k; rfl
  · intro k p hp; cases hp

set_option maxHeartbeats 400000 in
theorem new_yes (own n stale : Int) (w : World) (h : newOk own n stale = true) :
    Calls Try.prog 8 #[.int .i64 own, .int .i64 n, .int .i64 stale] w fun e w' => e = .returned (.tuple #[.pointer (some ⟨w.heap.size + 1, 0, none⟩), .int .i64 0]) ∧
      Peers w' (w.heap.size + 1) w.heap.size 0 own n stale (fun _ => none) ∧ Below w.heap.size w w' ∧ w.heap.size + 2 ≤ w'.heap.size := by
  obtain ⟨a, b, c, d, e, f⟩ : 1 ≤ n ∧ n ≤ 8 ∧ 0 ≤ own ∧ own < n ∧ 0 ≤ stale ∧ stale ≤ 1000 := by simpa [newOk, and_assoc] using h
  clear h
  have hmm := @run_makeMap Try.prog
  go_enter Try.func8, Try.ntmps8
  go_wp2
  go_ret2
  refine ⟨rfl, ⟨?_, (isHeard_made w).alloc _, a, b, c, d, e, f, fun k p hp => by cases hp⟩, ((Below.refl _ _).alloc (Nat.le_refl _) _).alloc (by simp) _, by simp⟩
  have := Blk.new (w.alloc (.map #[] 0)) 45 #[.int .i64 own, .int .i64 n, .int .i64 stale, .map (some w.heap.size)]
  simpa using this

end Go.Proofs.Ytmcncdiiiplhcaa
