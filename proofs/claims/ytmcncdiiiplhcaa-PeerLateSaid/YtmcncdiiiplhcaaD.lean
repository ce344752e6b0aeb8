/- A frame as it is handed over; the contract of right. -/
import Derived.Test.YtmcncdiiiplhcaaC
namespace Go.Proofs.Ytmcncdiiiplhcaa
open Go.RowKit Go.Maps

structure Fr where
  kind : Int
  frm : Int
  tick : Int
  A : Option Addr
  len : Nat
  cap : Nat
  num : Int
  data : ByteArray

def Fr.vals (f : Fr) : Array Value := #[.int .i64 f.kind, .int .i64 f.frm, .int .i64 f.tick, .slice f.A f.len f.cap, .string f.data]
/-- its one number lies below block B -/
def Fr.At (f : Fr) (w : World) (B : Nat) : Prop := f.len = 1 → ∃ ad : Addr, f.A = some ad ∧ ad.block < B ∧ w.cell? ad = some (.int .i64 f.num) ∧ -9223372036854775808 ≤ f.num ∧ f.num ≤ 9223372036854775807
theorem Fr.At.below {f : Fr} {w w' : World} {B : Nat} (h : f.At w B) (hb : Below B w w') : f.At w' B := fun e => by
  obtain ⟨ad, a, b, c, d⟩ := h e
  exact ⟨ad, a, b, (hb.cell b).trans c, d⟩
theorem Fr.At.more {f : Fr} {w : World} {B B' : Nat} (h : f.At w B) (hB : B ≤ B') : f.At w B' := fun e => by
  obtain ⟨ad, a, b, c⟩ := h e
  exact ⟨ad, a, by omega, c⟩

def rightB (own n : Int) (f : Fr) : Bool := (f.kind == 1) && (othB own n f.frm && (decide (0 ≤ f.tick) && (decide (f.tick ≤ 140737488355327) && (decide (f.len = 1) && ((f.num.tmod 4294967296 == 0) && f.data.toList.isEmpty)))))

theorem rightB_true {own n : Int} {f : Fr} (h : rightB own n f = true) : f.len = 1 ∧ 0 ≤ f.frm ∧ f.frm < n ∧ f.frm ≠ own ∧ 0 ≤ f.tick ∧ f.tick ≤ 140737488355327 ∧ f.num.tmod 4294967296 = 0 := by
  simp [rightB, othB] at h
  omega

set_option maxRecDepth 100000 in
set_option maxHeartbeats 400000 in
theorem right_any {w : World} {bp bm N : Nat} {own n stale : Int} {g : Known} (h : Peers w bp bm N own n stale g) (f : Fr) (hf : f.At w w.heap.size) :
    Calls Try.prog 18 #[.pointer (some ⟨bp, 0, none⟩), .agg f.vals] w fun e w' => e = .returned (.bool (rightB own n f)) ∧ w.alloc (.cells f.vals 32) = w' := by
  have Ho := hide (other_any (h.alloc (.cells f.vals 32)) f.frm)
  clear h
  obtain ⟨kind, frm, tick, A, len, cap, num, data⟩ := f
  unfold Fr.At at hf
  unfold Fr.vals at Ho ⊢
  unfold rightB
  simp only at Ho hf ⊢
  by_cases h1 : kind = 1
  · have q1 : (kind == 1) = true := by simp [h1]
    rw [q1]
    have H1 := hide h1
    clear h1
    generalize othB own n frm = ob at *
    cases ob with
    | false =>
      simp only [Bool.true_and, Bool.false_and]
      go_enter Try.func18, Try.ntmps18
      go_wp2_with (first
        | (go_at_call 21; refine Ho.out.mono ?_; rintro e w' ⟨rfl, rfl⟩))
      go_ret
      exact ⟨rfl, rfl⟩
    | true =>
      by_cases h2 : 0 ≤ tick
      · by_cases h3 : tick ≤ 140737488355327
        · by_cases h4 : len = 1
          · obtain ⟨ad, rfl, hB, hc, hn1, hn2⟩ := hf h4
            subst h4
            have hc2 := (World.cell?_alloc_lt w (.cells #[.int .i64 kind, .int .i64 frm, .int .i64 tick, .slice (some ad) 1 cap, .string data] 32) ad hB).trans hc
            have e2 : decide (0 ≤ tick) = true := by simpa using h2
            have e3 : decide (tick ≤ 140737488355327) = true := by simpa using h3
            rw [e2, e3]
            clear e2 e3
            simp only [Bool.true_and, decide_true]
            clear hf
            cases hm : (num.tmod 4294967296 == 0) with
            | true =>
              simp only [Bool.true_and]
              go_enter Try.func18, Try.ntmps18
              go_wp2_with (first
                | (go_at_call 21; refine Ho.out.mono ?_; rintro e w' ⟨rfl, rfl⟩))
              go_ret
              exact ⟨rfl, rfl⟩
            | false =>
              simp only [Bool.false_and]
              go_enter Try.func18, Try.ntmps18
              go_wp2_with (first
                | (go_at_call 21; refine Ho.out.mono ?_; rintro e w' ⟨rfl, rfl⟩))
              go_ret
              exact ⟨rfl, rfl⟩
          · have e2 : decide (0 ≤ tick) = true := by simpa using h2
            have e3 : decide (tick ≤ 140737488355327) = true := by simpa using h3
            have e4 : decide (len = 1) = false := by simpa using h4
            rw [e2, e3, e4]
            clear e2 e3 e4
            simp only [Bool.true_and, Bool.false_and]
            have q4 : ((len : Int) == 1) = false := by simp; omega
            clear hf
            go_enter Try.func18, Try.ntmps18
            go_wp2_with (first
              | (go_at_call 21; refine Ho.out.mono ?_; rintro e w' ⟨rfl, rfl⟩))
            go_ret
            exact ⟨rfl, rfl⟩
        · have e2 : decide (0 ≤ tick) = true := by simpa using h2
          have e3 : decide (tick ≤ 140737488355327) = false := by simpa using h3
          rw [e2, e3]
          clear e2 e3
          simp only [Bool.true_and, Bool.false_and]
          clear hf
          go_enter Try.func18, Try.ntmps18
          go_wp2_with (first
            | (go_at_call 21; refine Ho.out.mono ?_; rintro e w' ⟨rfl, rfl⟩))
          go_ret
          exact ⟨rfl, rfl⟩
      · have e2 : decide (0 ≤ tick) = false := by simpa using h2
        rw [e2]
        clear e2
        simp only [Bool.true_and, Bool.false_and]
        clear hf
        go_enter Try.func18, Try.ntmps18
        go_wp2_with (first
          | (go_at_call 21; refine Ho.out.mono ?_; rintro e w' ⟨rfl, rfl⟩))
        go_ret
        exact ⟨rfl, rfl⟩
  · have q1 : (kind == 1) = false := by simp [h1]
    rw [q1]
    simp only [Bool.false_and]
    clear hf
    go_enter Try.func18, Try.ntmps18
    go_wp2_with (first
      | (go_at_call 21; refine Ho.out.mono ?_; rintro e w' ⟨rfl, rfl⟩))
    go_ret
    exact ⟨rfl, rfl⟩

end Go.Proofs.Ytmcncdiiiplhcaa
