/- The contracts of Heard and of right. -/
import Derived.Test.YtmcncdiiiplhcaaB
namespace Go.Proofs.Ytmcncdiiiplhcaa
open Go.RowKit Go.Maps

theorem Peers.below {w w' : World} {bp bm N : Nat} {own n stale : Int} {g : Known} {B : Nat} (h : Peers w bp bm N own n stale g) (hb : Below B w w') (h1 : bp < B) (h2 : bm < B) : Peers w' bp bm N own n stale g := by
  obtain ⟨D, ⟨es, c, hx, r⟩, r2⟩ := h.map
  exact { h with blk := h.blk.below hb h1, map := ⟨D, ⟨es, c, (hb.block bm h2).trans hx, r⟩, r2⟩ }
theorem Peers.lt {w : World} {bp bm N : Nat} {own n stale : Int} {g : Known} (h : Peers w bp bm N own n stale g) : bp < w.heap.size ∧ bm < w.heap.size := ⟨h.blk.lt, h.map.lt⟩

/-- one other craft: was it heard lately? -/
def lately (own n stale : Int) (g : Known) (now id : Int) : Bool := !othB own n id || (ageE own n g id now == 0 && decide (ageV own n g id now ≤ stale))
def heardB (own n stale : Int) (g : Known) (now : Int) : Bool := (List.range n.toNat).all fun i => lately own n stale g now (i : Int)

theorem all_range_succ (f : Nat → Bool) (k : Nat) : (List.range (k + 1)).all f = ((List.range k).all f && f k) := by
  rw [List.range_succ, List.all_append]; simp
theorem all_range_false {f : Nat → Bool} {k n : Nat} (hk : k < n) (h : f k = false) : (List.range n).all f = false := by
  rw [← Bool.not_eq_true, List.all_eq_true]
  intro hh
  have := hh k (by simpa using hk)
  rw [h] at this; cases this

theorem heardB_no {own stale : Int} {g : Known} {now : Int} {m k : Nat} (hk : k < m) (h : lately own m stale g now k = false) : heardB own m stale g now = false := by
  unfold heardB
  rw [Int.toNat_natCast]
  exact all_range_false hk h
theorem heardB_yes {own stale : Int} {g : Known} {now : Int} {m : Nat} (h : ((List.range m).all fun i => lately own m stale g now (i : Int)) = true) : heardB own m stale g now = true := by
  unfold heardB
  rw [Int.toNat_natCast]
  exact h
theorem lately_no1 {x : Bool} {ae av stale : Int} (h : x = (!true || (ae == 0 && decide (av ≤ stale)))) (h1 : ae ≠ 0) : x = false := by
  rw [h]; simp [h1]
theorem lately_no2 {x : Bool} {ae av stale : Int} (h : x = (!true || (ae == 0 && decide (av ≤ stale)))) (h1 : ¬ av ≤ stale) : x = false := by
  rw [h]; simp [h1]

set_option maxRecDepth 100000 in
set_option maxHeartbeats 400000 in
theorem heard_any {w : World} {bp bm N : Nat} {own n stale : Int} {g : Known} (h : Peers w bp bm N own n stale g) (now : Int) (hn : (Lit.int .i64 now).wf = true) :
    Calls Try.prog 12 #[.pointer (some ⟨bp, 0, none⟩), .int .i64 now] w fun e w' => e = .returned (.bool (heardB own n stale g now)) ∧ Below w.heap.size w w' := by
  have Hn := hide (none_any h)
  have c1 := h.blk.cell 1
  simp at c1
  obtain ⟨l1, l2⟩ := h.lt
  have n1 := h.n1
  have n8 := h.n8
  obtain ⟨m, rfl⟩ := Int.eq_ofNat_of_zero_le (show 0 ≤ n by omega)
  have hP := h
  clear h
  have HP := hide hP
  clear hP
  go_enter Try.func12, Try.ntmps12
  go_wp2_with (first
    | (go_at_call 17; refine Hn.out.mono ?_; rintro e w' ⟨rfl, rfl⟩))
  go_loopw [14] (fun i wr => ∃ k : Nat, k ≤ m ∧ i = .int .i64 k ∧ Below w.heap.size w wr ∧ ((List.range k).all fun i => lately own m stale g now (i : Int)) = true) (fun i _ => m - (intOf i).toNat)
  case atStart => exact ⟨0, Nat.zero_le _, rfl, Below.refl _ _, rfl⟩
  case round =>
    obtain ⟨k, hk, rfl, hb, hall⟩ := hrel
    have Hall := hide hall
    clear hall
    by_cases hlt : k < m
    · have hPr := HP.out.below hb l1 l2
      have Ha := hide (age_any hPr (k : Int) now (wf_of (by omega)) hn)
      have hb2 := hb.alloc hb.size (.cells #[.int .i64 (hOf g k), .int .i64 (tOf g k)] 56)
      have Ho := hide (other_any (hPr.alloc (.cells #[.int .i64 (hOf g k), .int .i64 (tOf g k)] 56)) (k : Int))
      have c2 := (hPr.alloc (.cells #[.int .i64 (hOf g k), .int .i64 (tOf g k)] 56)).blk.cell 2
      simp at c2
      clear hPr
      have hl : lately own m stale g now k = (!othB own m k || (ageE own m g k now == 0 && decide (ageV own m g k now ≤ stale))) := rfl
      generalize ageV own m g k now = av at *
      generalize ageE own m g k now = ae at *
      generalize othB own m k = ob at *
      have Hl := hide hl
      clear hl
      cases ob with
      | false =>
        go_wp2_with (first
          | (go_at_call 13; refine Ha.out.mono ?_; rintro e w' ⟨rfl, rfl⟩)
          | (go_at_call 21; refine Ho.out.mono ?_; rintro e w' ⟨rfl, rfl⟩))
        go_roundw
        case rel => exact ⟨k + 1, by omega, by go_num, hb2, by rw [all_range_succ, Hall.out, Hl.out]; rfl⟩
        case measure => simp [intOf]; omega
      | true =>
        by_cases h1 : ae = 0
        · have q1 : (ae != 0) = false := by simp [h1]
          by_cases h2 : av ≤ stale
          · have H1 := hide h1
            clear h1
            go_wp2_with (first
              | (go_at_call 13; refine Ha.out.mono ?_; rintro e w' ⟨rfl, rfl⟩)
              | (go_at_call 21; refine Ho.out.mono ?_; rintro e w' ⟨rfl, rfl⟩))
            go_roundw
            case rel => exact ⟨k + 1, by omega, by go_num, hb2, by rw [all_range_succ, Hall.out, Hl.out, H1.out]; simp [h2]⟩
            case measure => simp [intOf]; omega
          · have H1 := hide h1
            clear h1
            have Hf : Hid (heardB own m stale g now = false) := hide (heardB_no hlt (lately_no2 Hl.out h2))
            go_wp2_with (first
              | (go_at_call 13; refine Ha.out.mono ?_; rintro e w' ⟨rfl, rfl⟩)
              | (go_at_call 21; refine Ho.out.mono ?_; rintro e w' ⟨rfl, rfl⟩))
            go_ret
            exact ⟨by rw [Hf.out]; rfl, hb2⟩
        · have q1 : (ae != 0) = true := by simp [h1]
          have Hf : Hid (heardB own m stale g now = false) := hide (heardB_no hlt (lately_no1 Hl.out h1))
          go_wp2_with (first
            | (go_at_call 13; refine Ha.out.mono ?_; rintro e w' ⟨rfl, rfl⟩)
            | (go_at_call 21; refine Ho.out.mono ?_; rintro e w' ⟨rfl, rfl⟩))
          go_ret
          exact ⟨by rw [Hf.out]; rfl, hb2⟩
    · obtain rfl : k = m := by omega
      have Hf : Hid (heardB own k stale g now = true) := hide (heardB_yes Hall.out)
      go_wp2
      go_ret
      exact ⟨by rw [Hf.out]; rfl, hb⟩

end Go.Proofs.Ytmcncdiiiplhcaa
