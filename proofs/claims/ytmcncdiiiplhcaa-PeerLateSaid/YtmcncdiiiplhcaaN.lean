/- The law PeerLate. -/
import Derived.Test.YtmcncdiiiplhcaaL
import Derived.Deep.DrawnRows
import Derived.Deep.DeepCutAuto
import Derived.Deep.RegionHeld3
namespace Go.Proofs.Ytmcncdiiiplhcaa
open Go.RowKit Go.Maps

/-- what is said at a tick of PeerLate -/
def lateX (t : Int) : Int := t % 1000 * 4294967296

theorem said_any (t : Int) (w : World) (h0 : 0 ≤ t) (h1 : t ≤ 1099511627776) : Calls Try.prog 10 #[.int .i64 t] w fun e w' => e = .returned (.agg (sayF 1 t (lateX t) (some ⟨w.heap.size + 1, 0, none⟩)).vals) ∧
    (w.alloc (.cells (sayF 1 t (lateX t) (some ⟨w.heap.size + 1, 0, none⟩)).vals 32)).alloc (.cells #[.int .i64 (lateX t)] 3) = w' := by
  have hb : 0 ≤ t % 1000 ∧ t % 1000 < 1000 := by omega
  go_enter Try.func10, Try.ntmps10
  go_wp2
  refine bodyPost_ret (v := .agg (sayF 1 t (lateX t) (some ⟨w.heap.size + 1, 0, none⟩)).vals) (by simp [results, Try.results10, go_sem]; rfl) rfl ⟨rfl, rfl⟩

/-! ### the plain side -/
def lateG (m : Int) : Known := if m < 0 then fun _ => none else putK (fun _ => none) 1 (m % 1000) m
theorem putK_twice (k a b c d : Int) : putK (putK (fun _ => none) k a b) k c d = putK (fun _ => none) k c d := by
  funext j
  unfold putK
  by_cases e : j = k <;> simp [e]
theorem late_num (t : Int) : (lateX t).tdiv 4294967296 = t % 1000 ∧ (lateX t).tmod 4294967296 = 0 := by
  unfold lateX
  exact ⟨Int.mul_tdiv_cancel _ (by decide), Int.mul_tmod_left _ _⟩
theorem late_right (t : Int) (A : Option Addr) (h0 : 0 ≤ t) (h1 : t ≤ 1099511627776) : rightB 0 2 (sayF 1 t (lateX t) A) = true := by
  have e1 : decide (0 ≤ t) = true := decide_eq_true h0
  have e2 : decide (t ≤ 140737488355327) = true := decide_eq_true (by omega)
  have e3 : ((lateX t).tmod 4294967296 == 0) = true := by rw [(late_num t).2]; rfl
  show ((1 : Int) == 1 && (othB 0 2 1 && (decide (0 ≤ t) && (decide (t ≤ 140737488355327) && (decide (1 = 1) && (((lateX t).tmod 4294967296 == 0) && ByteArray.empty.toList.isEmpty)))))) = true
  rw [e1, e2, e3]
  simp [othB]
theorem late_hear (m t : Int) (A : Option Addr) (h0 : 0 ≤ t) (h1 : t ≤ 1099511627776) : hear1 0 2 (lateG m) (sayF 1 t (lateX t) A) = lateG (max m t) := by
  have hr := late_right t A h0 h1
  by_cases hm : m < 0
  · have e : lateG m = fun _ => none := by simp [lateG, hm]
    have e2 : max m t = t := by omega
    have e3 : takesB 0 2 (fun _ => none) (sayF 1 t (lateX t) A) = true := by rw [takesB, hr]; simp [newerB]
    rw [e, e2, hear1, if_pos e3]
    show putK _ 1 ((lateX t).tdiv 4294967296) t = _
    rw [(late_num t).1, lateG, if_neg (by omega)]
  · have e : lateG m = putK (fun _ => none) 1 (m % 1000) m := by simp [lateG, hm]
    by_cases hlt : m < t
    · have e2 : max m t = t := by omega
      have e3 : takesB 0 2 (lateG m) (sayF 1 t (lateX t) A) = true := by
        rw [e, takesB, hr]; simp [newerB, putK, tOf, sayF, hlt]
      rw [hear1, if_pos e3, e2, e]
      show putK (putK _ 1 _ _) 1 ((lateX t).tdiv 4294967296) t = _
      rw [(late_num t).1, putK_twice, lateG, if_neg (by omega)]
    · have e2 : max m t = m := by omega
      have e3 : takesB 0 2 (lateG m) (sayF 1 t (lateX t) A) = false := by
        rw [e, takesB, hr]; simp [newerB, putK, tOf, sayF]; omega
      rw [hear1, if_neg (by simp [e3]), e2]
theorem late_seen (m : Int) (h0 : 0 ≤ m) : seenL 0 2 (lateG m) (m + 3) (idsOf 2 (lateG m)) = [(1, m % 1000, 3)] := by
  have e : lateG m = putK (fun _ => none) 1 (m % 1000) m := by rw [lateG, if_neg (by omega)]
  have hi : idsOf 2 (putK (fun _ => none) 1 (m % 1000) m) = [1] := by
    simp [idsOf, putK, List.range_succ]
  have ha := age_put (own := 0) (n := 2) (k := 1) (h := m % 1000) (t := m) (now := m + 3) (by decide)
  rw [if_neg (by omega), if_neg (by omega)] at ha
  rw [e, hi]
  simp only [seenL, List.filter_cons, List.filter_nil, ha.1]
  simp [ha.2, hOf, putK]
  omega
theorem late_heard (m : Int) (h0 : 0 ≤ m) : heardB 0 2 1000 (lateG m) (m + 1000) = true ∧ heardB 0 2 1000 (lateG m) (m + 1001) = false := by
  have e : lateG m = putK (fun _ => none) 1 (m % 1000) m := by rw [lateG, if_neg (by omega)]
  have ha := age_put (own := 0) (n := 2) (k := 1) (h := m % 1000) (t := m) (now := m + 1000) (by decide)
  have hb := age_put (own := 0) (n := 2) (k := 1) (h := m % 1000) (t := m) (now := m + 1001) (by decide)
  have o0 : othB 0 2 0 = false := by decide
  have o1 : othB 0 2 1 = true := by decide
  rw [if_neg (by omega), if_neg (by omega)] at ha hb
  constructor
  · rw [e]
    simp [heardB, List.range_succ, lately, o0, o1, ha.1, ha.2]
    omega
  · rw [e]
    simp [heardB, List.range_succ, lately, o0, o1, hb.1, hb.2]
    omega

/-- the greatest of f 0, .., f (n - 1); -1 of none -/
def mxF (f : Nat → Int) : Nat → Int
  | 0 => -1
  | n + 1 => max (mxF f n) (f n)
theorem mxF_le (f : Nat → Int) (n : Nat) : ∀ i, i < n → f i ≤ mxF f n := by
  induction n with
  | zero => intro i hi; omega
  | succ n ih =>
    intro i hi
    simp only [mxF]
    by_cases e : i = n
    · subst e; omega
    · have := ih i (by omega); omega
theorem mxF_at (f : Nat → Int) (n : Nat) (hp : ∀ i, i < n → 0 ≤ f i) (hn : 0 < n) : ∃ i, i < n ∧ f i = mxF f n := by
  induction n with
  | zero => omega
  | succ n ih =>
    simp only [mxF]
    by_cases h0 : n = 0
    · subst h0
      have := hp 0 (by omega)
      exact ⟨0, by omega, by simp [mxF]; omega⟩
    · obtain ⟨i, hi, e⟩ := ih (fun i hi => hp i (by omega)) (by omega)
      by_cases hle : f n ≤ mxF f n
      · exact ⟨i, by omega, by omega⟩
      · exact ⟨n, by omega, by omega⟩
theorem mxF_turned (f : Nat → Int) (n k : Nat) (hp : ∀ i, i < n → 0 ≤ f i) (hn : 0 < n) : mxF (fun i => f ((i + k) % n)) n = mxF f n := by
  have hm : ∀ i, (i + k) % n < n := fun i => Nat.mod_lt _ hn
  obtain ⟨i, hi, e⟩ := mxF_at (fun i => f ((i + k) % n)) n (fun i _ => hp _ (hm i)) hn
  obtain ⟨j, hj, e2⟩ := mxF_at f n hp hn
  have h1 := mxF_le f n ((i + k) % n) (hm i)
  have h2 : ∃ i', i' < n ∧ (i' + k) % n = j := by
    refine ⟨(j + (n - k % n)) % n, Nat.mod_lt _ hn, ?_⟩
    have hk := Nat.mod_lt k hn
    rw [Nat.mod_add_mod, ← Nat.add_mod_mod]
    rw [show j + (n - k % n) + k % n = j + n by omega, Nat.add_mod_right]
    exact Nat.mod_eq_of_lt hj
  obtain ⟨i', hi', e3⟩ := h2
  have h3 := mxF_le (fun i => f ((i + k) % n)) n i' hi'
  rw [e3] at h3
  omega

end Go.Proofs.Ytmcncdiiiplhcaa
