/- Plain side of VoteHealthy. -/
import Derived.Test.YtciooimbhabccaaM
namespace Go.Proofs.Ytciooimbhabccaa
open Go.RowKit

/-- what channel k says: the ill one b, the others g0 and g1 -/
def hx (ill : Nat) (b g0 g1 : Int) (k : Nat) : Int := if k = ill then b else if k = 0 ∨ (k = 1 ∧ ill = 0) then g0 else g1
structure Hl (ill : Nat) (tol q : Int) (t : Nat) (S : VS) : Prop where
  tol : S.tol = tol
  stale : S.stale = 0
  strikes : S.strikes = q
  tick : ∀ k, k < 3 → S.t k = (t : Int) - 1
  good : ∀ k, k < 3 → k ≠ ill → S.b k = false
  ok : S.ok (1000 + 3 * t)
def hp (S : VS) (X : Nat → Int) (t : Int) (j : Nat) : VS := { S with x := fun k => if k < j then X k else S.x k, t := fun k => if k < j then t else S.t k }
theorem hp_zero (S : VS) (X : Nat → Int) (t : Int) : hp S X t 0 = S := by simp [hp]
theorem hp_put {S : VS} {X : Nat → Int} {t : Int} {j : Nat} (hj : j < 3) (ht : 0 ≤ t) (h : S.t j < t) : putE (hp S X t j) j t = 0 ∧ putS (hp S X t j) j (X j) t = hp S X t (j + 1) := by
  have e : putE (hp S X t j) j t = 0 := by
    unfold putE
    have h1 : (hp S X t j).t ((j : Int).toNat) = S.t j := by simp [hp]
    rw [if_neg (by omega), h1, if_neg (by omega)]
  refine ⟨e, ?_⟩
  unfold putS
  rw [if_pos e, Int.toNat_natCast]
  have e1 := upd_lt2 X S.x j
  have e2 := upd_lt2 (fun _ => t) S.t j
  unfold hp
  rw [e1, e2]
theorem hp_ok {B : Int} {S : VS} (h : S.ok B) (X : Nat → Int) (t : Int) (j : Nat) (hX : ∀ k, -9223372036854775808 ≤ X k ∧ X k ≤ 9223372036854775807) (ht : -1 ≤ t ∧ t ≤ 9223372036854775807) : (hp S X t j).ok B :=
  { h with
    x0 := fun k => by show _ ≤ (if k < j then X k else S.x k); split; exact (hX k).1; exact h.x0 k
    x1 := fun k => by show (if k < j then X k else S.x k) ≤ _; split; exact (hX k).2; exact h.x1 k
    t0 := fun k => by show _ ≤ (if k < j then t else S.t k); split; exact ht.1; exact h.t0 k
    t1 := fun k => by show (if k < j then t else S.t k) ≤ _; split; exact ht.2; exact h.t1 k }
theorem hp_cnt {ill : Nat} (hi : ill < 3) {tol q : Int} {t : Nat} {S : VS} (h : Hl ill tol q t S) (X : Nat → Int) : cnt (hp S X t 3) t 3 = if S.b ill = true then rest ill else [0, 1, 2] := by
  have hf : ∀ k, k < 3 → freshB (hp S X t 3) k t = true := fun k hk => by
    have e : (hp S X t 3).t k = t := by show (if k < 3 then (t : Int) else S.t k) = t; rw [if_pos hk]
    have e2 : (hp S X t 3).stale = 0 := h.stale
    unfold freshB
    rw [e, e2]
    simp
  have hb : ∀ k, (hp S X t 3).b k = S.b k := fun _ => rfl
  have g := h.good
  unfold cnt
  simp only [List.range_succ, List.range_zero, List.nil_append, List.cons_append, List.filter_cons, List.filter_nil, hf 0 (by omega), hf 1 (by omega), hf 2 (by omega), hb, Bool.true_and]
  obtain rfl | rfl | rfl : ill = 0 ∨ ill = 1 ∨ ill = 2 := by omega
  · rw [g 1 (by omega) (by omega), g 2 (by omega) (by omega)]; cases S.b 0 <;> simp [rest]
  · rw [g 0 (by omega) (by omega), g 2 (by omega) (by omega)]; cases S.b 1 <;> simp [rest]
  · rw [g 0 (by omega) (by omega), g 1 (by omega) (by omega)]; cases S.b 2 <;> simp [rest]

theorem mid3 (a b c : Int) : midL [a, b, c] ≤ max a b ∧ min a b ≤ midL [a, b, c] ∧ midL [a, b, c] ≤ max a c ∧ min a c ≤ midL [a, b, c] ∧ midL [a, b, c] ≤ max b c ∧ min b c ≤ midL [a, b, c] := by
  unfold midL isort isort isort isort
  simp only [ins, List.length_cons, List.length_nil]
  repeat' split
  all_goals simp
  all_goals (try simp only [ins])
  all_goals (repeat' split)
  all_goals simp
  all_goals omega
theorem mid2 (a b : Int) : midL [a, b] = min a b := by
  unfold midL isort isort isort
  simp only [ins, List.length_cons, List.length_nil]
  split <;> simp <;> omega

theorem stp_keeps (l : List Nat) : ∀ p : VS × List Nat, (l.foldl stp p).1.x = p.1.x ∧ (l.foldl stp p).1.t = p.1.t ∧ (l.foldl stp p).1.b = p.1.b ∧ (l.foldl stp p).1.tol = p.1.tol ∧ (l.foldl stp p).1.stale = p.1.stale ∧ (l.foldl stp p).1.strikes = p.1.strikes ∧ (l.foldl stp p).1.last = p.1.last := by
  induction l with
  | nil => intro p; exact ⟨rfl, rfl, rfl, rfl, rfl, rfl, rfl⟩
  | cons k l ih =>
    intro p
    rw [List.foldl_cons]
    obtain ⟨a, b, c, d, e, f, g⟩ := ih (stp p k)
    have : (stp p k).1.x = p.1.x ∧ (stp p k).1.t = p.1.t ∧ (stp p k).1.b = p.1.b ∧ (stp p k).1.tol = p.1.tol ∧ (stp p k).1.stale = p.1.stale ∧ (stp p k).1.strikes = p.1.strikes ∧ (stp p k).1.last = p.1.last := by
      unfold stp; split <;> exact ⟨rfl, rfl, rfl, rfl, rfl, rfl, rfl⟩
    obtain ⟨a', b', c', d', e', f', g'⟩ := this
    exact ⟨a.trans a', b.trans b', c.trans c', d.trans d', e.trans e', f.trans f', g.trans g'⟩
theorem fin_keeps (m : Nat) (l : List Nat) : ∀ P : VS, (l.foldl (fin1 m) P).t = P.t ∧ (l.foldl (fin1 m) P).tol = P.tol ∧ (l.foldl (fin1 m) P).stale = P.stale ∧ (l.foldl (fin1 m) P).strikes = P.strikes := by
  induction l with
  | nil => intro P; exact ⟨rfl, rfl, rfl, rfl⟩
  | cons k l ih =>
    intro P
    rw [List.foldl_cons]
    obtain ⟨a, b, c, d⟩ := ih (fin1 m P k)
    have : (fin1 m P k).t = P.t ∧ (fin1 m P k).tol = P.tol ∧ (fin1 m P k).stale = P.stale ∧ (fin1 m P k).strikes = P.strikes := by unfold fin1; split <;> exact ⟨rfl, rfl, rfl, rfl⟩
    exact ⟨a.trans this.1, b.trans this.2.1, c.trans this.2.2.1, d.trans this.2.2.2⟩
theorem fin_b (m : Nat) (k : Nat) (l : List Nat) : ∀ P : VS, k ∉ l → (l.foldl (fin1 m) P).b k = P.b k := by
  induction l with
  | nil => intro P _; rfl
  | cons i l ih =>
    intro P hk
    rw [List.foldl_cons, ih _ (fun h => hk (List.mem_cons_of_mem _ h))]
    have : k ≠ i := fun e => hk (e ▸ List.mem_cons_self)
    unfold fin1
    split
    · simp [upd, this]
    · rfl
theorem stp_out (ill : Nat) (l : List Nat) : ∀ p : VS × List Nat, (∀ k ∈ l, k ≠ ill → farB (p.1.x k) p.1.last p.1.tol = false) → ∀ k ∈ (l.foldl stp p).2, k ∈ p.2 ∨ k = ill := by
  induction l with
  | nil => intro p _ k hk; exact .inl hk
  | cons i l ih =>
    intro p h k hk
    rw [List.foldl_cons] at hk
    obtain ⟨a, _, _, d, _, _, g⟩ := stp_keeps [i] p
    simp only [List.foldl_cons, List.foldl_nil] at a d g
    rcases ih (stp p i) (fun j hj hn => by rw [a, d, g]; exact h j (List.mem_cons_of_mem _ hj) hn) k hk with h1 | h1
    · by_cases hi : i = ill
      · unfold stp at h1
        split at h1
        · simp only at h1
          split at h1
          · rcases List.mem_append.1 h1 with h2 | h2
            · exact .inl h2
            · exact .inr ((List.mem_singleton.1 h2).trans hi)
          · exact .inl h1
        · exact .inl h1
      · have hf := h i List.mem_cons_self hi
        unfold stp at h1
        rw [if_neg (by simp [hf])] at h1
        exact .inl h1
    · exact .inr h1
theorem strike_b {S : VS} {l : List Nat} {ill : Nat} (h : ∀ k ∈ l, k ≠ ill → farB (S.x k) S.last S.tol = false) (k : Nat) (hk : k ≠ ill) : (strikeS S l).b k = S.b k := by
  have hn : k ∉ (l.foldl stp (S, [])).2 := fun hm => by
    rcases stp_out ill l (S, []) h k hm with h1 | h1
    · cases h1
    · exact hk h1
  unfold strikeS
  rw [fin_b _ k _ _ hn, (stp_keeps l (S, [])).2.2.1]
theorem strike_keeps (S : VS) (l : List Nat) : (strikeS S l).t = S.t ∧ (strikeS S l).tol = S.tol ∧ (strikeS S l).stale = S.stale ∧ (strikeS S l).strikes = S.strikes := by
  obtain ⟨_, b, _, d, e, f, _⟩ := stp_keeps l (S, [])
  obtain ⟨a', b', c', d'⟩ := fin_keeps (l.foldl stp (S, [])).2.length (l.foldl stp (S, [])).2 (l.foldl stp (S, [])).1
  exact ⟨a'.trans b, b'.trans d, c'.trans e, d'.trans f⟩

theorem hl_len {ill : Nat} (hi : ill < 3) {tol q : Int} {t : Nat} {S : VS} (h : Hl ill tol q t S) (X : Nat → Int) : (cnt (hp S X t 3) t 3).length = if S.b ill = true then 2 else 3 := by
  rw [hp_cnt hi h]
  split
  · obtain rfl | rfl | rfl : ill = 0 ∨ ill = 1 ∨ ill = 2 := by omega
    all_goals rfl
  · rfl
/-- the middle one of what counts lies between the two good ones -/
theorem hl_mid {ill : Nat} (hi : ill < 3) {tol q : Int} {t : Nat} {S : VS} (h : Hl ill tol q t S) (b g0 g1 : Int) :
    min g0 g1 ≤ midL ((cnt (hp S (hx ill b g0 g1) t 3) t 3).map (hp S (hx ill b g0 g1) t 3).x) ∧ midL ((cnt (hp S (hx ill b g0 g1) t 3) t 3).map (hp S (hx ill b g0 g1) t 3).x) ≤ max g0 g1 := by
  rw [hp_cnt hi h]
  have e : ∀ k, k < 3 → (hp S (hx ill b g0 g1) t 3).x k = hx ill b g0 g1 k := fun k hk => by
    show (if k < 3 then hx ill b g0 g1 k else S.x k) = _; rw [if_pos hk]
  have m3 := mid3
  obtain rfl | rfl | rfl : ill = 0 ∨ ill = 1 ∨ ill = 2 := by omega
  all_goals
    split
    · simp only [rest, Nat.reduceEqDiff, if_true, if_false, List.map_cons, List.map_nil, e 0 (by omega), e 1 (by omega), e 2 (by omega)]
      simp only [hx, mid2]
      simp
      omega
    · simp only [List.map_cons, List.map_nil, e 0 (by omega), e 1 (by omega), e 2 (by omega)]
      first
        | exact ⟨(m3 b g0 g1).2.2.2.2.2, (m3 b g0 g1).2.2.2.2.1⟩
        | exact ⟨(m3 g0 b g1).2.2.2.1, (m3 g0 b g1).2.2.1⟩
        | exact ⟨(m3 g0 g1 b).2.1, (m3 g0 g1 b).1⟩

theorem hl_next {ill : Nat} (hi : ill < 3) {tol q : Int} {t : Nat} {S : VS} (h : Hl ill tol q t S) (b g0 g1 : Int) (hok : (hp S (hx ill b g0 g1) t 3).ok (1000 + 3 * t)) (hn : max g0 g1 - min g0 g1 ≤ tol) :
    Hl ill tol q (t + 1) (voteS (hp S (hx ill b g0 g1) t 3) t) := by
  have hl := hl_len hi h (hx ill b g0 g1)
  have hm := hl_mid hi h b g0 g1
  have hv : voteS (hp S (hx ill b g0 g1) t 3) t = strikeS (vote1 (hp S (hx ill b g0 g1) t 3) t) (cnt (hp S (hx ill b g0 g1) t 3) t 3) := by
    unfold voteS
    rw [if_neg (by rw [hl]; split <;> omega), if_pos (by rw [hl]; split <;> omega)]
  have hvo := vote_ok hok t
  obtain ⟨k1, k2, k3, k4⟩ := strike_keeps (vote1 (hp S (hx ill b g0 g1) t 3) t) (cnt (hp S (hx ill b g0 g1) t 3) t 3)
  rw [hv] at hvo ⊢
  refine ⟨k2.trans h.tol, k3.trans h.stale, k4.trans h.strikes, fun k hk => ?_, fun k hk hne => ?_, ?_⟩
  · rw [k1]
    show (if k < 3 then (t : Int) else S.t k) = _
    rw [if_pos hk]; omega
  · rw [strike_b (ill := ill) (fun j hj hne => ?_) k hne]
    · exact h.good k hk hne
    · have hj3 := cnt_lt _ _ 3 j hj
      have ex : (vote1 (hp S (hx ill b g0 g1) t 3) t).x j = hx ill b g0 g1 j := by
        show (if j < 3 then hx ill b g0 g1 j else S.x j) = _; rw [if_pos hj3]
      have et : (vote1 (hp S (hx ill b g0 g1) t 3) t).tol = tol := h.tol
      have el : (vote1 (hp S (hx ill b g0 g1) t 3) t).last = midL ((cnt (hp S (hx ill b g0 g1) t 3) t 3).map (hp S (hx ill b g0 g1) t 3).x) := rfl
      rw [ex, et, el]
      generalize midL ((cnt (hp S (hx ill b g0 g1) t 3) t 3).map (hp S (hx ill b g0 g1) t 3).x) = M at hm
      unfold farB hx
      rw [if_neg hne]
      rw [decide_eq_false_iff_not]
      split <;> omega
  · have : (1000 + 3 * (t : Int) + 3) = 1000 + 3 * ((t + 1 : Nat) : Int) := by omega
    rw [this] at hvo
    exact hvo
theorem hl_bads {ill : Nat} (hi : ill < 3) {tol q : Int} {t : Nat} {S : VS} (h : Hl ill tol q t S) : ((List.range 3).filter fun k => S.b k).length = if S.b ill = true then 1 else 0 := by
  have g := h.good
  simp only [List.range_succ, List.range_zero, List.nil_append, List.cons_append, List.filter_cons, List.filter_nil]
  obtain rfl | rfl | rfl : ill = 0 ∨ ill = 1 ∨ ill = 2 := by omega
  · rw [g 1 (by omega) (by omega), g 2 (by omega) (by omega)]; cases S.b 0 <;> simp
  · rw [g 0 (by omega) (by omega), g 2 (by omega) (by omega)]; cases S.b 1 <;> simp
  · rw [g 0 (by omega) (by omega), g 1 (by omega) (by omega)]; cases S.b 2 <;> simp
theorem hl_new (ill : Nat) (tol q : Int) (h : newB tol 0 q = true) (ht : tol ≤ 9223372036854775807) : Hl ill tol q 0 (newS tol 0 q) :=
  ⟨rfl, rfl, rfl, fun _ _ => rfl, fun _ _ _ => rfl, by simpa using new_ok h ht⟩

end Go.Proofs.Ytciooimbhabccaa
