/- Plain facts for PeerRefuses and PeerLate. -/
import Derived.Test.YtmcncdiiiplhcaaH
import Derived.Laws.BitsAllLaws
import Derived.Laws.BitsLemmas
namespace Go.Proofs.Ytmcncdiiiplhcaa
open Go.RowKit Go.Maps

theorem and_low (x : Int) : bits .and .i64 x 4294967295 = x % 4294967296 := by
  show IntKind.i64.wrap ((BitVec.ofInt 64 x &&& BitVec.ofInt 64 4294967295).toNat : Int) = _
  have e1 : (BitVec.ofInt 64 4294967295).toNat = 2 ^ 32 - 1 := by decide
  have e2 : (BitVec.ofInt 64 x).toNat = (x % 18446744073709551616).toNat := by simp [BitVec.toNat_ofInt]
  rw [BitVec.toNat_and, e1, Nat.and_two_pow_sub_one_eq_mod, e2, IntKind.wrap_i64]
  omega

theorem low_zero (x : Int) : (bits .and .i64 x 4294967295 == 0) = (x.tmod 4294967296 == 0) := by
  rw [and_low x]
  have e : x.tmod 4294967296 = 0 ↔ x % 4294967296 = 0 := by
    rw [← Int.dvd_iff_tmod_eq_zero, ← Int.dvd_iff_emod_eq_zero]
  by_cases h : x % 4294967296 = 0
  · rw [h, e.2 h]
  · have h' : ¬ x.tmod 4294967296 = 0 := fun h3 => h (e.1 h3)
    rw [beq_eq_false_iff_ne.2 h, beq_eq_false_iff_ne.2 h']

theorem one_list {l : List Int} {k : Int} (hs : l.Pairwise (fun a b => a < b)) (hm : ∀ x, x ∈ l ↔ x = k) : l = [k] := by
  cases l with
  | nil => exact absurd ((hm k).2 rfl) (by simp)
  | cons a r =>
    have ha : a = k := (hm a).1 (by simp)
    cases r with
    | nil => rw [ha]
    | cons b r =>
      have hb : b = k := (hm b).1 (by simp)
      have := (List.pairwise_cons.1 hs).1 b (by simp)
      omega

theorem ids_none (n : Int) : idsOf n (fun _ => none) = [] := by
  simp [idsOf]
theorem ids_put {w : World} {bp bm N : Nat} {own n stale : Int} {k h t : Int} (hP : Peers w bp bm N own n stale (putK (fun _ => none) k h t)) : idsOf n (putK (fun _ => none) k h t) = [k] :=
  one_list (idsOf_sorted _ _) (fun x => by
    rw [idsOf_mem hP x]
    unfold putK
    by_cases e : x = k <;> simp [e])

theorem heard_none (n stale now : Int) (h1 : 1 ≤ n) : heardB 0 n stale (fun _ => none) now = (n == 1) := by
  by_cases e : n = 1
  · subst e; rfl
  · have e2 : (n == 1) = false := by simp [e]
    rw [e2]
    obtain ⟨m, rfl⟩ := Int.eq_ofNat_of_zero_le (show 0 ≤ n by omega)
    refine heardB_no (k := 1) (by omega) ?_
    have hq : othB 0 m 1 = true := by simp [othB]; omega
    simp [lately, hq, ageE]

theorem age_put {own n k h t now : Int} (ho : othB own n k = true) : ageE own n (putK (fun _ => none) k h t) k now = (if now < t then 1 else 0) ∧ ageV own n (putK (fun _ => none) k h t) k now = (if now < t then 0 else now - t) := by
  simp [ageE, ageV, ho, putK]

end Go.Proofs.Ytmcncdiiiplhcaa
