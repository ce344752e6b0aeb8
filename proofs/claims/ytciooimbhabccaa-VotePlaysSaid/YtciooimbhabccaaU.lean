/- The reference's great whole numbers: six digits to the base 2^32 and a sign: plain side. -/
import Derived.Test.YtciooimbhabccaaB
namespace Go.Proofs.Ytciooimbhabccaa
open Go.RowKit

structure BG where
  m : Bool
  d : Nat → Int

def BG.cells (A : BG) : Array Value := #[.bool A.m, .int .i64 (A.d 0), .int .i64 (A.d 1), .int .i64 (A.d 2), .int .i64 (A.d 3), .int .i64 (A.d 4), .int .i64 (A.d 5)]
def dval (d : Nat → Int) : Int := d 0 + d 1 * 4294967296 + d 2 * 18446744073709551616 + d 3 * 79228162514264337593543950336 + d 4 * 340282366920938463463374607431768211456 + d 5 * 1461501637330902918203684832716283019655932542976
def BG.val (A : BG) : Int := if A.m = true then - dval A.d else dval A.d
def dig (d : Nat → Int) : Prop := ∀ k, 0 ≤ d k ∧ d k < 4294967296
def zeroD (d : Nat → Int) : Bool := decide (d 0 = 0) && (decide (d 1 = 0) && (decide (d 2 = 0) && (decide (d 3 = 0) && (decide (d 4 = 0) && decide (d 5 = 0)))))
structure BG.ok (A : BG) : Prop where
  dg : dig A.d
  nz : A.m = true → zeroD A.d = false

def cy (a b : Nat → Int) : Nat → Int
  | 0 => 0
  | k + 1 => (a k + b k + cy a b k) / 4294967296
def pd (a b : Nat → Int) (k : Nat) : Int := (a k + b k + cy a b k) % 4294967296
def bw (a b : Nat → Int) : Nat → Int
  | 0 => 0
  | k + 1 => if a k - b k - bw a b k < 0 then 1 else 0
def ld (a b : Nat → Int) (k : Nat) : Int := if a k - b k - bw a b k < 0 then a k - b k - bw a b k + 4294967296 else a k - b k - bw a b k
def sz (a b : Nat → Int) : Nat → Int
  | 0 => 0
  | k + 1 => if a k < b k then -1 else if b k < a k then 1 else sz a b k

theorem cy_bd {a b : Nat → Int} (ha : dig a) (hb : dig b) : ∀ k, 0 ≤ cy a b k ∧ cy a b k ≤ 1
  | 0 => ⟨by simp [cy], by simp [cy]⟩
  | k + 1 => by
    have := cy_bd ha hb k
    have := ha k
    have := hb k
    unfold cy
    omega
theorem bw_bd (a b : Nat → Int) : ∀ k, 0 ≤ bw a b k ∧ bw a b k ≤ 1
  | 0 => ⟨by simp [bw], by simp [bw]⟩
  | k + 1 => by
    unfold bw
    split <;> omega
theorem pd_dig (a b : Nat → Int) : dig (pd a b) := fun k => by unfold pd; omega
theorem ld_dig {a b : Nat → Int} (ha : dig a) (hb : dig b) : dig (ld a b) := fun k => by
  have := ha k; have := hb k; have := bw_bd a b k
  unfold ld
  split <;> omega
theorem zeroD_iff {d : Nat → Int} (h : dig d) : zeroD d = true ↔ dval d = 0 := by
  have h0 := h 0; have h1 := h 1; have h2 := h 2; have h3 := h 3; have h4 := h 4; have h5 := h 5
  unfold zeroD dval
  simp only [Bool.and_eq_true, decide_eq_true_eq]
  constructor
  · rintro ⟨a, b, c, d, e, f⟩
    rw [a, b, c, d, e, f]; rfl
  · intro e
    refine ⟨?_, ?_, ?_, ?_, ?_, ?_⟩ <;> omega
theorem dval_nn {d : Nat → Int} (h : dig d) : 0 ≤ dval d := by
  have h0 := h 0; have h1 := h 1; have h2 := h 2; have h3 := h 3; have h4 := h 4; have h5 := h 5
  unfold dval; omega
theorem pd_val {a b : Nat → Int} (ha : dig a) (hb : dig b) (h : dval a + dval b < 6277101735386680763835789423207666416102355444464034512896) : dval (pd a b) = dval a + dval b := by
  have c6 := cy_bd ha hb 6
  have p5 := pd_dig a b 5
  have e0 : pd a b 0 + 4294967296 * cy a b 1 = a 0 + b 0 := by simp only [pd, cy]; omega
  have e1 : pd a b 1 + 4294967296 * cy a b 2 = a 1 + b 1 + cy a b 1 := by simp only [pd]; rw [show cy a b 2 = (a 1 + b 1 + cy a b 1) / 4294967296 from rfl]; omega
  have e2 : pd a b 2 + 4294967296 * cy a b 3 = a 2 + b 2 + cy a b 2 := by simp only [pd]; rw [show cy a b 3 = (a 2 + b 2 + cy a b 2) / 4294967296 from rfl]; omega
  have e3 : pd a b 3 + 4294967296 * cy a b 4 = a 3 + b 3 + cy a b 3 := by simp only [pd]; rw [show cy a b 4 = (a 3 + b 3 + cy a b 3) / 4294967296 from rfl]; omega
  have e4 : pd a b 4 + 4294967296 * cy a b 5 = a 4 + b 4 + cy a b 4 := by simp only [pd]; rw [show cy a b 5 = (a 4 + b 4 + cy a b 4) / 4294967296 from rfl]; omega
  have e5 : pd a b 5 + 4294967296 * cy a b 6 = a 5 + b 5 + cy a b 5 := by simp only [pd]; rw [show cy a b 6 = (a 5 + b 5 + cy a b 5) / 4294967296 from rfl]; omega
  have hn := dval_nn (pd_dig a b)
  unfold dval at h hn ⊢
  omega
theorem ld_step (a b : Nat → Int) (k : Nat) : ld a b k = a k - b k - bw a b k + 4294967296 * bw a b (k + 1) := by
  rw [show bw a b (k + 1) = if a k - b k - bw a b k < 0 then 1 else 0 from rfl]
  unfold ld
  split <;> omega
theorem dval_lt {d : Nat → Int} (h : dig d) : dval d < 6277101735386680763835789423207666416102355444464034512896 := by
  have h0 := h 0; have h1 := h 1; have h2 := h 2; have h3 := h 3; have h4 := h 4; have h5 := h 5
  unfold dval; omega
theorem ld_val {a b : Nat → Int} (ha : dig a) (hb : dig b) (h : dval b ≤ dval a) : dval (ld a b) = dval a - dval b := by
  have c6 := bw_bd a b 6
  have e0 : ld a b 0 = a 0 - b 0 - 0 + 4294967296 * bw a b 1 := ld_step a b 0
  have e1 := ld_step a b 1
  have e2 := ld_step a b 2
  have e3 := ld_step a b 3
  have e4 := ld_step a b 4
  have e5 := ld_step a b 5
  have hn := dval_nn (ld_dig ha hb)
  have hl := dval_lt (ld_dig ha hb)
  simp only [Nat.reduceAdd] at e1 e2 e3 e4 e5
  unfold dval at h hn hl ⊢
  omega
/-- one digit decides -/
theorem sz_dec {x y p q P : Int} (hp0 : 0 ≤ p) (hp1 : p < P) (hq0 : 0 ≤ q) (h : x < y) : p + x * P < q + y * P := by
  have h1 : (x + 1) * P ≤ y * P := Int.mul_le_mul_of_nonneg_right (by omega) (by omega)
  rw [Int.add_mul, Int.one_mul] at h1
  omega
def pv (d : Nat → Int) : Nat → Int
  | 0 => 0
  | k + 1 => pv d k + d k * 4294967296 ^ k
theorem pv_bd {d : Nat → Int} (h : dig d) : ∀ k, 0 ≤ pv d k ∧ pv d k < 4294967296 ^ k
  | 0 => ⟨by simp [pv], by simp [pv]⟩
  | k + 1 => by
    obtain ⟨h0, h1⟩ := pv_bd h k
    obtain ⟨d0, d1⟩ := h k
    have hP : (0 : Int) < 4294967296 ^ k := by omega
    have m0 : 0 ≤ d k * 4294967296 ^ k := Int.mul_nonneg d0 (by omega)
    have m1 : (d k + 1) * 4294967296 ^ k ≤ 4294967296 * 4294967296 ^ k := Int.mul_le_mul_of_nonneg_right (by omega) (by omega)
    rw [Int.add_mul, Int.one_mul] at m1
    rw [Int.pow_succ, Int.mul_comm _ 4294967296]
    show 0 ≤ pv d k + d k * 4294967296 ^ k ∧ pv d k + d k * 4294967296 ^ k < _
    omega
theorem pv_val (d : Nat → Int) : pv d 6 = dval d := by
  simp only [pv, dval]
  simp only [Int.reducePow]
  omega
theorem sz_pv {a b : Nat → Int} (ha : dig a) (hb : dig b) : ∀ k, (sz a b k < 0 ↔ pv a k < pv b k)
  | 0 => by simp [sz, pv]
  | k + 1 => by
    have ih := sz_pv ha hb k
    have pa := pv_bd ha k
    have pb := pv_bd hb k
    show (if a k < b k then (-1 : Int) else if b k < a k then 1 else sz a b k) < 0 ↔ pv a k + a k * 4294967296 ^ k < pv b k + b k * 4294967296 ^ k
    by_cases h1 : a k < b k
    · rw [if_pos h1]
      have := sz_dec pa.1 pa.2 pb.1 h1
      exact ⟨fun _ => this, fun _ => by omega⟩
    · rw [if_neg h1]
      by_cases h2 : b k < a k
      · rw [if_pos h2]
        have := sz_dec pb.1 pb.2 pa.1 h2
        exact ⟨fun h => by omega, fun h => by omega⟩
      · rw [if_neg h2, ih, show a k = b k by omega]
        exact ⟨fun h => by omega, fun h => by omega⟩
theorem sz_lt {a b : Nat → Int} (ha : dig a) (hb : dig b) : (sz a b 6 < 0 ↔ dval a < dval b) := by
  rw [sz_pv ha hb 6, pv_val, pv_val]

def negB (A : BG) : BG := if zeroD A.d = true then A else ⟨!A.m, A.d⟩
def subB (A B : BG) : BG := if zeroD (ld A.d B.d) = true then ⟨false, ld A.d B.d⟩ else ⟨A.m, ld A.d B.d⟩
def addB (A B : BG) : BG := if A.m = B.m then ⟨A.m, pd A.d B.d⟩ else if sz A.d B.d 6 < 0 then subB B A else subB A B
def cmpB (A B : BG) : Int := if zeroD (addB A (negB B)).d = true then 0 else if (addB A (negB B)).m = true then -1 else 1
def ofB (v : Int) : BG := ⟨decide (v < 0), fun k => if k = 0 then (if v < 0 then -v else v) % 4294967296 else if k = 1 then (if v < 0 then -v else v) / 4294967296 else 0⟩
def farG (a b : Int) : BG := if (addB (ofB a) (negB (ofB b))).m = true then negB (addB (ofB a) (negB (ofB b))) else addB (ofB a) (negB (ofB b))

theorem zeroD_no {d : Nat → Int} (h : dig d) : zeroD d = false ↔ 0 < dval d := by
  have h1 := zeroD_iff h
  have h2 := dval_nn h
  cases hz : zeroD d
  · rw [hz] at h1; simp at h1 ⊢; omega
  · rw [hz] at h1; simp at h1 ⊢; omega
theorem negB_ok {A : BG} (h : A.ok) : (negB A).ok ∧ (negB A).val = - A.val ∧ (negB A).d = A.d := by
  unfold negB
  by_cases hz : zeroD A.d = true
  · rw [if_pos hz]
    refine ⟨h, ?_, rfl⟩
    have h0 := (zeroD_iff h.dg).1 hz
    unfold BG.val
    split <;> omega
  · rw [if_neg hz]
    have hz' : zeroD A.d = false := by simpa using hz
    refine ⟨⟨h.dg, fun _ => hz'⟩, ?_, rfl⟩
    unfold BG.val
    cases A.m <;> simp
theorem subB_ok {A B : BG} (hA : A.ok) (hB : B.ok) (hm : A.m ≠ B.m) (h : dval B.d ≤ dval A.d) : (subB A B).ok ∧ (subB A B).val = A.val + B.val := by
  have hv := ld_val hA.dg hB.dg h
  have hd := ld_dig hA.dg hB.dg
  unfold subB
  by_cases hz : zeroD (ld A.d B.d) = true
  · rw [if_pos hz]
    have h0 := (zeroD_iff hd).1 hz
    refine ⟨⟨hd, fun e => by cases e⟩, ?_⟩
    show dval (ld A.d B.d) = _
    unfold BG.val
    cases hA : A.m <;> cases hB : B.m <;> simp_all <;> omega
  · rw [if_neg hz]
    refine ⟨⟨hd, fun _ => by simpa using hz⟩, ?_⟩
    unfold BG.val
    cases hA : A.m <;> cases hB : B.m <;> simp_all <;> omega
theorem addB_ok {A B : BG} (hA : A.ok) (hB : B.ok) (h : dval A.d + dval B.d < 6277101735386680763835789423207666416102355444464034512896) : (addB A B).ok ∧ (addB A B).val = A.val + B.val := by
  unfold addB
  by_cases hm : A.m = B.m
  · rw [if_pos hm]
    have hv := pd_val hA.dg hB.dg h
    refine ⟨⟨pd_dig _ _, fun e => ?_⟩, ?_⟩
    · rw [zeroD_no (pd_dig _ _), hv]
      have h1 := (zeroD_no hA.dg).1 (hA.nz e)
      have h2 := dval_nn hB.dg
      omega
    · unfold BG.val
      rw [← hm]
      show (if A.m = true then _ else _) = _
      cases A.m <;> simp <;> omega
  · rw [if_neg hm]
    have hs := sz_lt hA.dg hB.dg
    by_cases h6 : sz A.d B.d 6 < 0
    · rw [if_pos h6]
      obtain ⟨h1, h2⟩ := subB_ok hB hA (Ne.symm hm) (by have := hs.1 h6; omega)
      exact ⟨h1, by omega⟩
    · rw [if_neg h6]
      exact subB_ok hA hB hm (by have := mt hs.2 h6; omega)
theorem ofB_ok {v : Int} (h0 : -9223372036854775808 ≤ v) (h1 : v ≤ 9223372036854775807) : (ofB v).ok ∧ (ofB v).val = v ∧ dval (ofB v).d ≤ 9223372036854775808 := by
  have hd : dig (ofB v).d := fun k => by
    show 0 ≤ (if k = 0 then _ else _) ∧ (if k = 0 then _ else _) < _
    split
    · omega
    · split
      · split <;> omega
      · omega
  have hv : dval (ofB v).d = if v < 0 then -v else v := by
    unfold dval ofB
    simp
    split <;> omega
  refine ⟨⟨hd, fun e => ?_⟩, ?_, ?_⟩
  · have e' : v < 0 := by simpa [ofB] using e
    rw [zeroD_no hd, hv, if_pos e']; omega
  · unfold BG.val
    rw [hv]
    show (if decide (v < 0) = true then _ else _) = _
    by_cases hn : v < 0 <;> simp [hn]
  · rw [hv]; split <;> omega
theorem cmpB_val {A B : BG} (hA : A.ok) (hB : B.ok) (h : dval A.d + dval B.d < 6277101735386680763835789423207666416102355444464034512896) : cmpB A B = if A.val < B.val then -1 else if B.val < A.val then 1 else 0 := by
  obtain ⟨n1, n2, n3⟩ := negB_ok hB
  obtain ⟨a1, a2⟩ := addB_ok hA n1 (by rw [n3]; exact h)
  have hz := zeroD_iff a1.dg
  have hn := dval_nn a1.dg
  have hv : (addB A (negB B)).val = if (addB A (negB B)).m = true then - dval (addB A (negB B)).d else dval (addB A (negB B)).d := rfl
  rw [n2] at a2
  rw [a2] at hv
  have hz3 := zeroD_no a1.dg
  have hz2 := a1.nz
  unfold cmpB
  generalize A.val = x at *
  generalize B.val = y at *
  cases hzz : zeroD (addB A (negB B)).d <;> cases hmm : (addB A (negB B)).m <;> rw [hmm] at hv hz2 <;> rw [hzz] at hz hz2 hz3 <;> simp at hv hz hz2 hz3 ⊢
  · rw [if_neg (by omega), if_pos (by omega)]
  · intro h; omega
  · rw [if_neg (by omega), if_neg (by omega)]
theorem farG_ok {a b : Int} (a0 : -9223372036854775808 ≤ a) (a1 : a ≤ 9223372036854775807) (b0 : -9223372036854775808 ≤ b) (b1 : b ≤ 9223372036854775807) : (farG a b).ok ∧ (farG a b).val = max a b - min a b ∧ dval (farG a b).d < 36893488147419103232 := by
  obtain ⟨o1, o2, o3⟩ := ofB_ok a0 a1
  obtain ⟨p1, p2, p3⟩ := ofB_ok b0 b1
  obtain ⟨n1, n2, n3⟩ := negB_ok p1
  obtain ⟨s1, s2⟩ := addB_ok o1 n1 (by rw [n3]; omega)
  obtain ⟨t1, t2, t3⟩ := negB_ok s1
  have hs := dval_nn s1.dg
  unfold farG
  cases hm : (addB (ofB a) (negB (ofB b))).m
  · simp only [Bool.false_eq_true, if_false]
    have : (addB (ofB a) (negB (ofB b))).val = dval (addB (ofB a) (negB (ofB b))).d := by unfold BG.val; rw [hm]; rfl
    refine ⟨s1, by omega, by omega⟩
  · simp only [if_true]
    have : (addB (ofB a) (negB (ofB b))).val = - dval (addB (ofB a) (negB (ofB b))).d := by unfold BG.val; rw [hm]; rfl
    refine ⟨t1, by omega, by rw [t3]; omega⟩
/-- the reference's test of far: the same as the program's -/
theorem far_cmp {a b t : Int} (a0 : -9223372036854775808 ≤ a) (a1 : a ≤ 9223372036854775807) (b0 : -9223372036854775808 ≤ b) (b1 : b ≤ 9223372036854775807) (t0 : 0 ≤ t) (t1 : t ≤ 9223372036854775807) :
    cmpB (farG a b) (ofB t) = if max a b - min a b < t then -1 else if t < max a b - min a b then 1 else 0 := by
  obtain ⟨f1, f2, f3⟩ := farG_ok a0 a1 b0 b1
  obtain ⟨p1, p2, p3⟩ := ofB_ok (v := t) (by omega) t1
  rw [cmpB_val f1 p1 (by omega), f2, p2]

end Go.Proofs.Ytciooimbhabccaa
