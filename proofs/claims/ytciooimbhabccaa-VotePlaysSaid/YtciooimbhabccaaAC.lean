/- Opening slices of pairs. -/
import Derived.Test.YtciooimbhabccaaO
import Derived.Test.YtciooimbhabccaaAB
namespace Go.Proofs.Ytciooimbhabccaa
open Go.ChangeShapes Go.WideShapes Go.ChangeAt Go.RowKit

section
variable {H : Type} {enc : TypeId × Value → H} {W : World}
/-- a slice that came in: where its elements lie -/
theorem slice_elems {t e : TypeId} {c fuel : Nat} {a : Option Addr} {len cap : Nat} {x : DataW H × List MemPlace} (ht : Try.prog.underlying t = some (.slice e)) (hc : Try.prog.cellsOf e = c) (hc0 : 0 < c)
    (hf : DataW.trod enc Try.prog W 0 (fun _ => true) true fuel t [.slice a len cap] = some x) :
    len ≤ cap ∧ cap ≤ maxLen ∧ (0 < len → ∃ b off, a = some ⟨b, off, none⟩ ∧ b < W.heap.size ∧ ∀ i, i < len → ∃ cs n y, cs.length = c ∧ (∀ j, j < c → W.cell? ⟨b, off + i * c + j, none⟩ = cs[j]?) ∧ DataW.trod enc Try.prog W 0 (fun _ => true) true n e cs = some y) := by
  rcases DataW.trod_slice ht hf with ⟨hcs, _⟩ | ⟨ad, l, k, elems, rest, n, _, hcs, _, _, hl, hm, hlen, hel, _, _⟩
  · simp at hcs
    obtain ⟨rfl, rfl, rfl⟩ := hcs
    exact ⟨Nat.le_refl _, Nat.zero_le _, fun h => by omega⟩
  · simp at hcs
    obtain ⟨rfl, rfl, rfl⟩ := hcs
    refine ⟨hl, hm, fun h0 => ?_⟩
    rw [hc] at hel
    have each : ∀ i, i < len → ∃ cs y, W.cells? 0 (ad.add (i * c)) c = some cs ∧ DataW.trod enc Try.prog W 0 (fun _ => true) true n e cs = some y := fun i hi => by
      have h := hel i hi
      rw [List.getElem?_eq_getElem (by omega), Option.bind_eq_some_iff] at h
      obtain ⟨cs, h1, h2⟩ := h
      exact ⟨cs, _, h1, h2⟩
    have hsp : ad.spot = none ∧ ad.block < W.heap.size := by
      obtain ⟨cs, y, h1, _⟩ := each 0 h0
      have h2 := (World.cells?_some h1).2.2 0 hc0
      rw [Nat.zero_mul] at h2
      have hl' : cs.length = c := (World.cells?_some h1).2.1
      rw [List.getElem?_eq_getElem (by omega)] at h2
      have e0 : (ad.add 0).add 0 = ad := by simp [Addr.add]
      rw [e0] at h2
      exact ⟨World.cell?_spot h2, World.block_lt_of_cell? W _ h2⟩
    obtain ⟨b, off, sp⟩ := ad
    obtain ⟨rfl, hb⟩ : sp = none ∧ b < W.heap.size := hsp
    refine ⟨b, off, rfl, hb, fun i hi => ?_⟩
    obtain ⟨cs, y, h1, h2⟩ := each i hi
    refine ⟨cs, n, y, (World.cells?_some h1).2.1, fun j hj => ?_, h2⟩
    have h3 := (World.cells?_some h1).2.2 j hj
    have e0 : ((⟨b, off, none⟩ : Addr).add (i * c)).add j = ⟨b, off + i * c + j, none⟩ := by
      rw [Addr.add_add]
      unfold Addr.add
      split
      · rename_i h
        rw [show off + i * c + j = off by omega]
      · rw [Nat.add_assoc]
    rw [e0] at h3
    exact h3
theorem trod_pair {fuel : Nat} {cs : List Value} {x : DataW H × List MemPlace} (h : DataW.trod enc Try.prog W 0 (fun _ => true) true fuel 38 cs = some x) : ∃ n m : Int, cs = [.int .i64 n, .int .i64 m] ∧ (Lit.int .i64 n).wf = true ∧ (Lit.int .i64 m).wf = true := by
  cases fuel with
  | zero => simp [DataW.trod] at h
  | succ f =>
    rw [DataW.trod_step] at h
    unfold DataW.trodStep at h
    rw [Try.underlying38] at h
    simp only at h
    have hc2 : Try.prog.cellsOf 38 = 2 := by kernel_rfl
    have hc1 : Try.prog.cellsOf 3 = 1 := by kernel_rfl
    rw [hc2, hc1] at h
    split at h
    · rename_i hl
      obtain ⟨a, b, rfl⟩ : ∃ a b, cs = [a, b] := by
        match cs, hl with
        | [a, b], _ => exact ⟨a, b, rfl⟩
      simp only [List.range_succ, List.range_zero, List.nil_append, List.cons_append, List.mapM_cons, List.mapM_nil, Nat.zero_mul, Nat.one_mul, List.drop_zero, List.drop_succ_cons, List.take_succ_cons, List.take_zero] at h
      cases h1 : DataW.trod enc Try.prog W 0 (fun _ => true) true f 3 [a] with
      | none => rw [h1] at h; simp at h
      | some y1 =>
        cases h2 : DataW.trod enc Try.prog W 0 (fun _ => true) true f 3 [b] with
        | none => rw [h1, h2] at h; simp at h
        | some y2 =>
          obtain ⟨n, e1, _, w1⟩ := DataW.trod_int Try.underlying3 h1
          obtain ⟨m, e2, _, w2⟩ := DataW.trod_int Try.underlying3 h2
          injection e1 with e1
          injection e2 with e2
          subst e1 e2
          exact ⟨n, m, rfl, w1, w2⟩
    · cases h
theorem pairs_of {fuel : Nat} {a : Option Addr} {len cap : Nat} {x : DataW H × List MemPlace} (hf : DataW.trod enc Try.prog W 0 (fun _ => true) true fuel 37 [.slice a len cap] = some x) :
    len ≤ cap ∧ cap ≤ maxLen ∧ ∃ g0 g1 : Nat → Int, IsPairs W a len g0 g1 ∧ (∀ j, -9223372036854775808 ≤ g0 j ∧ g0 j ≤ 9223372036854775807) ∧ (∀ j, -9223372036854775808 ≤ g1 j ∧ g1 j ≤ 9223372036854775807) := by
  obtain ⟨h1, h2, h3⟩ := slice_elems (c := 2) Try.underlying37 (by kernel_rfl) (by omega) hf
  refine ⟨h1, h2, ?_⟩
  rcases Nat.eq_zero_or_pos len with h0 | h0
  · exact ⟨fun _ => 0, fun _ => 0, fun h => by omega, fun _ => by simp, fun _ => by simp⟩
  · obtain ⟨b, off, rfl, hb, hel⟩ := h3 h0
    have hex : ∀ j, ∃ p : Int × Int, (j < len → W.cell? ⟨b, off + j * 2, none⟩ = some (.int .i64 p.1) ∧ W.cell? ⟨b, off + j * 2 + 1, none⟩ = some (.int .i64 p.2)) ∧ (-9223372036854775808 ≤ p.1 ∧ p.1 ≤ 9223372036854775807) ∧ (-9223372036854775808 ≤ p.2 ∧ p.2 ≤ 9223372036854775807) := fun j => by
      by_cases hj : j < len
      · obtain ⟨cs, n, y, _, hc, ht⟩ := hel j hj
        obtain ⟨p, q, rfl, w1, w2⟩ := trod_pair ht
        exact ⟨(p, q), fun _ => ⟨hc 0 (by omega), hc 1 (by omega)⟩, wf_bd w1, wf_bd w2⟩
      · exact ⟨(0, 0), fun h => absurd h hj, by simp, by simp⟩
    refine ⟨fun j => (Classical.choose (hex j)).1, fun j => (Classical.choose (hex j)).2, fun _ => ⟨b, off, rfl, hb, fun j hj => (Classical.choose_spec (hex j)).1 hj⟩, fun j => (Classical.choose_spec (hex j)).2.1, fun j => (Classical.choose_spec (hex j)).2.2⟩
end

end Go.Proofs.Ytciooimbhabccaa
