/- VotePlays: every call, in every order: for every span, staleness, number of strikes and list of calls. No condition. -/
import Derived.Test.YtciooimbhabccaaAC
import Derived.Test.YtciooimbhabccaaAI
namespace Go.Proofs.Ytciooimbhabccaa
open Go.ChangeShapes Go.WideShapes Go.ChangeAt Go.RowKit

section
variable {H : Type} {enc : TypeId × Value → H} {W : World}
theorem trod_op {fuel : Nat} {cs : List Value} {x : DataW H × List MemPlace} (h : DataW.trod enc Try.prog W 0 (fun _ => true) true fuel 56 cs = some x) : ∃ o : OpV, o.fit W ∧ cs = o.cells.toList := by
  obtain ⟨xs, n, _, _, hl, hxl, hf⟩ := DataW.trod_struct Try.underlying56 h
  have hc5 : Try.prog.cellsOf 56 = 5 := by kernel_rfl
  have hc1 : Try.prog.cellsOf 3 = 1 := by kernel_rfl
  have hc2 : Try.prog.cellsOf 22 = 1 := by kernel_rfl
  rw [hc5] at hl
  obtain ⟨a, b, c, d, e, rfl⟩ : ∃ a b c d e, cs = [a, b, c, d, e] := by
    match cs, hl with
    | [a, b, c, d, e], _ => exact ⟨a, b, c, d, e, rfl⟩
  have f0 : DataW.trod enc Try.prog W 0 (fun _ => true) true n 3 (([a, b, c, d, e].drop 0).take (Try.prog.cellsOf 3)) = xs[0]? := hf 0 _ rfl
  have f1 : DataW.trod enc Try.prog W 0 (fun _ => true) true n 3 (([a, b, c, d, e].drop 1).take (Try.prog.cellsOf 3)) = xs[1]? := hf 1 _ rfl
  have f2 : DataW.trod enc Try.prog W 0 (fun _ => true) true n 3 (([a, b, c, d, e].drop 2).take (Try.prog.cellsOf 3)) = xs[2]? := hf 2 _ rfl
  have f3 : DataW.trod enc Try.prog W 0 (fun _ => true) true n 3 (([a, b, c, d, e].drop 3).take (Try.prog.cellsOf 3)) = xs[3]? := hf 3 _ rfl
  have f4 : DataW.trod enc Try.prog W 0 (fun _ => true) true n 22 (([a, b, c, d, e].drop 4).take (Try.prog.cellsOf 22)) = xs[4]? := hf 4 _ rfl
  have hx5 : xs.length = 5 := hxl
  rw [List.getElem?_eq_getElem (by omega)] at f0 f1 f2 f3 f4
  simp only [hc1, List.drop_zero, List.take_succ_cons, List.take_zero] at f0
  simp only [hc1, List.drop_zero, List.drop_succ_cons, List.take_succ_cons, List.take_zero] at f1
  simp only [hc1, List.drop_zero, List.drop_succ_cons, List.take_succ_cons, List.take_zero] at f2
  simp only [hc1, List.drop_zero, List.drop_succ_cons, List.take_succ_cons, List.take_zero] at f3
  simp only [hc2, List.drop_zero, List.drop_succ_cons, List.take_succ_cons, List.take_zero] at f4
  obtain ⟨n0, e0, _, w0⟩ := DataW.trod_int Try.underlying3 f0
  obtain ⟨n1, e1, _, w1⟩ := DataW.trod_int Try.underlying3 f1
  obtain ⟨n2, e2, _, w2⟩ := DataW.trod_int Try.underlying3 f2
  obtain ⟨n3, e3, _, w3⟩ := DataW.trod_int Try.underlying3 f3
  injection e0 with e0
  injection e1 with e1
  injection e2 with e2
  injection e3 with e3
  subst e0 e1 e2 e3
  obtain ⟨A, ll, lc, rfl⟩ : ∃ A ll lc, e = .slice A ll lc := by
    rcases DataW.trod_slice Try.underlying22 f4 with ⟨hcs, _⟩ | ⟨ad, l, k, _, _, _, _, hcs, _⟩
    · injection hcs with hcs; exact ⟨_, _, _, hcs⟩
    · injection hcs with hcs; exact ⟨_, _, _, hcs⟩
  obtain ⟨zs, hrow⟩ := row_of f4
  exact ⟨⟨n0, n1, n2, n3, A, ll, lc, zs⟩, ⟨wf_bd w1, wf_bd w2, wf_bd w3, hrow⟩, rfl⟩
theorem ops_of {fuel : Nat} {a : Option Addr} {len cap : Nat} {x : DataW H × List MemPlace} (hf : DataW.trod enc Try.prog W 0 (fun _ => true) true fuel 51 [.slice a len cap] = some x) :
    len ≤ cap ∧ cap ≤ maxLen ∧ ∃ os : Nat → OpV, IsOps W a len os := by
  obtain ⟨h1, h2, h3⟩ := slice_elems (c := 5) Try.underlying51 (by kernel_rfl) (by omega) hf
  refine ⟨h1, h2, ?_⟩
  rcases Nat.eq_zero_or_pos len with h0 | h0
  · exact ⟨fun _ => ⟨0, 0, 0, 0, none, 0, 0, []⟩, fun h => by omega⟩
  · obtain ⟨b, off, rfl, hb, hel⟩ := h3 h0
    have hex : ∀ j, ∃ o : OpV, j < len → o.fit W ∧ ∀ k, k < 5 → W.cell? ⟨b, off + j * 5 + k, none⟩ = o.cells[k]? := fun j => by
      by_cases hj : j < len
      · obtain ⟨cs, n, y, _, hc, ht⟩ := hel j hj
        obtain ⟨o, ho, rfl⟩ := trod_op ht
        exact ⟨o, fun _ => ⟨ho, fun k hk => by rw [hc k hk, Array.getElem?_toList]⟩⟩
      · exact ⟨⟨0, 0, 0, 0, none, 0, 0, []⟩, fun h => absurd h hj⟩
    exact ⟨fun j => Classical.choose (hex j), fun _ => ⟨b, off, rfl, hb, fun j hj => Classical.choose_spec (hex j) hj⟩⟩
end

set_option maxRecDepth 100000 in
theorem votePlays_lifted (os : Os) (started : os.Started) (H : Type) (enc : TypeId × Value → H) :
    ReturnsInHanded {} Try.checked os 7 .any (Rows.votePlaysSpec.pre6 enc Try.prog Try.f7 Rows.votePlaysRow.domain false) (Rows.votePlaysSpec.post enc Try.prog Try.f7 false true false false) := by
  refine returnsInHanded_of_change (C := Try.checked) own started (by kernel_rfl) Try.func7
    (ChangeSpec.witness6 (enc := enc) (C := Try.checked) false ⟨#[], #[.int .i64 0, .int .i64 0, .int .i64 0, .slice none 0 0], []⟩ 8 (by kernel_rfl) (by kernel_rfl) (by kernel_rfl) (by kernel_rfl)) ?_
  intro W base args ds gs before hval0 hW hcnd _
  have hval : ∀ (j : Nat) t v, Try.f7.params[j]? = some t → args[j]? = some v → Value.okWide Try.prog W .any base t v := hval0
  have hW' := hW
  obtain ⟨p, q, hA0, hV, rfl, hfz, hnd⟩ := hW
  have hA : DataW.TrodAll enc Try.prog W 0 (fun _ => true) true Try.f7.params.toList args.toList ds p := hA0
  rw [Try.params7] at hA hval
  obtain ⟨v0, vs0, d0, ds0, p0, q0, hargs, rfl, rfl, h0, r0⟩ := trodAll_cons hA
  obtain ⟨v1, vs1, d1, ds1, p1, q1, rfl, rfl, rfl, h1, r1⟩ := trodAll_cons r0
  obtain ⟨v2, vs2, d2, ds2, p2, q2, rfl, rfl, rfl, h2, r2⟩ := trodAll_cons r1
  obtain ⟨v3, vs3, d3, ds3, p3, q3, rfl, rfl, rfl, h3, r3⟩ := trodAll_cons r2
  obtain ⟨rfl, rfl, rfl⟩ := trodAll_nil r3
  obtain rfl : args = #[v0, v1, v2, v3] := by cases args; simp_all
  obtain ⟨rfl, rfl⟩ := trodVars_none hV
  have k3 := h3
  have lt3 : ∀ x ∈ p3, x.block < W.heap.size := by obtain ⟨m, hm⟩ := k3; exact DataW.trod_lt m _ _ _ hm
  obtain ⟨a0, rfl, rfl, rfl, w0⟩ := open_int Try.underlying3 (hval 0 3 v0 rfl rfl) h0
  obtain ⟨a1, rfl, rfl, rfl, w1⟩ := open_int Try.underlying3 (hval 1 3 v1 rfl rfl) h1
  obtain ⟨a2, rfl, rfl, rfl, w2⟩ := open_int Try.underlying3 (hval 2 3 v2 rfl rfl) h2
  obtain ⟨G, gl, gc, rfl⟩ := okWide_slice Try.underlying51 (hval 3 51 v3 rfl rfl)
  obtain ⟨fuel3, hf3⟩ := h3
  obtain ⟨hgc, hgm, ops, hP⟩ := ops_of hf3
  clear hA0 hval0
  refine (law_plays a0 a1 a2 G gl gc W ops hP hgc (wf_bd w0).2 (Nat.le_trans hgc hgm)).mono fun e W' ⟨he, bel⟩ => ?_
  subst he
  exact ⟨_, rfl, _, _, _, [], _, [], hW', trodAll_mk1 (shut_bool Try.underlying4 _), (trodAll_cons_mk (shut_int Try.underlying3 w0) (trodAll_cons_mk (shut_int Try.underlying3 w1) (trodAll_cons_mk (shut_int Try.underlying3 w2) (trodAll_cons_mk (Below.trod laidOut (by kernel_rfl) (of_decide_eq_true (by kernel_rfl)) k3 bel lt3) trodAll_mk0)))), rfl, bel.frame _, fun h => by cases h⟩

theorem votePlays_holds : Rows.VotePlaysSaid :=
  OpenClaim.holds_of_wide 7 Try.f7 rfl rfl rfl rfl rfl rfl rfl ⟨rfl, rfl, rfl, rfl, rfl⟩ rfl rfl rfl rfl rfl (by kernel_rfl) Try.func7 (by kernel_rfl)
    (of_decide_eq_true (by kernel_rfl)) (by unfold Func.isWrapper; first | (rw [if_pos (by decide +kernel)]; kernel_rfl) | (rw [if_neg (by decide +kernel)]; exact ⟨rfl, rfl⟩))
    (fun os started H enc _ => votePlays_lifted os started H enc)
#print axioms votePlays_holds

end Go.Proofs.Ytciooimbhabccaa
