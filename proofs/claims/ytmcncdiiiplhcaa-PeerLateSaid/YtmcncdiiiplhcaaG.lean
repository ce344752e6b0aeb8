/- The contract of Seen. -/
import Derived.Test.YtmcncdiiiplhcaaF
import Derived.Maps.AppendAt
namespace Go.Proofs.Ytmcncdiiiplhcaa
open Go.RowKit Go.Maps Go.Sort

abbrev Trip := Int × Int × Int
def trip (t : Trip) : List Value := [.int .i64 t.1, .int .i64 t.2.1, .int .i64 t.2.2]
def seenL (own n : Int) (g : Known) (now : Int) (l : List Int) : List Trip := (l.filter fun id => ageE own n g id now == 0).map fun id => (id, hOf g id, ageV own n g id now)
theorem seenL_hit {own n : Int} {g : Known} {now : Int} (l : List Int) {x : Int} (h : ageE own n g x now = 0) : seenL own n g now (l ++ [x]) = seenL own n g now l ++ [(x, hOf g x, ageV own n g x now)] := by
  simp [seenL, List.filter_append, h]
theorem seenL_miss {own n : Int} {g : Known} {now : Int} (l : List Int) {x : Int} (h : ageE own n g x now ≠ 0) : seenL own n g now (l ++ [x]) = seenL own n g now l := by
  simp [seenL, List.filter_append, h]
theorem seenL_len {own n : Int} {g : Known} {now : Int} (l : List Int) : (seenL own n g now l).length ≤ l.length := by
  simpa [seenL] using List.length_filter_le (fun id => ageE own n g id now == 0) l
theorem flat_snoc (l : List Trip) (t : Trip) : (l ++ [t]).flatMap trip = l.flatMap trip ++ trip t := by simp [List.flatMap_append]

theorem info37 : (Try.prog.info? 37).map (fun i => (i.zero, i.size, i.bytes)) = some (some (.agg #[.int .i64 0, .int .i64 0, .int .i64 0]), 3, 24) := by kernel_rfl

theorem rowForm {w : World} {base : Nat} {v : Value} {xs : List Int} (h : w.ownsRow base 3 1 v xs.length (xs.map encZ)) :
    ∃ A cap, v = .slice A xs.length cap ∧ (∀ k (hk : k < xs.length), ∃ b, A = some ⟨b, 0, none⟩ ∧ base ≤ b ∧ b < w.heap.size ∧ w.cell? ⟨b, k, none⟩ = some (.int .i64 xs[k])) := by
  rcases h.2 with ⟨rfl, hz⟩ | ⟨g, cap, cur, rfl, hb, hg, h1, h2, h3, h4⟩
  · exact ⟨none, 0, by rw [hz], fun k hk => by omega⟩
  · refine ⟨_, cap, rfl, fun k hk => ⟨g, rfl, hb, (Array.getElem?_eq_some_iff.1 hg).1, ?_⟩⟩
    have e : (cur.toList.take (xs.length * 1))[k]? = (xs.map encZ)[k]? := by rw [h4]
    rw [List.getElem?_take_of_lt (by omega)] at e
    rw [cell_of_row w g k cur 3 (0, 0) hg, ← Array.getElem?_toList, e]
    simp [hk]

theorem new_cells (w : World) (n : Nat) (hn : n = w.heap.size) (cs : List Value) (t : TypeId) : ∀ (j : Nat) (u : Value), cs[j]? = some u → (w.alloc (.cells cs.toArray t)).cell? (({ block := n, off := 0 } : Addr).add j) = some u := by
  intro j u hj
  subst hn
  have e : (({ block := w.heap.size, off := 0 } : Addr).add j) = ⟨w.heap.size, j, none⟩ := by
    unfold Addr.add
    by_cases h : j = 0 <;> simp [h]
  rw [e, cell_of_row _ _ j cs.toArray t (0, 0) (heap_alloc_new w _)]
  simpa using hj

theorem fld56 (a b : Int) (w : World) : (Instr.field 56 (.agg #[.int .i64 a, .int .i64 b]) 0).run Try.prog w = .ok (.int .i64 a) w := by kernel_rfl

set_option maxRecDepth 100000 in
set_option maxHeartbeats 1000000 in
theorem seen_any {w : World} {bp bm N : Nat} {own n stale : Int} {g : Known} (h : Peers w bp bm N own n stale g) (now : Int) (hnow : (Lit.int .i64 now).wf = true) :
    Calls Try.prog 11 #[.pointer (some ⟨bp, 0, none⟩), .int .i64 now] w fun e w' => ∃ v, e = .returned v ∧
      w'.ownsRow w.heap.size 37 3 v (seenL own n g now (idsOf n g)).length ((seenL own n g now (idsOf n g)).flatMap trip) ∧ Below w.heap.size w w' := by
  have Hn := hide (none_any h)
  have Hk := hide (keys_any (some bm) w)
  have Hs := hide (sorted_any h)
  have c3 := h.blk.cell 3
  simp at c3
  obtain ⟨l1, l2⟩ := h.lt
  have n8 := h.n8
  have hil := idsOf_len n g
  have HP := hide h
  clear h
  obtain ⟨i0, hi, hz0, hz1, hz2⟩ := info_parts info37
  obtain ⟨ids, hids⟩ : ∃ ids, idsOf n g = ids := ⟨_, rfl⟩
  rw [hids] at Hs hil ⊢
  have hwfs : ∀ x ∈ ids, (Lit.int .i64 x).wf = true := fun x hx => by
    rw [← hids, idsOf_mem HP.out] at hx
    obtain ⟨p, hp⟩ := Option.isSome_iff_exists.1 hx
    obtain ⟨k0, k1, _⟩ := HP.out.keys x p hp
    exact wf_of ⟨by omega, by omega⟩
  have Hwfs := hide hwfs
  clear hids hwfs
  go_enter Try.func11, Try.ntmps11
  go_wp2_with (first
    | (go_at_call 17; refine Hn.out.mono ?_; rintro e w' ⟨rfl, rfl⟩)
    | (go_at_call 20; refine Hk.out.mono ?_; rintro e w' ⟨rfl, rfl⟩)
    | (go_at_call 19; refine Hs.out.mono ?_; rintro e w1 ⟨v, rfl, hrow, hb1⟩; obtain ⟨A, cap, rfl, hcs⟩ := rowForm hrow))
  have hsz1 := hb1.size
  simp at hsz1
  have hB1 : Below w.heap.size w w1 := ((Below.refl _ _).alloc (Nat.le_refl _) _).trans (hb1.mono (by omega))
  have hP1 := HP.out.below hB1 l1 l2
  have Hcs := hide hcs
  have HB1 := hide hB1
  have HP1 := hide hP1
  clear hb1 hcs hrow hB1 hP1
  go_loopw [5, 19] (fun o i wr => ∃ k : Nat, k ≤ ids.length ∧ i = .int .i64 k ∧ wr.ownsRow w1.heap.size 37 3 o (seenL own n g now (ids.take k)).length ((seenL own n g now (ids.take k)).flatMap trip) ∧ Below w1.heap.size w1 wr) (fun _ i _ => ids.length - (intOf i).toNat)
  case atStart => exact ⟨0, Nat.zero_le _, rfl, by simpa [seenL] using World.ownsRow_nil _ _ _ _, Below.refl _ _⟩
  case round =>
    obtain ⟨k, hk, rfl, hown, hb⟩ := hrel
    by_cases hlt : k < ids.length
    · obtain ⟨b, rfl, hbb, hbl, hc⟩ := Hcs.out k hlt
      have hcx : wr.cell? ⟨b, k, none⟩ = some (.int .i64 ids[k]) := (hb.cell (p := ⟨b, k, none⟩) hbl).trans hc
      have hwx := Hwfs.out ids[k] (List.getElem_mem hlt)
      have htk : ids.take (k + 1) = ids.take k ++ [ids[k]] := by rw [List.take_succ_eq_append_getElem hlt]
      have hit : ageE own n g ids[k] now = 0 → seenL own n g now (ids.take (k + 1)) = seenL own n g now (ids.take k) ++ [(ids[k], hOf g ids[k], ageV own n g ids[k] now)] := fun e => by rw [htk, seenL_hit _ e]
      have miss : ageE own n g ids[k] now ≠ 0 → seenL own n g now (ids.take (k + 1)) = seenL own n g now (ids.take k) := fun e => by rw [htk, seenL_miss _ e]
      have hPr := HP1.out.below hb (by have := HP1.out.lt; omega) (by have := HP1.out.lt; omega)
      have hll : (seenL own n g now (ids.take k)).length ≤ k := Nat.le_trans (seenL_len _) (List.length_take_le _ _)
      obtain ⟨x, hx⟩ : ∃ x, ids[k] = x := ⟨_, rfl⟩
      rw [hx] at hcx hwx hit miss
      clear hx htk hc
      have Ha := hide (age_any hPr x now hwx hnow)
      have hPa := hPr.alloc (.cells #[.int .i64 (hOf g x), .int .i64 (tOf g x)] 56)
      have d3 := hPa.blk.cell 3
      simp at d3
      have hl1 := hPa.map.look1 hwx
      have hb2 : Below w1.heap.size w1 (wr.alloc (.cells #[.int .i64 (hOf g x), .int .i64 (tOf g x)] 56)) := hb.alloc hb.size _
      have hown2 := hown.alloc (.cells #[.int .i64 (hOf g x), .int .i64 (tOf g x)] 56)
      clear hPr hPa
      have hfld := fld56
      generalize hOf g x = hx at *
      generalize tOf g x = tx at *
      generalize ageV own n g x now = av at *
      generalize ageE own n g x now = ae at *
      by_cases h0 : ae = 0
      · have Hit := hide (hit h0)
        clear hit miss
        subst h0
        clear hown
        go_wp2_with (first
          | (go_at_call 13; refine Ha.out.mono ?_; rintro e w' ⟨rfl, rfl⟩)
          | (at_builtin; refine wpList_append_own _ rfl _ _ 34 rfl w1.heap.size 37 i0 (.agg #[.int .i64 0, .int .i64 0, .int .i64 0]) 3 24 Try.underlying34 hi hz0 hz1 hz2 rfl (by decide) _ _ _ rfl (hown2.alloc _) ⟨wr.heap.size + 1, 0, none⟩ 1 1 [.int .i64 x, .int .i64 hx, .int .i64 av] rfl rfl ?c1 ?c2 ?c3 ?c4 ?c5 ?_)
          | go_in)
        case c1 => exact new_cells _ _ (by simp) _ _
        case c2 => intro u hu; simp at hu; rcases hu with rfl | rfl | rfl <;> rfl
        case c3 => unfold maxLen; omega
        case c4 => omega
        case c5 => simp; have := hb.size; omega
        intro v' w3 hown3 hg3 _
        have hB3 : Below w1.heap.size w1 w3 := (hb2.alloc hb2.size _).grown hg3 (by have := hb2.size; simp at this; simp; omega) (fun j hj => (hown2.lt j hj).1)
        have Hrow : Hid (w3.ownsRow w1.heap.size 37 3 v' (seenL own n g now (ids.take (k + 1))).length ((seenL own n g now (ids.take (k + 1))).flatMap trip)) := hide (by
          rw [Hit.out, flat_snoc, List.length_append]; exact hown3)
        clear hown2 hown3 hg3 hb hb2
        go_wp2
        go_roundw
        case rel => exact ⟨k + 1, by omega, by go_num, Hrow.out, hB3⟩
        case measure => simp [intOf]; omega
      · have Hmiss := hide (miss h0)
        have q0 : (ae == 0) = false := by simp [h0]
        clear hit miss
        go_wp2_with (first
          | (go_at_call 13; refine Ha.out.mono ?_; rintro e w' ⟨rfl, rfl⟩))
        go_roundw
        case rel => exact ⟨k + 1, by omega, by go_num, by rw [Hmiss.out]; exact hown2, hb2⟩
        case measure => simp [intOf]; omega
    · obtain rfl : k = ids.length := by omega
      have Hown := hide hown
      have HB := hide hb
      clear hown hb
      go_wp2
      go_ret
      have := Hown.out
      rw [List.take_of_length_le (Nat.le_refl _)] at this
      refine ⟨_, rfl, ?_, HB1.out.trans (HB.out.mono (HB1.out.size))⟩
      exact ownsRow_base_a this HB1.out.size

end Go.Proofs.Ytmcncdiiiplhcaa
