/- The walk of VoteMids. -/
import Derived.Test.YtciooimbhabccaaS
import Derived.Test.YtciooimbhabccaaO
namespace Go.Proofs.Ytciooimbhabccaa
open Go.RowKit

/-- an append onto an own row at the list of a plain region -/
theorem wpList_own {ops : Array Oper} {rest : List Oper} {o : Oper} {a : Act} {w : World} {Q : Exit → Act → World → Prop} (hgd : o.guard = none) (s x : Operand)
    (ho : o.op = .call { callee := .builtin .append, args := #[s, x], argTypes := #[22, 22] }) (base : Nat) (v src : Value) (hs : a.eval s = v) (hx : a.eval x = src) (xs news : List Int)
    (hown : w.ownsRow base 3 1 v xs.length (xs.map encI)) (hsrc : Src w src news) (hlen : xs.length + news.length ≤ 1000000000) (hbase : base ≤ w.heap.size)
    (h : ∀ v' w', w'.ownsRow base 3 1 v' (xs ++ news).length ((xs ++ news).map encI) → w.grownBy w' v.ownBlock → wpList Try.prog ops Q rest (a.put o.dst v') w') : wpList Try.prog ops Q (o :: rest) a w :=
  wpList_plain hgd fun _ hK => by
    obtain ⟨v', w', hr, h2, h3, _⟩ := run_own o.type hown hsrc hlen hbase
    unfold Oper.wp execOp
    simp only [ho, resolve, invoke, builtin, Sem.run_bind, Sem.run_pure, Result.andThen_ok, List.map_toArray, List.map_cons, List.map_nil, hs, hx, hr]
    exact hK _ _ (h v' w' h2 h3)

theorem ints_own {w : World} {v : Value} {xs : List Int} {base : Nat} (h : w.ownsRow base 3 1 v xs.length (xs.map encI)) : Ints w.heap.size w v xs := by
  obtain ⟨A, cap, rfl, hc⟩ := row_cells h
  rcases Nat.eq_zero_or_pos xs.length with h0 | h0
  · obtain rfl := List.eq_nil_of_length_eq_zero h0
    rcases h.2 with ⟨e, _⟩ | ⟨g, cap', cur, e, _, hg, _⟩
    · exact .inl ⟨e, rfl⟩
    · exact .inr ⟨g, 0, cap', e, (Array.getElem?_eq_some_iff.1 hg).1, fun j hj => by simp at hj⟩
  · obtain ⟨g, rfl, _, hg, _⟩ := hc 0 h0
    refine .inr ⟨g, 0, cap, rfl, hg, fun j hj => ?_⟩
    obtain ⟨g', e, _, _, h⟩ := hc j hj
    injection e with e; injection e with e; subst e
    rw [Nat.zero_add, h, List.getElem?_eq_getElem hj]; rfl

/-- the ints that a row that came in holds -/
theorem row_ints {w : World} {a : Option Addr} {len cap : Nat} {zs : List Int} (h : IsRow .i64 w a len cap zs) : ∃ ys : List Int, ys.length = len ∧ len ≤ cap ∧ cap ≤ maxLen ∧ (0 < len → IntsA w.heap.size w (.slice a len cap) ys) ∧ Src w (.slice a len cap) ys := by
  rcases h with ⟨rfl, rfl, rfl, rfl⟩ | ⟨x, rfl, h1, h2, h3, h4, _⟩
  · exact ⟨[], rfl, Nat.le_refl _, Nat.zero_le _, fun _ => .inl ⟨rfl, rfl⟩, .inl ⟨rfl, rfl⟩⟩
  · have hy : ∀ j, j < len → (zs.take len)[j]? = some (zs.getD j 0) := fun j hj => by
      rw [List.getElem?_take_of_lt hj, List.getD_eq_getElem?_getD, List.getElem?_eq_getElem (by omega)]; rfl
    have hl : (zs.take len).length = len := by rw [List.length_take]; omega
    refine ⟨zs.take len, hl, h1, h2, ?_, ?_⟩
    · intro h0
      refine .inr ⟨x, cap, by rw [hl], ?_, fun j hj => ?_⟩
      · have := World.block_lt_of_cell? w _ (h4 0 (by omega))
        rwa [add_block] at this
      · rw [hl] at hj
        rw [hy j hj, h4 j (by omega)]; rfl
    · refine .inr ⟨x, cap, by rw [hl], fun j u hj => ?_⟩
      have hjl : j < len := by
        have := (List.getElem?_eq_some_iff.1 hj).1
        rw [List.length_map, hl] at this; exact this
      rw [h4 j (by omega), ← hj, List.getElem?_map, hy j hjl]; rfl

theorem refmid_zero (A : Option Addr) (n cap : Nat) (w : World) (h : n = 0) : Calls Try.prog 12 #[.slice A n cap] w fun e w' => e = .returned (.int .i64 0) ∧ w = w' := by
  have d0 : ((n : Int) == 0) = true := by rw [h]; rfl
  clear h
  go_enter Try.func12, Try.ntmps12
  go_wp2
  go_ret
  exact ⟨rfl, rfl⟩

/-- what a value looks like that owns some ints -/
theorem own_form {w : World} {base : Nat} {v : Value} {xs : List Int} (h : w.ownsRow base 3 1 v xs.length (xs.map encI)) (h0 : 0 < xs.length) :
    ∃ g cap, v = .slice (some ⟨g, 0, none⟩) xs.length cap ∧ xs.length ≤ cap ∧ cap ≤ maxLen ∧ base ≤ g ∧ g < w.heap.size ∧ ∀ j (hj : j < xs.length), w.cell? ⟨g, j, none⟩ = some (encI xs[j]) := by
  rcases h.2 with ⟨_, hz⟩ | ⟨g, cap, cur, rfl, hb, hg, h1, h2, _⟩
  · omega
  · refine ⟨g, cap, rfl, h1, h2, hb, (Array.getElem?_eq_some_iff.1 hg).1, fun j hj => ?_⟩
    obtain ⟨A2, cap2, e, hc⟩ := row_cells h
    obtain ⟨b, e2, _, _, h⟩ := hc j hj
    injection e with e3
    rw [e2] at e3
    injection e3 with e3; injection e3 with e3; subst e3
    exact h
theorem ints_take {w : World} {g cap : Nat} {ys : List Int} {n : Nat} (hg : g < n) (hc : ∀ j (hj : j < (ys ++ [-77]).length), w.cell? ⟨g, j, none⟩ = some (encI (ys ++ [-77])[j])) : Ints n w (.slice (some ⟨g, 0, none⟩) ys.length cap) ys :=
  .inr ⟨g, 0, cap, rfl, hg, fun j hj => by
    rw [Nat.zero_add, hc j (by simp <;> omega), List.getElem_append_left hj, List.getElem?_eq_getElem hj]; rfl⟩
theorem cell_last {w : World} {g : Nat} {ys : List Int} (hc : ∀ j (hj : j < (ys ++ [-77]).length), w.cell? ⟨g, j, none⟩ = some (encI (ys ++ [-77])[j])) : w.cell? ⟨g, ys.length, none⟩ = some (.int .i64 (-77)) := by
  rw [hc ys.length (by simp)]; simp

theorem IntsA.below {n₀ : Nat} {A B : World} (h : Below n₀ A B) {sv : Value} {zs : List Int} : IntsA n₀ A sv zs → IntsA n₀ B sv zs
  | .inl e => .inl e
  | .inr ⟨a, cap, e, hb, hc⟩ => .inr ⟨a, cap, e, hb, fun j hj => (h.cell (by rw [add_block]; exact hb)).trans (hc j hj)⟩
theorem IntsA.mono {n₀ n1 : Nat} {A : World} (h : n₀ ≤ n1) {sv : Value} {zs : List Int} : IntsA n₀ A sv zs → IntsA n1 A sv zs
  | .inl e => .inl e
  | .inr ⟨a, cap, e, hb, hc⟩ => .inr ⟨a, cap, e, Nat.lt_of_lt_of_le hb h, hc⟩

set_option maxRecDepth 100000 in
set_option maxHeartbeats 4000000 in
theorem law_mids0 (A : Option Addr) (cap : Nat) (k : Int) (w : World) (hsrc : Src w (.slice A 0 cap) []) :
    Calls Try.prog 3 #[.slice A 0 cap, .int .i64 k] w fun e w' => e = .returned (.bool true) ∧ Below w.heap.size w w' := by
  have Hsrc := hide hsrc
  clear hsrc
  go_enter Try.func3, Try.ntmps3
  go_wp2_with (first
    | (at_builtin; refine wpList_own (by rfl) (.const (.slice none 0 0)) (.tmp 15) (by rfl) w.heap.size _ _ (by rfl) (by rfl) [] [] (World.ownsRow_nil _ _ _ _) Hsrc.out (by simp <;> omega) (Nat.le_refl _) ?_; intro v1 w1 hown1 hg1; have Hb1 := hide ((Below.refl w.heap.size w).grown hg1 (Nat.le_refl _) (by intro k h; cases h)); have hz1 := Hb1.out.size; clear hg1)
    | (at_builtin; refine wpList_own (by rfl) (.tmp 16) (.tmp 17) (by rfl) w.heap.size _ _ (by rfl) (by rfl) ([] ++ []) [-77] (World.ownsRow.alloc hown1 _) (src_one _ _ _) (by simp <;> omega) (by simp <;> omega) ?_; intro v2 w2 hown2 hg2; rw [List.nil_append] at hown2; obtain ⟨g, cap2, rfl, hc1, hc2, hgb, hgl, hcs⟩ := own_form hown2 (by simp); have Hb2 := hide ((Hb1.out.alloc hz1 _).grown hg2 (by simp <;> omega) (fun k h => (hown1.lt k h).1)); have Hm := hide (show Ints w2.heap.size w2 (.slice (some ⟨g, 0, none⟩) 0 cap2) [] from ints_take (ys := []) hgl hcs); have Hl := hide (show w2.cell? ⟨g, 0, none⟩ = some (.int .i64 (-77)) from cell_last (ys := []) hcs); simp only [List.nil_append, List.length_singleton] at hc1 ⊢; clear hown1 hown2 hcs hg2 hc2 Hb1)
    | (go_at_call 11; (with_reducible refine (mid_any Hm.out (by simp)).mono ?_); rintro e w3 ⟨rfl, hb3⟩; have hl3 := (hb3.cell (p := ⟨g, 0, none⟩) hgl).trans Hl.out; have Hb3 := hide (Hb2.out.trans (hb3.mono Hb2.out.size)); have hg3 := hb3.size; clear hb3)
    | (go_at_call 12; (with_reducible refine (refmid_zero _ _ _ _ rfl).mono ?_); rintro e w' ⟨rfl, rfl⟩)
    | (go_at_call 10; refine (alive_any _).mono ?_; rintro e w4 ⟨rfl, hb4⟩))
  go_ret
  exact ⟨rfl, Hb3.out.trans (hb4.mono Hb3.out.size)⟩

theorem src_takeA {wr W : World} {ad : Addr} {p c : Nat} {o : List Int} (hcell : ∀ j (hj : j < o.length), wr.cell? (ad.add j) = some (encI o[j])) (hW : Below wr.heap.size wr W) (hb : ad.block < wr.heap.size) (hp : p ≤ o.length) :
    Src W (.slice (some ad) p c) (o.take p) := by
  refine .inr ⟨ad, c, by rw [List.length_take, Nat.min_eq_left (by omega)], fun j u hj => ?_⟩
  have hjo : j < p := by
    have := (List.getElem?_eq_some_iff.1 hj).1
    simp at this; omega
  have e := hcell j (by omega)
  rw [hW.cell (by rw [add_block]; exact hb), e, ← hj]
  simp [List.getElem?_take_of_lt hjo, show j < o.length by omega]
theorem src_dropA {wr W : World} {ad : Addr} {p c : Nat} {o : List Int} (hcell : ∀ j (hj : j < o.length), wr.cell? (ad.add j) = some (encI o[j])) (hW : Below wr.heap.size wr W) (hb : ad.block < wr.heap.size) (hp : p ≤ o.length) :
    Src W (.slice (some (ad.add p)) (o.length - p) c) (o.drop p) := by
  refine .inr ⟨_, c, by rw [List.length_drop], fun j u hj => ?_⟩
  have hjo : j < o.length - p := by
    have := (List.getElem?_eq_some_iff.1 hj).1
    simpa using this
  have e := hcell (p + j) (by omega)
  rw [Addr.add_add, hW.cell (by rw [add_block]; exact hb), e, ← hj]
  simp [show p + j < o.length by omega]
theorem transB {wr A B : World} (h : Below wr.heap.size wr A) (k : Below A.heap.size A B) : Below wr.heap.size wr B := h.trans (k.mono h.size)
theorem mid_len {w : World} {A : Option Addr} {m n cap : Nat} {zs : List Int} (hI : Ints w.heap.size w (.slice A m cap) zs) (h : m = n) (hlen : zs.length ≤ 1000000000) :
    Calls Try.prog 11 #[.slice A n cap] w fun e w' => e = .returned (.int .i64 (midL zs)) ∧ Below w.heap.size w w' := by subst h; exact mid_any hI hlen
/-- the step of a guarded append, new memory lying behind the world wr -/
theorem step_ownG {ops : Array Oper} {o : Oper} {a : Act} {w wr : World} {K : Act → World → Prop} {Q : Exit → Act → World → Prop} {E : Prop} (hw : Region.wanted o (yielded ops a.tmps) = true) (s x : Operand)
    (ho : o.op = .call { callee := .builtin .append, args := #[s, x], argTypes := #[22, 22] }) (v src : Value) (hs : a.eval s = v) (hx : a.eval x = src) (xs news : List Int)
    (hB : Below wr.heap.size wr w) (hown : w.ownsRow wr.heap.size 3 1 v xs.length (xs.map encI)) (hsrc : Src w src news) (hlen : xs.length + news.length ≤ 1000000000)
    (h : ∀ v' w', w'.ownsRow wr.heap.size 3 1 v' (xs ++ news).length ((xs ++ news).map encI) → Below wr.heap.size wr w' → K (a.put o.dst v') w') :
    if Region.wanted o (yielded ops a.tmps) = true then Oper.wp Try.prog o a w K Q else E := by
  rw [if_pos hw]
  obtain ⟨v', w', hr, h2, h3, _⟩ := run_own o.type hown hsrc hlen hB.size
  unfold Oper.wp execOp
  simp only [ho, resolve, invoke, builtin, Sem.run_bind, Sem.run_pure, Result.andThen_ok, List.map_toArray, List.map_cons, List.map_nil, hs, hx, hr]
  exact h v' w' h2 (hB.grown h3 hB.size fun k hk => (hown.lt k hk).1)

set_option maxRecDepth 100000 in
set_option maxHeartbeats 4000000 in
theorem law_mids (A : Option Addr) (len cap : Nat) (zs : List Int) (k : Int) (w : World) (hr : IsRow .i64 w A len cap zs) :
    Calls Try.prog 3 #[.slice A len cap, .int .i64 k] w fun e w' => e = .returned (.bool true) ∧ Below w.heap.size w w' := by
  obtain ⟨ys, rfl, hlc, hcm, hys, hsrc⟩ := row_ints hr
  by_cases h1 : 60 < ys.length
  · have d1 : decide ((60 : Int) < ys.length) = true := by simp; omega
    clear hr hys hsrc
    go_enter Try.func3, Try.ntmps3
    go_wp2_with (go_at_call 10; refine (alive_any _).mono ?_; rintro e w' ⟨rfl, hb⟩)
    go_ret
    exact ⟨rfl, hb⟩
  have d1 : decide ((60 : Int) < ys.length) = false := by simp; omega
  clear hr
  have Hys := hide hys
  have Hsrc := hide hsrc
  have hyl : ys.length ≤ 60 := by omega
  clear hys hsrc
  by_cases h0 : ys.length = 0
  · obtain rfl := List.eq_nil_of_length_eq_zero h0
    exact law_mids0 A cap k w Hsrc.out
  · obtain ⟨ad, rfl, hadb, hadc⟩ : ∃ ad, A = some ad ∧ ad.block < w.heap.size ∧ ∀ j (hj : j < ys.length), w.cell? (ad.add j) = some (.int .i64 ys[j]) := by
      rcases Hys.out (by omega) with ⟨_, e⟩ | ⟨ad, c, e, hb, hc⟩
      · rw [e] at h0; simp at h0
      · injection e with e1 e2 e3
        refine ⟨ad, e1, hb, fun j hj => ?_⟩
        rw [hc j hj, List.getElem?_eq_getElem hj]; rfl
    have Hadc := hide hadc
    clear hadc
    have d0 : ((ys.length : Int) == 0) = false := by rw [beq_eq_false_iff_ne]; omega
    go_enter Try.func3, Try.ntmps3
    go_wp2_with (first
      | (at_builtin; refine wpList_own (by rfl) (.const (.slice none 0 0)) (.tmp 15) (by rfl) w.heap.size _ _ (by rfl) (by rfl) [] ys (World.ownsRow_nil _ _ _ _) Hsrc.out (by simp <;> omega) (Nat.le_refl _) ?_; intro v1 w1 hown1 hg1; have Hb1 := hide ((Below.refl w.heap.size w).grown hg1 (Nat.le_refl _) (by intro k h; cases h)); have hz1 := Hb1.out.size; clear hg1)
      | (at_builtin; refine wpList_own (by rfl) (.tmp 16) (.tmp 17) (by rfl) w.heap.size _ _ (by rfl) (by rfl) ([] ++ ys) [-77] (World.ownsRow.alloc hown1 _) (src_one _ _ _) (by simp <;> omega) (by simp <;> omega) ?_; intro v2 w2 hown2 hg2; rw [List.nil_append] at hown2; obtain ⟨g, cap2, rfl, hc1, hc2, hgb, hgl, hcs⟩ := own_form hown2 (by simp); have Hb2 := hide ((Hb1.out.alloc hz1 _).grown hg2 (by simp <;> omega) (fun k h => (hown1.lt k h).1)); have Hm := hide (ints_take hgl hcs (cap := cap2)); have Hl := hide (cell_last hcs); simp only [List.length_append, List.length_singleton] at hc1 ⊢; clear hown1 hown2 hcs hg2 hc2 Hb1)
      | (go_at_call 11; (with_reducible refine (mid_any Hm.out (by omega)).mono ?_); rintro e w3 ⟨rfl, hb3⟩; have hl3 := (hb3.cell (p := ⟨g, ys.length, none⟩) hgl).trans Hl.out; have Hb3 := hide (Hb2.out.trans (hb3.mono Hb2.out.size)); have hg3 := hb3.size; have Hm3 := hide (Hm.out.below hb3); clear hb3)
      | (go_at_call 12; (with_reducible refine (refmid_any (((Hys.out (by omega)).below Hb3.out).mono Hb3.out.size) (by omega)).mono ?_); rintro e w4 ⟨rfl, hb4⟩; have hl4 := (hb4.cell (p := ⟨g, ys.length, none⟩) (show g < w3.heap.size by omega)).trans hl3; have Hb4 := hide (Hb3.out.trans (hb4.mono Hb3.out.size)); have hg4 := hb4.size; have Hm4 := hide (Hm3.out.below (hb4.mono hg3)); clear hb4))
    obtain ⟨x, hx⟩ : ∃ x, midL ys = x := ⟨_, rfl⟩
    rw [hx]
    have Hx := hide hx
    clear hx
    go_loopw [7, 8, 9, 10] (fun u7 u8 u9 u10 wr => ∃ i : Nat, i ≤ ys.length ∧ u10 = .int .i64 i ∧ u7 = .int .i64 (blw x (ys.take i)) ∧ u8 = .int .i64 (abv x (ys.take i)) ∧ u9 = .bool (hasB x (ys.take i)) ∧ ∃ n, wr = w4.drewN n) (fun _ _ _ i _ => ys.length - (intOf i).toNat)
    case atStart => exact ⟨0, Nat.zero_le _, rfl, rfl, rfl, rfl, 0, rfl⟩
    case round =>
      obtain ⟨i, hi, rfl, rfl, rfl, rfl, n, rfl⟩ := hrel
      by_cases hlt : i < ys.length
      · have hcl := (Hb4.out.cell (p := ad.add i) (by rw [add_block]; exact hadb)).trans (Hadc.out i hlt)
        have hcm : w4.cell? ⟨g, i, none⟩ = some (.int .i64 ys[i]) := by
          rcases Hm4.out with ⟨e, _⟩ | ⟨b', off', c', e, hb', hc'⟩
          · cases e
          · injection e with e1 e2 e3
            injection e1 with e1; injection e1 with e1 e4 e5; subst e1; subst e4
            have h := hc' i hlt
            rw [Nat.zero_add, List.getElem?_eq_getElem hlt] at h
            exact h
        have hs : ys.take (i + 1) = ys.take i ++ [ys[i]] := by rw [List.take_succ_eq_append_getElem hlt]
        have sb := blw_snoc x (ys.take i) ys[i]
        have sa := abv_snoc x (ys.take i) ys[i]
        have sh := hasB_snoc x (ys.take i) ys[i]
        rw [← hs] at sb sa sh
        have bb := blw_le x (ys.take i)
        have ba := abv_le x (ys.take i)
        rw [List.length_take] at bb ba
        obtain ⟨y, hy⟩ : ∃ y, ys[i] = y := ⟨_, rfl⟩
        rw [hy] at hcl hcm sb sa sh
        obtain ⟨NB, hNB⟩ : ∃ NB, blw x (ys.take i) = NB := ⟨_, rfl⟩
        obtain ⟨NA, hNA⟩ : ∃ NA, abv x (ys.take i) = NA := ⟨_, rfl⟩
        obtain ⟨HB, hHB⟩ : ∃ HB, hasB x (ys.take i) = HB := ⟨_, rfl⟩
        rw [hNB] at sb bb ⊢
        rw [hNA] at sa ba ⊢
        rw [hHB] at sh ⊢
        have Sb := hide sb
        have Sa := hide sa
        have Sh := hide sh
        have bb1 : NB ≤ 60 := by omega
        have ba1 : NA ≤ 60 := by omega
        clear hs sb sa sh bb ba hNB hNA hHB hy
        rcases Int.lt_trichotomy y x with hc | hc | hc
        · have c1 : decide (y < x) = true := by simp [hc]
          have c2 : decide (x < y) = false := by simp; omega
          have c3 : (y == x) = false := by rw [beq_eq_false_iff_ne]; omega
          cases HB
          all_goals
            go_wp2_with fail
            go_quiet (fail)
            go_wp2_with fail
            go_roundw
            case rel => exact ⟨i + 1, by omega, by go_num, by rw [Sb.out, if_pos hc]; go_num, by rw [Sa.out, if_neg (by omega)]; rfl, by rw [Sh.out]; simp [c3], _, rfl⟩
            case measure => simp [intOf]; omega
        · subst hc
          have c1 : decide (y < y) = false := by simp
          cases HB
          all_goals
            go_wp2_with fail
            go_quiet (fail)
            go_wp2_with fail
            go_roundw
            case rel => exact ⟨i + 1, by omega, by go_num, by rw [Sb.out, if_neg (by omega)]; rfl, by rw [Sa.out, if_neg (by omega)]; rfl, by rw [Sh.out]; simp, _, rfl⟩
            case measure => simp [intOf]; omega
        · have c1 : decide (y < x) = false := by simp; omega
          have c2 : decide (x < y) = true := by simp [hc]
          have c3 : (y == x) = false := by rw [beq_eq_false_iff_ne]; omega
          cases HB
          all_goals
            go_wp2_with fail
            go_quiet (fail)
            go_wp2_with fail
            go_roundw
            case rel => exact ⟨i + 1, by omega, by go_num, by rw [Sb.out, if_neg (by omega)]; rfl, by rw [Sa.out, if_pos hc]; go_num, by rw [Sh.out]; simp [c3], _, rfl⟩
            case measure => simp [intOf]; omega
      · obtain rfl : i = ys.length := by omega
        rw [List.take_length]
        have q1 := mid_below (zs := ys) (by omega)
        have q2 := mid_above (zs := ys) (by omega)
        have q3 := hasB_mid (zs := ys) (by omega)
        rw [Hx.out] at q1 q2 q3
        change 2 * blw x ys < ys.length at q1
        change 2 * abv x ys ≤ ys.length at q2
        rw [q3]
        obtain ⟨NB, hNB⟩ : ∃ NB, blw x ys = NB := ⟨_, rfl⟩
        obtain ⟨NA, hNA⟩ : ∃ NA, abv x ys = NA := ⟨_, rfl⟩
        rw [hNB] at q1 ⊢
        rw [hNA] at q2 ⊢
        have e1 : decide (2 * (NB : Int) < ys.length) = true := by simp; omega
        have e2 : decide (2 * (NA : Int) ≤ ys.length) = true := by simp; omega
        have hwB : IntKind.i64.wrap (2 * (NB : Int)) = 2 * (NB : Int) := IntWalk.i64_in _ (by omega)
        have hwA : IntKind.i64.wrap (2 * (NA : Int)) = 2 * (NA : Int) := IntWalk.i64_in _ (by omega)
        clear hNB hNA q3
        obtain ⟨wr, hwr⟩ : ∃ wr, w4.drewN n = wr := ⟨_, rfl⟩
        have hbw : Below w.heap.size w wr := by rw [← hwr]; exact below_dn Hb4.out n
        rw [hwr]
        have hab : ad.block < wr.heap.size := by have := hbw.size; omega
        have hcw : ∀ j (hj : j < ys.length), wr.cell? (ad.add j) = some (encI ys[j]) := fun j hj => (hbw.cell (p := ad.add j) (by rw [add_block]; exact hadb)).trans (Hadc.out j hj)
        have Hbw := hide hbw
        clear hbw hwr hl4
        have t1 : k.tmod (ys.length : Int) < ys.length := Int.tmod_lt_of_pos k (by omega)
        have t2 : -(ys.length : Int) < k.tmod ys.length := by
          have := Int.tmod_lt_of_pos (-k) (show (0 : Int) < ys.length by omega)
          rw [Int.neg_tmod] at this
          omega
        by_cases hneg : k.tmod (ys.length : Int) < 0
        · obtain ⟨kk, hkk⟩ : ∃ kk : Nat, k.tmod (ys.length : Int) + ys.length = kk := ⟨(k.tmod (ys.length : Int) + ys.length).toNat, by omega⟩
          have hkl : kk < ys.length := by omega
          obtain ⟨r, hr⟩ : ∃ r, k.tmod (ys.length : Int) = r := ⟨_, rfl⟩
          rw [hr] at t1 t2 hneg hkk
          have dn : decide (r < 0) = true := by simp [hneg]
          go_wp2_with fail
          clear hr dn hkk
          have Htk := hide (src_takeA (W := wr) (c := cap) hcw (Below.refl _ _) hab (show kk ≤ ys.length by omega))
          have hmt : midL ([] ++ ys.drop kk ++ ys.take kk) = x := by rw [List.nil_append, mid_turn]; exact Hx.out
          have Hmt := hide hmt
          have Hcw := hide hcw
          have hLn : 0 < ([] ++ ys.drop kk ++ ys.take kk).length := by simp; omega
          have hL60 : ([] ++ ys.drop kk ++ ys.take kk).length ≤ 60 := by simp; omega
          have HLL : Hid (([] ++ ys.drop kk ++ ys.take kk).length = ys.length) := hide (by simp; omega)
          have hI0 : (0 : Int) ≤ (kk : Int) := Int.natCast_nonneg _
          have hI1 : (kk : Int) ≤ (ys.length : Int) := by omega
          have hI2 : (kk : Int) ≤ (cap : Int) := by omega
          have hI3 : kk ≤ cap := by omega
          have hI4 : ¬ cap = kk := by omega
          clear hcw hmt
          go_region_held3 (fun w' => Below wr.heap.size wr w')
            (first | assumption | exact (Below.refl _ _).drew | exact transB (by assumption) (by assumption))
            (first
              | (go_at_call 10; refine (alive_any _).mono ?_; rintro e W1 ⟨rfl, hbA⟩)
              | (refine step_ownG (wr := wr) (by rfl) (.const (.slice none 0 0)) (.tmp 119) (by rfl) _ _ (by rfl) (by rfl) [] (ys.drop kk) (by assumption) (World.ownsRow_nil _ _ _ _) (src_dropA Hcw.out (by assumption) hab (by omega)) (by simp <;> omega) ?_; intro v1 w1 hown1 hbe1)
              | (refine step_ownG (wr := wr) (by rfl) (.tmp 120) (.tmp 123) (by rfl) _ _ (by rfl) (by rfl) ([] ++ ys.drop kk) (ys.take kk) (by assumption) hown1 (src_takeA Hcw.out (by assumption) hab (by omega)) (by simp <;> omega) ?_; intro v2 w2 hown2 hbe2; obtain ⟨g2, c2, rfl, _, _, _, _, _⟩ := own_form hown2 hLn; rw [HLL.out])
              | (go_at_call 11; (with_reducible refine (mid_len (ints_own hown2) HLL.out (by omega)).mono ?_); rintro e W3 ⟨rfl, hbB⟩; rw [Hmt.out]))
          all_goals
            go_wp2_with fail
            go_ret
            exact ⟨rfl, Hbw.out.trans (Below.mono (by assumption) Hbw.out.size)⟩
        · obtain ⟨kk, hkk⟩ : ∃ kk : Nat, k.tmod (ys.length : Int) = kk := ⟨(k.tmod (ys.length : Int)).toNat, by omega⟩
          have hkl : kk < ys.length := by omega
          have dn : decide ((kk : Int) < 0) = false := by simp
          clear t1 t2 hneg
          go_wp2_with fail
          clear dn hkk
          have Htk := hide (src_takeA (W := wr) (c := cap) hcw (Below.refl _ _) hab (show kk ≤ ys.length by omega))
          have hmt : midL ([] ++ ys.drop kk ++ ys.take kk) = x := by rw [List.nil_append, mid_turn]; exact Hx.out
          have Hmt := hide hmt
          have Hcw := hide hcw
          have hLn : 0 < ([] ++ ys.drop kk ++ ys.take kk).length := by simp; omega
          have hL60 : ([] ++ ys.drop kk ++ ys.take kk).length ≤ 60 := by simp; omega
          have HLL : Hid (([] ++ ys.drop kk ++ ys.take kk).length = ys.length) := hide (by simp; omega)
          have hI0 : (0 : Int) ≤ (kk : Int) := Int.natCast_nonneg _
          have hI1 : (kk : Int) ≤ (ys.length : Int) := by omega
          have hI2 : (kk : Int) ≤ (cap : Int) := by omega
          have hI3 : kk ≤ cap := by omega
          have hI4 : ¬ cap = kk := by omega
          clear hcw hmt
          go_region_held3 (fun w' => Below wr.heap.size wr w')
            (first | assumption | exact (Below.refl _ _).drew | exact transB (by assumption) (by assumption))
            (first
              | (go_at_call 10; refine (alive_any _).mono ?_; rintro e W1 ⟨rfl, hbA⟩)
              | (refine step_ownG (wr := wr) (by rfl) (.const (.slice none 0 0)) (.tmp 119) (by rfl) _ _ (by rfl) (by rfl) [] (ys.drop kk) (by assumption) (World.ownsRow_nil _ _ _ _) (src_dropA Hcw.out (by assumption) hab (by omega)) (by simp <;> omega) ?_; intro v1 w1 hown1 hbe1)
              | (refine step_ownG (wr := wr) (by rfl) (.tmp 120) (.tmp 123) (by rfl) _ _ (by rfl) (by rfl) ([] ++ ys.drop kk) (ys.take kk) (by assumption) hown1 (src_takeA Hcw.out (by assumption) hab (by omega)) (by simp <;> omega) ?_; intro v2 w2 hown2 hbe2; obtain ⟨g2, c2, rfl, _, _, _, _, _⟩ := own_form hown2 hLn; rw [HLL.out])
              | (go_at_call 11; (with_reducible refine (mid_len (ints_own hown2) HLL.out (by omega)).mono ?_); rintro e W3 ⟨rfl, hbB⟩; rw [Hmt.out]))
          all_goals
            go_wp2_with fail
            go_ret
            exact ⟨rfl, Hbw.out.trans (Below.mono (by assumption) Hbw.out.size)⟩

end Go.Proofs.Ytciooimbhabccaa
