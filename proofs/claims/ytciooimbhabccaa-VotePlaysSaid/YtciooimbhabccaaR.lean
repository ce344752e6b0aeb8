/- The reference's middle one: the walk. -/
import Derived.Test.YtciooimbhabccaaQ
import Derived.Deep.RegionHeld3
import Derived.Deep.Onto
namespace Go.Proofs.Ytciooimbhabccaa
open Go.RowKit

theorem refL_succ {zs : List Int} {i : Nat} (hi : i < zs.length) : refL (zs.take (i + 1)) = insR (refL (zs.take i)) zs[i] := by
  unfold refL
  rw [List.take_succ_eq_append_getElem hi, List.foldl_append]; rfl

theorem posR_cons (x a : Int) (l : List Int) : posR x (a :: l) = if a ≤ x then posR x l + 1 else 0 := by
  by_cases h : a ≤ x <;> simp [posR, h]
theorem posR_lt (x : Int) : ∀ (o : List Int) (p : Nat), p < posR x o → ∀ h : p < o.length, o[p] ≤ x
  | [], p, hp, h => absurd h (by simp)
  | a :: l, p, hp, h => by
    rw [posR_cons] at hp
    split at hp
    · cases p with
      | zero => assumption
      | succ p => exact posR_lt x l p (by omega) (by simpa using h)
    · omega
theorem posR_at (x : Int) : ∀ (o : List Int) (p : Nat), p = posR x o → ∀ h : p < o.length, x < o[p]
  | [], p, hp, h => absurd h (by simp)
  | a :: l, p, hp, h => by
    rw [posR_cons] at hp
    split at hp
    · subst hp; exact posR_at x l _ rfl (by simpa using h)
    · subst hp; show x < a; omega

theorem add_block (a : Addr) (n : Nat) : (a.add n).block = a.block := by unfold Addr.add; split <;> rfl
/-- the slice value sv holds the ints zs, wherever, in a block below n₀; or it is nil and there are none -/
def IntsA (n₀ : Nat) (W : World) (sv : Value) (zs : List Int) : Prop :=
  (sv = .slice none 0 0 ∧ zs = []) ∨ ∃ a cap, sv = .slice (some a) zs.length cap ∧ a.block < n₀ ∧ ∀ j, j < zs.length → W.cell? (a.add j) = some (.int .i64 (zs[j]?.getD 0))
theorem Ints.any {n₀ : Nat} {W : World} {sv : Value} {zs : List Int} : Ints n₀ W sv zs → IntsA n₀ W sv zs
  | .inl h => .inl h
  | .inr ⟨b, off, cap, e, hb, hc⟩ => .inr ⟨_, cap, e, hb, fun j hj => by
      rw [← hc j hj]; unfold Addr.add; split
      · subst j; rfl
      · rfl⟩
theorem src_take {wr W : World} {b2 p cap2 : Nat} {o : List Int} (hcell : ∀ j, j < o.length → wr.cell? ⟨b2, j, none⟩ = some (encI (o.getD j 0))) (hW : Below wr.heap.size wr W) (hb2 : b2 < wr.heap.size) (hp : p ≤ o.length) :
    Src W (.slice (some ⟨b2, 0, none⟩) p cap2) (o.take p) := by
  refine .inr ⟨⟨b2, 0, none⟩, cap2, by rw [List.length_take, Nat.min_eq_left (by omega)], fun j u hj => ?_⟩
  have hjo : j < p := by
    have := (List.getElem?_eq_some_iff.1 hj).1
    simp at this; omega
  have e := hcell j (by omega)
  rw [show (⟨b2, 0, none⟩ : Addr).add j = ⟨b2, j, none⟩ by simp [Addr.add] <;> omega, hW.cell hb2, e, ← hj]
  simp [List.getElem?_take_of_lt hjo, show j < o.length by omega]
theorem src_drop {wr W : World} {b2 p cap2 : Nat} {o : List Int} (hcell : ∀ j, j < o.length → wr.cell? ⟨b2, j, none⟩ = some (encI (o.getD j 0))) (hW : Below wr.heap.size wr W) (hb2 : b2 < wr.heap.size) :
    Src W (.slice (some ⟨b2, p, none⟩) (o.length - p) (cap2 - p)) (o.drop p) := by
  refine .inr ⟨⟨b2, p, none⟩, cap2 - p, by rw [List.length_drop], fun j u hj => ?_⟩
  have hjo : j < o.length - p := by
    have := (List.getElem?_eq_some_iff.1 hj).1
    simpa using this
  have e := hcell (p + j) (by omega)
  rw [show (⟨b2, p, none⟩ : Addr).add j = ⟨b2, p + j, none⟩ by simp [Addr.add], hW.cell hb2, e, ← hj]
  simp [show p + j < o.length by omega]
theorem src_one (W : World) (x : Int) (t : TypeId) : Src (W.alloc (.cells #[.int .i64 x] t)) (.slice (some ⟨W.heap.size, 0, none⟩) 1 1) [x] := by
  refine .inr ⟨_, _, rfl, fun j u hj => ?_⟩
  have hj0 : j < 1 := by simpa using (List.getElem?_eq_some_iff.1 hj).1
  obtain rfl : j = 0 := by omega
  have e := (Blk.new W t #[.int .i64 x]).cell 0
  simp at hj
  subst hj
  exact e
theorem below_dn {B : Nat} {a w : World} (h : Below B a w) (m : Nat) : Below B a (w.drewN m) := h.trans ⟨rfl, rfl, rfl, Nat.le_refl _, fun _ _ => rfl⟩
theorem keepB {wr W : World} {a : Addr} {v : Value} (hb : a.block < wr.heap.size) (hx : wr.cell? a = some v) (h : Below wr.heap.size wr W) : Below wr.heap.size wr W ∧ W.cell? a = some v := ⟨h, (h.cell hb).trans hx⟩
theorem keepA {wr W : World} {a : Addr} {v : Value} {p : Prop} (hb : a.block < wr.heap.size) (hx : wr.cell? a = some v) (h : Below wr.heap.size wr W ∧ p) (o : Obj) : Below wr.heap.size wr (W.alloc o) ∧ (W.alloc o).cell? a = some v := keepB hb hx (h.1.alloc h.1.size _)
theorem src_end (W : World) (a : Addr) {m c : Nat} {o : List Int} {p : Nat} (hp : o.length ≤ p) (hm : m = 0) : Src W (.slice (some a) m c) (o.drop p) := by
  have e : o.drop p = [] := List.drop_eq_nil_of_le hp
  rw [e, hm]
  exact .inr ⟨a, c, rfl, fun j u hj => by simp at hj⟩
theorem src_none (W : World) {zs : List Int} (h : zs = []) : Src W (.slice none 0 0) zs := .inl ⟨rfl, h⟩
theorem ins_row {w0 : Nat} {wr W : World} {v : Value} {o zs : List Int} {x : Int} {p k : Nat} (h : W.ownsRow wr.heap.size 3 1 v ([] ++ o.take p ++ [x] ++ o.drop p).length (([] ++ o.take p ++ [x] ++ o.drop p).map encI)) (hp : posR x o = p) (hs : refL (zs.take (k + 1)) = insR o x) (hw : w0 ≤ wr.heap.size) :
    W.ownsRow w0 3 1 v (refL (zs.take (k + 1))).length ((refL (zs.take (k + 1))).map encI) := by
  rw [hs]
  unfold insR
  rw [hp]
  rw [List.nil_append] at h
  exact h.mono hw
/-- the step of an append, new memory lying behind the world wr -/
theorem step_ownB {ops : Array Oper} {o : Oper} {a : Act} {w wr : World} {K : Act → World → Prop} {Q : Exit → Act → World → Prop} {E : Prop} (hgd : o.guard = none) (s x : Operand)
    (ho : o.op = .call { callee := .builtin .append, args := #[s, x], argTypes := #[22, 22] }) (v src : Value) (hs : a.eval s = v) (hx : a.eval x = src) (xs news : List Int)
    (hB : Below wr.heap.size wr w) (hown : w.ownsRow wr.heap.size 3 1 v xs.length (xs.map encI)) (hsrc : Src w src news) (hlen : xs.length + news.length ≤ 1000000000)
    (h : ∀ v' w', w'.ownsRow wr.heap.size 3 1 v' (xs ++ news).length ((xs ++ news).map encI) → Below wr.heap.size wr w' → (∀ src' news', v.ownBlock = none → Src w src' news' → Src w' src' news') → K (a.put o.dst v') w') :
    if Region.wanted o (yielded ops a.tmps) = true then Oper.wp Try.prog o a w K Q else E :=
  step_own hgd s x ho wr.heap.size v src hs hx xs news hown hsrc hlen hB.size fun v' w' h1 h2 _ => h v' w' h1 (hB.grown h2 hB.size fun k hk => (hown.lt k hk).1) fun src' news' hv hs' => by
    rcases hs' with h | ⟨a', c', e, hc⟩
    · exact .inl h
    · refine .inr ⟨a', c', e, fun j u hj => ?_⟩
      have hc' := hc j u hj
      rw [hv] at h2
      exact (h2.cell_far _ (World.block_lt_of_cell? w _ hc') (by simp)).trans hc'

set_option maxRecDepth 100000 in
set_option maxHeartbeats 4000000 in
theorem refmid_any {w : World} {A : Option Addr} {len cap : Nat} {zs : List Int} (hI : IntsA w.heap.size w (.slice A len cap) zs) (hlen : zs.length ≤ 1000000) :
    Calls Try.prog 12 #[.slice A len cap] w fun e w' => e = .returned (.int .i64 (midL zs)) ∧ Below w.heap.size w w' := by
  have hl : len = zs.length := by
    rcases hI with ⟨e, rfl⟩ | ⟨ad, c, e, _⟩ <;> simp at e <;> simp [e]
  by_cases h0 : len = 0
  · have e : midL zs = 0 := by
      have : zs = [] := List.eq_nil_of_length_eq_zero (by omega)
      rw [this]; rfl
    rw [e]
    have d0 : ((len : Int) == 0) = true := by simp; omega
    clear hI hl e
    go_enter Try.func12, Try.ntmps12
    go_wp2
    go_ret
    exact ⟨rfl, Below.refl _ _⟩
  have d0 : ((len : Int) == 0) = false := by simp; omega
  obtain ⟨ad, rfl, hbl, hcs⟩ : ∃ ad, A = some ad ∧ ad.block < w.heap.size ∧ ∀ j (hj : j < zs.length), w.cell? (ad.add j) = some (.int .i64 zs[j]) := by
    rcases hI with ⟨e, rfl⟩ | ⟨ad, c, e, hb, hc⟩
    · simp at hl; omega
    · injection e with e1 e2 e3
      refine ⟨ad, e1, hb, fun j hj => ?_⟩
      rw [hc j hj, List.getElem?_eq_getElem hj]; rfl
  have Hcs := hide hcs
  have Hl := hide hl
  have hl1 : len ≤ zs.length := by omega
  have hl2 : zs.length ≤ len := by omega
  clear hI hl hcs
  go_enter Try.func12, Try.ntmps12
  go_wp2_with fail
  go_loopw [3, 4] (fun o i wr => ∃ k : Nat, k ≤ len ∧ i = .int .i64 k ∧ wr.ownsRow w.heap.size 3 1 o (refL (zs.take k)).length ((refL (zs.take k)).map encI) ∧ Below w.heap.size w wr) (fun _ i _ => len - (intOf i).toNat)
  case atStart => exact ⟨0, Nat.zero_le _, rfl, by simpa [refL] using World.ownsRow_nil _ _ _ _, Below.refl _ _⟩
  case round =>
    obtain ⟨k, hk, rfl, hown, hb⟩ := hrel
    by_cases hlt : k < len
    · have hkz : k < zs.length := by omega
      have hx := (hb.cell (p := ad.add k) (by rw [add_block]; exact hbl)).trans (Hcs.out k hkz)
      have hsucc := refL_succ hkz
      obtain ⟨x, hxx⟩ : ∃ x, zs[k] = x := ⟨_, rfl⟩
      rw [hxx] at hx hsucc
      have hol : (refL (zs.take k)).length = k := by rw [refL_len, List.length_take]; omega
      obtain ⟨o, ho⟩ : ∃ o, refL (zs.take k) = o := ⟨_, rfl⟩
      rw [ho] at hown hsucc hol
      have hob : o.length ≤ 1000000 := by omega
      have Hsucc := hide hsucc
      have Hol := hide hol
      have Hown := hide hown
      have Hb := hide hb
      have hpl := posR_le x o
      clear hsucc hol hxx ho hown hb
      have hpa := posR_at x o
      have hpb := posR_lt x o
      have Hpa := hide hpa
      have Hpb := hide hpb
      obtain ⟨P, hP⟩ : ∃ P, posR x o = P := ⟨_, rfl⟩
      rw [hP] at hpl Hpa Hpb
      have HP := hide hP
      clear hpa hpb hP
      obtain ⟨A2, cap2, rfl, hos⟩ := row_cells Hown.out
      have hcap : o.length ≤ cap2 ∧ cap2 ≤ maxLen := by
        rcases Hown.out.2 with ⟨e, h⟩ | ⟨g, cap, cur, e, _, _, h1, h2, _⟩
        · injection e with e1 e2 e3; subst e3; exact ⟨by omega, Nat.zero_le _⟩
        · injection e with e1 e2 e3; subst e3; exact ⟨h1, h2⟩
      have hcap1 := hcap.1
      have Hos := hide hos
      clear hos
      go_wp2_with fail
      go_loopw [5] (fun i wx => ∃ p : Nat, i = .int .i64 p ∧ p ≤ P ∧ ∃ n, wx = wr.drewN n) (fun i _ => P - (intOf i).toNat)
      case atStart => exact ⟨0, rfl, Nat.zero_le _, 0, rfl⟩
      case round =>
        obtain ⟨p, rfl, hp, n, rfl⟩ := hrel
        by_cases hpP : p < P
        · have hpo : p < o.length := by omega
          have q1 : decide ((p : Int) < o.length) = true := by simp; omega
          have hop := Hpb.out p hpP hpo
          obtain ⟨b2, rfl, hb1, hb2, hc2⟩ := Hos.out p hpo
          have q2 : decide (o[p] ≤ x) = true := by simp [hop]
          obtain ⟨y, hy⟩ : ∃ y, o[p] = y := ⟨_, rfl⟩
          rw [hy] at hc2 q2 hop
          clear hy
          go_wp2_with fail
          go_quiet (fail)
          go_wp2_with fail
          go_roundw
          case rel => exact ⟨p + 1, by go_num, by omega, _, rfl⟩
          case measure => simp [intOf]; omega
        · obtain rfl : p = P := by omega
          by_cases hpo : p < o.length
          · have q1 : decide ((p : Int) < o.length) = true := by simp; omega
            obtain ⟨b2, rfl, hb1, hb2, hc2⟩ := Hos.out p hpo
            have hop := Hpa.out p rfl hpo
            have q2 : decide (o[p] ≤ x) = false := by simp; omega
            obtain ⟨y, hy⟩ : ∃ y, o[p] = y := ⟨_, rfl⟩
            rw [hy] at hc2 q2 hop
            clear hy
            go_wp2_with fail
            go_quiet (fail)
            go_wp2_with fail
            have hcp : p ≤ cap2 := by omega
            have hcn : ¬ cap2 = p := by omega
            have hcell : ∀ j, j < o.length → wr.cell? ⟨b2, j, none⟩ = some (encI (o.getD j 0)) := fun j hj => by
              obtain ⟨b3, e, _, _, h⟩ := Hos.out j hj
              injection e with e; injection e with e; subst e
              rw [h, List.getD_eq_getElem?_getD, List.getElem?_eq_getElem hj]; rfl
            have Hcell := hide hcell
            have hbk : (ad.add k).block < wr.heap.size := World.block_lt_of_cell? wr _ hx
            clear hcell hc2 Hos
            go_region_held3 (fun w' => Below wr.heap.size wr w' ∧ w'.cell? (ad.add k) = some (.int .i64 x))
              (first | exact keepB hbk hx (by assumption) | exact keepA hbk hx (by assumption) _ | exact keepB hbk hx ((below_dn (Below.refl _ _) _).alloc (Nat.le_refl _) _) | exact keepB hbk hx ((below_dn (below_dn (Below.refl _ _) _) _).drew))
              (first
                | (refine step_ownB (wr := wr) (by rfl) (.const (.slice none 0 0)) (.tmp 34) (by rfl) _ _ (by rfl) (by rfl) [] (o.take p) (by go_split_ands; assumption) (World.ownsRow_nil _ _ _ _) (src_take Hcell.out (by go_split_ands; assumption) hb2 hpl) (by simp <;> omega) ?_; intro v1 w1 hown1 hbe1 hkp1)
                | (refine step_ownB (wr := wr) (by rfl) (.tmp 35) (.tmp 40) (by rfl) _ _ (by rfl) (by rfl) ([] ++ o.take p) [x] (by go_split_ands; assumption) (by first | assumption | exact World.ownsRow.alloc hown1 _) (by first | exact src_one _ _ _ | exact hkp1 _ _ rfl (src_one _ _ _)) (by simp <;> omega) ?_; intro v2 w2 hown2 hbe2 hkp2)
                | (refine step_ownB (wr := wr) (by rfl) (.tmp 41) (.tmp 44) (by rfl) _ _ (by rfl) (by rfl) ([] ++ o.take p ++ [x]) (o.drop p) (by go_split_ands; assumption) hown2 (src_drop Hcell.out (by go_split_ands; assumption) hb2) (by simp <;> omega) ?_; intro v3 w3 hown3 hbe3 hkp3))
            all_goals
              have HO3 := hide hown3
              have HB3 := hide hbe3
              clear hown1 hown2 hown3 hbe1 hbe2 hbe3 hkp1 hkp2 hkp3
              have hiw : IntKind.i64.wrap ((k : Int) + 1) = (k : Int) + 1 := IntWalk.i64_in _ (by omega)
              go_wp2_with fail
              go_roundw
              case rel => exact ⟨k + 1, by omega, by go_num, ins_row HO3.out HP.out Hsucc.out Hb.out.size, Hb.out.trans (HB3.out.mono Hb.out.size)⟩
              case measure => simp [intOf]; omega
          · have q1 : decide ((p : Int) < o.length) = false := by simp; omega
            go_wp2_with fail
            go_quiet (fail)
            go_wp2_with fail
            have hcp : p ≤ cap2 := by omega
            have hop2 : o.length ≤ p := by omega
            have hbk : (ad.add k).block < wr.heap.size := World.block_lt_of_cell? wr _ hx
            rcases Hown.out.2 with ⟨e, hz⟩ | ⟨g, capx, cur, e, hgb, hgg, hg1, hg2, hg3⟩
            · injection e with e1 e2 e3
              subst e1
              obtain rfl : p = 0 := by omega
              obtain rfl : cap2 = 0 := e3
              obtain rfl : o = [] := List.eq_nil_of_length_eq_zero (by omega)
              clear Hos e2 hz
              simp only [List.length_nil]
              go_region_held3 (fun w' => Below wr.heap.size wr w' ∧ w'.cell? (ad.add k) = some (.int .i64 x))
                (first | exact keepB hbk hx (by assumption) | exact keepA hbk hx (by assumption) _ | exact keepB hbk hx ((below_dn (Below.refl _ _) _).alloc (Nat.le_refl _) _) | exact keepB hbk hx ((below_dn (below_dn (Below.refl _ _) _) _).drew))
                (first
                  | (refine step_ownB (wr := wr) (by rfl) (.const (.slice none 0 0)) (.tmp 34) (by rfl) _ _ (by rfl) (by rfl) [] (([] : List Int).take 0) (by go_split_ands; assumption) (World.ownsRow_nil _ _ _ _) (src_none _ rfl) (by simp <;> omega) ?_; intro v1 w1 hown1 hbe1 hkp1)
                  | (refine step_ownB (wr := wr) (by rfl) (.tmp 35) (.tmp 40) (by rfl) _ _ (by rfl) (by rfl) ([] ++ ([] : List Int).take 0) [x] (by go_split_ands; assumption) (by first | assumption | exact World.ownsRow.alloc hown1 _) (by first | exact src_one _ _ _ | exact hkp1 _ _ rfl (src_one _ _ _)) (by simp <;> omega) ?_; intro v2 w2 hown2 hbe2 hkp2)
                  | (refine step_ownB (wr := wr) (by rfl) (.tmp 41) (.tmp 44) (by rfl) _ _ (by rfl) (by rfl) ([] ++ ([] : List Int).take 0 ++ [x]) (([] : List Int).drop 0) (by go_split_ands; assumption) hown2 (src_none _ rfl) (by simp <;> omega) ?_; intro v3 w3 hown3 hbe3 hkp3))
              all_goals
                have HO3 := hide hown3
                have HB3 := hide hbe3
                clear hown1 hown2 hown3 hbe1 hbe2 hbe3 hkp1 hkp2 hkp3
                have hiw : IntKind.i64.wrap ((k : Int) + 1) = (k : Int) + 1 := IntWalk.i64_in _ (by omega)
                go_wp2_with fail
                go_roundw
                case rel => exact ⟨k + 1, by omega, by go_num, ins_row HO3.out HP.out Hsucc.out Hb.out.size, Hb.out.trans (HB3.out.mono Hb.out.size)⟩
                case measure => simp [intOf]; omega
            · injection e with e1 e2 e3
              subst e1
              have hgl : g < wr.heap.size := (Array.getElem?_eq_some_iff.1 hgg).1
              have hcell : ∀ j, j < o.length → wr.cell? ⟨g, j, none⟩ = some (encI (o.getD j 0)) := fun j hj => by
                obtain ⟨b3, e, _, _, h⟩ := Hos.out j hj
                injection e with e; injection e with e; subst e
                rw [h, List.getD_eq_getElem?_getD, List.getElem?_eq_getElem hj]; rfl
              have Hcell := hide hcell
              clear hcell Hos hgg hg1 hg2 hg3 e3
              by_cases hcn : cap2 = p
              · have hcn' : p = cap2 := hcn.symm
                clear hcn
                subst hcn'
                go_region_held3 (fun w' => Below wr.heap.size wr w' ∧ w'.cell? (ad.add k) = some (.int .i64 x))
                  (first | exact keepB hbk hx (by assumption) | exact keepA hbk hx (by assumption) _ | exact keepB hbk hx ((below_dn (Below.refl _ _) _).alloc (Nat.le_refl _) _) | exact keepB hbk hx ((below_dn (below_dn (Below.refl _ _) _) _).drew))
                  (first
                    | (refine step_ownB (wr := wr) (by rfl) (.const (.slice none 0 0)) (.tmp 34) (by rfl) _ _ (by rfl) (by rfl) [] (o.take p) (by go_split_ands; assumption) (World.ownsRow_nil _ _ _ _) (src_take Hcell.out (by go_split_ands; assumption) hgl hpl) (by simp <;> omega) ?_; intro v1 w1 hown1 hbe1 hkp1)
                    | (refine step_ownB (wr := wr) (by rfl) (.tmp 35) (.tmp 40) (by rfl) _ _ (by rfl) (by rfl) ([] ++ o.take p) [x] (by go_split_ands; assumption) (by first | assumption | exact World.ownsRow.alloc hown1 _) (by first | exact src_one _ _ _ | exact hkp1 _ _ rfl (src_one _ _ _)) (by simp <;> omega) ?_; intro v2 w2 hown2 hbe2 hkp2)
                    | (refine step_ownB (wr := wr) (by rfl) (.tmp 41) (.tmp 44) (by rfl) _ _ (by rfl) (by rfl) ([] ++ o.take p ++ [x]) (o.drop p) (by go_split_ands; assumption) hown2 (src_end _ _ hop2 (by omega)) (by simp <;> omega) ?_; intro v3 w3 hown3 hbe3 hkp3))
                all_goals
                  have HO3 := hide hown3
                  have HB3 := hide hbe3
                  clear hown1 hown2 hown3 hbe1 hbe2 hbe3 hkp1 hkp2 hkp3
                  have hiw : IntKind.i64.wrap ((k : Int) + 1) = (k : Int) + 1 := IntWalk.i64_in _ (by omega)
                  go_wp2_with fail
                  go_roundw
                  case rel => exact ⟨k + 1, by omega, by go_num, ins_row HO3.out HP.out Hsucc.out Hb.out.size, Hb.out.trans (HB3.out.mono Hb.out.size)⟩
                  case measure => simp [intOf]; omega
              · go_region_held3 (fun w' => Below wr.heap.size wr w' ∧ w'.cell? (ad.add k) = some (.int .i64 x))
                  (first | exact keepB hbk hx (by assumption) | exact keepA hbk hx (by assumption) _ | exact keepB hbk hx ((below_dn (Below.refl _ _) _).alloc (Nat.le_refl _) _) | exact keepB hbk hx ((below_dn (below_dn (Below.refl _ _) _) _).drew))
                  (first
                    | (refine step_ownB (wr := wr) (by rfl) (.const (.slice none 0 0)) (.tmp 34) (by rfl) _ _ (by rfl) (by rfl) [] (o.take p) (by go_split_ands; assumption) (World.ownsRow_nil _ _ _ _) (src_take Hcell.out (by go_split_ands; assumption) hgl hpl) (by simp <;> omega) ?_; intro v1 w1 hown1 hbe1 hkp1)
                    | (refine step_ownB (wr := wr) (by rfl) (.tmp 35) (.tmp 40) (by rfl) _ _ (by rfl) (by rfl) ([] ++ o.take p) [x] (by go_split_ands; assumption) (by first | assumption | exact World.ownsRow.alloc hown1 _) (by first | exact src_one _ _ _ | exact hkp1 _ _ rfl (src_one _ _ _)) (by simp <;> omega) ?_; intro v2 w2 hown2 hbe2 hkp2)
                    | (refine step_ownB (wr := wr) (by rfl) (.tmp 41) (.tmp 44) (by rfl) _ _ (by rfl) (by rfl) ([] ++ o.take p ++ [x]) (o.drop p) (by go_split_ands; assumption) hown2 (src_end _ _ hop2 (by omega)) (by simp <;> omega) ?_; intro v3 w3 hown3 hbe3 hkp3))
                all_goals
                  have HO3 := hide hown3
                  have HB3 := hide hbe3
                  clear hown1 hown2 hown3 hbe1 hbe2 hbe3 hkp1 hkp2 hkp3
                  have hiw : IntKind.i64.wrap ((k : Int) + 1) = (k : Int) + 1 := IntWalk.i64_in _ (by omega)
                  go_wp2_with fail
                  go_roundw
                  case rel => exact ⟨k + 1, by omega, by go_num, ins_row HO3.out HP.out Hsucc.out Hb.out.size, Hb.out.trans (HB3.out.mono Hb.out.size)⟩
                  case measure => simp [intOf]; omega
    · obtain rfl : k = len := by omega
      have hol : (refL (zs.take k)).length = k := by rw [refL_len, List.length_take]; omega
      have htk : zs.take k = zs := List.take_of_length_le (by omega)
      rw [htk] at hol hown
      obtain ⟨A2, cap2, rfl, hos⟩ := row_cells hown
      obtain ⟨b2, rfl, hb1, hb2, hc2⟩ := hos ((zs.length - 1) / 2) (by omega)
      have em : (refL zs)[(zs.length - 1) / 2]'(by omega) = midL zs := by
        rw [← refL_mid, List.getD_eq_getElem?_getD, List.getElem?_eq_getElem (by omega)]; rfl
      rw [em] at hc2
      have hix : ((k : Int) - 1).tdiv 2 = (((zs.length - 1) / 2 : Nat) : Int) := by
        rw [Int.tdiv_eq_ediv_of_nonneg (by omega)]; omega
      have hk1 : 1 ≤ k := by omega
      have hm1 : (zs.length - 1) / 2 < k := by omega
      rw [hol]
      obtain ⟨m, hm⟩ : ∃ m, (zs.length - 1) / 2 = m := ⟨_, rfl⟩
      rw [hm] at hc2 hix hm1
      have Hb := hide hb
      clear hm em hos hown htk hol hb Hl
      go_wp2_with fail
      go_ret
      exact ⟨rfl, Hb.out⟩

end Go.Proofs.Ytciooimbhabccaa
