/- Both voters: Reset, at every list; Put at every channel; Channel out of range; what stays calm. -/
import Derived.Test.YtciooimbhabccaaAF
import Derived.Test.YtciooimbhabccaaN
namespace Go.Proofs.Ytciooimbhabccaa
open Go.RowKit

/-! ### plain -/
def hit (l : List Int) (k : Nat) : Bool := decide (l = []) || decide ((k : Int) ∈ l)
def rsetS (S : VS) (l : List Int) : VS := if l = [] then [0, 1, 2].foldl reset1 S else l.foldl reset1 S
def rr (S : VS) (l : List Int) (j : Nat) : VS := { S with b := fun k => if k < j ∧ hit l k = true then false else S.b k, s := fun k => if k < j ∧ hit l k = true then 0 else S.s k }
theorem fold_reset (l : List Int) : ∀ S : VS, (∀ k, k < 3 → (l.foldl reset1 S).b k = (if (k : Int) ∈ l then false else S.b k) ∧ (l.foldl reset1 S).s k = (if (k : Int) ∈ l then 0 else S.s k)) ∧ (l.foldl reset1 S).x = S.x ∧ (l.foldl reset1 S).t = S.t ∧ (l.foldl reset1 S).tol = S.tol ∧ (l.foldl reset1 S).stale = S.stale ∧ (l.foldl reset1 S).strikes = S.strikes ∧ (l.foldl reset1 S).last = S.last := by
  induction l with
  | nil => intro S; exact ⟨fun k _ => by simp, rfl, rfl, rfl, rfl, rfl, rfl⟩
  | cons i l ih =>
    intro S
    rw [List.foldl_cons]
    obtain ⟨h1, h2, h3, h4, h5, h6, h7⟩ := ih (reset1 S i)
    have e : (∀ k, k < 3 → (reset1 S i).b k = (if (k : Int) = i then false else S.b k) ∧ (reset1 S i).s k = (if (k : Int) = i then 0 else S.s k)) ∧ (reset1 S i).x = S.x ∧ (reset1 S i).t = S.t ∧ (reset1 S i).tol = S.tol ∧ (reset1 S i).stale = S.stale ∧ (reset1 S i).strikes = S.strikes ∧ (reset1 S i).last = S.last := by
      unfold reset1
      split
      · rename_i hi
        refine ⟨fun k _ => ?_, rfl, rfl, rfl, rfl, rfl, rfl⟩
        have : (k = i.toNat) = ((k : Int) = i) := by apply propext; omega
        simp only [upd, this, and_self]
      · rename_i hi
        refine ⟨fun k hk => ?_, rfl, rfl, rfl, rfl, rfl, rfl⟩
        have : ¬ (k : Int) = i := by omega
        simp only [this, if_false, and_self]
    obtain ⟨e1, e2, e3, e4, e5, e6, e7⟩ := e
    refine ⟨fun k hk => ?_, h2.trans e2, h3.trans e3, h4.trans e4, h5.trans e5, h6.trans e6, h7.trans e7⟩
    obtain ⟨a, b⟩ := h1 k hk
    obtain ⟨c, d⟩ := e1 k hk
    rw [a, b, c, d]
    by_cases h : (k : Int) ∈ l <;> by_cases h' : (k : Int) = i <;> simp [h, h']
theorem rsetS_at (S : VS) (l : List Int) : (∀ k, k < 3 → (rsetS S l).b k = (if hit l k = true then false else S.b k) ∧ (rsetS S l).s k = (if hit l k = true then 0 else S.s k)) ∧ (rsetS S l).x = S.x ∧ (rsetS S l).t = S.t ∧ (rsetS S l).tol = S.tol ∧ (rsetS S l).stale = S.stale ∧ (rsetS S l).strikes = S.strikes ∧ (rsetS S l).last = S.last := by
  unfold rsetS
  by_cases h : l = []
  · rw [if_pos h]
    obtain ⟨h1, h2⟩ := fold_reset [0, 1, 2] S
    refine ⟨fun k hk => ?_, h2⟩
    obtain ⟨a, b⟩ := h1 k hk
    have hm : (k : Int) ∈ ([0, 1, 2] : List Int) := by simp; omega
    rw [a, b, if_pos hm, if_pos hm]
    simp [hit, h]
  · rw [if_neg h]
    obtain ⟨h1, h2⟩ := fold_reset l S
    refine ⟨fun k hk => ?_, h2⟩
    obtain ⟨a, b⟩ := h1 k hk
    rw [a, b]
    simp [hit, h]
theorem rr_cells (S : VS) (l : List Int) : (rr S l 3).rcells = (rsetS S l).rcells := by
  obtain ⟨h, hx, ht, h1, h2, h3, h4⟩ := rsetS_at S l
  obtain ⟨b0, s0⟩ := h 0 (by omega)
  obtain ⟨b1, s1⟩ := h 1 (by omega)
  obtain ⟨b2, s2⟩ := h 2 (by omega)
  unfold VS.rcells
  rw [hx, ht, h1, h2, h3, h4, b0, b1, b2, s0, s1, s2]
  simp [rr]
theorem rr_succ_hit {S : VS} {l : List Int} {j : Nat} (h : hit l j = true) : rr S l (j + 1) = { rr S l j with b := upd (rr S l j).b j false, s := upd (rr S l j).s j 0 } := by
  unfold rr
  simp only [VS.mk.injEq, true_and, and_true]
  constructor
  · funext k
    unfold upd
    by_cases hk : k = j
    · subst hk; simp [h]
    · have : (k < j + 1) = (k < j) := by apply propext; omega
      simp [hk, this]
  · funext k
    unfold upd
    by_cases hk : k = j
    · subst hk; simp [h]
    · have : (k < j + 1) = (k < j) := by apply propext; omega
      simp [hk, this]
theorem rr_succ_miss {S : VS} {l : List Int} {j : Nat} (h : hit l j = false) : rr S l (j + 1) = rr S l j := by
  unfold rr
  simp only [VS.mk.injEq, true_and, and_true]
  constructor
  · funext k
    by_cases hk : k = j
    · subst hk; simp [h]
    · have : (k < j + 1) = (k < j) := by apply propext; omega
      simp [this]
  · funext k
    by_cases hk : k = j
    · subst hk; simp [h]
    · have : (k < j + 1) = (k < j) := by apply propext; omega
      simp [this]

theorem calm_new {tol stale strikes : Int} (h : newB tol stale strikes = true) : Calm (newS tol stale strikes) := fun k _ _ => by
  have : 1 ≤ strikes := by simp [newB] at h; omega
  show (0 : Int) < strikes
  omega
theorem calm_put {S : VS} (h : Calm S) (i x tick : Int) : Calm (putS S i x tick) := by
  unfold putS; split
  · exact h
  · exact h
theorem calm_reset {S : VS} (h : Calm S) (hs : 1 ≤ S.strikes) (l : List Int) : Calm (rsetS S l) := fun k hk hb => by
  obtain ⟨hq, _, _, _, _, h3, _⟩ := rsetS_at S l
  obtain ⟨b, s⟩ := hq k hk
  rw [h3, s]
  rw [b] at hb
  by_cases hh : hit l k = true
  · rw [if_pos hh]; omega
  · rw [if_neg hh] at hb ⊢
    exact h k hk hb
theorem fin_at (m k : Nat) (l : List Nat) : ∀ P : VS, k ∈ l → (m = 1 → (l.foldl (fin1 m) P).b k = true) ∧ (m ≠ 1 → (l.foldl (fin1 m) P).s k = P.strikes - 1) := by
  induction l with
  | nil => intro P h; cases h
  | cons i l ih =>
    intro P h
    rw [List.foldl_cons]
    have hst : (fin1 m P i).strikes = P.strikes := by unfold fin1; split <;> rfl
    by_cases hk : k ∈ l
    · obtain ⟨a, b⟩ := ih (fin1 m P i) hk
      rw [hst] at b
      exact ⟨a, b⟩
    · have hki : k = i := (List.mem_cons.1 h).resolve_right hk
      subst hki
      refine ⟨fun hm => ?_, fun hm => ?_⟩
      · rw [fin_b _ _ _ _ hk]; unfold fin1; rw [if_pos hm]; simp [upd]
      · have : ∀ (l : List Nat) (P : VS), k ∉ l → (l.foldl (fin1 m) P).s k = P.s k := by
          intro l
          induction l with
          | nil => intro P _; rfl
          | cons i l ih2 =>
            intro P hkl
            rw [List.foldl_cons, ih2 _ (fun h => hkl (List.mem_cons_of_mem _ h))]
            have hne : k ≠ i := fun e => hkl (e ▸ List.mem_cons_self)
            unfold fin1; split
            · rfl
            · simp [upd, hne]
        rw [this l _ hk]; unfold fin1; rw [if_neg hm]; simp [upd]
theorem fin_s (m k : Nat) (l : List Nat) : ∀ P : VS, k ∉ l → (l.foldl (fin1 m) P).s k = P.s k := by
  induction l with
  | nil => intro P _; rfl
  | cons i l ih2 =>
    intro P hkl
    rw [List.foldl_cons, ih2 _ (fun h => hkl (List.mem_cons_of_mem _ h))]
    have hne : k ≠ i := fun e => hkl (e ▸ List.mem_cons_self)
    unfold fin1; split
    · rfl
    · simp [upd, hne]
theorem calm_vote {S : VS} (h : Calm S) (hs : 1 ≤ S.strikes) (now : Int) : Calm (voteS S now) := by
  unfold voteS
  split
  · exact h
  · split
    · intro k hk hb
      have ho := out_iff h hs now k hk
      have hst : ((cnt S now 3).foldl stp (vote1 S now, [])).1.strikes = S.strikes := (stp_keeps _ _).2.2.2.2.2.1
      rw [(strike_keeps _ _).2.2.2]
      unfold strikeS at hb ⊢
      by_cases hm : k ∈ ((cnt S now 3).foldl stp (vote1 S now, [])).2
      · obtain ⟨a, b⟩ := fin_at ((cnt S now 3).foldl stp (vote1 S now, [])).2.length k _ ((cnt S now 3).foldl stp (vote1 S now, [])).1 hm
        by_cases h1 : ((cnt S now 3).foldl stp (vote1 S now, [])).2.length = 1
        · rw [a h1] at hb; cases hb
        · rw [b h1, hst]; show S.strikes - 1 < S.strikes; omega
      · rw [fin_s _ _ _ _ hm]
        rw [fin_b _ _ _ _ hm] at hb
        have := mt ho.2 hm
        rw [hb] at this
        simp at this
        exact this
    · exact h
theorem rsetS_ok {B : Int} {S : VS} (h : S.ok B) (l : List Int) : (rsetS S l).ok B := by
  have : ∀ (l : List Int) (S : VS), S.ok B → (l.foldl reset1 S).ok B := by
    intro l
    induction l with
    | nil => intro S h; exact h
    | cons i l ih => intro S h; rw [List.foldl_cons]; exact ih _ (reset_ok h i)
  unfold rsetS; split
  · exact this _ _ h
  · exact this _ _ h

/-! ### walks -/
set_option maxRecDepth 100000 in
set_option maxHeartbeats 2000000 in
theorem rreset_any {w : World} {rp : Nat} {S : VS} (h : Blk w rp 61 S.rcells) (l : List Int) (hlen : l.length ≤ 1000000) (A : Option Addr) (cap : Nat) (hrow : 0 < l.length → ∃ g off, A = some ⟨g, off, none⟩ ∧ g ≠ rp ∧ g < w.heap.size ∧ ∀ j (hj : j < l.length), w.cell? ⟨g, off + j, none⟩ = some (.int .i64 l[j])) :
    Calls Try.prog 25 #[.pointer (some ⟨rp, 0, none⟩), .slice A l.length cap] w fun e w' => e = .returned (.tuple #[]) ∧ Blk w' rp 61 (rsetS S l).rcells ∧ w.grownBy w' (some rp) := by
  have H := hide h
  have Hrow := hide hrow
  have Hcells := hide (rr_cells S l)
  clear h hrow
  go_enter Try.func25, Try.ntmps25
  go_wp2_with fail
  go_loopw [4] (fun i wr => ∃ j : Nat, j ≤ 3 ∧ i = .int .i64 j ∧ Blk wr rp 61 (rr S l j).rcells ∧ w.grownBy wr (some rp)) (fun i _ => 3 - (intOf i).toNat)
  case atStart => exact ⟨0, by omega, rfl, by simpa [rr] using H.out, grown_refl _ _⟩
  case round =>
    obtain ⟨j, hj, rfl, hB, hg⟩ := hrel
    by_cases hj3 : j < 3
    · have hi0 : (0 : Int) ≤ (j : Int) := Int.natCast_nonneg _
      have hi1 : (j : Int) < 3 := by omega
      have HB := hide hB
      have HG := hide hg
      have fz := hB.frozen
      have cb : wr.cell? ⟨rp, 12 + j, none⟩ = some (.bool ((rr S l j).b j)) := by rw [hB.cell, rc_b _ j hj3]
      have cs : wr.cell? ⟨rp, 9 + j, none⟩ = some (.int .i64 ((rr S l j).s j)) := by rw [hB.cell, rc_s _ j hj3]
      clear hB hg
      obtain ⟨wk, hwk⟩ : ∃ wk, wk = wr := ⟨_, rfl⟩
      subst hwk
      go_wp2_with fail
      go_loop [5, 6] (fun h i => ∃ k : Nat, k ≤ l.length ∧ i = .int .i64 k ∧ h = .bool (((l.length : Int) == 0) || decide ((j : Int) ∈ l.take k))) (fun _ i => l.length - (intOf i).toNat)
      case atStart => exact ⟨0, Nat.zero_le _, rfl, by rw [List.take_zero]; simp only [List.not_mem_nil, decide_false, Bool.or_false]⟩
      case round =>
        obtain ⟨k, hk, rfl, rfl⟩ := hrel
        by_cases hkl : k < l.length
        · obtain ⟨g, off, rfl, hgr, hgl, hcs⟩ := Hrow.out (by omega)
          have hcx : wk.cell? ⟨g, off + k, none⟩ = some (.int .i64 l[k]) := (World.cell?_of_block (HG.out.block g hgl (fun e => hgr (by injection e)))).trans (hcs k hkl)
          have hsucc : (decide ((j : Int) ∈ l.take (k + 1))) = (decide ((j : Int) ∈ l.take k) || (l[k] == (j : Int))) := by
            rw [List.take_succ_eq_append_getElem hkl, Bool.eq_iff_iff]
            simp only [List.mem_append, List.mem_singleton, decide_eq_true_eq, Bool.or_eq_true, beq_iff_eq]
            exact or_congr Iff.rfl eq_comm
          have hl0 : ((l.length : Int) == 0) = false := by rw [beq_eq_false_iff_ne]; omega
          have Hsucc := hide hsucc
          obtain ⟨x, hx⟩ : ∃ x, l[k] = x := ⟨_, rfl⟩
          rw [hx] at hcx Hsucc
          obtain ⟨M, hM⟩ : ∃ M, decide ((j : Int) ∈ l.take k) = M := ⟨_, rfl⟩
          rw [hM] at Hsucc ⊢
          clear hcs hsucc hx hM
          rw [hl0, Bool.false_or]
          have Hl0 := hide hl0
          clear hl0
          cases M
          · by_cases hxj : x = (j : Int)
            · have dx : (x == (j : Int)) = true := by simp [hxj]
              have Dx := hide dx
              clear hxj
              go_wp2_with fail
              go_round
              case rel => exact ⟨k + 1, by omega, by go_num, by first | (rw [Hl0.out, Hsucc.out, Dx.out]; rfl) | (rw [Hsucc.out, Dx.out]; rfl)⟩
              case measure => simp [intOf]; omega
            · have dx : (x == (j : Int)) = false := by simp [hxj]
              have Dx := hide dx
              clear hxj
              go_wp2_with fail
              go_round
              case rel => exact ⟨k + 1, by omega, by go_num, by first | (rw [Hl0.out, Hsucc.out, Dx.out]; rfl) | (rw [Hsucc.out, Dx.out]; rfl)⟩
              case measure => simp [intOf]; omega
          · go_wp2_with fail
            go_round
            case rel => exact ⟨k + 1, by omega, by go_num, by first | (rw [Hl0.out, Hsucc.out]; rfl) | (rw [Hsucc.out]; rfl)⟩
            case measure => simp [intOf]; omega
        · obtain rfl : k = l.length := by omega
          have hh : (((l.length : Int) == 0) || decide ((j : Int) ∈ l.take l.length)) = hit l j := by
            rw [List.take_length]; unfold hit
            congr 1
            rw [Bool.eq_iff_iff, beq_iff_eq, decide_eq_true_eq, ← List.length_eq_zero_iff]
            omega
          rw [hh]
          clear hh
          cases hht : hit l j
          · have Hm := hide (rr_succ_miss (S := S) hht)
            clear hht
            go_wp2_with fail
            go_roundw
            case rel => exact ⟨j + 1, by omega, by go_num, by rw [Hm.out]; exact HB.out, HG.out⟩
            case measure => simp [intOf]; omega
          · have Hm := hide (rr_succ_hit (S := S) hht)
            have h1 : ∀ W, Blk W rp 61 (rr S l j).rcells → Blk ((W.setCell ⟨rp, 12 + j, none⟩ (.bool false)).setCell ⟨rp, 9 + j, none⟩ (.int .i64 0)) rp 61 (rr S l (j + 1)).rcells := fun W hW => by
              have a := hW.set (12 + j) (.bool false)
              rw [rs_b _ j hj3] at a
              have b := a.set (9 + j) (.int .i64 0)
              rw [rs_s _ j hj3] at b
              rw [Hm.out]; exact b
            have h2 : ∀ W, Blk W rp 61 (rr S l j).rcells → Blk ((W.setCell ⟨rp, 9 + j, none⟩ (.int .i64 0)).setCell ⟨rp, 12 + j, none⟩ (.bool false)) rp 61 (rr S l (j + 1)).rcells := fun W hW => by
              have a := hW.set (9 + j) (.int .i64 0)
              rw [rs_s _ j hj3] at a
              have b := a.set (12 + j) (.bool false)
              rw [rs_b _ j hj3] at b
              rw [Hm.out]; exact b
            have HH1 := hide h1
            have HH2 := hide h2
            clear hht h1 h2
            go_wp2_with fail
            go_region
            all_goals
              go_wp2_with fail
              go_roundw
              case rel => exact ⟨j + 1, by omega, by go_num, by first | exact HH1.out _ HB.out.drew | exact HH2.out _ HB.out.drew, grown_trans HG.out (grown_trans (grown_drew _ _) (grown_trans (grown_set _ _ _ _) (grown_set _ _ _ _)))⟩
              case measure => simp [intOf]; omega
    · obtain rfl : j = 3 := by omega
      rw [Hcells.out] at hB
      have HB := hide hB
      have HG := hide hg
      clear hB hg
      go_wp2_with fail
      first | go_end0 | (refine bodyPost_ret (results_none rfl _ _ _) rfl ?_)
      exact ⟨rfl, HB.out, HG.out⟩

end Go.Proofs.Ytciooimbhabccaa
