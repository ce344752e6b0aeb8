/- The contract of Hear. -/
import Derived.Test.YtmcncdiiiplhcaaD
namespace Go.Proofs.Ytmcncdiiiplhcaa
open Go.RowKit Go.Maps

def newerB (g : Known) (f : Fr) : Bool := !(g f.frm).isSome || decide (tOf g f.frm < f.tick)
def takesB (own n : Int) (g : Known) (f : Fr) : Bool := rightB own n f && newerB g f
def hear1 (own n : Int) (g : Known) (f : Fr) : Known := if takesB own n g f = true then putK g f.frm (f.num.tdiv 4294967296) f.tick else g
def hearK (own n : Int) (g : Known) (fr : Nat → Fr) : Nat → Known
  | 0 => g
  | k + 1 => hear1 own n (hearK own n g fr k) (fr k)
def hearN (own n : Int) (g : Known) (fr : Nat → Fr) : Nat → Nat
  | 0 => 0
  | k + 1 => hearN own n g fr k + if takesB own n (hearK own n g fr k) (fr k) = true then 1 else 0
theorem hearN_le (own n : Int) (g : Known) (fr : Nat → Fr) (k : Nat) : hearN own n g fr k ≤ k := by
  induction k with
  | zero => exact Nat.le_refl _
  | succ k ih => simp only [hearN]; split <;> omega

/-- the frames fr 0 .. fr (m - 1) lie behind A -/
def FramesAt (w : World) (B : Nat) (A : Option Addr) (m : Nat) (fr : Nat → Fr) : Prop :=
  (∀ i, i < m → (fr i).At w B ∧ (Lit.int .i64 (fr i).frm).wf = true) ∧ (0 < m → ∃ b off, A = some ⟨b, off, none⟩ ∧ b < B ∧ ∀ i, i < m → ∀ j v, (fr i).vals[j]? = some v → w.cell? ⟨b, off + i * 5 + j, none⟩ = some v)

theorem FramesAt.below {w w' : World} {B : Nat} {A : Option Addr} {m : Nat} {fr : Nat → Fr} (h : FramesAt w B A m fr) (hb : Below B w w') : FramesAt w' B A m fr := by
  refine ⟨fun i hi => ⟨(h.1 i hi).1.below hb, (h.1 i hi).2⟩, fun hm => ?_⟩
  obtain ⟨b, off, e, hB, hc⟩ := h.2 hm
  exact ⟨b, off, e, hB, fun i hi j v hv => (hb.cell (p := ⟨b, off + i * 5 + j, none⟩) hB).trans (hc i hi j v hv)⟩

theorem cell_grown {w w' : World} {row : Option Nat} (hg : w.grownBy w' row) {a : Addr} (hlt : a.block < w.heap.size) (hne : some a.block ≠ row) : w'.cell? a = w.cell? a :=
  World.cell?_of_block (hg.block a.block hlt hne)
/-- a cell that is there lies in no map's block -/
theorem ne_of_cell {w : World} {b N : Nat} {g : Known} (h : IsHeard w b N g) {a : Addr} {v : Value} (hc : w.cell? a = some v) : a.block ≠ b := by
  rintro rfl
  obtain ⟨D, ⟨es, c, hb, _⟩, _⟩ := h
  simp [World.cell?, hb] at hc

theorem drop_of_div {x : Int} (h1 : -9223372036854775808 ≤ x) (h2 : x ≤ 9223372036854775807) : -2147483648 ≤ x.tdiv 4294967296 ∧ x.tdiv 4294967296 ≤ 2147483647 := by
  rcases Int.le_total 0 x with h | h
  · rw [Int.tdiv_eq_ediv_of_nonneg h]; omega
  · have e : x.tdiv 4294967296 = -((-x) / 4294967296) := by
      rw [← Int.neg_neg x, Int.neg_tdiv, Int.tdiv_eq_ediv_of_nonneg (by omega), Int.neg_neg]
    rw [e]; omega

/-- what one frame leaves of the peers -/
theorem Peers.put {w w' : World} {bp bm N : Nat} {own n stale : Int} {g : Known} (h : Peers w bp bm N own n stale g) {k a t : Int} (hH : IsHeard w' bm (N + 1) (putK g k a t)) (hg : w.grownBy w' (some bm))
    (k0 : 0 ≤ k) (k1 : k < n) (k2 : k ≠ own) (a0 : -2147483648 ≤ a) (a1 : a ≤ 2147483647) (t0 : 0 ≤ t) (t1 : t ≤ 140737488355327) : Peers w' bp bm (N + 1) own n stale (putK g k a t) :=
  { blk := h.blk.grown hg (fun e => h.ne (by injection e)), map := hH, n1 := h.n1, n8 := h.n8, o0 := h.o0, on := h.on, s0 := h.s0, s1 := h.s1,
    keys := fun j p hp => by
      unfold putK at hp
      split at hp
      · rename_i e
        subst e
        cases hp
        exact ⟨k0, k1, k2, a0, a1, t0, t1⟩
      · exact h.keys j p hp }
theorem Peers.mono {w : World} {bp bm N N' : Nat} {own n stale : Int} {g : Known} (h : Peers w bp bm N own n stale g) (hN : N ≤ N') : Peers w bp bm N' own n stale g := { h with map := h.map.mono hN }

theorem grown_below {a w w' : World} {row : Option Nat} (h : a.grownBy w row) (hb : Below w.heap.size w w') : a.grownBy w' row :=
  ⟨hb.os.trans h.os, hb.tape.trans h.tape, hb.output.trans h.output, Nat.le_trans h.size hb.size, fun i hi hn => (hb.block i (Nat.lt_of_lt_of_le hi h.size)).trans (h.block i hi hn)⟩
theorem grown_grown {a w w' : World} {b : Nat} (h : a.grownBy w (some b)) (hb : w.grownBy w' (some b)) : a.grownBy w' (some b) :=
  ⟨hb.os.trans h.os, hb.tape.trans h.tape, hb.output.trans h.output, Nat.le_trans h.size hb.size, fun i hi hn => (hb.block i (Nat.lt_of_lt_of_le hi h.size) hn).trans (h.block i hi hn)⟩

theorem hear_keep {w wr W : World} {bp bm N k : Nat} {own n stale : Int} {g : Known} {fr : Nat → Fr} (hP : Peers wr bp bm (N + k) own n stale (hearK own n g fr k)) (hg : w.grownBy wr (some bm)) (hB : Below wr.heap.size wr W)
    (e : takesB own n (hearK own n g fr k) (fr k) = false) : Peers W bp bm (N + (k + 1)) own n stale (hearK own n g fr (k + 1)) ∧ w.grownBy W (some bm) ∧ hearN own n g fr (k + 1) = hearN own n g fr k := by
  have e1 : hearK own n g fr (k + 1) = hearK own n g fr k := by simp [hearK, hear1, e]
  have e2 : hearN own n g fr (k + 1) = hearN own n g fr k := by simp [hearN, e]
  rw [e1, e2]
  exact ⟨(hP.below hB hP.lt.1 hP.lt.2).mono (by omega), grown_below hg hB, rfl⟩
theorem hear_take {w wr W W' : World} {bp bm N k : Nat} {own n stale : Int} {g : Known} {fr : Nat → Fr} (hP : Peers wr bp bm (N + k) own n stale (hearK own n g fr k)) (hg : w.grownBy wr (some bm)) (hB : Below wr.heap.size wr W)
    (e : takesB own n (hearK own n g fr k) (fr k) = true) (hH : IsHeard W' bm (N + k + 1) (putK (hearK own n g fr k) (fr k).frm ((fr k).num.tdiv 4294967296) (fr k).tick)) (hg2 : W.grownBy W' (some bm))
    (hn1 : -9223372036854775808 ≤ (fr k).num) (hn2 : (fr k).num ≤ 9223372036854775807) :
    Peers W' bp bm (N + (k + 1)) own n stale (hearK own n g fr (k + 1)) ∧ w.grownBy W' (some bm) ∧ hearN own n g fr (k + 1) = hearN own n g fr k + 1 := by
  have e1 : hearK own n g fr (k + 1) = putK (hearK own n g fr k) (fr k).frm ((fr k).num.tdiv 4294967296) (fr k).tick := by simp [hearK, hear1, e]
  have e2 : hearN own n g fr (k + 1) = hearN own n g fr k + 1 := by simp [hearN, e]
  have hr : rightB own n (fr k) = true := by
    unfold takesB at e
    simp at e
    exact e.1
  obtain ⟨_, r1, r2, r3, r4, r5, _⟩ := rightB_true hr
  obtain ⟨d1, d2⟩ := drop_of_div hn1 hn2
  rw [e1, e2]
  exact ⟨(hP.below hB hP.lt.1 hP.lt.2).put hH hg2 r1 r2 r3 d1 d2 r4 r5, grown_grown (grown_below hg hB) hg2, rfl⟩

set_option maxRecDepth 100000 in
set_option maxHeartbeats 1600000 in
theorem hear_any {w : World} {bp bm N : Nat} {own n stale : Int} {g : Known} (h : Peers w bp bm N own n stale g) (A : Option Addr) (m cap : Nat) (fr : Nat → Fr) (hf : FramesAt w w.heap.size A m fr) (hm : m ≤ 1000000) (hN : N ≤ 1000000000) :
    Calls Try.prog 9 #[.pointer (some ⟨bp, 0, none⟩), .slice A m cap] w fun e w' => e = .returned (.int .i64 (hearN own n g fr m)) ∧ Peers w' bp bm (N + m) own n stale (hearK own n g fr m) ∧ w.grownBy w' (some bm) := by
  have Hn := hide (none_any h)
  obtain ⟨l1, l2⟩ := h.lt
  have HP := hide h
  clear h
  have HF := hide hf
  clear hf
  go_enter Try.func9, Try.ntmps9
  go_wp2_with (first
    | (go_at_call 17; refine Hn.out.mono ?_; rintro e w' ⟨rfl, rfl⟩))
  go_loopw [5, 14] (fun c i wr => ∃ k : Nat, k ≤ m ∧ i = .int .i64 k ∧ c = .int .i64 (hearN own n g fr k) ∧ Peers wr bp bm (N + k) own n stale (hearK own n g fr k) ∧ w.grownBy wr (some bm)) (fun _ i _ => m - (intOf i).toNat)
  case atStart => exact ⟨0, Nat.zero_le _, rfl, rfl, HP.out, World.grownBy.refl _ _⟩
  case round =>
    obtain ⟨k, hk, rfl, rfl, hP, hg⟩ := hrel
    by_cases hlt : k < m
    · obtain ⟨hAt, hwf⟩ := HF.out.1 k hlt
      obtain ⟨b, off, rfl, hb, hc⟩ := HF.out.2 (by omega)
      have hcell : ∀ j v, (fr k).vals[j]? = some v → wr.cell? ⟨b, off + k * 5 + j, none⟩ = some v := fun j v hv =>
        (cell_grown hg hb (fun e => ne_of_cell HP.out.map (hc k hlt j v hv) (by injection e))).trans (hc k hlt j v hv)
      have hAt2 : (fr k).At wr w.heap.size := fun e => by
        obtain ⟨ad, e1, e2, e3, e4⟩ := hAt e
        exact ⟨ad, e1, e2, (cell_grown hg e2 (fun e => ne_of_cell HP.out.map e3 (by injection e))).trans e3, e4⟩
      clear hAt
      have HK1 := fun W hB e => hide (hear_keep (W := W) hP hg hB e)
      have HK2 := fun W W' hB e hH hg2 hn1 hn2 => hide (hear_take (W := W) (W' := W') hP hg hB e hH hg2 hn1 hn2)
      have hbd := hearN_le own n g fr k
      obtain ⟨f, hfk⟩ : ∃ f, f = fr k := ⟨_, rfl⟩
      rw [← hfk] at hcell hAt2 hwf HK1 HK2
      clear hfk
      have hs1 := hg.size
      have c0 : wr.cell? ⟨b, off + k * 5, none⟩ = some (.int .i64 f.kind) := hcell 0 _ rfl
      have c1 : wr.cell? ⟨b, off + k * 5 + 1, none⟩ = some (.int .i64 f.frm) := hcell 1 _ rfl
      have c2 : wr.cell? ⟨b, off + k * 5 + 2, none⟩ = some (.int .i64 f.tick) := hcell 2 _ rfl
      have c3 : wr.cell? ⟨b, off + k * 5 + 3, none⟩ = some (.slice f.A f.len f.cap) := hcell 3 _ rfl
      have c4 : wr.cell? ⟨b, off + k * 5 + 4, none⟩ = some (.string f.data) := hcell 4 _ rfl
      clear hcell hc
      have hP1 := (hP.alloc (.cells f.vals 32)).alloc (.cells f.vals 32)
      have hr := right_any (hP.alloc (.cells f.vals 32)) f ((hAt2.below ((Below.refl _ _).alloc hs1 _)).more (by simp; omega))
      have Htk : Hid (takesB own n (hearK own n g fr k) f = (rightB own n f && (!(hearK own n g fr k f.frm).isSome || decide (tOf (hearK own n g fr k) f.frm < f.tick)))) := hide rfl
      have hrt : rightB own n f = true → f.len = 1 := fun e => (rightB_true e).1
      have hlk := hP1.drew.map.look (k := f.frm) hwf
      have hlk2 := (hP1.alloc (.cells #[.int .i64 0, .int .i64 0] 56)).drew.map.look (k := f.frm) hwf
      have b3 := hP1.blk.cell 3
      have b4 := (hP1.alloc (.cells #[.int .i64 0, .int .i64 0] 56)).blk.cell 3
      have hP3 := hP1.alloc (.cells #[.int .i64 (hOf (hearK own n g fr k) f.frm), .int .i64 (tOf (hearK own n g fr k) f.frm)] 56)
      have b5 := hP3.blk.cell 3
      simp at b3 b4 b5
      have hst : rightB own n f = true → ∃ w2, (Instr.mapUpdate 43 (.map (some bm)) (.int .i64 f.frm) (.agg #[.int .i64 (f.num.tdiv 4294967296), .int .i64 f.tick])).run Try.prog
          (((wr.alloc (.cells f.vals 32)).alloc (.cells f.vals 32)).alloc (.cells #[.int .i64 (hOf (hearK own n g fr k) f.frm), .int .i64 (tOf (hearK own n g fr k) f.frm)] 56)).drew.drew = .ok () w2 ∧
          IsHeard w2 bm (N + k + 1) (putK (hearK own n g fr k) f.frm (f.num.tdiv 4294967296) f.tick) ∧ (((wr.alloc (.cells f.vals 32)).alloc (.cells f.vals 32)).alloc (.cells #[.int .i64 (hOf (hearK own n g fr k) f.frm), .int .i64 (tOf (hearK own n g fr k) f.frm)] 56)).drew.drew.grownBy w2 (some bm) :=
        fun _ => hP3.drew.drew.map.store (by unfold maxLen; omega) hwf
      clear hP1 hP3
      simp only [Fr.vals] at hr hlk hlk2 b3 b4 b5 hst
      have Hr := hide hr
      clear hr
      have hB2 : ∀ o1 o2, Below wr.heap.size wr ((wr.alloc o1).alloc o2) := fun o1 o2 => ((Below.refl _ _).alloc (Nat.le_refl _) _).alloc (by simp) _
      have hB3 : ∀ o1 o2 o3, Below wr.heap.size wr (((wr.alloc o1).alloc o2).alloc o3).drew := fun o1 o2 o3 => ((hB2 o1 o2).alloc (by simp; omega) _).drew
      have hB4 : ∀ o1 o2 o3, Below wr.heap.size wr (((wr.alloc o1).alloc o2).alloc o3).drew.drew := fun o1 o2 o3 => (hB3 o1 o2 o3).drew
      have HB2 := hide hB2
      have HB3 := hide hB3
      have HB4 := hide hB4
      clear hB2 hB3 hB4
      generalize hOf (hearK own n g fr k) f.frm = ha at *
      generalize tOf (hearK own n g fr k) f.frm = ta at *
      generalize (hearK own n g fr k f.frm).isSome = iS at *
      generalize rightB own n f = rb at *
      cases rb with
      | false =>
        clear hst hlk hlk2 b3 b4 b5 hAt2 hP hg
        have R := HK1 _ (HB2.out (.cells #[.int .i64 f.kind, .int .i64 f.frm, .int .i64 f.tick, .slice f.A f.len f.cap, .string f.data] 32) (.cells #[.int .i64 f.kind, .int .i64 f.frm, .int .i64 f.tick, .slice f.A f.len f.cap, .string f.data] 32)) (by rw [Htk.out]; rfl)
        clear HK1 HK2
        go_wp2_with (first
          | (go_at_call 18; refine Hr.out.mono ?_; rintro e w' ⟨rfl, rfl⟩))
        go_roundw
        case rel => exact ⟨k + 1, by omega, by go_num, by rw [R.out.2.2], R.out.1, R.out.2.1⟩
        case measure => simp [intOf]; omega
      | true =>
        obtain ⟨ad, eA, hadB, had, hn1, hn2⟩ := hAt2 (hrt rfl)
        have hl1 := hrt rfl
        obtain ⟨w2, hrun, hH, hg2⟩ := hst rfl
        clear hst hrt hAt2 hP hg
        rw [hl1, eA] at Hr hlk hlk2 b3 b4 b5 hrun c3
        have hd1 : (((wr.alloc (.cells #[.int .i64 f.kind, .int .i64 f.frm, .int .i64 f.tick, .slice (some ad) 1 f.cap, .string f.data] 32)).alloc (.cells #[.int .i64 f.kind, .int .i64 f.frm, .int .i64 f.tick, .slice (some ad) 1 f.cap, .string f.data] 32)).alloc (.cells #[.int .i64 ha, .int .i64 ta] 56)).cell? ad = some (.int .i64 f.num) :=
          ((HB3.out _ _ _).cell (p := ad) (by omega)).trans had
        have hd := drop_of_div hn1 hn2
        cases iS with
        | false =>
          have R := HK2 _ w2 (HB4.out _ _ _) (by rw [Htk.out]; rfl) hH hg2 hn1 hn2
          clear HK1 HK2 hH hg2
          go_wp2_with (first
            | (go_at_call 18; refine Hr.out.mono ?_; rintro e w' ⟨rfl, rfl⟩))
          go_region
          all_goals go_wp2
          all_goals go_region
          all_goals go_wp2
          all_goals go_roundw
          all_goals first | (simp [intOf]; omega) | exact ⟨k + 1, by omega, by go_num, congrArg (Value.int .i64) (by have := R.out.2.2; omega), R.out.1, R.out.2.1⟩
        | true =>
          by_cases h9 : ta < f.tick
          · have R := HK2 _ w2 (HB4.out _ _ _) (by rw [Htk.out]; simp [h9]) hH hg2 hn1 hn2
            clear HK1 HK2 hH hg2
            go_wp2_with (first
              | (go_at_call 18; refine Hr.out.mono ?_; rintro e w' ⟨rfl, rfl⟩))
            go_region
            all_goals go_wp2
            all_goals go_region
            all_goals go_wp2
            all_goals go_roundw
            all_goals first | (simp [intOf]; omega) | exact ⟨k + 1, by omega, by go_num, congrArg (Value.int .i64) (by have := R.out.2.2; omega), R.out.1, R.out.2.1⟩
          · have R := HK1 _ (HB3.out (.cells #[.int .i64 f.kind, .int .i64 f.frm, .int .i64 f.tick, .slice (some ad) 1 f.cap, .string f.data] 32) (.cells #[.int .i64 f.kind, .int .i64 f.frm, .int .i64 f.tick, .slice (some ad) 1 f.cap, .string f.data] 32) (.cells #[.int .i64 ha, .int .i64 ta] 56)) (by rw [Htk.out]; simp [h9])
            clear HK1 HK2 hH hg2
            go_wp2_with (first
              | (go_at_call 18; refine Hr.out.mono ?_; rintro e w' ⟨rfl, rfl⟩))
            go_region
            all_goals go_wp2
            all_goals go_roundw
            all_goals first | (simp [intOf]; omega) | (exact ⟨k + 1, by omega, by go_num, by rw [R.out.2.2], R.out.1, R.out.2.1⟩)
    · obtain rfl : k = m := by omega
      have HP2 := hide hP
      have HG := hide hg
      clear hP hg
      go_wp2
      go_ret
      exact ⟨rfl, HP2.out, HG.out⟩

end Go.Proofs.Ytmcncdiiiplhcaa
