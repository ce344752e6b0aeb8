/- What is known of other craft, as plain functions; how it lies in memory; the contracts of package peer's small functions. -/
import Derived.Test.YtmcncdiiiplhcaaProg
import Derived.WalkKit
import Derived.WalkSpells
import Derived.WalkLawsBesides
import Derived.Maps.OwnSet
import Derived.Maps.Ext
import Derived.KernelRfl
import Derived.Deep.QuietTactic
import Derived.BigQuiet
import Derived.RegionTactic
import Derived.Outline
namespace Go.Proofs.Ytmcncdiiiplhcaa
open Go.RowKit Go.Maps

theorem hide {p : Prop} (h : p) : Hid p := h

/-- block g holds just the cells cs, of element type t, none frozen -/
def Blk (w : World) (g : Nat) (t : TypeId) (cs : Array Value) : Prop := w.heap[g]? = some (.cells cs t (0, 0))
theorem Blk.lt {w : World} {g : Nat} {t : TypeId} {cs : Array Value} (h : Blk w g t cs) : g < w.heap.size := by
  rcases Nat.lt_or_ge g w.heap.size with hlt | hge
  · exact hlt
  · unfold Blk at h; rw [Array.getElem?_eq_none hge] at h; cases h
theorem Blk.cell {w : World} {g : Nat} {t : TypeId} {cs : Array Value} (h : Blk w g t cs) (i : Nat) : w.cell? ⟨g, i, none⟩ = cs[i]? := cell_of_row w g i cs t (0, 0) h
theorem Blk.frozen {w : World} {g : Nat} {t : TypeId} {cs : Array Value} (h : Blk w g t cs) (i : Nat) : w.frozen? ⟨g, i, none⟩ = false := by
  unfold Blk at h
  simp [World.frozen?, h]
theorem Blk.new (w : World) (t : TypeId) (cs : Array Value) : Blk (w.alloc (.cells cs t)) w.heap.size t cs := heap_alloc_new w _
theorem Blk.below {B : Nat} {w w' : World} {g : Nat} {t : TypeId} {cs : Array Value} (h : Blk w g t cs) (hb : Below B w w') (hg : g < B) : Blk w' g t cs := (hb.block g hg).trans h
theorem Blk.grown {w w' : World} {g : Nat} {t : TypeId} {cs : Array Value} {row : Option Nat} (h : Blk w g t cs) (hb : w.grownBy w' row) (hg : some g ≠ row) : Blk w' g t cs := (hb.block g h.lt hg).trans h

/-! ### what is known of others -/
/-- of a craft's number: the height and the tick that it said last -/
abbrev Known := Int → Option (Int × Int)
def hOf (g : Known) (k : Int) : Int := match g k with | some p => p.1 | none => 0
def tOf (g : Known) (k : Int) : Int := match g k with | some p => p.2 | none => 0

def othB (own n id : Int) : Bool := decide (0 ≤ id) && decide (id < n) && (id != own)

/-- how an element of map[int]heard reads -/
def heardElem {H : Type} : Value → Option (DataW H × List MemPlace)
  | .agg cs => match cs.toList with
    | [.int .i64 h, .int .i64 t] => some (.agg [.lit (.int .i64 h), .lit (.int .i64 t)], [])
    | _ => none
  | _ => none
theorem heardElem_mk {H : Type} (h t : Int) : heardElem (H := H) (.agg #[.int .i64 h, .int .i64 t]) = some (.agg [.lit (.int .i64 h), .lit (.int .i64 t)], []) := rfl
theorem heardElem_inv {H : Type} {v : Value} {z : DataW H × List MemPlace} (h : heardElem v = some z) : ∃ a b, v = .agg #[.int .i64 a, .int .i64 b] ∧ z = (.agg [.lit (.int .i64 a), .lit (.int .i64 b)], []) := by
  unfold heardElem at h
  split at h
  · rename_i cs
    split at h
    · rename_i a b e
      refine ⟨a, b, ?_, by simpa using h.symm⟩
      have : cs = #[.int .i64 a, .int .i64 b] := by rw [← Array.toArray_toList (xs := cs), e]
      rw [this]
    · cases h
  · cases h

theorem law3 : Keyed Try.prog 3 := int_keyed Try.underlying3
theorem zero56 (w : World) : (zeroValue 56).run Try.prog w = .ok (.agg #[.int .i64 0, .int .i64 0]) w := by kernel_rfl

/-- block b is the map in which g lies -/
def IsHeard (w : World) (b N : Nat) (g : Known) : Prop :=
  ∃ D : DataW Unit, w.ownsMap Try.prog 3 heardElem b N D ∧ (∀ k, Maps.has D (.int .i64 k) = (g k).isSome) ∧
    (∀ k p, g k = some p → ∀ z, D.atKey (.int .i64 k) z = .agg [.lit (.int .i64 p.1), .lit (.int .i64 p.2)])

theorem IsHeard.lt {w : World} {b N : Nat} {g : Known} (h : IsHeard w b N g) : b < w.heap.size := by
  obtain ⟨D, hD, _⟩ := h; exact hD.lt
theorem IsHeard.kept {w w' : World} {b N : Nat} {g : Known} {row : Option Nat} (h : IsHeard w b N g) (hg : w.grownBy w' row) (hne : some b ≠ row) : IsHeard w' b N g := by
  obtain ⟨D, hD, r⟩ := h; exact ⟨D, hD.kept hg hne, r⟩
theorem IsHeard.alloc {w : World} {b N : Nat} {g : Known} (h : IsHeard w b N g) (o : Obj) : IsHeard (w.alloc o) b N g := by
  obtain ⟨D, hD, r⟩ := h; exact ⟨D, hD.alloc o, r⟩
theorem IsHeard.drew {w : World} {b N : Nat} {g : Known} (h : IsHeard w b N g) : IsHeard w.drew b N g := h
theorem IsHeard.mono {w : World} {b N N' : Nat} {g : Known} (h : IsHeard w b N g) (hN : N ≤ N') : IsHeard w b N' g := by
  obtain ⟨D, hD, r⟩ := h; exact ⟨D, hD.mono hN, r⟩

theorem IsHeard.look {w : World} {b N : Nat} {g : Known} (h : IsHeard w b N g) {k : Int} (hk : (Lit.int .i64 k).wf = true) :
    (Instr.lookup 43 (.map (some b)) (.int .i64 k) true).run Try.prog w = .ok (.tuple #[.agg #[.int .i64 (hOf g k), .int .i64 (tOf g k)], .bool (g k).isSome]) w := by
  obtain ⟨D, hD, h1, h2⟩ := h
  obtain ⟨v, ps, hrun, hv⟩ := hD.look_ok law3 Try.underlying43 (zero56 w) (heardElem_mk 0 0) (keyOf_int_mk Try.underlying3 hk)
  rw [hrun, h1 k]
  obtain ⟨a, c, rfl, hz⟩ := heardElem_inv hv
  simp only [Prod.mk.injEq] at hz
  cases hg : g k with
  | none =>
    have e := atKey_of_not_has (D := D) (k := .int .i64 k) (by rw [h1 k, hg]; rfl) (.agg [.lit (.int .i64 0), .lit (.int .i64 0)])
    rw [e] at hz
    simp at hz
    obtain ⟨⟨rfl, rfl⟩, _⟩ := hz
    simp [hOf, tOf, hg]
  | some p =>
    have e := h2 k p hg (.agg [.lit (.int .i64 0), .lit (.int .i64 0)])
    rw [e] at hz
    simp at hz
    obtain ⟨⟨rfl, rfl⟩, _⟩ := hz
    simp [hOf, tOf, hg]

theorem IsHeard.look1 {w : World} {b N : Nat} {g : Known} (h : IsHeard w b N g) {k : Int} (hk : (Lit.int .i64 k).wf = true) :
    (Instr.lookup 43 (.map (some b)) (.int .i64 k) false).run Try.prog w = .ok (.agg #[.int .i64 (hOf g k), .int .i64 (tOf g k)]) w := by
  obtain ⟨D, hD, h1, h2⟩ := h
  obtain ⟨v, ps, hrun, hv⟩ := hD.lookup law3 Try.underlying43 (zero56 w) (heardElem_mk 0 0) (keyOf_int_mk Try.underlying3 hk)
  rw [hrun]
  obtain ⟨a, c, rfl, hz⟩ := heardElem_inv hv
  simp only [Prod.mk.injEq] at hz
  cases hg : g k with
  | none =>
    have e := atKey_of_not_has (D := D) (k := .int .i64 k) (by rw [h1 k, hg]; rfl) (.agg [.lit (.int .i64 0), .lit (.int .i64 0)])
    rw [e] at hz
    simp at hz
    obtain ⟨⟨rfl, rfl⟩, _⟩ := hz
    simp [hOf, tOf, hg]
  | some p =>
    have e := h2 k p hg (.agg [.lit (.int .i64 0), .lit (.int .i64 0)])
    rw [e] at hz
    simp at hz
    obtain ⟨⟨rfl, rfl⟩, _⟩ := hz
    simp [hOf, tOf, hg]

/-- what is put in -/
def putK (g : Known) (k h t : Int) : Known := fun j => if j = k then some (h, t) else g j

theorem IsHeard.store {w : World} {b N : Nat} {g : Known} (h : IsHeard w b N g) (hN : N < maxLen) {k a t : Int} (hk : (Lit.int .i64 k).wf = true) :
    ∃ w', (Instr.mapUpdate 43 (.map (some b)) (.int .i64 k) (.agg #[.int .i64 a, .int .i64 t])).run Try.prog w = .ok () w' ∧ IsHeard w' b (N + 1) (putK g k a t) ∧ w.grownBy w' (some b) := by
  obtain ⟨D, hD, h1, h2⟩ := h
  obtain ⟨w', hrun, hD', hg⟩ := hD.update law3 Try.underlying43 hN (keyOf_int_mk Try.underlying3 hk) (heardElem_mk a t)
  refine ⟨w', hrun, ⟨_, hD', ?_, ?_⟩, hg⟩
  · intro j
    by_cases e : j = k
    · subst e
      rw [has_put_same hD.isMap (show WideAt.IsKeyLit (.int .i64 j) from trivial)]
      simp [putK]
    · rw [has_put_other (by simpa using e), h1 j]
      simp [putK, e]
  · intro j p hp z
    by_cases e : j = k
    · subst e
      rw [atKey_put_same hD.isMap (show WideAt.IsKeyLit (.int .i64 j) from trivial)]
      simp [putK] at hp
      rw [← hp]
    · rw [atKey_put_other (by simpa using e)]
      simp [putK, e] at hp
      exact h2 j p hp z

/-- the peers p at block bp, the map in block bm -/
structure Peers (w : World) (bp bm N : Nat) (own n stale : Int) (g : Known) : Prop where
  blk : Blk w bp 45 #[.int .i64 own, .int .i64 n, .int .i64 stale, .map (some bm)]
  map : IsHeard w bm N g
  n1 : 1 ≤ n
  n8 : n ≤ 8
  o0 : 0 ≤ own
  on : own < n
  s0 : 0 ≤ stale
  s1 : stale ≤ 1000
  keys : ∀ k p, g k = some p → 0 ≤ k ∧ k < n ∧ k ≠ own ∧ -2147483648 ≤ p.1 ∧ p.1 ≤ 2147483647 ∧ 0 ≤ p.2 ∧ p.2 ≤ 140737488355327

theorem Peers.ne {w : World} {bp bm N : Nat} {own n stale : Int} {g : Known} (h : Peers w bp bm N own n stale g) : bp ≠ bm := by
  rintro rfl
  obtain ⟨D, ⟨es, c, hb, _⟩, _⟩ := h.map
  have := h.blk
  unfold Blk at this
  rw [this] at hb
  cases hb
theorem Peers.kept {w w' : World} {bp bm N : Nat} {own n stale : Int} {g : Known} {row : Option Nat} (h : Peers w bp bm N own n stale g) (hg : w.grownBy w' row) (h1 : some bp ≠ row) (h2 : some bm ≠ row) : Peers w' bp bm N own n stale g :=
  { h with blk := h.blk.grown hg h1, map := h.map.kept hg h2 }
theorem Peers.alloc {w : World} {bp bm N : Nat} {own n stale : Int} {g : Known} (h : Peers w bp bm N own n stale g) (o : Obj) : Peers (w.alloc o) bp bm N own n stale g :=
  h.kept (World.grownBy_alloc w o none) (by simp) (by simp)
theorem Peers.drew {w : World} {bp bm N : Nat} {own n stale : Int} {g : Known} (h : Peers w bp bm N own n stale g) : Peers w.drew bp bm N own n stale g := { h with blk := h.blk, map := h.map }

set_option maxHeartbeats 400000 in
theorem none_any {w : World} {bp bm N : Nat} {own n stale : Int} {g : Known} (h : Peers w bp bm N own n stale g) :
    Calls Try.prog 17 #[.pointer (some ⟨bp, 0, none⟩)] w fun e w' => e = .returned (.bool false) ∧ w = w' := by
  have c3 := h.blk.cell 3
  simp at c3
  have q43 : ∀ (w : World) (r : Option Nat), (binOp .eql 43 (.map r) (.map none)).run Try.prog w = .ok (.bool r.isNone) w := fun w r => run_eql_map_nil w _ _ _ r Try.underlying43
  go_enter Try.func17, Try.ntmps17
  go_wp2
  go_ret
  exact ⟨rfl, rfl⟩

set_option maxHeartbeats 400000 in
theorem other_any {w : World} {bp bm N : Nat} {own n stale : Int} {g : Known} (h : Peers w bp bm N own n stale g) (id : Int) :
    Calls Try.prog 21 #[.pointer (some ⟨bp, 0, none⟩), .int .i64 id] w fun e w' => e = .returned (.bool (othB own n id)) ∧ w = w' := by
  have c0 := h.blk.cell 0
  have c1 := h.blk.cell 1
  simp at c0 c1
  clear h
  by_cases h0 : 0 ≤ id
  · by_cases h1 : id < n
    · by_cases h2 : id = own
      · have e : othB own n id = false := by simp [othB, h2]
        rw [e]
        go_enter Try.func21, Try.ntmps21
        go_wp2
        go_ret
        exact ⟨by simp, rfl⟩
      · have e : othB own n id = true := by simp [othB, h0, h1, h2]
        rw [e]
        go_enter Try.func21, Try.ntmps21
        go_wp2
        go_ret
        exact ⟨by simp [h2], rfl⟩
    · have e : othB own n id = false := by simp [othB, h1]
      rw [e]
      go_enter Try.func21, Try.ntmps21
      go_wp2
      go_ret
      exact ⟨rfl, rfl⟩
  · have e : othB own n id = false := by simp [othB, h0]
    rw [e]
    go_enter Try.func21, Try.ntmps21
    go_wp2
    go_ret
    exact ⟨rfl, rfl⟩

end Go.Proofs.Ytmcncdiiiplhcaa
