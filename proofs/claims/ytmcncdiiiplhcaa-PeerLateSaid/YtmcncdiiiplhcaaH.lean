/- alive: a first call whose answer the document fixes. -/
import Derived.Test.YtmcncdiiiplhcaaG
import Derived.Test.YtmcncdiiiplhcaaE
import Derived.Laws.StructEq
namespace Go.Proofs.Ytmcncdiiiplhcaa
open Go.RowKit Go.Maps

theorem eq37 (a b c x y z : Int) (w : World) : (binOp .eql 37 (.agg #[.int .i64 a, .int .i64 b, .int .i64 c]) (.agg #[.int .i64 x, .int .i64 y, .int .i64 z])).run Try.prog w = .ok (.bool (a == x && (b == y && c == z))) w := by
  have u3 := Try.underlying3
  have a3 := Try.isAgg3
  have z3 := Try.sizeOf3
  have hS : Try.prog.underlying 37 = some (.struct (Try.prog.fieldsOf 37)) := by kernel_rfl
  have hp : Try.prog.stoodInHeld 37 = false := by kernel_rfl
  rw [run_eql_struct, show (10000 : Nat) = 9999 + 1 from rfl, run_equalIn_agg w 9999 37 _ _ hS hp]
  simp only [Program.fieldsOf, Try.underlying37]
  go_simp
  by_cases h1 : a = x <;> by_cases h2 : b = y <;> by_cases h3 : c = z <;> simp [h1, h2, h3]

theorem rowForm3 {w : World} {base : Nat} {v : Value} {n : Nat} {xs : List Value} (h : w.ownsRow base 37 3 v n xs) :
    ∃ A cap, v = .slice A n cap ∧ (0 < n → ∃ b, A = some ⟨b, 0, none⟩ ∧ base ≤ b ∧ b < w.heap.size ∧ ∀ k u, xs[k]? = some u → w.cell? ⟨b, k, none⟩ = some u) := by
  rcases h.2 with ⟨rfl, hz⟩ | ⟨g, cap, cur, rfl, hb, hg, h1, h2, h3, h4⟩
  · exact ⟨none, 0, by rw [hz], fun hk => by omega⟩
  · refine ⟨_, cap, rfl, fun hk => ⟨g, rfl, hb, (Array.getElem?_eq_some_iff.1 hg).1, fun k u hu => ?_⟩⟩
    have e : (cur.toList.take (n * 3))[k]? = xs[k]? := by rw [h4]
    have hk2 : k < n * 3 := by
      have := (List.getElem?_eq_some_iff.1 hu).1
      rw [h.1] at this; exact this
    rw [List.getElem?_take_of_lt hk2] at e
    rw [cell_of_row w g k cur 37 (0, 0) hg, ← Array.getElem?_toList, e, hu]

/-- what is said: a height at a tick -/
def sayF (frm t x : Int) (A : Option Addr) : Fr := ⟨1, frm, t, A, 1, 1, x, ByteArray.empty⟩

theorem Blk.alloc {w : World} {g : Nat} {t : TypeId} {cs : Array Value} (h : Blk w g t cs) (o : Obj) : Blk (w.alloc o) g t cs := (Below.heap_alloc w o g h.lt).trans h

theorem frames_one {W : World} {f : Fr} {g : Nat} (hB : Blk W g 32 f.vals) (hA : f.At W W.heap.size) (hwf : (Lit.int .i64 f.frm).wf = true) : FramesAt W W.heap.size (some ⟨g, 0, none⟩) 1 (fun _ => f) := by
  refine ⟨fun i hi => ⟨hA, hwf⟩, fun _ => ⟨g, 0, rfl, hB.lt, fun i hi j v hv => ?_⟩⟩
  obtain rfl : i = 0 := by omega
  rw [show 0 + 0 * 5 + j = j by omega]
  exact (hB.cell j).trans hv

theorem at_one {W : World} {frm t x : Int} {g : Nat} (hB : Blk W g 3 #[.int .i64 x]) (h1 : -9223372036854775808 ≤ x) (h2 : x ≤ 9223372036854775807) : (sayF frm t x (some ⟨g, 0, none⟩)).At W W.heap.size :=
  fun _ => ⟨⟨g, 0, none⟩, rfl, hB.lt, hB.cell 0, h1, h2⟩

def g1 : Known := putK (fun _ => none) 1 7 4

theorem peers_empty {w : World} {bp bm N : Nat} {own n stale : Int} {g g' : Known} (h : Peers w bp bm N own n stale g) (e : g = g') : Peers w bp bm N own n stale g' := e ▸ h

set_option maxRecDepth 100000 in
set_option maxHeartbeats 1000000 in
theorem alive_any (w : World) : Calls Try.prog 7 #[] w fun e w' => e = .returned (.bool true) ∧ Below w.heap.size w w' := by
  have h0 : newOk 0 2 3 = true := rfl
  have e1 : heardB 0 2 3 (fun _ => none) 5 = false := by decide
  have e2 : heardB 0 2 3 g1 5 = true := by decide
  have e3 : heardB 0 2 3 g1 8 = false := by decide
  have e4 : seenL 0 2 g1 6 (idsOf 2 g1) = [(1, 7, 2)] := by decide
  have e5 : ∀ A, hearN 0 2 (fun _ => none) (fun _ => sayF 1 4 30064771072 A) 1 = 1 := by
    intro A
    have : takesB 0 2 (fun _ => none) (sayF 1 4 30064771072 A) = true := by
      simp [takesB, rightB, newerB, sayF, othB]
    simp [hearN, hearK, this]
  have e6 : ∀ A, hearK 0 2 (fun _ => none) (fun _ => sayF 1 4 30064771072 A) 1 = g1 := by
    intro A
    have : takesB 0 2 (fun _ => none) (sayF 1 4 30064771072 A) = true := by
      simp [takesB, rightB, newerB, sayF, othB]
    simp only [hearK, hear1, this, if_true]
    rfl
  have E1 := hide e1
  have E2 := hide e2
  have E3 := hide e3
  have E4 := hide e4
  have E5 := hide e5
  have E6 := hide e6
  clear e1 e2 e3 e4 e5 e6
  have h37 := eq37
  go_enter Try.func7, Try.ntmps7
  go_wp2_with fail
  refine (new_yes 0 2 3 w h0).mono ?_
  rintro e w1 ⟨rfl, hP1, hb1, hs1⟩
  go_wp2_with fail
  refine (heard_any hP1 5 (by decide)).mono ?_
  rintro e w2 ⟨rfl, hb2⟩
  rw [E1.out]
  have hP2 := hP1.below hb2 hP1.lt.1 hP1.lt.2
  have hs2 := hb2.size
  have hbb2 : Below w.heap.size w w2 := hb1.trans (hb2.mono (by omega))
  clear hP1 hb2 hb1
  go_wp2_with fail
  have hF := frames_one (f := sayF 1 4 30064771072 (some ⟨w2.heap.size, 0, none⟩)) (g := w2.heap.size + 1) (W := (w2.alloc (.cells #[.int .i64 30064771072] 3)).alloc (.cells (sayF 1 4 30064771072 (some ⟨w2.heap.size, 0, none⟩)).vals 32))
    (by simpa using Blk.new (w2.alloc (.cells #[.int .i64 30064771072] 3)) 32 (sayF 1 4 30064771072 (some ⟨w2.heap.size, 0, none⟩)).vals)
    (at_one ((Blk.new w2 3 #[.int .i64 30064771072]).alloc _) (by decide) (by decide)) (show (Lit.int .i64 1).wf = true by decide)
  refine (hear_any ((hP2.alloc _).alloc _) _ 1 1 _ hF (by decide) (by decide)).mono ?_
  rintro e w3 ⟨rfl, hP3, hg3⟩
  rw [E5.out]
  rw [E6.out] at hP3
  have hbb3 : Below w.heap.size w w3 := ((hbb2.alloc hbb2.size _).alloc (by have := hbb2.size; simp; omega) _).grown hg3 (by have := hbb2.size; simp; omega) (fun k hk => by injection hk with hk; omega)
  have hs3 := hbb3.size
  clear hF hP2 hg3 hbb2
  go_wp2_with fail
  refine (seen_any hP3 6 (by decide)).mono ?_
  rintro e w4 ⟨v, rfl, hrow, hb4⟩
  rw [E4.out] at hrow
  obtain ⟨A, cap, rfl, hcs⟩ := rowForm3 hrow
  obtain ⟨b, rfl, hbl, hbl2, hcs⟩ := hcs (by simp)
  have hP4 := hP3.below hb4 hP3.lt.1 hP3.lt.2
  have hbb4 := hbb3.trans (hb4.mono hs3)
  have hs4 := hb4.size
  have Hcs := hide hcs
  clear hrow hcs hP3 hb4 hbb3
  go_wp2_with fail
  refine (heard_any hP4 5 (by decide)).mono ?_
  rintro e w5 ⟨rfl, hb5⟩
  rw [E2.out]
  have hP5 := hP4.below hb5 hP4.lt.1 hP4.lt.2
  have hbb5 := hbb4.trans (hb5.mono (by omega))
  have hs5 := hb5.size
  go_wp2_with fail
  refine (heard_any hP5 8 (by decide)).mono ?_
  rintro e w6 ⟨rfl, hb6⟩
  rw [E3.out]
  have hbb6 := hbb5.trans (hb6.mono (by omega))
  have hbl5 : b < w5.heap.size := by omega
  have c0 : w6.cell? ⟨b, 0, none⟩ = some (.int .i64 1) := ((hb6.cell (p := ⟨b, 0, none⟩) hbl5).trans (hb5.cell (p := ⟨b, 0, none⟩) hbl2)).trans (Hcs.out 0 _ rfl)
  have c1 : w6.cell? ⟨b, 1, none⟩ = some (.int .i64 7) := ((hb6.cell (p := ⟨b, 1, none⟩) hbl5).trans (hb5.cell (p := ⟨b, 1, none⟩) hbl2)).trans (Hcs.out 1 _ rfl)
  have c2 : w6.cell? ⟨b, 2, none⟩ = some (.int .i64 2) := ((hb6.cell (p := ⟨b, 2, none⟩) hbl5).trans (hb5.cell (p := ⟨b, 2, none⟩) hbl2)).trans (Hcs.out 2 _ rfl)
  clear hb6 hb5 hP4 hP5
  go_wp2
  go_ret
  exact ⟨rfl, hbb6⟩

end Go.Proofs.Ytmcncdiiiplhcaa
