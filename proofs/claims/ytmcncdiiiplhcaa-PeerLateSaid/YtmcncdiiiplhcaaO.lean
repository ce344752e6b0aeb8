/- Opening what comes in: slices of ints, frames. -/
import Derived.Test.YtmcncdiiiplhcaaRows
import Derived.WalkKit
import Derived.ProofKit
import Derived.OpenShut
import Derived.ShutString
import Derived.ChangeOld
import Derived.Below
namespace Go.Proofs.Ytmcncdiiiplhcaa
open Go.ChangeShapes Go.WideShapes Go.ChangeAt Go.RowKit
open Go.ChangeMaps (open_string shut_string)

theorem own : ownKnob Try.prog.godebug = none := by kernel_rfl
theorem laidOut : laidOutB Try.prog = true := by kernel_rfl

/-- a slice of integers that came in -/
def IsRow (k : IntKind) (w : World) (a : Option Addr) (len cap : Nat) (zs : List Int) : Prop :=
  (a = none ∧ len = 0 ∧ cap = 0 ∧ zs = []) ∨
  ∃ x, a = some x ∧ len ≤ cap ∧ cap ≤ maxLen ∧ zs.length = cap ∧ (∀ i, i < zs.length → w.cell? (x.add i) = some (.int k (zs.getD i 0))) ∧ ∀ n ∈ zs, (Lit.int k n).wf = true

section
variable {H : Type} {enc : TypeId × Value → H} {W : World}
theorem row_of {fuel : Nat} {a : Option Addr} {len cap : Nat} {x : DataW H × List MemPlace} (hf : DataW.trod enc Try.prog W 0 (fun _ => true) true fuel 22 [.slice a len cap] = some x) : ∃ zs, IsRow .i64 W a len cap zs := by
  rcases open_ints Try.underlying22 Try.underlying3 (by kernel_rfl) hf with ⟨hcs, _⟩ | ⟨y, l, c, zs, hcs, _, hl, hm, hz, _, hcell, hwz⟩
  · simp at hcs
    obtain ⟨rfl, rfl, rfl⟩ := hcs
    exact ⟨[], .inl ⟨rfl, rfl, rfl, rfl⟩⟩
  · simp at hcs
    obtain ⟨rfl, rfl, rfl⟩ := hcs
    exact ⟨zs, .inr ⟨_, rfl, hl, hm, by simpa using hz, hcell, hwz⟩⟩

set_option maxRecDepth 100000 in
theorem open_frame {v : Value} {d : DataW H} {p : List MemPlace} (hv : Value.okWide Try.prog W .any 0 32 v) (h : DataW.Trod enc Try.prog W 0 (fun _ => true) true 32 v d p) :
    ∃ (kind frm tick : Int) (A : Option Addr) (len cap : Nat) (data : ByteArray) (zs : List Int), v = .agg #[.int .i64 kind, .int .i64 frm, .int .i64 tick, .slice A len cap, .string data] ∧
      (Lit.int .i64 kind).wf = true ∧ (Lit.int .i64 frm).wf = true ∧ (Lit.int .i64 tick).wf = true ∧ IsRow .i64 W A len cap zs ∧ data.size ≤ maxLen := by
  obtain ⟨cs, rfl, hsz⟩ := okWide_struct Try.underlying32 hv
  obtain ⟨l⟩ := cs
  have hC : Try.prog.cellsOf 32 = 5 := by kernel_rfl
  match l, hsz.trans hC with
  | [c0, c1, c2, c3, c4], _ =>
    obtain ⟨fuel, hf⟩ := h
    obtain ⟨xs, n, _, hx, _, hlen, hg⟩ := DataW.trod_struct Try.underlying32 hf
    have g0 : DataW.trod enc Try.prog W 0 (fun _ => true) true n 30 (List.take (Try.prog.cellsOf 30) [c0, c1, c2, c3, c4]) = xs[0]? := hg 0 _ rfl
    have g1 : DataW.trod enc Try.prog W 0 (fun _ => true) true n 22 (List.take (Try.prog.cellsOf 22) [c3, c4]) = xs[1]? := hg 1 _ rfl
    have g2 : DataW.trod enc Try.prog W 0 (fun _ => true) true n 9 (List.take (Try.prog.cellsOf 9) [c4]) = xs[2]? := hg 2 _ rfl
    have k0 : Try.prog.cellsOf 30 = 3 := by kernel_rfl
    have k1 : Try.prog.cellsOf 22 = 1 := by kernel_rfl
    have k2 : Try.prog.cellsOf 9 = 1 := by kernel_rfl
    have k3 : Try.prog.cellsOf 3 = 1 := by kernel_rfl
    rw [k0] at g0
    rw [k1] at g1
    rw [k2] at g2
    have hl3 : xs.length = 3 := hlen
    match xs, hl3 with
    | [y0, y1, y2], _ =>
      simp at g0 g1 g2
      obtain ⟨ys, m, _, _, _, hlen2, hg2⟩ := DataW.trod_struct Try.underlying30 g0
      have e0 : DataW.trod enc Try.prog W 0 (fun _ => true) true m 3 (List.take (Try.prog.cellsOf 3) [c0, c1, c2]) = ys[0]? := hg2 0 _ rfl
      have e1 : DataW.trod enc Try.prog W 0 (fun _ => true) true m 3 (List.take (Try.prog.cellsOf 3) [c1, c2]) = ys[1]? := hg2 1 _ rfl
      have e2 : DataW.trod enc Try.prog W 0 (fun _ => true) true m 3 (List.take (Try.prog.cellsOf 3) [c2]) = ys[2]? := hg2 2 _ rfl
      have hl4 : ys.length = 3 := hlen2
      rw [k3] at e0 e1 e2
      match ys, hl4 with
      | [z0, z1, z2], _ =>
        simp at e0 e1 e2
        obtain ⟨kind, q0, _, w0⟩ := DataW.trod_int Try.underlying3 e0
        obtain ⟨frm, q1, _, w1⟩ := DataW.trod_int Try.underlying3 e1
        obtain ⟨tick, q2, _, w2⟩ := DataW.trod_int Try.underlying3 e2
        obtain ⟨data, q4, _, hd⟩ := DataW.trod_string Try.underlying9 g2
        have hs := g1
        rcases open_ints Try.underlying22 Try.underlying3 (by kernel_rfl) g1 with ⟨hcs, _⟩ | ⟨y, l, c, zs, hcs, _⟩
        · simp at q0 q1 q2 q4 hcs
          subst q0 q1 q2 q4 hcs
          obtain ⟨zs, hz⟩ := row_of hs
          exact ⟨kind, frm, tick, none, 0, 0, data, zs, rfl, w0, w1, w2, hz, hd⟩
        · simp at q0 q1 q2 q4 hcs
          subst q0 q1 q2 q4 hcs
          obtain ⟨zs, hz⟩ := row_of hs
          exact ⟨kind, frm, tick, _, _, _, data, zs, rfl, w0, w1, w2, hz, hd⟩
end
end Go.Proofs.Ytmcncdiiiplhcaa
