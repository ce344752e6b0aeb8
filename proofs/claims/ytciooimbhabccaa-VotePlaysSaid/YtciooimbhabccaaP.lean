/- append onto an own row of ints, whatever is appended, as a step of a region that draws. -/
import Derived.Test.YtciooimbhabccaaG
import Derived.Deep.AppendLies
import Derived.Deep.RegionLaw
import Derived.Laws.OwnMore
namespace Go.Proofs.Ytciooimbhabccaa
open Go.RowKit

abbrev encI : Int → Value := Value.int .i64
/-- the slice value v holds the ints news; or it is nil and there are none -/
def Src (w : World) (v : Value) (news : List Int) : Prop :=
  (v = .slice none 0 0 ∧ news = []) ∨ ∃ a c, v = .slice (some a) news.length c ∧ ∀ j u, (news.map encI)[j]? = some u → w.cell? (a.add j) = some u

theorem run_own {w : World} {base : Nat} (ty : TypeId) {v src : Value} {xs news : List Int} (hown : w.ownsRow base 3 1 v xs.length (xs.map encI)) (hsrc : Src w src news) (hlen : xs.length + news.length ≤ 1000000000) (hbase : base ≤ w.heap.size) :
    ∃ v' w', (Builtin.append_ #[22, 22] ty #[v, src]).run Try.prog w = .ok v' w' ∧ w'.ownsRow base 3 1 v' (xs ++ news).length ((xs ++ news).map encI) ∧ w.grownBy w' v.ownBlock ∧ (v'.ownBlock = v.ownBlock ∨ v'.ownBlock = some w.heap.size) := by
  obtain ⟨i0, hi, hz0, hz1, hz2⟩ := info_parts info3
  rcases hsrc with ⟨rfl, rfl⟩ | ⟨a, c, rfl, hc⟩
  · refine ⟨v, w, run_append_owned_none (P := Try.prog) (w := w) base 22 ty 3 i0 1 Try.underlying22 hi v xs.length _ hown, by simpa using hown, grown_refl _ _, .inl rfl⟩
  · obtain ⟨v', w', hr, h2, h3, _, h5⟩ := run_append_own_at (P := Try.prog) w base 22 ty 3 i0 (.int .i64 0) 1 8 Try.underlying22 hi hz0 hz1 hz2 rfl (by decide) v xs.length _ hown a news.length c (news.map encI) (by simp) hc (by intro u hu; obtain ⟨z, _, rfl⟩ := List.mem_map.1 hu; rfl) (by unfold maxLen; omega) (by omega) hbase
    refine ⟨v', w', hr, ?_, h3, h5⟩
    rw [List.length_append, List.map_append]
    exact h2

theorem step_own {ops : Array Oper} {o : Oper} {a : Act} {w : World} {K : Act → World → Prop} {Q : Exit → Act → World → Prop} {E : Prop} (hgd : o.guard = none) (s x : Operand)
    (ho : o.op = .call { callee := .builtin .append, args := #[s, x], argTypes := #[22, 22] }) (base : Nat) (v src : Value) (hs : a.eval s = v) (hx : a.eval x = src) (xs news : List Int)
    (hown : w.ownsRow base 3 1 v xs.length (xs.map encI)) (hsrc : Src w src news) (hlen : xs.length + news.length ≤ 1000000000) (hbase : base ≤ w.heap.size)
    (h : ∀ v' w', w'.ownsRow base 3 1 v' (xs ++ news).length ((xs ++ news).map encI) → w.grownBy w' v.ownBlock → (v'.ownBlock = v.ownBlock ∨ v'.ownBlock = some w.heap.size) → K (a.put o.dst v') w') :
    if Region.wanted o (yielded ops a.tmps) = true then Oper.wp Try.prog o a w K Q else E := by
  have hw : Region.wanted o (yielded ops a.tmps) = true := by simp [Region.wanted, hgd]
  rw [if_pos hw]
  obtain ⟨v', w', hr, h2, h3, h4⟩ := run_own o.type hown hsrc hlen hbase
  unfold Oper.wp execOp
  simp only [ho, resolve, invoke, builtin, Sem.run_bind, Sem.run_pure, Result.andThen_ok, List.map_toArray, List.map_cons, List.map_nil, hs, hx, hr]
  exact h v' w' h2 h3 h4

end Go.Proofs.Ytciooimbhabccaa
