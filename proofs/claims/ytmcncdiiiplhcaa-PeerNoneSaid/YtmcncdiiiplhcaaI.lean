/- What the functions answer of a nil and of a zero one. -/
import Derived.Test.YtmcncdiiiplhcaaH
import Derived.Deep.RegionHeld3
namespace Go.Proofs.Ytmcncdiiiplhcaa
open Go.RowKit Go.Maps

theorem none_nil (w : World) : Calls Try.prog 17 #[.pointer none] w fun e w' => e = .returned (.bool true) ∧ w = w' := by
  go_enter Try.func17, Try.ntmps17
  go_wp2
  go_ret
  exact ⟨rfl, rfl⟩

theorem none_zero {w : World} {bz : Nat} (hB : Blk w bz 45 #[.int .i64 0, .int .i64 0, .int .i64 0, .map none]) : Calls Try.prog 17 #[.pointer (some ⟨bz, 0, none⟩)] w fun e w' => e = .returned (.bool true) ∧ w = w' := by
  have c3 := hB.cell 3
  simp at c3
  have q43 : ∀ (w : World) (r : Option Nat), (binOp .eql 43 (.map r) (.map none)).run Try.prog w = .ok (.bool r.isNone) w := fun w r => run_eql_map_nil w _ _ _ r Try.underlying43
  go_enter Try.func17, Try.ntmps17
  go_wp2
  go_ret
  exact ⟨rfl, rfl⟩

section
variable {w : World} {v : Option Addr} (hn : Calls Try.prog 17 #[.pointer v] w fun e w' => e = .returned (.bool true) ∧ w = w')
include hn
theorem age_gone (id now : Int) : Calls Try.prog 13 #[.pointer v, .int .i64 id, .int .i64 now] w fun e w' => e = .returned (.tuple #[.int .i64 0, .int .i64 1]) ∧ w = w' := by
  have Hn := hide hn
  clear hn
  go_enter Try.func13, Try.ntmps13
  go_wp2_with (go_at_call 17; refine Hn.out.mono ?_; rintro e w' ⟨rfl, rfl⟩)
  go_ret2
  exact ⟨rfl, rfl⟩
theorem hear_gone (s : Value) : Calls Try.prog 9 #[.pointer v, s] w fun e w' => e = .returned (.int .i64 0) ∧ w = w' := by
  have Hn := hide hn
  clear hn
  go_enter Try.func9, Try.ntmps9
  go_wp2_with (go_at_call 17; refine Hn.out.mono ?_; rintro e w' ⟨rfl, rfl⟩)
  go_ret
  exact ⟨rfl, rfl⟩
theorem seen_gone (now : Int) : Calls Try.prog 11 #[.pointer v, .int .i64 now] w fun e w' => e = .returned (.slice none 0 0) ∧ w = w' := by
  have Hn := hide hn
  clear hn
  go_enter Try.func11, Try.ntmps11
  go_wp2_with (go_at_call 17; refine Hn.out.mono ?_; rintro e w' ⟨rfl, rfl⟩)
  go_ret
  exact ⟨rfl, rfl⟩
theorem heard_gone (now : Int) : Calls Try.prog 12 #[.pointer v, .int .i64 now] w fun e w' => e = .returned (.bool false) ∧ w = w' := by
  have Hn := hide hn
  clear hn
  go_enter Try.func12, Try.ntmps12
  go_wp2_with (go_at_call 17; refine Hn.out.mono ?_; rintro e w' ⟨rfl, rfl⟩)
  go_ret
  exact ⟨rfl, rfl⟩
end
theorem say_gone {w : World} {v : Option Addr} (hn : ∀ o, Calls Try.prog 17 #[.pointer v] (w.alloc o) fun e w' => e = .returned (.bool true) ∧ w.alloc o = w') (t h : Int) :
    Calls Try.prog 14 #[.pointer v, .int .i64 t, .int .i64 h] w fun e w' => e = .returned (.tuple #[.agg #[.int .i64 0, .int .i64 0, .int .i64 0, .slice none 0 0, .string ByteArray.empty], .int .i64 1]) ∧ w.alloc (.cells #[.int .i64 0, .int .i64 0, .int .i64 0, .slice none 0 0, .string ByteArray.empty] 32) = w' := by
  have Hn := hide hn
  clear hn
  go_enter Try.func14, Try.ntmps14
  go_wp2_with (go_at_call 17; refine (Hn.out _).mono ?_; rintro e w' ⟨rfl, rfl⟩)
  refine bodyPost_ret (v := .tuple #[.agg #[.int .i64 0, .int .i64 0, .int .i64 0, .slice none 0 0, .string ByteArray.empty], .int .i64 1]) (by simp [results, Try.results14, go_sem]; rfl) rfl ⟨rfl, rfl⟩

end Go.Proofs.Ytmcncdiiiplhcaa
