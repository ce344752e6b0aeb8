/- The numbers of the craft that were heard, sorted. -/
import Derived.Test.YtmcncdiiiplhcaaC
import Derived.Test.YtmcncdiiiplhcaaShelf
namespace Go.Proofs.Ytmcncdiiiplhcaa
open Go.RowKit Go.Maps Go.Sort Go.Shelf

def idsOf (n : Int) (g : Known) : List Int := ((List.range n.toNat).map fun (i : Nat) => (i : Int)).filter fun i => (g i).isSome
theorem idsOf_sorted (n : Int) (g : Known) : (idsOf n g).Pairwise (fun a b => a < b) := by
  refine List.Pairwise.filter _ (List.pairwise_map.2 ?_)
  exact List.pairwise_lt_range.imp (fun h => by omega)
theorem idsOf_len (n : Int) (g : Known) : (idsOf n g).length ≤ n.toNat := by
  have := List.length_filter_le (fun i : Int => (g i).isSome) ((List.range n.toNat).map fun (i : Nat) => (i : Int))
  simpa [idsOf] using this
theorem idsOf_mem {w : World} {bp bm N : Nat} {own n stale : Int} {g : Known} (h : Peers w bp bm N own n stale g) (x : Int) : x ∈ idsOf n g ↔ (g x).isSome = true := by
  unfold idsOf
  rw [List.mem_filter]
  constructor
  · exact fun h => h.2
  · intro hx
    refine ⟨?_, hx⟩
    obtain ⟨p, hp⟩ := Option.isSome_iff_exists.1 hx
    obtain ⟨k0, k1, _⟩ := h.keys x p hp
    rw [List.mem_map]
    exact ⟨x.toNat, by rw [List.mem_range]; omega, by omega⟩

theorem sorts (m : Nat) : AnyZI.SortsIn Try.prog Try.sortedA_ren Fence.wide m :=
  ⟨fun blk off cap ss W hH hblk hsz => callsIn_wide.2 (AnyM.slices_Sort_int Try.sortA blk off cap ss W hH hblk hsz),
   fun p cap W => callsIn_wide.2 (AnyM.slices_Sort_int_none Try.sortA p cap W)⟩

theorem keys_any (mb : Option Nat) (W : World) : Calls Try.prog 20 #[.map mb] W fun e w' => e = .returned (.func (.func 29) #[] #[.pointer (some ⟨W.heap.size, 0, none⟩)]) ∧ W.alloc (.cells #[.map mb] 43) = w' :=
  ((callsIn_wide (n := 6)).1 (AnyZI.keys_in Try.keysA Fence.wide 6 trivial rfl mb W)).mono fun _ _ ⟨h1, h2⟩ => ⟨h1, h2.symm⟩

theorem sorted_any {w : World} {bp bm N : Nat} {own n stale : Int} {g : Known} (h : Peers w bp bm N own n stale g) :
    Calls Try.prog 19 #[.func (.func 29) #[] #[.pointer (some ⟨w.heap.size, 0, none⟩)]] (w.alloc (.cells #[.map (some bm)] 43)) fun e w' => ∃ v, e = .returned v ∧
      w'.ownsRow (w.heap.size + 1) 3 1 v (idsOf n g).length ((idsOf n g).map encZ) ∧ Below (w.heap.size + 1) (w.alloc (.cells #[.map (some bm)] 43)) w' := by
  obtain ⟨D, hown, h1, h2⟩ := h.map
  have hn8 := h.n8
  have hperm : (idsOf n g).Perm (intKeys D) := by
    refine CollectedI.perm (left := fun _ => false) ⟨?_, fun x => ?_⟩ hown law3 Try.underlying3 (fun _ => rfl)
    · exact (idsOf_sorted n g).imp (fun h => by omega)
    · rw [idsOf_mem h x, h1 x]; simp
  have hsz : Maps.size D ≤ 8 := by
    have e1 : Maps.size D = (intKeys D).length := by
      obtain ⟨es, rfl⟩ := hown.isMap
      simp [Maps.size, intKeys]
    rw [e1, ← hperm.length_eq]
    have := idsOf_len n g
    omega
  have hseq : SeqGives Fence.wide 2 Try.prog 29 #[.pointer (some ⟨w.heap.size, 0, none⟩)] encZ (fun ss => ss.Perm (intKeys D)) (Maps.size D) (w.alloc (.cells #[.map (some bm)] 43)) :=
    AnyZI.keys_gives (ρ := Try.keysA_ren) { Try.keysA with } Fence.wide _ trivial rfl (by omega) w.heap.size bm N D _ (by simp) (by simp) (hown.alloc _)
  have cS := AnyZI.sorted_in Try.sortedA Fence.wide 5 trivial trivial trivial trivial rfl (by omega) (sorts _) (enters_of Try.func28 (by kernel_rfl) rfl) 29 #[.pointer (some ⟨w.heap.size, 0, none⟩)] trivial (enters_of Try.func29 (by kernel_rfl) rfl) _ _ (by unfold maxLen; omega) (by omega) _ hseq
  refine ((callsIn_wide (n := 5)).1 cS).mono ?_
  rintro e w' ⟨v, ss, rfl, hS, hrow, _, hb⟩
  have e1 : ss.mergeSort (fun x y => decide (x ≤ y)) = idsOf n g := by
    have e2 := mergeSort_of_perm_i (hS.trans hperm.symm)
    rw [show (fun x y : Int => decide (x ≤ y)) = leI from rfl, e2]
    exact List.mergeSort_of_pairwise ((idsOf_sorted n g).imp (fun h => by simp [leI]; omega))
  have e2 : ss.length = (idsOf n g).length := by rw [← e1]; simp
  rw [e1, e2, show Try.sortedA_ren.t 26 = 3 from rfl] at hrow
  exact ⟨v, rfl, by simpa using hrow, by simpa using hb⟩

end Go.Proofs.Ytmcncdiiiplhcaa
