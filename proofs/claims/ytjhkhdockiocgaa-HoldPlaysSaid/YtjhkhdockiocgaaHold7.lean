/- The sorted keys of a table: slices.Sorted(maps.Keys(m)). -/
import Derived.Test.YtjhkhdockiocgaaHold4
import Derived.Test.YtjhkhdockiocgaaLay17
import Derived.Shelf.SlIter.Nil
import Derived.Shelf.SortM.Plain
import Derived.Shelf.SortM.SortNone
import Derived.Ground.GgzProg
import Derived.Ground.SlgmProg
namespace Go.Proofs.Ytjhkhdockiocgaa
open Go.RowKit Go.Cat Go.Shelf Go.Maps Go.Sort

theorem sortsH (m : Nat) : AnyZ.SortsIn Try.prog Try.sortedH_ren Fence.wide m :=
  ⟨fun blk off cap ss W hH hblk hsz => callsIn_wide.2 (AnyM.slices_Sort_string Try.sortH blk off cap ss W hH hblk hsz),
   fun p cap W => callsIn_wide.2 (AnyM.slices_Sort_string_none Try.sortH p cap W)⟩
theorem keys_c (mb : Option Nat) (W : World) : Calls Try.prog 97 #[.map mb] W fun e w' => e = .returned (.func (.func 123) #[] #[.pointer (some ⟨W.heap.size, 0, none⟩)]) ∧ w' = W.alloc (.cells #[.map mb] 154) :=
  callsIn_wide.1 (AnyZ.keys_in Try.keysH Fence.wide 5 trivial rfl mb W)
set_option maxRecDepth 100000 in
theorem sorted_c (b nn : Nat) (D0 : HD) (w : World) (hown : w.ownsMap Try.prog 9 holdR b nn D0) (hmax : Maps.size D0 ≤ maxLen) (hbytes : Maps.size D0 * 16 ≤ 140737488355328) :
    Calls Try.prog 96 #[.func (.func 123) #[] #[.pointer (some ⟨w.heap.size, 0, none⟩)]] (w.alloc (.cells #[.map (some b)] 154)) fun e w' => ∃ v, e = .returned v ∧
      Reads w' 1 v (strKeys D0).length (((strKeys D0).mergeSort leB).map encStr) ∧ Fresh w v ∧ Chg (fun _ => False) w w' := by
  have hbl := hown.lt
  have hseq : SeqGives Fence.wide 2 Try.prog 123 #[.pointer (some ⟨w.heap.size, 0, none⟩)] encStr (fun ss => ss.Perm (strKeys D0)) (Maps.size D0) (w.alloc (.cells #[.map (some b)] 154)) :=
    AnyZ.keys_gives (ρ := Try.keysH_ren) { Try.keysH with } Fence.wide _ trivial rfl (by omega) w.heap.size b nn D0 _ (by simp) (by simp) (owns_kept hown ((Chg.refl (fun _ => False) w).alloc _) (fun h => h))
  have cS := AnyZ.sorted_in Try.sortedH Fence.wide 5 trivial trivial trivial trivial rfl (by omega) (sortsH _) (enters_of Try.func122 (by kernel_rfl) rfl) 123 #[.pointer (some ⟨w.heap.size, 0, none⟩)] trivial (enters_of Try.func123 (by kernel_rfl) rfl) _ _ hmax hbytes _ hseq
  change CallsIn _ _ Try.prog 96 _ _ _ at cS
  refine (callsIn_wide.1 cS).mono ?_
  rintro e w' ⟨v, ss, rfl, hS, hrow, hnil, hb⟩
  have hz : (w.alloc (.cells #[.map (some b)] 154)).heap.size = w.heap.size + 1 := by simp
  rw [hz] at hrow hb
  have hp : ss.mergeSort (fun x y => decide (x ≤ y)) = (strKeys D0).mergeSort leB := mergeSort_of_perm hS
  rw [hp] at hrow
  have hl : ss.length = (strKeys D0).length := hS.length_eq
  rw [hl] at hrow
  obtain ⟨h1, h2⟩ := hrow
  refine ⟨v, rfl, ⟨h1, ?_⟩, fun k hk => ?_, ((Chg.refl (fun _ => False) w).alloc _).trans ((Chg.of_below hb).mono (fun k hk h => by omega))⟩
  · rcases h2 with h2 | ⟨g, cap, cur, rfl, h3, h4, h5, h6, h7, h8⟩
    · exact .inl h2
    · refine .inr ⟨g, 0, cap, rfl, h5, h6, (Array.getElem?_eq_some_iff.1 h4).1, fun j u hj => ?_⟩
      rw [Nat.zero_add, cell_of_heap h4]
      rw [← h8, List.getElem?_take] at hj
      split at hj
      · simpa using hj
      · cases hj
  · rcases h2 with ⟨rfl, _⟩ | ⟨g, cap, cur, rfl, h3, _⟩
    · simp [Value.ownBlock] at hk
    · simp [Value.ownBlock] at hk; omega
end Go.Proofs.Ytjhkhdockiocgaa
