/- The law DeviceNone, its walk. -/
import Derived.Test.YtncgeeaifacapaaDevNil
import Derived.RangeFuncNested
import Derived.RangeFuncBound
import Derived.RangeFuncCalls
import Derived.RangeFuncLeaves
import Derived.RangeFuncFrom
import Derived.Shelf.Abstract
import Derived.Shelf.RegionOpen
import Derived.OwnWalkIn
import Derived.TacticsInMore
import Derived.LoopNIn
import Derived.LoopIn
import Derived.Sort.QuietIn
namespace Go.Proofs.Ytncgeeaifacapaa
open Go.RowKit Go.Cat Go.Shelf
attribute [local go_sem] Oper.semAt_some

/-- Over a device that isn't there the iterator tells nothing. -/
theorem waits_none (F : Fence) (n : Nat) (hf : F.fn 85) (hro : F.round = none) (_ : 1 ≤ n) (b : Nat) (w : World) (hb : w.cell? ⟨b, 0, none⟩ = some (.pointer none)) :
    SeqStopsK (α := Empty) F n Try.prog 85 #[.pointer (some ⟨b, 0, none⟩)] (fun x => x.elim) (Below w.heap.size) (fun _ => True) (fun _ => False) 0 w := by
  intro l J Jx W hW hJ hJx hY h0
  have hbl : b < w.heap.size := World.block_lt_of_cell? w _ hb
  have hb' : W.cell? ⟨b, 0, none⟩ = some (.pointer none) := by rw [World.cell?_of_block (hW.block b hbl)]; exact hb
  refine callsIn_of_wp Try.func85 rfl hf ?_ hro
  simp only [Try.ntmps85, List.size_toArray, List.length_cons, List.length_nil, Nat.reduceAdd, Nat.reduceSub, Array.replicate_succ, Array.replicate_zero, List.push_toArray, List.append_toArray, List.nil_append, List.cons_append]
  gi_wp2
  refine bodyPost_ret (v := .tuple #[]) (results_none rfl _ _ _) rfl ?_
  exact ⟨⟨_, rfl⟩, [], h0⟩

set_option maxRecDepth 100000 in
set_option maxHeartbeats 2000000 in
theorem none_any (a b : Int) (w : World) :
    Calls Try.prog 10 #[.int .i64 a, .int .i64 b] w fun e w' => e = .returned (.bool true) ∧ Chg (fun _ => False) w w' := by
  refine (callsIn_wide (n := 5)).1 ?_
  have h1 : 1 ≤ 5 := by omega
  refine callsIn_of_wp_marks Try.func10 rfl trivial ?_ rfl
  simp only [Try.ntmps10, List.size_toArray, List.length_cons, List.length_nil, Nat.reduceAdd, Nat.reduceSub, Array.replicate_succ, Array.replicate_zero, List.push_toArray, List.append_toArray, List.nil_append, List.cons_append]
  gi_wp2
  refine ⟨trivial, (callsIn_wide.2 (lives08 w)).mono ?_⟩
  rintro e w1 ⟨rfl, c1⟩
  gi_wp2
  refine ⟨trivial, (callsIn_wide.2 (nil_up w1)).mono ?_⟩
  rintro e w2 ⟨rfl, rfl⟩
  gi_wp2
  refine ⟨trivial, (callsIn_wide.2 (nil_crash 1 a b w1)).mono ?_⟩
  rintro e w2 ⟨rfl, rfl⟩
  gi_wp2
  refine ⟨trivial, (callsIn_wide.2 (nil_arm a 1 b b w1)).mono ?_⟩
  rintro e w2 ⟨rfl, rfl⟩
  gi_wp2
  refine ⟨trivial, (callsIn_wide.2 (nil_read a b w1)).mono ?_⟩
  rintro e w2 ⟨rfl, rfl⟩
  gi_wp2
  refine ⟨trivial, (callsIn_wide.2 (nil_waits _)).mono ?_⟩
  rintro e w2 ⟨rfl, hw2⟩
  gi_wp2
  rw [← hw2]
  have c12 : Chg (fun _ => False) w1 w2 := by rw [hw2]; exact ((Chg.refl _ w1).alloc _).alloc _
  have hz : w2.heap.size = w1.heap.size + 2 := by rw [hw2]; simp
  have hc0 : w2.cell? ⟨w1.heap.size, 0, none⟩ = some (.int .i64 0) := by
    rw [hw2, cell_of_heap (Chg.heap ((Chg.refl (fun _ => False) (w1.alloc _)).alloc _) (heap_at_new w1 _ _ rfl) (fun h => h))]; rfl
  have hcd : w2.cell? ⟨w1.heap.size + 1, 0, none⟩ = some (.pointer none) := by
    rw [hw2, cell_of_heap (heap_at_new _ _ _ (by simp))]; rfl
  refine wpIn_rangeFunc_ownF (α := Empty) rfl h1 (gf := 85) (lb := #[.pointer (some ⟨w1.heap.size + 1, 0, none⟩)]) rfl trivial (enters_of Try.func85 (by kernel_rfl) rfl)
    (waits_none Fence.wide 4 trivial rfl (by omega) (w1.heap.size + 1) w2 hcd) belowK_t (belowK_b (Nat.le_refl _)) (Below.refl _ _) (fun x => x.elim)
    (fun _ W => W.cell? ⟨w1.heap.size, 0, none⟩ = some (.int .i64 0) ∧ Below w2.heap.size w2 W)
    (fun _ _ _ => False)
    (OwnFrom.and (Own.from (fun s A B row hs hg hr => cell_kept hs hg hr) _) (ownFrom_below (Nat.le_refl _) (Nat.le_refl _)))
    (fun _ _ _ _ _ hs _ _ => hs)
    ⟨hc0, Below.refl _ _⟩
    (fun x => x.elim) (fun _ x => x.elim) (fun _ _ x => x.elim) ?done ?stop
  case done =>
    rintro D ys W hD _ ⟨hc, hB⟩ hK
    gi_wp2
    refine wpIn_wide.2 ?_
    go_quiet (first | (go_at_call 53; refine Calls.quiet_of ((nil_down _).mono (fun e w' h => ⟨h.1, 0, h.2.symm⟩))) | (go_at_call 29; refine Calls.quiet_of ((nil_write _ _ _).mono (fun e w' h => ⟨h.1, 0, h.2.symm⟩))) | (go_at_call 30; refine Calls.quiet_of ((nil_flush _).mono (fun e w' h => ⟨h.1, 0, h.2.symm⟩))) | (go_at_call 54; refine Calls.quiet_of ((nil_len _).mono (fun e w' h => ⟨h.1, 0, h.2.symm⟩))) | (go_at_call 33; refine Calls.quiet_of ((nil_image _).mono (fun e w' h => ⟨h.1, 0, h.2.symm⟩))) | (go_at_call 55; refine Calls.quiet_of ((nil_copy _).mono (fun e w' h => ⟨h.1, 0, h.2.symm⟩))))
    gi_wp2
    have hK' : (W.drewN nq).heap[D]? = some (.deferred (some [])) := hK
    refine ⟨by simp, .inl ⟨_, _, rfl, run_takeDeferred hK', ?_⟩⟩
    refine ⟨_, results_tmp rfl _ _ _, rfl, ?_⟩
    have hB' : Below w2.heap.size w2 ((W.drewN nq).putObj D (.deferred none)) :=
      Below.trans (show Below w2.heap.size w2 (W.drewN nq) from ⟨hB.os, hB.tape, hB.output, hB.size, hB.block⟩) (belowK_b (w := w2) (Nat.le_refl _) (W.drewN nq) D _ _ hD hK' rfl rfl)
    exact (c1.trans c12).new (Chg.of_below hB') (fun k hk => by have := (c1.trans c12).size; omega)
  case stop =>
    rintro D c pre W _ h _
    exact h.elim
end Go.Proofs.Ytncgeeaifacapaa
