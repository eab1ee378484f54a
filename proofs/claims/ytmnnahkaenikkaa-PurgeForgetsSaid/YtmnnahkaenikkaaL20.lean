/- Law 20: lives; the closure that turns values. -/
import Derived.Test.YtmnnahkaenikkaaPlay20x
import Derived.Test.YtmnnahkaenikkaaAlike20
import Derived.Test.YtmnnahkaenikkaaForget2
namespace Go.Proofs.Ytmnnahkaenikkaa
open Go.RowKit Go.Cat
def xorP (lo hi by_ : Int) (p : Pt) : Pt := if lo ≤ p.tk ∧ p.tk < hi then ⟨p.tk, bits .xor .i64 p.val by_⟩ else p
theorem xor64 (a b : Int) : in64 (bits .xor .i64 a b) := in64_wrap _
theorem xorP_v (lo hi by_ : Int) (p : Pt) (h : in64 p.val) : in64 (xorP lo hi by_ p).val := by
  unfold xorP
  split
  · exact xor64 _ _
  · exact h
theorem bl_xor (lo hi by_ : Int) (p : Pt) : bl lo hi (xorP lo hi by_ p) = bl lo hi p := by
  unfold bl xorP
  by_cases h : lo ≤ p.tk ∧ p.tk < hi
  · rw [if_pos h, if_pos h, if_pos h]
  · simp only [if_neg h]
set_option maxRecDepth 100000 in
set_option maxHeartbeats 1000000 in
theorem xor_fun (w : World) (x4 x5 : Nat) (lo hi by_ : Int) (h0 : w.cell? ⟨x4, 0, none⟩ = some (.int .i64 lo)) (h1 : w.cell? ⟨x4, 1, none⟩ = some (.int .i64 hi)) (h2 : w.cell? ⟨x5, 0, none⟩ = some (.int .i64 by_)) :
    FunAs w 11 #[.pointer (some ⟨x4, 0, none⟩), .pointer (some ⟨x5, 0, none⟩)] (xorP lo hi by_) := fun W p cw => by
  obtain ⟨x3, hx3⟩ : ∃ x, x = (W.alloc (.cells #[.int .i64 p.tk, .int .i64 p.val] 32)).alloc (.cells #[.int .i64 0, .int .i64 0] 32) := ⟨_, rfl⟩
  have hp3 : x3.heap[W.heap.size]? = some (.cells #[.int .i64 p.tk, .int .i64 p.val] 32 (0, 0)) := by rw [hx3]; exact ((Chg.refl (fun _ => False) _).alloc _).heap (heap_at_new W _ _ rfl) (fun h => h)
  have hr3 : x3.heap[W.heap.size + 1]? = some (.cells #[.int .i64 0, .int .i64 0] 32 (0, 0)) := by rw [hx3]; exact heap_at_new _ _ _ (by simp)
  have c3 : Chg (fun _ => False) W x3 := by rw [hx3]; exact ((Chg.refl _ W).alloc _).alloc _
  have q0 := c3.cell (cw.cell h0 (fun h => h)) (fun h => h)
  have q1 := c3.cell (cw.cell h1 (fun h => h)) (fun h => h)
  have q2 := c3.cell (cw.cell h2 (fun h => h)) (fun h => h)
  have q3 : x3.cell? ⟨W.heap.size, 0, none⟩ = some (.int .i64 p.tk) := by rw [cell_of_heap hp3]; rfl
  have q4 : x3.cell? ⟨W.heap.size, 1, none⟩ = some (.int .i64 p.val) := by rw [cell_of_heap hp3]; rfl
  have fp := frozen_of_heap hp3 1
  have HX3 := Lib.hid hx3
  show Calls _ _ #[.agg #[.int .i64 p.tk, .int .i64 p.val], .pointer (some ⟨x4, 0, none⟩), .pointer (some ⟨x5, 0, none⟩)] W _
  by_cases hin : lo ≤ p.tk ∧ p.tk < hi
  · have e0 : xorP lo hi by_ p = ⟨p.tk, bits .xor .i64 p.val by_⟩ := if_pos hin
    rw [e0]
    obtain ⟨y, hy⟩ : ∃ y, y = bits .xor .i64 p.val by_ := ⟨_, rfl⟩
    rw [← hy]
    obtain ⟨x7, hx7⟩ : ∃ x, x = x3.setCell ⟨W.heap.size, 1, none⟩ (.int .i64 y) := ⟨_, rfl⟩
    have c7 : Chg (fun k => k = W.heap.size) x3 x7 := by rw [hx7]; exact (Chg.refl (fun k => k = W.heap.size) x3).setCell (p := ⟨W.heap.size, 1, none⟩) (fun _ => rfl) _
    have hp7 : x7.heap[W.heap.size]? = some (.cells #[.int .i64 p.tk, .int .i64 y] 32 (0, 0)) := by rw [hx7]; exact Cat.heap_setCell_same hp3 1 _
    have hr7 := c7.heap hr3 (fun h => by omega)
    have q5 : x7.cell? ⟨W.heap.size, 0, none⟩ = some (.int .i64 p.tk) := by rw [cell_of_heap hp7]; rfl
    have q6 : x7.cell? ⟨W.heap.size, 1, none⟩ = some (.int .i64 y) := by rw [cell_of_heap hp7]; rfl
    have hst := run_storeAt_agg (P := Try.prog) x7 32 (W.heap.size + 1) 0 [.int .i64 p.tk, .int .i64 y] (by kernel_rfl) (fun j hj => row_some hr7 j hj) (fun j _ => frozen_of_heap hr7 _) (by intro u hu; simp at hu; rcases hu with rfl | rfl <;> rfl)
    have hr8 : (x7.setCells (W.heap.size + 1) 0 [.int .i64 p.tk, .int .i64 y]).heap[W.heap.size + 1]? = some (.cells #[.int .i64 p.tk, .int .i64 y] 32 (0, 0)) := Cat.heap_setCell_same (Cat.heap_setCell_same hr7 0 _) 1 _
    obtain ⟨x8, hx8⟩ : ∃ x8, x8 = x7.setCells (W.heap.size + 1) 0 [.int .i64 p.tk, .int .i64 y] := ⟨_, rfl⟩
    have c8 : Chg (fun _ => False) W x8 := by rw [hx8]; exact (c3.new c7 (fun q hq => by omega)).new (Chg.setCells _ (W.heap.size + 1) _ _) (fun q hq => by omega)
    rw [← hx8] at hst hr8
    have HR8 := Lib.hid hr8
    have C8 := Lib.hid c8
    obtain ⟨i1, i2⟩ := hin
    replace hx3 := hx3.symm
    replace hx7 := hx7.symm
    replace hy := hy.symm
    clear hp3 hr3 c3 hp7 hr7 c7 hr8 hx8 c8 e0 h0 h1 h2 cw HX3
    go_enter Try.func11, Try.ntmps11
    go_wp2_with (first | refine wpList_store rfl 32 _ _ rfl _ _ _ rfl rfl hst ?_)
    exact bodyPost_ret (v := .agg #[.int .i64 p.tk, .int .i64 y]) (results_cell_row (fn := Try.f11) (p := 4) (ty := 32) rfl _ _ (W.heap.size + 1) _ _ (0, 0) _ rfl HR8.out Try.underlying32 rfl (by kernel_rfl)) rfl ⟨rfl, C8.out⟩
  · have e0 : xorP lo hi by_ p = p := if_neg hin
    rw [e0]
    have hst := run_storeAt_agg (P := Try.prog) x3 32 (W.heap.size + 1) 0 [.int .i64 p.tk, .int .i64 p.val] (by kernel_rfl) (fun j hj => row_some hr3 j hj) (fun j _ => frozen_of_heap hr3 _) (by intro u hu; simp at hu; rcases hu with rfl | rfl <;> rfl)
    have hr8 : (x3.setCells (W.heap.size + 1) 0 [.int .i64 p.tk, .int .i64 p.val]).heap[W.heap.size + 1]? = some (.cells #[.int .i64 p.tk, .int .i64 p.val] 32 (0, 0)) := Cat.heap_setCell_same (Cat.heap_setCell_same hr3 0 _) 1 _
    obtain ⟨x8, hx8⟩ : ∃ x8, x8 = x3.setCells (W.heap.size + 1) 0 [.int .i64 p.tk, .int .i64 p.val] := ⟨_, rfl⟩
    have c8 : Chg (fun _ => False) W x8 := by rw [hx8]; exact c3.new (Chg.setCells _ (W.heap.size + 1) _ _) (fun q hq => by omega)
    rw [← hx8] at hst hr8
    have HR8 := Lib.hid hr8
    have C8 := Lib.hid c8
    replace hx3 := hx3.symm
    clear hp3 hr3 c3 hr8 hx8 c8 e0 h0 h1 h2 cw HX3 fp
    by_cases i1 : lo ≤ p.tk
    · have i2 : ¬ p.tk < hi := fun h => hin ⟨i1, h⟩
      clear hin
      go_enter Try.func11, Try.ntmps11
      go_wp2_with (first | refine wpList_store rfl 32 _ _ rfl _ _ _ rfl rfl hst ?_)
      exact bodyPost_ret (v := .agg #[.int .i64 p.tk, .int .i64 p.val]) (results_cell_row (fn := Try.f11) (p := 4) (ty := 32) rfl _ _ (W.heap.size + 1) _ _ (0, 0) _ rfl HR8.out Try.underlying32 rfl (by kernel_rfl)) rfl ⟨rfl, C8.out⟩
    · clear hin
      go_enter Try.func11, Try.ntmps11
      go_wp2_with (first | refine wpList_store rfl 32 _ _ rfl _ _ _ rfl rfl hst ?_)
      exact bodyPost_ret (v := .agg #[.int .i64 p.tk, .int .i64 p.val]) (results_cell_row (fn := Try.f11) (p := 4) (ty := 32) rfl _ _ (W.heap.size + 1) _ _ (0, 0) _ rfl HR8.out Try.underlying32 rfl (by kernel_rfl)) rfl ⟨rfl, C8.out⟩
end Go.Proofs.Ytmnnahkaenikkaa
