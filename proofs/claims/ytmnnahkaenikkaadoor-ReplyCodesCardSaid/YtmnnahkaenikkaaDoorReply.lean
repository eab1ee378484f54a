/- reply.Num, Text, Row, Thing, Code, Word. -/
import Derived.Test.YtmnnahkaenikkaaDoorPrint3
namespace Go.Proofs.YtmnnahkaenikkaaDoor
open Go.RowKit Go.Cat
def numC (n : Int) : List Value := [.int .i64 2, .bool false, .int .i64 n, .string ⟨#[]⟩, .slice none 0 0, .slice none 0 0]
def textC (s : List UInt8) : List Value := [.int .i64 3, .bool false, .int .i64 0, .string ⟨s.toArray⟩, .slice none 0 0, .slice none 0 0]
def rowC (v : Value) : List Value := [.int .i64 4, .bool false, .int .i64 0, .string ⟨#[]⟩, v, .slice none 0 0]
def thingC (v : Value) : List Value := [.int .i64 5, .bool false, .int .i64 0, .string ⟨#[]⟩, .slice none 0 0, v]
theorem num_c (n : Int) (w : World) : Calls Tryd.prog 8 #[.int .i64 n] w fun e w' => e = .returned (.agg (numC n).toArray) ∧ Chg (fun _ => False) w w' := by
  have hst := store_new (P := Tryd.prog) 26 [.int .i64 0, .bool false, .int .i64 0, .string ⟨#[]⟩, .slice none 0 0, .slice none 0 0] (numC n) 26 size_val rfl (by intro u hu; simp [numC] at hu; rcases hu with rfl | rfl | rfl | rfl | rfl | rfl <;> rfl) w
  have HH := Lib.hid (heap_alloc_new w (.cells (numC n).toArray 26))
  go_enter Tryd.func8, Tryd.ntmps8
  go_wp2_with (refine wpList_store rfl 26 _ _ rfl _ _ _ rfl rfl hst ?_)
  refine bodyPost_ret (v := .agg (numC n).toArray) (results_cell_row (fn := Tryd.f8) (p := 2) (ty := 26) rfl _ _ w.heap.size _ _ (0, 0) _ rfl HH.out Tryd.underlying26 rfl size_val) rfl ?_
  exact ⟨rfl, (Chg.refl _ w).alloc _⟩
theorem rtext_c (s : List UInt8) (w : World) : Calls Tryd.prog 9 #[.string ⟨s.toArray⟩] w fun e w' => e = .returned (.agg (textC s).toArray) ∧ Chg (fun _ => False) w w' := by
  have hst := store_new (P := Tryd.prog) 26 [.int .i64 0, .bool false, .int .i64 0, .string ⟨#[]⟩, .slice none 0 0, .slice none 0 0] (textC s) 26 size_val rfl (by intro u hu; simp [textC] at hu; rcases hu with rfl | rfl | rfl | rfl | rfl | rfl <;> rfl) w
  have HH := Lib.hid (heap_alloc_new w (.cells (textC s).toArray 26))
  go_enter Tryd.func9, Tryd.ntmps9
  go_wp2_with (refine wpList_store rfl 26 _ _ rfl _ _ _ rfl rfl hst ?_)
  refine bodyPost_ret (v := .agg (textC s).toArray) (results_cell_row (fn := Tryd.f9) (p := 2) (ty := 26) rfl _ _ w.heap.size _ _ (0, 0) _ rfl HH.out Tryd.underlying26 rfl size_val) rfl ?_
  exact ⟨rfl, (Chg.refl _ w).alloc _⟩
theorem row_c (a : Option Addr) (n c : Nat) (w : World) : Calls Tryd.prog 7 #[.slice a n c] w fun e w' => e = .returned (.agg (rowC (.slice a n c)).toArray) ∧ Chg (fun _ => False) w w' := by
  have hst := store_new (P := Tryd.prog) 26 [.int .i64 0, .bool false, .int .i64 0, .string ⟨#[]⟩, .slice none 0 0, .slice none 0 0] (rowC (.slice a n c)) 26 size_val rfl (by intro u hu; simp [rowC] at hu; rcases hu with rfl | rfl | rfl | rfl | rfl | rfl <;> rfl) w
  have HH := Lib.hid (heap_alloc_new w (.cells (rowC (.slice a n c)).toArray 26))
  go_enter Tryd.func7, Tryd.ntmps7
  go_wp2_with (refine wpList_store rfl 26 _ _ rfl _ _ _ rfl rfl hst ?_)
  refine bodyPost_ret (v := .agg (rowC (.slice a n c)).toArray) (results_cell_row (fn := Tryd.f7) (p := 2) (ty := 26) rfl _ _ w.heap.size _ _ (0, 0) _ rfl HH.out Tryd.underlying26 rfl size_val) rfl ?_
  exact ⟨rfl, (Chg.refl _ w).alloc _⟩
theorem thing_c (a : Option Addr) (n c : Nat) (w : World) : Calls Tryd.prog 6 #[.slice a n c] w fun e w' => e = .returned (.agg (thingC (.slice a n c)).toArray) ∧ Chg (fun _ => False) w w' := by
  have hst := store_new (P := Tryd.prog) 26 [.int .i64 0, .bool false, .int .i64 0, .string ⟨#[]⟩, .slice none 0 0, .slice none 0 0] (thingC (.slice a n c)) 26 size_val rfl (by intro u hu; simp [thingC] at hu; rcases hu with rfl | rfl | rfl | rfl | rfl | rfl <;> rfl) w
  have HH := Lib.hid (heap_alloc_new w (.cells (thingC (.slice a n c)).toArray 26))
  go_enter Tryd.func6, Tryd.ntmps6
  go_wp2_with (refine wpList_store rfl 26 _ _ rfl _ _ _ rfl rfl hst ?_)
  refine bodyPost_ret (v := .agg (thingC (.slice a n c)).toArray) (results_cell_row (fn := Tryd.f6) (p := 2) (ty := 26) rfl _ _ w.heap.size _ _ (0, 0) _ rfl HH.out Tryd.underlying26 rfl size_val) rfl ?_
  exact ⟨rfl, (Chg.refl _ w).alloc _⟩
def codes31 : List Int := [200, 400, 400, 400, 400, 400, 507, 404, 409, 409, 429, 401, 413, 503, 409, 400, 400, 409]
def codeOf (e : Int) : Int := if 0 ≤ e ∧ e < 18 then codes31.getD e.toNat 400 else 400
def words31 : List (List UInt8) := [[111, 107], [97, 114, 103, 117, 109, 101, 110, 116], [102, 111, 114, 109], [114, 97, 110, 103, 101], [115, 104, 111, 114, 116], [116, 111, 114, 110], [102, 117, 108, 108], [110, 111, 110, 101], [115, 97, 109, 101], [104, 101, 108, 100], [113, 117, 111, 116, 97], [97, 117, 116, 104], [108, 111, 110, 103], [100, 111, 119, 110], [115, 116, 97, 116, 101], [110, 97, 109, 101], [98, 114, 111, 107, 101, 110], [111, 114, 100, 101, 114]]
def wordOf (e : Int) : List UInt8 := if 0 ≤ e ∧ e < 18 then words31.getD e.toNat [] else [117, 110, 107, 110, 111, 119, 110]
set_option maxRecDepth 100000 in
set_option maxHeartbeats 2000000 in
theorem code_c (e : Int) (w : World) : Calls Tryd.prog 14 #[.int .i64 e] w fun x w' => x = .returned (.int .i64 (codeOf e)) ∧ w = w' := by
  by_cases h : 0 ≤ e ∧ e < 18
  · rcases (show e = 0 ∨ e = 1 ∨ e = 2 ∨ e = 3 ∨ e = 4 ∨ e = 5 ∨ e = 6 ∨ e = 7 ∨ e = 8 ∨ e = 9 ∨ e = 10 ∨ e = 11 ∨ e = 12 ∨ e = 13 ∨ e = 14 ∨ e = 15 ∨ e = 16 ∨ e = 17 by omega) with rfl | rfl | rfl | rfl | rfl | rfl | rfl | rfl | rfl | rfl | rfl | rfl | rfl | rfl | rfl | rfl | rfl | rfl <;>
      (clear h; go_enter Tryd.func14, Tryd.ntmps14; go_wp2_with fail; go_ret; exact ⟨rfl, rfl⟩)
  · have hc : codeOf e = 400 := if_neg h
    rw [hc]
    have f0 : (e == 0) = false := by simp; omega
    have f7 : (e == 7) = false := by simp; omega
    have f8 : (e == 8) = false := by simp; omega
    have f9 : (e == 9) = false := by simp; omega
    have f14 : (e == 14) = false := by simp; omega
    have f17 : (e == 17) = false := by simp; omega
    have f10 : (e == 10) = false := by simp; omega
    have f11 : (e == 11) = false := by simp; omega
    have f12 : (e == 12) = false := by simp; omega
    have f6 : (e == 6) = false := by simp; omega
    have f13 : (e == 13) = false := by simp; omega
    clear h hc
    go_enter Tryd.func14, Tryd.ntmps14
    go_wp2_with fail
    go_ret
    exact ⟨rfl, rfl⟩
end Go.Proofs.YtmnnahkaenikkaaDoor
