/- The law OctetOrders. -/
import Derived.Test.YtncgeeaifacapaaRows
import Derived.Test.YtncgeeaifacapaaOctet
import Derived.Test.YtncgeeaifacapaaR
namespace Go.Proofs.Ytncgeeaifacapaa
open Go.RowKit Go.Cat

theorem ret_bool {a b : Bool} (h : a = b) : Ending.returned (.bool a) = .returned (.bool b) := by rw [h]

set_option maxRecDepth 100000 in
set_option maxHeartbeats 1000000 in
theorem lives03 (w : World) : Calls Try.prog 15 #[] w fun e w' => e = .returned (.bool true) ∧ Chg (fun _ => False) w w' := by
  go_enter Try.func15, Try.ntmps15
  go_wp2_with fail
  refine (num_yes _ _ _ (fun k => k = w.heap.size) _ [] (by omega) (by omega) (by omega) (by decide) (WriterAt.fresh w _) (by simp)).mono ?_
  rintro e w1 ⟨rfl, h1, c1⟩
  go_wp2_with fail
  refine (wint_any _ _ _ _ _ h1 (by simp)).mono ?_
  rintro e w2 ⟨rfl, h2, c2⟩
  go_wp2_with fail
  refine (wbytes_any _ _ _ _ h2 (by simp)).mono ?_
  rintro e w3 ⟨v, rfl, h3, c3, f3⟩
  have hcv := convb w3 v _ h3.rb
  rw [show ([] ++ be (Int.toNat 258) (Int.toNat 2) ++ be (-1 % 18446744073709551616 : Int).toNat 8 : List UInt8) = [1, 2, 255, 255, 255, 255, 255, 255, 255, 255] by decide] at hcv
  go_wp2
  go_ret
  refine ⟨rfl, ?_⟩
  have z1 := c1.size
  simp only [World.size_alloc] at z1
  exact ((((Chg.refl _ w).alloc _).new c1 (fun k hk => by omega)).new c2 (ext_ge (fun k hk => by omega) (by simp))).new c3 (fun _ h => h.elim)
set_option maxRecDepth 100000 in
set_option maxHeartbeats 1000000 in
theorem orders_0 (a b which : Int) (w : World) (ha : 0 ≤ a) (ha' : a < 18446744073709551616) (hb : 0 ≤ b) (hb' : b < 18446744073709551616) (hw0 : 0 ≤ which) (hw1 : which < 256) (hq : which % 4 = 0) :
    Calls Try.prog 3 #[.int .u64 a, .int .u64 b, .int .u8 which] w fun e w' => e = .returned (.bool true) ∧ Chg (fun _ => False) w w' := by
  go_enter Try.func3, Try.ntmps3
  go_wp2_with fail
  refine (lives03 w).mono ?_
  rintro e w1 ⟨rfl, c1⟩
  go_wp2_with fail
  go_quiet (fail)
  go_wp2_with fail
  obtain ⟨W0, hW0⟩ : ∃ W0, W0 = ((w1.alloc (Obj.cells #[Value.int IntKind.i64 1, Value.int IntKind.i64 2, Value.int IntKind.i64 4, Value.int IntKind.i64 8] 3)).drewN nq) := ⟨_, rfl⟩
  have z0 : W0.heap.size = w1.heap.size + 1 := by rw [hW0]; simp
  have c0 : Chg (fun _ => False) w W0 := by rw [hW0]; exact Chg.drewN (c1.alloc _) _
  rw [← hW0]
  clear hW0
  refine (num_yes (a % 256) 1 _ (fun k => k = w1.heap.size + 1) (w1.heap.size + 1) [] (by omega) (by omega) (by omega) (by simp; omega) ((WriterAt.fresh_at W0 _ _ z0).alloc _) (by simp)).mono ?_
  rintro e w3 ⟨rfl, hx3, c3⟩
  have hy3 := (WriterAt.fresh_at (W0.alloc (Obj.cells #[.slice none 0 0] 28)) 28 (w1.heap.size + 1 + 1) (by simp; omega)).kept c3 (fun k hk => by omega)
  go_wp2_with fail
  refine (num_yes (b % 256) 1 _ (fun k => k = w1.heap.size + 1 + 1) (w1.heap.size + 1 + 1) [] (by omega) (by omega) (by omega) (by simp; omega) hy3 (by simp)).mono ?_
  rintro e w4 ⟨rfl, hy4, c4⟩
  have hx4 := hx3.kept c4 (fun k hk h => by rcases hk with hk | hk; omega; simp at hk; omega)
  go_wp2_with fail
  refine wpT.begin (fun _ => False) 27 (by kernel_rfl) rfl ?_
  refine wpT.take 0 rfl (by kernel_rfl) (fun _ _ _ h => h) rfl (fun w' hw' => by go_simp <;> with_reducible rfl) ?_
  simp only [Act.put, List.setIfInBounds_toArray, List.set_cons_zero, List.set_cons_succ]
  refine wpT.take 1 rfl (by kernel_rfl) (fun _ _ _ h => h) rfl (fun w' hw' => by go_simp <;> with_reducible rfl) ?_
  simp only [Act.put, List.setIfInBounds_toArray, List.set_cons_zero, List.set_cons_succ]
  refine wpT.take 2 rfl (by kernel_rfl) (fun _ _ _ h => h) rfl (fun w' hw' => by go_simp <;> with_reducible rfl) ?_
  simp only [Act.put, List.setIfInBounds_toArray, List.set_cons_zero, List.set_cons_succ]
  refine wpT.take 3 rfl (by kernel_rfl) (fun _ _ _ h => h) rfl (fun w' hw' => by go_simp <;> with_reducible rfl) ?_
  simp only [Act.put, List.setIfInBounds_toArray, List.set_cons_zero, List.set_cons_succ]
  refine wpT.take 4 rfl (by kernel_rfl) (fun _ _ _ h => h) rfl (fun w' hw' => by go_simp <;> with_reducible rfl) ?_
  simp only [Act.put, List.setIfInBounds_toArray, List.set_cons_zero, List.set_cons_succ]
  refine wpT.take 5 rfl (by kernel_rfl) (fun _ _ _ h => h) rfl (fun w' hw' => by go_simp <;> with_reducible rfl) ?_
  simp only [Act.put, List.setIfInBounds_toArray, List.set_cons_zero, List.set_cons_succ]
  refine wpT.take 6 rfl (by kernel_rfl) (fun _ _ _ h => h) rfl (fun w' hw' => by go_simp <;> with_reducible rfl) ?_
  simp only [Act.put, List.setIfInBounds_toArray, List.set_cons_zero, List.set_cons_succ]
  refine wpT.take 7 rfl (by kernel_rfl) (fun _ _ _ h => h) rfl (fun w' hw' => by go_simp <;> with_reducible rfl) ?_
  simp only [Act.put, List.setIfInBounds_toArray, List.set_cons_zero, List.set_cons_succ]
  refine wpT.take 10 rfl (by kernel_rfl) (fun _ _ _ h => h) rfl (fun w' hw' => by go_simp <;> with_reducible rfl) ?_
  simp only [Act.put, List.setIfInBounds_toArray, List.set_cons_zero, List.set_cons_succ]
  -- 8 t51 := CALL F17[t50]  [guard (6, true)]
  refine wpT.call 8 rfl (by kernel_rfl) rfl (fun K hK => ?_)
  go_wp2_with fail
  refine (wbytes_any _ _ _ _ (hx4.kept (T := fun _ => False) ((Chg.refl _ _).drew) (fun _ _ hf => hf)) (by simp)).mono ?_
  rintro e w5 ⟨v5, rfl, h5, c5, f5⟩
  refine hK _ _ c5 ?_
  obtain ⟨a5, k5, rfl⟩ := h5.form
  refine wpT.take 9 rfl (by kernel_rfl) (fun _ _ _ h => h) rfl (fun w' hw' => by go_simp <;> with_reducible rfl) ?_
  simp only [Act.put, List.setIfInBounds_toArray, List.set_cons_zero, List.set_cons_succ]
  refine wpT.take 11 rfl (by kernel_rfl) (fun _ _ _ h => h) rfl (fun w' hw' => by go_simp <;> with_reducible rfl) ?_
  simp only [Act.put, List.setIfInBounds_toArray, List.set_cons_zero, List.set_cons_succ]
  refine wpT.take 12 rfl (by kernel_rfl) (fun _ _ _ h => h) rfl (fun w' hw' => by go_simp <;> with_reducible rfl) ?_
  simp only [Act.put, List.setIfInBounds_toArray, List.set_cons_zero, List.set_cons_succ]
  refine wpT.take 13 rfl (by kernel_rfl) (fun _ _ _ h => h) rfl (fun w' hw' => by go_simp <;> with_reducible rfl) ?_
  simp only [Act.put, List.setIfInBounds_toArray, List.set_cons_zero, List.set_cons_succ]
  refine wpT.take 14 rfl (by kernel_rfl) (fun _ _ _ h => h) rfl (fun w' hw' => by go_simp <;> with_reducible rfl) ?_
  simp only [Act.put, List.setIfInBounds_toArray, List.set_cons_zero, List.set_cons_succ]
  refine wpT.take 17 rfl (by kernel_rfl) (fun _ _ _ h => h) rfl (fun w' hw' => by go_simp <;> with_reducible rfl) ?_
  simp only [Act.put, List.setIfInBounds_toArray, List.set_cons_zero, List.set_cons_succ]
  refine wpT.take 21 rfl (by kernel_rfl) (fun _ _ _ h => h) rfl (fun w' hw' => by go_simp <;> with_reducible rfl) ?_
  simp only [Act.put, List.setIfInBounds_toArray, List.set_cons_zero, List.set_cons_succ]
  refine wpT.take 22 rfl (by kernel_rfl) (fun _ _ _ h => h) rfl (fun w' hw' => by go_simp <;> with_reducible rfl) ?_
  simp only [Act.put, List.setIfInBounds_toArray, List.set_cons_zero, List.set_cons_succ]
  refine wpT.take 23 rfl (by kernel_rfl) (fun _ _ _ h => h) rfl (fun w' hw' => by go_simp <;> with_reducible rfl) ?_
  simp only [Act.put, List.setIfInBounds_toArray, List.set_cons_zero, List.set_cons_succ]
  -- 15 t58 := CALL F17[t57]  [guard (13, true)]
  refine wpT.call 15 rfl (by kernel_rfl) rfl (fun K hK => ?_)
  go_wp2_with fail
  refine (wbytes_any _ _ _ _ (hx4.kept (T := fun _ => False) (((Chg.refl _ _).drew).trans c5) (fun _ _ hf => hf)) (by simp)).mono ?_
  rintro e w6 ⟨v6, rfl, h6, c6, f6⟩
  refine hK _ _ c6 ?_
  refine wpT.take 16 rfl (by kernel_rfl) (fun _ _ _ h => h) rfl (fun w' hw' => by have hx := convb w' _ _ (h6.rb.kept hw' (fun _ _ hf => hf)); go_simp <;> with_reducible rfl) ?_   -- 16 t59 := convert 26 9 t58 [guard (13, true)]
  simp only [Act.put, List.setIfInBounds_toArray, List.set_cons_zero, List.set_cons_succ]
  -- 18 t61 := CALL F17[t60]  [guard (13, true)]
  refine wpT.call 18 rfl (by kernel_rfl) rfl (fun K hK => ?_)
  go_wp2_with fail
  refine (wbytes_any _ _ _ _ (hy4.kept (T := fun _ => False) ((((Chg.refl _ _).drew).trans c5).trans c6) (fun _ _ hf => hf)) (by simp)).mono ?_
  rintro e w7 ⟨v7, rfl, h7, c7, f7⟩
  refine hK _ _ c7 ?_
  refine wpT.take 19 rfl (by kernel_rfl) (fun _ _ _ h => h) rfl (fun w' hw' => by have hx := convb w' _ _ (h7.rb.kept hw' (fun _ _ hf => hf)); go_simp <;> with_reducible rfl) ?_   -- 19 t62 := convert 26 9 t61 [guard (13, true)]
  simp only [Act.put, List.setIfInBounds_toArray, List.set_cons_zero, List.set_cons_succ]
  refine wpT.take 20 rfl (by kernel_rfl) (fun _ _ _ h => h) rfl (fun w' hw' => by go_simp <;> with_reducible rfl) ?_
  simp only [Act.put, List.setIfInBounds_toArray, List.set_cons_zero, List.set_cons_succ]
  refine wpT.take 24 rfl (by kernel_rfl) (fun _ _ _ h => h) rfl (fun w' hw' => by go_simp <;> with_reducible rfl) ?_
  simp only [Act.put, List.setIfInBounds_toArray, List.set_cons_zero, List.set_cons_succ]
  refine wpT.take 25 rfl (by kernel_rfl) (fun _ _ _ h => h) rfl (fun w' hw' => by go_simp <;> with_reducible rfl) ?_
  simp only [Act.put, List.setIfInBounds_toArray, List.set_cons_zero, List.set_cons_succ]
  refine wpT.take 26 rfl (by kernel_rfl) (fun _ _ _ h => h) rfl (fun w' hw' => by go_simp <;> with_reducible rfl) ?_
  simp only [Act.put, List.setIfInBounds_toArray, List.set_cons_zero, List.set_cons_succ]
  refine wpT.done (by kernel_rfl) ?_
  go_wp2
  go_ret
  refine ⟨ret_bool (orders_close _ _ 1 (by omega) (by omega) (by simp; omega) (by simp; omega)), ?_⟩
  have z3 := c3.size
  simp only [World.size_alloc] at z3
  have d3 : Chg (fun _ => False) w w3 := ((c0.alloc _).alloc _).new c3 (fun k hk => by have := c1.size; omega)
  have d4 : Chg (fun _ => False) w w4 := d3.new c4 (fun k hk => by have := c1.size; omega)
  exact (((d4.drew).trans c5).trans c6).trans c7

set_option maxRecDepth 100000 in
set_option maxHeartbeats 1000000 in
theorem orders_1 (a b which : Int) (w : World) (ha : 0 ≤ a) (ha' : a < 18446744073709551616) (hb : 0 ≤ b) (hb' : b < 18446744073709551616) (hw0 : 0 ≤ which) (hw1 : which < 256) (hq : which % 4 = 1) :
    Calls Try.prog 3 #[.int .u64 a, .int .u64 b, .int .u8 which] w fun e w' => e = .returned (.bool true) ∧ Chg (fun _ => False) w w' := by
  go_enter Try.func3, Try.ntmps3
  go_wp2_with fail
  refine (lives03 w).mono ?_
  rintro e w1 ⟨rfl, c1⟩
  go_wp2_with fail
  go_quiet (fail)
  go_wp2_with fail
  obtain ⟨W0, hW0⟩ : ∃ W0, W0 = ((w1.alloc (Obj.cells #[Value.int IntKind.i64 1, Value.int IntKind.i64 2, Value.int IntKind.i64 4, Value.int IntKind.i64 8] 3)).drewN nq) := ⟨_, rfl⟩
  have z0 : W0.heap.size = w1.heap.size + 1 := by rw [hW0]; simp
  have c0 : Chg (fun _ => False) w W0 := by rw [hW0]; exact Chg.drewN (c1.alloc _) _
  rw [← hW0]
  clear hW0
  refine (num_yes (a % 65536) 2 _ (fun k => k = w1.heap.size + 1) (w1.heap.size + 1) [] (by omega) (by omega) (by omega) (by simp; omega) ((WriterAt.fresh_at W0 _ _ z0).alloc _) (by simp)).mono ?_
  rintro e w3 ⟨rfl, hx3, c3⟩
  have hy3 := (WriterAt.fresh_at (W0.alloc (Obj.cells #[.slice none 0 0] 28)) 28 (w1.heap.size + 1 + 1) (by simp; omega)).kept c3 (fun k hk => by omega)
  go_wp2_with fail
  refine (num_yes (b % 65536) 2 _ (fun k => k = w1.heap.size + 1 + 1) (w1.heap.size + 1 + 1) [] (by omega) (by omega) (by omega) (by simp; omega) hy3 (by simp)).mono ?_
  rintro e w4 ⟨rfl, hy4, c4⟩
  have hx4 := hx3.kept c4 (fun k hk h => by rcases hk with hk | hk; omega; simp at hk; omega)
  go_wp2_with fail
  refine wpT.begin (fun _ => False) 27 (by kernel_rfl) rfl ?_
  refine wpT.take 0 rfl (by kernel_rfl) (fun _ _ _ h => h) rfl (fun w' hw' => by go_simp <;> with_reducible rfl) ?_
  simp only [Act.put, List.setIfInBounds_toArray, List.set_cons_zero, List.set_cons_succ]
  refine wpT.take 1 rfl (by kernel_rfl) (fun _ _ _ h => h) rfl (fun w' hw' => by go_simp <;> with_reducible rfl) ?_
  simp only [Act.put, List.setIfInBounds_toArray, List.set_cons_zero, List.set_cons_succ]
  refine wpT.take 2 rfl (by kernel_rfl) (fun _ _ _ h => h) rfl (fun w' hw' => by go_simp <;> with_reducible rfl) ?_
  simp only [Act.put, List.setIfInBounds_toArray, List.set_cons_zero, List.set_cons_succ]
  refine wpT.take 3 rfl (by kernel_rfl) (fun _ _ _ h => h) rfl (fun w' hw' => by go_simp <;> with_reducible rfl) ?_
  simp only [Act.put, List.setIfInBounds_toArray, List.set_cons_zero, List.set_cons_succ]
  refine wpT.take 4 rfl (by kernel_rfl) (fun _ _ _ h => h) rfl (fun w' hw' => by go_simp <;> with_reducible rfl) ?_
  simp only [Act.put, List.setIfInBounds_toArray, List.set_cons_zero, List.set_cons_succ]
  refine wpT.take 5 rfl (by kernel_rfl) (fun _ _ _ h => h) rfl (fun w' hw' => by go_simp <;> with_reducible rfl) ?_
  simp only [Act.put, List.setIfInBounds_toArray, List.set_cons_zero, List.set_cons_succ]
  refine wpT.take 6 rfl (by kernel_rfl) (fun _ _ _ h => h) rfl (fun w' hw' => by go_simp <;> with_reducible rfl) ?_
  simp only [Act.put, List.setIfInBounds_toArray, List.set_cons_zero, List.set_cons_succ]
  refine wpT.take 7 rfl (by kernel_rfl) (fun _ _ _ h => h) rfl (fun w' hw' => by go_simp <;> with_reducible rfl) ?_
  simp only [Act.put, List.setIfInBounds_toArray, List.set_cons_zero, List.set_cons_succ]
  refine wpT.take 10 rfl (by kernel_rfl) (fun _ _ _ h => h) rfl (fun w' hw' => by go_simp <;> with_reducible rfl) ?_
  simp only [Act.put, List.setIfInBounds_toArray, List.set_cons_zero, List.set_cons_succ]
  -- 8 t51 := CALL F17[t50]  [guard (6, true)]
  refine wpT.call 8 rfl (by kernel_rfl) rfl (fun K hK => ?_)
  go_wp2_with fail
  refine (wbytes_any _ _ _ _ (hx4.kept (T := fun _ => False) ((Chg.refl _ _).drew) (fun _ _ hf => hf)) (by simp)).mono ?_
  rintro e w5 ⟨v5, rfl, h5, c5, f5⟩
  refine hK _ _ c5 ?_
  obtain ⟨a5, k5, rfl⟩ := h5.form
  refine wpT.take 9 rfl (by kernel_rfl) (fun _ _ _ h => h) rfl (fun w' hw' => by go_simp <;> with_reducible rfl) ?_
  simp only [Act.put, List.setIfInBounds_toArray, List.set_cons_zero, List.set_cons_succ]
  refine wpT.take 11 rfl (by kernel_rfl) (fun _ _ _ h => h) rfl (fun w' hw' => by go_simp <;> with_reducible rfl) ?_
  simp only [Act.put, List.setIfInBounds_toArray, List.set_cons_zero, List.set_cons_succ]
  refine wpT.take 12 rfl (by kernel_rfl) (fun _ _ _ h => h) rfl (fun w' hw' => by go_simp <;> with_reducible rfl) ?_
  simp only [Act.put, List.setIfInBounds_toArray, List.set_cons_zero, List.set_cons_succ]
  refine wpT.take 13 rfl (by kernel_rfl) (fun _ _ _ h => h) rfl (fun w' hw' => by go_simp <;> with_reducible rfl) ?_
  simp only [Act.put, List.setIfInBounds_toArray, List.set_cons_zero, List.set_cons_succ]
  refine wpT.take 14 rfl (by kernel_rfl) (fun _ _ _ h => h) rfl (fun w' hw' => by go_simp <;> with_reducible rfl) ?_
  simp only [Act.put, List.setIfInBounds_toArray, List.set_cons_zero, List.set_cons_succ]
  refine wpT.take 17 rfl (by kernel_rfl) (fun _ _ _ h => h) rfl (fun w' hw' => by go_simp <;> with_reducible rfl) ?_
  simp only [Act.put, List.setIfInBounds_toArray, List.set_cons_zero, List.set_cons_succ]
  refine wpT.take 21 rfl (by kernel_rfl) (fun _ _ _ h => h) rfl (fun w' hw' => by go_simp <;> with_reducible rfl) ?_
  simp only [Act.put, List.setIfInBounds_toArray, List.set_cons_zero, List.set_cons_succ]
  refine wpT.take 22 rfl (by kernel_rfl) (fun _ _ _ h => h) rfl (fun w' hw' => by go_simp <;> with_reducible rfl) ?_
  simp only [Act.put, List.setIfInBounds_toArray, List.set_cons_zero, List.set_cons_succ]
  refine wpT.take 23 rfl (by kernel_rfl) (fun _ _ _ h => h) rfl (fun w' hw' => by go_simp <;> with_reducible rfl) ?_
  simp only [Act.put, List.setIfInBounds_toArray, List.set_cons_zero, List.set_cons_succ]
  -- 15 t58 := CALL F17[t57]  [guard (13, true)]
  refine wpT.call 15 rfl (by kernel_rfl) rfl (fun K hK => ?_)
  go_wp2_with fail
  refine (wbytes_any _ _ _ _ (hx4.kept (T := fun _ => False) (((Chg.refl _ _).drew).trans c5) (fun _ _ hf => hf)) (by simp)).mono ?_
  rintro e w6 ⟨v6, rfl, h6, c6, f6⟩
  refine hK _ _ c6 ?_
  refine wpT.take 16 rfl (by kernel_rfl) (fun _ _ _ h => h) rfl (fun w' hw' => by have hx := convb w' _ _ (h6.rb.kept hw' (fun _ _ hf => hf)); go_simp <;> with_reducible rfl) ?_   -- 16 t59 := convert 26 9 t58 [guard (13, true)]
  simp only [Act.put, List.setIfInBounds_toArray, List.set_cons_zero, List.set_cons_succ]
  -- 18 t61 := CALL F17[t60]  [guard (13, true)]
  refine wpT.call 18 rfl (by kernel_rfl) rfl (fun K hK => ?_)
  go_wp2_with fail
  refine (wbytes_any _ _ _ _ (hy4.kept (T := fun _ => False) ((((Chg.refl _ _).drew).trans c5).trans c6) (fun _ _ hf => hf)) (by simp)).mono ?_
  rintro e w7 ⟨v7, rfl, h7, c7, f7⟩
  refine hK _ _ c7 ?_
  refine wpT.take 19 rfl (by kernel_rfl) (fun _ _ _ h => h) rfl (fun w' hw' => by have hx := convb w' _ _ (h7.rb.kept hw' (fun _ _ hf => hf)); go_simp <;> with_reducible rfl) ?_   -- 19 t62 := convert 26 9 t61 [guard (13, true)]
  simp only [Act.put, List.setIfInBounds_toArray, List.set_cons_zero, List.set_cons_succ]
  refine wpT.take 20 rfl (by kernel_rfl) (fun _ _ _ h => h) rfl (fun w' hw' => by go_simp <;> with_reducible rfl) ?_
  simp only [Act.put, List.setIfInBounds_toArray, List.set_cons_zero, List.set_cons_succ]
  refine wpT.take 24 rfl (by kernel_rfl) (fun _ _ _ h => h) rfl (fun w' hw' => by go_simp <;> with_reducible rfl) ?_
  simp only [Act.put, List.setIfInBounds_toArray, List.set_cons_zero, List.set_cons_succ]
  refine wpT.take 25 rfl (by kernel_rfl) (fun _ _ _ h => h) rfl (fun w' hw' => by go_simp <;> with_reducible rfl) ?_
  simp only [Act.put, List.setIfInBounds_toArray, List.set_cons_zero, List.set_cons_succ]
  refine wpT.take 26 rfl (by kernel_rfl) (fun _ _ _ h => h) rfl (fun w' hw' => by go_simp <;> with_reducible rfl) ?_
  simp only [Act.put, List.setIfInBounds_toArray, List.set_cons_zero, List.set_cons_succ]
  refine wpT.done (by kernel_rfl) ?_
  go_wp2
  go_ret
  refine ⟨ret_bool (orders_close _ _ 2 (by omega) (by omega) (by simp; omega) (by simp; omega)), ?_⟩
  have z3 := c3.size
  simp only [World.size_alloc] at z3
  have d3 : Chg (fun _ => False) w w3 := ((c0.alloc _).alloc _).new c3 (fun k hk => by have := c1.size; omega)
  have d4 : Chg (fun _ => False) w w4 := d3.new c4 (fun k hk => by have := c1.size; omega)
  exact (((d4.drew).trans c5).trans c6).trans c7

set_option maxRecDepth 100000 in
set_option maxHeartbeats 1000000 in
theorem orders_2 (a b which : Int) (w : World) (ha : 0 ≤ a) (ha' : a < 18446744073709551616) (hb : 0 ≤ b) (hb' : b < 18446744073709551616) (hw0 : 0 ≤ which) (hw1 : which < 256) (hq : which % 4 = 2) :
    Calls Try.prog 3 #[.int .u64 a, .int .u64 b, .int .u8 which] w fun e w' => e = .returned (.bool true) ∧ Chg (fun _ => False) w w' := by
  go_enter Try.func3, Try.ntmps3
  go_wp2_with fail
  refine (lives03 w).mono ?_
  rintro e w1 ⟨rfl, c1⟩
  go_wp2_with fail
  go_quiet (fail)
  go_wp2_with fail
  obtain ⟨W0, hW0⟩ : ∃ W0, W0 = ((w1.alloc (Obj.cells #[Value.int IntKind.i64 1, Value.int IntKind.i64 2, Value.int IntKind.i64 4, Value.int IntKind.i64 8] 3)).drewN nq) := ⟨_, rfl⟩
  have z0 : W0.heap.size = w1.heap.size + 1 := by rw [hW0]; simp
  have c0 : Chg (fun _ => False) w W0 := by rw [hW0]; exact Chg.drewN (c1.alloc _) _
  rw [← hW0]
  clear hW0
  refine (num_yes (a % 4294967296) 4 _ (fun k => k = w1.heap.size + 1) (w1.heap.size + 1) [] (by omega) (by omega) (by omega) (by simp; omega) ((WriterAt.fresh_at W0 _ _ z0).alloc _) (by simp)).mono ?_
  rintro e w3 ⟨rfl, hx3, c3⟩
  have hy3 := (WriterAt.fresh_at (W0.alloc (Obj.cells #[.slice none 0 0] 28)) 28 (w1.heap.size + 1 + 1) (by simp; omega)).kept c3 (fun k hk => by omega)
  go_wp2_with fail
  refine (num_yes (b % 4294967296) 4 _ (fun k => k = w1.heap.size + 1 + 1) (w1.heap.size + 1 + 1) [] (by omega) (by omega) (by omega) (by simp; omega) hy3 (by simp)).mono ?_
  rintro e w4 ⟨rfl, hy4, c4⟩
  have hx4 := hx3.kept c4 (fun k hk h => by rcases hk with hk | hk; omega; simp at hk; omega)
  go_wp2_with fail
  refine wpT.begin (fun _ => False) 27 (by kernel_rfl) rfl ?_
  refine wpT.take 0 rfl (by kernel_rfl) (fun _ _ _ h => h) rfl (fun w' hw' => by go_simp <;> with_reducible rfl) ?_
  simp only [Act.put, List.setIfInBounds_toArray, List.set_cons_zero, List.set_cons_succ]
  refine wpT.take 1 rfl (by kernel_rfl) (fun _ _ _ h => h) rfl (fun w' hw' => by go_simp <;> with_reducible rfl) ?_
  simp only [Act.put, List.setIfInBounds_toArray, List.set_cons_zero, List.set_cons_succ]
  refine wpT.take 2 rfl (by kernel_rfl) (fun _ _ _ h => h) rfl (fun w' hw' => by go_simp <;> with_reducible rfl) ?_
  simp only [Act.put, List.setIfInBounds_toArray, List.set_cons_zero, List.set_cons_succ]
  refine wpT.take 3 rfl (by kernel_rfl) (fun _ _ _ h => h) rfl (fun w' hw' => by go_simp <;> with_reducible rfl) ?_
  simp only [Act.put, List.setIfInBounds_toArray, List.set_cons_zero, List.set_cons_succ]
  refine wpT.take 4 rfl (by kernel_rfl) (fun _ _ _ h => h) rfl (fun w' hw' => by go_simp <;> with_reducible rfl) ?_
  simp only [Act.put, List.setIfInBounds_toArray, List.set_cons_zero, List.set_cons_succ]
  refine wpT.take 5 rfl (by kernel_rfl) (fun _ _ _ h => h) rfl (fun w' hw' => by go_simp <;> with_reducible rfl) ?_
  simp only [Act.put, List.setIfInBounds_toArray, List.set_cons_zero, List.set_cons_succ]
  refine wpT.take 6 rfl (by kernel_rfl) (fun _ _ _ h => h) rfl (fun w' hw' => by go_simp <;> with_reducible rfl) ?_
  simp only [Act.put, List.setIfInBounds_toArray, List.set_cons_zero, List.set_cons_succ]
  refine wpT.take 7 rfl (by kernel_rfl) (fun _ _ _ h => h) rfl (fun w' hw' => by go_simp <;> with_reducible rfl) ?_
  simp only [Act.put, List.setIfInBounds_toArray, List.set_cons_zero, List.set_cons_succ]
  refine wpT.take 10 rfl (by kernel_rfl) (fun _ _ _ h => h) rfl (fun w' hw' => by go_simp <;> with_reducible rfl) ?_
  simp only [Act.put, List.setIfInBounds_toArray, List.set_cons_zero, List.set_cons_succ]
  -- 8 t51 := CALL F17[t50]  [guard (6, true)]
  refine wpT.call 8 rfl (by kernel_rfl) rfl (fun K hK => ?_)
  go_wp2_with fail
  refine (wbytes_any _ _ _ _ (hx4.kept (T := fun _ => False) ((Chg.refl _ _).drew) (fun _ _ hf => hf)) (by simp)).mono ?_
  rintro e w5 ⟨v5, rfl, h5, c5, f5⟩
  refine hK _ _ c5 ?_
  obtain ⟨a5, k5, rfl⟩ := h5.form
  refine wpT.take 9 rfl (by kernel_rfl) (fun _ _ _ h => h) rfl (fun w' hw' => by go_simp <;> with_reducible rfl) ?_
  simp only [Act.put, List.setIfInBounds_toArray, List.set_cons_zero, List.set_cons_succ]
  refine wpT.take 11 rfl (by kernel_rfl) (fun _ _ _ h => h) rfl (fun w' hw' => by go_simp <;> with_reducible rfl) ?_
  simp only [Act.put, List.setIfInBounds_toArray, List.set_cons_zero, List.set_cons_succ]
  refine wpT.take 12 rfl (by kernel_rfl) (fun _ _ _ h => h) rfl (fun w' hw' => by go_simp <;> with_reducible rfl) ?_
  simp only [Act.put, List.setIfInBounds_toArray, List.set_cons_zero, List.set_cons_succ]
  refine wpT.take 13 rfl (by kernel_rfl) (fun _ _ _ h => h) rfl (fun w' hw' => by go_simp <;> with_reducible rfl) ?_
  simp only [Act.put, List.setIfInBounds_toArray, List.set_cons_zero, List.set_cons_succ]
  refine wpT.take 14 rfl (by kernel_rfl) (fun _ _ _ h => h) rfl (fun w' hw' => by go_simp <;> with_reducible rfl) ?_
  simp only [Act.put, List.setIfInBounds_toArray, List.set_cons_zero, List.set_cons_succ]
  refine wpT.take 17 rfl (by kernel_rfl) (fun _ _ _ h => h) rfl (fun w' hw' => by go_simp <;> with_reducible rfl) ?_
  simp only [Act.put, List.setIfInBounds_toArray, List.set_cons_zero, List.set_cons_succ]
  refine wpT.take 21 rfl (by kernel_rfl) (fun _ _ _ h => h) rfl (fun w' hw' => by go_simp <;> with_reducible rfl) ?_
  simp only [Act.put, List.setIfInBounds_toArray, List.set_cons_zero, List.set_cons_succ]
  refine wpT.take 22 rfl (by kernel_rfl) (fun _ _ _ h => h) rfl (fun w' hw' => by go_simp <;> with_reducible rfl) ?_
  simp only [Act.put, List.setIfInBounds_toArray, List.set_cons_zero, List.set_cons_succ]
  refine wpT.take 23 rfl (by kernel_rfl) (fun _ _ _ h => h) rfl (fun w' hw' => by go_simp <;> with_reducible rfl) ?_
  simp only [Act.put, List.setIfInBounds_toArray, List.set_cons_zero, List.set_cons_succ]
  -- 15 t58 := CALL F17[t57]  [guard (13, true)]
  refine wpT.call 15 rfl (by kernel_rfl) rfl (fun K hK => ?_)
  go_wp2_with fail
  refine (wbytes_any _ _ _ _ (hx4.kept (T := fun _ => False) (((Chg.refl _ _).drew).trans c5) (fun _ _ hf => hf)) (by simp)).mono ?_
  rintro e w6 ⟨v6, rfl, h6, c6, f6⟩
  refine hK _ _ c6 ?_
  refine wpT.take 16 rfl (by kernel_rfl) (fun _ _ _ h => h) rfl (fun w' hw' => by have hx := convb w' _ _ (h6.rb.kept hw' (fun _ _ hf => hf)); go_simp <;> with_reducible rfl) ?_   -- 16 t59 := convert 26 9 t58 [guard (13, true)]
  simp only [Act.put, List.setIfInBounds_toArray, List.set_cons_zero, List.set_cons_succ]
  -- 18 t61 := CALL F17[t60]  [guard (13, true)]
  refine wpT.call 18 rfl (by kernel_rfl) rfl (fun K hK => ?_)
  go_wp2_with fail
  refine (wbytes_any _ _ _ _ (hy4.kept (T := fun _ => False) ((((Chg.refl _ _).drew).trans c5).trans c6) (fun _ _ hf => hf)) (by simp)).mono ?_
  rintro e w7 ⟨v7, rfl, h7, c7, f7⟩
  refine hK _ _ c7 ?_
  refine wpT.take 19 rfl (by kernel_rfl) (fun _ _ _ h => h) rfl (fun w' hw' => by have hx := convb w' _ _ (h7.rb.kept hw' (fun _ _ hf => hf)); go_simp <;> with_reducible rfl) ?_   -- 19 t62 := convert 26 9 t61 [guard (13, true)]
  simp only [Act.put, List.setIfInBounds_toArray, List.set_cons_zero, List.set_cons_succ]
  refine wpT.take 20 rfl (by kernel_rfl) (fun _ _ _ h => h) rfl (fun w' hw' => by go_simp <;> with_reducible rfl) ?_
  simp only [Act.put, List.setIfInBounds_toArray, List.set_cons_zero, List.set_cons_succ]
  refine wpT.take 24 rfl (by kernel_rfl) (fun _ _ _ h => h) rfl (fun w' hw' => by go_simp <;> with_reducible rfl) ?_
  simp only [Act.put, List.setIfInBounds_toArray, List.set_cons_zero, List.set_cons_succ]
  refine wpT.take 25 rfl (by kernel_rfl) (fun _ _ _ h => h) rfl (fun w' hw' => by go_simp <;> with_reducible rfl) ?_
  simp only [Act.put, List.setIfInBounds_toArray, List.set_cons_zero, List.set_cons_succ]
  refine wpT.take 26 rfl (by kernel_rfl) (fun _ _ _ h => h) rfl (fun w' hw' => by go_simp <;> with_reducible rfl) ?_
  simp only [Act.put, List.setIfInBounds_toArray, List.set_cons_zero, List.set_cons_succ]
  refine wpT.done (by kernel_rfl) ?_
  go_wp2
  go_ret
  refine ⟨ret_bool (orders_close _ _ 4 (by omega) (by omega) (by simp; omega) (by simp; omega)), ?_⟩
  have z3 := c3.size
  simp only [World.size_alloc] at z3
  have d3 : Chg (fun _ => False) w w3 := ((c0.alloc _).alloc _).new c3 (fun k hk => by have := c1.size; omega)
  have d4 : Chg (fun _ => False) w w4 := d3.new c4 (fun k hk => by have := c1.size; omega)
  exact (((d4.drew).trans c5).trans c6).trans c7

set_option maxRecDepth 100000 in
set_option maxHeartbeats 1000000 in
theorem orders_3 (a b which : Int) (w : World) (ha : 0 ≤ a) (ha' : a < 18446744073709551616) (hb : 0 ≤ b) (hb' : b < 18446744073709551616) (hw0 : 0 ≤ which) (hw1 : which < 256) (hq : which % 4 = 3) :
    Calls Try.prog 3 #[.int .u64 a, .int .u64 b, .int .u8 which] w fun e w' => e = .returned (.bool true) ∧ Chg (fun _ => False) w w' := by
  go_enter Try.func3, Try.ntmps3
  go_wp2_with fail
  refine (lives03 w).mono ?_
  rintro e w1 ⟨rfl, c1⟩
  go_wp2_with fail
  obtain ⟨W0, hW0⟩ : ∃ W0, W0 = ((w1.alloc (Obj.cells #[Value.int IntKind.i64 1, Value.int IntKind.i64 2, Value.int IntKind.i64 4, Value.int IntKind.i64 8] 3))) := ⟨_, rfl⟩
  have z0 : W0.heap.size = w1.heap.size + 1 := by rw [hW0]; simp
  have c0 : Chg (fun _ => False) w W0 := by rw [hW0]; exact c1.alloc _
  rw [← hW0]
  clear hW0
  refine (num_yes a 8 _ (fun k => k = w1.heap.size + 1) (w1.heap.size + 1) [] (by omega) (by omega) (by omega) (by simp; omega) ((WriterAt.fresh_at W0 _ _ z0).alloc _) (by simp)).mono ?_
  rintro e w3 ⟨rfl, hx3, c3⟩
  have hy3 := (WriterAt.fresh_at (W0.alloc (Obj.cells #[.slice none 0 0] 28)) 28 (w1.heap.size + 1 + 1) (by simp; omega)).kept c3 (fun k hk => by omega)
  go_wp2_with fail
  refine (num_yes b 8 _ (fun k => k = w1.heap.size + 1 + 1) (w1.heap.size + 1 + 1) [] (by omega) (by omega) (by omega) (by simp; omega) hy3 (by simp)).mono ?_
  rintro e w4 ⟨rfl, hy4, c4⟩
  have hx4 := hx3.kept c4 (fun k hk h => by rcases hk with hk | hk; omega; simp at hk; omega)
  go_wp2_with fail
  refine wpT.begin (fun _ => False) 27 (by kernel_rfl) rfl ?_
  refine wpT.take 0 rfl (by kernel_rfl) (fun _ _ _ h => h) rfl (fun w' hw' => by go_simp <;> with_reducible rfl) ?_
  simp only [Act.put, List.setIfInBounds_toArray, List.set_cons_zero, List.set_cons_succ]
  refine wpT.take 1 rfl (by kernel_rfl) (fun _ _ _ h => h) rfl (fun w' hw' => by go_simp <;> with_reducible rfl) ?_
  simp only [Act.put, List.setIfInBounds_toArray, List.set_cons_zero, List.set_cons_succ]
  refine wpT.take 2 rfl (by kernel_rfl) (fun _ _ _ h => h) rfl (fun w' hw' => by go_simp <;> with_reducible rfl) ?_
  simp only [Act.put, List.setIfInBounds_toArray, List.set_cons_zero, List.set_cons_succ]
  refine wpT.take 3 rfl (by kernel_rfl) (fun _ _ _ h => h) rfl (fun w' hw' => by go_simp <;> with_reducible rfl) ?_
  simp only [Act.put, List.setIfInBounds_toArray, List.set_cons_zero, List.set_cons_succ]
  refine wpT.take 4 rfl (by kernel_rfl) (fun _ _ _ h => h) rfl (fun w' hw' => by go_simp <;> with_reducible rfl) ?_
  simp only [Act.put, List.setIfInBounds_toArray, List.set_cons_zero, List.set_cons_succ]
  refine wpT.take 5 rfl (by kernel_rfl) (fun _ _ _ h => h) rfl (fun w' hw' => by go_simp <;> with_reducible rfl) ?_
  simp only [Act.put, List.setIfInBounds_toArray, List.set_cons_zero, List.set_cons_succ]
  refine wpT.take 6 rfl (by kernel_rfl) (fun _ _ _ h => h) rfl (fun w' hw' => by go_simp <;> with_reducible rfl) ?_
  simp only [Act.put, List.setIfInBounds_toArray, List.set_cons_zero, List.set_cons_succ]
  refine wpT.take 7 rfl (by kernel_rfl) (fun _ _ _ h => h) rfl (fun w' hw' => by go_simp <;> with_reducible rfl) ?_
  simp only [Act.put, List.setIfInBounds_toArray, List.set_cons_zero, List.set_cons_succ]
  refine wpT.take 10 rfl (by kernel_rfl) (fun _ _ _ h => h) rfl (fun w' hw' => by go_simp <;> with_reducible rfl) ?_
  simp only [Act.put, List.setIfInBounds_toArray, List.set_cons_zero, List.set_cons_succ]
  -- 8 t51 := CALL F17[t50]  [guard (6, true)]
  refine wpT.call 8 rfl (by kernel_rfl) rfl (fun K hK => ?_)
  go_wp2_with fail
  refine (wbytes_any _ _ _ _ (hx4.kept (T := fun _ => False) ((Chg.refl _ _).drew) (fun _ _ hf => hf)) (by simp)).mono ?_
  rintro e w5 ⟨v5, rfl, h5, c5, f5⟩
  refine hK _ _ c5 ?_
  obtain ⟨a5, k5, rfl⟩ := h5.form
  refine wpT.take 9 rfl (by kernel_rfl) (fun _ _ _ h => h) rfl (fun w' hw' => by go_simp <;> with_reducible rfl) ?_
  simp only [Act.put, List.setIfInBounds_toArray, List.set_cons_zero, List.set_cons_succ]
  refine wpT.take 11 rfl (by kernel_rfl) (fun _ _ _ h => h) rfl (fun w' hw' => by go_simp <;> with_reducible rfl) ?_
  simp only [Act.put, List.setIfInBounds_toArray, List.set_cons_zero, List.set_cons_succ]
  refine wpT.take 12 rfl (by kernel_rfl) (fun _ _ _ h => h) rfl (fun w' hw' => by go_simp <;> with_reducible rfl) ?_
  simp only [Act.put, List.setIfInBounds_toArray, List.set_cons_zero, List.set_cons_succ]
  refine wpT.take 13 rfl (by kernel_rfl) (fun _ _ _ h => h) rfl (fun w' hw' => by go_simp <;> with_reducible rfl) ?_
  simp only [Act.put, List.setIfInBounds_toArray, List.set_cons_zero, List.set_cons_succ]
  refine wpT.take 14 rfl (by kernel_rfl) (fun _ _ _ h => h) rfl (fun w' hw' => by go_simp <;> with_reducible rfl) ?_
  simp only [Act.put, List.setIfInBounds_toArray, List.set_cons_zero, List.set_cons_succ]
  refine wpT.take 17 rfl (by kernel_rfl) (fun _ _ _ h => h) rfl (fun w' hw' => by go_simp <;> with_reducible rfl) ?_
  simp only [Act.put, List.setIfInBounds_toArray, List.set_cons_zero, List.set_cons_succ]
  refine wpT.take 21 rfl (by kernel_rfl) (fun _ _ _ h => h) rfl (fun w' hw' => by go_simp <;> with_reducible rfl) ?_
  simp only [Act.put, List.setIfInBounds_toArray, List.set_cons_zero, List.set_cons_succ]
  refine wpT.take 22 rfl (by kernel_rfl) (fun _ _ _ h => h) rfl (fun w' hw' => by go_simp <;> with_reducible rfl) ?_
  simp only [Act.put, List.setIfInBounds_toArray, List.set_cons_zero, List.set_cons_succ]
  refine wpT.take 23 rfl (by kernel_rfl) (fun _ _ _ h => h) rfl (fun w' hw' => by go_simp <;> with_reducible rfl) ?_
  simp only [Act.put, List.setIfInBounds_toArray, List.set_cons_zero, List.set_cons_succ]
  -- 15 t58 := CALL F17[t57]  [guard (13, true)]
  refine wpT.call 15 rfl (by kernel_rfl) rfl (fun K hK => ?_)
  go_wp2_with fail
  refine (wbytes_any _ _ _ _ (hx4.kept (T := fun _ => False) (((Chg.refl _ _).drew).trans c5) (fun _ _ hf => hf)) (by simp)).mono ?_
  rintro e w6 ⟨v6, rfl, h6, c6, f6⟩
  refine hK _ _ c6 ?_
  refine wpT.take 16 rfl (by kernel_rfl) (fun _ _ _ h => h) rfl (fun w' hw' => by have hx := convb w' _ _ (h6.rb.kept hw' (fun _ _ hf => hf)); go_simp <;> with_reducible rfl) ?_   -- 16 t59 := convert 26 9 t58 [guard (13, true)]
  simp only [Act.put, List.setIfInBounds_toArray, List.set_cons_zero, List.set_cons_succ]
  -- 18 t61 := CALL F17[t60]  [guard (13, true)]
  refine wpT.call 18 rfl (by kernel_rfl) rfl (fun K hK => ?_)
  go_wp2_with fail
  refine (wbytes_any _ _ _ _ (hy4.kept (T := fun _ => False) ((((Chg.refl _ _).drew).trans c5).trans c6) (fun _ _ hf => hf)) (by simp)).mono ?_
  rintro e w7 ⟨v7, rfl, h7, c7, f7⟩
  refine hK _ _ c7 ?_
  refine wpT.take 19 rfl (by kernel_rfl) (fun _ _ _ h => h) rfl (fun w' hw' => by have hx := convb w' _ _ (h7.rb.kept hw' (fun _ _ hf => hf)); go_simp <;> with_reducible rfl) ?_   -- 19 t62 := convert 26 9 t61 [guard (13, true)]
  simp only [Act.put, List.setIfInBounds_toArray, List.set_cons_zero, List.set_cons_succ]
  refine wpT.take 20 rfl (by kernel_rfl) (fun _ _ _ h => h) rfl (fun w' hw' => by go_simp <;> with_reducible rfl) ?_
  simp only [Act.put, List.setIfInBounds_toArray, List.set_cons_zero, List.set_cons_succ]
  refine wpT.take 24 rfl (by kernel_rfl) (fun _ _ _ h => h) rfl (fun w' hw' => by go_simp <;> with_reducible rfl) ?_
  simp only [Act.put, List.setIfInBounds_toArray, List.set_cons_zero, List.set_cons_succ]
  refine wpT.take 25 rfl (by kernel_rfl) (fun _ _ _ h => h) rfl (fun w' hw' => by go_simp <;> with_reducible rfl) ?_
  simp only [Act.put, List.setIfInBounds_toArray, List.set_cons_zero, List.set_cons_succ]
  refine wpT.take 26 rfl (by kernel_rfl) (fun _ _ _ h => h) rfl (fun w' hw' => by go_simp <;> with_reducible rfl) ?_
  simp only [Act.put, List.setIfInBounds_toArray, List.set_cons_zero, List.set_cons_succ]
  refine wpT.done (by kernel_rfl) ?_
  go_wp2
  go_ret
  refine ⟨ret_bool (orders_close _ _ 8 (by omega) (by omega) (by simp; omega) (by simp; omega)), ?_⟩
  have z3 := c3.size
  simp only [World.size_alloc] at z3
  have d3 : Chg (fun _ => False) w w3 := ((c0.alloc _).alloc _).new c3 (fun k hk => by have := c1.size; omega)
  have d4 : Chg (fun _ => False) w w4 := d3.new c4 (fun k hk => by have := c1.size; omega)
  exact (((d4.drew).trans c5).trans c6).trans c7

theorem orders_any (a b which : Int) (w : World) (ha : 0 ≤ a) (ha' : a < 18446744073709551616) (hb : 0 ≤ b) (hb' : b < 18446744073709551616) (hw0 : 0 ≤ which) (hw1 : which < 256) :
    Calls Try.prog 3 #[.int .u64 a, .int .u64 b, .int .u8 which] w fun e w' => e = .returned (.bool true) ∧ Chg (fun _ => False) w w' := by
  rcases (show which % 4 = 0 ∨ which % 4 = 1 ∨ which % 4 = 2 ∨ which % 4 = 3 by omega) with h | h | h | h
  · exact orders_0 a b which w ha ha' hb hb' hw0 hw1 h
  · exact orders_1 a b which w ha ha' hb hb' hw0 hw1 h
  · exact orders_2 a b which w ha ha' hb hb' hw0 hw1 h
  · exact orders_3 a b which w ha ha' hb hb' hw0 hw1 h

end Go.Proofs.Ytncgeeaifacapaa
