/- Contracts: catacomblaw26.bytes. -/
import Derived.Test.YtjhkhdockiocgaaRef26
namespace Go.Proofs.Ytjhkhdockiocgaa
open Go.RowKit Go.Cat

theorem exec_cat {o : Oper} {a : Act} {w : World} (x y : Operand) (t' : TypeId) (ho : o.op = .binOp .add 9 x y t') (A B : List UInt8) (hx : a.eval x = .string ⟨A.toArray⟩) (hy : a.eval y = .string ⟨B.toArray⟩) (h : A.length + B.length ≤ 9223372036854775807) : (execOp a.eval o).run Try.prog w = .ok (.value (.string ⟨(A ++ B).toArray⟩)) w := by
  have h' : ¬ 9223372036854775807 < A.length + B.length := by omega
  have e := cat_str A B
  unfold execOp
  rw [ho]
  simp only [hx, hy]
  go_simp
theorem run_cons (x : It) (l : List It) : encIts (x :: l) = x.enc ++ encIts l := rfl

set_option maxRecDepth 100000 in
set_option maxHeartbeats 1000000 in
theorem bytes_0 (x : Cmd) (w : World) (hk : x.kind = 0) (h_tenant : x.tenant.length ≤ 255) :
    Calls Try.prog 20 #[.agg #[.int .i64 x.kind, .string ⟨x.tenant.toArray⟩, .string ⟨x.series.toArray⟩, .string ⟨x.name.toArray⟩, x.pv, .int .i64 x.rlo, .int .i64 x.rhi, .int .i64 x.praw, .int .i64 x.pmid, .int .i64 x.plong, .string ⟨x.hname.toArray⟩, .string ⟨x.hser.toArray⟩, .int .i64 x.hlo, .int .i64 x.hhi, .int .i64 x.bytes, .int .i64 x.count, .int .i64 x.at_]] w fun e w' => e = .returned (.string ⟨(be 0 1 ++ (be x.tenant.length 2 ++ x.tenant) ++ i8 x.bytes ++ i8 x.count).toArray⟩) ∧ Chg (fun _ => False) w w' := by
  obtain ⟨w0, hw0⟩ : ∃ w0, w0 = w.alloc (.cells #[.int .i64 x.kind, .string ⟨x.tenant.toArray⟩, .string ⟨x.series.toArray⟩, .string ⟨x.name.toArray⟩, x.pv, .int .i64 x.rlo, .int .i64 x.rhi, .int .i64 x.praw, .int .i64 x.pmid, .int .i64 x.plong, .string ⟨x.hname.toArray⟩, .string ⟨x.hser.toArray⟩, .int .i64 x.hlo, .int .i64 x.hhi, .int .i64 x.bytes, .int .i64 x.count, .int .i64 x.at_] 30) := ⟨_, rfl⟩
  have c0 : Chg (fun _ => False) w w0 := by rw [hw0]; exact (Chg.refl _ w).alloc _
  have HX0 : Hid (w0.heap[w.heap.size]? = some (.cells x.cells.toArray 30 (0, 0))) := by rw [hw0]; exact heap_at_new _ _ _ rfl
  have q0 : w0.cell? ⟨w.heap.size, 0, none⟩ = some (.int .i64 0) := cell_cmd HX0.out 0 _ (by rw [← hk]; rfl)
  have hcv := convb (w0.alloc (.cells (bs (be 0 1)).toArray 5)) _ _ (rb_lits w0 (be 0 1) 5 (by simp))
  have e2 : (bs (be 0 1)).toArray = #[.int .u8 0] := by simp [be, bs]
  rw [e2, be_length] at hcv
  obtain ⟨KK, hK⟩ : ∃ K, K = be 0 1 := ⟨_, rfl⟩
  have hKl : KK.length = 1 := by rw [hK]; rfl
  rw [← hK] at hcv ⊢
  obtain ⟨w1, hw1⟩ : ∃ w1, w1 = w0.alloc (.cells #[.int .u8 0] 5) := ⟨_, rfl⟩
  have c01 : Chg (fun _ => False) w0 w1 := by rw [hw1]; exact (Chg.refl _ w0).alloc _
  have HX1 := Lib.hid (c01.heap HX0.out (fun h => h))
  have q1 : w1.cell? ⟨w.heap.size, 0, none⟩ = some (.int .i64 0) := c01.cell q0 (fun h => h)
  have G1 : Hid (Chg (fun _ => False) w w1) := c0.trans c01
  have HW0 := Lib.hid hw0
  have HW1 := Lib.hid hw1
  clear hw0 hw1 e2 hK hk c0 c01
  go_enter Try.func20, Try.ntmps20
  go_upto_region 1 with fail
  rw [← HW0.out]
  go_upto_region 2 with fail
  rw [← HW1.out]
  clear HW0 HW1 hcv q0
  go_upto_region 5 with fail
  refine wpT.begin (fun _ => False) 14 (by kernel_rfl) rfl ?_
  refine wpT.take 0 rfl (by kernel_rfl) (fun _ _ _ h => h) rfl (fun w' hw' => by go_simp <;> with_reducible rfl) ?_
  simp only [Act.put, List.setIfInBounds_toArray, List.set_cons_zero, List.set_cons_succ]
  refine wpT.take 1 rfl (by kernel_rfl) (fun _ _ _ h => h) rfl (fun w' hw' => by go_simp <;> with_reducible rfl) ?_
  simp only [Act.put, List.setIfInBounds_toArray, List.set_cons_zero, List.set_cons_succ]
  refine wpT.ld 2 rfl (by kernel_rfl) (fun _ _ _ _ h => h) rfl _ _ rfl (by kernel_rfl) _ rfl _ (by rw [World.cell?_drew]; exact cell_cmd HX1.out 1 _ rfl) (fun h => h) ?_
  simp only [Act.put, List.setIfInBounds_toArray, List.set_cons_zero, List.set_cons_succ]
  refine wpT.take 5 rfl (by kernel_rfl) (fun _ _ _ h => h) rfl (fun w' hw' => by go_simp <;> with_reducible rfl) ?_
  simp only [Act.put, List.setIfInBounds_toArray, List.set_cons_zero, List.set_cons_succ]
  refine wpT.ld 6 rfl (by kernel_rfl) (fun _ _ _ _ h => h) rfl _ _ rfl (by kernel_rfl) _ rfl _ (by rw [World.cell?_drew]; exact cell_cmd HX1.out 14 _ rfl) (fun h => h) ?_
  simp only [Act.put, List.setIfInBounds_toArray, List.set_cons_zero, List.set_cons_succ]
  refine wpT.take 9 rfl (by kernel_rfl) (fun _ _ _ h => h) rfl (fun w' hw' => by go_simp <;> with_reducible rfl) ?_
  simp only [Act.put, List.setIfInBounds_toArray, List.set_cons_zero, List.set_cons_succ]
  refine wpT.ld 10 rfl (by kernel_rfl) (fun _ _ _ _ h => h) rfl _ _ rfl (by kernel_rfl) _ rfl _ (by rw [World.cell?_drew]; exact cell_cmd HX1.out 15 _ rfl) (fun h => h) ?_
  simp only [Act.put, List.setIfInBounds_toArray, List.set_cons_zero, List.set_cons_succ]
  refine wpT.call 3 rfl (by kernel_rfl) rfl (fun K hK => ?_)
  go_wp2_with fail
  refine (ref_text x.tenant _ (by omega)).mono ?_
  rintro e w1x1 ⟨rfl, cst⟩
  have HX_w1x1 := Lib.hid (((Chg.refl (fun _ => False) w1).drew.trans cst).heap HX1.out (fun h => h))
  have G_w1x1 : Hid (Chg (fun _ => False) w w1x1) := G1.out.trans ((Chg.refl (fun _ => False) w1).drew.trans cst)
  refine hK _ _ cst ?_
  clear hK cst
  try (simp only [Act.put, List.setIfInBounds_toArray, List.set_cons_zero, List.set_cons_succ])
  refine wpT.take 4 rfl (by kernel_rfl) (fun _ _ _ h => h) rfl (fun w' hw' => exec_cat _ _ _ rfl KK (be x.tenant.length 2 ++ x.tenant) rfl rfl (by simp; omega)) ?_
  simp only [Act.put, List.setIfInBounds_toArray, List.set_cons_zero, List.set_cons_succ]
  refine wpT.call 7 rfl (by kernel_rfl) rfl (fun K hK => ?_)
  go_wp2_with fail
  refine (ref_int x.bytes _).mono ?_
  rintro e w1x2 ⟨rfl, cst⟩
  have HX_w1x2 := Lib.hid (cst.heap HX_w1x1.out (fun h => h))
  have G_w1x2 : Hid (Chg (fun _ => False) w w1x2) := G_w1x1.out.trans cst
  refine hK _ _ cst ?_
  clear hK cst
  try (simp only [Act.put, List.setIfInBounds_toArray, List.set_cons_zero, List.set_cons_succ])
  refine wpT.take 8 rfl (by kernel_rfl) (fun _ _ _ h => h) rfl (fun w' hw' => exec_cat _ _ _ rfl (KK ++ (be x.tenant.length 2 ++ x.tenant)) (i8 x.bytes) rfl rfl (by simp; omega)) ?_
  simp only [Act.put, List.setIfInBounds_toArray, List.set_cons_zero, List.set_cons_succ]
  refine wpT.call 11 rfl (by kernel_rfl) rfl (fun K hK => ?_)
  go_wp2_with fail
  refine (ref_int x.count _).mono ?_
  rintro e w1x3 ⟨rfl, cst⟩
  have HX_w1x3 := Lib.hid (cst.heap HX_w1x2.out (fun h => h))
  have G_w1x3 : Hid (Chg (fun _ => False) w w1x3) := G_w1x2.out.trans cst
  refine hK _ _ cst ?_
  clear hK cst
  try (simp only [Act.put, List.setIfInBounds_toArray, List.set_cons_zero, List.set_cons_succ])
  refine wpT.take 12 rfl (by kernel_rfl) (fun _ _ _ h => h) rfl (fun w' hw' => exec_cat _ _ _ rfl ((KK ++ (be x.tenant.length 2 ++ x.tenant)) ++ (i8 x.bytes)) (i8 x.count) rfl rfl (by simp; omega)) ?_
  simp only [Act.put, List.setIfInBounds_toArray, List.set_cons_zero, List.set_cons_succ]
  refine wpT.take 13 rfl (by kernel_rfl) (fun _ _ _ h => h) rfl (fun w' hw' => by go_simp <;> with_reducible rfl) ?_
  simp only [Act.put, List.setIfInBounds_toArray, List.set_cons_zero, List.set_cons_succ]
  refine wpT.done (by kernel_rfl) ?_
  go_wp2_with fail
  go_ret
  refine ⟨?_, G_w1x3.out⟩
  show Ending.returned (.string ⟨_⟩) = _
  simp only [List.append_assoc]

set_option maxRecDepth 100000 in
set_option maxHeartbeats 1000000 in
theorem bytes_1 (x : Cmd) (w : World) (hk : x.kind = 1) (h_tenant : x.tenant.length ≤ 255) :
    Calls Try.prog 20 #[.agg #[.int .i64 x.kind, .string ⟨x.tenant.toArray⟩, .string ⟨x.series.toArray⟩, .string ⟨x.name.toArray⟩, x.pv, .int .i64 x.rlo, .int .i64 x.rhi, .int .i64 x.praw, .int .i64 x.pmid, .int .i64 x.plong, .string ⟨x.hname.toArray⟩, .string ⟨x.hser.toArray⟩, .int .i64 x.hlo, .int .i64 x.hhi, .int .i64 x.bytes, .int .i64 x.count, .int .i64 x.at_]] w fun e w' => e = .returned (.string ⟨(be 1 1 ++ (be x.tenant.length 2 ++ x.tenant) ++ i8 x.bytes ++ i8 x.count).toArray⟩) ∧ Chg (fun _ => False) w w' := by
  obtain ⟨w0, hw0⟩ : ∃ w0, w0 = w.alloc (.cells #[.int .i64 x.kind, .string ⟨x.tenant.toArray⟩, .string ⟨x.series.toArray⟩, .string ⟨x.name.toArray⟩, x.pv, .int .i64 x.rlo, .int .i64 x.rhi, .int .i64 x.praw, .int .i64 x.pmid, .int .i64 x.plong, .string ⟨x.hname.toArray⟩, .string ⟨x.hser.toArray⟩, .int .i64 x.hlo, .int .i64 x.hhi, .int .i64 x.bytes, .int .i64 x.count, .int .i64 x.at_] 30) := ⟨_, rfl⟩
  have c0 : Chg (fun _ => False) w w0 := by rw [hw0]; exact (Chg.refl _ w).alloc _
  have HX0 : Hid (w0.heap[w.heap.size]? = some (.cells x.cells.toArray 30 (0, 0))) := by rw [hw0]; exact heap_at_new _ _ _ rfl
  have q0 : w0.cell? ⟨w.heap.size, 0, none⟩ = some (.int .i64 1) := cell_cmd HX0.out 0 _ (by rw [← hk]; rfl)
  have hcv := convb (w0.alloc (.cells (bs (be 1 1)).toArray 5)) _ _ (rb_lits w0 (be 1 1) 5 (by simp))
  have e2 : (bs (be 1 1)).toArray = #[.int .u8 1] := by simp [be, bs]
  rw [e2, be_length] at hcv
  obtain ⟨KK, hK⟩ : ∃ K, K = be 1 1 := ⟨_, rfl⟩
  have hKl : KK.length = 1 := by rw [hK]; rfl
  rw [← hK] at hcv ⊢
  obtain ⟨w1, hw1⟩ : ∃ w1, w1 = w0.alloc (.cells #[.int .u8 1] 5) := ⟨_, rfl⟩
  have c01 : Chg (fun _ => False) w0 w1 := by rw [hw1]; exact (Chg.refl _ w0).alloc _
  have HX1 := Lib.hid (c01.heap HX0.out (fun h => h))
  have q1 : w1.cell? ⟨w.heap.size, 0, none⟩ = some (.int .i64 1) := c01.cell q0 (fun h => h)
  have G1 : Hid (Chg (fun _ => False) w w1) := c0.trans c01
  have HW0 := Lib.hid hw0
  have HW1 := Lib.hid hw1
  clear hw0 hw1 e2 hK hk c0 c01
  go_enter Try.func20, Try.ntmps20
  go_upto_region 1 with fail
  rw [← HW0.out]
  go_upto_region 2 with fail
  rw [← HW1.out]
  clear HW0 HW1 hcv q0
  go_upto_region 5 with fail
  refine wpT.begin (fun _ => False) 14 (by kernel_rfl) rfl ?_
  refine wpT.take 0 rfl (by kernel_rfl) (fun _ _ _ h => h) rfl (fun w' hw' => by go_simp <;> with_reducible rfl) ?_
  simp only [Act.put, List.setIfInBounds_toArray, List.set_cons_zero, List.set_cons_succ]
  refine wpT.take 1 rfl (by kernel_rfl) (fun _ _ _ h => h) rfl (fun w' hw' => by go_simp <;> with_reducible rfl) ?_
  simp only [Act.put, List.setIfInBounds_toArray, List.set_cons_zero, List.set_cons_succ]
  refine wpT.ld 2 rfl (by kernel_rfl) (fun _ _ _ _ h => h) rfl _ _ rfl (by kernel_rfl) _ rfl _ (by rw [World.cell?_drew]; exact cell_cmd HX1.out 1 _ rfl) (fun h => h) ?_
  simp only [Act.put, List.setIfInBounds_toArray, List.set_cons_zero, List.set_cons_succ]
  refine wpT.take 5 rfl (by kernel_rfl) (fun _ _ _ h => h) rfl (fun w' hw' => by go_simp <;> with_reducible rfl) ?_
  simp only [Act.put, List.setIfInBounds_toArray, List.set_cons_zero, List.set_cons_succ]
  refine wpT.ld 6 rfl (by kernel_rfl) (fun _ _ _ _ h => h) rfl _ _ rfl (by kernel_rfl) _ rfl _ (by rw [World.cell?_drew]; exact cell_cmd HX1.out 14 _ rfl) (fun h => h) ?_
  simp only [Act.put, List.setIfInBounds_toArray, List.set_cons_zero, List.set_cons_succ]
  refine wpT.take 9 rfl (by kernel_rfl) (fun _ _ _ h => h) rfl (fun w' hw' => by go_simp <;> with_reducible rfl) ?_
  simp only [Act.put, List.setIfInBounds_toArray, List.set_cons_zero, List.set_cons_succ]
  refine wpT.ld 10 rfl (by kernel_rfl) (fun _ _ _ _ h => h) rfl _ _ rfl (by kernel_rfl) _ rfl _ (by rw [World.cell?_drew]; exact cell_cmd HX1.out 15 _ rfl) (fun h => h) ?_
  simp only [Act.put, List.setIfInBounds_toArray, List.set_cons_zero, List.set_cons_succ]
  refine wpT.call 3 rfl (by kernel_rfl) rfl (fun K hK => ?_)
  go_wp2_with fail
  refine (ref_text x.tenant _ (by omega)).mono ?_
  rintro e w1x1 ⟨rfl, cst⟩
  have HX_w1x1 := Lib.hid (((Chg.refl (fun _ => False) w1).drew.trans cst).heap HX1.out (fun h => h))
  have G_w1x1 : Hid (Chg (fun _ => False) w w1x1) := G1.out.trans ((Chg.refl (fun _ => False) w1).drew.trans cst)
  refine hK _ _ cst ?_
  clear hK cst
  try (simp only [Act.put, List.setIfInBounds_toArray, List.set_cons_zero, List.set_cons_succ])
  refine wpT.take 4 rfl (by kernel_rfl) (fun _ _ _ h => h) rfl (fun w' hw' => exec_cat _ _ _ rfl KK (be x.tenant.length 2 ++ x.tenant) rfl rfl (by simp; omega)) ?_
  simp only [Act.put, List.setIfInBounds_toArray, List.set_cons_zero, List.set_cons_succ]
  refine wpT.call 7 rfl (by kernel_rfl) rfl (fun K hK => ?_)
  go_wp2_with fail
  refine (ref_int x.bytes _).mono ?_
  rintro e w1x2 ⟨rfl, cst⟩
  have HX_w1x2 := Lib.hid (cst.heap HX_w1x1.out (fun h => h))
  have G_w1x2 : Hid (Chg (fun _ => False) w w1x2) := G_w1x1.out.trans cst
  refine hK _ _ cst ?_
  clear hK cst
  try (simp only [Act.put, List.setIfInBounds_toArray, List.set_cons_zero, List.set_cons_succ])
  refine wpT.take 8 rfl (by kernel_rfl) (fun _ _ _ h => h) rfl (fun w' hw' => exec_cat _ _ _ rfl (KK ++ (be x.tenant.length 2 ++ x.tenant)) (i8 x.bytes) rfl rfl (by simp; omega)) ?_
  simp only [Act.put, List.setIfInBounds_toArray, List.set_cons_zero, List.set_cons_succ]
  refine wpT.call 11 rfl (by kernel_rfl) rfl (fun K hK => ?_)
  go_wp2_with fail
  refine (ref_int x.count _).mono ?_
  rintro e w1x3 ⟨rfl, cst⟩
  have HX_w1x3 := Lib.hid (cst.heap HX_w1x2.out (fun h => h))
  have G_w1x3 : Hid (Chg (fun _ => False) w w1x3) := G_w1x2.out.trans cst
  refine hK _ _ cst ?_
  clear hK cst
  try (simp only [Act.put, List.setIfInBounds_toArray, List.set_cons_zero, List.set_cons_succ])
  refine wpT.take 12 rfl (by kernel_rfl) (fun _ _ _ h => h) rfl (fun w' hw' => exec_cat _ _ _ rfl ((KK ++ (be x.tenant.length 2 ++ x.tenant)) ++ (i8 x.bytes)) (i8 x.count) rfl rfl (by simp; omega)) ?_
  simp only [Act.put, List.setIfInBounds_toArray, List.set_cons_zero, List.set_cons_succ]
  refine wpT.take 13 rfl (by kernel_rfl) (fun _ _ _ h => h) rfl (fun w' hw' => by go_simp <;> with_reducible rfl) ?_
  simp only [Act.put, List.setIfInBounds_toArray, List.set_cons_zero, List.set_cons_succ]
  refine wpT.done (by kernel_rfl) ?_
  go_wp2_with fail
  go_ret
  refine ⟨?_, G_w1x3.out⟩
  show Ending.returned (.string ⟨_⟩) = _
  simp only [List.append_assoc]

set_option maxRecDepth 100000 in
set_option maxHeartbeats 1000000 in
theorem bytes_2 (x : Cmd) (w : World) (hk : x.kind = 2) (h_tenant : x.tenant.length ≤ 255) :
    Calls Try.prog 20 #[.agg #[.int .i64 x.kind, .string ⟨x.tenant.toArray⟩, .string ⟨x.series.toArray⟩, .string ⟨x.name.toArray⟩, x.pv, .int .i64 x.rlo, .int .i64 x.rhi, .int .i64 x.praw, .int .i64 x.pmid, .int .i64 x.plong, .string ⟨x.hname.toArray⟩, .string ⟨x.hser.toArray⟩, .int .i64 x.hlo, .int .i64 x.hhi, .int .i64 x.bytes, .int .i64 x.count, .int .i64 x.at_]] w fun e w' => e = .returned (.string ⟨(be 2 1 ++ (be x.tenant.length 2 ++ x.tenant)).toArray⟩) ∧ Chg (fun _ => False) w w' := by
  obtain ⟨w0, hw0⟩ : ∃ w0, w0 = w.alloc (.cells #[.int .i64 x.kind, .string ⟨x.tenant.toArray⟩, .string ⟨x.series.toArray⟩, .string ⟨x.name.toArray⟩, x.pv, .int .i64 x.rlo, .int .i64 x.rhi, .int .i64 x.praw, .int .i64 x.pmid, .int .i64 x.plong, .string ⟨x.hname.toArray⟩, .string ⟨x.hser.toArray⟩, .int .i64 x.hlo, .int .i64 x.hhi, .int .i64 x.bytes, .int .i64 x.count, .int .i64 x.at_] 30) := ⟨_, rfl⟩
  have c0 : Chg (fun _ => False) w w0 := by rw [hw0]; exact (Chg.refl _ w).alloc _
  have HX0 : Hid (w0.heap[w.heap.size]? = some (.cells x.cells.toArray 30 (0, 0))) := by rw [hw0]; exact heap_at_new _ _ _ rfl
  have q0 : w0.cell? ⟨w.heap.size, 0, none⟩ = some (.int .i64 2) := cell_cmd HX0.out 0 _ (by rw [← hk]; rfl)
  have hcv := convb (w0.alloc (.cells (bs (be 2 1)).toArray 5)) _ _ (rb_lits w0 (be 2 1) 5 (by simp))
  have e2 : (bs (be 2 1)).toArray = #[.int .u8 2] := by simp [be, bs]
  rw [e2, be_length] at hcv
  obtain ⟨KK, hK⟩ : ∃ K, K = be 2 1 := ⟨_, rfl⟩
  have hKl : KK.length = 1 := by rw [hK]; rfl
  rw [← hK] at hcv ⊢
  obtain ⟨w1, hw1⟩ : ∃ w1, w1 = w0.alloc (.cells #[.int .u8 2] 5) := ⟨_, rfl⟩
  have c01 : Chg (fun _ => False) w0 w1 := by rw [hw1]; exact (Chg.refl _ w0).alloc _
  have HX1 := Lib.hid (c01.heap HX0.out (fun h => h))
  have q1 : w1.cell? ⟨w.heap.size, 0, none⟩ = some (.int .i64 2) := c01.cell q0 (fun h => h)
  have G1 : Hid (Chg (fun _ => False) w w1) := c0.trans c01
  have HW0 := Lib.hid hw0
  have HW1 := Lib.hid hw1
  clear hw0 hw1 e2 hK hk c0 c01
  go_enter Try.func20, Try.ntmps20
  go_upto_region 1 with fail
  rw [← HW0.out]
  go_upto_region 2 with fail
  rw [← HW1.out]
  clear HW0 HW1 hcv q0
  have qf : w1.cell? ⟨w.heap.size, 1, none⟩ = some (.string ⟨x.tenant.toArray⟩) := cell_cmd HX1.out 1 _ rfl
  have hl : ¬ 9223372036854775807 < KK.length + (be x.tenant.length 2 ++ x.tenant).length := by simp; omega
  have hcat := cat_str KK (be x.tenant.length 2 ++ x.tenant)
  go_wp2_with fail
  refine (ref_text x.tenant _ (by omega)).mono ?_
  rintro e w2 ⟨rfl, c2⟩
  go_wp2_with fail
  go_ret
  exact ⟨rfl, G1.out.trans c2⟩

set_option maxRecDepth 100000 in
set_option maxHeartbeats 1000000 in
theorem bytes_4 (x : Cmd) (w : World) (hk : x.kind = 4) (h_tenant : x.tenant.length ≤ 255) :
    Calls Try.prog 20 #[.agg #[.int .i64 x.kind, .string ⟨x.tenant.toArray⟩, .string ⟨x.series.toArray⟩, .string ⟨x.name.toArray⟩, x.pv, .int .i64 x.rlo, .int .i64 x.rhi, .int .i64 x.praw, .int .i64 x.pmid, .int .i64 x.plong, .string ⟨x.hname.toArray⟩, .string ⟨x.hser.toArray⟩, .int .i64 x.hlo, .int .i64 x.hhi, .int .i64 x.bytes, .int .i64 x.count, .int .i64 x.at_]] w fun e w' => e = .returned (.string ⟨(be 4 1 ++ (be x.tenant.length 2 ++ x.tenant) ++ i8 x.praw ++ i8 x.pmid ++ i8 x.plong).toArray⟩) ∧ Chg (fun _ => False) w w' := by
  obtain ⟨w0, hw0⟩ : ∃ w0, w0 = w.alloc (.cells #[.int .i64 x.kind, .string ⟨x.tenant.toArray⟩, .string ⟨x.series.toArray⟩, .string ⟨x.name.toArray⟩, x.pv, .int .i64 x.rlo, .int .i64 x.rhi, .int .i64 x.praw, .int .i64 x.pmid, .int .i64 x.plong, .string ⟨x.hname.toArray⟩, .string ⟨x.hser.toArray⟩, .int .i64 x.hlo, .int .i64 x.hhi, .int .i64 x.bytes, .int .i64 x.count, .int .i64 x.at_] 30) := ⟨_, rfl⟩
  have c0 : Chg (fun _ => False) w w0 := by rw [hw0]; exact (Chg.refl _ w).alloc _
  have HX0 : Hid (w0.heap[w.heap.size]? = some (.cells x.cells.toArray 30 (0, 0))) := by rw [hw0]; exact heap_at_new _ _ _ rfl
  have q0 : w0.cell? ⟨w.heap.size, 0, none⟩ = some (.int .i64 4) := cell_cmd HX0.out 0 _ (by rw [← hk]; rfl)
  have hcv := convb (w0.alloc (.cells (bs (be 4 1)).toArray 5)) _ _ (rb_lits w0 (be 4 1) 5 (by simp))
  have e2 : (bs (be 4 1)).toArray = #[.int .u8 4] := by simp [be, bs]
  rw [e2, be_length] at hcv
  obtain ⟨KK, hK⟩ : ∃ K, K = be 4 1 := ⟨_, rfl⟩
  have hKl : KK.length = 1 := by rw [hK]; rfl
  rw [← hK] at hcv ⊢
  obtain ⟨w1, hw1⟩ : ∃ w1, w1 = w0.alloc (.cells #[.int .u8 4] 5) := ⟨_, rfl⟩
  have c01 : Chg (fun _ => False) w0 w1 := by rw [hw1]; exact (Chg.refl _ w0).alloc _
  have HX1 := Lib.hid (c01.heap HX0.out (fun h => h))
  have q1 : w1.cell? ⟨w.heap.size, 0, none⟩ = some (.int .i64 4) := c01.cell q0 (fun h => h)
  have G1 : Hid (Chg (fun _ => False) w w1) := c0.trans c01
  have HW0 := Lib.hid hw0
  have HW1 := Lib.hid hw1
  clear hw0 hw1 e2 hK hk c0 c01
  go_enter Try.func20, Try.ntmps20
  go_upto_region 1 with fail
  rw [← HW0.out]
  go_upto_region 2 with fail
  rw [← HW1.out]
  clear HW0 HW1 hcv q0
  go_upto_region 17 with fail
  refine wpT.begin (fun _ => False) 21 (by kernel_rfl) rfl ?_
  refine wpT.take 0 rfl (by kernel_rfl) (fun _ _ _ h => h) rfl (fun w' hw' => by go_simp <;> with_reducible rfl) ?_
  simp only [Act.put, List.setIfInBounds_toArray, List.set_cons_zero, List.set_cons_succ]
  refine wpT.take 1 rfl (by kernel_rfl) (fun _ _ _ h => h) rfl (fun w' hw' => by go_simp <;> with_reducible rfl) ?_
  simp only [Act.put, List.setIfInBounds_toArray, List.set_cons_zero, List.set_cons_succ]
  refine wpT.ld 2 rfl (by kernel_rfl) (fun _ _ _ _ h => h) rfl _ _ rfl (by kernel_rfl) _ rfl _ (by rw [World.cell?_drew]; exact cell_cmd HX1.out 1 _ rfl) (fun h => h) ?_
  simp only [Act.put, List.setIfInBounds_toArray, List.set_cons_zero, List.set_cons_succ]
  refine wpT.take 5 rfl (by kernel_rfl) (fun _ _ _ h => h) rfl (fun w' hw' => by go_simp <;> with_reducible rfl) ?_
  simp only [Act.put, List.setIfInBounds_toArray, List.set_cons_zero, List.set_cons_succ]
  refine wpT.take 6 rfl (by kernel_rfl) (fun _ _ _ h => h) rfl (fun w' hw' => by go_simp <;> with_reducible rfl) ?_
  simp only [Act.put, List.setIfInBounds_toArray, List.set_cons_zero, List.set_cons_succ]
  refine wpT.ld 7 rfl (by kernel_rfl) (fun _ _ _ _ h => h) rfl _ _ rfl (by kernel_rfl) _ rfl _ (by rw [World.cell?_drew]; exact cell_cmd HX1.out 7 _ rfl) (fun h => h) ?_
  simp only [Act.put, List.setIfInBounds_toArray, List.set_cons_zero, List.set_cons_succ]
  refine wpT.take 10 rfl (by kernel_rfl) (fun _ _ _ h => h) rfl (fun w' hw' => by go_simp <;> with_reducible rfl) ?_
  simp only [Act.put, List.setIfInBounds_toArray, List.set_cons_zero, List.set_cons_succ]
  refine wpT.take 11 rfl (by kernel_rfl) (fun _ _ _ h => h) rfl (fun w' hw' => by go_simp <;> with_reducible rfl) ?_
  simp only [Act.put, List.setIfInBounds_toArray, List.set_cons_zero, List.set_cons_succ]
  refine wpT.ld 12 rfl (by kernel_rfl) (fun _ _ _ _ h => h) rfl _ _ rfl (by kernel_rfl) _ rfl _ (by rw [World.cell?_drew]; exact cell_cmd HX1.out 8 _ rfl) (fun h => h) ?_
  simp only [Act.put, List.setIfInBounds_toArray, List.set_cons_zero, List.set_cons_succ]
  refine wpT.take 15 rfl (by kernel_rfl) (fun _ _ _ h => h) rfl (fun w' hw' => by go_simp <;> with_reducible rfl) ?_
  simp only [Act.put, List.setIfInBounds_toArray, List.set_cons_zero, List.set_cons_succ]
  refine wpT.take 16 rfl (by kernel_rfl) (fun _ _ _ h => h) rfl (fun w' hw' => by go_simp <;> with_reducible rfl) ?_
  simp only [Act.put, List.setIfInBounds_toArray, List.set_cons_zero, List.set_cons_succ]
  refine wpT.ld 17 rfl (by kernel_rfl) (fun _ _ _ _ h => h) rfl _ _ rfl (by kernel_rfl) _ rfl _ (by rw [World.cell?_drew]; exact cell_cmd HX1.out 9 _ rfl) (fun h => h) ?_
  simp only [Act.put, List.setIfInBounds_toArray, List.set_cons_zero, List.set_cons_succ]
  refine wpT.call 3 rfl (by kernel_rfl) rfl (fun K hK => ?_)
  go_wp2_with fail
  refine (ref_text x.tenant _ (by omega)).mono ?_
  rintro e w1x1 ⟨rfl, cst⟩
  have HX_w1x1 := Lib.hid (((Chg.refl (fun _ => False) w1).drew.trans cst).heap HX1.out (fun h => h))
  have G_w1x1 : Hid (Chg (fun _ => False) w w1x1) := G1.out.trans ((Chg.refl (fun _ => False) w1).drew.trans cst)
  refine hK _ _ cst ?_
  clear hK cst
  try (simp only [Act.put, List.setIfInBounds_toArray, List.set_cons_zero, List.set_cons_succ])
  refine wpT.take 4 rfl (by kernel_rfl) (fun _ _ _ h => h) rfl (fun w' hw' => exec_cat _ _ _ rfl KK (be x.tenant.length 2 ++ x.tenant) rfl rfl (by simp; omega)) ?_
  simp only [Act.put, List.setIfInBounds_toArray, List.set_cons_zero, List.set_cons_succ]
  refine wpT.call 8 rfl (by kernel_rfl) rfl (fun K hK => ?_)
  go_wp2_with fail
  refine (ref_int x.praw _).mono ?_
  rintro e w1x2 ⟨rfl, cst⟩
  have HX_w1x2 := Lib.hid (cst.heap HX_w1x1.out (fun h => h))
  have G_w1x2 : Hid (Chg (fun _ => False) w w1x2) := G_w1x1.out.trans cst
  refine hK _ _ cst ?_
  clear hK cst
  try (simp only [Act.put, List.setIfInBounds_toArray, List.set_cons_zero, List.set_cons_succ])
  refine wpT.take 9 rfl (by kernel_rfl) (fun _ _ _ h => h) rfl (fun w' hw' => exec_cat _ _ _ rfl (KK ++ (be x.tenant.length 2 ++ x.tenant)) (i8 x.praw) rfl rfl (by simp; omega)) ?_
  simp only [Act.put, List.setIfInBounds_toArray, List.set_cons_zero, List.set_cons_succ]
  refine wpT.call 13 rfl (by kernel_rfl) rfl (fun K hK => ?_)
  go_wp2_with fail
  refine (ref_int x.pmid _).mono ?_
  rintro e w1x3 ⟨rfl, cst⟩
  have HX_w1x3 := Lib.hid (cst.heap HX_w1x2.out (fun h => h))
  have G_w1x3 : Hid (Chg (fun _ => False) w w1x3) := G_w1x2.out.trans cst
  refine hK _ _ cst ?_
  clear hK cst
  try (simp only [Act.put, List.setIfInBounds_toArray, List.set_cons_zero, List.set_cons_succ])
  refine wpT.take 14 rfl (by kernel_rfl) (fun _ _ _ h => h) rfl (fun w' hw' => exec_cat _ _ _ rfl ((KK ++ (be x.tenant.length 2 ++ x.tenant)) ++ (i8 x.praw)) (i8 x.pmid) rfl rfl (by simp; omega)) ?_
  simp only [Act.put, List.setIfInBounds_toArray, List.set_cons_zero, List.set_cons_succ]
  refine wpT.call 18 rfl (by kernel_rfl) rfl (fun K hK => ?_)
  go_wp2_with fail
  refine (ref_int x.plong _).mono ?_
  rintro e w1x4 ⟨rfl, cst⟩
  have HX_w1x4 := Lib.hid (cst.heap HX_w1x3.out (fun h => h))
  have G_w1x4 : Hid (Chg (fun _ => False) w w1x4) := G_w1x3.out.trans cst
  refine hK _ _ cst ?_
  clear hK cst
  try (simp only [Act.put, List.setIfInBounds_toArray, List.set_cons_zero, List.set_cons_succ])
  refine wpT.take 19 rfl (by kernel_rfl) (fun _ _ _ h => h) rfl (fun w' hw' => exec_cat _ _ _ rfl (((KK ++ (be x.tenant.length 2 ++ x.tenant)) ++ (i8 x.praw)) ++ (i8 x.pmid)) (i8 x.plong) rfl rfl (by simp; omega)) ?_
  simp only [Act.put, List.setIfInBounds_toArray, List.set_cons_zero, List.set_cons_succ]
  refine wpT.take 20 rfl (by kernel_rfl) (fun _ _ _ h => h) rfl (fun w' hw' => by go_simp <;> with_reducible rfl) ?_
  simp only [Act.put, List.setIfInBounds_toArray, List.set_cons_zero, List.set_cons_succ]
  refine wpT.done (by kernel_rfl) ?_
  go_wp2_with fail
  go_ret
  refine ⟨?_, G_w1x4.out⟩
  show Ending.returned (.string ⟨_⟩) = _
  simp only [List.append_assoc]

set_option maxRecDepth 100000 in
set_option maxHeartbeats 1000000 in
theorem bytes_5 (x : Cmd) (w : World) (hk : x.kind = 5) (h_tenant : x.tenant.length ≤ 255) (h_hname : x.hname.length ≤ 255) (h_hser : x.hser.length ≤ 255) :
    Calls Try.prog 20 #[.agg #[.int .i64 x.kind, .string ⟨x.tenant.toArray⟩, .string ⟨x.series.toArray⟩, .string ⟨x.name.toArray⟩, x.pv, .int .i64 x.rlo, .int .i64 x.rhi, .int .i64 x.praw, .int .i64 x.pmid, .int .i64 x.plong, .string ⟨x.hname.toArray⟩, .string ⟨x.hser.toArray⟩, .int .i64 x.hlo, .int .i64 x.hhi, .int .i64 x.bytes, .int .i64 x.count, .int .i64 x.at_]] w fun e w' => e = .returned (.string ⟨(be 5 1 ++ (be x.tenant.length 2 ++ x.tenant) ++ (be x.hname.length 2 ++ x.hname) ++ (be x.hser.length 2 ++ x.hser) ++ i8 x.hlo ++ i8 x.hhi).toArray⟩) ∧ Chg (fun _ => False) w w' := by
  obtain ⟨w0, hw0⟩ : ∃ w0, w0 = w.alloc (.cells #[.int .i64 x.kind, .string ⟨x.tenant.toArray⟩, .string ⟨x.series.toArray⟩, .string ⟨x.name.toArray⟩, x.pv, .int .i64 x.rlo, .int .i64 x.rhi, .int .i64 x.praw, .int .i64 x.pmid, .int .i64 x.plong, .string ⟨x.hname.toArray⟩, .string ⟨x.hser.toArray⟩, .int .i64 x.hlo, .int .i64 x.hhi, .int .i64 x.bytes, .int .i64 x.count, .int .i64 x.at_] 30) := ⟨_, rfl⟩
  have c0 : Chg (fun _ => False) w w0 := by rw [hw0]; exact (Chg.refl _ w).alloc _
  have HX0 : Hid (w0.heap[w.heap.size]? = some (.cells x.cells.toArray 30 (0, 0))) := by rw [hw0]; exact heap_at_new _ _ _ rfl
  have q0 : w0.cell? ⟨w.heap.size, 0, none⟩ = some (.int .i64 5) := cell_cmd HX0.out 0 _ (by rw [← hk]; rfl)
  have hcv := convb (w0.alloc (.cells (bs (be 5 1)).toArray 5)) _ _ (rb_lits w0 (be 5 1) 5 (by simp))
  have e2 : (bs (be 5 1)).toArray = #[.int .u8 5] := by simp [be, bs]
  rw [e2, be_length] at hcv
  obtain ⟨KK, hK⟩ : ∃ K, K = be 5 1 := ⟨_, rfl⟩
  have hKl : KK.length = 1 := by rw [hK]; rfl
  rw [← hK] at hcv ⊢
  obtain ⟨w1, hw1⟩ : ∃ w1, w1 = w0.alloc (.cells #[.int .u8 5] 5) := ⟨_, rfl⟩
  have c01 : Chg (fun _ => False) w0 w1 := by rw [hw1]; exact (Chg.refl _ w0).alloc _
  have HX1 := Lib.hid (c01.heap HX0.out (fun h => h))
  have q1 : w1.cell? ⟨w.heap.size, 0, none⟩ = some (.int .i64 5) := c01.cell q0 (fun h => h)
  have G1 : Hid (Chg (fun _ => False) w w1) := c0.trans c01
  have HW0 := Lib.hid hw0
  have HW1 := Lib.hid hw1
  clear hw0 hw1 e2 hK hk c0 c01
  go_enter Try.func20, Try.ntmps20
  go_upto_region 1 with fail
  rw [← HW0.out]
  go_upto_region 2 with fail
  rw [← HW1.out]
  clear HW0 HW1 hcv q0
  go_upto_region 19 with fail
  refine wpT.begin (fun _ => False) 28 (by kernel_rfl) rfl ?_
  refine wpT.take 0 rfl (by kernel_rfl) (fun _ _ _ h => h) rfl (fun w' hw' => by go_simp <;> with_reducible rfl) ?_
  simp only [Act.put, List.setIfInBounds_toArray, List.set_cons_zero, List.set_cons_succ]
  refine wpT.take 1 rfl (by kernel_rfl) (fun _ _ _ h => h) rfl (fun w' hw' => by go_simp <;> with_reducible rfl) ?_
  simp only [Act.put, List.setIfInBounds_toArray, List.set_cons_zero, List.set_cons_succ]
  refine wpT.ld 2 rfl (by kernel_rfl) (fun _ _ _ _ h => h) rfl _ _ rfl (by kernel_rfl) _ rfl _ (by rw [World.cell?_drew]; exact cell_cmd HX1.out 1 _ rfl) (fun h => h) ?_
  simp only [Act.put, List.setIfInBounds_toArray, List.set_cons_zero, List.set_cons_succ]
  refine wpT.take 5 rfl (by kernel_rfl) (fun _ _ _ h => h) rfl (fun w' hw' => by go_simp <;> with_reducible rfl) ?_
  simp only [Act.put, List.setIfInBounds_toArray, List.set_cons_zero, List.set_cons_succ]
  refine wpT.take 6 rfl (by kernel_rfl) (fun _ _ _ h => h) rfl (fun w' hw' => by go_simp <;> with_reducible rfl) ?_
  simp only [Act.put, List.setIfInBounds_toArray, List.set_cons_zero, List.set_cons_succ]
  refine wpT.ld 7 rfl (by kernel_rfl) (fun _ _ _ _ h => h) rfl _ _ rfl (by kernel_rfl) _ rfl _ (by rw [World.cell?_drew]; exact cell_cmd HX1.out 10 _ rfl) (fun h => h) ?_
  simp only [Act.put, List.setIfInBounds_toArray, List.set_cons_zero, List.set_cons_succ]
  refine wpT.take 10 rfl (by kernel_rfl) (fun _ _ _ h => h) rfl (fun w' hw' => by go_simp <;> with_reducible rfl) ?_
  simp only [Act.put, List.setIfInBounds_toArray, List.set_cons_zero, List.set_cons_succ]
  refine wpT.take 11 rfl (by kernel_rfl) (fun _ _ _ h => h) rfl (fun w' hw' => by go_simp <;> with_reducible rfl) ?_
  simp only [Act.put, List.setIfInBounds_toArray, List.set_cons_zero, List.set_cons_succ]
  refine wpT.ld 12 rfl (by kernel_rfl) (fun _ _ _ _ h => h) rfl _ _ rfl (by kernel_rfl) _ rfl _ (by rw [World.cell?_drew]; exact cell_cmd HX1.out 11 _ rfl) (fun h => h) ?_
  simp only [Act.put, List.setIfInBounds_toArray, List.set_cons_zero, List.set_cons_succ]
  refine wpT.take 15 rfl (by kernel_rfl) (fun _ _ _ h => h) rfl (fun w' hw' => by go_simp <;> with_reducible rfl) ?_
  simp only [Act.put, List.setIfInBounds_toArray, List.set_cons_zero, List.set_cons_succ]
  refine wpT.take 16 rfl (by kernel_rfl) (fun _ _ _ h => h) rfl (fun w' hw' => by go_simp <;> with_reducible rfl) ?_
  simp only [Act.put, List.setIfInBounds_toArray, List.set_cons_zero, List.set_cons_succ]
  refine wpT.take 17 rfl (by kernel_rfl) (fun _ _ _ h => h) rfl (fun w' hw' => by go_simp <;> with_reducible rfl) ?_
  simp only [Act.put, List.setIfInBounds_toArray, List.set_cons_zero, List.set_cons_succ]
  refine wpT.ld 18 rfl (by kernel_rfl) (fun _ _ _ _ h => h) rfl _ _ rfl (by kernel_rfl) _ rfl _ (by rw [World.cell?_drew]; exact cell_cmd HX1.out 12 _ rfl) (fun h => h) ?_
  simp only [Act.put, List.setIfInBounds_toArray, List.set_cons_zero, List.set_cons_succ]
  refine wpT.take 21 rfl (by kernel_rfl) (fun _ _ _ h => h) rfl (fun w' hw' => by go_simp <;> with_reducible rfl) ?_
  simp only [Act.put, List.setIfInBounds_toArray, List.set_cons_zero, List.set_cons_succ]
  refine wpT.take 22 rfl (by kernel_rfl) (fun _ _ _ h => h) rfl (fun w' hw' => by go_simp <;> with_reducible rfl) ?_
  simp only [Act.put, List.setIfInBounds_toArray, List.set_cons_zero, List.set_cons_succ]
  refine wpT.take 23 rfl (by kernel_rfl) (fun _ _ _ h => h) rfl (fun w' hw' => by go_simp <;> with_reducible rfl) ?_
  simp only [Act.put, List.setIfInBounds_toArray, List.set_cons_zero, List.set_cons_succ]
  refine wpT.ld 24 rfl (by kernel_rfl) (fun _ _ _ _ h => h) rfl _ _ rfl (by kernel_rfl) _ rfl _ (by rw [World.cell?_drew]; exact cell_cmd HX1.out 13 _ rfl) (fun h => h) ?_
  simp only [Act.put, List.setIfInBounds_toArray, List.set_cons_zero, List.set_cons_succ]
  refine wpT.call 3 rfl (by kernel_rfl) rfl (fun K hK => ?_)
  go_wp2_with fail
  refine (ref_text x.tenant _ (by omega)).mono ?_
  rintro e w1x1 ⟨rfl, cst⟩
  have HX_w1x1 := Lib.hid (((Chg.refl (fun _ => False) w1).drew.trans cst).heap HX1.out (fun h => h))
  have G_w1x1 : Hid (Chg (fun _ => False) w w1x1) := G1.out.trans ((Chg.refl (fun _ => False) w1).drew.trans cst)
  refine hK _ _ cst ?_
  clear hK cst
  try (simp only [Act.put, List.setIfInBounds_toArray, List.set_cons_zero, List.set_cons_succ])
  refine wpT.take 4 rfl (by kernel_rfl) (fun _ _ _ h => h) rfl (fun w' hw' => exec_cat _ _ _ rfl KK (be x.tenant.length 2 ++ x.tenant) rfl rfl (by simp; omega)) ?_
  simp only [Act.put, List.setIfInBounds_toArray, List.set_cons_zero, List.set_cons_succ]
  refine wpT.call 8 rfl (by kernel_rfl) rfl (fun K hK => ?_)
  go_wp2_with fail
  refine (ref_text x.hname _ (by omega)).mono ?_
  rintro e w1x2 ⟨rfl, cst⟩
  have HX_w1x2 := Lib.hid (cst.heap HX_w1x1.out (fun h => h))
  have G_w1x2 : Hid (Chg (fun _ => False) w w1x2) := G_w1x1.out.trans cst
  refine hK _ _ cst ?_
  clear hK cst
  try (simp only [Act.put, List.setIfInBounds_toArray, List.set_cons_zero, List.set_cons_succ])
  refine wpT.take 9 rfl (by kernel_rfl) (fun _ _ _ h => h) rfl (fun w' hw' => exec_cat _ _ _ rfl (KK ++ (be x.tenant.length 2 ++ x.tenant)) (be x.hname.length 2 ++ x.hname) rfl rfl (by simp; omega)) ?_
  simp only [Act.put, List.setIfInBounds_toArray, List.set_cons_zero, List.set_cons_succ]
  refine wpT.call 13 rfl (by kernel_rfl) rfl (fun K hK => ?_)
  go_wp2_with fail
  refine (ref_text x.hser _ (by omega)).mono ?_
  rintro e w1x3 ⟨rfl, cst⟩
  have HX_w1x3 := Lib.hid (cst.heap HX_w1x2.out (fun h => h))
  have G_w1x3 : Hid (Chg (fun _ => False) w w1x3) := G_w1x2.out.trans cst
  refine hK _ _ cst ?_
  clear hK cst
  try (simp only [Act.put, List.setIfInBounds_toArray, List.set_cons_zero, List.set_cons_succ])
  refine wpT.take 14 rfl (by kernel_rfl) (fun _ _ _ h => h) rfl (fun w' hw' => exec_cat _ _ _ rfl ((KK ++ (be x.tenant.length 2 ++ x.tenant)) ++ (be x.hname.length 2 ++ x.hname)) (be x.hser.length 2 ++ x.hser) rfl rfl (by simp; omega)) ?_
  simp only [Act.put, List.setIfInBounds_toArray, List.set_cons_zero, List.set_cons_succ]
  refine wpT.call 19 rfl (by kernel_rfl) rfl (fun K hK => ?_)
  go_wp2_with fail
  refine (ref_int x.hlo _).mono ?_
  rintro e w1x4 ⟨rfl, cst⟩
  have HX_w1x4 := Lib.hid (cst.heap HX_w1x3.out (fun h => h))
  have G_w1x4 : Hid (Chg (fun _ => False) w w1x4) := G_w1x3.out.trans cst
  refine hK _ _ cst ?_
  clear hK cst
  try (simp only [Act.put, List.setIfInBounds_toArray, List.set_cons_zero, List.set_cons_succ])
  refine wpT.take 20 rfl (by kernel_rfl) (fun _ _ _ h => h) rfl (fun w' hw' => exec_cat _ _ _ rfl (((KK ++ (be x.tenant.length 2 ++ x.tenant)) ++ (be x.hname.length 2 ++ x.hname)) ++ (be x.hser.length 2 ++ x.hser)) (i8 x.hlo) rfl rfl (by simp; omega)) ?_
  simp only [Act.put, List.setIfInBounds_toArray, List.set_cons_zero, List.set_cons_succ]
  refine wpT.call 25 rfl (by kernel_rfl) rfl (fun K hK => ?_)
  go_wp2_with fail
  refine (ref_int x.hhi _).mono ?_
  rintro e w1x5 ⟨rfl, cst⟩
  have HX_w1x5 := Lib.hid (cst.heap HX_w1x4.out (fun h => h))
  have G_w1x5 : Hid (Chg (fun _ => False) w w1x5) := G_w1x4.out.trans cst
  refine hK _ _ cst ?_
  clear hK cst
  try (simp only [Act.put, List.setIfInBounds_toArray, List.set_cons_zero, List.set_cons_succ])
  refine wpT.take 26 rfl (by kernel_rfl) (fun _ _ _ h => h) rfl (fun w' hw' => exec_cat _ _ _ rfl ((((KK ++ (be x.tenant.length 2 ++ x.tenant)) ++ (be x.hname.length 2 ++ x.hname)) ++ (be x.hser.length 2 ++ x.hser)) ++ (i8 x.hlo)) (i8 x.hhi) rfl rfl (by simp; omega)) ?_
  simp only [Act.put, List.setIfInBounds_toArray, List.set_cons_zero, List.set_cons_succ]
  refine wpT.take 27 rfl (by kernel_rfl) (fun _ _ _ h => h) rfl (fun w' hw' => by go_simp <;> with_reducible rfl) ?_
  simp only [Act.put, List.setIfInBounds_toArray, List.set_cons_zero, List.set_cons_succ]
  refine wpT.done (by kernel_rfl) ?_
  go_wp2_with fail
  go_ret
  refine ⟨?_, G_w1x5.out⟩
  show Ending.returned (.string ⟨_⟩) = _
  simp only [List.append_assoc]

set_option maxRecDepth 100000 in
set_option maxHeartbeats 1000000 in
theorem bytes_6 (x : Cmd) (w : World) (hk : x.kind = 6) (h_tenant : x.tenant.length ≤ 255) (h_name : x.name.length ≤ 255) :
    Calls Try.prog 20 #[.agg #[.int .i64 x.kind, .string ⟨x.tenant.toArray⟩, .string ⟨x.series.toArray⟩, .string ⟨x.name.toArray⟩, x.pv, .int .i64 x.rlo, .int .i64 x.rhi, .int .i64 x.praw, .int .i64 x.pmid, .int .i64 x.plong, .string ⟨x.hname.toArray⟩, .string ⟨x.hser.toArray⟩, .int .i64 x.hlo, .int .i64 x.hhi, .int .i64 x.bytes, .int .i64 x.count, .int .i64 x.at_]] w fun e w' => e = .returned (.string ⟨(be 6 1 ++ (be x.tenant.length 2 ++ x.tenant) ++ (be x.name.length 2 ++ x.name)).toArray⟩) ∧ Chg (fun _ => False) w w' := by
  obtain ⟨w0, hw0⟩ : ∃ w0, w0 = w.alloc (.cells #[.int .i64 x.kind, .string ⟨x.tenant.toArray⟩, .string ⟨x.series.toArray⟩, .string ⟨x.name.toArray⟩, x.pv, .int .i64 x.rlo, .int .i64 x.rhi, .int .i64 x.praw, .int .i64 x.pmid, .int .i64 x.plong, .string ⟨x.hname.toArray⟩, .string ⟨x.hser.toArray⟩, .int .i64 x.hlo, .int .i64 x.hhi, .int .i64 x.bytes, .int .i64 x.count, .int .i64 x.at_] 30) := ⟨_, rfl⟩
  have c0 : Chg (fun _ => False) w w0 := by rw [hw0]; exact (Chg.refl _ w).alloc _
  have HX0 : Hid (w0.heap[w.heap.size]? = some (.cells x.cells.toArray 30 (0, 0))) := by rw [hw0]; exact heap_at_new _ _ _ rfl
  have q0 : w0.cell? ⟨w.heap.size, 0, none⟩ = some (.int .i64 6) := cell_cmd HX0.out 0 _ (by rw [← hk]; rfl)
  have hcv := convb (w0.alloc (.cells (bs (be 6 1)).toArray 5)) _ _ (rb_lits w0 (be 6 1) 5 (by simp))
  have e2 : (bs (be 6 1)).toArray = #[.int .u8 6] := by simp [be, bs]
  rw [e2, be_length] at hcv
  obtain ⟨KK, hK⟩ : ∃ K, K = be 6 1 := ⟨_, rfl⟩
  have hKl : KK.length = 1 := by rw [hK]; rfl
  rw [← hK] at hcv ⊢
  obtain ⟨w1, hw1⟩ : ∃ w1, w1 = w0.alloc (.cells #[.int .u8 6] 5) := ⟨_, rfl⟩
  have c01 : Chg (fun _ => False) w0 w1 := by rw [hw1]; exact (Chg.refl _ w0).alloc _
  have HX1 := Lib.hid (c01.heap HX0.out (fun h => h))
  have q1 : w1.cell? ⟨w.heap.size, 0, none⟩ = some (.int .i64 6) := c01.cell q0 (fun h => h)
  have G1 : Hid (Chg (fun _ => False) w w1) := c0.trans c01
  have HW0 := Lib.hid hw0
  have HW1 := Lib.hid hw1
  clear hw0 hw1 e2 hK hk c0 c01
  go_enter Try.func20, Try.ntmps20
  go_upto_region 1 with fail
  rw [← HW0.out]
  go_upto_region 2 with fail
  rw [← HW1.out]
  clear HW0 HW1 hcv q0
  go_upto_region 21 with fail
  refine wpT.begin (fun _ => False) 10 (by kernel_rfl) rfl ?_
  refine wpT.take 0 rfl (by kernel_rfl) (fun _ _ _ h => h) rfl (fun w' hw' => by go_simp <;> with_reducible rfl) ?_
  simp only [Act.put, List.setIfInBounds_toArray, List.set_cons_zero, List.set_cons_succ]
  refine wpT.take 1 rfl (by kernel_rfl) (fun _ _ _ h => h) rfl (fun w' hw' => by go_simp <;> with_reducible rfl) ?_
  simp only [Act.put, List.setIfInBounds_toArray, List.set_cons_zero, List.set_cons_succ]
  refine wpT.ld 2 rfl (by kernel_rfl) (fun _ _ _ _ h => h) rfl _ _ rfl (by kernel_rfl) _ rfl _ (by rw [World.cell?_drew]; exact cell_cmd HX1.out 1 _ rfl) (fun h => h) ?_
  simp only [Act.put, List.setIfInBounds_toArray, List.set_cons_zero, List.set_cons_succ]
  refine wpT.take 5 rfl (by kernel_rfl) (fun _ _ _ h => h) rfl (fun w' hw' => by go_simp <;> with_reducible rfl) ?_
  simp only [Act.put, List.setIfInBounds_toArray, List.set_cons_zero, List.set_cons_succ]
  refine wpT.ld 6 rfl (by kernel_rfl) (fun _ _ _ _ h => h) rfl _ _ rfl (by kernel_rfl) _ rfl _ (by rw [World.cell?_drew]; exact cell_cmd HX1.out 3 _ rfl) (fun h => h) ?_
  simp only [Act.put, List.setIfInBounds_toArray, List.set_cons_zero, List.set_cons_succ]
  refine wpT.call 3 rfl (by kernel_rfl) rfl (fun K hK => ?_)
  go_wp2_with fail
  refine (ref_text x.tenant _ (by omega)).mono ?_
  rintro e w1x1 ⟨rfl, cst⟩
  have HX_w1x1 := Lib.hid (((Chg.refl (fun _ => False) w1).drew.trans cst).heap HX1.out (fun h => h))
  have G_w1x1 : Hid (Chg (fun _ => False) w w1x1) := G1.out.trans ((Chg.refl (fun _ => False) w1).drew.trans cst)
  refine hK _ _ cst ?_
  clear hK cst
  try (simp only [Act.put, List.setIfInBounds_toArray, List.set_cons_zero, List.set_cons_succ])
  refine wpT.take 4 rfl (by kernel_rfl) (fun _ _ _ h => h) rfl (fun w' hw' => exec_cat _ _ _ rfl KK (be x.tenant.length 2 ++ x.tenant) rfl rfl (by simp; omega)) ?_
  simp only [Act.put, List.setIfInBounds_toArray, List.set_cons_zero, List.set_cons_succ]
  refine wpT.call 7 rfl (by kernel_rfl) rfl (fun K hK => ?_)
  go_wp2_with fail
  refine (ref_text x.name _ (by omega)).mono ?_
  rintro e w1x2 ⟨rfl, cst⟩
  have HX_w1x2 := Lib.hid (cst.heap HX_w1x1.out (fun h => h))
  have G_w1x2 : Hid (Chg (fun _ => False) w w1x2) := G_w1x1.out.trans cst
  refine hK _ _ cst ?_
  clear hK cst
  try (simp only [Act.put, List.setIfInBounds_toArray, List.set_cons_zero, List.set_cons_succ])
  refine wpT.take 8 rfl (by kernel_rfl) (fun _ _ _ h => h) rfl (fun w' hw' => exec_cat _ _ _ rfl (KK ++ (be x.tenant.length 2 ++ x.tenant)) (be x.name.length 2 ++ x.name) rfl rfl (by simp; omega)) ?_
  simp only [Act.put, List.setIfInBounds_toArray, List.set_cons_zero, List.set_cons_succ]
  refine wpT.take 9 rfl (by kernel_rfl) (fun _ _ _ h => h) rfl (fun w' hw' => by go_simp <;> with_reducible rfl) ?_
  simp only [Act.put, List.setIfInBounds_toArray, List.set_cons_zero, List.set_cons_succ]
  refine wpT.done (by kernel_rfl) ?_
  go_wp2_with fail
  go_ret
  refine ⟨?_, G_w1x2.out⟩
  show Ending.returned (.string ⟨_⟩) = _
  simp only [List.append_assoc]

set_option maxRecDepth 100000 in
set_option maxHeartbeats 1000000 in
theorem bytes_7 (x : Cmd) (w : World) (hk : x.kind = 7) (h_tenant : x.tenant.length ≤ 255) (h_series : x.series.length ≤ 255) :
    Calls Try.prog 20 #[.agg #[.int .i64 x.kind, .string ⟨x.tenant.toArray⟩, .string ⟨x.series.toArray⟩, .string ⟨x.name.toArray⟩, x.pv, .int .i64 x.rlo, .int .i64 x.rhi, .int .i64 x.praw, .int .i64 x.pmid, .int .i64 x.plong, .string ⟨x.hname.toArray⟩, .string ⟨x.hser.toArray⟩, .int .i64 x.hlo, .int .i64 x.hhi, .int .i64 x.bytes, .int .i64 x.count, .int .i64 x.at_]] w fun e w' => e = .returned (.string ⟨(be 7 1 ++ (be x.tenant.length 2 ++ x.tenant) ++ (be x.series.length 2 ++ x.series) ++ i8 x.rlo ++ i8 x.rhi).toArray⟩) ∧ Chg (fun _ => False) w w' := by
  obtain ⟨w0, hw0⟩ : ∃ w0, w0 = w.alloc (.cells #[.int .i64 x.kind, .string ⟨x.tenant.toArray⟩, .string ⟨x.series.toArray⟩, .string ⟨x.name.toArray⟩, x.pv, .int .i64 x.rlo, .int .i64 x.rhi, .int .i64 x.praw, .int .i64 x.pmid, .int .i64 x.plong, .string ⟨x.hname.toArray⟩, .string ⟨x.hser.toArray⟩, .int .i64 x.hlo, .int .i64 x.hhi, .int .i64 x.bytes, .int .i64 x.count, .int .i64 x.at_] 30) := ⟨_, rfl⟩
  have c0 : Chg (fun _ => False) w w0 := by rw [hw0]; exact (Chg.refl _ w).alloc _
  have HX0 : Hid (w0.heap[w.heap.size]? = some (.cells x.cells.toArray 30 (0, 0))) := by rw [hw0]; exact heap_at_new _ _ _ rfl
  have q0 : w0.cell? ⟨w.heap.size, 0, none⟩ = some (.int .i64 7) := cell_cmd HX0.out 0 _ (by rw [← hk]; rfl)
  have hcv := convb (w0.alloc (.cells (bs (be 7 1)).toArray 5)) _ _ (rb_lits w0 (be 7 1) 5 (by simp))
  have e2 : (bs (be 7 1)).toArray = #[.int .u8 7] := by simp [be, bs]
  rw [e2, be_length] at hcv
  obtain ⟨KK, hK⟩ : ∃ K, K = be 7 1 := ⟨_, rfl⟩
  have hKl : KK.length = 1 := by rw [hK]; rfl
  rw [← hK] at hcv ⊢
  obtain ⟨w1, hw1⟩ : ∃ w1, w1 = w0.alloc (.cells #[.int .u8 7] 5) := ⟨_, rfl⟩
  have c01 : Chg (fun _ => False) w0 w1 := by rw [hw1]; exact (Chg.refl _ w0).alloc _
  have HX1 := Lib.hid (c01.heap HX0.out (fun h => h))
  have q1 : w1.cell? ⟨w.heap.size, 0, none⟩ = some (.int .i64 7) := c01.cell q0 (fun h => h)
  have G1 : Hid (Chg (fun _ => False) w w1) := c0.trans c01
  have HW0 := Lib.hid hw0
  have HW1 := Lib.hid hw1
  clear hw0 hw1 e2 hK hk c0 c01
  go_enter Try.func20, Try.ntmps20
  go_upto_region 1 with fail
  rw [← HW0.out]
  go_upto_region 2 with fail
  rw [← HW1.out]
  clear HW0 HW1 hcv q0
  go_upto_region 23 with fail
  refine wpT.begin (fun _ => False) 20 (by kernel_rfl) rfl ?_
  refine wpT.take 0 rfl (by kernel_rfl) (fun _ _ _ h => h) rfl (fun w' hw' => by go_simp <;> with_reducible rfl) ?_
  simp only [Act.put, List.setIfInBounds_toArray, List.set_cons_zero, List.set_cons_succ]
  refine wpT.take 1 rfl (by kernel_rfl) (fun _ _ _ h => h) rfl (fun w' hw' => by go_simp <;> with_reducible rfl) ?_
  simp only [Act.put, List.setIfInBounds_toArray, List.set_cons_zero, List.set_cons_succ]
  refine wpT.ld 2 rfl (by kernel_rfl) (fun _ _ _ _ h => h) rfl _ _ rfl (by kernel_rfl) _ rfl _ (by rw [World.cell?_drew]; exact cell_cmd HX1.out 1 _ rfl) (fun h => h) ?_
  simp only [Act.put, List.setIfInBounds_toArray, List.set_cons_zero, List.set_cons_succ]
  refine wpT.take 5 rfl (by kernel_rfl) (fun _ _ _ h => h) rfl (fun w' hw' => by go_simp <;> with_reducible rfl) ?_
  simp only [Act.put, List.setIfInBounds_toArray, List.set_cons_zero, List.set_cons_succ]
  refine wpT.ld 6 rfl (by kernel_rfl) (fun _ _ _ _ h => h) rfl _ _ rfl (by kernel_rfl) _ rfl _ (by rw [World.cell?_drew]; exact cell_cmd HX1.out 2 _ rfl) (fun h => h) ?_
  simp only [Act.put, List.setIfInBounds_toArray, List.set_cons_zero, List.set_cons_succ]
  refine wpT.take 9 rfl (by kernel_rfl) (fun _ _ _ h => h) rfl (fun w' hw' => by go_simp <;> with_reducible rfl) ?_
  simp only [Act.put, List.setIfInBounds_toArray, List.set_cons_zero, List.set_cons_succ]
  refine wpT.take 10 rfl (by kernel_rfl) (fun _ _ _ h => h) rfl (fun w' hw' => by go_simp <;> with_reducible rfl) ?_
  simp only [Act.put, List.setIfInBounds_toArray, List.set_cons_zero, List.set_cons_succ]
  refine wpT.ld 11 rfl (by kernel_rfl) (fun _ _ _ _ h => h) rfl _ _ rfl (by kernel_rfl) _ rfl _ (by rw [World.cell?_drew]; exact cell_cmd HX1.out 5 _ rfl) (fun h => h) ?_
  simp only [Act.put, List.setIfInBounds_toArray, List.set_cons_zero, List.set_cons_succ]
  refine wpT.take 14 rfl (by kernel_rfl) (fun _ _ _ h => h) rfl (fun w' hw' => by go_simp <;> with_reducible rfl) ?_
  simp only [Act.put, List.setIfInBounds_toArray, List.set_cons_zero, List.set_cons_succ]
  refine wpT.take 15 rfl (by kernel_rfl) (fun _ _ _ h => h) rfl (fun w' hw' => by go_simp <;> with_reducible rfl) ?_
  simp only [Act.put, List.setIfInBounds_toArray, List.set_cons_zero, List.set_cons_succ]
  refine wpT.ld 16 rfl (by kernel_rfl) (fun _ _ _ _ h => h) rfl _ _ rfl (by kernel_rfl) _ rfl _ (by rw [World.cell?_drew]; exact cell_cmd HX1.out 6 _ rfl) (fun h => h) ?_
  simp only [Act.put, List.setIfInBounds_toArray, List.set_cons_zero, List.set_cons_succ]
  refine wpT.call 3 rfl (by kernel_rfl) rfl (fun K hK => ?_)
  go_wp2_with fail
  refine (ref_text x.tenant _ (by omega)).mono ?_
  rintro e w1x1 ⟨rfl, cst⟩
  have HX_w1x1 := Lib.hid (((Chg.refl (fun _ => False) w1).drew.trans cst).heap HX1.out (fun h => h))
  have G_w1x1 : Hid (Chg (fun _ => False) w w1x1) := G1.out.trans ((Chg.refl (fun _ => False) w1).drew.trans cst)
  refine hK _ _ cst ?_
  clear hK cst
  try (simp only [Act.put, List.setIfInBounds_toArray, List.set_cons_zero, List.set_cons_succ])
  refine wpT.take 4 rfl (by kernel_rfl) (fun _ _ _ h => h) rfl (fun w' hw' => exec_cat _ _ _ rfl KK (be x.tenant.length 2 ++ x.tenant) rfl rfl (by simp; omega)) ?_
  simp only [Act.put, List.setIfInBounds_toArray, List.set_cons_zero, List.set_cons_succ]
  refine wpT.call 7 rfl (by kernel_rfl) rfl (fun K hK => ?_)
  go_wp2_with fail
  refine (ref_text x.series _ (by omega)).mono ?_
  rintro e w1x2 ⟨rfl, cst⟩
  have HX_w1x2 := Lib.hid (cst.heap HX_w1x1.out (fun h => h))
  have G_w1x2 : Hid (Chg (fun _ => False) w w1x2) := G_w1x1.out.trans cst
  refine hK _ _ cst ?_
  clear hK cst
  try (simp only [Act.put, List.setIfInBounds_toArray, List.set_cons_zero, List.set_cons_succ])
  refine wpT.take 8 rfl (by kernel_rfl) (fun _ _ _ h => h) rfl (fun w' hw' => exec_cat _ _ _ rfl (KK ++ (be x.tenant.length 2 ++ x.tenant)) (be x.series.length 2 ++ x.series) rfl rfl (by simp; omega)) ?_
  simp only [Act.put, List.setIfInBounds_toArray, List.set_cons_zero, List.set_cons_succ]
  refine wpT.call 12 rfl (by kernel_rfl) rfl (fun K hK => ?_)
  go_wp2_with fail
  refine (ref_int x.rlo _).mono ?_
  rintro e w1x3 ⟨rfl, cst⟩
  have HX_w1x3 := Lib.hid (cst.heap HX_w1x2.out (fun h => h))
  have G_w1x3 : Hid (Chg (fun _ => False) w w1x3) := G_w1x2.out.trans cst
  refine hK _ _ cst ?_
  clear hK cst
  try (simp only [Act.put, List.setIfInBounds_toArray, List.set_cons_zero, List.set_cons_succ])
  refine wpT.take 13 rfl (by kernel_rfl) (fun _ _ _ h => h) rfl (fun w' hw' => exec_cat _ _ _ rfl ((KK ++ (be x.tenant.length 2 ++ x.tenant)) ++ (be x.series.length 2 ++ x.series)) (i8 x.rlo) rfl rfl (by simp; omega)) ?_
  simp only [Act.put, List.setIfInBounds_toArray, List.set_cons_zero, List.set_cons_succ]
  refine wpT.call 17 rfl (by kernel_rfl) rfl (fun K hK => ?_)
  go_wp2_with fail
  refine (ref_int x.rhi _).mono ?_
  rintro e w1x4 ⟨rfl, cst⟩
  have HX_w1x4 := Lib.hid (cst.heap HX_w1x3.out (fun h => h))
  have G_w1x4 : Hid (Chg (fun _ => False) w w1x4) := G_w1x3.out.trans cst
  refine hK _ _ cst ?_
  clear hK cst
  try (simp only [Act.put, List.setIfInBounds_toArray, List.set_cons_zero, List.set_cons_succ])
  refine wpT.take 18 rfl (by kernel_rfl) (fun _ _ _ h => h) rfl (fun w' hw' => exec_cat _ _ _ rfl (((KK ++ (be x.tenant.length 2 ++ x.tenant)) ++ (be x.series.length 2 ++ x.series)) ++ (i8 x.rlo)) (i8 x.rhi) rfl rfl (by simp; omega)) ?_
  simp only [Act.put, List.setIfInBounds_toArray, List.set_cons_zero, List.set_cons_succ]
  refine wpT.take 19 rfl (by kernel_rfl) (fun _ _ _ h => h) rfl (fun w' hw' => by go_simp <;> with_reducible rfl) ?_
  simp only [Act.put, List.setIfInBounds_toArray, List.set_cons_zero, List.set_cons_succ]
  refine wpT.done (by kernel_rfl) ?_
  go_wp2_with fail
  go_ret
  refine ⟨?_, G_w1x4.out⟩
  show Ending.returned (.string ⟨_⟩) = _
  simp only [List.append_assoc]

set_option maxRecDepth 100000 in
set_option maxHeartbeats 1000000 in
theorem bytes_8 (x : Cmd) (w : World) (hk : x.kind = 8)  :
    Calls Try.prog 20 #[.agg #[.int .i64 x.kind, .string ⟨x.tenant.toArray⟩, .string ⟨x.series.toArray⟩, .string ⟨x.name.toArray⟩, x.pv, .int .i64 x.rlo, .int .i64 x.rhi, .int .i64 x.praw, .int .i64 x.pmid, .int .i64 x.plong, .string ⟨x.hname.toArray⟩, .string ⟨x.hser.toArray⟩, .int .i64 x.hlo, .int .i64 x.hhi, .int .i64 x.bytes, .int .i64 x.count, .int .i64 x.at_]] w fun e w' => e = .returned (.string ⟨(be 8 1 ++ i8 x.at_).toArray⟩) ∧ Chg (fun _ => False) w w' := by
  obtain ⟨w0, hw0⟩ : ∃ w0, w0 = w.alloc (.cells #[.int .i64 x.kind, .string ⟨x.tenant.toArray⟩, .string ⟨x.series.toArray⟩, .string ⟨x.name.toArray⟩, x.pv, .int .i64 x.rlo, .int .i64 x.rhi, .int .i64 x.praw, .int .i64 x.pmid, .int .i64 x.plong, .string ⟨x.hname.toArray⟩, .string ⟨x.hser.toArray⟩, .int .i64 x.hlo, .int .i64 x.hhi, .int .i64 x.bytes, .int .i64 x.count, .int .i64 x.at_] 30) := ⟨_, rfl⟩
  have c0 : Chg (fun _ => False) w w0 := by rw [hw0]; exact (Chg.refl _ w).alloc _
  have HX0 : Hid (w0.heap[w.heap.size]? = some (.cells x.cells.toArray 30 (0, 0))) := by rw [hw0]; exact heap_at_new _ _ _ rfl
  have q0 : w0.cell? ⟨w.heap.size, 0, none⟩ = some (.int .i64 8) := cell_cmd HX0.out 0 _ (by rw [← hk]; rfl)
  have hcv := convb (w0.alloc (.cells (bs (be 8 1)).toArray 5)) _ _ (rb_lits w0 (be 8 1) 5 (by simp))
  have e2 : (bs (be 8 1)).toArray = #[.int .u8 8] := by simp [be, bs]
  rw [e2, be_length] at hcv
  obtain ⟨KK, hK⟩ : ∃ K, K = be 8 1 := ⟨_, rfl⟩
  have hKl : KK.length = 1 := by rw [hK]; rfl
  rw [← hK] at hcv ⊢
  obtain ⟨w1, hw1⟩ : ∃ w1, w1 = w0.alloc (.cells #[.int .u8 8] 5) := ⟨_, rfl⟩
  have c01 : Chg (fun _ => False) w0 w1 := by rw [hw1]; exact (Chg.refl _ w0).alloc _
  have HX1 := Lib.hid (c01.heap HX0.out (fun h => h))
  have q1 : w1.cell? ⟨w.heap.size, 0, none⟩ = some (.int .i64 8) := c01.cell q0 (fun h => h)
  have G1 : Hid (Chg (fun _ => False) w w1) := c0.trans c01
  have HW0 := Lib.hid hw0
  have HW1 := Lib.hid hw1
  clear hw0 hw1 e2 hK hk c0 c01
  go_enter Try.func20, Try.ntmps20
  go_upto_region 1 with fail
  rw [← HW0.out]
  go_upto_region 2 with fail
  rw [← HW1.out]
  clear HW0 HW1 hcv q0
  have qf : w1.cell? ⟨w.heap.size, 16, none⟩ = some (.int .i64 x.at_) := cell_cmd HX1.out 16 _ rfl
  have hl : ¬ 9223372036854775807 < KK.length + (i8 x.at_).length := by simp; omega
  have hcat := cat_str KK (i8 x.at_)
  go_wp2_with fail
  refine (ref_int x.at_ _).mono ?_
  rintro e w2 ⟨rfl, c2⟩
  go_wp2_with fail
  go_ret
  exact ⟨rfl, G1.out.trans c2⟩

set_option maxRecDepth 100000 in
set_option maxHeartbeats 1000000 in
theorem bytes_9 (x : Cmd) (w : World) (hk : x.kind = 9)  :
    Calls Try.prog 20 #[.agg #[.int .i64 x.kind, .string ⟨x.tenant.toArray⟩, .string ⟨x.series.toArray⟩, .string ⟨x.name.toArray⟩, x.pv, .int .i64 x.rlo, .int .i64 x.rhi, .int .i64 x.praw, .int .i64 x.pmid, .int .i64 x.plong, .string ⟨x.hname.toArray⟩, .string ⟨x.hser.toArray⟩, .int .i64 x.hlo, .int .i64 x.hhi, .int .i64 x.bytes, .int .i64 x.count, .int .i64 x.at_]] w fun e w' => e = .returned (.string ⟨(be 9 1 ++ i8 x.bytes).toArray⟩) ∧ Chg (fun _ => False) w w' := by
  obtain ⟨w0, hw0⟩ : ∃ w0, w0 = w.alloc (.cells #[.int .i64 x.kind, .string ⟨x.tenant.toArray⟩, .string ⟨x.series.toArray⟩, .string ⟨x.name.toArray⟩, x.pv, .int .i64 x.rlo, .int .i64 x.rhi, .int .i64 x.praw, .int .i64 x.pmid, .int .i64 x.plong, .string ⟨x.hname.toArray⟩, .string ⟨x.hser.toArray⟩, .int .i64 x.hlo, .int .i64 x.hhi, .int .i64 x.bytes, .int .i64 x.count, .int .i64 x.at_] 30) := ⟨_, rfl⟩
  have c0 : Chg (fun _ => False) w w0 := by rw [hw0]; exact (Chg.refl _ w).alloc _
  have HX0 : Hid (w0.heap[w.heap.size]? = some (.cells x.cells.toArray 30 (0, 0))) := by rw [hw0]; exact heap_at_new _ _ _ rfl
  have q0 : w0.cell? ⟨w.heap.size, 0, none⟩ = some (.int .i64 9) := cell_cmd HX0.out 0 _ (by rw [← hk]; rfl)
  have hcv := convb (w0.alloc (.cells (bs (be 9 1)).toArray 5)) _ _ (rb_lits w0 (be 9 1) 5 (by simp))
  have e2 : (bs (be 9 1)).toArray = #[.int .u8 9] := by simp [be, bs]
  rw [e2, be_length] at hcv
  obtain ⟨KK, hK⟩ : ∃ K, K = be 9 1 := ⟨_, rfl⟩
  have hKl : KK.length = 1 := by rw [hK]; rfl
  rw [← hK] at hcv ⊢
  obtain ⟨w1, hw1⟩ : ∃ w1, w1 = w0.alloc (.cells #[.int .u8 9] 5) := ⟨_, rfl⟩
  have c01 : Chg (fun _ => False) w0 w1 := by rw [hw1]; exact (Chg.refl _ w0).alloc _
  have HX1 := Lib.hid (c01.heap HX0.out (fun h => h))
  have q1 : w1.cell? ⟨w.heap.size, 0, none⟩ = some (.int .i64 9) := c01.cell q0 (fun h => h)
  have G1 : Hid (Chg (fun _ => False) w w1) := c0.trans c01
  have HW0 := Lib.hid hw0
  have HW1 := Lib.hid hw1
  clear hw0 hw1 e2 hK hk c0 c01
  go_enter Try.func20, Try.ntmps20
  go_upto_region 1 with fail
  rw [← HW0.out]
  go_upto_region 2 with fail
  rw [← HW1.out]
  clear HW0 HW1 hcv q0
  have qf : w1.cell? ⟨w.heap.size, 14, none⟩ = some (.int .i64 x.bytes) := cell_cmd HX1.out 14 _ rfl
  have hl : ¬ 9223372036854775807 < KK.length + (i8 x.bytes).length := by simp; omega
  have hcat := cat_str KK (i8 x.bytes)
  go_wp2_with fail
  refine (ref_int x.bytes _).mono ?_
  rintro e w2 ⟨rfl, c2⟩
  go_wp2_with fail
  go_ret
  exact ⟨rfl, G1.out.trans c2⟩
end Go.Proofs.Ytjhkhdockiocgaa
