/- Stock.of. -/
import Derived.Test.YtmnnahkaenikkaaStk2
namespace Go.Proofs.Ytmnnahkaenikkaa
open Go.RowKit Go.Cat
def St.of (s : St) (t : Nat) (x y : Int) : Option Ag := if t = 1 then ofW x (inR s.raw x y) else joinA x (s.mid.filter (mtR 1 x y))
theorem aggO_eq (r : Option Ag) : aggO r = .tuple #[.agg (r.getD Ag.zero).cells.toArray, .bool r.isSome] := by cases r <;> rfl
set_option maxRecDepth 100000 in
set_option maxHeartbeats 2000000 in
theorem stof_c (w : World) (F : Nat → Prop) (R : Nat) (s : St) (t : Nat) (ht : t = 1 ∨ t = 2) (x y : Int) (h : StIs w F R s) : Calls Try.prog 80 #[.pointer (some ⟨R, 0, none⟩), .int .i64 t, .agg #[.int .i64 x, .int .i64 y]] w fun e w' => e = .returned (aggO (s.of t x y)) ∧ Chg (fun _ => False) w w' := by
  obtain ⟨W, hW⟩ : ∃ W, W = (w.alloc (.cells #[.int .i64 x, .int .i64 y] 24)).alloc (.cells #[.int .i64 0, .int .i64 0, .int .i64 0, .int .i64 0, .int .i64 0] 58) := ⟨_, rfl⟩
  have cW : Chg (fun _ => False) w W := by rw [hW]; exact ((Chg.refl _ w).alloc _).alloc _
  have hb : W.drew.heap[w.heap.size]? = some (.cells #[.int .i64 x, .int .i64 y] 24 (0, 0)) := by
    show W.heap[w.heap.size]? = _
    rw [hW]; exact Chg.heap ((Chg.refl (fun _ => False) _).alloc _) (heap_at_new w _ _ rfl) (fun h => h)
  have hz : AgAt W.drew (w.heap.size + 1) Ag.zero := by
    show W.heap[w.heap.size + 1]? = _
    rw [hW]; exact heap_at_new _ _ _ (by simp)
  have hS : StIs W.drew F R s := h.same cW.drew
  have q0 : W.drew.cell? ⟨w.heap.size, 0, none⟩ = some (.int .i64 x) := by rw [cell_of_heap hb]; rfl
  obtain ⟨r, hr⟩ : ∃ r, r = s.of t x y := ⟨_, rfl⟩
  rw [← hr, aggO_eq]
  obtain ⟨z, hz1⟩ : ∃ z, z = r.getD Ag.zero := ⟨_, rfl⟩
  obtain ⟨b, hb1⟩ : ∃ b, b = r.isSome := ⟨_, rfl⟩
  have RE := Lib.hid (hr.symm)
  have AE := aggO_eq r
  rw [← hz1, ← hb1] at AE ⊢
  have AE := Lib.hid AE
  have q0 := Lib.hid q0
  have HB := Lib.hid hb
  have HZ := Lib.hid hz
  have HS := Lib.hid hS
  have CW := Lib.hid cW
  have HW := Lib.hid hW
  have W1 := Lib.hid (show w.heap.size + 1 < W.heap.size from hz.lt)
  have fin : Hid (∀ W2, Chg (fun _ => False) W.drew W2 → (Instr.storeAt 58 (.pointer (some ⟨w.heap.size + 1, 0, none⟩)) (.agg z.cells.toArray)).run Try.prog W2 = .ok () (W2.setCells (w.heap.size + 1) 0 z.cells) ∧ AgAt (W2.setCells (w.heap.size + 1) 0 z.cells) (w.heap.size + 1) z ∧ Chg (fun _ => False) w (W2.setCells (w.heap.size + 1) 0 z.cells)) := fun W2 c2 => by
    have h2 := HZ.out.kept c2 (fun h => h)
    exact ⟨h2.store z, h2.set z, (CW.out.drew.trans c2).new (Chg.setCells _ (w.heap.size + 1) _ _) (fun q hq => by omega)⟩
  rcases ht with rfl | rfl
  · obtain ⟨R1, vr, vm, vl, hh⟩ := hS
    have GC := Lib.hid (get_c W.drew R1 vr s.raw x y hh.ser)
    obtain ⟨q1, -⟩ := hh.cells
    have q1 := Lib.hid q1
    have HRL := Lib.hid h.choose_spec.choose_spec.choose_spec.choose_spec.lt
    have RE1 : Hid (ofW x (inR s.raw x y) = r) := RE.out
    have few : (inR s.raw x y).length ≤ 256 := Nat.le_trans (List.length_filter_le _ _) hh.ser.few
    clear hb hz h hh hr hz1 hb1 hW cW
    go_enter Try.func80, Try.ntmps80
    go_wp2_with fail
    rw [← HW.out]
    refine wpT.begin (fun k => k = w.heap.size + 1) 13 (by kernel_rfl) rfl ?_
    refine wpT.take 0 rfl (by kernel_rfl) (fun _ _ _ h => h) rfl (fun w' hw' => by go_simp <;> with_reducible rfl) ?_
    simp only [Act.put, List.setIfInBounds_toArray, List.set_cons_zero, List.set_cons_succ]
    refine wpT.ld 1 rfl (by kernel_rfl) (fun _ _ _ _ h => h) rfl _ _ rfl (by kernel_rfl) ⟨w.heap.size, 0, none⟩ rfl _ (q0.out) (by simp) ?_
    simp only [Act.put, List.setIfInBounds_toArray, List.set_cons_zero, List.set_cons_succ]
    refine wpT.take 2 rfl (by kernel_rfl) (fun _ _ _ h => h) rfl (fun w' hw' => by go_simp <;> with_reducible rfl) ?_
    simp only [Act.put, List.setIfInBounds_toArray, List.set_cons_zero, List.set_cons_succ]
    refine wpT.take 3 rfl (by kernel_rfl) (fun _ _ _ h => h) rfl (fun w' hw' => by go_simp <;> with_reducible rfl) ?_
    simp only [Act.put, List.setIfInBounds_toArray, List.set_cons_zero, List.set_cons_succ]
    refine wpT.take 4 rfl (by kernel_rfl) (fun _ _ _ h => h) rfl (fun w' hw' => by go_simp <;> with_reducible rfl) ?_
    simp only [Act.put, List.setIfInBounds_toArray, List.set_cons_zero, List.set_cons_succ]
    refine wpT.ld 5 rfl (by kernel_rfl) (fun _ _ _ _ h => h) rfl _ _ rfl (by kernel_rfl) ⟨R, 0, none⟩ rfl _ (q1.out) (fun hh => by have := HRL.out; simp only at hh; omega) ?_
    simp only [Act.put, List.setIfInBounds_toArray, List.set_cons_zero, List.set_cons_succ]
    refine wpT.take 6 rfl (by kernel_rfl) (fun _ _ _ h => h) rfl (fun w' hw' => exec_load _ _ _ _ rfl rfl (run_loadAt_agg w' _ _ w.heap.size 0 [.int .i64 x, .int .i64 y] Try.underlying24 rfl (by kernel_rfl) (fun j u hj => by have := hw'.heap HB.out (by simp); rw [Nat.zero_add, cell_of_heap this]; simpa using hj))) ?_
    simp only [Act.put, List.setIfInBounds_toArray, List.set_cons_zero, List.set_cons_succ]
    refine wpT.call 7 rfl (by kernel_rfl) rfl (fun K hK => ?_)
    go_wp2_with fail
    refine GC.out.mono ?_
    rintro e w2 ⟨v2, rfl, o2, f2, c2⟩
    have C2 := Lib.hid c2
    have OF := Lib.hid (of_c2 w2 x v2 _ o2.reads (by omega))
    refine hK _ _ (c2.mono (fun _ _ h => h.elim)) ?_
    clear hK o2 f2 c2
    try (simp only [Act.put, List.setIfInBounds_toArray, List.set_cons_zero, List.set_cons_succ])
    refine wpT.call 8 rfl (by kernel_rfl) rfl (fun K hK => ?_)
    go_wp2_with fail
    refine (OF.out).mono ?_
    rintro e w3 ⟨rfl, c3⟩
    have FI := Lib.hid (fin.out _ (C2.out.trans c3))
    rw [RE1.out, AE.out]
    refine hK _ _ (c3.mono (fun _ _ h => h.elim)) ?_
    clear hK c3
    try (simp only [Act.put, List.setIfInBounds_toArray, List.set_cons_zero, List.set_cons_succ])
    refine wpT.take 9 rfl (by kernel_rfl) (fun _ _ _ h => h) rfl (fun w' hw' => by go_simp <;> with_reducible rfl) ?_
    simp only [Act.put, List.setIfInBounds_toArray, List.set_cons_zero, List.set_cons_succ]
    refine wpT.take 10 rfl (by kernel_rfl) (fun _ _ _ h => h) rfl (fun w' hw' => by go_simp <;> with_reducible rfl) ?_
    simp only [Act.put, List.setIfInBounds_toArray, List.set_cons_zero, List.set_cons_succ]
    refine wpT.stR 11 rfl (by kernel_rfl) rfl 58 _ _ rfl (_) (_) _ rfl rfl (FI.out.1) (Chg.setCells _ (w.heap.size + 1) _ _) ?_
    simp only [Act.put, List.setIfInBounds_toArray, List.set_cons_zero, List.set_cons_succ]
    refine wpT.take 12 rfl (by kernel_rfl) (fun _ _ _ h => h) rfl (fun w' hw' => by go_simp <;> with_reducible rfl) ?_
    simp only [Act.put, List.setIfInBounds_toArray, List.set_cons_zero, List.set_cons_succ]
    refine wpT.done (by kernel_rfl) ?_
    go_wp2_with fail
    refine bodyPost_ret (v := .tuple #[.agg z.cells.toArray, .bool b]) (results_row_tmp2 (fn := Try.f80) (p := 6) (u := 7) (ty := 58) rfl _ _ (w.heap.size + 1) _ _ (0, 0) _ rfl FI.out.2.1 Try.underlying58 rfl (size_ag5 _)) rfl ⟨rfl, FI.out.2.2⟩
  · have AC := Lib.hid (aggs_c W.drew F R s 1 (.inl rfl) x y hS)
    have RE1 : Hid (joinA x ((s.agg 1).filter (mtR 1 x y)) = r) := RE.out
    have few : ((s.agg 1).filter (mtR 1 x y)).length ≤ 256 := Nat.le_trans (List.length_filter_le _ _) hS.inv.midFew
    clear hb hz h hr hz1 hb1 hW cW hS
    go_enter Try.func80, Try.ntmps80
    go_wp2_with fail
    rw [← HW.out]
    refine wpT.begin (fun k => k = w.heap.size + 1) 10 (by kernel_rfl) rfl ?_
    refine wpT.take 0 rfl (by kernel_rfl) (fun _ _ _ h => h) rfl (fun w' hw' => by go_simp <;> with_reducible rfl) ?_
    simp only [Act.put, List.setIfInBounds_toArray, List.set_cons_zero, List.set_cons_succ]
    refine wpT.ld 1 rfl (by kernel_rfl) (fun _ _ _ _ h => h) rfl _ _ rfl (by kernel_rfl) ⟨w.heap.size, 0, none⟩ rfl _ (q0.out) (by simp) ?_
    simp only [Act.put, List.setIfInBounds_toArray, List.set_cons_zero, List.set_cons_succ]
    refine wpT.take 2 rfl (by kernel_rfl) (fun _ _ _ h => h) rfl (fun w' hw' => by go_simp <;> with_reducible rfl) ?_
    simp only [Act.put, List.setIfInBounds_toArray, List.set_cons_zero, List.set_cons_succ]
    refine wpT.take 3 rfl (by kernel_rfl) (fun _ _ _ h => h) rfl (fun w' hw' => exec_load _ _ _ _ rfl rfl (run_loadAt_agg w' _ _ w.heap.size 0 [.int .i64 x, .int .i64 y] Try.underlying24 rfl (by kernel_rfl) (fun j u hj => by have := hw'.heap HB.out (by simp); rw [Nat.zero_add, cell_of_heap this]; simpa using hj))) ?_
    simp only [Act.put, List.setIfInBounds_toArray, List.set_cons_zero, List.set_cons_succ]
    refine wpT.call 4 rfl (by kernel_rfl) rfl (fun K hK => ?_)
    go_wp2_with fail
    refine AC.out.mono ?_
    rintro e w2 ⟨v2, rfl, o2, f2, c2⟩
    have C2 := Lib.hid c2
    have OF := Lib.hid (join_c w2 x v2 _ o2.reads (by omega))
    refine hK _ _ (c2.mono (fun _ _ h => h.elim)) ?_
    clear hK o2 f2 c2
    try (simp only [Act.put, List.setIfInBounds_toArray, List.set_cons_zero, List.set_cons_succ])
    refine wpT.call 5 rfl (by kernel_rfl) rfl (fun K hK => ?_)
    go_wp2_with fail
    refine (OF.out).mono ?_
    rintro e w3 ⟨rfl, c3⟩
    have FI := Lib.hid (fin.out _ (C2.out.trans c3))
    rw [RE1.out, AE.out]
    refine hK _ _ (c3.mono (fun _ _ h => h.elim)) ?_
    clear hK c3
    try (simp only [Act.put, List.setIfInBounds_toArray, List.set_cons_zero, List.set_cons_succ])
    refine wpT.take 6 rfl (by kernel_rfl) (fun _ _ _ h => h) rfl (fun w' hw' => by go_simp <;> with_reducible rfl) ?_
    simp only [Act.put, List.setIfInBounds_toArray, List.set_cons_zero, List.set_cons_succ]
    refine wpT.take 7 rfl (by kernel_rfl) (fun _ _ _ h => h) rfl (fun w' hw' => by go_simp <;> with_reducible rfl) ?_
    simp only [Act.put, List.setIfInBounds_toArray, List.set_cons_zero, List.set_cons_succ]
    refine wpT.stR 8 rfl (by kernel_rfl) rfl 58 _ _ rfl (_) (_) _ rfl rfl (FI.out.1) (Chg.setCells _ (w.heap.size + 1) _ _) ?_
    simp only [Act.put, List.setIfInBounds_toArray, List.set_cons_zero, List.set_cons_succ]
    refine wpT.take 9 rfl (by kernel_rfl) (fun _ _ _ h => h) rfl (fun w' hw' => by go_simp <;> with_reducible rfl) ?_
    simp only [Act.put, List.setIfInBounds_toArray, List.set_cons_zero, List.set_cons_succ]
    refine wpT.done (by kernel_rfl) ?_
    go_wp2_with fail
    refine bodyPost_ret (v := .tuple #[.agg z.cells.toArray, .bool b]) (results_row_tmp2 (fn := Try.f80) (p := 6) (u := 7) (ty := 58) rfl _ _ (w.heap.size + 1) _ _ (0, 0) _ rfl FI.out.2.1 Try.underlying58 rfl (size_ag5 _)) rfl ⟨rfl, FI.out.2.2⟩
end Go.Proofs.Ytmnnahkaenikkaa
