/- The law StampPacks, its walk. -/
import Derived.Test.YtncgeeaifacapaaL09g
namespace Go.Proofs.Ytncgeeaifacapaa
open Go.RowKit Go.Cat

theorem pack_any (T P : Nat) (L : Bool) (dv : Value) (d : List UInt8) (w : World) (ht : T < 4294967296) (hp : P < 4294967296) (h0 : T ≠ 0) (hd : d.length ≤ 47) (hv : RB w dv d) :
    Calls Try.prog 56 #[.agg #[.int .u32 T, .int .u32 P, .bool L, dv]] w fun e w' => ∃ v', e = .returned (.tuple #[v', .int .i64 0]) ∧ OB w' v' (packOf T P L d) ∧ Chg (fun _ => False) w w' ∧ Fresh w v' := by
  cases L
  · exact pack_more T P dv d w ht hp h0 hd hv
  · exact pack_last T P dv d w ht hp h0 hd hv
theorem unpack_pack (v : Value) (w : World) (T P : Nat) (L : Bool) (d l : List UInt8) (hv : RB w v l) (hT : T < 4294967296) (hP : P < 4294967296) (h0 : T ≠ 0) (hd : d.length ≤ 47) (hlp : l = packOf T P L d) :
    Calls Try.prog 35 #[v] w fun e w' => ∃ dv', e = .returned (.tuple #[.agg #[.int .u32 T, .int .u32 P, .bool L, dv'], .int .i64 0]) ∧ RB w' dv' d ∧ Chg (fun _ => False) w w' := by
  subst hlp
  refine (unpack_ok v w _ hv (pack_len hd) (pack_some hT h0) (pack_alike hd) (pack_clean hd hT h0)).mono ?_
  rintro e w' ⟨dv, rfl, h1, _, h2⟩
  have e1 : decide (128 ≤ ofBe (((packOf T P L d).drop 8).take 1)) = L := by
    rw [pack_num hd]; cases L
    · exact decide_eq_false (by simp; omega)
    · exact decide_eq_true (by simp)
  refine ⟨dv, ?_, ?_, h2⟩
  · rw [e1, pack_t, ofBe_be T 4 (by omega), pack_p, ofBe_be P 4 (by omega)]
  · rw [pack_mod hd, pack_d hd, List.take_left' rfl] at h1
    exact h1.rb
theorem turn_pack (v : Value) (w : World) (T P : Nat) (L : Bool) (d l : List UInt8) (hv : RB w v l) (hT : T < 4294967296) (h0 : T ≠ 0) (hd : d.length ≤ 47) (hlp : l = packOf T P L d) :
    Calls Try.prog 57 #[v] w fun e w' => e = .returned (.int .u32 T) ∧ Chg (fun _ => False) w w' := by
  subst hlp
  refine (turn_ok v w _ hv (pack_len hd) (pack_some hT h0) (pack_alike hd) (pack_clean hd hT h0)).mono ?_
  rintro e w' ⟨rfl, h2⟩
  rw [pack_t, ofBe_be T 4 (by omega)]
  exact ⟨rfl, h2⟩

set_option maxRecDepth 100000 in
set_option maxHeartbeats 1000000 in
theorem pack_zero (P : Int) (L : Bool) (dv : Value) (w : World) :
    Calls Try.prog 56 #[.agg #[.int .u32 0, .int .u32 P, .bool L, dv]] w fun e w' => e = .returned (.tuple #[.slice none 0 0, .int .i64 1]) ∧ Chg (fun _ => False) w w' := by
  go_enter Try.func56, Try.ntmps56
  go_wp2_with fail
  go_ret2
  exact ⟨rfl, (Chg.refl _ w).alloc _⟩
set_option maxRecDepth 100000 in
set_option maxHeartbeats 1000000 in
theorem pack_long (T : Nat) (P : Int) (L : Bool) (a : Option Addr) (n c : Nat) (w : World) (h0 : T ≠ 0) (hn : 47 < n) :
    Calls Try.prog 56 #[.agg #[.int .u32 T, .int .u32 P, .bool L, .slice a n c]] w fun e w' => e = .returned (.tuple #[.slice none 0 0, .int .i64 12]) ∧ Chg (fun _ => False) w w' := by
  have e2 : ((T : Int) == 0) = false := by simp; omega
  have g1 : (47 : Int) < n := by omega
  go_enter Try.func56, Try.ntmps56
  go_wp2_with fail
  go_ret2
  exact ⟨rfl, (Chg.refl _ w).alloc _⟩

set_option maxRecDepth 100000 in
set_option maxHeartbeats 2000000 in
theorem packs_go (T P : Nat) (L : Bool) (dv : Value) (d : List UInt8) (w : World) (hv : RB w dv d) (hT : T < 4294967296) (hP : P < 4294967296) (h0 : T ≠ 0) (hd : d.length ≤ 47) :
    Calls Try.prog 11 #[.agg #[.int .u32 T, .int .u32 P, .bool L, dv]] w fun e w' => e = .returned (.bool true) ∧ Chg (fun _ => False) w w' := by
  obtain ⟨da, dc, rfl⟩ := hv.form
  have e2 : ((T : Int) == 0) = false := by simp; omega
  have g1 : ¬ (47 : Int) < d.length := by omega
  have g2 : ¬ (200 : Int) < d.length := by omega
  have HV := Lib.hid hv
  obtain ⟨w1, hw1'⟩ : ∃ w1, w1 = w.alloc (.cells #[.int .u32 T, .int .u32 P, .bool L, .slice da d.length dc] 42) := ⟨_, rfl⟩
  have c01 : Chg (fun _ => False) w w1 := by rw [hw1']; exact (Chg.refl _ w).alloc _
  have hb1 : w1.heap[w.heap.size]? = some (.cells #[.int .u32 T, .int .u32 P, .bool L, .slice da d.length dc] 42 (0, 0)) := by
    rw [hw1']; exact heap_at_new w _ _ rfl
  have HB1 := Lib.hid hb1
  have HW1 := Lib.hid hw1'
  clear hv hb1 hw1'
  go_enter Try.func11, Try.ntmps11
  go_wp2_with fail
  rw [← HW1.out]
  refine (lives09 _).mono ?_
  rintro e w2 ⟨rfl, c2⟩
  have q0 := Chg.cell (p := ⟨w.heap.size, 0, none⟩) (v := .int .u32 T) c2 (by rw [cell_of_heap HB1.out]; rfl) (fun h => h)
  have q1 := Chg.cell (p := ⟨w.heap.size, 1, none⟩) (v := .int .u32 P) c2 (by rw [cell_of_heap HB1.out]; rfl) (fun h => h)
  have q2 := Chg.cell (p := ⟨w.heap.size, 2, none⟩) (v := .bool L) c2 (by rw [cell_of_heap HB1.out]; rfl) (fun h => h)
  have q3 := Chg.cell (p := ⟨w.heap.size, 3, none⟩) (v := .slice da d.length dc) c2 (by rw [cell_of_heap HB1.out]; rfl) (fun h => h)
  go_wp2_with fail
  refine (pack_any T P L _ d w2 hT hP h0 hd (HV.out.kept (c01.trans c2) (fun _ _ h => h))).mono ?_
  rintro e w3 ⟨pv, rfl, hp3, c3, f3⟩
  obtain ⟨l, hl⟩ : ∃ l, l = packOf T P L d := ⟨_, rfl⟩
  rw [← hl] at hp3
  have hln : l.length = 64 := by rw [hl]; exact pack_len hd
  obtain ⟨pa, pc, rfl⟩ := hp3.form
  have HP3 := Lib.hid hp3
  rw [hln] at HP3
  rw [hln]
  have HLP := Lib.hid hl
  have c13 : Chg (fun _ => False) w1 w3 := c2.trans c3
  clear q0 q1 q2 q3 hp3 hl hln c2 c3
  have q0 := Chg.cell (p := ⟨w.heap.size, 0, none⟩) (v := .int .u32 T) c13 (by rw [cell_of_heap HB1.out]; rfl) (fun h => h)
  have q3 := Chg.cell (p := ⟨w.heap.size, 3, none⟩) (v := .slice da d.length dc) c13 (by rw [cell_of_heap HB1.out]; rfl) (fun h => h)
  go_wp2_with fail
  refine (unpack_pack _ w3 T P L d l HP3.out.rb hT hP h0 hd HLP.out).mono ?_
  rintro e w4 ⟨uv, rfl, hu4, c4⟩
  obtain ⟨ua, uc, rfl⟩ := hu4.form
  have HU4 := Lib.hid hu4
  clear hu4 q0 q3
  go_wp2_with fail
  obtain ⟨w5, hw5⟩ : ∃ w5, w5 = w4.alloc (.cells #[.int .u32 T, .int .u32 P, .bool L, .slice ua d.length uc] 42) := ⟨_, rfl⟩
  have c45 : Chg (fun _ => False) w4 w5 := by rw [hw5]; exact (Chg.refl _ w4).alloc _
  have hb5 : w5.heap[w4.heap.size]? = some (.cells #[.int .u32 T, .int .u32 P, .bool L, .slice ua d.length uc] 42 (0, 0)) := by
    rw [hw5]; exact heap_at_new w4 _ _ rfl
  have HB5 := Lib.hid hb5
  rw [← hw5]
  clear hw5 hb5
  have c15 : Chg (fun _ => False) w1 w5 := (c13.trans c4).trans c45
  have hL1 : Hid (∀ w', Chg (fun _ => False) w5.drew w' → (Instr.loadAt 42 (.pointer (some ⟨w.heap.size, 0, none⟩))).run Try.prog w' = .ok (.agg #[.int .u32 T, .int .u32 P, .bool L, .slice da d.length dc]) w') := fun w' c => load_sector w' _ _ _ _ _ _ ((c15.drew.trans c).heap HB1.out (fun h => h))
  have hL5 : Hid (∀ w', Chg (fun _ => False) w5.drew w' → (Instr.loadAt 42 (.pointer (some ⟨w4.heap.size, 0, none⟩))).run Try.prog w' = .ok (.agg #[.int .u32 T, .int .u32 P, .bool L, .slice ua d.length uc]) w') := fun w' c => load_sector w' _ _ _ _ _ _ ((((Chg.refl (fun _ => False) w5).drew).trans c).heap HB5.out (fun h => h))
  have hL0 : Hid (∀ w', Chg (fun _ => False) w5.drew w' → (Instr.loadAt 33 (.pointer (some ⟨w.heap.size, 0, none⟩))).run Try.prog w' = .ok (.int .u32 T) w') := fun w' c => load_u32 w' _ _ ((Chg.cell (p := ⟨w.heap.size, 0, none⟩) (c15.drew.trans c)) (by rw [cell_of_heap HB1.out]; rfl) (fun h => h))
  have hCV : Hid (∀ w', Chg (fun _ => False) w5.drew w' → (convert 26 9 (.slice pa 64 pc)).run Try.prog w' = .ok (.string ⟨l.toArray⟩) w') := fun w' c => convb w' _ l (HP3.out.rb.kept (((c4.trans c45).drew).trans c) (fun _ _ h => h))
  refine wpT.begin (fun _ => False) 27 (by kernel_rfl) rfl ?_
  refine wpT.take 0 rfl (by kernel_rfl) (fun _ _ _ h => h) rfl (fun w' hw' => by go_simp <;> with_reducible rfl) ?_
  simp only [Act.put, List.setIfInBounds_toArray, List.set_cons_zero, List.set_cons_succ]
  refine wpT.take 1 rfl (by kernel_rfl) (fun _ _ _ h => h) rfl (fun w' hw' => by go_simp <;> with_reducible rfl) ?_
  simp only [Act.put, List.setIfInBounds_toArray, List.set_cons_zero, List.set_cons_succ]
  refine wpT.take 2 rfl (by kernel_rfl) (fun _ _ _ h => h) rfl (fun w' hw' => by go_simp <;> with_reducible rfl) ?_
  simp only [Act.put, List.setIfInBounds_toArray, List.set_cons_zero, List.set_cons_succ]
  refine wpT.take 3 rfl (by kernel_rfl) (fun _ _ _ h => h) rfl (fun w' hw' => by go_simp <;> with_reducible rfl) ?_
  simp only [Act.put, List.setIfInBounds_toArray, List.set_cons_zero, List.set_cons_succ]
  refine wpT.take 4 rfl (by kernel_rfl) (fun _ _ _ h => h) rfl (fun w' hw' => by exact exec_convert _ _ _ _ _ _ rfl rfl (hCV.out w' hw')) ?_
  simp only [Act.put, List.setIfInBounds_toArray, List.set_cons_zero, List.set_cons_succ]
  refine wpT.take 5 rfl (by kernel_rfl) (fun _ _ _ h => h) rfl (fun w' hw' => by exact exec_load _ _ _ _ rfl rfl (hL1.out w' hw')) ?_
  simp only [Act.put, List.setIfInBounds_toArray, List.set_cons_zero, List.set_cons_succ]
  refine wpT.call 6 rfl (by kernel_rfl) rfl (fun K hK => ?_)
  go_wp2_with fail
  refine (bytes_any T P L _ d w5.drew hT hP hd (HV.out.kept (c01.trans c15.drew) (fun _ _ h => h))).mono ?_
  rintro e w6 ⟨rfl, c6⟩
  refine hK _ _ c6 ?_
  clear hK
  rw [← HLP.out]
  refine wpT.take 7 rfl (by kernel_rfl) (fun _ _ _ h => h) rfl (fun w' hw' => by go_simp <;> with_reducible rfl) ?_
  simp only [Act.put, List.setIfInBounds_toArray, List.set_cons_zero, List.set_cons_succ]
  refine wpT.take 8 rfl (by kernel_rfl) (fun _ _ _ h => h) rfl (fun w' hw' => by go_simp <;> with_reducible rfl) ?_
  simp only [Act.put, List.setIfInBounds_toArray, List.set_cons_zero, List.set_cons_succ]
  refine wpT.take 9 rfl (by kernel_rfl) (fun _ _ _ h => h) rfl (fun w' hw' => by go_simp <;> with_reducible rfl) ?_
  simp only [Act.put, List.setIfInBounds_toArray, List.set_cons_zero, List.set_cons_succ]
  refine wpT.take 10 rfl (by kernel_rfl) (fun _ _ _ h => h) rfl (fun w' hw' => by go_simp <;> with_reducible rfl) ?_
  simp only [Act.put, List.setIfInBounds_toArray, List.set_cons_zero, List.set_cons_succ]
  refine wpT.take 11 rfl (by kernel_rfl) (fun _ _ _ h => h) rfl (fun w' hw' => by go_simp <;> with_reducible rfl) ?_
  simp only [Act.put, List.setIfInBounds_toArray, List.set_cons_zero, List.set_cons_succ]
  refine wpT.take 12 rfl (by kernel_rfl) (fun _ _ _ h => h) rfl (fun w' hw' => by go_simp <;> with_reducible rfl) ?_
  simp only [Act.put, List.setIfInBounds_toArray, List.set_cons_zero, List.set_cons_succ]
  refine wpT.take 13 rfl (by kernel_rfl) (fun _ _ _ h => h) rfl (fun w' hw' => by go_simp <;> with_reducible rfl) ?_
  simp only [Act.put, List.setIfInBounds_toArray, List.set_cons_zero, List.set_cons_succ]
  refine wpT.take 14 rfl (by kernel_rfl) (fun _ _ _ h => h) rfl (fun w' hw' => by exact exec_load _ _ _ _ rfl rfl (hL5.out w' (c6.trans hw'))) ?_
  simp only [Act.put, List.setIfInBounds_toArray, List.set_cons_zero, List.set_cons_succ]
  refine wpT.take 15 rfl (by kernel_rfl) (fun _ _ _ h => h) rfl (fun w' hw' => by exact exec_load _ _ _ _ rfl rfl (hL1.out w' (c6.trans hw'))) ?_
  simp only [Act.put, List.setIfInBounds_toArray, List.set_cons_zero, List.set_cons_succ]
  have hsame := same_any T P T P L L (.slice ua d.length uc) (.slice da d.length dc) d d w6 (HU4.out.kept (c45.drew.trans c6) (fun _ _ h => h)) (HV.out.kept ((c01.trans c15.drew).trans c6) (fun _ _ h => h))
  rw [show decide (T = T ∧ P = P ∧ L = L ∧ d = d) = true from decide_eq_true ⟨rfl, rfl, rfl, rfl⟩] at hsame
  refine wpT.call 16 rfl (by kernel_rfl) rfl (fun K hK => ?_)
  go_wp2_with fail
  refine (hsame).mono ?_
  rintro e w7 ⟨rfl, c7⟩
  refine hK _ _ c7 ?_
  clear hK
  clear hsame
  refine wpT.take 17 rfl (by kernel_rfl) (fun _ _ _ h => h) rfl (fun w' hw' => by go_simp <;> with_reducible rfl) ?_
  simp only [Act.put, List.setIfInBounds_toArray, List.set_cons_zero, List.set_cons_succ]
  refine wpT.take 18 rfl (by kernel_rfl) (fun _ _ _ h => h) rfl (fun w' hw' => by go_simp <;> with_reducible rfl) ?_
  simp only [Act.put, List.setIfInBounds_toArray, List.set_cons_zero, List.set_cons_succ]
  refine wpT.take 19 rfl (by kernel_rfl) (fun _ _ _ h => h) rfl (fun w' hw' => by go_simp <;> with_reducible rfl) ?_
  simp only [Act.put, List.setIfInBounds_toArray, List.set_cons_zero, List.set_cons_succ]
  refine wpT.take 21 rfl (by kernel_rfl) (fun _ _ _ h => h) rfl (fun w' hw' => by go_simp <;> with_reducible rfl) ?_
  simp only [Act.put, List.setIfInBounds_toArray, List.set_cons_zero, List.set_cons_succ]
  refine wpT.take 22 rfl (by kernel_rfl) (fun _ _ _ h => h) rfl (fun w' hw' => by go_simp <;> with_reducible rfl) ?_
  simp only [Act.put, List.setIfInBounds_toArray, List.set_cons_zero, List.set_cons_succ]
  refine wpT.take 23 rfl (by kernel_rfl) (fun _ _ _ h => h) rfl (fun w' hw' => by exact exec_load _ _ _ _ rfl rfl (hL0.out w' ((c6.trans c7).trans hw'))) ?_
  simp only [Act.put, List.setIfInBounds_toArray, List.set_cons_zero, List.set_cons_succ]
  refine wpT.call 20 rfl (by kernel_rfl) rfl (fun K hK => ?_)
  go_wp2_with fail
  refine (turn_pack _ w7 T P L d l (HP3.out.rb.kept ((((c4.trans c45).drew).trans c6).trans c7) (fun _ _ h => h)) hT h0 hd HLP.out).mono ?_
  rintro e w8 ⟨rfl, c8⟩
  refine hK _ _ c8 ?_
  clear hK
  refine wpT.take 24 rfl (by kernel_rfl) (fun _ _ _ h => h) rfl (fun w' hw' => by go_simp <;> with_reducible rfl) ?_
  simp only [Act.put, List.setIfInBounds_toArray, List.set_cons_zero, List.set_cons_succ]
  refine wpT.take 25 rfl (by kernel_rfl) (fun _ _ _ h => h) rfl (fun w' hw' => by go_simp <;> with_reducible rfl) ?_
  simp only [Act.put, List.setIfInBounds_toArray, List.set_cons_zero, List.set_cons_succ]
  refine wpT.take 26 rfl (by kernel_rfl) (fun _ _ _ h => h) rfl (fun w' hw' => by go_simp <;> with_reducible rfl) ?_
  simp only [Act.put, List.setIfInBounds_toArray, List.set_cons_zero, List.set_cons_succ]
  refine wpT.done (by kernel_rfl) ?_
  go_wp2_with fail
  go_ret
  exact ⟨rfl, (((c01.trans c15.drew).trans c6).trans c7).trans c8⟩

set_option maxRecDepth 100000 in
set_option maxHeartbeats 1000000 in
theorem packs_far (T P : Nat) (L : Bool) (dv : Value) (d : List UInt8) (w : World) (hv : RB w dv d) (hd : 200 < d.length) :
    Calls Try.prog 11 #[.agg #[.int .u32 T, .int .u32 P, .bool L, dv]] w fun e w' => e = .returned (.bool true) ∧ Chg (fun _ => False) w w' := by
  obtain ⟨da, dc, rfl⟩ := hv.form
  obtain ⟨n1, hn1⟩ : ∃ n1, n1 = d.length := ⟨_, rfl⟩
  rw [← hn1] at hd ⊢
  clear hv hn1
  have g2 : (200 : Int) < n1 := by omega
  have hb1 := heap_at_new w (.cells #[.int .u32 T, .int .u32 P, .bool L, .slice da n1 dc] 42) _ rfl
  have HB1 := Lib.hid hb1
  clear hb1
  go_enter Try.func11, Try.ntmps11
  go_wp2_with fail
  refine (lives09 _).mono ?_
  rintro e w2 ⟨rfl, c2⟩
  have q0 := Chg.cell (p := ⟨w.heap.size, 0, none⟩) (v := .int .u32 T) c2 (by rw [cell_of_heap HB1.out]; rfl) (fun h => h)
  have q1 := Chg.cell (p := ⟨w.heap.size, 1, none⟩) (v := .int .u32 P) c2 (by rw [cell_of_heap HB1.out]; rfl) (fun h => h)
  have q2 := Chg.cell (p := ⟨w.heap.size, 2, none⟩) (v := .bool L) c2 (by rw [cell_of_heap HB1.out]; rfl) (fun h => h)
  have q3 := Chg.cell (p := ⟨w.heap.size, 3, none⟩) (v := .slice da n1 dc) c2 (by rw [cell_of_heap HB1.out]; rfl) (fun h => h)
  go_wp2_with fail
  refine (lives09 _).mono ?_
  rintro e w3 ⟨rfl, c3⟩
  go_wp2_with fail
  go_ret
  exact ⟨rfl, (((Chg.refl _ w).alloc _).trans c2).trans c3⟩

set_option maxRecDepth 100000 in
set_option maxHeartbeats 1000000 in
theorem packs_none (P : Nat) (L : Bool) (dv : Value) (d : List UInt8) (w : World) (hv : RB w dv d) (hd : d.length ≤ 200) :
    Calls Try.prog 11 #[.agg #[.int .u32 0, .int .u32 P, .bool L, dv]] w fun e w' => e = .returned (.bool true) ∧ Chg (fun _ => False) w w' := by
  obtain ⟨da, dc, rfl⟩ := hv.form
  obtain ⟨n1, hn1⟩ : ∃ n1, n1 = d.length := ⟨_, rfl⟩
  rw [← hn1] at hd ⊢
  clear hv hn1
  have g2 : ¬ (200 : Int) < n1 := by omega
  have hb1 := heap_at_new w (.cells #[.int .u32 0, .int .u32 P, .bool L, .slice da n1 dc] 42) _ rfl
  have HB1 := Lib.hid hb1
  clear hb1
  go_enter Try.func11, Try.ntmps11
  go_wp2_with fail
  refine (lives09 _).mono ?_
  rintro e w2 ⟨rfl, c2⟩
  have q0 := Chg.cell (p := ⟨w.heap.size, 0, none⟩) (v := .int .u32 0) c2 (by rw [cell_of_heap HB1.out]; rfl) (fun h => h)
  have q1 := Chg.cell (p := ⟨w.heap.size, 1, none⟩) (v := .int .u32 P) c2 (by rw [cell_of_heap HB1.out]; rfl) (fun h => h)
  have q2 := Chg.cell (p := ⟨w.heap.size, 2, none⟩) (v := .bool L) c2 (by rw [cell_of_heap HB1.out]; rfl) (fun h => h)
  have q3 := Chg.cell (p := ⟨w.heap.size, 3, none⟩) (v := .slice da n1 dc) c2 (by rw [cell_of_heap HB1.out]; rfl) (fun h => h)
  go_wp2_with fail
  refine (pack_zero _ L _ w2).mono ?_
  rintro e w3 ⟨rfl, c3⟩
  have q0 := c3.cell q0 (fun h => h)
  have q3 := c3.cell q3 (fun h => h)
  go_wp2_with fail
  go_ret
  exact ⟨rfl, (((Chg.refl _ w).alloc _).trans c2).trans c3⟩

set_option maxRecDepth 100000 in
set_option maxHeartbeats 1000000 in
theorem packs_long (T P : Nat) (L : Bool) (dv : Value) (d : List UInt8) (w : World) (hv : RB w dv d) (h0 : T ≠ 0) (hd : 47 < d.length ∧ d.length ≤ 200) :
    Calls Try.prog 11 #[.agg #[.int .u32 T, .int .u32 P, .bool L, dv]] w fun e w' => e = .returned (.bool true) ∧ Chg (fun _ => False) w w' := by
  obtain ⟨da, dc, rfl⟩ := hv.form
  obtain ⟨n1, hn1⟩ : ∃ n1, n1 = d.length := ⟨_, rfl⟩
  rw [← hn1] at hd ⊢
  clear hv hn1
  have g2 : ¬ (200 : Int) < n1 := by omega
  have g1 : (47 : Int) < n1 := by omega
  have e2 : ((T : Int) == 0) = false := by simp; omega
  have hb1 := heap_at_new w (.cells #[.int .u32 T, .int .u32 P, .bool L, .slice da n1 dc] 42) _ rfl
  have HB1 := Lib.hid hb1
  clear hb1
  go_enter Try.func11, Try.ntmps11
  go_wp2_with fail
  refine (lives09 _).mono ?_
  rintro e w2 ⟨rfl, c2⟩
  have q0 := Chg.cell (p := ⟨w.heap.size, 0, none⟩) (v := .int .u32 T) c2 (by rw [cell_of_heap HB1.out]; rfl) (fun h => h)
  have q1 := Chg.cell (p := ⟨w.heap.size, 1, none⟩) (v := .int .u32 P) c2 (by rw [cell_of_heap HB1.out]; rfl) (fun h => h)
  have q2 := Chg.cell (p := ⟨w.heap.size, 2, none⟩) (v := .bool L) c2 (by rw [cell_of_heap HB1.out]; rfl) (fun h => h)
  have q3 := Chg.cell (p := ⟨w.heap.size, 3, none⟩) (v := .slice da n1 dc) c2 (by rw [cell_of_heap HB1.out]; rfl) (fun h => h)
  go_wp2_with fail
  refine (pack_long T _ L da n1 dc w2 h0 hd.1).mono ?_
  rintro e w3 ⟨rfl, c3⟩
  have q0 := c3.cell q0 (fun h => h)
  have q3 := c3.cell q3 (fun h => h)
  go_wp2_with fail
  go_ret
  exact ⟨rfl, (((Chg.refl _ w).alloc _).trans c2).trans c3⟩

theorem packs_any (T P : Nat) (L : Bool) (dv : Value) (d : List UInt8) (w : World) (hv : RB w dv d) (hT : T < 4294967296) (hP : P < 4294967296) :
    Calls Try.prog 11 #[.agg #[.int .u32 T, .int .u32 P, .bool L, dv]] w fun e w' => e = .returned (.bool true) ∧ Chg (fun _ => False) w w' := by
  by_cases h2 : 200 < d.length
  · exact packs_far T P L dv d w hv h2
  · by_cases h0 : T = 0
    · subst h0; exact packs_none P L dv d w hv (by omega)
    · by_cases h1 : 47 < d.length
      · exact packs_long T P L dv d w hv h0 ⟨h1, by omega⟩
      · exact packs_go T P L dv d w hv hT hP h0 (by omega)
end Go.Proofs.Ytncgeeaifacapaa
