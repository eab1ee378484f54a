/- window.Width, Start, Of, Cover; nums.Add. -/
import Derived.Test.YtmnnahkaenikkaaHold1
import Derived.Test.YtmnnahkaenikkaaSer9
namespace Go.Cat
open Go.RowKit
/-- A store of a whole struct whose run is known. -/
theorem wpT.stR {P : Program} {T : Nat → Prop} {fuel : Nat} {listed : Array Bool} {a : Act} {w : World} {l : List Oper} {Q : Exit → Act → World → Prop} (i : Nat) {oi : Oper} {rest : List Oper} (hi : l.drop i = oi :: rest) (hr : Region.ready .any l.toArray listed = [i])
    (hw : Region.wanted oi (yielded l.toArray a.tmps) = true) (t : TypeId) (x y : Operand) (ho : oi.op = .store t x y) (p v : Value) (w' : World) (hx : a.eval x = p) (hy : a.eval y = v) (hs : (Instr.storeAt t p v).run P w = .ok () w') (c : Chg T w w')
    (h : wpT P l.toArray Q T fuel (listed.setIfInBounds i true) (a.put oi.dst undef) w') : wpT P l.toArray Q T (fuel + 1) listed a w :=
  wpT.call i hi hr hw fun K hK => wp_skipped w' (exec_store t x y _ _ _ ho hx hy hs) (hK _ _ c h)
end Go.Cat
namespace Go.Proofs.Ytmnnahkaenikkaa
open Go.RowKit Go.Cat
def wid (t : Nat) : Int := if t = 0 then 1 else if t = 1 then 300 else 3600
theorem wid_pos (t : Nat) : 0 < wid t ∧ wid t ≤ 3600 := by
  unfold wid
  split
  · omega
  · split <;> omega
theorem row_some {w : World} {g : Nat} {cs : Array Value} {T : TypeId} {f : Nat × Nat} (h : w.heap[g]? = some (.cells cs T f)) (j : Nat) (hj : j < cs.size) : (w.cell? ⟨g, 0 + j, none⟩).isSome = true := by
  rw [cell_of_heap h, Nat.zero_add, Array.getElem?_eq_getElem hj]; rfl
def wst (t : Nat) (at_ : Int) : Int := at_ - at_ % wid t
theorem wst_le {t : Nat} {x : Int} (h : 0 ≤ x) : 0 ≤ wst t x ∧ wst t x ≤ x ∧ x < wst t x + wid t := by
  have h1 := wid_pos t
  have h2 := Int.emod_nonneg x (show wid t ≠ 0 by omega)
  have h3 := Int.emod_lt_of_pos x (show 0 < wid t by omega)
  have h4 : x % wid t ≤ x := by have := Int.mul_ediv_add_emod x (wid t); have h5 := Int.mul_nonneg (Int.le_of_lt h1.1) (Int.ediv_nonneg h (Int.le_of_lt h1.1)); omega
  unfold wst
  omega
set_option maxRecDepth 100000 in
theorem width_c (w : World) (t : Nat) (ht : t ≤ 2) : Calls Try.prog 48 #[.int .i64 t] w fun e w' => e = .returned (.int .i64 (wid t)) ∧ w = w' := by
  obtain rfl | rfl | rfl : t = 0 ∨ t = 1 ∨ t = 2 := by omega
  all_goals
    go_enter Try.func48, Try.ntmps48
    go_wp2_with fail
    go_ret
    exact ⟨rfl, rfl⟩
set_option maxRecDepth 100000 in
theorem start_c (w : World) (t : Nat) (x : Int) (ht : t ≤ 2) (h0 : 0 ≤ x) (h1 : x ≤ 9223372036854775807) : Calls Try.prog 57 #[.int .i64 t, .int .i64 x] w fun e w' => e = .returned (.int .i64 (wst t x)) ∧ w = w' := by
  have WC := Lib.hid (fun w => width_c w t ht)
  obtain ⟨k, hk⟩ : ∃ k, k = wid t := ⟨_, rfl⟩
  have hp := wid_pos t
  have hs := wst_le (t := t) h0
  have hs2 : wst t x = x - x % k := by rw [hk]; rfl
  rw [← hk] at WC hp hs
  have em : x.tmod k = x % k := Int.tmod_eq_emod_of_nonneg h0
  have hn := Int.emod_nonneg x (show k ≠ 0 by omega)
  have hle : x % k ≤ x := by rw [hs2] at hs; omega
  obtain ⟨r, hr⟩ : ∃ r, r = x % k := ⟨_, rfl⟩
  rw [hs2]
  rw [← hr] at em hn hle ⊢
  have ew : IntKind.i64.wrap (x - r) = x - r := IntWalk.i64_in _ (by omega)
  have i1 : ¬ x < 0 := by omega
  have i2 : (k == 0) = false := by simp; omega
  clear hk hs hs2 hr
  go_enter Try.func57, Try.ntmps57
  go_wp2_with fail
  refine (WC.out _).mono ?_
  rintro e w' ⟨rfl, rfl⟩
  go_wp2_with fail
  go_ret
  exact ⟨rfl, rfl⟩
def Span (a b : Int) : Value := .agg #[.int .i64 a, .int .i64 b]
set_option maxRecDepth 100000 in
theorem of_c (w : World) (t : Nat) (x : Int) (ht : t ≤ 2) (h0 : 0 ≤ x) (h1 : x ≤ 4611686018427387904) : Calls Try.prog 38 #[.int .i64 t, .int .i64 x] w fun e w' => e = .returned (.agg #[.int .i64 (wst t x), .int .i64 (wst t x + wid t)]) ∧ Chg (fun _ => False) w w' := by
  have WC := Lib.hid (fun w => width_c w t ht)
  have SC := Lib.hid (fun w => start_c w t x ht h0 (by omega))
  obtain ⟨k, hk⟩ : ∃ k, k = wid t := ⟨_, rfl⟩
  have hp := wid_pos t
  have hs := wst_le (t := t) h0
  obtain ⟨s, hsx⟩ : ∃ s, s = wst t x := ⟨_, rfl⟩
  rw [← hsx] at SC hs ⊢
  rw [← hk] at WC hp hs ⊢
  have i1 : ¬ x < 0 := by omega
  have i2 : (k == 0) = false := by simp; omega
  have i3 : ¬ 4611686018427387904 < x := by omega
  have i4 : ¬ 4611686018427387904 < s := by omega
  have ew : IntKind.i64.wrap (s + k) = s + k := IntWalk.i64_in _ (by omega)
  have EC : Hid (∀ w, Calls Try.prog 67 #[.int .i64 s, .int .i64 k] w fun e w' => e = .returned (.int .i64 (s + k)) ∧ w = w') := fun w => by
    clear WC SC hk hsx hs hp i1 i2 i3
    go_enter Try.func67, Try.ntmps67
    go_wp2_with fail
    go_ret
    exact ⟨rfl, rfl⟩
  obtain ⟨W, hW⟩ : ∃ W, W = w.alloc (.cells #[.int .i64 0, .int .i64 0] 24) := ⟨_, rfl⟩
  have hb : W.heap[w.heap.size]? = some (.cells #[.int .i64 0, .int .i64 0] 24 (0, 0)) := by rw [hW]; exact heap_at_new _ _ _ rfl
  have CW : Hid (Chg (fun _ => False) w W) := by rw [hW]; exact (Chg.refl _ w).alloc _
  have hst := run_storeAt_agg (P := Try.prog) W 24 w.heap.size 0 [.int .i64 s, .int .i64 (s + k)] (by kernel_rfl) (fun j hj => row_some hb j hj) (fun j _ => frozen_of_heap hb _) (by intro u hu; simp at hu; rcases hu with rfl | rfl <;> rfl)
  clear hk hsx hs hp ew
  have HW := Lib.hid hW
  have HB := Lib.hid hb
  clear hb hW
  go_enter Try.func38, Try.ntmps38
  go_wp2_with fail
  rw [← HW.out]
  refine (WC.out _).mono ?_
  rintro e w' ⟨rfl, rfl⟩
  go_wp2_with fail
  refine (SC.out _).mono ?_
  rintro e w' ⟨rfl, rfl⟩
  go_wp2_with fail
  refine (EC.out _).mono ?_
  rintro e w' ⟨rfl, rfl⟩
  go_wp2_with (first | refine wpList_store rfl 24 _ _ rfl _ _ _ rfl rfl hst ?_)
  have hb := HB.out
  have hH : (W.setCells w.heap.size 0 [.int .i64 s, .int .i64 (s + k)]).heap[w.heap.size]? = some (.cells #[.int .i64 s, .int .i64 (s + k)] 24 (0, 0)) := Cat.heap_setCell_same (Cat.heap_setCell_same hb 0 _) 1 _
  refine bodyPost_ret (v := .agg #[.int .i64 s, .int .i64 (s + k)]) (results_cell_row (fn := Try.f38) (p := 4) (ty := 24) rfl _ _ w.heap.size _ _ (0, 0) _ rfl hH Try.underlying24 rfl (by kernel_rfl)) rfl ⟨rfl, ?_⟩
  exact CW.out.new (Chg.setCells _ w.heap.size _ _) (fun q hq => by omega)
/-- The least range of whole windows. -/
def covF (t : Nat) (a : Int) : Int := wst t a
def covT (t : Nat) (b : Int) : Int := wst t (b - 1) + wid t
set_option maxRecDepth 100000 in
set_option maxHeartbeats 1000000 in
theorem cover_c (w : World) (t : Nat) (a b : Int) (h1 : 1 ≤ t) (ht : t ≤ 2) (h0 : 0 ≤ a) (hab : a < b) (hb : b ≤ 1099511627777) : Calls Try.prog 54 #[.int .i64 t, .agg #[.int .i64 a, .int .i64 b]] w fun e w' => e = .returned (.agg #[.int .i64 (covF t a), .int .i64 (covT t b)]) ∧ Chg (fun _ => False) w w' := by
  have RC := Lib.hid (fun w => window_right a b w)
  rw [decide_eq_true (show 0 ≤ a ∧ a < b ∧ b ≤ 1099511627777 from ⟨h0, hab, hb⟩)] at RC
  have WC := Lib.hid (fun w => width_c w t ht)
  have SC := Lib.hid (fun w => start_c w t a ht h0 (by omega))
  have OC := Lib.hid (fun w => of_c w t (b - 1) ht (by omega) (by omega))
  have hp := wid_pos t
  have i2 : (wid t == 0) = false := by simp; omega
  have ew : IntKind.i64.wrap (b - 1) = b - 1 := IntWalk.i64_in _ (by omega)
  obtain ⟨k, hk⟩ : ∃ k, k = wid t := ⟨_, rfl⟩
  obtain ⟨x, hx⟩ : ∃ x, x = covF t a := ⟨_, rfl⟩
  obtain ⟨y, hy⟩ : ∃ y, y = covT t b := ⟨_, rfl⟩
  have OC : Hid (∀ w, Calls Try.prog 38 #[.int .i64 t, .int .i64 (b - 1)] w fun e w' => e = .returned (.agg #[.int .i64 (wst t (b - 1)), .int .i64 y]) ∧ Chg (fun _ => False) w w') := by rw [hy]; exact OC.out
  have SC : Hid (∀ w, Calls Try.prog 57 #[.int .i64 t, .int .i64 a] w fun e w' => e = .returned (.int .i64 x) ∧ w = w') := by rw [hx]; exact SC.out
  rw [← hk] at WC i2
  rw [← hx, ← hy]
  generalize wst t (b - 1) = z at OC
  have hfd : ∀ w, (Instr.field 24 (.agg #[.int .i64 z, .int .i64 y]) 1).run Try.prog w = .ok (.int .i64 y) w := fun w => by
    simp [Instr.field, run_underlying Try.underlying24, part, asAgg, go_sem]
  clear hk hx hy hp h0 hab hb
  obtain ⟨W0, hW0⟩ : ∃ W, W = w.alloc (.cells #[.int .i64 a, .int .i64 b] 24) := ⟨_, rfl⟩
  obtain ⟨W, hW⟩ : ∃ W, W = W0.alloc (.cells #[.int .i64 0, .int .i64 0] 24) := ⟨_, rfl⟩
  have hs0 : W0.heap.size = w.heap.size + 1 := by rw [hW0]; simp
  have hb1 : W.heap[w.heap.size + 1]? = some (.cells #[.int .i64 0, .int .i64 0] 24 (0, 0)) := by rw [hW]; exact heap_at_new _ _ _ hs0.symm
  have hb0 : W.heap[w.heap.size]? = some (.cells #[.int .i64 a, .int .i64 b] 24 (0, 0)) := by
    rw [hW]
    exact Chg.heap ((Chg.refl (fun _ => False) _).alloc _) (by rw [hW0]; exact heap_at_new _ _ _ rfl) (fun h => h)
  have CW : Hid (Chg (fun _ => False) w W) := by rw [hW, hW0]; exact ((Chg.refl _ w).alloc _).alloc _
  have HB0 := Lib.hid hb0
  have HB1 := Lib.hid hb1
  have q0 : W.cell? ⟨w.heap.size, 0, none⟩ = some (.int .i64 a) := by rw [cell_of_heap hb0]; rfl
  have q1 : W.cell? ⟨w.heap.size, 1, none⟩ = some (.int .i64 b) := by rw [cell_of_heap hb0]; rfl
  have HW : Hid (W = (w.alloc (.cells #[.int .i64 a, .int .i64 b] 24)).alloc (.cells #[.int .i64 0, .int .i64 0] 24)) := by rw [← hW0]; exact hW
  rw [hW, hW0] at q0 q1
  clear hb0 hb1 hW hW0 hs0
  go_enter Try.func54, Try.ntmps54
  go_wp2_with fail
  rw [← HW.out]
  rw [← HW.out] at q0 q1
  refine (RC.out _).mono ?_
  rintro e w1 ⟨rfl, c1⟩
  have C1 := Lib.hid c1
  clear c1 q0 q1
  go_wp2_with fail
  refine (WC.out _).mono ?_
  rintro e w' ⟨rfl, rfl⟩
  go_wp2_with fail
  have q0 : Hid (w1.drew.cell? ⟨w.heap.size, 0, none⟩ = some (.int .i64 a)) := by show w1.cell? _ = _; rw [cell_of_heap (C1.out.heap HB0.out (fun h => h))]; rfl
  have q1 : Hid (w1.drew.cell? ⟨w.heap.size, 1, none⟩ = some (.int .i64 b)) := by show w1.cell? _ = _; rw [cell_of_heap (C1.out.heap HB0.out (fun h => h))]; rfl
  refine wpT.begin (fun k => k = w.heap.size + 1) 12 (by kernel_rfl) rfl ?_
  refine wpT.take 0 rfl (by kernel_rfl) (fun _ _ _ h => h) rfl (fun w' hw' => by go_simp <;> with_reducible rfl) ?_
  simp only [Act.put, List.setIfInBounds_toArray, List.set_cons_zero, List.set_cons_succ]
  refine wpT.take 1 rfl (by kernel_rfl) (fun _ _ _ h => h) rfl (fun w' hw' => by go_simp <;> with_reducible rfl) ?_
  simp only [Act.put, List.setIfInBounds_toArray, List.set_cons_zero, List.set_cons_succ]
  refine wpT.ld 2 rfl (by kernel_rfl) (fun _ _ _ _ h => h) rfl _ _ rfl (by kernel_rfl) ⟨w.heap.size, 0, none⟩ rfl _ (q0.out) (by simp) ?_
  simp only [Act.put, List.setIfInBounds_toArray, List.set_cons_zero, List.set_cons_succ]
  refine wpT.take 4 rfl (by kernel_rfl) (fun _ _ _ h => h) rfl (fun w' hw' => by go_simp <;> with_reducible rfl) ?_
  simp only [Act.put, List.setIfInBounds_toArray, List.set_cons_zero, List.set_cons_succ]
  refine wpT.take 5 rfl (by kernel_rfl) (fun _ _ _ h => h) rfl (fun w' hw' => by go_simp <;> with_reducible rfl) ?_
  simp only [Act.put, List.setIfInBounds_toArray, List.set_cons_zero, List.set_cons_succ]
  refine wpT.ld 6 rfl (by kernel_rfl) (fun _ _ _ _ h => h) rfl _ _ rfl (by kernel_rfl) ⟨w.heap.size, 1, none⟩ rfl _ (q1.out) (by simp) ?_
  simp only [Act.put, List.setIfInBounds_toArray, List.set_cons_zero, List.set_cons_succ]
  refine wpT.take 7 rfl (by kernel_rfl) (fun _ _ _ h => h) rfl (fun w' hw' => by go_simp <;> with_reducible rfl) ?_
  simp only [Act.put, List.setIfInBounds_toArray, List.set_cons_zero, List.set_cons_succ]
  refine wpT.call 3 rfl (by kernel_rfl) rfl (fun K hK => ?_)
  go_wp2_with fail
  refine (SC.out _).mono ?_
  rintro e w' ⟨rfl, rfl⟩
  refine hK _ _ (Chg.refl _ _) ?_
  clear hK
  try (simp only [Act.put, List.setIfInBounds_toArray, List.set_cons_zero, List.set_cons_succ])
  refine wpT.call 8 rfl (by kernel_rfl) rfl (fun K hK => ?_)
  go_wp2_with fail
  refine (OC.out _).mono ?_
  rintro e w2 ⟨rfl, c2⟩
  have c02 : Chg (fun _ => False) W w2 := C1.out.drew.trans c2
  have hb2 := c02.heap HB1.out (fun h => h)
  have hst := run_storeAt_agg (P := Try.prog) w2 24 (w.heap.size + 1) 0 [.int .i64 x, .int .i64 y] (by kernel_rfl) (fun j hj => row_some hb2 j hj) (fun j _ => frozen_of_heap hb2 _) (by intro u hu; simp at hu; rcases hu with rfl | rfl <;> rfl)
  refine hK _ _ (c2.mono (fun _ _ h => h.elim)) ?_
  clear hK
  try (simp only [Act.put, List.setIfInBounds_toArray, List.set_cons_zero, List.set_cons_succ])
  refine wpT.take (v := .int .i64 y) 9 rfl (by kernel_rfl) (fun _ _ _ h => h) rfl (fun w' hw' => by have := hfd w'; go_simp) ?_
  simp only [Act.put, List.setIfInBounds_toArray, List.set_cons_zero, List.set_cons_succ]
  refine wpT.take 10 rfl (by kernel_rfl) (fun _ _ _ h => h) rfl (fun w' hw' => by go_simp <;> with_reducible rfl) ?_
  simp only [Act.put, List.setIfInBounds_toArray, List.set_cons_zero, List.set_cons_succ]
  refine wpT.stR 11 rfl (by kernel_rfl) rfl 24 _ _ rfl _ _ _ rfl rfl (hst) (Chg.setCells _ (w.heap.size + 1) _ _) ?_
  simp only [Act.put, List.setIfInBounds_toArray, List.set_cons_zero, List.set_cons_succ]
  refine wpT.done (by kernel_rfl) ?_
  have hH : (w2.setCells (w.heap.size + 1) 0 [.int .i64 x, .int .i64 y]).heap[w.heap.size + 1]? = some (.cells #[.int .i64 x, .int .i64 y] 24 (0, 0)) := Cat.heap_setCell_same (Cat.heap_setCell_same hb2 0 _) 1 _
  go_wp2_with fail
  refine bodyPost_ret (v := .agg #[.int .i64 x, .int .i64 y]) (results_cell_row (fn := Try.f54) (p := 4) (ty := 24) rfl _ _ (w.heap.size + 1) _ _ (0, 0) _ rfl hH Try.underlying24 rfl (by kernel_rfl)) rfl ⟨rfl, ?_⟩
  exact (CW.out.trans c02).new (Chg.setCells _ (w.heap.size + 1) _ _) (fun q hq => by omega)
end Go.Proofs.Ytmnnahkaenikkaa
