/- nums.Add, roll.Add, Of, Join. -/
import Derived.Test.YtmnnahkaenikkaaWin
namespace Go.Cat
open Go.RowKit
theorem exec_min2 {P : Program} {o : Oper} {a : Act} {w : World} (x y : Operand) (t : TypeId) (ho : o.op = .call { callee := .builtin .min, args := #[x, y], argTypes := #[t, t] }) (p q : Int) (hx : a.eval x = .int .i64 p) (hy : a.eval y = .int .i64 q) (r : Int) (hr : (if q < p then q else p) = r) : (execOp a.eval o).run P w = .ok (.value (.int .i64 r)) w := by
  subst hr
  unfold execOp
  simp [ho, resolve, invoke, builtin, hx, hy, Builtin.min_, Builtin.min2]
theorem exec_max2 {P : Program} {o : Oper} {a : Act} {w : World} (x y : Operand) (t : TypeId) (ho : o.op = .call { callee := .builtin .max, args := #[x, y], argTypes := #[t, t] }) (p q : Int) (hx : a.eval x = .int .i64 p) (hy : a.eval y = .int .i64 q) (r : Int) (hr : (if p < q then q else p) = r) : (execOp a.eval o).run P w = .ok (.value (.int .i64 r)) w := by
  subst hr
  unfold execOp
  simp [ho, resolve, invoke, builtin, hx, hy, Builtin.max_, Builtin.max2]
end Go.Cat
namespace Go.Proofs.Ytmnnahkaenikkaa
open Go.RowKit Go.Cat
def nsum (a b : Int) : Int := IntKind.i64.wrap (IntKind.u64.wrap (IntKind.u64.wrap a + IntKind.u64.wrap b))
def nadd (a b : Int) : Int := if a < 0 ∧ b < 0 ∧ 0 ≤ nsum a b then -9223372036854775808 else if 0 ≤ a ∧ 0 ≤ b ∧ nsum a b < 0 then 9223372036854775807 else nsum a b
set_option maxRecDepth 100000 in
theorem nadd_c (w : World) (a b : Int) : Calls Try.prog 95 #[.int .i64 a, .int .i64 b] w fun e w' => e = .returned (.int .i64 (nadd a b)) ∧ w = w' := by
  have en : Hid (∀ w b, Calls Try.prog 98 #[.bool b] w fun e w' => e = .returned (.int .i64 (if b = true then -9223372036854775808 else 9223372036854775807)) ∧ w = w') := fun w b => by
    cases b
    · go_enter Try.func98, Try.ntmps98
      go_wp2_with fail
      go_ret
      exact ⟨rfl, rfl⟩
    · go_enter Try.func98, Try.ntmps98
      go_wp2_with fail
      go_ret
      exact ⟨rfl, rfl⟩
  have hs : IntKind.i64.wrap (IntKind.u64.wrap (IntKind.u64.wrap a + IntKind.u64.wrap b)) = nsum a b := rfl
  have hn : nadd a b = if a < 0 ∧ b < 0 ∧ 0 ≤ nsum a b then -9223372036854775808 else if 0 ≤ a ∧ 0 ≤ b ∧ nsum a b < 0 then 9223372036854775807 else nsum a b := rfl
  generalize nadd a b = r at hn
  generalize nsum a b = s at hs hn
  by_cases ha : a < 0
  · by_cases hb : b < 0
    · by_cases h0 : 0 ≤ s
      · rw [if_pos ⟨ha, hb, h0⟩] at hn
        rw [hn]
        clear hn
        have h1 : ¬ s < 0 := by omega
        go_enter Try.func95, Try.ntmps95
        go_wp2_with fail
        refine (en.out _ _).mono ?_
        rintro e w' ⟨rfl, rfl⟩
        go_wp2_with fail
        go_ret
        exact ⟨rfl, rfl⟩
      · rw [if_neg (fun h => h0 h.2.2), if_neg (fun h => by have := h.1; omega)] at hn
        have h1 : s < 0 := by omega
        subst hn
        go_enter Try.func95, Try.ntmps95
        go_wp2_with fail
        go_ret
        exact ⟨rfl, rfl⟩
    · rw [if_neg (fun h => hb h.2.1), if_neg (fun h => by have := h.1; omega)] at hn
      subst hn
      go_enter Try.func95, Try.ntmps95
      go_wp2_with fail
      go_ret
      exact ⟨rfl, rfl⟩
  · by_cases hb : b < 0
    · rw [if_neg (fun h => ha h.1), if_neg (fun h => by have := h.2.1; omega)] at hn
      subst hn
      go_enter Try.func95, Try.ntmps95
      go_wp2_with fail
      go_ret
      exact ⟨rfl, rfl⟩
    · by_cases h0 : s < 0
      · rw [if_neg (fun h => ha h.1), if_pos ⟨by omega, by omega, h0⟩] at hn
        rw [hn]
        clear hn
        go_enter Try.func95, Try.ntmps95
        go_wp2_with fail
        refine (en.out _ _).mono ?_
        rintro e w' ⟨rfl, rfl⟩
        go_wp2_with fail
        go_ret
        exact ⟨rfl, rfl⟩
      · rw [if_neg (fun h => ha h.1), if_neg (fun h => h0 h.2.2)] at hn
        subst hn
        go_enter Try.func95, Try.ntmps95
        go_wp2_with fail
        go_ret
        exact ⟨rfl, rfl⟩
structure Ag where
  tk : Int
  cnt : Int
  sum : Int
  mn : Int
  mx : Int
deriving DecidableEq
def Ag.cells (p : Ag) : List Value := [.int .i64 p.tk, .int .i64 p.cnt, .int .i64 p.sum, .int .i64 p.mn, .int .i64 p.mx]
def Ag.zero : Ag := ⟨0, 0, 0, 0, 0⟩
/-- With a value more. -/
def agAdd (a : Ag) (v : Int) : Ag := if a.cnt < 1 then ⟨a.tk, 1, v, v, v⟩ else ⟨a.tk, nadd a.cnt 1, nadd a.sum v, if v < a.mn then v else a.mn, if a.mx < v then v else a.mx⟩
theorem size_agg : (Try.prog.info? 58).map (·.size) = some 5 := by kernel_rfl
theorem agone : ∀ a : Ag, ∀ u ∈ a.cells, u.oneCell' = true := fun a u hu => by
  simp [Ag.cells] at hu
  rcases hu with rfl | rfl | rfl | rfl | rfl <;> rfl
theorem store_ag {w : World} {g : Nat} {cs : Array Value} {T : TypeId} (h : w.heap[g]? = some (.cells cs T (0, 0))) (hs : cs.size = 5) (a : Ag) : (Instr.storeAt 58 (.pointer (some ⟨g, 0, none⟩)) (.agg a.cells.toArray)).run Try.prog w = .ok () (w.setCells g 0 a.cells) :=
  run_storeAt_agg (P := Try.prog) w 58 g 0 a.cells size_agg (fun j hj => row_some h j (by rw [hs]; exact hj)) (fun j _ => frozen_of_heap h _) (agone a)
theorem row_ag {w : World} {g : Nat} {x0 x1 x2 x3 x4 : Value} {T : TypeId} (h : w.heap[g]? = some (.cells #[x0, x1, x2, x3, x4] T (0, 0))) (a : Ag) : (w.setCells g 0 a.cells).heap[g]? = some (.cells a.cells.toArray T (0, 0)) :=
  Cat.heap_setCell_same (Cat.heap_setCell_same (Cat.heap_setCell_same (Cat.heap_setCell_same (Cat.heap_setCell_same h 0 _) 1 _) 2 _) 3 _) 4 _
theorem load_ag {w : World} {g : Nat} {a : Ag} {T : TypeId} {f : Nat × Nat} (h : w.heap[g]? = some (.cells a.cells.toArray T f)) : (Instr.loadAt 58 (.pointer (some ⟨g, 0, none⟩))).run Try.prog w = .ok (.agg a.cells.toArray) w :=
  run_loadAt_agg w _ _ g 0 a.cells Try.underlying58 rfl (by kernel_rfl) fun j u hj => by
    rw [Nat.zero_add, cell_of_heap h]; simpa using hj
set_option maxRecDepth 100000 in
set_option maxHeartbeats 1000000 in
theorem agadd_c (w : World) (a : Ag) (v : Int) : Calls Try.prog 94 #[.agg a.cells.toArray, .int .i64 v] w fun e w' => e = .returned (.agg (agAdd a v).cells.toArray) ∧ Chg (fun _ => False) w w' := by
  obtain ⟨W0, hW0⟩ : ∃ W, W = w.alloc (.cells a.cells.toArray 58) := ⟨_, rfl⟩
  obtain ⟨W, hW⟩ : ∃ W, W = W0.alloc (.cells Ag.zero.cells.toArray 58) := ⟨_, rfl⟩
  have hs0 : W0.heap.size = w.heap.size + 1 := by rw [hW0]; simp
  have hb1 : W.heap[w.heap.size + 1]? = some (.cells Ag.zero.cells.toArray 58 (0, 0)) := by rw [hW]; exact heap_at_new _ _ _ hs0.symm
  have hb0 : W.heap[w.heap.size]? = some (.cells a.cells.toArray 58 (0, 0)) := by
    rw [hW]
    exact Chg.heap ((Chg.refl (fun _ => False) _).alloc _) (by rw [hW0]; exact heap_at_new _ _ _ rfl) (fun h => h)
  have CW : Hid (Chg (fun _ => False) w W) := by rw [hW, hW0]; exact ((Chg.refl _ w).alloc _).alloc _
  have HB0 := Lib.hid hb0
  have HB1 := Lib.hid hb1
  obtain ⟨p0, p1, p2, p3, p4⟩ := a
  have q0 : W.cell? ⟨w.heap.size, 0, none⟩ = some (.int .i64 p0) := by rw [cell_of_heap hb0]; rfl
  have q1 : W.cell? ⟨w.heap.size, 1, none⟩ = some (.int .i64 p1) := by rw [cell_of_heap hb0]; rfl
  have q2 : Hid (W.cell? ⟨w.heap.size, 2, none⟩ = some (.int .i64 p2)) := by show W.cell? _ = _; rw [cell_of_heap hb0]; rfl
  have q3 : Hid (W.cell? ⟨w.heap.size, 3, none⟩ = some (.int .i64 p3)) := by show W.cell? _ = _; rw [cell_of_heap hb0]; rfl
  have q4 : Hid (W.cell? ⟨w.heap.size, 4, none⟩ = some (.int .i64 p4)) := by show W.cell? _ = _; rw [cell_of_heap hb0]; rfl
  have HW : Hid (W = (w.alloc (.cells #[.int .i64 p0, .int .i64 p1, .int .i64 p2, .int .i64 p3, .int .i64 p4] 58)).alloc (.cells #[.int .i64 0, .int .i64 0, .int .i64 0, .int .i64 0, .int .i64 0] 58)) := by rw [hW, hW0]; rfl
  have hfin : ∀ x : Ag, Hid ((W.setCells (w.heap.size + 1) 0 x.cells).heap[w.heap.size + 1]? = some (.cells x.cells.toArray 58 (0, 0)) ∧ Chg (fun _ => False) w (W.setCells (w.heap.size + 1) 0 x.cells)) := fun x => ⟨row_ag hb1 x, CW.out.new (Chg.setCells _ (w.heap.size + 1) _ _) (fun q hq => by omega)⟩
  have hfin2 : Hid (∀ x : Ag, ((W.setCells (w.heap.size + 1) 0 x.cells).heap[w.heap.size + 1]? = some (.cells x.cells.toArray 58 (0, 0)) ∧ Chg (fun _ => False) w (W.setCells (w.heap.size + 1) 0 x.cells))) := fun x => (hfin x).out
  have hst := fun x => store_ag hb1 rfl x
  have HST := Lib.hid hst
  by_cases h1 : p1 < 1
  · have e0 : agAdd ⟨p0, p1, p2, p3, p4⟩ v = ⟨p0, 1, v, v, v⟩ := if_pos h1
    rw [e0]
    clear e0
    have hst1 := hst ⟨p0, 1, v, v, v⟩
    have hf := hfin2.out ⟨p0, 1, v, v, v⟩
    obtain ⟨W2, hW2⟩ : ∃ W2, W2 = W.setCells (w.heap.size + 1) 0 (Ag.cells ⟨p0, 1, v, v, v⟩) := ⟨_, rfl⟩
    rw [← hW2] at hst1 hf
    clear hW2 hfin2
    have hv : (Value.agg (Ag.cells ⟨p0, 1, v, v, v⟩).toArray) = .agg #[.int .i64 p0, .int .i64 1, .int .i64 v, .int .i64 v, .int .i64 v] := rfl
    rw [hv] at hst1
    clear hv
    have HF := Lib.hid hf
    clear hf
    have q0' := q0
    have q1' := q1
    rw [HW.out] at q0 q1
    have HQ0 := Lib.hid q0'
    clear hb0 hb1 hW hW0 hs0 hfin hst q0' q1'
    show Calls _ _ #[.agg #[.int .i64 p0, .int .i64 p1, .int .i64 p2, .int .i64 p3, .int .i64 p4], .int .i64 v] w _
    rw [HW.out] at hst1
    go_enter Try.func94, Try.ntmps94
    go_wp2_with (first | refine wpList_store rfl 58 _ _ rfl _ _ _ rfl rfl hst1 ?_)
    refine bodyPost_ret (v := .agg (Ag.cells ⟨p0, 1, v, v, v⟩).toArray) (results_cell_row (fn := Try.f94) (p := 4) (ty := 58) rfl _ _ (w.heap.size + 1) _ _ (0, 0) _ rfl HF.out.1 Try.underlying58 rfl (by kernel_rfl)) rfl ⟨rfl, HF.out.2⟩
  · have e0 : agAdd ⟨p0, p1, p2, p3, p4⟩ v = ⟨p0, nadd p1 1, nadd p2 v, if v < p3 then v else p3, if p4 < v then v else p4⟩ := if_neg h1
    rw [e0]
    clear e0
    have q1' : Hid (W.cell? ⟨w.heap.size, 1, none⟩ = some (.int .i64 p1)) := q1
    have q0' : Hid (W.cell? ⟨w.heap.size, 0, none⟩ = some (.int .i64 p0)) := q0
    have N1 := Lib.hid (fun w => nadd_c w p1 1)
    have N2 := Lib.hid (fun w => nadd_c w p2 v)
    obtain ⟨r1, hr1⟩ : ∃ r, r = nadd p1 1 := ⟨_, rfl⟩
    obtain ⟨r2, hr2⟩ : ∃ r, r = nadd p2 v := ⟨_, rfl⟩
    obtain ⟨r3, hr3⟩ : ∃ r, r = (if v < p3 then v else p3) := ⟨_, rfl⟩
    obtain ⟨r4, hr4⟩ : ∃ r, r = (if p4 < v then v else p4) := ⟨_, rfl⟩
    rw [← hr1, ← hr2, ← hr3, ← hr4]
    rw [← hr1] at N1
    rw [← hr2] at N2
    have hr3 := Lib.hid hr3.symm
    have hr4 := Lib.hid hr4.symm
    have hst1 := Lib.hid (store_ag (w := W.drew) HB1.out rfl ⟨p0, r1, r2, r3, r4⟩)
    obtain ⟨W2, hW2⟩ : ∃ W2, W2 = W.drew.setCells (w.heap.size + 1) 0 (Ag.cells ⟨p0, r1, r2, r3, r4⟩) := ⟨_, rfl⟩
    have hcs : Hid (Chg (fun k => k = w.heap.size + 1) W.drew W2) := by rw [hW2]; exact Chg.setCells _ _ _ _
    have hf : Hid (W2.heap[w.heap.size + 1]? = some (.cells (Ag.cells ⟨p0, r1, r2, r3, r4⟩).toArray 58 (0, 0)) ∧ Chg (fun _ => False) w W2) := by
      refine ⟨by rw [hW2]; exact row_ag (w := W.drew) HB1.out _, ?_⟩
      exact CW.out.drew.new hcs.out (fun q hq => by omega)
    have hst0 := hst1.out
    have hv : (Value.agg (Ag.cells ⟨p0, r1, r2, r3, r4⟩).toArray) = .agg #[.int .i64 p0, .int .i64 r1, .int .i64 r2, .int .i64 r3, .int .i64 r4] := rfl
    rw [← hW2, hv] at hst0
    have hst1 := Lib.hid hst0
    clear hW2 hfin2 hst0 hv
    rw [HW.out] at q1
    clear hb0 hb1 hW hW0 hs0 hfin hst q0 hr1 hr2
    show Calls _ _ #[.agg #[.int .i64 p0, .int .i64 p1, .int .i64 p2, .int .i64 p3, .int .i64 p4], .int .i64 v] w _
    go_enter Try.func94, Try.ntmps94
    go_wp2_with fail
    rw [← HW.out]
    clear q1
    refine wpT.begin (fun k => k = w.heap.size + 1) 19 (by kernel_rfl) rfl ?_
    refine wpT.take 0 rfl (by kernel_rfl) (fun _ _ _ h => h) rfl (fun w' hw' => by go_simp <;> with_reducible rfl) ?_
    simp only [Act.put, List.setIfInBounds_toArray, List.set_cons_zero, List.set_cons_succ]
    refine wpT.ld 1 rfl (by kernel_rfl) (fun _ _ _ _ h => h) rfl _ _ rfl (by kernel_rfl) ⟨w.heap.size, 0, none⟩ rfl _ (q0'.out) (by simp) ?_
    simp only [Act.put, List.setIfInBounds_toArray, List.set_cons_zero, List.set_cons_succ]
    refine wpT.take 2 rfl (by kernel_rfl) (fun _ _ _ h => h) rfl (fun w' hw' => by go_simp <;> with_reducible rfl) ?_
    simp only [Act.put, List.setIfInBounds_toArray, List.set_cons_zero, List.set_cons_succ]
    refine wpT.ld 3 rfl (by kernel_rfl) (fun _ _ _ _ h => h) rfl _ _ rfl (by kernel_rfl) ⟨w.heap.size, 1, none⟩ rfl _ (q1'.out) (by simp) ?_
    simp only [Act.put, List.setIfInBounds_toArray, List.set_cons_zero, List.set_cons_succ]
    refine wpT.take 5 rfl (by kernel_rfl) (fun _ _ _ h => h) rfl (fun w' hw' => by go_simp <;> with_reducible rfl) ?_
    simp only [Act.put, List.setIfInBounds_toArray, List.set_cons_zero, List.set_cons_succ]
    refine wpT.ld 6 rfl (by kernel_rfl) (fun _ _ _ _ h => h) rfl _ _ rfl (by kernel_rfl) ⟨w.heap.size, 2, none⟩ rfl _ (q2.out) (by simp) ?_
    simp only [Act.put, List.setIfInBounds_toArray, List.set_cons_zero, List.set_cons_succ]
    refine wpT.take 7 rfl (by kernel_rfl) (fun _ _ _ h => h) rfl (fun w' hw' => by go_simp <;> with_reducible rfl) ?_
    simp only [Act.put, List.setIfInBounds_toArray, List.set_cons_zero, List.set_cons_succ]
    refine wpT.take 9 rfl (by kernel_rfl) (fun _ _ _ h => h) rfl (fun w' hw' => by go_simp <;> with_reducible rfl) ?_
    simp only [Act.put, List.setIfInBounds_toArray, List.set_cons_zero, List.set_cons_succ]
    refine wpT.ld 10 rfl (by kernel_rfl) (fun _ _ _ _ h => h) rfl _ _ rfl (by kernel_rfl) ⟨w.heap.size, 3, none⟩ rfl _ (q3.out) (by simp) ?_
    simp only [Act.put, List.setIfInBounds_toArray, List.set_cons_zero, List.set_cons_succ]
    refine wpT.take 11 rfl (by kernel_rfl) (fun _ _ _ h => h) rfl (fun w' hw' => by go_simp <;> with_reducible rfl) ?_
    simp only [Act.put, List.setIfInBounds_toArray, List.set_cons_zero, List.set_cons_succ]
    refine wpT.take (v := .int .i64 r3) 12 rfl (by kernel_rfl) (fun _ _ _ h => h) rfl (fun w' hw' => exec_min2 _ _ _ rfl _ _ rfl rfl _ hr3.out) ?_
    simp only [Act.put, List.setIfInBounds_toArray, List.set_cons_zero, List.set_cons_succ]
    refine wpT.take 13 rfl (by kernel_rfl) (fun _ _ _ h => h) rfl (fun w' hw' => by go_simp <;> with_reducible rfl) ?_
    simp only [Act.put, List.setIfInBounds_toArray, List.set_cons_zero, List.set_cons_succ]
    refine wpT.ld 14 rfl (by kernel_rfl) (fun _ _ _ _ h => h) rfl _ _ rfl (by kernel_rfl) ⟨w.heap.size, 4, none⟩ rfl _ (q4.out) (by simp) ?_
    simp only [Act.put, List.setIfInBounds_toArray, List.set_cons_zero, List.set_cons_succ]
    refine wpT.take 15 rfl (by kernel_rfl) (fun _ _ _ h => h) rfl (fun w' hw' => by go_simp <;> with_reducible rfl) ?_
    simp only [Act.put, List.setIfInBounds_toArray, List.set_cons_zero, List.set_cons_succ]
    refine wpT.take (v := .int .i64 r4) 16 rfl (by kernel_rfl) (fun _ _ _ h => h) rfl (fun w' hw' => exec_max2 _ _ _ rfl _ _ rfl rfl _ hr4.out) ?_
    simp only [Act.put, List.setIfInBounds_toArray, List.set_cons_zero, List.set_cons_succ]
    refine wpT.call 4 rfl (by kernel_rfl) rfl (fun K hK => ?_)
    go_wp2_with fail
    refine (N1.out _).mono ?_
    rintro e w' ⟨rfl, rfl⟩
    refine hK _ _ (Chg.refl _ _) ?_
    clear hK
    try (simp only [Act.put, List.setIfInBounds_toArray, List.set_cons_zero, List.set_cons_succ])
    refine wpT.call 8 rfl (by kernel_rfl) rfl (fun K hK => ?_)
    go_wp2_with fail
    refine (N2.out _).mono ?_
    rintro e w' ⟨rfl, rfl⟩
    refine hK _ _ (Chg.refl _ _) ?_
    clear hK
    try (simp only [Act.put, List.setIfInBounds_toArray, List.set_cons_zero, List.set_cons_succ])
    refine wpT.take (v := .agg #[.int .i64 p0, .int .i64 r1, .int .i64 r2, .int .i64 r3, .int .i64 r4]) 17 rfl (by kernel_rfl) (fun _ _ _ h => h) rfl (fun w' hw' => by go_simp) ?_
    simp only [Act.put, List.setIfInBounds_toArray, List.set_cons_zero, List.set_cons_succ]
    refine wpT.stR 18 rfl (by kernel_rfl) rfl 58 _ _ rfl (.pointer (some ⟨w.heap.size + 1, 0, none⟩)) (.agg #[.int .i64 p0, .int .i64 r1, .int .i64 r2, .int .i64 r3, .int .i64 r4]) _ rfl rfl (hst1.out) (hcs.out) ?_
    simp only [Act.put, List.setIfInBounds_toArray, List.set_cons_zero, List.set_cons_succ]
    refine wpT.done (by kernel_rfl) ?_
    go_wp2_with fail
    refine bodyPost_ret (v := .agg (Ag.cells ⟨p0, r1, r2, r3, r4⟩).toArray) (results_cell_row (fn := Try.f94) (p := 4) (ty := 58) rfl _ _ (w.heap.size + 1) _ _ (0, 0) _ rfl hf.out.1 Try.underlying58 rfl (by kernel_rfl)) rfl ⟨rfl, hf.out.2⟩
end Go.Proofs.Ytmnnahkaenikkaa
