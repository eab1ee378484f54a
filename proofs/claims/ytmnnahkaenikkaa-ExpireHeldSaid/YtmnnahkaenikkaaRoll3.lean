/- roll.Of of any points, roll.Join. -/
import Derived.Test.YtmnnahkaenikkaaRoll2
import Derived.Test.YtmnnahkaenikkaaZ
namespace Go.Proofs.Ytmnnahkaenikkaa
open Go.RowKit Go.Cat
def aggO : Option Ag → Value
  | none => .tuple #[.agg Ag.zero.cells.toArray, .bool false]
  | some a => .tuple #[.agg a.cells.toArray, .bool true]
def ofW (x : Int) (l : List Pt) : Option Ag := if l = [] then none else some (ofP x l)
def Ags (w : World) (v : Value) (l : List Ag) : Prop := Reads w 5 v l.length (l.flatMap Ag.cells)
def OAgs (w : World) (v : Value) (l : List Ag) : Prop := Owns w 5 v l.length (l.flatMap Ag.cells)
@[simp] theorem Ag.cells_length (a : Ag) : a.cells.length = 5 := rfl
theorem aglen (l : List Ag) : (l.flatMap Ag.cells).length = l.length * 5 := rows_len l (fun _ _ => rfl)
def agV (a : Ag) : Value := .agg #[.int .i64 a.tk, .int .i64 a.cnt, .int .i64 a.sum, .int .i64 a.mn, .int .i64 a.mx]
theorem load_agE (w : World) {l : List Ag} {g o i : Nat} {p : Ag} (hc : ∀ j u, (l.flatMap Ag.cells)[j]? = some u → w.cell? ⟨g, o + j, none⟩ = some u) (hp : l[i]? = some p) :
    (Instr.loadAt 58 (.pointer (some ⟨g, o + i * 5, none⟩))).run Try.prog w = .ok (.agg #[.int .i64 p.tk, .int .i64 p.cnt, .int .i64 p.sum, .int .i64 p.mn, .int .i64 p.mx]) w :=
  run_loadAt_agg w _ _ g (o + i * 5) p.cells Try.underlying58 rfl (by kernel_rfl) fun j u hj => by
    have hlt := (List.getElem?_eq_some_iff.1 hj).1
    rw [Nat.add_assoc]
    exact hc (i * 5 + j) u ((rows_at l (s := 5) (f := Ag.cells) (fun _ _ => rfl) i j p hp hlt).trans hj)
set_option maxRecDepth 100000 in
set_option maxHeartbeats 1000000 in
theorem of_c2 (w : World) (x : Int) (v : Value) (l : List Pt) (h : Pts w v l) (hl : l.length ≤ 1000000) :
    Calls Try.prog 88 #[.int .i64 x, v] w fun e w' => e = .returned (aggO (ofW x l)) ∧ Chg (fun _ => False) w w' := by
  by_cases hne : l = []
  · have e0 : ofW x l = none := if_pos hne
    rw [e0]
    obtain ⟨va, vc, rfl⟩ := h.form
    have i0 : ((l.length : Int) == 0) = true := by rw [hne]; rfl
    obtain ⟨W0, hW0⟩ : ∃ W, W = w.alloc (.cells Ag.zero.cells.toArray 58) := ⟨_, rfl⟩
    have hb0 : AgAt W0 w.heap.size Ag.zero := by rw [hW0]; exact heap_at_new _ _ _ rfl
    have hst0 := hb0.store Ag.zero
    obtain ⟨W1, hW1⟩ : ∃ W1, W1 = W0.setCells w.heap.size 0 (Ag.cells Ag.zero) := ⟨_, rfl⟩
    have HA : Hid (AgAt W1 w.heap.size Ag.zero) := by rw [hW1]; exact hb0.set _
    have C1 : Hid (Chg (fun _ => False) w W1) := by
      rw [hW1, hW0]
      exact ((Chg.refl (fun _ => False) w).alloc _).new (Chg.setCells _ w.heap.size _ _) (fun q hq => by omega)
    have hv : (Value.agg (Ag.cells Ag.zero).toArray) = .agg #[.int .i64 0, .int .i64 0, .int .i64 0, .int .i64 0, .int .i64 0] := rfl
    have hz : Ag.zero.cells.toArray = #[.int .i64 0, .int .i64 0, .int .i64 0, .int .i64 0, .int .i64 0] := rfl
    rw [← hW1, hv, hW0, hz] at hst0
    clear h e0 hne hb0 hW0 hW1 hv hz
    go_enter Try.func88, Try.ntmps88
    go_wp2_with (first | refine wpList_store rfl 58 _ _ rfl _ _ _ rfl rfl hst0 ?_)
    refine bodyPost_ret (v := .tuple #[.agg Ag.zero.cells.toArray, .bool false]) (results_row_tmp2 (fn := Try.f88) (p := 4) (u := 5) (ty := 58) rfl _ _ w.heap.size _ _ (0, 0) _ rfl HA.out Try.underlying58 rfl (size_ag5 _)) rfl ⟨rfl, C1.out⟩
  · have e0 : ofW x l = some (ofP x l) := if_neg hne
    rw [e0]
    exact ofp_c w x v l h hl hne
/-- Two aggregates, taken as one. -/
def agJ (o a : Ag) : Ag := ⟨0, nadd o.cnt a.cnt, nadd o.sum a.sum, if a.mn < o.mn then a.mn else o.mn, if o.mx < a.mx then a.mx else o.mx⟩
def jst (s : Ag × Bool) (a : Ag) : Ag × Bool := if a.cnt < 1 then s else if s.2 = true then (agJ s.1 a, true) else (a, true)
def jall (l : List Ag) : Ag × Bool := l.foldl jst (Ag.zero, false)
def joinA (x : Int) (l : List Ag) : Option Ag := if (jall l).2 = true then some { (jall l).1 with tk := x } else none
theorem AgAt.cell {w : World} {g : Nat} {a : Ag} (h : AgAt w g a) : w.cell? ⟨g, 0, none⟩ = some (.int .i64 a.tk) ∧ w.cell? ⟨g, 1, none⟩ = some (.int .i64 a.cnt) ∧ w.cell? ⟨g, 2, none⟩ = some (.int .i64 a.sum) ∧ w.cell? ⟨g, 3, none⟩ = some (.int .i64 a.mn) ∧ w.cell? ⟨g, 4, none⟩ = some (.int .i64 a.mx) := by
  have h' : w.heap[g]? = some (.cells a.cells.toArray 58 (0, 0)) := h
  refine ⟨?_, ?_, ?_, ?_, ?_⟩ <;> (rw [cell_of_heap h']; rfl)
theorem ag_new (w : World) (a : Ag) : AgAt (w.alloc (.cells #[.int .i64 a.tk, .int .i64 a.cnt, .int .i64 a.sum, .int .i64 a.mn, .int .i64 a.mx] 58)) w.heap.size a := heap_at_new _ _ _ rfl
set_option maxRecDepth 100000 in
set_option maxHeartbeats 2000000 in
theorem join_c (w : World) (x : Int) (v : Value) (l : List Ag) (h : Ags w v l) (hl : l.length ≤ 1000000) :
    Calls Try.prog 89 #[.int .i64 x, v] w fun e w' => e = .returned (aggO (joinA x l)) ∧ Chg (fun _ => False) w w' := by
  obtain ⟨va, vc, rfl⟩ := h.form
  obtain ⟨n, hn⟩ : ∃ n, n = l.length := ⟨_, rfl⟩
  have HN := Lib.hid hn
  have H := Lib.hid h
  rw [← hn] at H hl ⊢
  obtain ⟨W0, hW0⟩ : ∃ W, W = w.alloc (.cells Ag.zero.cells.toArray 58) := ⟨_, rfl⟩
  obtain ⟨W, hW⟩ : ∃ W, W = W0.alloc (.cells Ag.zero.cells.toArray 58) := ⟨_, rfl⟩
  have hs0 : W0.heap.size = w.heap.size + 1 := by rw [hW0]; simp
  have hb1 : AgAt W (w.heap.size + 1) Ag.zero := by rw [hW]; exact heap_at_new _ _ _ hs0.symm
  have hb0 : AgAt W w.heap.size Ag.zero := by
    rw [hW]
    exact Chg.heap ((Chg.refl (fun _ => False) _).alloc _) (by rw [hW0]; exact heap_at_new _ _ _ rfl) (fun h => h)
  have cW : Chg (fun _ => False) w W := by rw [hW, hW0]; exact ((Chg.refl _ w).alloc _).alloc _
  obtain ⟨W1, hW1⟩ : ∃ W1, W1 = W.setCells (w.heap.size + 1) 0 (Ag.cells Ag.zero) := ⟨_, rfl⟩
  have hst0 := hb1.store Ag.zero
  have C1 : Hid (Chg (fun _ => False) w W1) := by rw [hW1]; exact cW.new (Chg.setCells _ (w.heap.size + 1) _ _) (fun q hq => by omega)
  have A1 : Hid (AgAt W1 (w.heap.size + 1) Ag.zero) := by rw [hW1]; exact hb1.set _
  have A0 : Hid (AgAt W1 w.heap.size Ag.zero) := by rw [hW1]; exact hb0.kept (Chg.setCells _ (w.heap.size + 1) _ _) (by omega)
  have hv : (Value.agg (Ag.cells Ag.zero).toArray) = .agg #[.int .i64 0, .int .i64 0, .int .i64 0, .int .i64 0, .int .i64 0] := rfl
  have hz : Ag.zero.cells.toArray = #[.int .i64 0, .int .i64 0, .int .i64 0, .int .i64 0, .int .i64 0] := rfl
  rw [← hW1, hv, hW, hW0, hz] at hst0
  clear h hn hb0 hb1 cW hW hW0 hW1 hv hz hs0
  go_enter Try.func89, Try.ntmps89
  go_wp2_with (first | refine wpList_store rfl 58 _ _ rfl _ _ _ rfl rfl hst0 ?_)
  clear hst0
  go_loopw [7, 13] (fun sv ci wr => ∃ k : Nat, k ≤ n ∧ ci = .int .i64 k ∧ sv = .bool (jall (l.take k)).2 ∧ Hid (AgAt wr (w.heap.size + 1) (jall (l.take k)).1) ∧ Hid (AgAt wr w.heap.size Ag.zero) ∧ Hid (Chg (fun _ => False) w wr)) (fun _ ci _ => n - (intOf ci).toNat)
  case atStart => exact ⟨0, by omega, rfl, rfl, A1.out, A0.out, C1.out⟩
  case round =>
    obtain ⟨k, hk, rfl, rfl, hA, hZ, hC⟩ := hrel
    clear A1 A0 C1
    by_cases hlt : k < n
    · obtain ⟨p, hp⟩ := at_lt (show k < l.length by rw [← HN.out]; exact hlt)
      obtain ⟨g, o, rfl, h1, h2, h3⟩ := reads_some (n := n) (by have := H.out; unfold Ags at this; rw [← HN.out] at this; exact this) (by omega)
      have hld := load_agE wr (fun j u hj => hC.out.cell (h3 j u hj) (fun h => h)) hp
      obtain ⟨Wb, hWb⟩ : ∃ W, W = wr.alloc (.cells #[.int .i64 p.tk, .int .i64 p.cnt, .int .i64 p.sum, .int .i64 p.mn, .int .i64 p.mx] 58) := ⟨_, rfl⟩
      have cb : Chg (fun _ => False) wr Wb := by rw [hWb]; exact (Chg.refl _ wr).alloc _
      have hP : AgAt Wb wr.heap.size p := by rw [hWb]; exact ag_new wr p
      obtain ⟨s, hs⟩ : ∃ s, s = jall (l.take k) := ⟨_, rfl⟩
      rw [← hs] at hA ⊢
      have hna : jall (l.take (k + 1)) = jst s p := by rw [hs, List.take_add_one, hp]; unfold jall; rw [List.foldl_append]; rfl
      have hAb : AgAt Wb (w.heap.size + 1) s.1 := hA.out.kept cb (fun h => h)
      have hZb : AgAt Wb w.heap.size Ag.zero := hZ.out.kept cb (fun h => h)
      have C2 : Hid (Chg (fun _ => False) w Wb) := hC.out.trans cb
      obtain ⟨qa0, qa1, qa2, qa3, qa4⟩ := hP.cell
      have Q1 := Lib.hid qa1
      have Q2 := Lib.hid qa2
      have Q3 := Lib.hid qa3
      have Q4 := Lib.hid qa4
      have HWB := Lib.hid hWb
      have HNA := Lib.hid hna
      have HP := Lib.hid hP
      have LT := Lib.hid hA.out.lt
      have HA := Lib.hid hAb
      have HZ := Lib.hid hZb
      obtain ⟨o1, b⟩ := s
      rw [hWb] at qa1
      clear hWb cb hs hna hAb hZb h1 h2 h3 hp hA hZ hC qa0 qa2 qa3 qa4 hP
      by_cases h0 : p.cnt < 1
      · have e1 : jst (o1, b) p = (o1, b) := if_pos h0
        have E1 : Hid (jall (l.take (k + 1)) = (o1, b)) := HNA.out.trans e1
        clear e1
        go_wp2_with (first | refine wpList_load rfl 58 _ rfl _ _ rfl hld ?_)
        rw [← HWB.out]
        refine ⟨⟨k + 1, by omega, rfl, by rw [E1.out], by rw [E1.out]; exact HA.out, HZ.out, C2.out⟩, by simp only [intOf]; omega⟩
      · cases b with
        | false =>
          have e1 : jst (o1, false) p = (p, true) := by unfold jst; rw [if_neg h0]; rfl
          have E1 : Hid (jall (l.take (k + 1)) = (p, true)) := HNA.out.trans e1
          have hl9 := HP.out.load
          have hst := HA.out.store p
          have pv : (Value.agg p.cells.toArray) = .agg #[.int .i64 p.tk, .int .i64 p.cnt, .int .i64 p.sum, .int .i64 p.mn, .int .i64 p.mx] := rfl
          have hA3 : Hid (AgAt (Wb.setCells (w.heap.size + 1) 0 p.cells) (w.heap.size + 1) p) := HA.out.set _
          have hZ3 : Hid (AgAt (Wb.setCells (w.heap.size + 1) 0 p.cells) w.heap.size Ag.zero) := HZ.out.kept (Chg.setCells _ (w.heap.size + 1) _ _) (by omega)
          have C3 : Hid (Chg (fun _ => False) w (Wb.setCells (w.heap.size + 1) 0 p.cells)) := C2.out.new (Chg.setCells _ (w.heap.size + 1) _ _) (fun q hq => by omega)
          obtain ⟨W3, hW3⟩ : ∃ W, W = Wb.setCells (w.heap.size + 1) 0 p.cells := ⟨_, rfl⟩
          rw [← hW3] at hst hA3 hZ3 C3
          rw [pv] at hst hl9
          rw [HWB.out] at hst hl9
          clear e1 pv hW3
          go_wp2_with (first | refine wpList_load rfl 58 _ rfl _ _ rfl hld ?_ | refine wpList_load rfl 58 _ rfl _ _ rfl hl9 ?_ | refine wpList_store rfl 58 _ _ rfl _ _ _ rfl rfl hst ?_)
          refine ⟨⟨k + 1, by omega, rfl, by rw [E1.out], by rw [E1.out]; exact hA3.out, hZ3.out, C3.out⟩, by simp only [intOf]; omega⟩
        | true =>
          have e1 : jst (o1, true) p = (agJ o1 p, true) := by unfold jst; rw [if_neg h0, if_pos rfl]
          have E1 : Hid (jall (l.take (k + 1)) = (agJ o1 p, true)) := HNA.out.trans e1
          have N1 := Lib.hid (fun w => nadd_c w o1.cnt p.cnt)
          have N2 := Lib.hid (fun w => nadd_c w o1.sum p.sum)
          obtain ⟨r1, hr1⟩ : ∃ r, r = nadd o1.cnt p.cnt := ⟨_, rfl⟩
          obtain ⟨r2, hr2⟩ : ∃ r, r = nadd o1.sum p.sum := ⟨_, rfl⟩
          obtain ⟨r3, hr3⟩ : ∃ r, r = (if p.mn < o1.mn then p.mn else o1.mn) := ⟨_, rfl⟩
          obtain ⟨r4, hr4⟩ : ∃ r, r = (if o1.mx < p.mx then p.mx else o1.mx) := ⟨_, rfl⟩
          have hj : agJ o1 p = ⟨0, r1, r2, r3, r4⟩ := by rw [hr1, hr2, hr3, hr4]; rfl
          rw [← hr1] at N1
          rw [← hr2] at N2
          have hr3 := Lib.hid hr3.symm
          have hr4 := Lib.hid hr4.symm
          rw [hj] at E1
          obtain ⟨qo0, qo1, qo2, qo3, qo4⟩ := HA.out.cell
          have O1 := Lib.hid qo1
          have O2 := Lib.hid qo2
          have O3 := Lib.hid qo3
          have O4 := Lib.hid qo4
          have hAd : AgAt Wb.drew (w.heap.size + 1) o1 := HA.out
          have hst := hAd.store ⟨0, r1, r2, r3, r4⟩
          have hcs : Hid (Chg (fun k => k = w.heap.size + 1) Wb.drew (Wb.drew.setCells (w.heap.size + 1) 0 (Ag.cells ⟨0, r1, r2, r3, r4⟩))) := Chg.setCells _ _ _ _
          have hA3 : Hid (AgAt (Wb.drew.setCells (w.heap.size + 1) 0 (Ag.cells ⟨0, r1, r2, r3, r4⟩)) (w.heap.size + 1) ⟨0, r1, r2, r3, r4⟩) := hAd.set _
          have hZd : AgAt Wb.drew w.heap.size Ag.zero := HZ.out
          have hZ3 : Hid (AgAt (Wb.drew.setCells (w.heap.size + 1) 0 (Ag.cells ⟨0, r1, r2, r3, r4⟩)) w.heap.size Ag.zero) := hZd.kept hcs.out (by omega)
          have C3 : Hid (Chg (fun _ => False) w (Wb.drew.setCells (w.heap.size + 1) 0 (Ag.cells ⟨0, r1, r2, r3, r4⟩))) := C2.out.drew.new hcs.out (fun q hq => by omega)
          obtain ⟨W3, hW3⟩ : ∃ W, W = Wb.drew.setCells (w.heap.size + 1) 0 (Ag.cells ⟨0, r1, r2, r3, r4⟩) := ⟨_, rfl⟩
          have hv : (Value.agg (Ag.cells ⟨0, r1, r2, r3, r4⟩).toArray) = .agg #[.int .i64 0, .int .i64 r1, .int .i64 r2, .int .i64 r3, .int .i64 r4] := rfl
          rw [← hW3] at hst hA3 hZ3 C3 hcs
          rw [hv] at hst
          have hst1 := Lib.hid hst
          clear hst hv hW3 hj hr1 hr2 e1 qo0 qo1 qo2 qo3 qo4 hAd hZd
          go_wp2_with (first | refine wpList_load rfl 58 _ rfl _ _ rfl hld ?_)
          rw [← HWB.out]
          clear qa1 hld
          refine wpZ.begin 21 (fun _ => False) 22 (by kernel_rfl) rfl ?_
          refine wpZ.take 0 rfl (by kernel_rfl) (fun _ _ _ h => h) rfl (fun w' hw' => by go_simp <;> with_reducible rfl) ?_
          simp only [Act.put, List.setIfInBounds_toArray, List.set_cons_zero, List.set_cons_succ]
          refine wpZ.ld 1 rfl (by kernel_rfl) (fun _ _ _ _ h => h) rfl _ _ rfl (by kernel_rfl) ⟨w.heap.size + 1, 1, none⟩ rfl _ (O1.out) (fun h => h) ?_
          simp only [Act.put, List.setIfInBounds_toArray, List.set_cons_zero, List.set_cons_succ]
          refine wpZ.take 2 rfl (by kernel_rfl) (fun _ _ _ h => h) rfl (fun w' hw' => by go_simp <;> with_reducible rfl) ?_
          simp only [Act.put, List.setIfInBounds_toArray, List.set_cons_zero, List.set_cons_succ]
          refine wpZ.ld 3 rfl (by kernel_rfl) (fun _ _ _ _ h => h) rfl _ _ rfl (by kernel_rfl) ⟨wr.heap.size, 1, none⟩ rfl _ (Q1.out) (fun h => h) ?_
          simp only [Act.put, List.setIfInBounds_toArray, List.set_cons_zero, List.set_cons_succ]
          refine wpZ.take 5 rfl (by kernel_rfl) (fun _ _ _ h => h) rfl (fun w' hw' => by go_simp <;> with_reducible rfl) ?_
          simp only [Act.put, List.setIfInBounds_toArray, List.set_cons_zero, List.set_cons_succ]
          refine wpZ.ld 6 rfl (by kernel_rfl) (fun _ _ _ _ h => h) rfl _ _ rfl (by kernel_rfl) ⟨w.heap.size + 1, 2, none⟩ rfl _ (O2.out) (fun h => h) ?_
          simp only [Act.put, List.setIfInBounds_toArray, List.set_cons_zero, List.set_cons_succ]
          refine wpZ.take 7 rfl (by kernel_rfl) (fun _ _ _ h => h) rfl (fun w' hw' => by go_simp <;> with_reducible rfl) ?_
          simp only [Act.put, List.setIfInBounds_toArray, List.set_cons_zero, List.set_cons_succ]
          refine wpZ.ld 8 rfl (by kernel_rfl) (fun _ _ _ _ h => h) rfl _ _ rfl (by kernel_rfl) ⟨wr.heap.size, 2, none⟩ rfl _ (Q2.out) (fun h => h) ?_
          simp only [Act.put, List.setIfInBounds_toArray, List.set_cons_zero, List.set_cons_succ]
          refine wpZ.take 10 rfl (by kernel_rfl) (fun _ _ _ h => h) rfl (fun w' hw' => by go_simp <;> with_reducible rfl) ?_
          simp only [Act.put, List.setIfInBounds_toArray, List.set_cons_zero, List.set_cons_succ]
          refine wpZ.ld 11 rfl (by kernel_rfl) (fun _ _ _ _ h => h) rfl _ _ rfl (by kernel_rfl) ⟨w.heap.size + 1, 3, none⟩ rfl _ (O3.out) (fun h => h) ?_
          simp only [Act.put, List.setIfInBounds_toArray, List.set_cons_zero, List.set_cons_succ]
          refine wpZ.take 12 rfl (by kernel_rfl) (fun _ _ _ h => h) rfl (fun w' hw' => by go_simp <;> with_reducible rfl) ?_
          simp only [Act.put, List.setIfInBounds_toArray, List.set_cons_zero, List.set_cons_succ]
          refine wpZ.ld 13 rfl (by kernel_rfl) (fun _ _ _ _ h => h) rfl _ _ rfl (by kernel_rfl) ⟨wr.heap.size, 3, none⟩ rfl _ (Q3.out) (fun h => h) ?_
          simp only [Act.put, List.setIfInBounds_toArray, List.set_cons_zero, List.set_cons_succ]
          refine wpZ.take (v := .int .i64 r3) 14 rfl (by kernel_rfl) (fun _ _ _ h => h) rfl (fun w' hw' => exec_min2 _ _ _ rfl _ _ rfl rfl _ hr3.out) ?_
          simp only [Act.put, List.setIfInBounds_toArray, List.set_cons_zero, List.set_cons_succ]
          refine wpZ.take 15 rfl (by kernel_rfl) (fun _ _ _ h => h) rfl (fun w' hw' => by go_simp <;> with_reducible rfl) ?_
          simp only [Act.put, List.setIfInBounds_toArray, List.set_cons_zero, List.set_cons_succ]
          refine wpZ.ld 16 rfl (by kernel_rfl) (fun _ _ _ _ h => h) rfl _ _ rfl (by kernel_rfl) ⟨w.heap.size + 1, 4, none⟩ rfl _ (O4.out) (fun h => h) ?_
          simp only [Act.put, List.setIfInBounds_toArray, List.set_cons_zero, List.set_cons_succ]
          refine wpZ.take 17 rfl (by kernel_rfl) (fun _ _ _ h => h) rfl (fun w' hw' => by go_simp <;> with_reducible rfl) ?_
          simp only [Act.put, List.setIfInBounds_toArray, List.set_cons_zero, List.set_cons_succ]
          refine wpZ.ld 18 rfl (by kernel_rfl) (fun _ _ _ _ h => h) rfl _ _ rfl (by kernel_rfl) ⟨wr.heap.size, 4, none⟩ rfl _ (Q4.out) (fun h => h) ?_
          simp only [Act.put, List.setIfInBounds_toArray, List.set_cons_zero, List.set_cons_succ]
          refine wpZ.take (v := .int .i64 r4) 19 rfl (by kernel_rfl) (fun _ _ _ h => h) rfl (fun w' hw' => exec_max2 _ _ _ rfl _ _ rfl rfl _ hr4.out) ?_
          simp only [Act.put, List.setIfInBounds_toArray, List.set_cons_zero, List.set_cons_succ]
          refine wpZ.call 4 rfl (by kernel_rfl) rfl (fun K hK => ?_)
          go_wp2_with fail
          refine (N1.out _).mono ?_
          rintro e w' ⟨rfl, rfl⟩
          refine hK _ _ (Chg.refl _ _) ?_
          clear hK
          try (simp only [Act.put, List.setIfInBounds_toArray, List.set_cons_zero, List.set_cons_succ])
          refine wpZ.call 9 rfl (by kernel_rfl) rfl (fun K hK => ?_)
          go_wp2_with fail
          refine (N2.out _).mono ?_
          rintro e w' ⟨rfl, rfl⟩
          refine hK _ _ (Chg.refl _ _) ?_
          clear hK
          try (simp only [Act.put, List.setIfInBounds_toArray, List.set_cons_zero, List.set_cons_succ])
          refine wpZ.take (v := .agg #[.int .i64 0, .int .i64 r1, .int .i64 r2, .int .i64 r3, .int .i64 r4]) 20 rfl (by kernel_rfl) (fun _ _ _ h => h) rfl (fun w' hw' => by go_simp) ?_
          simp only [Act.put, List.setIfInBounds_toArray, List.set_cons_zero, List.set_cons_succ]
          refine wpZ.lastR rfl (by kernel_rfl) (by kernel_rfl) rfl 58 _ _ rfl (.pointer (some ⟨w.heap.size + 1, 0, none⟩)) (.agg #[.int .i64 0, .int .i64 r1, .int .i64 r2, .int .i64 r3, .int .i64 r4]) _ rfl rfl (hst1.out) ?_
          simp only [Act.put, List.setIfInBounds_toArray, List.set_cons_zero, List.set_cons_succ]
          go_wp2_with fail
          refine ⟨⟨k + 1, by omega, rfl, by rw [E1.out], by rw [E1.out]; exact hA3.out, hZ3.out, C3.out⟩, by simp only [intOf]; omega⟩
    · obtain rfl : k = n := by omega
      have et : l.take k = l := by rw [HN.out, List.take_length]
      have hA : AgAt wr (w.heap.size + 1) (jall l).1 := by have := hA.out; rw [et] at this; exact this
      have hj : joinA x l = if (jall l).2 = true then some { (jall l).1 with tk := x } else none := rfl
      rw [et]
      obtain ⟨s, hs⟩ : ∃ s, s = jall l := ⟨_, rfl⟩
      rw [← hs] at hA hj ⊢
      obtain ⟨o1, b⟩ := s
      have HJ := Lib.hid hj
      clear et hj hs
      cases b with
      | false =>
        have hst := hZ.out.store Ag.zero
        have hH : Hid (AgAt (wr.setCells w.heap.size 0 Ag.zero.cells) w.heap.size Ag.zero) := hZ.out.set _
        have C3 : Hid (Chg (fun _ => False) w (wr.setCells w.heap.size 0 Ag.zero.cells)) := hC.out.new (Chg.setCells _ w.heap.size _ _) (fun q hq => by omega)
        have hv : (Value.agg (Ag.cells Ag.zero).toArray) = .agg #[.int .i64 0, .int .i64 0, .int .i64 0, .int .i64 0, .int .i64 0] := rfl
        obtain ⟨W3, hW3⟩ : ∃ W, W = wr.setCells w.heap.size 0 Ag.zero.cells := ⟨_, rfl⟩
        rw [← hW3] at hst hH C3
        rw [hv] at hst
        clear hA hv hW3
        go_wp2_with (first | refine wpList_store rfl 58 _ _ rfl _ _ _ rfl rfl hst ?_)
        refine bodyPost_ret (v := .tuple #[.agg Ag.zero.cells.toArray, .bool false]) (results_row_tmp2 (fn := Try.f89) (p := 4) (u := 5) (ty := 58) rfl _ _ w.heap.size _ _ (0, 0) _ rfl hH.out Try.underlying58 rfl (size_ag5 _)) rfl ⟨by rw [HJ.out]; rfl, C3.out⟩
      | true =>
        obtain ⟨qo0, -⟩ := hA.cell
        have hA' : wr.heap[w.heap.size + 1]? = some (.cells o1.cells.toArray 58 (0, 0)) := hA
        have fR := frozen_of_heap hA' 0
        obtain ⟨W3, hW3⟩ : ∃ W, W = wr.setCell ⟨w.heap.size + 1, 0, none⟩ (.int .i64 x) := ⟨_, rfl⟩
        have c3 : Chg (fun k => k = w.heap.size + 1) wr W3 := by rw [hW3]; exact (Chg.refl (fun k => k = w.heap.size + 1) wr).setCell (p := ⟨w.heap.size + 1, 0, none⟩) (fun _ => rfl) _
        have hA3 : AgAt W3 (w.heap.size + 1) { o1 with tk := x } := by rw [hW3]; exact Cat.heap_setCell_same hA' 0 _
        have hl9 := hA3.load
        have hZ3 : AgAt W3 w.heap.size Ag.zero := hZ.out.kept c3 (by omega)
        have hst := hZ3.store { o1 with tk := x }
        have hH : Hid (AgAt (W3.setCells w.heap.size 0 (Ag.cells { o1 with tk := x })) w.heap.size { o1 with tk := x }) := hZ3.set _
        have C3 : Hid (Chg (fun _ => False) w (W3.setCells w.heap.size 0 (Ag.cells { o1 with tk := x }))) := (hC.out.new c3 (fun q hq => by omega)).new (Chg.setCells _ w.heap.size _ _) (fun q hq => by omega)
        have hv : (Value.agg (Ag.cells { o1 with tk := x }).toArray) = .agg #[.int .i64 x, .int .i64 o1.cnt, .int .i64 o1.sum, .int .i64 o1.mn, .int .i64 o1.mx] := rfl
        obtain ⟨W4, hW4⟩ : ∃ W, W = W3.setCells w.heap.size 0 (Ag.cells { o1 with tk := x }) := ⟨_, rfl⟩
        rw [← hW4] at hst hH C3
        rw [hv] at hst hl9
        rw [hW3] at hst hl9
        clear hv hW4 hA hA' hA3 hZ3 c3 hW3
        go_wp2_with (first | refine wpList_load rfl 58 _ rfl _ _ rfl hl9 ?_ | refine wpList_store rfl 58 _ _ rfl _ _ _ rfl rfl hst ?_)
        refine bodyPost_ret (v := .tuple #[.agg (Ag.cells { o1 with tk := x }).toArray, .bool true]) (results_row_tmp2 (fn := Try.f89) (p := 4) (u := 5) (ty := 58) rfl _ _ w.heap.size _ _ (0, 0) _ rfl hH.out Try.underlying58 rfl (size_ag5 _)) rfl ⟨by rw [HJ.out]; rfl, C3.out⟩
end Go.Proofs.Ytmnnahkaenikkaa
