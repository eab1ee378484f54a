/- Contracts of package hold: Add. -/
import Derived.Test.YtmnnahkaenikkaaHold2
namespace Go.Proofs.Ytmnnahkaenikkaa
open Go.RowKit Go.Cat

def addCode (D : HD) (h : Hld) : Int :=
  if nameRight h.name = false ∨ (h.series ≠ [] ∧ nameRight h.series = false) then 15 else if ¬ h.right then 3 else if Maps.has D (.string h.name) = true then 8 else if 16 ≤ Maps.size D then 6 else 0
def addTab (D : HD) (h : Hld) : HD := if addCode D h = 0 then D.put (.string h.name) (encH h) else D
theorem addTab_no {D : HD} {h : Hld} (e : addCode D h ≠ 0) : addTab D h = D := if_neg e
theorem addTab_yes {D : HD} {h : Hld} (e : addCode D h = 0) : addTab D h = D.put (.string h.name) (encH h) := if_pos e
section
variable {D : HD} {nm sr : List UInt8} {lo hi : Int}
theorem addCode_15 (h : nameRight nm = false ∨ (sr ≠ [] ∧ nameRight sr = false)) : addCode D ⟨nm, sr, lo, hi⟩ = 15 := if_pos h
theorem addCode_3 (h : ¬ (nameRight nm = false ∨ (sr ≠ [] ∧ nameRight sr = false))) (h2 : ¬ (0 ≤ lo ∧ lo < hi ∧ hi ≤ 1099511627777)) : addCode D ⟨nm, sr, lo, hi⟩ = 3 := (if_neg h).trans (if_pos h2)
theorem addCode_8 (h : ¬ (nameRight nm = false ∨ (sr ≠ [] ∧ nameRight sr = false))) (h2 : 0 ≤ lo ∧ lo < hi ∧ hi ≤ 1099511627777) (h3 : Maps.has D (.string nm) = true) : addCode D ⟨nm, sr, lo, hi⟩ = 8 := (if_neg h).trans ((if_neg (not_not_intro h2)).trans (if_pos h3))
theorem addCode_6 (h : ¬ (nameRight nm = false ∨ (sr ≠ [] ∧ nameRight sr = false))) (h2 : 0 ≤ lo ∧ lo < hi ∧ hi ≤ 1099511627777) (h3 : Maps.has D (.string nm) = false) (h4 : 16 ≤ Maps.size D) : addCode D ⟨nm, sr, lo, hi⟩ = 6 := (if_neg h).trans ((if_neg (not_not_intro h2)).trans ((if_neg (by simp [h3])).trans (if_pos h4)))
theorem addCode_0 (h : ¬ (nameRight nm = false ∨ (sr ≠ [] ∧ nameRight sr = false))) (h2 : 0 ≤ lo ∧ lo < hi ∧ hi ≤ 1099511627777) (h3 : Maps.has D (.string nm) = false) (h4 : ¬ 16 ≤ Maps.size D) : addCode D ⟨nm, sr, lo, hi⟩ = 0 := (if_neg h).trans ((if_neg (not_not_intro h2)).trans ((if_neg (by simp [h3])).trans (if_neg h4)))
end
theorem exec_lookup {P : Program} {o : Oper} {a : Act} {w : World} (t : TypeId) (m x : Operand) (ok : Bool) (mv key v : Value) (ho : o.op = .lookup t m x ok) (hm : a.eval m = mv) (hx : a.eval x = key) (h : (Instr.lookup t mv key ok).run P w = .ok v w) : (execOp a.eval o).run P w = .ok (.value v) w := by
  unfold execOp
  simp only [ho, hm, hx, Sem.run_bind, Sem.run_pure, h, Result.andThen_ok]
theorem exec_update {P : Program} {o : Oper} {a : Act} {w : World} (t : TypeId) (m x y : Operand) (mv key val : Value) (w' : World) (ho : o.op = .mapUpdate t m x y) (hm : a.eval m = mv) (hx : a.eval x = key) (hy : a.eval y = val) (h : (Instr.mapUpdate t mv key val).run P w = .ok () w') : (execOp a.eval o).run P w = .ok .skip w' := by
  unfold execOp
  simp only [ho, hm, hx, hy, Sem.run_bind, Sem.run_pure, h, Result.andThen_ok]
theorem wp_alloc4 {P : Program} {o : Oper} {a : Act} {w : World} {K : Act → World → Prop} {Q : Exit → Act → World → Prop} (t : TypeId) (ho : o.op = .alloc t) (z : Value) (n : Nat) (h : (P.info? t).map (fun i => (i.zero, i.size)) = some (some z, n)) (wa : World) (b : Nat) (hb : b = w.heap.size) (hwa : wa = w.alloc (.cells z.cells t))
    (hk : K (a.put o.dst (.pointer (some ⟨b, 0, none⟩))) wa) : o.wp P a w K Q := by
  subst hb hwa
  unfold Oper.wp execOp
  simp only [ho, Sem.run_bind, Sem.run_pure, run_alloc_agg w t z n h, Result.andThen_ok]
  exact hk
theorem load_hold (w : World) (g : Nat) (h : Hld) (T : TypeId) (hg : w.heap[g]? = some (.cells h.cells.toArray T (0, 0))) :
    (Instr.loadAt 47 (.pointer (some ⟨g, 0, none⟩))).run Try.prog w = .ok (.agg h.cells.toArray) w := by
  refine run_loadAt_agg (P := Try.prog) w 47 _ g 0 h.cells Try.underlying47 rfl (by kernel_rfl) (fun j u hj => ?_)
  rw [cell_of_heap hg, Nat.zero_add]
  simpa using hj
theorem load_strh (w : World) (p : Addr) (x : ByteArray) (h : w.cell? p = some (.string x)) (hp : p.spot = none := by rfl) : (Instr.loadAt 9 (.pointer (some p))).run Try.prog w = .ok (.string x) w := by
  obtain ⟨b, o, s⟩ := p
  simp only at hp; subst hp
  go_simp
theorem load_map (w : World) (p : Addr) (x : Option Nat) (h : w.cell? p = some (.map x)) (hp : p.spot = none := by rfl) : (Instr.loadAt 77 (.pointer (some p))).run Try.prog w = .ok (.map x) w := by
  obtain ⟨b, o, s⟩ := p
  simp only at hp; subst hp
  go_simp
theorem store_hold (w : World) (g : Nat) (h : Hld) (c : Array Value) (T : TypeId) (hg : w.heap[g]? = some (.cells c T (0, 0))) (hc : c.size = 4) :
    (Instr.storeAt 47 (.pointer (some ⟨g, 0, none⟩)) (.agg h.cells.toArray)).run Try.prog w = .ok () (w.setCells g 0 h.cells) := by
  refine run_storeAt_agg (P := Try.prog) w 47 g 0 h.cells (by kernel_rfl) (fun j hj => ?_) (fun j _ => frozen_of_heap hg _) (fun v hv => ?_)
  · rw [cell_of_heap hg, Array.getElem?_eq_getElem (by simp at hj; omega)]; rfl
  · obtain ⟨a, b, x, y⟩ := h
    simp [Hld.cells] at hv
    rcases hv with rfl | rfl | rfl | rfl <;> rfl

set_option maxRecDepth 100000 in
set_option maxHeartbeats 2000000 in
theorem add_any (w : World) (Sb : Nat → Prop) (b : Nat) (D : HD) (n : Nat) (h : Hld) (ht : TabAt w Sb b D n) (hn : n < 1000000) (hnm : h.name.length ≤ maxLen) :
    Calls Try.prog 16 #[.pointer (some ⟨b, 0, none⟩), .agg h.cells.toArray] w fun e w' => e = .returned (.int .i64 (addCode D h)) ∧ TabAt w' Sb b (addTab D h) (n + 1) ∧ Chg Sb w w' := by
  have HT := Lib.hid ht
  obtain ⟨m, T, hb, hown, hSB, hSM⟩ := ht
  have hbm : ¬ b = m := fun e => by
    obtain ⟨es, cl, hm, _⟩ := hown
    rw [← e, hb] at hm; cases hm
  have hwm : ¬ w.heap.size = m := fun e => by have := hown.lt; omega
  obtain ⟨nm, sr, lo, hi⟩ := h
  simp only at hnm
  show Calls Try.prog 16 #[.pointer (some ⟨b, 0, none⟩), .agg #[.string ⟨nm.toArray⟩, .string ⟨sr.toArray⟩, .int .i64 lo, .int .i64 hi]] w _
  obtain ⟨w1, hw1⟩ : ∃ w1, w1 = w.alloc (.cells #[.string ⟨nm.toArray⟩, .string ⟨sr.toArray⟩, .int .i64 lo, .int .i64 hi] 47) := ⟨_, rfl⟩
  have c1 : Chg (fun _ => False) w w1 := by rw [hw1]; exact (Chg.refl _ w).alloc _
  have hh1 : w1.heap[w.heap.size]? = some (.cells (Hld.cells ⟨nm, sr, lo, hi⟩).toArray 47 (0, 0)) := by rw [hw1]; exact heap_at_new _ _ _ rfl
  have hb1 := c1.heap hb (fun h => h)
  have hown1 := owns_kept hown c1 (fun h => h)
  have HB1 := Lib.hid hb1
  have HO1 := Lib.hid hown1
  have HH1 := Lib.hid hh1
  have HW1 := Lib.hid hw1
  clear hb hown hb1 hown1 hh1 hw1
  go_enter Try.func16, Try.ntmps16
  go_wp2_with fail
  rw [← HW1.out]
  go_cut [6] from 9 to 18 (fun s wx => s = .bool (Maps.has D (.string nm)) ∧ Hid (Chg (fun _ => False) w1 wx))
  case first =>
    have hLm : Hid (∀ w', Chg (fun k => w1.heap.size ≤ k) w1.drew w' → (Instr.loadAt 77 (.pointer (some ⟨b, 0, none⟩))).run Try.prog w' = .ok (.map (some m)) w') := fun w' c => load_map w' _ _ ((Chg.cell (p := ⟨b, 0, none⟩) (((Chg.refl (fun k => w1.heap.size ≤ k) w1).drew).trans c)) (by rw [cell_of_heap HB1.out]; rfl) (fun h => by have := (Array.getElem?_eq_some_iff.1 HB1.out).1; simp only at h; omega))
    have hLn : Hid (∀ w', Chg (fun k => w1.heap.size ≤ k) w1.drew w' → (Instr.loadAt 9 (.pointer (some ⟨w.heap.size, 0, none⟩))).run Try.prog w' = .ok (.string ⟨nm.toArray⟩) w') := fun w' c => load_strh w' _ _ ((Chg.cell (p := ⟨w.heap.size, 0, none⟩) (((Chg.refl (fun k => w1.heap.size ≤ k) w1).drew).trans c)) (by rw [cell_of_heap HH1.out]; rfl) (fun h => by have := (Array.getElem?_eq_some_iff.1 HH1.out).1; simp only at h; omega))
    refine wpT.begin (fun k => w1.heap.size ≤ k) 13 (by kernel_rfl) rfl ?_
    refine wpT.take 0 rfl (by kernel_rfl) (fun _ _ _ h => h) rfl (fun w' hw' => by go_simp <;> with_reducible rfl) ?_
    simp only [Act.put, List.setIfInBounds_toArray, List.set_cons_zero, List.set_cons_succ]
    refine wpT.take 1 rfl (by kernel_rfl) (fun _ _ _ h => h) rfl (fun w' hw' => by go_simp <;> with_reducible rfl) ?_
    simp only [Act.put, List.setIfInBounds_toArray, List.set_cons_zero, List.set_cons_succ]
    refine wpT.take 2 rfl (by kernel_rfl) (fun _ _ _ h => h) rfl (fun w' hw' => by go_simp <;> with_reducible rfl) ?_
    simp only [Act.put, List.setIfInBounds_toArray, List.set_cons_zero, List.set_cons_succ]
    refine wpT.take 3 rfl (by kernel_rfl) (fun _ _ _ h => h) rfl (fun w' hw' => by exact exec_load _ _ _ _ rfl rfl (hLm.out w' hw')) ?_
    simp only [Act.put, List.setIfInBounds_toArray, List.set_cons_zero, List.set_cons_succ]
    refine wpT.take 4 rfl (by kernel_rfl) (fun _ _ _ h => h) rfl (fun w' hw' => by go_simp <;> with_reducible rfl) ?_
    simp only [Act.put, List.setIfInBounds_toArray, List.set_cons_zero, List.set_cons_succ]
    refine wpT.take 5 rfl (by kernel_rfl) (fun _ _ _ h => h) rfl (fun w' hw' => by exact exec_load _ _ _ _ rfl rfl (hLn.out w' hw')) ?_
    simp only [Act.put, List.setIfInBounds_toArray, List.set_cons_zero, List.set_cons_succ]
    refine wpT.both 6 10 rfl rfl (by kernel_rfl) rfl rfl (fun K hK => ?_) (fun K hK => ?_)
    · obtain ⟨x, hx⟩ := look_hold (w1.drew) m n D nm hnm (owns_kept HO1.out ((Chg.refl (fun _ => False) w1).drew) (fun h => h))
      refine wp_run _ _ (exec_lookup _ _ _ _ _ _ _ rfl rfl rfl hx) ?_
      refine hK _ _ (Chg.refl _ _) ?_
      clear hK
      simp only [Act.put, List.setIfInBounds_toArray, List.set_cons_zero, List.set_cons_succ]
      refine wpT.take 7 rfl (by kernel_rfl) (fun _ _ _ h => h) rfl (fun w' hw' => by go_simp <;> with_reducible rfl) ?_
      simp only [Act.put, List.setIfInBounds_toArray, List.set_cons_zero, List.set_cons_succ]
      refine wpT.take 8 rfl (by kernel_rfl) (fun _ _ _ h => h) rfl (fun w' hw' => by go_simp <;> with_reducible rfl) ?_
      simp only [Act.put, List.setIfInBounds_toArray, List.set_cons_zero, List.set_cons_succ]
      refine wpT.take 9 rfl (by kernel_rfl) (fun _ _ _ h => h) rfl (fun w' hw' => by go_simp <;> with_reducible rfl) ?_
      simp only [Act.put, List.setIfInBounds_toArray, List.set_cons_zero, List.set_cons_succ]
      refine wpT.call 10 rfl (by kernel_rfl) rfl (fun K hK => ?_)
      obtain ⟨wa, hwa⟩ : ∃ wa, wa = (w1.drew).alloc (.cells #[.string ⟨#[]⟩, .string ⟨#[]⟩, .int .i64 0, .int .i64 0] 47) := ⟨_, rfl⟩
      have hA : wa.heap[w1.heap.size]? = some (.cells #[.string ⟨#[]⟩, .string ⟨#[]⟩, .int .i64 0, .int .i64 0] 47 (0, 0)) := by rw [hwa]; exact heap_at_new _ _ _ rfl
      have cA : Chg (fun _ => False) w1 wa := by rw [hwa]; exact (Chg.refl _ w1).drew.alloc _
      refine wp_alloc4 47 rfl (.agg #[.string ⟨#[]⟩, .string ⟨#[]⟩, .int .i64 0, .int .i64 0]) 4 (by kernel_rfl) wa w1.heap.size rfl hwa ?_
      refine hK _ _ (by rw [hwa]; exact (Chg.refl _ _).alloc _) ?_
      clear hwa hK
      simp only [Act.put, List.setIfInBounds_toArray, List.set_cons_zero, List.set_cons_succ]
      refine wpT.call 11 rfl (by kernel_rfl) rfl (fun K hK => ?_)
      refine wp_skipped _ (exec_store _ _ _ _ _ _ rfl rfl rfl (store_hold wa w1.heap.size x _ _ hA rfl)) ?_
      have cS := Chg.setCells wa w1.heap.size 0 x.cells
      refine hK _ _ (cS.mono (fun k _ h => by subst h; exact Nat.le_refl _)) ?_
      clear hK
      try (simp only [Act.put])
      refine wpT.take 12 rfl (by kernel_rfl) (fun _ _ _ h => h) rfl (fun w' hw' => by go_simp <;> with_reducible rfl) ?_
      simp only [Act.put, List.setIfInBounds_toArray, List.set_cons_zero, List.set_cons_succ]
      refine wpT.done (by kernel_rfl) ?_
      go_wp2_with fail
      go_meet
      exact ⟨rfl, cA.new cS (fun k h => by omega)⟩
    · obtain ⟨wa, hwa⟩ : ∃ wa, wa = (w1.drew).alloc (.cells #[.string ⟨#[]⟩, .string ⟨#[]⟩, .int .i64 0, .int .i64 0] 47) := ⟨_, rfl⟩
      have hA : wa.heap[w1.heap.size]? = some (.cells #[.string ⟨#[]⟩, .string ⟨#[]⟩, .int .i64 0, .int .i64 0] 47 (0, 0)) := by rw [hwa]; exact heap_at_new _ _ _ rfl
      have cA : Chg (fun _ => False) w1 wa := by rw [hwa]; exact (Chg.refl _ w1).drew.alloc _
      refine wp_alloc4 47 rfl (.agg #[.string ⟨#[]⟩, .string ⟨#[]⟩, .int .i64 0, .int .i64 0]) 4 (by kernel_rfl) wa w1.heap.size rfl hwa ?_
      refine hK _ _ (by rw [hwa]; exact (Chg.refl _ _).alloc _) ?_
      clear hwa hK
      simp only [Act.put, List.setIfInBounds_toArray, List.set_cons_zero, List.set_cons_succ]
      refine wpT.call 6 rfl (by kernel_rfl) rfl (fun K hK => ?_)
      obtain ⟨x, hx⟩ := look_hold (wa) m n D nm hnm (owns_kept HO1.out (cA) (fun h => h))
      refine wp_run _ _ (exec_lookup _ _ _ _ _ _ _ rfl rfl rfl hx) ?_
      refine hK _ _ (Chg.refl _ _) ?_
      clear hK
      simp only [Act.put, List.setIfInBounds_toArray, List.set_cons_zero, List.set_cons_succ]
      refine wpT.take 7 rfl (by kernel_rfl) (fun _ _ _ h => h) rfl (fun w' hw' => by go_simp <;> with_reducible rfl) ?_
      simp only [Act.put, List.setIfInBounds_toArray, List.set_cons_zero, List.set_cons_succ]
      refine wpT.take 8 rfl (by kernel_rfl) (fun _ _ _ h => h) rfl (fun w' hw' => by go_simp <;> with_reducible rfl) ?_
      simp only [Act.put, List.setIfInBounds_toArray, List.set_cons_zero, List.set_cons_succ]
      refine wpT.take 9 rfl (by kernel_rfl) (fun _ _ _ h => h) rfl (fun w' hw' => by go_simp <;> with_reducible rfl) ?_
      simp only [Act.put, List.setIfInBounds_toArray, List.set_cons_zero, List.set_cons_succ]
      refine wpT.call 11 rfl (by kernel_rfl) rfl (fun K hK => ?_)
      refine wp_skipped _ (exec_store _ _ _ _ _ _ rfl rfl rfl (store_hold wa w1.heap.size x _ _ hA rfl)) ?_
      have cS := Chg.setCells wa w1.heap.size 0 x.cells
      refine hK _ _ (cS.mono (fun k _ h => by subst h; exact Nat.le_refl _)) ?_
      clear hK
      try (simp only [Act.put])
      refine wpT.take 12 rfl (by kernel_rfl) (fun _ _ _ h => h) rfl (fun w' hw' => by go_simp <;> with_reducible rfl) ?_
      simp only [Act.put, List.setIfInBounds_toArray, List.set_cons_zero, List.set_cons_succ]
      refine wpT.done (by kernel_rfl) ?_
      go_wp2_with fail
      go_meet
      exact ⟨rfl, cA.new cS (fun k h => by omega)⟩
  case rest =>
    obtain ⟨rfl, hC⟩ := hcut
    have cw : Chg (fun _ => False) w wc := c1.trans hC.out
    have HHc : Hid (wc.heap[w.heap.size]? = some (.cells #[.string ⟨nm.toArray⟩, .string ⟨sr.toArray⟩, .int .i64 lo, .int .i64 hi] 47 (0, 0))) := hC.out.heap HH1.out (fun h => h)
    have HBc := Lib.hid (hC.out.heap HB1.out (fun h => h))
    have HOc := Lib.hid (owns_kept HO1.out hC.out (fun h => h))
    have hTc : Hid (TabAt wc Sb b D (n + 1)) := (HT.out.kept cw (fun _ _ h => h)).more (by omega)
    have cSb : Chg Sb w wc := cw.mono (fun _ _ h => h.elim)
    have a0 : wc.cell? ⟨w.heap.size, 0, none⟩ = some (.string ⟨nm.toArray⟩) := by rw [cell_of_heap HHc.out]; rfl
    have a1 : wc.cell? ⟨w.heap.size, 1, none⟩ = some (.string ⟨sr.toArray⟩) := by rw [cell_of_heap HHc.out]; rfl
    have a2 : wc.cell? ⟨w.heap.size, 2, none⟩ = some (.int .i64 lo) := by rw [cell_of_heap HHc.out]; rfl
    have a3 : wc.cell? ⟨w.heap.size, 3, none⟩ = some (.int .i64 hi) := by rw [cell_of_heap HHc.out]; rfl
    have bm : wc.cell? ⟨b, 0, none⟩ = some (.map (some m)) := by rw [cell_of_heap HBc.out]; rfl
    obtain ⟨q1, hq1⟩ : ∃ q1, q1 = nameRight nm := ⟨_, rfl⟩
    obtain ⟨q2, hq2⟩ : ∃ q2, q2 = nameRight sr := ⟨_, rfl⟩
    obtain ⟨q3, hq3⟩ : ∃ q3, q3 = decide (0 ≤ lo ∧ lo < hi ∧ hi ≤ 1099511627777) := ⟨_, rfl⟩
    obtain ⟨q4, hq4⟩ : ∃ q4, q4 = Maps.has D (.string nm) := ⟨_, rfl⟩
    have N1 := Lib.hid (right_name nm wc)
    have N2 := Lib.hid (fun w => right_name sr w)
    have N3 := Lib.hid (fun w => window_right lo hi w)
    rw [← hq1] at N1
    rw [← hq2] at N2
    rw [← hq3] at N3
    rw [← hq4]
    have Q1 := Lib.hid hq1
    have Q2 := Lib.hid hq2
    have Q3 := Lib.hid hq3
    have Q4 := Lib.hid hq4
    have hsz := HOc.out.size_le
    clear hq1 hq2 hq3 hq4
    cases q1 with
    | false =>
      have hcd : Hid (addCode D ⟨nm, sr, lo, hi⟩ = 15) := addCode_15 (.inl Q1.out.symm)
      go_wp2_with fail
      refine N1.out.mono ?_
      rintro e w2 ⟨rfl, rfl⟩
      go_wp2_with fail
      go_ret
      rw [hcd.out, addTab_no (by rw [hcd.out]; decide)]
      exact ⟨rfl, hTc.out, cSb⟩
    | true =>
      by_cases hs0 : sr = []
      · subst hs0
        have h15 : Hid (¬ (nameRight nm = false ∨ (([] : List UInt8) ≠ [] ∧ nameRight [] = false))) := by
          show ¬ _
          rw [← Q1.out]; simp
        go_wp2_with fail
        refine N1.out.mono ?_
        rintro e w2 ⟨rfl, rfl⟩
        go_wp2_with fail
        refine (N3.out _).mono ?_
        rintro e w2 ⟨rfl, c2⟩
        have c2b : Chg Sb w w2 := (cw.trans c2).mono (fun _ _ h => h.elim)
        have hT2 : Hid (TabAt w2 Sb b D (n + 1)) := hTc.out.kept c2 (fun _ _ h => h)
        have bm2 := c2.cell bm (fun h => h)
        cases q3 with
        | false =>
          have hcd : Hid (addCode D ⟨nm, [], lo, hi⟩ = 3) := addCode_3 h15.out (of_decide_eq_false Q3.out.symm)
          go_wp2_with fail
          go_ret
          rw [hcd.out, addTab_no (by rw [hcd.out]; decide)]
          exact ⟨rfl, hT2.out, c2b⟩
        | true =>
          cases q4 with
          | true =>
            have hcd : Hid (addCode D ⟨nm, [], lo, hi⟩ = 8) := addCode_8 h15.out (of_decide_eq_true Q3.out.symm) Q4.out.symm
            go_wp2_with fail
            go_ret
            rw [hcd.out, addTab_no (by rw [hcd.out]; decide)]
            exact ⟨rfl, hT2.out, c2b⟩
          | false =>
            have HO2 := Lib.hid (owns_kept HOc.out c2 (fun h => h))
            have hln := HO2.out.len Try.underlying77 3
            obtain ⟨sz, hsz'⟩ : ∃ sz, sz = Maps.size D := ⟨_, rfl⟩
            rw [← hsz'] at hln hsz
            have HSZ := Lib.hid hsz'
            clear hsz'
            by_cases h16 : 16 ≤ sz
            · have i16 : (16 : Int) ≤ sz := by omega
              have hcd : Hid (addCode D ⟨nm, [], lo, hi⟩ = 6) := addCode_6 h15.out (of_decide_eq_true Q3.out.symm) Q4.out.symm (by rw [← HSZ.out]; exact h16)
              go_wp2_with fail
              go_ret
              rw [hcd.out, addTab_no (by rw [hcd.out]; decide)]
              exact ⟨rfl, hT2.out, c2b⟩
            · have i16 : ¬ (16 : Int) ≤ sz := by omega
              have hcd : Hid (addCode D ⟨nm, [], lo, hi⟩ = 0) := addCode_0 h15.out (of_decide_eq_true Q3.out.symm) Q4.out.symm (by rw [← HSZ.out]; exact h16)
              have HHd : Hid (w2.heap[w.heap.size]? = some (.cells (Hld.cells ⟨nm, [], lo, hi⟩).toArray 47 (0, 0))) := c2.heap HHc.out (fun h => h)
              have HBd := Lib.hid (c2.heap HBc.out (fun h => h))
              go_wp2_with fail
              have hLm : Hid (∀ w', Chg (fun k => k = m) w2.drew w' → (Instr.loadAt 77 (.pointer (some ⟨b, 0, none⟩))).run Try.prog w' = .ok (.map (some m)) w') := fun w' c => load_map w' _ _ ((Chg.cell (p := ⟨b, 0, none⟩) (((Chg.refl (fun k => k = m) w2).drew).trans c)) (by rw [cell_of_heap HBd.out]; rfl) hbm)
              have hLn : Hid (∀ w', Chg (fun k => k = m) w2.drew w' → (Instr.loadAt 9 (.pointer (some ⟨w.heap.size, 0, none⟩))).run Try.prog w' = .ok (.string ⟨nm.toArray⟩) w') := fun w' c => load_strh w' _ _ ((Chg.cell (p := ⟨w.heap.size, 0, none⟩) (((Chg.refl (fun k => k = m) w2).drew).trans c)) (by rw [cell_of_heap HHd.out]; rfl) hwm)
              have hLh : Hid (∀ w', Chg (fun k => k = m) w2.drew w' → (Instr.loadAt 47 (.pointer (some ⟨w.heap.size, 0, none⟩))).run Try.prog w' = .ok (.agg (Hld.cells ⟨nm, [], lo, hi⟩).toArray) w') := fun w' c => load_hold w' _ _ _ ((((Chg.refl (fun k => k = m) w2).drew).trans c).heap HHd.out hwm)
              refine wpT.begin (fun k => k = m) 8 (by kernel_rfl) rfl ?_
              refine wpT.take 0 rfl (by kernel_rfl) (fun _ _ _ h => h) rfl (fun w' hw' => by go_simp <;> with_reducible rfl) ?_
              simp only [Act.put, List.setIfInBounds_toArray, List.set_cons_zero, List.set_cons_succ]
              refine wpT.take 1 rfl (by kernel_rfl) (fun _ _ _ h => h) rfl (fun w' hw' => by go_simp <;> with_reducible rfl) ?_
              simp only [Act.put, List.setIfInBounds_toArray, List.set_cons_zero, List.set_cons_succ]
              refine wpT.take 2 rfl (by kernel_rfl) (fun _ _ _ h => h) rfl (fun w' hw' => by go_simp <;> with_reducible rfl) ?_
              simp only [Act.put, List.setIfInBounds_toArray, List.set_cons_zero, List.set_cons_succ]
              refine wpT.take 3 rfl (by kernel_rfl) (fun _ _ _ h => h) rfl (fun w' hw' => by exact exec_load _ _ _ _ rfl rfl (hLm.out w' hw')) ?_
              simp only [Act.put, List.setIfInBounds_toArray, List.set_cons_zero, List.set_cons_succ]
              refine wpT.take 4 rfl (by kernel_rfl) (fun _ _ _ h => h) rfl (fun w' hw' => by go_simp <;> with_reducible rfl) ?_
              simp only [Act.put, List.setIfInBounds_toArray, List.set_cons_zero, List.set_cons_succ]
              refine wpT.take 5 rfl (by kernel_rfl) (fun _ _ _ h => h) rfl (fun w' hw' => by exact exec_load _ _ _ _ rfl rfl (hLn.out w' hw')) ?_
              simp only [Act.put, List.setIfInBounds_toArray, List.set_cons_zero, List.set_cons_succ]
              refine wpT.take 6 rfl (by kernel_rfl) (fun _ _ _ h => h) rfl (fun w' hw' => by exact exec_load _ _ _ _ rfl rfl (hLh.out w' hw')) ?_
              simp only [Act.put, List.setIfInBounds_toArray, List.set_cons_zero, List.set_cons_succ]
              refine wpT.call 7 rfl (by kernel_rfl) rfl (fun K hK => ?_)
              obtain ⟨w3, hup, hown3, htn⟩ := (show w2.drew.ownsMap Try.prog 9 holdR m n D from HO2.out).store strKey Try.underlying77 (by simp only [maxLen]; omega) (keyStr nm hnm) (holdR_mk ⟨nm, [], lo, hi⟩)
              refine wp_skipped _ (exec_update _ _ _ _ _ _ _ _ rfl rfl rfl rfl hup) ?_
              have c3 : Chg (fun k => k = m) w2.drew w3 := (Chg.of_grownBy htn.grown).mono (fun k _ h => by cases h; rfl)
              refine hK _ _ c3 ?_
              clear hK
              try (simp only [Act.put])
              refine wpT.done (by kernel_rfl) ?_
              have HO3 := Lib.hid hown3
              clear hown3 hup htn
              go_wp2_with fail
              go_ret
              rw [hcd.out, addTab_yes hcd.out]
              have c23 := (Chg.refl (fun k => k = m) w2).drew.trans c3
              exact ⟨rfl, ⟨m, T, c23.heap HBd.out hbm, HO3.out, hSB, hSM⟩, c2b.trans' c23 (fun k _ h => by subst h; exact hSM)⟩
      · have e0 : (sr == []) = false := by simpa using hs0
        cases q2 with
        | false =>
          have hcd : Hid (addCode D ⟨nm, sr, lo, hi⟩ = 15) := addCode_15 (.inr ⟨hs0, Q2.out.symm⟩)
          clear hs0
          go_wp2_with fail
          refine N1.out.mono ?_
          rintro e w2 ⟨rfl, rfl⟩
          go_wp2_with fail
          refine (N2.out _).mono ?_
          rintro e w2 ⟨rfl, rfl⟩
          go_wp2_with fail
          go_ret
          rw [hcd.out, addTab_no (by rw [hcd.out]; decide)]
          exact ⟨rfl, hTc.out, cSb⟩
        | true =>
          have h15 : Hid (¬ (nameRight nm = false ∨ (sr ≠ [] ∧ nameRight sr = false))) := by
            show ¬ _
            rw [← Q1.out, ← Q2.out]; simp
          clear hs0
          go_wp2_with fail
          refine N1.out.mono ?_
          rintro e w2 ⟨rfl, rfl⟩
          go_wp2_with fail
          refine (N2.out _).mono ?_
          rintro e w2 ⟨rfl, rfl⟩
          go_wp2_with fail
          refine (N3.out _).mono ?_
          rintro e w2 ⟨rfl, c2⟩
          have c2b : Chg Sb w w2 := (cw.trans c2).mono (fun _ _ h => h.elim)
          have hT2 : Hid (TabAt w2 Sb b D (n + 1)) := hTc.out.kept c2 (fun _ _ h => h)
          have bm2 := c2.cell bm (fun h => h)
          cases q3 with
          | false =>
            have hcd : Hid (addCode D ⟨nm, sr, lo, hi⟩ = 3) := addCode_3 h15.out (of_decide_eq_false Q3.out.symm)
            go_wp2_with fail
            go_ret
            rw [hcd.out, addTab_no (by rw [hcd.out]; decide)]
            exact ⟨rfl, hT2.out, c2b⟩
          | true =>
            cases q4 with
            | true =>
              have hcd : Hid (addCode D ⟨nm, sr, lo, hi⟩ = 8) := addCode_8 h15.out (of_decide_eq_true Q3.out.symm) Q4.out.symm
              go_wp2_with fail
              go_ret
              rw [hcd.out, addTab_no (by rw [hcd.out]; decide)]
              exact ⟨rfl, hT2.out, c2b⟩
            | false =>
              have HO2 := Lib.hid (owns_kept HOc.out c2 (fun h => h))
              have hln := HO2.out.len Try.underlying77 3
              obtain ⟨sz, hsz'⟩ : ∃ sz, sz = Maps.size D := ⟨_, rfl⟩
              rw [← hsz'] at hln hsz
              have HSZ := Lib.hid hsz'
              clear hsz'
              by_cases h16 : 16 ≤ sz
              · have i16 : (16 : Int) ≤ sz := by omega
                have hcd : Hid (addCode D ⟨nm, sr, lo, hi⟩ = 6) := addCode_6 h15.out (of_decide_eq_true Q3.out.symm) Q4.out.symm (by rw [← HSZ.out]; exact h16)
                go_wp2_with fail
                go_ret
                rw [hcd.out, addTab_no (by rw [hcd.out]; decide)]
                exact ⟨rfl, hT2.out, c2b⟩
              · have i16 : ¬ (16 : Int) ≤ sz := by omega
                have hcd : Hid (addCode D ⟨nm, sr, lo, hi⟩ = 0) := addCode_0 h15.out (of_decide_eq_true Q3.out.symm) Q4.out.symm (by rw [← HSZ.out]; exact h16)
                have HHd : Hid (w2.heap[w.heap.size]? = some (.cells (Hld.cells ⟨nm, sr, lo, hi⟩).toArray 47 (0, 0))) := c2.heap HHc.out (fun h => h)
                have HBd := Lib.hid (c2.heap HBc.out (fun h => h))
                go_wp2_with fail
                have hLm : Hid (∀ w', Chg (fun k => k = m) w2.drew w' → (Instr.loadAt 77 (.pointer (some ⟨b, 0, none⟩))).run Try.prog w' = .ok (.map (some m)) w') := fun w' c => load_map w' _ _ ((Chg.cell (p := ⟨b, 0, none⟩) (((Chg.refl (fun k => k = m) w2).drew).trans c)) (by rw [cell_of_heap HBd.out]; rfl) hbm)
                have hLn : Hid (∀ w', Chg (fun k => k = m) w2.drew w' → (Instr.loadAt 9 (.pointer (some ⟨w.heap.size, 0, none⟩))).run Try.prog w' = .ok (.string ⟨nm.toArray⟩) w') := fun w' c => load_strh w' _ _ ((Chg.cell (p := ⟨w.heap.size, 0, none⟩) (((Chg.refl (fun k => k = m) w2).drew).trans c)) (by rw [cell_of_heap HHd.out]; rfl) hwm)
                have hLh : Hid (∀ w', Chg (fun k => k = m) w2.drew w' → (Instr.loadAt 47 (.pointer (some ⟨w.heap.size, 0, none⟩))).run Try.prog w' = .ok (.agg (Hld.cells ⟨nm, sr, lo, hi⟩).toArray) w') := fun w' c => load_hold w' _ _ _ ((((Chg.refl (fun k => k = m) w2).drew).trans c).heap HHd.out hwm)
                refine wpT.begin (fun k => k = m) 8 (by kernel_rfl) rfl ?_
                refine wpT.take 0 rfl (by kernel_rfl) (fun _ _ _ h => h) rfl (fun w' hw' => by go_simp <;> with_reducible rfl) ?_
                simp only [Act.put, List.setIfInBounds_toArray, List.set_cons_zero, List.set_cons_succ]
                refine wpT.take 1 rfl (by kernel_rfl) (fun _ _ _ h => h) rfl (fun w' hw' => by go_simp <;> with_reducible rfl) ?_
                simp only [Act.put, List.setIfInBounds_toArray, List.set_cons_zero, List.set_cons_succ]
                refine wpT.take 2 rfl (by kernel_rfl) (fun _ _ _ h => h) rfl (fun w' hw' => by go_simp <;> with_reducible rfl) ?_
                simp only [Act.put, List.setIfInBounds_toArray, List.set_cons_zero, List.set_cons_succ]
                refine wpT.take 3 rfl (by kernel_rfl) (fun _ _ _ h => h) rfl (fun w' hw' => by exact exec_load _ _ _ _ rfl rfl (hLm.out w' hw')) ?_
                simp only [Act.put, List.setIfInBounds_toArray, List.set_cons_zero, List.set_cons_succ]
                refine wpT.take 4 rfl (by kernel_rfl) (fun _ _ _ h => h) rfl (fun w' hw' => by go_simp <;> with_reducible rfl) ?_
                simp only [Act.put, List.setIfInBounds_toArray, List.set_cons_zero, List.set_cons_succ]
                refine wpT.take 5 rfl (by kernel_rfl) (fun _ _ _ h => h) rfl (fun w' hw' => by exact exec_load _ _ _ _ rfl rfl (hLn.out w' hw')) ?_
                simp only [Act.put, List.setIfInBounds_toArray, List.set_cons_zero, List.set_cons_succ]
                refine wpT.take 6 rfl (by kernel_rfl) (fun _ _ _ h => h) rfl (fun w' hw' => by exact exec_load _ _ _ _ rfl rfl (hLh.out w' hw')) ?_
                simp only [Act.put, List.setIfInBounds_toArray, List.set_cons_zero, List.set_cons_succ]
                refine wpT.call 7 rfl (by kernel_rfl) rfl (fun K hK => ?_)
                obtain ⟨w3, hup, hown3, htn⟩ := (show w2.drew.ownsMap Try.prog 9 holdR m n D from HO2.out).store strKey Try.underlying77 (by simp only [maxLen]; omega) (keyStr nm hnm) (holdR_mk ⟨nm, sr, lo, hi⟩)
                refine wp_skipped _ (exec_update _ _ _ _ _ _ _ _ rfl rfl rfl rfl hup) ?_
                have c3 : Chg (fun k => k = m) w2.drew w3 := (Chg.of_grownBy htn.grown).mono (fun k _ h => by cases h; rfl)
                refine hK _ _ c3 ?_
                clear hK
                try (simp only [Act.put])
                refine wpT.done (by kernel_rfl) ?_
                have HO3 := Lib.hid hown3
                clear hown3 hup htn
                go_wp2_with fail
                go_ret
                rw [hcd.out, addTab_yes hcd.out]
                have c23 := (Chg.refl (fun k => k = m) w2).drew.trans c3
                exact ⟨rfl, ⟨m, T, c23.heap HBd.out hbm, HO3.out, hSB, hSM⟩, c2b.trans' c23 (fun k _ h => by subst h; exact hSM)⟩
end Go.Proofs.Ytmnnahkaenikkaa
