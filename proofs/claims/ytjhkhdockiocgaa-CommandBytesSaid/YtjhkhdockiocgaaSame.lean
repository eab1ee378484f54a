/- Contracts: catacomblaw26.Same. -/
import Derived.Test.YtjhkhdockiocgaaIts
import Derived.Test.YtjhkhdockiocgaaNeq
namespace Go.Proofs.Ytjhkhdockiocgaa
open Go.RowKit Go.Cat

theorem wpList_val {P : Program} {ops : Array Oper} {rest : List Oper} {o : Oper} {a : Act} {w : World} {Q : Exit → Act → World → Prop} (hgd : Region.wanted o (yielded ops a.tmps) = true) (v : Value) (h : (execOp a.eval o).run P w = .ok (.value v) w)
    (hk : wpList P ops Q rest (a.put o.dst v) w) : wpList P ops Q (o :: rest) a w := by
  unfold wpList
  rw [if_pos hgd]
  left
  unfold Oper.wp
  rw [h]
  exact hk
theorem wpList_not {P : Program} {ops : Array Oper} {rest : List Oper} {o : Oper} {a : Act} {w : World} {Q : Exit → Act → World → Prop} (hgd : Region.wanted o (yielded ops a.tmps) = false)
    (hk : wpList P ops Q rest (a.put o.dst undef) w) : wpList P ops Q (o :: rest) a w := by
  unfold wpList
  rw [if_neg (by rw [hgd]; exact Bool.false_ne_true)]
  exact hk
theorem wpList_ldG {P : Program} {ops : Array Oper} {rest : List Oper} {o : Oper} {a : Act} {w : World} {Q : Exit → Act → World → Prop} (hgd : Region.wanted o (yielded ops a.tmps) = true) (t : TypeId) (x : Operand) (ho : o.op = .load t x) (ht : oneT P t = true) (p : Addr) (hx : a.eval x = .pointer (some p)) (v : Value) (hc : w.cell? p = some v)
    (hk : wpList P ops Q rest (a.put o.dst v) w) : wpList P ops Q (o :: rest) a w := wpList_val hgd v (exec_load t x _ v ho hx (run_loadAt_one w t ht p v hc)) hk
theorem exec_pick_t {P : Program} {o : Oper} {a : Act} {w : World} (c x y : Operand) (v : Value) (ho : o.op = .pick c x y) (hc : a.eval c = .bool true) (hx : a.eval x = v) : (execOp a.eval o).run P w = .ok (.value v) w := by
  unfold execOp
  simp [ho, hc, hx, asBool]
theorem exec_pick_f {P : Program} {o : Oper} {a : Act} {w : World} (c x y : Operand) (v : Value) (ho : o.op = .pick c x y) (hc : a.eval c = .bool false) (hx : a.eval y = v) : (execOp a.eval o).run P w = .ok (.value v) w := by
  unfold execOp
  simp [ho, hc, hx, asBool]
theorem exec_move {P : Program} {o : Oper} {a : Act} {w : World} (x : Operand) (v : Value) (ho : o.op = .move x) (hx : a.eval x = v) : (execOp a.eval o).run P w = .ok (.value v) w := by
  unfold execOp
  simp [ho, hx]
def coastVal (o : Oper) (a : Act) : Option Value :=
  match o.op with
  | .move x => some (a.eval x)
  | .pick c x y => match a.eval c with
    | .bool b => some (if b then a.eval x else a.eval y)
    | _ => none
  | _ => none
/-- What is left of a region that only moves values, its guarded operations unwanted. -/
def coast (ops : Array Oper) : List Oper → Act → Option Act
  | [], a => some a
  | o :: r, a => if Region.wanted o (yielded ops a.tmps) = true then (coastVal o a).bind fun v => coast ops r (a.put o.dst v) else coast ops r (a.put o.dst undef)
theorem wpList_coast {P : Program} {ops : Array Oper} {Q : Exit → Act → World → Prop} (a' : Act) {w : World} (hk : Q .normal a' w) : ∀ {l : List Oper} {a : Act}, coast ops l a = some a' → wpList P ops Q l a w
  | [], a, h => by
    simp only [coast, Option.some.injEq] at h
    subst h; exact hk
  | o :: r, a, h => by
    unfold coast at h
    by_cases hw : Region.wanted o (yielded ops a.tmps) = true
    · rw [if_pos hw] at h
      cases hv : coastVal o a with
      | none => rw [hv] at h; cases h
      | some v =>
        rw [hv] at h
        refine wpList_val hw v ?_ (wpList_coast a' hk h)
        unfold coastVal at hv
        split at hv
        · rename_i x ho
          cases hv
          exact exec_move x _ ho rfl
        · rename_i c x y ho
          split at hv
          · rename_i b hb
            cases hv
            cases b
            · exact exec_pick_f c x y _ ho hb rfl
            · exact exec_pick_t c x y _ ho hb rfl
          · cases hv
        · cases hv
    · rw [if_neg hw] at h
      exact wpList_not (by simpa using hw) (wpList_coast a' hk h)
theorem wrap_succ (k n : Nat) (h : k < n) (hn : n ≤ maxLen) : wrap64 ((k : Int) + 1) = (k : Int) + 1 := by
  simp only [maxLen] at hn
  unfold wrap64; omega
theorem meas_succ (k n : Nat) (h : k < n) : n - (intOf (.int .i64 ((k : Int) + 1))).toNat < n - (intOf (.int .i64 (k : Int))).toNat := by
  simp only [intOf]; omega
theorem neq_i64 (w : World) (x y : Int) : (binOp .neq 2 (.int .i64 x) (.int .i64 y)).run Try.prog w = .ok (.bool (decide ¬ (x = y))) w := by
  go_simp
  by_cases h : x = y <;> simp [h]
theorem neq_int (w : World) (x y : Int) : (binOp .neq 3 (.int .i64 x) (.int .i64 y)).run Try.prog w = .ok (.bool (decide ¬ (x = y))) w := by
  go_simp
  by_cases h : x = y <;> simp [h]
theorem neq_str (w : World) (x y : List UInt8) : (binOp .neq 9 (.string ⟨x.toArray⟩) (.string ⟨y.toArray⟩)).run Try.prog w = .ok (.bool (decide ¬ (x = y))) w := by
  go_simp
  by_cases h : x = y <;> simp [h]
set_option maxRecDepth 100000 in
set_option maxHeartbeats 16000000 in
theorem same_any (a b : Cmd) (ps qs : List Pnt) (w : World) (ha : Reads w 2 a.pv ps.length (ps.flatMap Pnt.cells)) (hb : Reads w 2 b.pv qs.length (qs.flatMap Pnt.cells)) (hn : ps.length ≤ maxLen) :
    Calls Try.prog 17 #[.agg #[.int .i64 a.kind, .string ⟨a.tenant.toArray⟩, .string ⟨a.series.toArray⟩, .string ⟨a.name.toArray⟩, a.pv, .int .i64 a.rlo, .int .i64 a.rhi, .int .i64 a.praw, .int .i64 a.pmid, .int .i64 a.plong, .string ⟨a.hname.toArray⟩, .string ⟨a.hser.toArray⟩, .int .i64 a.hlo, .int .i64 a.hhi, .int .i64 a.bytes, .int .i64 a.count, .int .i64 a.at_], .agg #[.int .i64 b.kind, .string ⟨b.tenant.toArray⟩, .string ⟨b.series.toArray⟩, .string ⟨b.name.toArray⟩, b.pv, .int .i64 b.rlo, .int .i64 b.rhi, .int .i64 b.praw, .int .i64 b.pmid, .int .i64 b.plong, .string ⟨b.hname.toArray⟩, .string ⟨b.hser.toArray⟩, .int .i64 b.hlo, .int .i64 b.hhi, .int .i64 b.bytes, .int .i64 b.count, .int .i64 b.at_]] w fun e w' => ∃ r : Bool, e = .returned (.bool r) ∧ (r = true ↔ a.like b ps qs) ∧ Chg (fun _ => False) w w' := by
  obtain ⟨va, ca, hva⟩ := ha.form
  obtain ⟨vb, cb, hvb⟩ := hb.form
  rw [hva] at ha
  rw [hvb] at hb
  obtain ⟨wa, hwa⟩ : ∃ wa, wa = (w.alloc (.cells #[.int .i64 a.kind, .string ⟨a.tenant.toArray⟩, .string ⟨a.series.toArray⟩, .string ⟨a.name.toArray⟩, a.pv, .int .i64 a.rlo, .int .i64 a.rhi, .int .i64 a.praw, .int .i64 a.pmid, .int .i64 a.plong, .string ⟨a.hname.toArray⟩, .string ⟨a.hser.toArray⟩, .int .i64 a.hlo, .int .i64 a.hhi, .int .i64 a.bytes, .int .i64 a.count, .int .i64 a.at_] 30)).alloc (.cells #[.int .i64 b.kind, .string ⟨b.tenant.toArray⟩, .string ⟨b.series.toArray⟩, .string ⟨b.name.toArray⟩, b.pv, .int .i64 b.rlo, .int .i64 b.rhi, .int .i64 b.praw, .int .i64 b.pmid, .int .i64 b.plong, .string ⟨b.hname.toArray⟩, .string ⟨b.hser.toArray⟩, .int .i64 b.hlo, .int .i64 b.hhi, .int .i64 b.bytes, .int .i64 b.count, .int .i64 b.at_] 30) := ⟨_, rfl⟩
  have HA : Hid (wa.heap[w.heap.size]? = some (.cells a.cells.toArray 30 (0, 0))) := by rw [hwa]; exact ((Chg.refl (fun _ => False) _).alloc _).heap (heap_at_new _ _ _ rfl) (fun h => h)
  have HB : Hid (wa.heap[w.heap.size + 1]? = some (.cells b.cells.toArray 30 (0, 0))) := by rw [hwa]; exact heap_at_new _ _ _ (by simp)
  have cwa : Hid (Chg (fun _ => False) w wa) := by rw [hwa]; exact ((Chg.refl _ w).alloc _).alloc _
  have HVA := Lib.hid (ha.kept cwa.out (fun _ _ h => h))
  have HVB := Lib.hid (hb.kept cwa.out (fun _ _ h => h))
  have HW := Lib.hid hwa
  clear hwa ha hb
  have P0 : Hid (wa.cell? ⟨w.heap.size, 0, none⟩ = some (.int .i64 a.kind)) := cell_cmd HA.out 0 _ rfl
  have Q0 : Hid (wa.cell? ⟨w.heap.size + 1, 0, none⟩ = some (.int .i64 b.kind)) := cell_cmd HB.out 0 _ rfl
  have P1 : Hid (wa.cell? ⟨w.heap.size, 1, none⟩ = some (.string ⟨a.tenant.toArray⟩)) := cell_cmd HA.out 1 _ rfl
  have Q1 : Hid (wa.cell? ⟨w.heap.size + 1, 1, none⟩ = some (.string ⟨b.tenant.toArray⟩)) := cell_cmd HB.out 1 _ rfl
  have P2 : Hid (wa.cell? ⟨w.heap.size, 2, none⟩ = some (.string ⟨a.series.toArray⟩)) := cell_cmd HA.out 2 _ rfl
  have Q2 : Hid (wa.cell? ⟨w.heap.size + 1, 2, none⟩ = some (.string ⟨b.series.toArray⟩)) := cell_cmd HB.out 2 _ rfl
  have P3 : Hid (wa.cell? ⟨w.heap.size, 3, none⟩ = some (.string ⟨a.name.toArray⟩)) := cell_cmd HA.out 3 _ rfl
  have Q3 : Hid (wa.cell? ⟨w.heap.size + 1, 3, none⟩ = some (.string ⟨b.name.toArray⟩)) := cell_cmd HB.out 3 _ rfl
  have P4 : Hid (wa.cell? ⟨w.heap.size, 4, none⟩ = some (a.pv)) := cell_cmd HA.out 4 _ rfl
  have Q4 : Hid (wa.cell? ⟨w.heap.size + 1, 4, none⟩ = some (b.pv)) := cell_cmd HB.out 4 _ rfl
  have P14 : Hid (wa.cell? ⟨w.heap.size, 14, none⟩ = some (.int .i64 a.bytes)) := cell_cmd HA.out 14 _ rfl
  have Q14 : Hid (wa.cell? ⟨w.heap.size + 1, 14, none⟩ = some (.int .i64 b.bytes)) := cell_cmd HB.out 14 _ rfl
  have P15 : Hid (wa.cell? ⟨w.heap.size, 15, none⟩ = some (.int .i64 a.count)) := cell_cmd HA.out 15 _ rfl
  have Q15 : Hid (wa.cell? ⟨w.heap.size + 1, 15, none⟩ = some (.int .i64 b.count)) := cell_cmd HB.out 15 _ rfl
  have P16 : Hid (wa.cell? ⟨w.heap.size, 16, none⟩ = some (.int .i64 a.at_)) := cell_cmd HA.out 16 _ rfl
  have Q16 : Hid (wa.cell? ⟨w.heap.size + 1, 16, none⟩ = some (.int .i64 b.at_)) := cell_cmd HB.out 16 _ rfl
  have Lra := Lib.hid (load_range wa _ a _ HA.out)
  have Lrb := Lib.hid (load_range wa _ b _ HB.out)
  have Lpa := Lib.hid (load_policy wa _ a _ HA.out)
  have Lpb := Lib.hid (load_policy wa _ b _ HB.out)
  have Lha := Lib.hid (load_hold wa _ a _ HA.out)
  have Lhb := Lib.hid (load_hold wa _ b _ HB.out)
  have hres17 : Hid (Try.f17.results = #[.tmp 4]) := by show _ = _; kernel_rfl
  clear HA HB
  unfold Cmd.like
  obtain ⟨ak, at_, as_, an, apv, arlo, arhi, apraw, apmid, aplong, ahn, ahs, ahlo, ahhi, aby, act, aat⟩ := a
  obtain ⟨bk, bt, bs_, bn, bpv, brlo, brhi, bpraw, bpmid, bplong, bhn, bhs, bhlo, bhhi, bby, bct, bat⟩ := b
  simp only at *
  subst hva hvb
  obtain ⟨n, hnn⟩ : ∃ n, n = ps.length := ⟨_, rfl⟩
  obtain ⟨m, hmm⟩ : ∃ m, m = qs.length := ⟨_, rfl⟩
  rw [← hnn] at P4 HVA hn HW
  rw [← hmm] at Q4 HVB HW
  have HN := Lib.hid hnn
  have HM := Lib.hid hmm
  have HMX := Lib.hid hn
  rw [← hnn, ← hmm]
  clear hnn hmm hn
  have N0 := fun w => neq_int w ak bk
  obtain ⟨q0, hq0⟩ : ∃ q, q = decide ¬ (ak = bk) := ⟨_, rfl⟩
  rw [← hq0] at N0
  have M0 := Lib.hid N0
  have E0 := Lib.hid hq0
  clear N0 hq0
  have N1 := fun w => neq_str w at_ bt
  obtain ⟨q1, hq1⟩ : ∃ q, q = decide ¬ (at_ = bt) := ⟨_, rfl⟩
  rw [← hq1] at N1
  have M1 := Lib.hid N1
  have E1 := Lib.hid hq1
  clear N1 hq1
  have N2 := fun w => neq_str w as_ bs_
  obtain ⟨q2, hq2⟩ : ∃ q, q = decide ¬ (as_ = bs_) := ⟨_, rfl⟩
  rw [← hq2] at N2
  have M2 := Lib.hid N2
  have E2 := Lib.hid hq2
  clear N2 hq2
  have N3 := fun w => neq_str w an bn
  obtain ⟨q3, hq3⟩ : ∃ q, q = decide ¬ (an = bn) := ⟨_, rfl⟩
  rw [← hq3] at N3
  have M3 := Lib.hid N3
  have E3 := Lib.hid hq3
  clear N3 hq3
  have N4 := fun w => neq_range w arlo brlo arhi brhi
  obtain ⟨q4, hq4⟩ : ∃ q, q = decide ¬ (arlo = brlo ∧ arhi = brhi) := ⟨_, rfl⟩
  rw [← hq4] at N4
  have M4 := Lib.hid N4
  have E4 := Lib.hid hq4
  clear N4 hq4
  have N5 := fun w => neq_policy w apraw bpraw apmid bpmid aplong bplong
  obtain ⟨q5, hq5⟩ : ∃ q, q = decide ¬ (apraw = bpraw ∧ apmid = bpmid ∧ aplong = bplong) := ⟨_, rfl⟩
  rw [← hq5] at N5
  have M5 := Lib.hid N5
  have E5 := Lib.hid hq5
  clear N5 hq5
  have N6 := fun w => neq_hold w ahn bhn ahs bhs ahlo bhlo ahhi bhhi
  obtain ⟨q6, hq6⟩ : ∃ q, q = decide ¬ (ahn = bhn ∧ ahs = bhs ∧ ahlo = bhlo ∧ ahhi = bhhi) := ⟨_, rfl⟩
  rw [← hq6] at N6
  have M6 := Lib.hid N6
  have E6 := Lib.hid hq6
  clear N6 hq6
  have N7 := fun w => neq_i64 w aby bby
  obtain ⟨q7, hq7⟩ : ∃ q, q = decide ¬ (aby = bby) := ⟨_, rfl⟩
  rw [← hq7] at N7
  have M7 := Lib.hid N7
  have E7 := Lib.hid hq7
  clear N7 hq7
  have N8 := fun w => neq_i64 w act bct
  obtain ⟨q8, hq8⟩ : ∃ q, q = decide ¬ (act = bct) := ⟨_, rfl⟩
  rw [← hq8] at N8
  have M8 := Lib.hid N8
  have E8 := Lib.hid hq8
  clear N8 hq8
  have N9 := fun w => neq_i64 w aat bat
  obtain ⟨q9, hq9⟩ : ∃ q, q = decide ¬ (aat = bat) := ⟨_, rfl⟩
  rw [← hq9] at N9
  have M9 := Lib.hid N9
  have E9 := Lib.hid hq9
  clear N9 hq9
  have N10 := fun w => neq_int w (n : Int) (m : Int)
  obtain ⟨q10, hq10⟩ : ∃ q, q = decide ¬ ((n : Int) = (m : Int)) := ⟨_, rfl⟩
  rw [← hq10] at N10
  have M10 := Lib.hid N10
  have E10 := Lib.hid hq10
  clear N10 hq10
  go_enter Try.func17, Try.ntmps17
  go_upto_region 1 with fail
  rw [← HW.out]
  clear HW
  refine wp_region_lit ?_
  refine wpList_val (by kernel_rfl) _ (by go_simp <;> with_reducible rfl) ?_
  simp only [Act.put, List.setIfInBounds_toArray, List.set_cons_zero, List.set_cons_succ]
  refine wpList_ldG (by kernel_rfl) _ _ rfl (by kernel_rfl) ⟨w.heap.size, 0, none⟩ (by kernel_rfl) _ P0.out ?_
  simp only [Act.put, List.setIfInBounds_toArray, List.set_cons_zero, List.set_cons_succ]
  refine wpList_val (by kernel_rfl) _ (by go_simp <;> with_reducible rfl) ?_
  simp only [Act.put, List.setIfInBounds_toArray, List.set_cons_zero, List.set_cons_succ]
  refine wpList_ldG (by kernel_rfl) _ _ rfl (by kernel_rfl) ⟨w.heap.size + 1, 0, none⟩ (by kernel_rfl) _ Q0.out ?_
  simp only [Act.put, List.setIfInBounds_toArray, List.set_cons_zero, List.set_cons_succ]
  refine wpList_val (by kernel_rfl) (.bool q0) (by rw [E0.out]; go_simp; first | done | (by_cases h : ak = bk <;> simp [h])) ?_
  simp only [Act.put, List.setIfInBounds_toArray, List.set_cons_zero, List.set_cons_succ]
  refine wpList_val (by kernel_rfl) (.bool q0) (exec_move _ _ rfl (by kernel_rfl)) ?_
  simp only [Act.put, List.setIfInBounds_toArray, List.set_cons_zero, List.set_cons_succ]
  rcases Bool.eq_false_or_eq_true q0 with hq | hq
  · subst hq
    refine wpList_coast (⟨#[.agg #[.int .i64 ak, .string ⟨at_.toArray⟩, .string ⟨as_.toArray⟩, .string ⟨an.toArray⟩, .slice va n ca, .int .i64 arlo, .int .i64 arhi, .int .i64 apraw, .int .i64 apmid, .int .i64 aplong, .string ⟨ahn.toArray⟩, .string ⟨ahs.toArray⟩, .int .i64 ahlo, .int .i64 ahhi, .int .i64 aby, .int .i64 act, .int .i64 aat], .agg #[.int .i64 bk, .string ⟨bt.toArray⟩, .string ⟨bs_.toArray⟩, .string ⟨bn.toArray⟩, .slice vb m cb, .int .i64 brlo, .int .i64 brhi, .int .i64 bpraw, .int .i64 bpmid, .int .i64 bplong, .string ⟨bhn.toArray⟩, .string ⟨bhs.toArray⟩, .int .i64 bhlo, .int .i64 bhhi, .int .i64 bby, .int .i64 bct, .int .i64 bat], .pointer (some ⟨w.heap.size, 0, none⟩), .pointer (some ⟨w.heap.size + 1, 0, none⟩), .bool false, undef, .pointer (some ⟨w.heap.size, 0, none⟩), .int .i64 ak, .pointer (some ⟨w.heap.size + 1, 0, none⟩), .int .i64 bk, .bool true, .bool true, undef, undef, undef, undef, undef, .bool true, .bool true, undef, undef, undef, undef, undef, .bool true, .bool true, undef, undef, undef, undef, undef, .bool true, .bool true, undef, undef, undef, undef, undef, .bool true, .bool true, undef, undef, undef, undef, undef, .bool true, .bool true, undef, undef, undef, undef, undef, .bool true, .bool true, undef, undef, undef, undef, undef, .bool true, .bool true, undef, undef, undef, undef, undef, .bool true, .bool true, undef, undef, undef, undef, undef, .bool true, .bool true, undef, undef, undef, undef, undef, undef, undef, .bool true, undef, undef, undef, undef, undef, undef, undef, undef, undef, undef, undef, undef, undef, undef, undef, undef, undef, undef], []⟩) ?_ (by kernel_rfl)
    go_wp2_with fail
    refine bodyPost_ret (v := .bool false) (by exact results_tmp hres17.out _ _ _) (by kernel_rfl) ?_
    refine ⟨false, rfl, ⟨fun h => (Bool.false_ne_true h).elim, fun h => ?_⟩, cwa.out⟩
    obtain ⟨g0, g1, g2, g3, g4, g5, g6, g7, g8, g9, g10⟩ := h
    exact absurd g0 (of_decide_eq_true E0.out.symm)
  subst hq
  refine wpList_val (by kernel_rfl) _ (by go_simp <;> with_reducible rfl) ?_
  simp only [Act.put, List.setIfInBounds_toArray, List.set_cons_zero, List.set_cons_succ]
  refine wpList_ldG (by kernel_rfl) _ _ rfl (by kernel_rfl) ⟨w.heap.size, 1, none⟩ (by kernel_rfl) _ P1.out ?_
  simp only [Act.put, List.setIfInBounds_toArray, List.set_cons_zero, List.set_cons_succ]
  refine wpList_val (by kernel_rfl) _ (by go_simp <;> with_reducible rfl) ?_
  simp only [Act.put, List.setIfInBounds_toArray, List.set_cons_zero, List.set_cons_succ]
  refine wpList_ldG (by kernel_rfl) _ _ rfl (by kernel_rfl) ⟨w.heap.size + 1, 1, none⟩ (by kernel_rfl) _ Q1.out ?_
  simp only [Act.put, List.setIfInBounds_toArray, List.set_cons_zero, List.set_cons_succ]
  refine wpList_val (by kernel_rfl) (.bool q1) (by rw [E1.out]; go_simp; first | done | (by_cases h : at_ = bt <;> simp [h])) ?_
  simp only [Act.put, List.setIfInBounds_toArray, List.set_cons_zero, List.set_cons_succ]
  refine wpList_val (by kernel_rfl) (.bool q1) (exec_pick_f _ _ _ _ rfl (by kernel_rfl) (by kernel_rfl)) ?_
  simp only [Act.put, List.setIfInBounds_toArray, List.set_cons_zero, List.set_cons_succ]
  refine wpList_val (by kernel_rfl) (.bool q1) (exec_move _ _ rfl (by kernel_rfl)) ?_
  simp only [Act.put, List.setIfInBounds_toArray, List.set_cons_zero, List.set_cons_succ]
  rcases Bool.eq_false_or_eq_true q1 with hq | hq
  · subst hq
    refine wpList_coast (⟨#[.agg #[.int .i64 ak, .string ⟨at_.toArray⟩, .string ⟨as_.toArray⟩, .string ⟨an.toArray⟩, .slice va n ca, .int .i64 arlo, .int .i64 arhi, .int .i64 apraw, .int .i64 apmid, .int .i64 aplong, .string ⟨ahn.toArray⟩, .string ⟨ahs.toArray⟩, .int .i64 ahlo, .int .i64 ahhi, .int .i64 aby, .int .i64 act, .int .i64 aat], .agg #[.int .i64 bk, .string ⟨bt.toArray⟩, .string ⟨bs_.toArray⟩, .string ⟨bn.toArray⟩, .slice vb m cb, .int .i64 brlo, .int .i64 brhi, .int .i64 bpraw, .int .i64 bpmid, .int .i64 bplong, .string ⟨bhn.toArray⟩, .string ⟨bhs.toArray⟩, .int .i64 bhlo, .int .i64 bhhi, .int .i64 bby, .int .i64 bct, .int .i64 bat], .pointer (some ⟨w.heap.size, 0, none⟩), .pointer (some ⟨w.heap.size + 1, 0, none⟩), .bool false, undef, .pointer (some ⟨w.heap.size, 0, none⟩), .int .i64 ak, .pointer (some ⟨w.heap.size + 1, 0, none⟩), .int .i64 bk, .bool false, .bool false, .pointer (some ⟨w.heap.size, 1, none⟩), .string ⟨at_.toArray⟩, .pointer (some ⟨w.heap.size + 1, 1, none⟩), .string ⟨bt.toArray⟩, .bool true, .bool true, .bool true, undef, undef, undef, undef, undef, .bool true, .bool true, undef, undef, undef, undef, undef, .bool true, .bool true, undef, undef, undef, undef, undef, .bool true, .bool true, undef, undef, undef, undef, undef, .bool true, .bool true, undef, undef, undef, undef, undef, .bool true, .bool true, undef, undef, undef, undef, undef, .bool true, .bool true, undef, undef, undef, undef, undef, .bool true, .bool true, undef, undef, undef, undef, undef, .bool true, .bool true, undef, undef, undef, undef, undef, undef, undef, .bool true, undef, undef, undef, undef, undef, undef, undef, undef, undef, undef, undef, undef, undef, undef, undef, undef, undef, undef], []⟩) ?_ (by kernel_rfl)
    go_wp2_with fail
    refine bodyPost_ret (v := .bool false) (by exact results_tmp hres17.out _ _ _) (by kernel_rfl) ?_
    refine ⟨false, rfl, ⟨fun h => (Bool.false_ne_true h).elim, fun h => ?_⟩, cwa.out⟩
    obtain ⟨g0, g1, g2, g3, g4, g5, g6, g7, g8, g9, g10⟩ := h
    exact absurd g1 (of_decide_eq_true E1.out.symm)
  subst hq
  refine wpList_val (by kernel_rfl) _ (by go_simp <;> with_reducible rfl) ?_
  simp only [Act.put, List.setIfInBounds_toArray, List.set_cons_zero, List.set_cons_succ]
  refine wpList_ldG (by kernel_rfl) _ _ rfl (by kernel_rfl) ⟨w.heap.size, 2, none⟩ (by kernel_rfl) _ P2.out ?_
  simp only [Act.put, List.setIfInBounds_toArray, List.set_cons_zero, List.set_cons_succ]
  refine wpList_val (by kernel_rfl) _ (by go_simp <;> with_reducible rfl) ?_
  simp only [Act.put, List.setIfInBounds_toArray, List.set_cons_zero, List.set_cons_succ]
  refine wpList_ldG (by kernel_rfl) _ _ rfl (by kernel_rfl) ⟨w.heap.size + 1, 2, none⟩ (by kernel_rfl) _ Q2.out ?_
  simp only [Act.put, List.setIfInBounds_toArray, List.set_cons_zero, List.set_cons_succ]
  refine wpList_val (by kernel_rfl) (.bool q2) (by rw [E2.out]; go_simp; first | done | (by_cases h : as_ = bs_ <;> simp [h])) ?_
  simp only [Act.put, List.setIfInBounds_toArray, List.set_cons_zero, List.set_cons_succ]
  refine wpList_val (by kernel_rfl) (.bool q2) (exec_pick_f _ _ _ _ rfl (by kernel_rfl) (by kernel_rfl)) ?_
  simp only [Act.put, List.setIfInBounds_toArray, List.set_cons_zero, List.set_cons_succ]
  refine wpList_val (by kernel_rfl) (.bool q2) (exec_move _ _ rfl (by kernel_rfl)) ?_
  simp only [Act.put, List.setIfInBounds_toArray, List.set_cons_zero, List.set_cons_succ]
  rcases Bool.eq_false_or_eq_true q2 with hq | hq
  · subst hq
    refine wpList_coast (⟨#[.agg #[.int .i64 ak, .string ⟨at_.toArray⟩, .string ⟨as_.toArray⟩, .string ⟨an.toArray⟩, .slice va n ca, .int .i64 arlo, .int .i64 arhi, .int .i64 apraw, .int .i64 apmid, .int .i64 aplong, .string ⟨ahn.toArray⟩, .string ⟨ahs.toArray⟩, .int .i64 ahlo, .int .i64 ahhi, .int .i64 aby, .int .i64 act, .int .i64 aat], .agg #[.int .i64 bk, .string ⟨bt.toArray⟩, .string ⟨bs_.toArray⟩, .string ⟨bn.toArray⟩, .slice vb m cb, .int .i64 brlo, .int .i64 brhi, .int .i64 bpraw, .int .i64 bpmid, .int .i64 bplong, .string ⟨bhn.toArray⟩, .string ⟨bhs.toArray⟩, .int .i64 bhlo, .int .i64 bhhi, .int .i64 bby, .int .i64 bct, .int .i64 bat], .pointer (some ⟨w.heap.size, 0, none⟩), .pointer (some ⟨w.heap.size + 1, 0, none⟩), .bool false, undef, .pointer (some ⟨w.heap.size, 0, none⟩), .int .i64 ak, .pointer (some ⟨w.heap.size + 1, 0, none⟩), .int .i64 bk, .bool false, .bool false, .pointer (some ⟨w.heap.size, 1, none⟩), .string ⟨at_.toArray⟩, .pointer (some ⟨w.heap.size + 1, 1, none⟩), .string ⟨bt.toArray⟩, .bool false, .bool false, .bool false, .pointer (some ⟨w.heap.size, 2, none⟩), .string ⟨as_.toArray⟩, .pointer (some ⟨w.heap.size + 1, 2, none⟩), .string ⟨bs_.toArray⟩, .bool true, .bool true, .bool true, undef, undef, undef, undef, undef, .bool true, .bool true, undef, undef, undef, undef, undef, .bool true, .bool true, undef, undef, undef, undef, undef, .bool true, .bool true, undef, undef, undef, undef, undef, .bool true, .bool true, undef, undef, undef, undef, undef, .bool true, .bool true, undef, undef, undef, undef, undef, .bool true, .bool true, undef, undef, undef, undef, undef, .bool true, .bool true, undef, undef, undef, undef, undef, undef, undef, .bool true, undef, undef, undef, undef, undef, undef, undef, undef, undef, undef, undef, undef, undef, undef, undef, undef, undef, undef], []⟩) ?_ (by kernel_rfl)
    go_wp2_with fail
    refine bodyPost_ret (v := .bool false) (by exact results_tmp hres17.out _ _ _) (by kernel_rfl) ?_
    refine ⟨false, rfl, ⟨fun h => (Bool.false_ne_true h).elim, fun h => ?_⟩, cwa.out⟩
    obtain ⟨g0, g1, g2, g3, g4, g5, g6, g7, g8, g9, g10⟩ := h
    exact absurd g2 (of_decide_eq_true E2.out.symm)
  subst hq
  refine wpList_val (by kernel_rfl) _ (by go_simp <;> with_reducible rfl) ?_
  simp only [Act.put, List.setIfInBounds_toArray, List.set_cons_zero, List.set_cons_succ]
  refine wpList_ldG (by kernel_rfl) _ _ rfl (by kernel_rfl) ⟨w.heap.size, 3, none⟩ (by kernel_rfl) _ P3.out ?_
  simp only [Act.put, List.setIfInBounds_toArray, List.set_cons_zero, List.set_cons_succ]
  refine wpList_val (by kernel_rfl) _ (by go_simp <;> with_reducible rfl) ?_
  simp only [Act.put, List.setIfInBounds_toArray, List.set_cons_zero, List.set_cons_succ]
  refine wpList_ldG (by kernel_rfl) _ _ rfl (by kernel_rfl) ⟨w.heap.size + 1, 3, none⟩ (by kernel_rfl) _ Q3.out ?_
  simp only [Act.put, List.setIfInBounds_toArray, List.set_cons_zero, List.set_cons_succ]
  refine wpList_val (by kernel_rfl) (.bool q3) (by rw [E3.out]; go_simp; first | done | (by_cases h : an = bn <;> simp [h])) ?_
  simp only [Act.put, List.setIfInBounds_toArray, List.set_cons_zero, List.set_cons_succ]
  refine wpList_val (by kernel_rfl) (.bool q3) (exec_pick_f _ _ _ _ rfl (by kernel_rfl) (by kernel_rfl)) ?_
  simp only [Act.put, List.setIfInBounds_toArray, List.set_cons_zero, List.set_cons_succ]
  refine wpList_val (by kernel_rfl) (.bool q3) (exec_move _ _ rfl (by kernel_rfl)) ?_
  simp only [Act.put, List.setIfInBounds_toArray, List.set_cons_zero, List.set_cons_succ]
  rcases Bool.eq_false_or_eq_true q3 with hq | hq
  · subst hq
    refine wpList_coast (⟨#[.agg #[.int .i64 ak, .string ⟨at_.toArray⟩, .string ⟨as_.toArray⟩, .string ⟨an.toArray⟩, .slice va n ca, .int .i64 arlo, .int .i64 arhi, .int .i64 apraw, .int .i64 apmid, .int .i64 aplong, .string ⟨ahn.toArray⟩, .string ⟨ahs.toArray⟩, .int .i64 ahlo, .int .i64 ahhi, .int .i64 aby, .int .i64 act, .int .i64 aat], .agg #[.int .i64 bk, .string ⟨bt.toArray⟩, .string ⟨bs_.toArray⟩, .string ⟨bn.toArray⟩, .slice vb m cb, .int .i64 brlo, .int .i64 brhi, .int .i64 bpraw, .int .i64 bpmid, .int .i64 bplong, .string ⟨bhn.toArray⟩, .string ⟨bhs.toArray⟩, .int .i64 bhlo, .int .i64 bhhi, .int .i64 bby, .int .i64 bct, .int .i64 bat], .pointer (some ⟨w.heap.size, 0, none⟩), .pointer (some ⟨w.heap.size + 1, 0, none⟩), .bool false, undef, .pointer (some ⟨w.heap.size, 0, none⟩), .int .i64 ak, .pointer (some ⟨w.heap.size + 1, 0, none⟩), .int .i64 bk, .bool false, .bool false, .pointer (some ⟨w.heap.size, 1, none⟩), .string ⟨at_.toArray⟩, .pointer (some ⟨w.heap.size + 1, 1, none⟩), .string ⟨bt.toArray⟩, .bool false, .bool false, .bool false, .pointer (some ⟨w.heap.size, 2, none⟩), .string ⟨as_.toArray⟩, .pointer (some ⟨w.heap.size + 1, 2, none⟩), .string ⟨bs_.toArray⟩, .bool false, .bool false, .bool false, .pointer (some ⟨w.heap.size, 3, none⟩), .string ⟨an.toArray⟩, .pointer (some ⟨w.heap.size + 1, 3, none⟩), .string ⟨bn.toArray⟩, .bool true, .bool true, .bool true, undef, undef, undef, undef, undef, .bool true, .bool true, undef, undef, undef, undef, undef, .bool true, .bool true, undef, undef, undef, undef, undef, .bool true, .bool true, undef, undef, undef, undef, undef, .bool true, .bool true, undef, undef, undef, undef, undef, .bool true, .bool true, undef, undef, undef, undef, undef, .bool true, .bool true, undef, undef, undef, undef, undef, undef, undef, .bool true, undef, undef, undef, undef, undef, undef, undef, undef, undef, undef, undef, undef, undef, undef, undef, undef, undef, undef], []⟩) ?_ (by kernel_rfl)
    go_wp2_with fail
    refine bodyPost_ret (v := .bool false) (by exact results_tmp hres17.out _ _ _) (by kernel_rfl) ?_
    refine ⟨false, rfl, ⟨fun h => (Bool.false_ne_true h).elim, fun h => ?_⟩, cwa.out⟩
    obtain ⟨g0, g1, g2, g3, g4, g5, g6, g7, g8, g9, g10⟩ := h
    exact absurd g3 (of_decide_eq_true E3.out.symm)
  subst hq
  refine wpList_val (by kernel_rfl) _ (by go_simp <;> with_reducible rfl) ?_
  simp only [Act.put, List.setIfInBounds_toArray, List.set_cons_zero, List.set_cons_succ]
  refine wpList_val (by kernel_rfl) _ (exec_load _ _ (.pointer (some ⟨w.heap.size, 5, none⟩)) _ rfl (by kernel_rfl) Lra.out) ?_
  simp only [Act.put, List.setIfInBounds_toArray, List.set_cons_zero, List.set_cons_succ]
  refine wpList_val (by kernel_rfl) _ (by go_simp <;> with_reducible rfl) ?_
  simp only [Act.put, List.setIfInBounds_toArray, List.set_cons_zero, List.set_cons_succ]
  refine wpList_val (by kernel_rfl) _ (exec_load _ _ (.pointer (some ⟨w.heap.size + 1, 5, none⟩)) _ rfl (by kernel_rfl) Lrb.out) ?_
  simp only [Act.put, List.setIfInBounds_toArray, List.set_cons_zero, List.set_cons_succ]
  refine wpList_val (by kernel_rfl) (.bool q4) (by have hx := M4.out; go_simp) ?_
  simp only [Act.put, List.setIfInBounds_toArray, List.set_cons_zero, List.set_cons_succ]
  refine wpList_val (by kernel_rfl) (.bool q4) (exec_pick_f _ _ _ _ rfl (by kernel_rfl) (by kernel_rfl)) ?_
  simp only [Act.put, List.setIfInBounds_toArray, List.set_cons_zero, List.set_cons_succ]
  refine wpList_val (by kernel_rfl) (.bool q4) (exec_move _ _ rfl (by kernel_rfl)) ?_
  simp only [Act.put, List.setIfInBounds_toArray, List.set_cons_zero, List.set_cons_succ]
  rcases Bool.eq_false_or_eq_true q4 with hq | hq
  · subst hq
    refine wpList_coast (⟨#[.agg #[.int .i64 ak, .string ⟨at_.toArray⟩, .string ⟨as_.toArray⟩, .string ⟨an.toArray⟩, .slice va n ca, .int .i64 arlo, .int .i64 arhi, .int .i64 apraw, .int .i64 apmid, .int .i64 aplong, .string ⟨ahn.toArray⟩, .string ⟨ahs.toArray⟩, .int .i64 ahlo, .int .i64 ahhi, .int .i64 aby, .int .i64 act, .int .i64 aat], .agg #[.int .i64 bk, .string ⟨bt.toArray⟩, .string ⟨bs_.toArray⟩, .string ⟨bn.toArray⟩, .slice vb m cb, .int .i64 brlo, .int .i64 brhi, .int .i64 bpraw, .int .i64 bpmid, .int .i64 bplong, .string ⟨bhn.toArray⟩, .string ⟨bhs.toArray⟩, .int .i64 bhlo, .int .i64 bhhi, .int .i64 bby, .int .i64 bct, .int .i64 bat], .pointer (some ⟨w.heap.size, 0, none⟩), .pointer (some ⟨w.heap.size + 1, 0, none⟩), .bool false, undef, .pointer (some ⟨w.heap.size, 0, none⟩), .int .i64 ak, .pointer (some ⟨w.heap.size + 1, 0, none⟩), .int .i64 bk, .bool false, .bool false, .pointer (some ⟨w.heap.size, 1, none⟩), .string ⟨at_.toArray⟩, .pointer (some ⟨w.heap.size + 1, 1, none⟩), .string ⟨bt.toArray⟩, .bool false, .bool false, .bool false, .pointer (some ⟨w.heap.size, 2, none⟩), .string ⟨as_.toArray⟩, .pointer (some ⟨w.heap.size + 1, 2, none⟩), .string ⟨bs_.toArray⟩, .bool false, .bool false, .bool false, .pointer (some ⟨w.heap.size, 3, none⟩), .string ⟨an.toArray⟩, .pointer (some ⟨w.heap.size + 1, 3, none⟩), .string ⟨bn.toArray⟩, .bool false, .bool false, .bool false, .pointer (some ⟨w.heap.size, 5, none⟩), .agg #[.int .i64 arlo, .int .i64 arhi], .pointer (some ⟨w.heap.size + 1, 5, none⟩), .agg #[.int .i64 brlo, .int .i64 brhi], .bool true, .bool true, .bool true, undef, undef, undef, undef, undef, .bool true, .bool true, undef, undef, undef, undef, undef, .bool true, .bool true, undef, undef, undef, undef, undef, .bool true, .bool true, undef, undef, undef, undef, undef, .bool true, .bool true, undef, undef, undef, undef, undef, .bool true, .bool true, undef, undef, undef, undef, undef, undef, undef, .bool true, undef, undef, undef, undef, undef, undef, undef, undef, undef, undef, undef, undef, undef, undef, undef, undef, undef, undef], []⟩) ?_ (by kernel_rfl)
    go_wp2_with fail
    refine bodyPost_ret (v := .bool false) (by exact results_tmp hres17.out _ _ _) (by kernel_rfl) ?_
    refine ⟨false, rfl, ⟨fun h => (Bool.false_ne_true h).elim, fun h => ?_⟩, cwa.out⟩
    obtain ⟨g0, g1, g2, g3, g4, g5, g6, g7, g8, g9, g10⟩ := h
    exact absurd g4 (of_decide_eq_true E4.out.symm)
  subst hq
  refine wpList_val (by kernel_rfl) _ (by go_simp <;> with_reducible rfl) ?_
  simp only [Act.put, List.setIfInBounds_toArray, List.set_cons_zero, List.set_cons_succ]
  refine wpList_val (by kernel_rfl) _ (exec_load _ _ (.pointer (some ⟨w.heap.size, 7, none⟩)) _ rfl (by kernel_rfl) Lpa.out) ?_
  simp only [Act.put, List.setIfInBounds_toArray, List.set_cons_zero, List.set_cons_succ]
  refine wpList_val (by kernel_rfl) _ (by go_simp <;> with_reducible rfl) ?_
  simp only [Act.put, List.setIfInBounds_toArray, List.set_cons_zero, List.set_cons_succ]
  refine wpList_val (by kernel_rfl) _ (exec_load _ _ (.pointer (some ⟨w.heap.size + 1, 7, none⟩)) _ rfl (by kernel_rfl) Lpb.out) ?_
  simp only [Act.put, List.setIfInBounds_toArray, List.set_cons_zero, List.set_cons_succ]
  refine wpList_val (by kernel_rfl) (.bool q5) (by have hx := M5.out; go_simp) ?_
  simp only [Act.put, List.setIfInBounds_toArray, List.set_cons_zero, List.set_cons_succ]
  refine wpList_val (by kernel_rfl) (.bool q5) (exec_pick_f _ _ _ _ rfl (by kernel_rfl) (by kernel_rfl)) ?_
  simp only [Act.put, List.setIfInBounds_toArray, List.set_cons_zero, List.set_cons_succ]
  refine wpList_val (by kernel_rfl) (.bool q5) (exec_move _ _ rfl (by kernel_rfl)) ?_
  simp only [Act.put, List.setIfInBounds_toArray, List.set_cons_zero, List.set_cons_succ]
  rcases Bool.eq_false_or_eq_true q5 with hq | hq
  · subst hq
    refine wpList_coast (⟨#[.agg #[.int .i64 ak, .string ⟨at_.toArray⟩, .string ⟨as_.toArray⟩, .string ⟨an.toArray⟩, .slice va n ca, .int .i64 arlo, .int .i64 arhi, .int .i64 apraw, .int .i64 apmid, .int .i64 aplong, .string ⟨ahn.toArray⟩, .string ⟨ahs.toArray⟩, .int .i64 ahlo, .int .i64 ahhi, .int .i64 aby, .int .i64 act, .int .i64 aat], .agg #[.int .i64 bk, .string ⟨bt.toArray⟩, .string ⟨bs_.toArray⟩, .string ⟨bn.toArray⟩, .slice vb m cb, .int .i64 brlo, .int .i64 brhi, .int .i64 bpraw, .int .i64 bpmid, .int .i64 bplong, .string ⟨bhn.toArray⟩, .string ⟨bhs.toArray⟩, .int .i64 bhlo, .int .i64 bhhi, .int .i64 bby, .int .i64 bct, .int .i64 bat], .pointer (some ⟨w.heap.size, 0, none⟩), .pointer (some ⟨w.heap.size + 1, 0, none⟩), .bool false, undef, .pointer (some ⟨w.heap.size, 0, none⟩), .int .i64 ak, .pointer (some ⟨w.heap.size + 1, 0, none⟩), .int .i64 bk, .bool false, .bool false, .pointer (some ⟨w.heap.size, 1, none⟩), .string ⟨at_.toArray⟩, .pointer (some ⟨w.heap.size + 1, 1, none⟩), .string ⟨bt.toArray⟩, .bool false, .bool false, .bool false, .pointer (some ⟨w.heap.size, 2, none⟩), .string ⟨as_.toArray⟩, .pointer (some ⟨w.heap.size + 1, 2, none⟩), .string ⟨bs_.toArray⟩, .bool false, .bool false, .bool false, .pointer (some ⟨w.heap.size, 3, none⟩), .string ⟨an.toArray⟩, .pointer (some ⟨w.heap.size + 1, 3, none⟩), .string ⟨bn.toArray⟩, .bool false, .bool false, .bool false, .pointer (some ⟨w.heap.size, 5, none⟩), .agg #[.int .i64 arlo, .int .i64 arhi], .pointer (some ⟨w.heap.size + 1, 5, none⟩), .agg #[.int .i64 brlo, .int .i64 brhi], .bool false, .bool false, .bool false, .pointer (some ⟨w.heap.size, 7, none⟩), .agg #[.int .i64 apraw, .int .i64 apmid, .int .i64 aplong], .pointer (some ⟨w.heap.size + 1, 7, none⟩), .agg #[.int .i64 bpraw, .int .i64 bpmid, .int .i64 bplong], .bool true, .bool true, .bool true, undef, undef, undef, undef, undef, .bool true, .bool true, undef, undef, undef, undef, undef, .bool true, .bool true, undef, undef, undef, undef, undef, .bool true, .bool true, undef, undef, undef, undef, undef, .bool true, .bool true, undef, undef, undef, undef, undef, undef, undef, .bool true, undef, undef, undef, undef, undef, undef, undef, undef, undef, undef, undef, undef, undef, undef, undef, undef, undef, undef], []⟩) ?_ (by kernel_rfl)
    go_wp2_with fail
    refine bodyPost_ret (v := .bool false) (by exact results_tmp hres17.out _ _ _) (by kernel_rfl) ?_
    refine ⟨false, rfl, ⟨fun h => (Bool.false_ne_true h).elim, fun h => ?_⟩, cwa.out⟩
    obtain ⟨g0, g1, g2, g3, g4, g5, g6, g7, g8, g9, g10⟩ := h
    exact absurd g5 (of_decide_eq_true E5.out.symm)
  subst hq
  refine wpList_val (by kernel_rfl) _ (by go_simp <;> with_reducible rfl) ?_
  simp only [Act.put, List.setIfInBounds_toArray, List.set_cons_zero, List.set_cons_succ]
  refine wpList_val (by kernel_rfl) _ (exec_load _ _ (.pointer (some ⟨w.heap.size, 10, none⟩)) _ rfl (by kernel_rfl) Lha.out) ?_
  simp only [Act.put, List.setIfInBounds_toArray, List.set_cons_zero, List.set_cons_succ]
  refine wpList_val (by kernel_rfl) _ (by go_simp <;> with_reducible rfl) ?_
  simp only [Act.put, List.setIfInBounds_toArray, List.set_cons_zero, List.set_cons_succ]
  refine wpList_val (by kernel_rfl) _ (exec_load _ _ (.pointer (some ⟨w.heap.size + 1, 10, none⟩)) _ rfl (by kernel_rfl) Lhb.out) ?_
  simp only [Act.put, List.setIfInBounds_toArray, List.set_cons_zero, List.set_cons_succ]
  refine wpList_val (by kernel_rfl) (.bool q6) (by have hx := M6.out; go_simp) ?_
  simp only [Act.put, List.setIfInBounds_toArray, List.set_cons_zero, List.set_cons_succ]
  refine wpList_val (by kernel_rfl) (.bool q6) (exec_pick_f _ _ _ _ rfl (by kernel_rfl) (by kernel_rfl)) ?_
  simp only [Act.put, List.setIfInBounds_toArray, List.set_cons_zero, List.set_cons_succ]
  refine wpList_val (by kernel_rfl) (.bool q6) (exec_move _ _ rfl (by kernel_rfl)) ?_
  simp only [Act.put, List.setIfInBounds_toArray, List.set_cons_zero, List.set_cons_succ]
  rcases Bool.eq_false_or_eq_true q6 with hq | hq
  · subst hq
    refine wpList_coast (⟨#[.agg #[.int .i64 ak, .string ⟨at_.toArray⟩, .string ⟨as_.toArray⟩, .string ⟨an.toArray⟩, .slice va n ca, .int .i64 arlo, .int .i64 arhi, .int .i64 apraw, .int .i64 apmid, .int .i64 aplong, .string ⟨ahn.toArray⟩, .string ⟨ahs.toArray⟩, .int .i64 ahlo, .int .i64 ahhi, .int .i64 aby, .int .i64 act, .int .i64 aat], .agg #[.int .i64 bk, .string ⟨bt.toArray⟩, .string ⟨bs_.toArray⟩, .string ⟨bn.toArray⟩, .slice vb m cb, .int .i64 brlo, .int .i64 brhi, .int .i64 bpraw, .int .i64 bpmid, .int .i64 bplong, .string ⟨bhn.toArray⟩, .string ⟨bhs.toArray⟩, .int .i64 bhlo, .int .i64 bhhi, .int .i64 bby, .int .i64 bct, .int .i64 bat], .pointer (some ⟨w.heap.size, 0, none⟩), .pointer (some ⟨w.heap.size + 1, 0, none⟩), .bool false, undef, .pointer (some ⟨w.heap.size, 0, none⟩), .int .i64 ak, .pointer (some ⟨w.heap.size + 1, 0, none⟩), .int .i64 bk, .bool false, .bool false, .pointer (some ⟨w.heap.size, 1, none⟩), .string ⟨at_.toArray⟩, .pointer (some ⟨w.heap.size + 1, 1, none⟩), .string ⟨bt.toArray⟩, .bool false, .bool false, .bool false, .pointer (some ⟨w.heap.size, 2, none⟩), .string ⟨as_.toArray⟩, .pointer (some ⟨w.heap.size + 1, 2, none⟩), .string ⟨bs_.toArray⟩, .bool false, .bool false, .bool false, .pointer (some ⟨w.heap.size, 3, none⟩), .string ⟨an.toArray⟩, .pointer (some ⟨w.heap.size + 1, 3, none⟩), .string ⟨bn.toArray⟩, .bool false, .bool false, .bool false, .pointer (some ⟨w.heap.size, 5, none⟩), .agg #[.int .i64 arlo, .int .i64 arhi], .pointer (some ⟨w.heap.size + 1, 5, none⟩), .agg #[.int .i64 brlo, .int .i64 brhi], .bool false, .bool false, .bool false, .pointer (some ⟨w.heap.size, 7, none⟩), .agg #[.int .i64 apraw, .int .i64 apmid, .int .i64 aplong], .pointer (some ⟨w.heap.size + 1, 7, none⟩), .agg #[.int .i64 bpraw, .int .i64 bpmid, .int .i64 bplong], .bool false, .bool false, .bool false, .pointer (some ⟨w.heap.size, 10, none⟩), .agg #[.string ⟨ahn.toArray⟩, .string ⟨ahs.toArray⟩, .int .i64 ahlo, .int .i64 ahhi], .pointer (some ⟨w.heap.size + 1, 10, none⟩), .agg #[.string ⟨bhn.toArray⟩, .string ⟨bhs.toArray⟩, .int .i64 bhlo, .int .i64 bhhi], .bool true, .bool true, .bool true, undef, undef, undef, undef, undef, .bool true, .bool true, undef, undef, undef, undef, undef, .bool true, .bool true, undef, undef, undef, undef, undef, .bool true, .bool true, undef, undef, undef, undef, undef, undef, undef, .bool true, undef, undef, undef, undef, undef, undef, undef, undef, undef, undef, undef, undef, undef, undef, undef, undef, undef, undef], []⟩) ?_ (by kernel_rfl)
    go_wp2_with fail
    refine bodyPost_ret (v := .bool false) (by exact results_tmp hres17.out _ _ _) (by kernel_rfl) ?_
    refine ⟨false, rfl, ⟨fun h => (Bool.false_ne_true h).elim, fun h => ?_⟩, cwa.out⟩
    obtain ⟨g0, g1, g2, g3, g4, g5, g6, g7, g8, g9, g10⟩ := h
    exact absurd g6 (of_decide_eq_true E6.out.symm)
  subst hq
  refine wpList_val (by kernel_rfl) _ (by go_simp <;> with_reducible rfl) ?_
  simp only [Act.put, List.setIfInBounds_toArray, List.set_cons_zero, List.set_cons_succ]
  refine wpList_ldG (by kernel_rfl) _ _ rfl (by kernel_rfl) ⟨w.heap.size, 14, none⟩ (by kernel_rfl) _ P14.out ?_
  simp only [Act.put, List.setIfInBounds_toArray, List.set_cons_zero, List.set_cons_succ]
  refine wpList_val (by kernel_rfl) _ (by go_simp <;> with_reducible rfl) ?_
  simp only [Act.put, List.setIfInBounds_toArray, List.set_cons_zero, List.set_cons_succ]
  refine wpList_ldG (by kernel_rfl) _ _ rfl (by kernel_rfl) ⟨w.heap.size + 1, 14, none⟩ (by kernel_rfl) _ Q14.out ?_
  simp only [Act.put, List.setIfInBounds_toArray, List.set_cons_zero, List.set_cons_succ]
  refine wpList_val (by kernel_rfl) (.bool q7) (by rw [E7.out]; go_simp; first | done | (by_cases h : aby = bby <;> simp [h])) ?_
  simp only [Act.put, List.setIfInBounds_toArray, List.set_cons_zero, List.set_cons_succ]
  refine wpList_val (by kernel_rfl) (.bool q7) (exec_pick_f _ _ _ _ rfl (by kernel_rfl) (by kernel_rfl)) ?_
  simp only [Act.put, List.setIfInBounds_toArray, List.set_cons_zero, List.set_cons_succ]
  refine wpList_val (by kernel_rfl) (.bool q7) (exec_move _ _ rfl (by kernel_rfl)) ?_
  simp only [Act.put, List.setIfInBounds_toArray, List.set_cons_zero, List.set_cons_succ]
  rcases Bool.eq_false_or_eq_true q7 with hq | hq
  · subst hq
    refine wpList_coast (⟨#[.agg #[.int .i64 ak, .string ⟨at_.toArray⟩, .string ⟨as_.toArray⟩, .string ⟨an.toArray⟩, .slice va n ca, .int .i64 arlo, .int .i64 arhi, .int .i64 apraw, .int .i64 apmid, .int .i64 aplong, .string ⟨ahn.toArray⟩, .string ⟨ahs.toArray⟩, .int .i64 ahlo, .int .i64 ahhi, .int .i64 aby, .int .i64 act, .int .i64 aat], .agg #[.int .i64 bk, .string ⟨bt.toArray⟩, .string ⟨bs_.toArray⟩, .string ⟨bn.toArray⟩, .slice vb m cb, .int .i64 brlo, .int .i64 brhi, .int .i64 bpraw, .int .i64 bpmid, .int .i64 bplong, .string ⟨bhn.toArray⟩, .string ⟨bhs.toArray⟩, .int .i64 bhlo, .int .i64 bhhi, .int .i64 bby, .int .i64 bct, .int .i64 bat], .pointer (some ⟨w.heap.size, 0, none⟩), .pointer (some ⟨w.heap.size + 1, 0, none⟩), .bool false, undef, .pointer (some ⟨w.heap.size, 0, none⟩), .int .i64 ak, .pointer (some ⟨w.heap.size + 1, 0, none⟩), .int .i64 bk, .bool false, .bool false, .pointer (some ⟨w.heap.size, 1, none⟩), .string ⟨at_.toArray⟩, .pointer (some ⟨w.heap.size + 1, 1, none⟩), .string ⟨bt.toArray⟩, .bool false, .bool false, .bool false, .pointer (some ⟨w.heap.size, 2, none⟩), .string ⟨as_.toArray⟩, .pointer (some ⟨w.heap.size + 1, 2, none⟩), .string ⟨bs_.toArray⟩, .bool false, .bool false, .bool false, .pointer (some ⟨w.heap.size, 3, none⟩), .string ⟨an.toArray⟩, .pointer (some ⟨w.heap.size + 1, 3, none⟩), .string ⟨bn.toArray⟩, .bool false, .bool false, .bool false, .pointer (some ⟨w.heap.size, 5, none⟩), .agg #[.int .i64 arlo, .int .i64 arhi], .pointer (some ⟨w.heap.size + 1, 5, none⟩), .agg #[.int .i64 brlo, .int .i64 brhi], .bool false, .bool false, .bool false, .pointer (some ⟨w.heap.size, 7, none⟩), .agg #[.int .i64 apraw, .int .i64 apmid, .int .i64 aplong], .pointer (some ⟨w.heap.size + 1, 7, none⟩), .agg #[.int .i64 bpraw, .int .i64 bpmid, .int .i64 bplong], .bool false, .bool false, .bool false, .pointer (some ⟨w.heap.size, 10, none⟩), .agg #[.string ⟨ahn.toArray⟩, .string ⟨ahs.toArray⟩, .int .i64 ahlo, .int .i64 ahhi], .pointer (some ⟨w.heap.size + 1, 10, none⟩), .agg #[.string ⟨bhn.toArray⟩, .string ⟨bhs.toArray⟩, .int .i64 bhlo, .int .i64 bhhi], .bool false, .bool false, .bool false, .pointer (some ⟨w.heap.size, 14, none⟩), .int .i64 aby, .pointer (some ⟨w.heap.size + 1, 14, none⟩), .int .i64 bby, .bool true, .bool true, .bool true, undef, undef, undef, undef, undef, .bool true, .bool true, undef, undef, undef, undef, undef, .bool true, .bool true, undef, undef, undef, undef, undef, undef, undef, .bool true, undef, undef, undef, undef, undef, undef, undef, undef, undef, undef, undef, undef, undef, undef, undef, undef, undef, undef], []⟩) ?_ (by kernel_rfl)
    go_wp2_with fail
    refine bodyPost_ret (v := .bool false) (by exact results_tmp hres17.out _ _ _) (by kernel_rfl) ?_
    refine ⟨false, rfl, ⟨fun h => (Bool.false_ne_true h).elim, fun h => ?_⟩, cwa.out⟩
    obtain ⟨g0, g1, g2, g3, g4, g5, g6, g7, g8, g9, g10⟩ := h
    exact absurd g7 (of_decide_eq_true E7.out.symm)
  subst hq
  refine wpList_val (by kernel_rfl) _ (by go_simp <;> with_reducible rfl) ?_
  simp only [Act.put, List.setIfInBounds_toArray, List.set_cons_zero, List.set_cons_succ]
  refine wpList_ldG (by kernel_rfl) _ _ rfl (by kernel_rfl) ⟨w.heap.size, 15, none⟩ (by kernel_rfl) _ P15.out ?_
  simp only [Act.put, List.setIfInBounds_toArray, List.set_cons_zero, List.set_cons_succ]
  refine wpList_val (by kernel_rfl) _ (by go_simp <;> with_reducible rfl) ?_
  simp only [Act.put, List.setIfInBounds_toArray, List.set_cons_zero, List.set_cons_succ]
  refine wpList_ldG (by kernel_rfl) _ _ rfl (by kernel_rfl) ⟨w.heap.size + 1, 15, none⟩ (by kernel_rfl) _ Q15.out ?_
  simp only [Act.put, List.setIfInBounds_toArray, List.set_cons_zero, List.set_cons_succ]
  refine wpList_val (by kernel_rfl) (.bool q8) (by rw [E8.out]; go_simp; first | done | (by_cases h : act = bct <;> simp [h])) ?_
  simp only [Act.put, List.setIfInBounds_toArray, List.set_cons_zero, List.set_cons_succ]
  refine wpList_val (by kernel_rfl) (.bool q8) (exec_pick_f _ _ _ _ rfl (by kernel_rfl) (by kernel_rfl)) ?_
  simp only [Act.put, List.setIfInBounds_toArray, List.set_cons_zero, List.set_cons_succ]
  refine wpList_val (by kernel_rfl) (.bool q8) (exec_move _ _ rfl (by kernel_rfl)) ?_
  simp only [Act.put, List.setIfInBounds_toArray, List.set_cons_zero, List.set_cons_succ]
  rcases Bool.eq_false_or_eq_true q8 with hq | hq
  · subst hq
    refine wpList_coast (⟨#[.agg #[.int .i64 ak, .string ⟨at_.toArray⟩, .string ⟨as_.toArray⟩, .string ⟨an.toArray⟩, .slice va n ca, .int .i64 arlo, .int .i64 arhi, .int .i64 apraw, .int .i64 apmid, .int .i64 aplong, .string ⟨ahn.toArray⟩, .string ⟨ahs.toArray⟩, .int .i64 ahlo, .int .i64 ahhi, .int .i64 aby, .int .i64 act, .int .i64 aat], .agg #[.int .i64 bk, .string ⟨bt.toArray⟩, .string ⟨bs_.toArray⟩, .string ⟨bn.toArray⟩, .slice vb m cb, .int .i64 brlo, .int .i64 brhi, .int .i64 bpraw, .int .i64 bpmid, .int .i64 bplong, .string ⟨bhn.toArray⟩, .string ⟨bhs.toArray⟩, .int .i64 bhlo, .int .i64 bhhi, .int .i64 bby, .int .i64 bct, .int .i64 bat], .pointer (some ⟨w.heap.size, 0, none⟩), .pointer (some ⟨w.heap.size + 1, 0, none⟩), .bool false, undef, .pointer (some ⟨w.heap.size, 0, none⟩), .int .i64 ak, .pointer (some ⟨w.heap.size + 1, 0, none⟩), .int .i64 bk, .bool false, .bool false, .pointer (some ⟨w.heap.size, 1, none⟩), .string ⟨at_.toArray⟩, .pointer (some ⟨w.heap.size + 1, 1, none⟩), .string ⟨bt.toArray⟩, .bool false, .bool false, .bool false, .pointer (some ⟨w.heap.size, 2, none⟩), .string ⟨as_.toArray⟩, .pointer (some ⟨w.heap.size + 1, 2, none⟩), .string ⟨bs_.toArray⟩, .bool false, .bool false, .bool false, .pointer (some ⟨w.heap.size, 3, none⟩), .string ⟨an.toArray⟩, .pointer (some ⟨w.heap.size + 1, 3, none⟩), .string ⟨bn.toArray⟩, .bool false, .bool false, .bool false, .pointer (some ⟨w.heap.size, 5, none⟩), .agg #[.int .i64 arlo, .int .i64 arhi], .pointer (some ⟨w.heap.size + 1, 5, none⟩), .agg #[.int .i64 brlo, .int .i64 brhi], .bool false, .bool false, .bool false, .pointer (some ⟨w.heap.size, 7, none⟩), .agg #[.int .i64 apraw, .int .i64 apmid, .int .i64 aplong], .pointer (some ⟨w.heap.size + 1, 7, none⟩), .agg #[.int .i64 bpraw, .int .i64 bpmid, .int .i64 bplong], .bool false, .bool false, .bool false, .pointer (some ⟨w.heap.size, 10, none⟩), .agg #[.string ⟨ahn.toArray⟩, .string ⟨ahs.toArray⟩, .int .i64 ahlo, .int .i64 ahhi], .pointer (some ⟨w.heap.size + 1, 10, none⟩), .agg #[.string ⟨bhn.toArray⟩, .string ⟨bhs.toArray⟩, .int .i64 bhlo, .int .i64 bhhi], .bool false, .bool false, .bool false, .pointer (some ⟨w.heap.size, 14, none⟩), .int .i64 aby, .pointer (some ⟨w.heap.size + 1, 14, none⟩), .int .i64 bby, .bool false, .bool false, .bool false, .pointer (some ⟨w.heap.size, 15, none⟩), .int .i64 act, .pointer (some ⟨w.heap.size + 1, 15, none⟩), .int .i64 bct, .bool true, .bool true, .bool true, undef, undef, undef, undef, undef, .bool true, .bool true, undef, undef, undef, undef, undef, undef, undef, .bool true, undef, undef, undef, undef, undef, undef, undef, undef, undef, undef, undef, undef, undef, undef, undef, undef, undef, undef], []⟩) ?_ (by kernel_rfl)
    go_wp2_with fail
    refine bodyPost_ret (v := .bool false) (by exact results_tmp hres17.out _ _ _) (by kernel_rfl) ?_
    refine ⟨false, rfl, ⟨fun h => (Bool.false_ne_true h).elim, fun h => ?_⟩, cwa.out⟩
    obtain ⟨g0, g1, g2, g3, g4, g5, g6, g7, g8, g9, g10⟩ := h
    exact absurd g8 (of_decide_eq_true E8.out.symm)
  subst hq
  refine wpList_val (by kernel_rfl) _ (by go_simp <;> with_reducible rfl) ?_
  simp only [Act.put, List.setIfInBounds_toArray, List.set_cons_zero, List.set_cons_succ]
  refine wpList_ldG (by kernel_rfl) _ _ rfl (by kernel_rfl) ⟨w.heap.size, 16, none⟩ (by kernel_rfl) _ P16.out ?_
  simp only [Act.put, List.setIfInBounds_toArray, List.set_cons_zero, List.set_cons_succ]
  refine wpList_val (by kernel_rfl) _ (by go_simp <;> with_reducible rfl) ?_
  simp only [Act.put, List.setIfInBounds_toArray, List.set_cons_zero, List.set_cons_succ]
  refine wpList_ldG (by kernel_rfl) _ _ rfl (by kernel_rfl) ⟨w.heap.size + 1, 16, none⟩ (by kernel_rfl) _ Q16.out ?_
  simp only [Act.put, List.setIfInBounds_toArray, List.set_cons_zero, List.set_cons_succ]
  refine wpList_val (by kernel_rfl) (.bool q9) (by rw [E9.out]; go_simp; first | done | (by_cases h : aat = bat <;> simp [h])) ?_
  simp only [Act.put, List.setIfInBounds_toArray, List.set_cons_zero, List.set_cons_succ]
  refine wpList_val (by kernel_rfl) (.bool q9) (exec_pick_f _ _ _ _ rfl (by kernel_rfl) (by kernel_rfl)) ?_
  simp only [Act.put, List.setIfInBounds_toArray, List.set_cons_zero, List.set_cons_succ]
  refine wpList_val (by kernel_rfl) (.bool q9) (exec_move _ _ rfl (by kernel_rfl)) ?_
  simp only [Act.put, List.setIfInBounds_toArray, List.set_cons_zero, List.set_cons_succ]
  rcases Bool.eq_false_or_eq_true q9 with hq | hq
  · subst hq
    refine wpList_coast (⟨#[.agg #[.int .i64 ak, .string ⟨at_.toArray⟩, .string ⟨as_.toArray⟩, .string ⟨an.toArray⟩, .slice va n ca, .int .i64 arlo, .int .i64 arhi, .int .i64 apraw, .int .i64 apmid, .int .i64 aplong, .string ⟨ahn.toArray⟩, .string ⟨ahs.toArray⟩, .int .i64 ahlo, .int .i64 ahhi, .int .i64 aby, .int .i64 act, .int .i64 aat], .agg #[.int .i64 bk, .string ⟨bt.toArray⟩, .string ⟨bs_.toArray⟩, .string ⟨bn.toArray⟩, .slice vb m cb, .int .i64 brlo, .int .i64 brhi, .int .i64 bpraw, .int .i64 bpmid, .int .i64 bplong, .string ⟨bhn.toArray⟩, .string ⟨bhs.toArray⟩, .int .i64 bhlo, .int .i64 bhhi, .int .i64 bby, .int .i64 bct, .int .i64 bat], .pointer (some ⟨w.heap.size, 0, none⟩), .pointer (some ⟨w.heap.size + 1, 0, none⟩), .bool false, undef, .pointer (some ⟨w.heap.size, 0, none⟩), .int .i64 ak, .pointer (some ⟨w.heap.size + 1, 0, none⟩), .int .i64 bk, .bool false, .bool false, .pointer (some ⟨w.heap.size, 1, none⟩), .string ⟨at_.toArray⟩, .pointer (some ⟨w.heap.size + 1, 1, none⟩), .string ⟨bt.toArray⟩, .bool false, .bool false, .bool false, .pointer (some ⟨w.heap.size, 2, none⟩), .string ⟨as_.toArray⟩, .pointer (some ⟨w.heap.size + 1, 2, none⟩), .string ⟨bs_.toArray⟩, .bool false, .bool false, .bool false, .pointer (some ⟨w.heap.size, 3, none⟩), .string ⟨an.toArray⟩, .pointer (some ⟨w.heap.size + 1, 3, none⟩), .string ⟨bn.toArray⟩, .bool false, .bool false, .bool false, .pointer (some ⟨w.heap.size, 5, none⟩), .agg #[.int .i64 arlo, .int .i64 arhi], .pointer (some ⟨w.heap.size + 1, 5, none⟩), .agg #[.int .i64 brlo, .int .i64 brhi], .bool false, .bool false, .bool false, .pointer (some ⟨w.heap.size, 7, none⟩), .agg #[.int .i64 apraw, .int .i64 apmid, .int .i64 aplong], .pointer (some ⟨w.heap.size + 1, 7, none⟩), .agg #[.int .i64 bpraw, .int .i64 bpmid, .int .i64 bplong], .bool false, .bool false, .bool false, .pointer (some ⟨w.heap.size, 10, none⟩), .agg #[.string ⟨ahn.toArray⟩, .string ⟨ahs.toArray⟩, .int .i64 ahlo, .int .i64 ahhi], .pointer (some ⟨w.heap.size + 1, 10, none⟩), .agg #[.string ⟨bhn.toArray⟩, .string ⟨bhs.toArray⟩, .int .i64 bhlo, .int .i64 bhhi], .bool false, .bool false, .bool false, .pointer (some ⟨w.heap.size, 14, none⟩), .int .i64 aby, .pointer (some ⟨w.heap.size + 1, 14, none⟩), .int .i64 bby, .bool false, .bool false, .bool false, .pointer (some ⟨w.heap.size, 15, none⟩), .int .i64 act, .pointer (some ⟨w.heap.size + 1, 15, none⟩), .int .i64 bct, .bool false, .bool false, .bool false, .pointer (some ⟨w.heap.size, 16, none⟩), .int .i64 aat, .pointer (some ⟨w.heap.size + 1, 16, none⟩), .int .i64 bat, .bool true, .bool true, .bool true, undef, undef, undef, undef, undef, undef, undef, .bool true, undef, undef, undef, undef, undef, undef, undef, undef, undef, undef, undef, undef, undef, undef, undef, undef, undef, undef], []⟩) ?_ (by kernel_rfl)
    go_wp2_with fail
    refine bodyPost_ret (v := .bool false) (by exact results_tmp hres17.out _ _ _) (by kernel_rfl) ?_
    refine ⟨false, rfl, ⟨fun h => (Bool.false_ne_true h).elim, fun h => ?_⟩, cwa.out⟩
    obtain ⟨g0, g1, g2, g3, g4, g5, g6, g7, g8, g9, g10⟩ := h
    exact absurd g9 (of_decide_eq_true E9.out.symm)
  subst hq
  refine wpList_val (by kernel_rfl) _ (by go_simp <;> with_reducible rfl) ?_
  simp only [Act.put, List.setIfInBounds_toArray, List.set_cons_zero, List.set_cons_succ]
  refine wpList_ldG (by kernel_rfl) _ _ rfl (by kernel_rfl) ⟨w.heap.size, 4, none⟩ (by kernel_rfl) _ P4.out ?_
  simp only [Act.put, List.setIfInBounds_toArray, List.set_cons_zero, List.set_cons_succ]
  refine wpList_val (by kernel_rfl) _ (by go_simp <;> with_reducible rfl) ?_
  simp only [Act.put, List.setIfInBounds_toArray, List.set_cons_zero, List.set_cons_succ]
  refine wpList_val (by kernel_rfl) _ (by go_simp <;> with_reducible rfl) ?_
  simp only [Act.put, List.setIfInBounds_toArray, List.set_cons_zero, List.set_cons_succ]
  refine wpList_ldG (by kernel_rfl) _ _ rfl (by kernel_rfl) ⟨w.heap.size + 1, 4, none⟩ (by kernel_rfl) _ Q4.out ?_
  simp only [Act.put, List.setIfInBounds_toArray, List.set_cons_zero, List.set_cons_succ]
  refine wpList_val (by kernel_rfl) _ (by go_simp <;> with_reducible rfl) ?_
  simp only [Act.put, List.setIfInBounds_toArray, List.set_cons_zero, List.set_cons_succ]
  refine wpList_val (by kernel_rfl) (.bool q10) (by rw [E10.out]; go_simp; first | done | (by_cases h : (n : Int) = (m : Int) <;> simp [h])) ?_
  simp only [Act.put, List.setIfInBounds_toArray, List.set_cons_zero, List.set_cons_succ]
  refine wpList_val (by kernel_rfl) (.bool q10) (exec_pick_f _ _ _ _ rfl (by kernel_rfl) (by kernel_rfl)) ?_
  simp only [Act.put, List.setIfInBounds_toArray, List.set_cons_zero, List.set_cons_succ]
  rcases Bool.eq_false_or_eq_true q10 with hq | hq
  · subst hq
    refine wpList_coast (⟨#[.agg #[.int .i64 ak, .string ⟨at_.toArray⟩, .string ⟨as_.toArray⟩, .string ⟨an.toArray⟩, .slice va n ca, .int .i64 arlo, .int .i64 arhi, .int .i64 apraw, .int .i64 apmid, .int .i64 aplong, .string ⟨ahn.toArray⟩, .string ⟨ahs.toArray⟩, .int .i64 ahlo, .int .i64 ahhi, .int .i64 aby, .int .i64 act, .int .i64 aat], .agg #[.int .i64 bk, .string ⟨bt.toArray⟩, .string ⟨bs_.toArray⟩, .string ⟨bn.toArray⟩, .slice vb m cb, .int .i64 brlo, .int .i64 brhi, .int .i64 bpraw, .int .i64 bpmid, .int .i64 bplong, .string ⟨bhn.toArray⟩, .string ⟨bhs.toArray⟩, .int .i64 bhlo, .int .i64 bhhi, .int .i64 bby, .int .i64 bct, .int .i64 bat], .pointer (some ⟨w.heap.size, 0, none⟩), .pointer (some ⟨w.heap.size + 1, 0, none⟩), .bool false, undef, .pointer (some ⟨w.heap.size, 0, none⟩), .int .i64 ak, .pointer (some ⟨w.heap.size + 1, 0, none⟩), .int .i64 bk, .bool false, .bool false, .pointer (some ⟨w.heap.size, 1, none⟩), .string ⟨at_.toArray⟩, .pointer (some ⟨w.heap.size + 1, 1, none⟩), .string ⟨bt.toArray⟩, .bool false, .bool false, .bool false, .pointer (some ⟨w.heap.size, 2, none⟩), .string ⟨as_.toArray⟩, .pointer (some ⟨w.heap.size + 1, 2, none⟩), .string ⟨bs_.toArray⟩, .bool false, .bool false, .bool false, .pointer (some ⟨w.heap.size, 3, none⟩), .string ⟨an.toArray⟩, .pointer (some ⟨w.heap.size + 1, 3, none⟩), .string ⟨bn.toArray⟩, .bool false, .bool false, .bool false, .pointer (some ⟨w.heap.size, 5, none⟩), .agg #[.int .i64 arlo, .int .i64 arhi], .pointer (some ⟨w.heap.size + 1, 5, none⟩), .agg #[.int .i64 brlo, .int .i64 brhi], .bool false, .bool false, .bool false, .pointer (some ⟨w.heap.size, 7, none⟩), .agg #[.int .i64 apraw, .int .i64 apmid, .int .i64 aplong], .pointer (some ⟨w.heap.size + 1, 7, none⟩), .agg #[.int .i64 bpraw, .int .i64 bpmid, .int .i64 bplong], .bool false, .bool false, .bool false, .pointer (some ⟨w.heap.size, 10, none⟩), .agg #[.string ⟨ahn.toArray⟩, .string ⟨ahs.toArray⟩, .int .i64 ahlo, .int .i64 ahhi], .pointer (some ⟨w.heap.size + 1, 10, none⟩), .agg #[.string ⟨bhn.toArray⟩, .string ⟨bhs.toArray⟩, .int .i64 bhlo, .int .i64 bhhi], .bool false, .bool false, .bool false, .pointer (some ⟨w.heap.size, 14, none⟩), .int .i64 aby, .pointer (some ⟨w.heap.size + 1, 14, none⟩), .int .i64 bby, .bool false, .bool false, .bool false, .pointer (some ⟨w.heap.size, 15, none⟩), .int .i64 act, .pointer (some ⟨w.heap.size + 1, 15, none⟩), .int .i64 bct, .bool false, .bool false, .bool false, .pointer (some ⟨w.heap.size, 16, none⟩), .int .i64 aat, .pointer (some ⟨w.heap.size + 1, 16, none⟩), .int .i64 bat, .bool false, .bool false, .bool false, .pointer (some ⟨w.heap.size, 4, none⟩), .slice va n ca, .int .i64 (n : Nat), .pointer (some ⟨w.heap.size + 1, 4, none⟩), .slice vb m cb, .int .i64 (m : Nat), .bool true, .bool true, undef, undef, undef, undef, undef, undef, undef, undef, undef, undef, undef, undef, undef, undef, undef, undef, undef, undef], []⟩) ?_ (by kernel_rfl)
    go_wp2_with fail
    refine bodyPost_ret (v := .bool false) (by exact results_tmp hres17.out _ _ _) (by kernel_rfl) ?_
    refine ⟨false, rfl, ⟨fun h => (Bool.false_ne_true h).elim, fun h => ?_⟩, cwa.out⟩
    obtain ⟨g0, g1, g2, g3, g4, g5, g6, g7, g8, g9, g10⟩ := h
    exact absurd (by rw [HN.out, HM.out, g10]) (of_decide_eq_true E10.out.symm)
  subst hq
  refine wpList_nil ?_
  have p4 := P4.out
  go_wp2_with fail
  clear p4
  have HH : Hid (ak = bk ∧ at_ = bt ∧ as_ = bs_ ∧ an = bn ∧ (arlo = brlo ∧ arhi = brhi) ∧ (apraw = bpraw ∧ apmid = bpmid ∧ aplong = bplong) ∧ (ahn = bhn ∧ ahs = bhs ∧ ahlo = bhlo ∧ ahhi = bhhi) ∧ aby = bby ∧ act = bct ∧ aat = bat ∧ ps.length = qs.length) := by
    have f0 := E0.out; have f1 := E1.out; have f2 := E2.out; have f3 := E3.out; have f4 := E4.out; have f5 := E5.out; have f6 := E6.out; have f7 := E7.out; have f8 := E8.out; have f9 := E9.out; have f10 := E10.out
    have g : ∀ {p : Prop} [Decidable p], false = decide (¬ p) → p := fun h => Classical.byContradiction fun hn => by rw [decide_eq_true hn] at h; cases h
    exact ⟨g f0, g f1, g f2, g f3, g f4, g f5, g f6, g f7, g f8, g f9, by rw [← HN.out, ← HM.out]; exact Int.ofNat.inj (g f10)⟩
  clear E0 E1 E2 E3 E4 E5 E6 E7 E8 E9 E10 M0 M1 M2 M3 M4 M5 M6 M7 M8 M9 M10 Lra Lrb Lpa Lpb Lha Lhb P0 P1 P2 P3 P14 P15 P16 Q0 Q1 Q2 Q3 Q14 Q15 Q16
  go_loopw [5, 86] (fun _ i wr => ∃ k : Nat, k ≤ n ∧ i = .int .i64 k ∧ Hid (∀ j, j < k → ps[j]? = qs[j]?) ∧ Hid (Chg (fun _ => False) wa wr)) (fun _ i _ => n - (intOf i).toNat)
  case atStart => exact ⟨0, by omega, rfl, fun j hj => by omega, Chg.refl _ _⟩
  case round =>
    obtain ⟨k, hk, rfl, hE, hG⟩ := hrel
    have p4 := hG.out.cell P4.out (fun h => h)
    have q4 := hG.out.cell Q4.out (fun h => h)
    by_cases hlt : k < n
    · have hmk : k < m := by have := HH.out.2.2.2.2.2.2.2.2.2.2; rw [← HN.out, ← HM.out] at this; omega
      have hvr := HVA.out.kept hG.out (fun _ _ h => h)
      have hvs := HVB.out.kept hG.out (fun _ _ h => h)
      obtain ⟨p, hpk⟩ : ∃ p, ps[k]? = some p := ⟨_, List.getElem?_eq_getElem (by rw [← HN.out]; exact hlt)⟩
      obtain ⟨q, hqk⟩ : ∃ q, qs[k]? = some q := ⟨_, List.getElem?_eq_getElem (by rw [← HM.out]; exact hmk)⟩
      obtain ⟨g, o, rfl⟩ : ∃ g o, va = some ⟨g, o, none⟩ := by
        rcases hvr.2 with ⟨hv, h0⟩ | ⟨g, o, c', hv, _⟩
        · omega
        · simp only [Value.slice.injEq] at hv; exact ⟨g, o, hv.1⟩
      obtain ⟨g2, o2, rfl⟩ : ∃ g o, vb = some ⟨g, o, none⟩ := by
        rcases hvs.2 with ⟨hv, h0⟩ | ⟨g, o, c', hv, _⟩
        · omega
        · simp only [Value.slice.injEq] at hv; exact ⟨g, o, hv.1⟩
      have hcell : ∀ c u, c < 2 → p.cells[c]? = some u → wr.cell? ⟨g, o + (k * 2 + c), none⟩ = some u := by
        intro c u hc hu
        rcases hvr.2 with ⟨hv, h0⟩ | ⟨g', o', c', hv, _, _, _, h4⟩
        · simp at hv
        · simp only [Value.slice.injEq, Option.some.injEq, Addr.mk.injEq, and_true] at hv
          obtain ⟨⟨rfl, rfl⟩, _⟩ := hv
          exact h4 (k * 2 + c) u (by rw [rows_at (s := 2) (f := Pnt.cells) ps (fun _ _ => rfl) k c p hpk hc]; exact hu)
      have hcelq : ∀ c u, c < 2 → q.cells[c]? = some u → wr.cell? ⟨g2, o2 + (k * 2 + c), none⟩ = some u := by
        intro c u hc hu
        rcases hvs.2 with ⟨hv, h0⟩ | ⟨g', o', c', hv, _, _, _, h4⟩
        · simp at hv
        · simp only [Value.slice.injEq, Option.some.injEq, Addr.mk.injEq, and_true] at hv
          obtain ⟨⟨rfl, rfl⟩, _⟩ := hv
          exact h4 (k * 2 + c) u (by rw [rows_at (s := 2) (f := Pnt.cells) qs (fun _ _ => rfl) k c q hqk hc]; exact hu)
      obtain ⟨px, py⟩ := p
      obtain ⟨qx, qy⟩ := q
      have a0 : wr.cell? ⟨g, o + k * 2, none⟩ = some (.int .i64 px) := hcell 0 _ (by omega) rfl
      have a1 : wr.cell? ⟨g, o + k * 2 + 1, none⟩ = some (.int .i64 py) := hcell 1 _ (by omega) rfl
      have b0 : wr.cell? ⟨g2, o2 + k * 2, none⟩ = some (.int .i64 qx) := hcelq 0 _ (by omega) rfl
      have b1 : wr.cell? ⟨g2, o2 + k * 2 + 1, none⟩ = some (.int .i64 qy) := hcelq 1 _ (by omega) rfl
      have hkI : (k : Int) < n := by omega
      have hkJ : (k : Int) < m := by omega
      have hw1 : wrap64 ((k : Int) + 1) = (k : Int) + 1 := wrap_succ k n hlt HMX.out
      have npt := fun w => neq_point w px qx py qy
      obtain ⟨qq, hqq⟩ : ∃ q, q = decide ¬(px = qx ∧ py = qy) := ⟨_, rfl⟩
      rw [← hqq] at npt
      have HQ := Lib.hid hqq
      have HPK := Lib.hid hpk
      have HQK := Lib.hid hqk
      clear hvr hvs hcell hcelq hpk hqk hqq
      have NPT := Lib.hid npt
      have PP4 := Lib.hid p4
      have QQ4 := Lib.hid q4
      have AA0 := Lib.hid a0
      have AA1 := Lib.hid a1
      have BB0 := Lib.hid b0
      have BB1 := Lib.hid b1
      clear npt p4 q4 a0 a1 b0 b1
      go_wp2_with fail
      refine wpT.begin (fun _ => False) 11 (by kernel_rfl) rfl ?_
      refine wpT.take 0 rfl (by kernel_rfl) (fun _ _ _ h => h) rfl (fun w' hw' => by go_simp <;> with_reducible rfl) ?_
      simp only [Act.put, List.setIfInBounds_toArray, List.set_cons_zero, List.set_cons_succ]
      refine wpT.ld 1 rfl (by kernel_rfl) (fun _ _ _ _ h => h) rfl _ _ rfl (by kernel_rfl) ⟨w.heap.size, 4, none⟩ (by kernel_rfl) _ (by rw [World.cell?_drew]; exact PP4.out) (fun h => h) ?_
      simp only [Act.put, List.setIfInBounds_toArray, List.set_cons_zero, List.set_cons_succ]
      refine wpT.take 2 rfl (by kernel_rfl) (fun _ _ _ h => h) rfl (fun w' hw' => by go_simp <;> with_reducible rfl) ?_
      simp only [Act.put, List.setIfInBounds_toArray, List.set_cons_zero, List.set_cons_succ]
      refine wpT.take 3 rfl (by kernel_rfl) (fun _ _ _ h => h) rfl (fun w' hw' => by go_simp <;> with_reducible rfl) ?_
      simp only [Act.put, List.setIfInBounds_toArray, List.set_cons_zero, List.set_cons_succ]
      refine wpT.ldR 4 rfl (by kernel_rfl) (fun _ _ _ _ h => h) rfl _ _ rfl _ Try.underlying116 rfl g (o + k * 2) (by kernel_rfl) [.int .i64 px, .int .i64 py] (by kernel_rfl) (fun j u hj => ?_) (fun h => h) ?_
      · match j, hj with
        | 0, hj => cases hj; rw [World.cell?_drew]; exact AA0.out
        | 1, hj => cases hj; rw [World.cell?_drew]; exact AA1.out
      simp only [Act.put, List.setIfInBounds_toArray, List.set_cons_zero, List.set_cons_succ]
      refine wpT.take 5 rfl (by kernel_rfl) (fun _ _ _ h => h) rfl (fun w' hw' => by go_simp <;> with_reducible rfl) ?_
      simp only [Act.put, List.setIfInBounds_toArray, List.set_cons_zero, List.set_cons_succ]
      refine wpT.ld 6 rfl (by kernel_rfl) (fun _ _ _ _ h => h) rfl _ _ rfl (by kernel_rfl) ⟨w.heap.size + 1, 4, none⟩ (by kernel_rfl) _ (by rw [World.cell?_drew]; exact QQ4.out) (fun h => h) ?_
      simp only [Act.put, List.setIfInBounds_toArray, List.set_cons_zero, List.set_cons_succ]
      refine wpT.take 7 rfl (by kernel_rfl) (fun _ _ _ h => h) rfl (fun w' hw' => by go_simp <;> with_reducible rfl) ?_
      simp only [Act.put, List.setIfInBounds_toArray, List.set_cons_zero, List.set_cons_succ]
      refine wpT.take 8 rfl (by kernel_rfl) (fun _ _ _ h => h) rfl (fun w' hw' => by go_simp <;> with_reducible rfl) ?_
      simp only [Act.put, List.setIfInBounds_toArray, List.set_cons_zero, List.set_cons_succ]
      refine wpT.ldR 9 rfl (by kernel_rfl) (fun _ _ _ _ h => h) rfl _ _ rfl _ Try.underlying116 rfl g2 (o2 + k * 2) (by kernel_rfl) [.int .i64 qx, .int .i64 qy] (by kernel_rfl) (fun j u hj => ?_) (fun h => h) ?_
      · match j, hj with
        | 0, hj => cases hj; rw [World.cell?_drew]; exact BB0.out
        | 1, hj => cases hj; rw [World.cell?_drew]; exact BB1.out
      simp only [Act.put, List.setIfInBounds_toArray, List.set_cons_zero, List.set_cons_succ]
      refine wpT.take 10 rfl (by kernel_rfl) (fun _ _ _ h => h) rfl (fun w' hw' => by have hx := NPT.out; go_simp <;> with_reducible rfl) ?_
      simp only [Act.put, List.setIfInBounds_toArray, List.set_cons_zero, List.set_cons_succ]
      refine wpT.done (by kernel_rfl) ?_
      cases qq with
      | true =>
        go_wp2_with fail
        go_ret
        refine ⟨false, rfl, ⟨fun h => (Bool.false_ne_true h).elim, fun h => ?_⟩, cwa.out.trans (by first | exact hG.out.drew | exact hG.out.drewN _ | exact hG.out)⟩
        have h10 := h.2.2.2.2.2.2.2.2.2.2
        have h11 := HPK.out
        rw [h10, HQK.out] at h11
        simp only [Option.some.injEq, Pnt.mk.injEq] at h11
        exact absurd ⟨h11.1.symm, h11.2.symm⟩ (of_decide_eq_true HQ.out.symm)
      | false =>
        go_wp2_with fail
        rw [hw1]
        clear hw1
        refine ⟨⟨k + 1, hlt, rfl, fun j hj => ?_, hG.out.drew⟩, meas_succ k n hlt⟩
        by_cases hjk : j < k
        · exact hE.out j hjk
        · obtain rfl : j = k := by omega
          have h11 : px = qx ∧ py = qy := Classical.byContradiction fun hn => by have := HQ.out; rw [decide_eq_true hn] at this; cases this
          rw [HPK.out, HQK.out, h11.1, h11.2]
    · obtain rfl : k = n := by omega
      go_wp2_with fail
      go_ret
      obtain ⟨g0, g1, g2, g3, g4, g5, g6, g7, g8, g9, g10⟩ := HH.out
      refine ⟨true, rfl, ⟨fun _ => ⟨g0, g1, g2, g3, g4, g5, g6, g7, g8, g9, ?_⟩, fun _ => rfl⟩, cwa.out.trans hG.out⟩
      refine List.ext_getElem? fun j => ?_
      by_cases hj : j < k
      · exact hE.out j hj
      · have h1 : ps.length ≤ j := by have := HN.out; omega
        have h2 : qs.length ≤ j := by rw [← g10]; exact h1
        rw [List.getElem?_eq_none h1, List.getElem?_eq_none h2]
end Go.Proofs.Ytjhkhdockiocgaa
