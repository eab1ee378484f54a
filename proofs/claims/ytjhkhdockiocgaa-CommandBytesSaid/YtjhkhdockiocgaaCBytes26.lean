/- CommandBytes: the walk. -/
import Derived.Test.YtjhkhdockiocgaaUnlike
import Derived.Test.YtjhkhdockiocgaaReads26
import Derived.Test.YtjhkhdockiocgaaLong26
import Derived.Test.YtjhkhdockiocgaaRdBack
namespace Go.Proofs.Ytjhkhdockiocgaa
open Go.RowKit Go.Cat

theorem exec_assign {P : Program} {o : Oper} {a : Act} {w : World} (x : Operand) (v : Value) (ho : o.op = .assign x) (hx : a.eval x = v) : (execOp a.eval o).run P w = .ok (.value v) w := by
  unfold execOp
  simp [ho, hx]
theorem exec_eq_str {o : Oper} {a : Act} {w : World} (x y : Operand) (t' : TypeId) (ho : o.op = .binOp .eql 9 x y t') (s : List UInt8) (hx : a.eval x = .string ⟨s.toArray⟩) (hy : a.eval y = .string ⟨s.toArray⟩) : (execOp a.eval o).run Try.prog w = .ok (.value (.bool true)) w := by
  unfold execOp
  rw [ho]
  simp only [hx, hy]
  go_simp
theorem exec_eq_bool {o : Oper} {a : Act} {w : World} (x y : Operand) (t' : TypeId) (ho : o.op = .binOp .eql 4 x y t') (b : Bool) (hx : a.eval x = .bool b) (hy : a.eval y = .bool b) : (execOp a.eval o).run Try.prog w = .ok (.value (.bool true)) w := by
  unfold execOp
  rw [ho]
  simp only [hx, hy]
  go_simp
theorem exec_eq_err {o : Oper} {a : Act} {w : World} (x y : Operand) (t' : TypeId) (ho : o.op = .binOp .eql 34 x y t') (p : Int) (hx : a.eval x = .int .i64 p) (hy : a.eval y = .int .i64 p) : (execOp a.eval o).run Try.prog w = .ok (.value (.bool true)) w := by
  unfold execOp
  rw [ho]
  simp only [hx, hy]
  go_simp
theorem exec_eq_int {o : Oper} {a : Act} {w : World} (x y : Operand) (t' : TypeId) (ho : o.op = .binOp .eql 3 x y t') (p q : Int) (b : Bool) (hx : a.eval x = .int .i64 p) (hy : a.eval y = .int .i64 q) (hb : (p == q) = b) : (execOp a.eval o).run Try.prog w = .ok (.value (.bool b)) w := by
  unfold execOp
  rw [ho, ← hb]
  simp only [hx, hy]
  go_simp
theorem exec_convB {o : Oper} {a : Act} {w : World} (x : Operand) (ho : o.op = .convert 33 9 x) (v : Value) (l : List UInt8) (hx : a.eval x = v) (h : RB w v l) : (execOp a.eval o).run Try.prog w = .ok (.value (.string ⟨l.toArray⟩)) w := by
  have hc := convb w v l h
  unfold execOp
  simp [ho, hx, hc]
theorem cmd_lay (w : World) (x : Cmd) (hx : x.pv.oneCell' = true) : ∃ w1 w2, w1 = w.alloc (.cells Cmd.zero.cells.toArray 30) ∧ (Instr.storeAt 30 (.pointer (some ⟨w.heap.size, 0, none⟩)) (.agg x.cells.toArray)).run Try.prog w1 = .ok () w2 ∧
    w2.heap[w.heap.size]? = some (.cells x.cells.toArray 30 (0, 0)) ∧ Chg (fun _ => False) w w2 := by
  have hB : (w.alloc (.cells Cmd.zero.cells.toArray 30)).heap[w.heap.size]? = some (.cells Cmd.zero.cells.toArray 30 (0, 0)) := heap_at_new _ _ _ rfl
  exact ⟨_, _, rfl, store_cmd _ _ x Cmd.zero _ hB hx, heap_cmd _ _ x Cmd.zero _ hB, ((Chg.refl (fun _ => False) w).alloc _).new (Chg.setCells _ _ _ _) (fun q h => by omega)⟩

set_option maxRecDepth 100000 in
set_option maxHeartbeats 8000000 in
theorem cbytes26 (x : Cmd) (ps : List Pnt) (w : World) (hx : Reads w 2 x.pv ps.length (ps.flatMap Pnt.cells)) (ox : x.Ok ps) :
    Calls Try.prog 5 #[.agg #[.int .i64 x.kind, .string ⟨x.tenant.toArray⟩, .string ⟨x.series.toArray⟩, .string ⟨x.name.toArray⟩, x.pv, .int .i64 x.rlo, .int .i64 x.rhi, .int .i64 x.praw, .int .i64 x.pmid, .int .i64 x.plong, .string ⟨x.hname.toArray⟩, .string ⟨x.hser.toArray⟩, .int .i64 x.hlo, .int .i64 x.hhi, .int .i64 x.bytes, .int .i64 x.count, .int .i64 x.at_]] w fun e w' => e = .returned (.bool true) ∧ Chg (fun _ => False) w w' := by
  obtain ⟨w0, hw0⟩ : ∃ w0, w0 = w.alloc (.cells #[.int .i64 x.kind, .string ⟨x.tenant.toArray⟩, .string ⟨x.series.toArray⟩, .string ⟨x.name.toArray⟩, x.pv, .int .i64 x.rlo, .int .i64 x.rhi, .int .i64 x.praw, .int .i64 x.pmid, .int .i64 x.plong, .string ⟨x.hname.toArray⟩, .string ⟨x.hser.toArray⟩, .int .i64 x.hlo, .int .i64 x.hhi, .int .i64 x.bytes, .int .i64 x.count, .int .i64 x.at_] 30) := ⟨_, rfl⟩
  have c0 : Chg (fun _ => False) w w0 := by rw [hw0]; exact (Chg.refl _ w).alloc _
  have HX0 : Hid (w0.heap[w.heap.size]? = some (.cells x.cells.toArray 30 (0, 0))) := by rw [hw0]; exact heap_at_new _ _ _ rfl
  have VX0 := Lib.hid (hx.kept c0 (fun _ _ h => h))
  have HW0 := Lib.hid hw0
  have OX := Lib.hid ox
  have z0 : Hid (w0.heap.size = w.heap.size + 1) := by show _ = _; rw [hw0]; simp
  clear hx hw0 ox
  go_enter Try.func5, Try.ntmps5
  go_wp2_with fail
  refine (lives26 _).mono ?_
  rintro e w1 ⟨rfl, c1⟩
  rw [← HW0.out] at c1
  have HX1 := Lib.hid (c1.heap HX0.out (fun h => h))
  have VX1 := Lib.hid (VX0.out.kept c1 (fun _ _ h => h))
  have ld := load_cmd w1 _ x _ HX1.out
  go_wp2_with (refine wpList_loadG 30 _ rfl rfl _ _ rfl ld ?_)
  clear ld
  refine (few26 x ps w1 VX1.out).mono ?_
  rintro e w2 ⟨rfl, c2⟩
  have c02 : Hid (Chg (fun _ => False) w w2) := (c0.trans c1).trans c2
  have HX2 := Lib.hid (c2.heap HX1.out (fun h => h))
  have VX2 := Lib.hid (VX1.out.kept c2 (fun _ _ h => h))
  have Z2 : Hid (w.heap.size < w2.heap.size) := by have := z0.out; have := c1.size; have := c2.size; show _ < _; omega
  clear c0 c1 c2 HX0 VX0 HX1 VX1 HW0 z0
  cases hfx : x.few ps.length
  · go_wp2_with fail
    refine (lives26 _).mono ?_
    rintro e w3 ⟨rfl, c3⟩
    go_wp2_with fail
    go_ret
    exact ⟨rfl, c02.out.trans c3⟩
  have np : ps.length ≤ 1000000 := by simp only [Cmd.few, Bool.and_eq_true, decide_eq_true_eq] at hfx; omega
  clear hfx
  have ld := load_cmd w2 _ x _ HX2.out
  go_wp2_with (refine wpList_loadG 30 _ rfl rfl _ _ rfl ld ?_)
  clear ld
  refine (cbytes_all x ps w2 VX2.out).mono ?_
  rintro e w3 ⟨a3, n3, k3, z3, rfl, h3, h3', c3⟩
  have c03 : Hid (Chg (fun _ => False) w w3) := c02.out.trans c3
  have HX3 := Lib.hid (c3.heap HX2.out (fun h => h))
  have VX3 := Lib.hid (VX2.out.kept c3 (fun _ _ h => h))
  have H3 := Lib.hid h3
  have H3' := Lib.hid h3'
  have Z3 : Hid (w.heap.size < w3.heap.size) := by have := Z2.out; have := c3.size; show _ < _; omega
  clear c3 c02 HX2 VX2 h3 h3' Z2
  have ld := load_cmd w3 _ x _ HX3.out
  go_wp2_with (refine wpList_loadG 30 _ rfl rfl _ _ rfl ld ?_)
  clear ld
  refine (only_any x ps w3 VX3.out np).mono ?_
  rintro e w4 ⟨pv, rfl, h4, c4⟩
  have HX4 := Lib.hid (c4.heap HX3.out (fun h => h))
  have VX4 := Lib.hid (VX3.out.kept c4 (fun _ _ h => h))
  have HB4 : Hid (z3 = 0 → OB w4 (.slice a3 n3 k3) (x.out ps).1) := fun h => (H3.out h).2.2.kept c4 (fun _ _ h => h)
  have c04 : Hid (Chg (fun _ => False) w w4) := c03.out.trans c4
  obtain ⟨y, hy⟩ : ∃ y, y = x.only pv := ⟨_, rfl⟩
  have hyp : y.pv = pv := by rw [hy]; rfl
  have honey : y.pv.oneCell' = true := by rw [hyp]; obtain ⟨a, c, h⟩ := h4.form; rw [h]; rfl
  obtain ⟨w5, w6, hw5, hst, hh6, c46⟩ := cmd_lay w4 y honey
  have HST := Lib.hid hst
  have HY6 := Lib.hid hh6
  have HW5 := Lib.hid hw5
  have VY6 : Hid (Reads w6 2 y.pv (x.onlyPs ps).length ((x.onlyPs ps).flatMap Pnt.cells)) := by rw [hyp]; exact h4.kept c46 (fun _ _ h => h)
  have HX6 := Lib.hid (c46.heap HX4.out (fun h => h))
  have VX6 := Lib.hid (VX4.out.kept c46 (fun _ _ h => h))
  have HB6 : Hid (z3 = 0 → OB w6 (.slice a3 n3 k3) (x.out ps).1) := fun h => (HB4.out h).kept c46 (fun _ _ h => h)
  have c06 : Hid (Chg (fun _ => False) w w6) := c04.out.trans c46
  have Z4 : Hid (w.heap.size < w4.heap.size) := by have := Z3.out; have := c4.size; show _ < _; omega
  have Z6 : Hid (w4.heap.size < w6.heap.size) := (Array.getElem?_eq_some_iff.1 hh6).1
  have q0 : w6.cell? ⟨w.heap.size, 0, none⟩ = some (.int .i64 x.kind) := cell_cmd HX6.out 0 _ rfl
  rw [← hy]
  have HY := Lib.hid hy
  clear hy hyp honey hw5 hst hh6 h4 c4 c46 HX3 VX3 HX4 VX4 HB4 c04 c03 Z3
  go_upto_region 5 with (first | refine wpList_allocN rfl 30 rfl (.agg Cmd.zero.cells.toArray) 17 (by kernel_rfl) w5 w4.heap.size rfl HW5.out ?_ | refine wpList_store rfl 30 _ _ rfl _ _ _ rfl rfl HST.out ?_)
  by_cases hk : 0 ≤ x.kind ∧ x.kind < 10
  case neg =>
    have HLB := Lib.hid (like_base x ps pv hk)
    have hz1 : z3 = 1 ∧ n3 = 0 := by
      have h0 : z3 ≠ 0 := fun h => hk (H3.out h).1
      obtain ⟨h1, h2⟩ := H3'.out h0
      rcases h1 with h1 | h1
      · exact ⟨h1.2, h2⟩
      · exact absurd h1.1 hk
    obtain ⟨rfl, rfl⟩ := hz1
    have SM := Lib.hid (fun w h => same_any y x.base (x.onlyPs ps) [] w h (Reads.nil w 2) (by have := onlyPs_len x ps; simp only [maxLen]; omega))
    have hyl : Hid (y.like x.base (x.onlyPs ps) []) := by rw [HY.out]; exact HLB.out
    have ld := load_cmd w6 _ y _ HY6.out
    have hcase : x.kind < 0 ∨ 9 < x.kind := by omega
    have hbase : x.base.cells.toArray = #[.int .i64 x.kind, .string ⟨#[]⟩, .string ⟨#[]⟩, .string ⟨#[]⟩, .slice none 0 0, .int .i64 0, .int .i64 0, .int .i64 0, .int .i64 0, .int .i64 0, .string ⟨#[]⟩, .string ⟨#[]⟩, .int .i64 0, .int .i64 0, .int .i64 0, .int .i64 0, .int .i64 0] := rfl
    have SM6 := Lib.hid (SM.out w6 VY6.out)
    clear hk hbase SM HB6 H3 H3'
    by_cases hneg : x.kind < 0
    · have i0 : x.kind < 0 := hneg
      go_wp2_with (refine wpList_loadG 30 _ rfl rfl _ _ rfl ld ?_)
      refine SM6.out.mono ?_
      rintro e w7 ⟨r, rfl, hr, c7⟩
      obtain rfl := hr.2 hyl.out
      go_wp2_with fail
      go_ret
      exact ⟨rfl, c06.out.trans c7⟩
    · have i9 : 9 < x.kind := by omega
      go_wp2_with (refine wpList_loadG 30 _ rfl rfl _ _ rfl ld ?_)
      refine SM6.out.mono ?_
      rintro e w7 ⟨r, rfl, hr, c7⟩
      obtain rfl := hr.2 hyl.out
      go_wp2_with fail
      go_ret
      exact ⟨rfl, c06.out.trans c7⟩
  have hk0 : ¬ x.kind < 0 := by omega
  have hk9 : ¬ 9 < x.kind := by omega
  have ld := load_cmd w6 _ x _ HX6.out
  go_wp2_with (refine wpList_loadG 30 _ rfl rfl _ _ rfl ld ?_)
  refine (long_any x ps w6 VX6.out hk).mono ?_
  rintro e w7 ⟨q, rfl, hq, c7⟩
  clear ld hk0 hk9 q0
  have HX7 := Lib.hid (c7.heap HX6.out (fun h => h))
  have HY7 := Lib.hid (c7.heap HY6.out (fun h => h))
  have VX7 := Lib.hid (VX6.out.kept c7 (fun _ _ h => h))
  have VY7 := Lib.hid (VY6.out.kept c7 (fun _ _ h => h))
  have c07 : Hid (Chg (fun _ => False) w w7) := c06.out.trans c7
  have Z7 : Hid (w4.heap.size < w7.heap.size) := by have := Z6.out; have := c7.size; show _ < _; omega
  cases q with
  | true =>
    have hlong := hq.1 rfl
    have hz12 : z3 = 12 ∧ n3 = 0 := by
      have h0 : z3 ≠ 0 := fun h => by
        have h2 := (H3.out h).2.1
        obtain ⟨i, hi, hn⟩ := hlong
        exact hn ((out_zero x ps h2).1 i hi)
      obtain ⟨h1, h2⟩ := H3'.out h0
      rcases h1 with h1 | h1
      · exact absurd hk h1.1
      · exact ⟨h1.2.2, h2⟩
    obtain ⟨rfl, rfl⟩ := hz12
    clear hlong hq H3 H3' HB6 hk
    go_wp2_with fail
    go_ret
    exact ⟨rfl, c07.out⟩
  | false =>
    have hsh : ∀ i ∈ x.its ps, i.short := fun i hi => Classical.byContradiction fun hn => Bool.false_ne_true (hq.2 ⟨i, hi, hn⟩)
    have hz0 : z3 = 0 := by
      rcases Decidable.em (z3 = 0) with h | h
      · exact h
      · obtain ⟨h1, _⟩ := H3'.out h
        rcases h1 with h1 | h1
        · exact absurd hk h1.1
        · exfalso
          have h2 := h1.2.1
          unfold Cmd.out at h2
          rw [run_its, fold_short _ _ hsh] at h2
          simp at h2
    subst hz0
    obtain ⟨_, hout0, _⟩ := H3.out rfl
    have hl := (out_zero x ps hout0).2
    have hok := its_ok x ps OX.out hsh
    have hb7 := (HB6.out rfl).kept c7 (fun _ _ h => h)
    rw [hl] at hb7
    obtain ⟨l, hll⟩ : ∃ l, l = be x.kind.toNat 1 ++ encIts (x.its ps) := ⟨_, rfl⟩
    have RB_ : Hid (∀ pv', ofRes pv' l = (x.only pv', x.onlyPs ps, 0)) := fun pv' => by rw [hll]; exact ofRes_back x ps pv' hk hok
    have BYX : Hid (∀ w, Reads w 2 x.pv ps.length (ps.flatMap Pnt.cells) → Calls Try.prog 20 #[.agg #[.int .i64 x.kind, .string ⟨x.tenant.toArray⟩, .string ⟨x.series.toArray⟩, .string ⟨x.name.toArray⟩, x.pv, .int .i64 x.rlo, .int .i64 x.rhi, .int .i64 x.praw, .int .i64 x.pmid, .int .i64 x.plong, .string ⟨x.hname.toArray⟩, .string ⟨x.hser.toArray⟩, .int .i64 x.hlo, .int .i64 x.hhi, .int .i64 x.bytes, .int .i64 x.count, .int .i64 x.at_]] w fun e w' => e = .returned (.string ⟨l.toArray⟩) ∧ Chg (fun _ => False) w w') := fun w h => by rw [hll]; exact bytes_any x ps w h hk hsh
    have BYY : Hid (∀ w, Reads w 2 y.pv (x.onlyPs ps).length ((x.onlyPs ps).flatMap Pnt.cells) → Calls Try.prog 20 #[.agg #[.int .i64 y.kind, .string ⟨y.tenant.toArray⟩, .string ⟨y.series.toArray⟩, .string ⟨y.name.toArray⟩, y.pv, .int .i64 y.rlo, .int .i64 y.rhi, .int .i64 y.praw, .int .i64 y.pmid, .int .i64 y.plong, .string ⟨y.hname.toArray⟩, .string ⟨y.hser.toArray⟩, .int .i64 y.hlo, .int .i64 y.hhi, .int .i64 y.bytes, .int .i64 y.count, .int .i64 y.at_]] w fun e w' => e = .returned (.string ⟨l.toArray⟩) ∧ Chg (fun _ => False) w w') := fun w h => by
      have hi : y.its (x.onlyPs ps) = x.its ps := by rw [HY.out]; exact only_its x ps pv
      have hkk : y.kind = x.kind := by rw [HY.out]; rfl
      have hl2 : l = be y.kind.toNat 1 ++ encIts (y.its (x.onlyPs ps)) := by rw [hi, hkk]; exact hll
      have := bytes_any y (x.onlyPs ps) w h (by rw [hkk]; exact hk) (by rw [hi]; exact hsh)
      rw [← hl2] at this
      exact this
    have hlen : l.length ≤ 140737488355328 := by
      have h1 := run_len x ps (be x.kind.toNat 1)
      have h2 : (x.run ps (be x.kind.toNat 1, 0)).1 = l := by rw [hll, ← hl]; rfl
      rw [h2] at h1
      simp at h1; omega
    rw [← hll] at hb7
    have hn3 : n3 = l.length := hb7.rb.cap_ge.1
    subst hn3
    have OB7 := Lib.hid hb7.rb
    have ONL := Lib.hid (onlyPs_len x ps)
    have OFC : Hid (Calls Try.prog 19 #[.slice a3 l.length k3] w7 fun e w' => ∃ pv', e = .returned (.tuple #[.agg (x.only pv').cells.toArray, .int .i64 0]) ∧ Reads w' 2 (x.only pv').pv (x.onlyPs ps).length ((x.onlyPs ps).flatMap Pnt.cells) ∧ Chg (fun _ => False) w7 w') := by
      refine (of_any (.slice a3 l.length k3) l w7 OB7.out hlen).mono ?_
      rintro e w' ⟨pv', rfl, h1, h2⟩
      rw [RB_.out pv'] at h1
      exact ⟨pv', by rw [RB_.out pv'], h1, h2⟩
    clear hsh hout0 hl hok hb7 hll H3 H3' HB6 hq c7 hk hlen RB_
    go_wp2_with fail
    refine OFC.out.mono ?_
    rintro e w8 ⟨pv2, rfl, hr8, c8⟩
    obtain ⟨u, hu⟩ : ∃ u, u = x.only pv2 := ⟨_, rfl⟩
    have hr8' : Reads w8 2 u.pv (x.onlyPs ps).length ((x.onlyPs ps).flatMap Pnt.cells) := by rw [hu]; exact hr8
    have honeu : u.pv.oneCell' = true := by obtain ⟨a, c, h⟩ := hr8'.form; rw [h]; rfl
    rw [← hu]
    obtain ⟨w9, w10, hw9, hst, hh10, c810⟩ := cmd_lay w8 u honeu
    have HST := Lib.hid hst
    have HU10 := Lib.hid hh10
    have HW9 := Lib.hid hw9
    have c710 : Chg (fun _ => False) w7 w10 := c8.trans c810
    have HX10 := Lib.hid (c710.heap HX7.out (fun h => h))
    have HY10 := Lib.hid (c710.heap HY7.out (fun h => h))
    have VX10 := Lib.hid (VX7.out.kept c710 (fun _ _ h => h))
    have VY10 := Lib.hid (VY7.out.kept c710 (fun _ _ h => h))
    have VU10 := Lib.hid (hr8'.kept c810 (fun _ _ h => h))
    have OB10 := Lib.hid (OB7.out.kept c710 (fun _ _ h => h))
    have c010 : Hid (Chg (fun _ => False) w w10) := c07.out.trans c710
    have SMU := Lib.hid (fun w h1 h2 => same_any u y (x.onlyPs ps) (x.onlyPs ps) w h1 h2 (by have := ONL.out; simp only [maxLen]; omega))
    have LKU : Hid (u.like y (x.onlyPs ps) (x.onlyPs ps)) := by rw [hu, HY.out]; exact like_only x _ _ _
    clear hu hr8 hr8' honeu hw9 hst hh10 c8 c810 c710 HX7 HY7 VX7 VY7 OB7 c07
    go_upto_region 10 with (first | refine wpList_allocN rfl 30 rfl (.agg Cmd.zero.cells.toArray) 17 (by kernel_rfl) w9 w8.heap.size rfl HW9.out ?_ | refine wpList_store rfl 30 _ _ rfl _ _ _ rfl rfl HST.out ?_)
    clear HST HW9
    have ERC := Lib.hid (fun w => erases_any x w)
    have hX : Hid (∀ w', Chg (fun _ => False) w10 w' → (Instr.loadAt 30 (.pointer (some ⟨w.heap.size, 0, none⟩))).run Try.prog w' = .ok (.agg #[.int .i64 x.kind, .string ⟨x.tenant.toArray⟩, .string ⟨x.series.toArray⟩, .string ⟨x.name.toArray⟩, x.pv, .int .i64 x.rlo, .int .i64 x.rhi, .int .i64 x.praw, .int .i64 x.pmid, .int .i64 x.plong, .string ⟨x.hname.toArray⟩, .string ⟨x.hser.toArray⟩, .int .i64 x.hlo, .int .i64 x.hhi, .int .i64 x.bytes, .int .i64 x.count, .int .i64 x.at_]) w') := fun w' h => load_cmd w' _ x _ (h.heap HX10.out (fun h => h))
    have hY : Hid (∀ w', Chg (fun _ => False) w10 w' → (Instr.loadAt 30 (.pointer (some ⟨w4.heap.size, 0, none⟩))).run Try.prog w' = .ok (.agg #[.int .i64 y.kind, .string ⟨y.tenant.toArray⟩, .string ⟨y.series.toArray⟩, .string ⟨y.name.toArray⟩, y.pv, .int .i64 y.rlo, .int .i64 y.rhi, .int .i64 y.praw, .int .i64 y.pmid, .int .i64 y.plong, .string ⟨y.hname.toArray⟩, .string ⟨y.hser.toArray⟩, .int .i64 y.hlo, .int .i64 y.hhi, .int .i64 y.bytes, .int .i64 y.count, .int .i64 y.at_]) w') := fun w' h => load_cmd w' _ y _ (h.heap HY10.out (fun h => h))
    have hU : Hid (∀ w', Chg (fun _ => False) w10 w' → (Instr.loadAt 30 (.pointer (some ⟨w8.heap.size, 0, none⟩))).run Try.prog w' = .ok (.agg #[.int .i64 u.kind, .string ⟨u.tenant.toArray⟩, .string ⟨u.series.toArray⟩, .string ⟨u.name.toArray⟩, u.pv, .int .i64 u.rlo, .int .i64 u.rhi, .int .i64 u.praw, .int .i64 u.pmid, .int .i64 u.plong, .string ⟨u.hname.toArray⟩, .string ⟨u.hser.toArray⟩, .int .i64 u.hlo, .int .i64 u.hhi, .int .i64 u.bytes, .int .i64 u.count, .int .i64 u.at_]) w') := fun w' h => load_cmd w' _ u _ (h.heap HU10.out (fun h => h))
    have hC : Hid (∀ w', Chg (fun _ => False) w10 w' → RB w' (.slice a3 l.length k3) l) := fun w' h => OB10.out.kept h (fun _ _ h => h)
    have hk : Hid (∀ w', Chg (fun _ => False) w10 w' → w'.cell? ⟨w.heap.size, 0, none⟩ = some (.int .i64 x.kind)) := fun w' h => cell_cmd (h.heap HX10.out (fun h => h)) 0 _ rfl
    have hbX : Hid (∀ w', Chg (fun _ => False) w10 w' → Calls Try.prog 20 #[.agg #[.int .i64 x.kind, .string ⟨x.tenant.toArray⟩, .string ⟨x.series.toArray⟩, .string ⟨x.name.toArray⟩, x.pv, .int .i64 x.rlo, .int .i64 x.rhi, .int .i64 x.praw, .int .i64 x.pmid, .int .i64 x.plong, .string ⟨x.hname.toArray⟩, .string ⟨x.hser.toArray⟩, .int .i64 x.hlo, .int .i64 x.hhi, .int .i64 x.bytes, .int .i64 x.count, .int .i64 x.at_]] w' fun e w'' => e = .returned (.string ⟨l.toArray⟩) ∧ Chg (fun _ => False) w' w'') := fun w' h => BYX.out w' (VX10.out.kept h (fun _ _ h => h))
    have hbY : Hid (∀ w', Chg (fun _ => False) w10 w' → Calls Try.prog 20 #[.agg #[.int .i64 y.kind, .string ⟨y.tenant.toArray⟩, .string ⟨y.series.toArray⟩, .string ⟨y.name.toArray⟩, y.pv, .int .i64 y.rlo, .int .i64 y.rhi, .int .i64 y.praw, .int .i64 y.pmid, .int .i64 y.plong, .string ⟨y.hname.toArray⟩, .string ⟨y.hser.toArray⟩, .int .i64 y.hlo, .int .i64 y.hhi, .int .i64 y.bytes, .int .i64 y.count, .int .i64 y.at_]] w' fun e w'' => e = .returned (.string ⟨l.toArray⟩) ∧ Chg (fun _ => False) w' w'') := fun w' h => BYY.out w' (VY10.out.kept h (fun _ _ h => h))
    have hS : Hid (∀ w', Chg (fun _ => False) w10 w' → Calls Try.prog 17 #[.agg #[.int .i64 u.kind, .string ⟨u.tenant.toArray⟩, .string ⟨u.series.toArray⟩, .string ⟨u.name.toArray⟩, u.pv, .int .i64 u.rlo, .int .i64 u.rhi, .int .i64 u.praw, .int .i64 u.pmid, .int .i64 u.plong, .string ⟨u.hname.toArray⟩, .string ⟨u.hser.toArray⟩, .int .i64 u.hlo, .int .i64 u.hhi, .int .i64 u.bytes, .int .i64 u.count, .int .i64 u.at_], .agg #[.int .i64 y.kind, .string ⟨y.tenant.toArray⟩, .string ⟨y.series.toArray⟩, .string ⟨y.name.toArray⟩, y.pv, .int .i64 y.rlo, .int .i64 y.rhi, .int .i64 y.praw, .int .i64 y.pmid, .int .i64 y.plong, .string ⟨y.hname.toArray⟩, .string ⟨y.hser.toArray⟩, .int .i64 y.hlo, .int .i64 y.hhi, .int .i64 y.bytes, .int .i64 y.count, .int .i64 y.at_]] w' fun e w'' => e = .returned (.bool true) ∧ Chg (fun _ => False) w' w'') := fun w' h => (SMU.out w' (VU10.out.kept h (fun _ _ h => h)) (VY10.out.kept h (fun _ _ h => h))).mono (by
      rintro e w'' ⟨r, rfl, hr, c⟩
      obtain rfl := hr.2 LKU.out
      exact ⟨rfl, c⟩)
    have hE : Hid (∀ w', Calls Try.prog 22 #[.agg #[.int .i64 x.kind, .string ⟨x.tenant.toArray⟩, .string ⟨x.series.toArray⟩, .string ⟨x.name.toArray⟩, x.pv, .int .i64 x.rlo, .int .i64 x.rhi, .int .i64 x.praw, .int .i64 x.pmid, .int .i64 x.plong, .string ⟨x.hname.toArray⟩, .string ⟨x.hser.toArray⟩, .int .i64 x.hlo, .int .i64 x.hhi, .int .i64 x.bytes, .int .i64 x.count, .int .i64 x.at_]] w' fun e w'' => e = .returned (.bool (decide (x.kind = 2 ∨ x.kind = 7 ∨ x.kind = 9))) ∧ Chg (fun _ => False) w' w'') := ERC.out
    have cd : Chg (fun _ => False) w10 w10.drew := (Chg.refl _ w10).drew
    clear BYX BYY SMU LKU VX10 VY10 VU10 OB10 HX10 HY10 HU10 ERC ONL OFC HY VX6 VY6 HX6 HY6 OX c06 Z4 Z6 Z7
    have hux : (Value.agg u.cells.toArray : Value) = .agg #[.int .i64 u.kind, .string ⟨u.tenant.toArray⟩, .string ⟨u.series.toArray⟩, .string ⟨u.name.toArray⟩, u.pv, .int .i64 u.rlo, .int .i64 u.rhi, .int .i64 u.praw, .int .i64 u.pmid, .int .i64 u.plong, .string ⟨u.hname.toArray⟩, .string ⟨u.hser.toArray⟩, .int .i64 u.hlo, .int .i64 u.hhi, .int .i64 u.bytes, .int .i64 u.count, .int .i64 u.at_] := rfl
    have hyx : (Value.agg y.cells.toArray : Value) = .agg #[.int .i64 y.kind, .string ⟨y.tenant.toArray⟩, .string ⟨y.series.toArray⟩, .string ⟨y.name.toArray⟩, y.pv, .int .i64 y.rlo, .int .i64 y.rhi, .int .i64 y.praw, .int .i64 y.pmid, .int .i64 y.plong, .string ⟨y.hname.toArray⟩, .string ⟨y.hser.toArray⟩, .int .i64 y.hlo, .int .i64 y.hhi, .int .i64 y.bytes, .int .i64 y.count, .int .i64 y.at_] := rfl
    have hxx : (Value.agg x.cells.toArray : Value) = .agg #[.int .i64 x.kind, .string ⟨x.tenant.toArray⟩, .string ⟨x.series.toArray⟩, .string ⟨x.name.toArray⟩, x.pv, .int .i64 x.rlo, .int .i64 x.rhi, .int .i64 x.praw, .int .i64 x.pmid, .int .i64 x.plong, .string ⟨x.hname.toArray⟩, .string ⟨x.hser.toArray⟩, .int .i64 x.hlo, .int .i64 x.hhi, .int .i64 x.bytes, .int .i64 x.count, .int .i64 x.at_] := rfl
    try rw [hux]
    try rw [hyx]
    try rw [hxx]
    clear hux hyx hxx
    generalize (Value.agg #[.int .i64 x.kind, .string ⟨x.tenant.toArray⟩, .string ⟨x.series.toArray⟩, .string ⟨x.name.toArray⟩, x.pv, .int .i64 x.rlo, .int .i64 x.rhi, .int .i64 x.praw, .int .i64 x.pmid, .int .i64 x.plong, .string ⟨x.hname.toArray⟩, .string ⟨x.hser.toArray⟩, .int .i64 x.hlo, .int .i64 x.hhi, .int .i64 x.bytes, .int .i64 x.count, .int .i64 x.at_]) = X at hX hbX hE ⊢
    generalize (Value.agg #[.int .i64 y.kind, .string ⟨y.tenant.toArray⟩, .string ⟨y.series.toArray⟩, .string ⟨y.name.toArray⟩, y.pv, .int .i64 y.rlo, .int .i64 y.rhi, .int .i64 y.praw, .int .i64 y.pmid, .int .i64 y.plong, .string ⟨y.hname.toArray⟩, .string ⟨y.hser.toArray⟩, .int .i64 y.hlo, .int .i64 y.hhi, .int .i64 y.bytes, .int .i64 y.count, .int .i64 y.at_]) = Y at hY hbY hS ⊢
    generalize (Value.agg #[.int .i64 u.kind, .string ⟨u.tenant.toArray⟩, .string ⟨u.series.toArray⟩, .string ⟨u.name.toArray⟩, u.pv, .int .i64 u.rlo, .int .i64 u.rhi, .int .i64 u.praw, .int .i64 u.pmid, .int .i64 u.plong, .string ⟨u.hname.toArray⟩, .string ⟨u.hser.toArray⟩, .int .i64 u.hlo, .int .i64 u.hhi, .int .i64 u.bytes, .int .i64 u.count, .int .i64 u.at_]) = U at hU hS ⊢
    generalize x.kind = kind at hk hE ⊢
    generalize w.heap.size = bx at hX hk ⊢
    generalize w4.heap.size = bw at hY ⊢
    generalize w8.heap.size = bu at hU ⊢
    generalize l.length = n3 at hC ⊢
    have hkk : kind = 2 ∨ kind = 7 ∨ kind = 9 ∨ (kind ≠ 2 ∧ kind ≠ 7 ∧ kind ≠ 9) := by omega
    rcases hkk with g | g | g | ⟨g2, g7, g9⟩
    · have K2 : (kind == 2) = true := by simp [g]
      have K7 : (kind == 7) = false := by simp [g]
      have K9 : (kind == 9) = false := by simp [g]
      have hE' : Hid (∀ w', Calls Try.prog 22 #[X] w' fun e w'' => e = .returned (.bool true) ∧ Chg (fun _ => False) w' w'') := fun w' => (hE.out w').mono (by rintro e w'' ⟨rfl, c⟩; exact ⟨by simp [g], c⟩)
      have KK : Hid ((kind == 2) = true ∧ (kind == 7) = false ∧ (kind == 9) = false) := ⟨K2, K7, K9⟩
      clear K2 K7 K9 hE g
      refine wpT.begin (fun _ => False) 44 (by kernel_rfl) rfl ?_
      refine wpT.take (v := .int .i64 0) 0 rfl (by kernel_rfl) (fun _ _ _ h => h) (by kernel_rfl) (fun w' hw' => exec_move _ _ rfl (by kernel_rfl)) ?_
      simp only [Act.put, List.setIfInBounds_toArray, List.set_cons_zero, List.set_cons_succ]
      refine wpT.take (v := .bool true) 1 rfl (by kernel_rfl) (fun _ _ _ h => h) (by kernel_rfl) (fun w' hw' => exec_eq_err _ _ _ rfl 0 (by kernel_rfl) (by kernel_rfl)) ?_
      simp only [Act.put, List.setIfInBounds_toArray, List.set_cons_zero, List.set_cons_succ]
      refine wpT.take (v := .bool true) 2 rfl (by kernel_rfl) (fun _ _ _ h => h) (by kernel_rfl) (fun w' hw' => exec_move _ _ rfl (by kernel_rfl)) ?_
      simp only [Act.put, List.setIfInBounds_toArray, List.set_cons_zero, List.set_cons_succ]
      refine wpT.take (v := .slice a3 n3 k3) 3 rfl (by kernel_rfl) (fun _ _ _ h => h) (by kernel_rfl) (fun w' hw' => exec_move _ _ rfl (by kernel_rfl)) ?_
      simp only [Act.put, List.setIfInBounds_toArray, List.set_cons_zero, List.set_cons_succ]
      refine wpT.take (v := .string ⟨l.toArray⟩) 4 rfl (by kernel_rfl) (fun _ _ _ h => h) (by kernel_rfl) (fun w' hw' => exec_convB _ rfl (.slice a3 n3 k3) l (by kernel_rfl) (hC.out w' (cd.trans hw'))) ?_
      simp only [Act.put, List.setIfInBounds_toArray, List.set_cons_zero, List.set_cons_succ]
      refine wpT.take (v := X) 5 rfl (by kernel_rfl) (fun _ _ _ h => h) (by kernel_rfl) (fun w' hw' => exec_load _ _ (.pointer (some ⟨bx, 0, none⟩)) _ rfl (by kernel_rfl) (hX.out w' (cd.trans hw'))) ?_
      simp only [Act.put, List.setIfInBounds_toArray, List.set_cons_zero, List.set_cons_succ]
      refine wpT.call 6 rfl (by kernel_rfl) (by kernel_rfl) (fun K' hK => ?_)
      go_wp2_with fail
      refine (hbX.out _ cd).mono ?_
      rintro e q1 ⟨rfl, cst⟩
      refine hK _ _ cst ?_
      have cq1 := cd.trans cst
      clear hK cst cd
      try (simp only [Act.put, List.setIfInBounds_toArray, List.set_cons_zero, List.set_cons_succ])
      refine wpT.take (v := .bool true) 7 rfl (by kernel_rfl) (fun _ _ _ h => h) (by kernel_rfl) (fun w' hw' => exec_eq_str _ _ _ rfl l (by kernel_rfl) (by kernel_rfl)) ?_
      simp only [Act.put, List.setIfInBounds_toArray, List.set_cons_zero, List.set_cons_succ]
      refine wpT.take (v := .bool true) 8 rfl (by kernel_rfl) (fun _ _ _ h => h) (by kernel_rfl) (fun w' hw' => exec_pick_t _ _ _ _ rfl (by kernel_rfl) (by kernel_rfl)) ?_
      simp only [Act.put, List.setIfInBounds_toArray, List.set_cons_zero, List.set_cons_succ]
      refine wpT.take (v := .bool true) 9 rfl (by kernel_rfl) (fun _ _ _ h => h) (by kernel_rfl) (fun w' hw' => exec_move _ _ rfl (by kernel_rfl)) ?_
      simp only [Act.put, List.setIfInBounds_toArray, List.set_cons_zero, List.set_cons_succ]
      refine wpT.take (v := .int .i64 0) 10 rfl (by kernel_rfl) (fun _ _ _ h => h) (by kernel_rfl) (fun w' hw' => exec_move _ _ rfl (by kernel_rfl)) ?_
      simp only [Act.put, List.setIfInBounds_toArray, List.set_cons_zero, List.set_cons_succ]
      refine wpT.take (v := .bool true) 11 rfl (by kernel_rfl) (fun _ _ _ h => h) (by kernel_rfl) (fun w' hw' => exec_eq_err _ _ _ rfl 0 (by kernel_rfl) (by kernel_rfl)) ?_
      simp only [Act.put, List.setIfInBounds_toArray, List.set_cons_zero, List.set_cons_succ]
      refine wpT.take (v := .bool true) 12 rfl (by kernel_rfl) (fun _ _ _ h => h) (by kernel_rfl) (fun w' hw' => exec_pick_t _ _ _ _ rfl (by kernel_rfl) (by kernel_rfl)) ?_
      simp only [Act.put, List.setIfInBounds_toArray, List.set_cons_zero, List.set_cons_succ]
      refine wpT.take (v := .bool true) 13 rfl (by kernel_rfl) (fun _ _ _ h => h) (by kernel_rfl) (fun w' hw' => exec_move _ _ rfl (by kernel_rfl)) ?_
      simp only [Act.put, List.setIfInBounds_toArray, List.set_cons_zero, List.set_cons_succ]
      refine wpT.take (v := U) 14 rfl (by kernel_rfl) (fun _ _ _ h => h) (by kernel_rfl) (fun w' hw' => exec_load _ _ (.pointer (some ⟨bu, 0, none⟩)) _ rfl (by kernel_rfl) (hU.out w' (cq1.trans hw'))) ?_
      simp only [Act.put, List.setIfInBounds_toArray, List.set_cons_zero, List.set_cons_succ]
      refine wpT.take (v := Y) 15 rfl (by kernel_rfl) (fun _ _ _ h => h) (by kernel_rfl) (fun w' hw' => exec_load _ _ (.pointer (some ⟨bw, 0, none⟩)) _ rfl (by kernel_rfl) (hY.out w' (cq1.trans hw'))) ?_
      simp only [Act.put, List.setIfInBounds_toArray, List.set_cons_zero, List.set_cons_succ]
      refine wpT.call 16 rfl (by kernel_rfl) (by kernel_rfl) (fun K' hK => ?_)
      go_wp2_with fail
      refine (hS.out _ cq1).mono ?_
      rintro e q2 ⟨rfl, cst⟩
      refine hK _ _ cst ?_
      have cq2 := cq1.trans cst
      clear hK cst cq1
      try (simp only [Act.put, List.setIfInBounds_toArray, List.set_cons_zero, List.set_cons_succ])
      refine wpT.take (v := .bool true) 17 rfl (by kernel_rfl) (fun _ _ _ h => h) (by kernel_rfl) (fun w' hw' => exec_pick_t _ _ _ _ rfl (by kernel_rfl) (by kernel_rfl)) ?_
      simp only [Act.put, List.setIfInBounds_toArray, List.set_cons_zero, List.set_cons_succ]
      refine wpT.take (v := .bool true) 18 rfl (by kernel_rfl) (fun _ _ _ h => h) (by kernel_rfl) (fun w' hw' => exec_move _ _ rfl (by kernel_rfl)) ?_
      simp only [Act.put, List.setIfInBounds_toArray, List.set_cons_zero, List.set_cons_succ]
      refine wpT.take (v := Y) 19 rfl (by kernel_rfl) (fun _ _ _ h => h) (by kernel_rfl) (fun w' hw' => exec_load _ _ (.pointer (some ⟨bw, 0, none⟩)) _ rfl (by kernel_rfl) (hY.out w' (cq2.trans hw'))) ?_
      simp only [Act.put, List.setIfInBounds_toArray, List.set_cons_zero, List.set_cons_succ]
      refine wpT.take (v := .slice a3 n3 k3) 21 rfl (by kernel_rfl) (fun _ _ _ h => h) (by kernel_rfl) (fun w' hw' => exec_move _ _ rfl (by kernel_rfl)) ?_
      simp only [Act.put, List.setIfInBounds_toArray, List.set_cons_zero, List.set_cons_succ]
      refine wpT.take (v := .string ⟨l.toArray⟩) 22 rfl (by kernel_rfl) (fun _ _ _ h => h) (by kernel_rfl) (fun w' hw' => exec_convB _ rfl (.slice a3 n3 k3) l (by kernel_rfl) (hC.out w' (cq2.trans hw'))) ?_
      simp only [Act.put, List.setIfInBounds_toArray, List.set_cons_zero, List.set_cons_succ]
      refine wpT.call 20 rfl (by kernel_rfl) (by kernel_rfl) (fun K' hK => ?_)
      go_wp2_with fail
      refine (hbY.out _ cq2).mono ?_
      rintro e q3 ⟨rfl, cst⟩
      refine hK _ _ cst ?_
      have cq3 := cq2.trans cst
      clear hK cst cq2
      try (simp only [Act.put, List.setIfInBounds_toArray, List.set_cons_zero, List.set_cons_succ])
      refine wpT.take (v := .bool true) 23 rfl (by kernel_rfl) (fun _ _ _ h => h) (by kernel_rfl) (fun w' hw' => exec_eq_str _ _ _ rfl l (by kernel_rfl) (by kernel_rfl)) ?_
      simp only [Act.put, List.setIfInBounds_toArray, List.set_cons_zero, List.set_cons_succ]
      refine wpT.take (v := .bool true) 24 rfl (by kernel_rfl) (fun _ _ _ h => h) (by kernel_rfl) (fun w' hw' => exec_pick_t _ _ _ _ rfl (by kernel_rfl) (by kernel_rfl)) ?_
      simp only [Act.put, List.setIfInBounds_toArray, List.set_cons_zero, List.set_cons_succ]
      refine wpT.take (v := .bool true) 25 rfl (by kernel_rfl) (fun _ _ _ h => h) (by kernel_rfl) (fun w' hw' => exec_move _ _ rfl (by kernel_rfl)) ?_
      simp only [Act.put, List.setIfInBounds_toArray, List.set_cons_zero, List.set_cons_succ]
      refine wpT.take (v := X) 26 rfl (by kernel_rfl) (fun _ _ _ h => h) (by kernel_rfl) (fun w' hw' => exec_load _ _ (.pointer (some ⟨bx, 0, none⟩)) _ rfl (by kernel_rfl) (hX.out w' (cq3.trans hw'))) ?_
      simp only [Act.put, List.setIfInBounds_toArray, List.set_cons_zero, List.set_cons_succ]
      refine wpT.take 28 rfl (by kernel_rfl) (fun _ _ _ h => h) rfl (fun w' hw' => by go_simp <;> with_reducible rfl) ?_
      simp only [Act.put, List.setIfInBounds_toArray, List.set_cons_zero, List.set_cons_succ]
      refine wpT.ld 29 rfl (by kernel_rfl) (fun _ _ _ _ h => h) (by kernel_rfl) _ _ rfl (by kernel_rfl) ⟨bx, 0, none⟩ (by kernel_rfl) (.int .i64 kind) (hk.out _ cq3) (fun h => h) ?_
      simp only [Act.put, List.setIfInBounds_toArray, List.set_cons_zero, List.set_cons_succ]
      refine wpT.take (v := .bool true) 30 rfl (by kernel_rfl) (fun _ _ _ h => h) (by kernel_rfl) (fun w' hw' => exec_eq_int _ _ _ rfl kind 2 true (by kernel_rfl) (by kernel_rfl) KK.out.1) ?_
      simp only [Act.put, List.setIfInBounds_toArray, List.set_cons_zero, List.set_cons_succ]
      refine wpT.call 27 rfl (by kernel_rfl) (by kernel_rfl) (fun K' hK => ?_)
      go_wp2_with fail
      refine (hE'.out _).mono ?_
      rintro e q4 ⟨rfl, cst⟩
      refine hK _ _ cst ?_
      have cq4 := cq3.trans cst
      clear hK cst cq3
      try (simp only [Act.put, List.setIfInBounds_toArray, List.set_cons_zero, List.set_cons_succ])
      refine wpT.take (v := .bool true) 31 rfl (by kernel_rfl) (fun _ _ _ h => h) (by kernel_rfl) (fun w' hw' => exec_move _ _ rfl (by kernel_rfl)) ?_
      simp only [Act.put, List.setIfInBounds_toArray, List.set_cons_zero, List.set_cons_succ]
      refine wpT.skip 32 rfl (by kernel_rfl) (fun _ _ _ h => h) (by kernel_rfl) ?_
      simp only [Act.put, List.setIfInBounds_toArray, List.set_cons_zero, List.set_cons_succ]
      refine wpT.skip 33 rfl (by kernel_rfl) (fun _ _ _ h => h) (by kernel_rfl) ?_
      simp only [Act.put, List.setIfInBounds_toArray, List.set_cons_zero, List.set_cons_succ]
      refine wpT.skip 34 rfl (by kernel_rfl) (fun _ _ _ h => h) (by kernel_rfl) ?_
      simp only [Act.put, List.setIfInBounds_toArray, List.set_cons_zero, List.set_cons_succ]
      refine wpT.take (v := .bool true) 35 rfl (by kernel_rfl) (fun _ _ _ h => h) (by kernel_rfl) (fun w' hw' => exec_pick_t _ _ _ _ rfl (by kernel_rfl) (by kernel_rfl)) ?_
      simp only [Act.put, List.setIfInBounds_toArray, List.set_cons_zero, List.set_cons_succ]
      refine wpT.take (v := .bool true) 36 rfl (by kernel_rfl) (fun _ _ _ h => h) (by kernel_rfl) (fun w' hw' => exec_move _ _ rfl (by kernel_rfl)) ?_
      simp only [Act.put, List.setIfInBounds_toArray, List.set_cons_zero, List.set_cons_succ]
      refine wpT.skip 37 rfl (by kernel_rfl) (fun _ _ _ h => h) (by kernel_rfl) ?_
      simp only [Act.put, List.setIfInBounds_toArray, List.set_cons_zero, List.set_cons_succ]
      refine wpT.skip 38 rfl (by kernel_rfl) (fun _ _ _ h => h) (by kernel_rfl) ?_
      simp only [Act.put, List.setIfInBounds_toArray, List.set_cons_zero, List.set_cons_succ]
      refine wpT.skip 39 rfl (by kernel_rfl) (fun _ _ _ h => h) (by kernel_rfl) ?_
      simp only [Act.put, List.setIfInBounds_toArray, List.set_cons_zero, List.set_cons_succ]
      refine wpT.take (v := .bool true) 40 rfl (by kernel_rfl) (fun _ _ _ h => h) (by kernel_rfl) (fun w' hw' => exec_pick_t _ _ _ _ rfl (by kernel_rfl) (by kernel_rfl)) ?_
      simp only [Act.put, List.setIfInBounds_toArray, List.set_cons_zero, List.set_cons_succ]
      refine wpT.take (v := .bool true) 41 rfl (by kernel_rfl) (fun _ _ _ h => h) (by kernel_rfl) (fun w' hw' => exec_eq_bool _ _ _ rfl true (by kernel_rfl) (by kernel_rfl)) ?_
      simp only [Act.put, List.setIfInBounds_toArray, List.set_cons_zero, List.set_cons_succ]
      refine wpT.take (v := .bool true) 42 rfl (by kernel_rfl) (fun _ _ _ h => h) (by kernel_rfl) (fun w' hw' => exec_pick_t _ _ _ _ rfl (by kernel_rfl) (by kernel_rfl)) ?_
      simp only [Act.put, List.setIfInBounds_toArray, List.set_cons_zero, List.set_cons_succ]
      refine wpT.take (v := .bool true) 43 rfl (by kernel_rfl) (fun _ _ _ h => h) (by kernel_rfl) (fun w' hw' => exec_assign _ _ rfl (by kernel_rfl)) ?_
      simp only [Act.put, List.setIfInBounds_toArray, List.set_cons_zero, List.set_cons_succ]
      refine wpT.done (by kernel_rfl) ?_
      go_wp2_with fail
      go_ret
      exact ⟨rfl, c010.out.trans cq4⟩
    · have K2 : (kind == 2) = false := by simp [g]
      have K7 : (kind == 7) = true := by simp [g]
      have K9 : (kind == 9) = false := by simp [g]
      have hE' : Hid (∀ w', Calls Try.prog 22 #[X] w' fun e w'' => e = .returned (.bool true) ∧ Chg (fun _ => False) w' w'') := fun w' => (hE.out w').mono (by rintro e w'' ⟨rfl, c⟩; exact ⟨by simp [g], c⟩)
      have KK : Hid ((kind == 2) = false ∧ (kind == 7) = true ∧ (kind == 9) = false) := ⟨K2, K7, K9⟩
      clear K2 K7 K9 hE g
      refine wpT.begin (fun _ => False) 44 (by kernel_rfl) rfl ?_
      refine wpT.take (v := .int .i64 0) 0 rfl (by kernel_rfl) (fun _ _ _ h => h) (by kernel_rfl) (fun w' hw' => exec_move _ _ rfl (by kernel_rfl)) ?_
      simp only [Act.put, List.setIfInBounds_toArray, List.set_cons_zero, List.set_cons_succ]
      refine wpT.take (v := .bool true) 1 rfl (by kernel_rfl) (fun _ _ _ h => h) (by kernel_rfl) (fun w' hw' => exec_eq_err _ _ _ rfl 0 (by kernel_rfl) (by kernel_rfl)) ?_
      simp only [Act.put, List.setIfInBounds_toArray, List.set_cons_zero, List.set_cons_succ]
      refine wpT.take (v := .bool true) 2 rfl (by kernel_rfl) (fun _ _ _ h => h) (by kernel_rfl) (fun w' hw' => exec_move _ _ rfl (by kernel_rfl)) ?_
      simp only [Act.put, List.setIfInBounds_toArray, List.set_cons_zero, List.set_cons_succ]
      refine wpT.take (v := .slice a3 n3 k3) 3 rfl (by kernel_rfl) (fun _ _ _ h => h) (by kernel_rfl) (fun w' hw' => exec_move _ _ rfl (by kernel_rfl)) ?_
      simp only [Act.put, List.setIfInBounds_toArray, List.set_cons_zero, List.set_cons_succ]
      refine wpT.take (v := .string ⟨l.toArray⟩) 4 rfl (by kernel_rfl) (fun _ _ _ h => h) (by kernel_rfl) (fun w' hw' => exec_convB _ rfl (.slice a3 n3 k3) l (by kernel_rfl) (hC.out w' (cd.trans hw'))) ?_
      simp only [Act.put, List.setIfInBounds_toArray, List.set_cons_zero, List.set_cons_succ]
      refine wpT.take (v := X) 5 rfl (by kernel_rfl) (fun _ _ _ h => h) (by kernel_rfl) (fun w' hw' => exec_load _ _ (.pointer (some ⟨bx, 0, none⟩)) _ rfl (by kernel_rfl) (hX.out w' (cd.trans hw'))) ?_
      simp only [Act.put, List.setIfInBounds_toArray, List.set_cons_zero, List.set_cons_succ]
      refine wpT.call 6 rfl (by kernel_rfl) (by kernel_rfl) (fun K' hK => ?_)
      go_wp2_with fail
      refine (hbX.out _ cd).mono ?_
      rintro e q1 ⟨rfl, cst⟩
      refine hK _ _ cst ?_
      have cq1 := cd.trans cst
      clear hK cst cd
      try (simp only [Act.put, List.setIfInBounds_toArray, List.set_cons_zero, List.set_cons_succ])
      refine wpT.take (v := .bool true) 7 rfl (by kernel_rfl) (fun _ _ _ h => h) (by kernel_rfl) (fun w' hw' => exec_eq_str _ _ _ rfl l (by kernel_rfl) (by kernel_rfl)) ?_
      simp only [Act.put, List.setIfInBounds_toArray, List.set_cons_zero, List.set_cons_succ]
      refine wpT.take (v := .bool true) 8 rfl (by kernel_rfl) (fun _ _ _ h => h) (by kernel_rfl) (fun w' hw' => exec_pick_t _ _ _ _ rfl (by kernel_rfl) (by kernel_rfl)) ?_
      simp only [Act.put, List.setIfInBounds_toArray, List.set_cons_zero, List.set_cons_succ]
      refine wpT.take (v := .bool true) 9 rfl (by kernel_rfl) (fun _ _ _ h => h) (by kernel_rfl) (fun w' hw' => exec_move _ _ rfl (by kernel_rfl)) ?_
      simp only [Act.put, List.setIfInBounds_toArray, List.set_cons_zero, List.set_cons_succ]
      refine wpT.take (v := .int .i64 0) 10 rfl (by kernel_rfl) (fun _ _ _ h => h) (by kernel_rfl) (fun w' hw' => exec_move _ _ rfl (by kernel_rfl)) ?_
      simp only [Act.put, List.setIfInBounds_toArray, List.set_cons_zero, List.set_cons_succ]
      refine wpT.take (v := .bool true) 11 rfl (by kernel_rfl) (fun _ _ _ h => h) (by kernel_rfl) (fun w' hw' => exec_eq_err _ _ _ rfl 0 (by kernel_rfl) (by kernel_rfl)) ?_
      simp only [Act.put, List.setIfInBounds_toArray, List.set_cons_zero, List.set_cons_succ]
      refine wpT.take (v := .bool true) 12 rfl (by kernel_rfl) (fun _ _ _ h => h) (by kernel_rfl) (fun w' hw' => exec_pick_t _ _ _ _ rfl (by kernel_rfl) (by kernel_rfl)) ?_
      simp only [Act.put, List.setIfInBounds_toArray, List.set_cons_zero, List.set_cons_succ]
      refine wpT.take (v := .bool true) 13 rfl (by kernel_rfl) (fun _ _ _ h => h) (by kernel_rfl) (fun w' hw' => exec_move _ _ rfl (by kernel_rfl)) ?_
      simp only [Act.put, List.setIfInBounds_toArray, List.set_cons_zero, List.set_cons_succ]
      refine wpT.take (v := U) 14 rfl (by kernel_rfl) (fun _ _ _ h => h) (by kernel_rfl) (fun w' hw' => exec_load _ _ (.pointer (some ⟨bu, 0, none⟩)) _ rfl (by kernel_rfl) (hU.out w' (cq1.trans hw'))) ?_
      simp only [Act.put, List.setIfInBounds_toArray, List.set_cons_zero, List.set_cons_succ]
      refine wpT.take (v := Y) 15 rfl (by kernel_rfl) (fun _ _ _ h => h) (by kernel_rfl) (fun w' hw' => exec_load _ _ (.pointer (some ⟨bw, 0, none⟩)) _ rfl (by kernel_rfl) (hY.out w' (cq1.trans hw'))) ?_
      simp only [Act.put, List.setIfInBounds_toArray, List.set_cons_zero, List.set_cons_succ]
      refine wpT.call 16 rfl (by kernel_rfl) (by kernel_rfl) (fun K' hK => ?_)
      go_wp2_with fail
      refine (hS.out _ cq1).mono ?_
      rintro e q2 ⟨rfl, cst⟩
      refine hK _ _ cst ?_
      have cq2 := cq1.trans cst
      clear hK cst cq1
      try (simp only [Act.put, List.setIfInBounds_toArray, List.set_cons_zero, List.set_cons_succ])
      refine wpT.take (v := .bool true) 17 rfl (by kernel_rfl) (fun _ _ _ h => h) (by kernel_rfl) (fun w' hw' => exec_pick_t _ _ _ _ rfl (by kernel_rfl) (by kernel_rfl)) ?_
      simp only [Act.put, List.setIfInBounds_toArray, List.set_cons_zero, List.set_cons_succ]
      refine wpT.take (v := .bool true) 18 rfl (by kernel_rfl) (fun _ _ _ h => h) (by kernel_rfl) (fun w' hw' => exec_move _ _ rfl (by kernel_rfl)) ?_
      simp only [Act.put, List.setIfInBounds_toArray, List.set_cons_zero, List.set_cons_succ]
      refine wpT.take (v := Y) 19 rfl (by kernel_rfl) (fun _ _ _ h => h) (by kernel_rfl) (fun w' hw' => exec_load _ _ (.pointer (some ⟨bw, 0, none⟩)) _ rfl (by kernel_rfl) (hY.out w' (cq2.trans hw'))) ?_
      simp only [Act.put, List.setIfInBounds_toArray, List.set_cons_zero, List.set_cons_succ]
      refine wpT.take (v := .slice a3 n3 k3) 21 rfl (by kernel_rfl) (fun _ _ _ h => h) (by kernel_rfl) (fun w' hw' => exec_move _ _ rfl (by kernel_rfl)) ?_
      simp only [Act.put, List.setIfInBounds_toArray, List.set_cons_zero, List.set_cons_succ]
      refine wpT.take (v := .string ⟨l.toArray⟩) 22 rfl (by kernel_rfl) (fun _ _ _ h => h) (by kernel_rfl) (fun w' hw' => exec_convB _ rfl (.slice a3 n3 k3) l (by kernel_rfl) (hC.out w' (cq2.trans hw'))) ?_
      simp only [Act.put, List.setIfInBounds_toArray, List.set_cons_zero, List.set_cons_succ]
      refine wpT.call 20 rfl (by kernel_rfl) (by kernel_rfl) (fun K' hK => ?_)
      go_wp2_with fail
      refine (hbY.out _ cq2).mono ?_
      rintro e q3 ⟨rfl, cst⟩
      refine hK _ _ cst ?_
      have cq3 := cq2.trans cst
      clear hK cst cq2
      try (simp only [Act.put, List.setIfInBounds_toArray, List.set_cons_zero, List.set_cons_succ])
      refine wpT.take (v := .bool true) 23 rfl (by kernel_rfl) (fun _ _ _ h => h) (by kernel_rfl) (fun w' hw' => exec_eq_str _ _ _ rfl l (by kernel_rfl) (by kernel_rfl)) ?_
      simp only [Act.put, List.setIfInBounds_toArray, List.set_cons_zero, List.set_cons_succ]
      refine wpT.take (v := .bool true) 24 rfl (by kernel_rfl) (fun _ _ _ h => h) (by kernel_rfl) (fun w' hw' => exec_pick_t _ _ _ _ rfl (by kernel_rfl) (by kernel_rfl)) ?_
      simp only [Act.put, List.setIfInBounds_toArray, List.set_cons_zero, List.set_cons_succ]
      refine wpT.take (v := .bool true) 25 rfl (by kernel_rfl) (fun _ _ _ h => h) (by kernel_rfl) (fun w' hw' => exec_move _ _ rfl (by kernel_rfl)) ?_
      simp only [Act.put, List.setIfInBounds_toArray, List.set_cons_zero, List.set_cons_succ]
      refine wpT.take (v := X) 26 rfl (by kernel_rfl) (fun _ _ _ h => h) (by kernel_rfl) (fun w' hw' => exec_load _ _ (.pointer (some ⟨bx, 0, none⟩)) _ rfl (by kernel_rfl) (hX.out w' (cq3.trans hw'))) ?_
      simp only [Act.put, List.setIfInBounds_toArray, List.set_cons_zero, List.set_cons_succ]
      refine wpT.take 28 rfl (by kernel_rfl) (fun _ _ _ h => h) rfl (fun w' hw' => by go_simp <;> with_reducible rfl) ?_
      simp only [Act.put, List.setIfInBounds_toArray, List.set_cons_zero, List.set_cons_succ]
      refine wpT.ld 29 rfl (by kernel_rfl) (fun _ _ _ _ h => h) (by kernel_rfl) _ _ rfl (by kernel_rfl) ⟨bx, 0, none⟩ (by kernel_rfl) (.int .i64 kind) (hk.out _ cq3) (fun h => h) ?_
      simp only [Act.put, List.setIfInBounds_toArray, List.set_cons_zero, List.set_cons_succ]
      refine wpT.take (v := .bool false) 30 rfl (by kernel_rfl) (fun _ _ _ h => h) (by kernel_rfl) (fun w' hw' => exec_eq_int _ _ _ rfl kind 2 false (by kernel_rfl) (by kernel_rfl) KK.out.1) ?_
      simp only [Act.put, List.setIfInBounds_toArray, List.set_cons_zero, List.set_cons_succ]
      refine wpT.call 27 rfl (by kernel_rfl) (by kernel_rfl) (fun K' hK => ?_)
      go_wp2_with fail
      refine (hE'.out _).mono ?_
      rintro e q4 ⟨rfl, cst⟩
      refine hK _ _ cst ?_
      have cq4 := cq3.trans cst
      clear hK cst cq3
      try (simp only [Act.put, List.setIfInBounds_toArray, List.set_cons_zero, List.set_cons_succ])
      refine wpT.take (v := .bool false) 31 rfl (by kernel_rfl) (fun _ _ _ h => h) (by kernel_rfl) (fun w' hw' => exec_move _ _ rfl (by kernel_rfl)) ?_
      simp only [Act.put, List.setIfInBounds_toArray, List.set_cons_zero, List.set_cons_succ]
      refine wpT.take 32 rfl (by kernel_rfl) (fun _ _ _ h => h) rfl (fun w' hw' => by go_simp <;> with_reducible rfl) ?_
      simp only [Act.put, List.setIfInBounds_toArray, List.set_cons_zero, List.set_cons_succ]
      refine wpT.ld 33 rfl (by kernel_rfl) (fun _ _ _ _ h => h) (by kernel_rfl) _ _ rfl (by kernel_rfl) ⟨bx, 0, none⟩ (by kernel_rfl) (.int .i64 kind) (hk.out _ cq4) (fun h => h) ?_
      simp only [Act.put, List.setIfInBounds_toArray, List.set_cons_zero, List.set_cons_succ]
      refine wpT.take (v := .bool true) 34 rfl (by kernel_rfl) (fun _ _ _ h => h) (by kernel_rfl) (fun w' hw' => exec_eq_int _ _ _ rfl kind 7 true (by kernel_rfl) (by kernel_rfl) KK.out.2.1) ?_
      simp only [Act.put, List.setIfInBounds_toArray, List.set_cons_zero, List.set_cons_succ]
      refine wpT.take (v := .bool true) 35 rfl (by kernel_rfl) (fun _ _ _ h => h) (by kernel_rfl) (fun w' hw' => exec_pick_f _ _ _ _ rfl (by kernel_rfl) (by kernel_rfl)) ?_
      simp only [Act.put, List.setIfInBounds_toArray, List.set_cons_zero, List.set_cons_succ]
      refine wpT.take (v := .bool true) 36 rfl (by kernel_rfl) (fun _ _ _ h => h) (by kernel_rfl) (fun w' hw' => exec_move _ _ rfl (by kernel_rfl)) ?_
      simp only [Act.put, List.setIfInBounds_toArray, List.set_cons_zero, List.set_cons_succ]
      refine wpT.skip 37 rfl (by kernel_rfl) (fun _ _ _ h => h) (by kernel_rfl) ?_
      simp only [Act.put, List.setIfInBounds_toArray, List.set_cons_zero, List.set_cons_succ]
      refine wpT.skip 38 rfl (by kernel_rfl) (fun _ _ _ h => h) (by kernel_rfl) ?_
      simp only [Act.put, List.setIfInBounds_toArray, List.set_cons_zero, List.set_cons_succ]
      refine wpT.skip 39 rfl (by kernel_rfl) (fun _ _ _ h => h) (by kernel_rfl) ?_
      simp only [Act.put, List.setIfInBounds_toArray, List.set_cons_zero, List.set_cons_succ]
      refine wpT.take (v := .bool true) 40 rfl (by kernel_rfl) (fun _ _ _ h => h) (by kernel_rfl) (fun w' hw' => exec_pick_t _ _ _ _ rfl (by kernel_rfl) (by kernel_rfl)) ?_
      simp only [Act.put, List.setIfInBounds_toArray, List.set_cons_zero, List.set_cons_succ]
      refine wpT.take (v := .bool true) 41 rfl (by kernel_rfl) (fun _ _ _ h => h) (by kernel_rfl) (fun w' hw' => exec_eq_bool _ _ _ rfl true (by kernel_rfl) (by kernel_rfl)) ?_
      simp only [Act.put, List.setIfInBounds_toArray, List.set_cons_zero, List.set_cons_succ]
      refine wpT.take (v := .bool true) 42 rfl (by kernel_rfl) (fun _ _ _ h => h) (by kernel_rfl) (fun w' hw' => exec_pick_t _ _ _ _ rfl (by kernel_rfl) (by kernel_rfl)) ?_
      simp only [Act.put, List.setIfInBounds_toArray, List.set_cons_zero, List.set_cons_succ]
      refine wpT.take (v := .bool true) 43 rfl (by kernel_rfl) (fun _ _ _ h => h) (by kernel_rfl) (fun w' hw' => exec_assign _ _ rfl (by kernel_rfl)) ?_
      simp only [Act.put, List.setIfInBounds_toArray, List.set_cons_zero, List.set_cons_succ]
      refine wpT.done (by kernel_rfl) ?_
      go_wp2_with fail
      go_ret
      exact ⟨rfl, c010.out.trans cq4⟩
    · have K2 : (kind == 2) = false := by simp [g]
      have K7 : (kind == 7) = false := by simp [g]
      have K9 : (kind == 9) = true := by simp [g]
      have hE' : Hid (∀ w', Calls Try.prog 22 #[X] w' fun e w'' => e = .returned (.bool true) ∧ Chg (fun _ => False) w' w'') := fun w' => (hE.out w').mono (by rintro e w'' ⟨rfl, c⟩; exact ⟨by simp [g], c⟩)
      have KK : Hid ((kind == 2) = false ∧ (kind == 7) = false ∧ (kind == 9) = true) := ⟨K2, K7, K9⟩
      clear K2 K7 K9 hE g
      refine wpT.begin (fun _ => False) 44 (by kernel_rfl) rfl ?_
      refine wpT.take (v := .int .i64 0) 0 rfl (by kernel_rfl) (fun _ _ _ h => h) (by kernel_rfl) (fun w' hw' => exec_move _ _ rfl (by kernel_rfl)) ?_
      simp only [Act.put, List.setIfInBounds_toArray, List.set_cons_zero, List.set_cons_succ]
      refine wpT.take (v := .bool true) 1 rfl (by kernel_rfl) (fun _ _ _ h => h) (by kernel_rfl) (fun w' hw' => exec_eq_err _ _ _ rfl 0 (by kernel_rfl) (by kernel_rfl)) ?_
      simp only [Act.put, List.setIfInBounds_toArray, List.set_cons_zero, List.set_cons_succ]
      refine wpT.take (v := .bool true) 2 rfl (by kernel_rfl) (fun _ _ _ h => h) (by kernel_rfl) (fun w' hw' => exec_move _ _ rfl (by kernel_rfl)) ?_
      simp only [Act.put, List.setIfInBounds_toArray, List.set_cons_zero, List.set_cons_succ]
      refine wpT.take (v := .slice a3 n3 k3) 3 rfl (by kernel_rfl) (fun _ _ _ h => h) (by kernel_rfl) (fun w' hw' => exec_move _ _ rfl (by kernel_rfl)) ?_
      simp only [Act.put, List.setIfInBounds_toArray, List.set_cons_zero, List.set_cons_succ]
      refine wpT.take (v := .string ⟨l.toArray⟩) 4 rfl (by kernel_rfl) (fun _ _ _ h => h) (by kernel_rfl) (fun w' hw' => exec_convB _ rfl (.slice a3 n3 k3) l (by kernel_rfl) (hC.out w' (cd.trans hw'))) ?_
      simp only [Act.put, List.setIfInBounds_toArray, List.set_cons_zero, List.set_cons_succ]
      refine wpT.take (v := X) 5 rfl (by kernel_rfl) (fun _ _ _ h => h) (by kernel_rfl) (fun w' hw' => exec_load _ _ (.pointer (some ⟨bx, 0, none⟩)) _ rfl (by kernel_rfl) (hX.out w' (cd.trans hw'))) ?_
      simp only [Act.put, List.setIfInBounds_toArray, List.set_cons_zero, List.set_cons_succ]
      refine wpT.call 6 rfl (by kernel_rfl) (by kernel_rfl) (fun K' hK => ?_)
      go_wp2_with fail
      refine (hbX.out _ cd).mono ?_
      rintro e q1 ⟨rfl, cst⟩
      refine hK _ _ cst ?_
      have cq1 := cd.trans cst
      clear hK cst cd
      try (simp only [Act.put, List.setIfInBounds_toArray, List.set_cons_zero, List.set_cons_succ])
      refine wpT.take (v := .bool true) 7 rfl (by kernel_rfl) (fun _ _ _ h => h) (by kernel_rfl) (fun w' hw' => exec_eq_str _ _ _ rfl l (by kernel_rfl) (by kernel_rfl)) ?_
      simp only [Act.put, List.setIfInBounds_toArray, List.set_cons_zero, List.set_cons_succ]
      refine wpT.take (v := .bool true) 8 rfl (by kernel_rfl) (fun _ _ _ h => h) (by kernel_rfl) (fun w' hw' => exec_pick_t _ _ _ _ rfl (by kernel_rfl) (by kernel_rfl)) ?_
      simp only [Act.put, List.setIfInBounds_toArray, List.set_cons_zero, List.set_cons_succ]
      refine wpT.take (v := .bool true) 9 rfl (by kernel_rfl) (fun _ _ _ h => h) (by kernel_rfl) (fun w' hw' => exec_move _ _ rfl (by kernel_rfl)) ?_
      simp only [Act.put, List.setIfInBounds_toArray, List.set_cons_zero, List.set_cons_succ]
      refine wpT.take (v := .int .i64 0) 10 rfl (by kernel_rfl) (fun _ _ _ h => h) (by kernel_rfl) (fun w' hw' => exec_move _ _ rfl (by kernel_rfl)) ?_
      simp only [Act.put, List.setIfInBounds_toArray, List.set_cons_zero, List.set_cons_succ]
      refine wpT.take (v := .bool true) 11 rfl (by kernel_rfl) (fun _ _ _ h => h) (by kernel_rfl) (fun w' hw' => exec_eq_err _ _ _ rfl 0 (by kernel_rfl) (by kernel_rfl)) ?_
      simp only [Act.put, List.setIfInBounds_toArray, List.set_cons_zero, List.set_cons_succ]
      refine wpT.take (v := .bool true) 12 rfl (by kernel_rfl) (fun _ _ _ h => h) (by kernel_rfl) (fun w' hw' => exec_pick_t _ _ _ _ rfl (by kernel_rfl) (by kernel_rfl)) ?_
      simp only [Act.put, List.setIfInBounds_toArray, List.set_cons_zero, List.set_cons_succ]
      refine wpT.take (v := .bool true) 13 rfl (by kernel_rfl) (fun _ _ _ h => h) (by kernel_rfl) (fun w' hw' => exec_move _ _ rfl (by kernel_rfl)) ?_
      simp only [Act.put, List.setIfInBounds_toArray, List.set_cons_zero, List.set_cons_succ]
      refine wpT.take (v := U) 14 rfl (by kernel_rfl) (fun _ _ _ h => h) (by kernel_rfl) (fun w' hw' => exec_load _ _ (.pointer (some ⟨bu, 0, none⟩)) _ rfl (by kernel_rfl) (hU.out w' (cq1.trans hw'))) ?_
      simp only [Act.put, List.setIfInBounds_toArray, List.set_cons_zero, List.set_cons_succ]
      refine wpT.take (v := Y) 15 rfl (by kernel_rfl) (fun _ _ _ h => h) (by kernel_rfl) (fun w' hw' => exec_load _ _ (.pointer (some ⟨bw, 0, none⟩)) _ rfl (by kernel_rfl) (hY.out w' (cq1.trans hw'))) ?_
      simp only [Act.put, List.setIfInBounds_toArray, List.set_cons_zero, List.set_cons_succ]
      refine wpT.call 16 rfl (by kernel_rfl) (by kernel_rfl) (fun K' hK => ?_)
      go_wp2_with fail
      refine (hS.out _ cq1).mono ?_
      rintro e q2 ⟨rfl, cst⟩
      refine hK _ _ cst ?_
      have cq2 := cq1.trans cst
      clear hK cst cq1
      try (simp only [Act.put, List.setIfInBounds_toArray, List.set_cons_zero, List.set_cons_succ])
      refine wpT.take (v := .bool true) 17 rfl (by kernel_rfl) (fun _ _ _ h => h) (by kernel_rfl) (fun w' hw' => exec_pick_t _ _ _ _ rfl (by kernel_rfl) (by kernel_rfl)) ?_
      simp only [Act.put, List.setIfInBounds_toArray, List.set_cons_zero, List.set_cons_succ]
      refine wpT.take (v := .bool true) 18 rfl (by kernel_rfl) (fun _ _ _ h => h) (by kernel_rfl) (fun w' hw' => exec_move _ _ rfl (by kernel_rfl)) ?_
      simp only [Act.put, List.setIfInBounds_toArray, List.set_cons_zero, List.set_cons_succ]
      refine wpT.take (v := Y) 19 rfl (by kernel_rfl) (fun _ _ _ h => h) (by kernel_rfl) (fun w' hw' => exec_load _ _ (.pointer (some ⟨bw, 0, none⟩)) _ rfl (by kernel_rfl) (hY.out w' (cq2.trans hw'))) ?_
      simp only [Act.put, List.setIfInBounds_toArray, List.set_cons_zero, List.set_cons_succ]
      refine wpT.take (v := .slice a3 n3 k3) 21 rfl (by kernel_rfl) (fun _ _ _ h => h) (by kernel_rfl) (fun w' hw' => exec_move _ _ rfl (by kernel_rfl)) ?_
      simp only [Act.put, List.setIfInBounds_toArray, List.set_cons_zero, List.set_cons_succ]
      refine wpT.take (v := .string ⟨l.toArray⟩) 22 rfl (by kernel_rfl) (fun _ _ _ h => h) (by kernel_rfl) (fun w' hw' => exec_convB _ rfl (.slice a3 n3 k3) l (by kernel_rfl) (hC.out w' (cq2.trans hw'))) ?_
      simp only [Act.put, List.setIfInBounds_toArray, List.set_cons_zero, List.set_cons_succ]
      refine wpT.call 20 rfl (by kernel_rfl) (by kernel_rfl) (fun K' hK => ?_)
      go_wp2_with fail
      refine (hbY.out _ cq2).mono ?_
      rintro e q3 ⟨rfl, cst⟩
      refine hK _ _ cst ?_
      have cq3 := cq2.trans cst
      clear hK cst cq2
      try (simp only [Act.put, List.setIfInBounds_toArray, List.set_cons_zero, List.set_cons_succ])
      refine wpT.take (v := .bool true) 23 rfl (by kernel_rfl) (fun _ _ _ h => h) (by kernel_rfl) (fun w' hw' => exec_eq_str _ _ _ rfl l (by kernel_rfl) (by kernel_rfl)) ?_
      simp only [Act.put, List.setIfInBounds_toArray, List.set_cons_zero, List.set_cons_succ]
      refine wpT.take (v := .bool true) 24 rfl (by kernel_rfl) (fun _ _ _ h => h) (by kernel_rfl) (fun w' hw' => exec_pick_t _ _ _ _ rfl (by kernel_rfl) (by kernel_rfl)) ?_
      simp only [Act.put, List.setIfInBounds_toArray, List.set_cons_zero, List.set_cons_succ]
      refine wpT.take (v := .bool true) 25 rfl (by kernel_rfl) (fun _ _ _ h => h) (by kernel_rfl) (fun w' hw' => exec_move _ _ rfl (by kernel_rfl)) ?_
      simp only [Act.put, List.setIfInBounds_toArray, List.set_cons_zero, List.set_cons_succ]
      refine wpT.take (v := X) 26 rfl (by kernel_rfl) (fun _ _ _ h => h) (by kernel_rfl) (fun w' hw' => exec_load _ _ (.pointer (some ⟨bx, 0, none⟩)) _ rfl (by kernel_rfl) (hX.out w' (cq3.trans hw'))) ?_
      simp only [Act.put, List.setIfInBounds_toArray, List.set_cons_zero, List.set_cons_succ]
      refine wpT.take 28 rfl (by kernel_rfl) (fun _ _ _ h => h) rfl (fun w' hw' => by go_simp <;> with_reducible rfl) ?_
      simp only [Act.put, List.setIfInBounds_toArray, List.set_cons_zero, List.set_cons_succ]
      refine wpT.ld 29 rfl (by kernel_rfl) (fun _ _ _ _ h => h) (by kernel_rfl) _ _ rfl (by kernel_rfl) ⟨bx, 0, none⟩ (by kernel_rfl) (.int .i64 kind) (hk.out _ cq3) (fun h => h) ?_
      simp only [Act.put, List.setIfInBounds_toArray, List.set_cons_zero, List.set_cons_succ]
      refine wpT.take (v := .bool false) 30 rfl (by kernel_rfl) (fun _ _ _ h => h) (by kernel_rfl) (fun w' hw' => exec_eq_int _ _ _ rfl kind 2 false (by kernel_rfl) (by kernel_rfl) KK.out.1) ?_
      simp only [Act.put, List.setIfInBounds_toArray, List.set_cons_zero, List.set_cons_succ]
      refine wpT.call 27 rfl (by kernel_rfl) (by kernel_rfl) (fun K' hK => ?_)
      go_wp2_with fail
      refine (hE'.out _).mono ?_
      rintro e q4 ⟨rfl, cst⟩
      refine hK _ _ cst ?_
      have cq4 := cq3.trans cst
      clear hK cst cq3
      try (simp only [Act.put, List.setIfInBounds_toArray, List.set_cons_zero, List.set_cons_succ])
      refine wpT.take (v := .bool false) 31 rfl (by kernel_rfl) (fun _ _ _ h => h) (by kernel_rfl) (fun w' hw' => exec_move _ _ rfl (by kernel_rfl)) ?_
      simp only [Act.put, List.setIfInBounds_toArray, List.set_cons_zero, List.set_cons_succ]
      refine wpT.take 32 rfl (by kernel_rfl) (fun _ _ _ h => h) rfl (fun w' hw' => by go_simp <;> with_reducible rfl) ?_
      simp only [Act.put, List.setIfInBounds_toArray, List.set_cons_zero, List.set_cons_succ]
      refine wpT.ld 33 rfl (by kernel_rfl) (fun _ _ _ _ h => h) (by kernel_rfl) _ _ rfl (by kernel_rfl) ⟨bx, 0, none⟩ (by kernel_rfl) (.int .i64 kind) (hk.out _ cq4) (fun h => h) ?_
      simp only [Act.put, List.setIfInBounds_toArray, List.set_cons_zero, List.set_cons_succ]
      refine wpT.take (v := .bool false) 34 rfl (by kernel_rfl) (fun _ _ _ h => h) (by kernel_rfl) (fun w' hw' => exec_eq_int _ _ _ rfl kind 7 false (by kernel_rfl) (by kernel_rfl) KK.out.2.1) ?_
      simp only [Act.put, List.setIfInBounds_toArray, List.set_cons_zero, List.set_cons_succ]
      refine wpT.take (v := .bool false) 35 rfl (by kernel_rfl) (fun _ _ _ h => h) (by kernel_rfl) (fun w' hw' => exec_pick_f _ _ _ _ rfl (by kernel_rfl) (by kernel_rfl)) ?_
      simp only [Act.put, List.setIfInBounds_toArray, List.set_cons_zero, List.set_cons_succ]
      refine wpT.take (v := .bool false) 36 rfl (by kernel_rfl) (fun _ _ _ h => h) (by kernel_rfl) (fun w' hw' => exec_move _ _ rfl (by kernel_rfl)) ?_
      simp only [Act.put, List.setIfInBounds_toArray, List.set_cons_zero, List.set_cons_succ]
      refine wpT.take 37 rfl (by kernel_rfl) (fun _ _ _ h => h) rfl (fun w' hw' => by go_simp <;> with_reducible rfl) ?_
      simp only [Act.put, List.setIfInBounds_toArray, List.set_cons_zero, List.set_cons_succ]
      refine wpT.ld 38 rfl (by kernel_rfl) (fun _ _ _ _ h => h) (by kernel_rfl) _ _ rfl (by kernel_rfl) ⟨bx, 0, none⟩ (by kernel_rfl) (.int .i64 kind) (hk.out _ cq4) (fun h => h) ?_
      simp only [Act.put, List.setIfInBounds_toArray, List.set_cons_zero, List.set_cons_succ]
      refine wpT.take (v := .bool true) 39 rfl (by kernel_rfl) (fun _ _ _ h => h) (by kernel_rfl) (fun w' hw' => exec_eq_int _ _ _ rfl kind 9 true (by kernel_rfl) (by kernel_rfl) KK.out.2.2) ?_
      simp only [Act.put, List.setIfInBounds_toArray, List.set_cons_zero, List.set_cons_succ]
      refine wpT.take (v := .bool true) 40 rfl (by kernel_rfl) (fun _ _ _ h => h) (by kernel_rfl) (fun w' hw' => exec_pick_f _ _ _ _ rfl (by kernel_rfl) (by kernel_rfl)) ?_
      simp only [Act.put, List.setIfInBounds_toArray, List.set_cons_zero, List.set_cons_succ]
      refine wpT.take (v := .bool true) 41 rfl (by kernel_rfl) (fun _ _ _ h => h) (by kernel_rfl) (fun w' hw' => exec_eq_bool _ _ _ rfl true (by kernel_rfl) (by kernel_rfl)) ?_
      simp only [Act.put, List.setIfInBounds_toArray, List.set_cons_zero, List.set_cons_succ]
      refine wpT.take (v := .bool true) 42 rfl (by kernel_rfl) (fun _ _ _ h => h) (by kernel_rfl) (fun w' hw' => exec_pick_t _ _ _ _ rfl (by kernel_rfl) (by kernel_rfl)) ?_
      simp only [Act.put, List.setIfInBounds_toArray, List.set_cons_zero, List.set_cons_succ]
      refine wpT.take (v := .bool true) 43 rfl (by kernel_rfl) (fun _ _ _ h => h) (by kernel_rfl) (fun w' hw' => exec_assign _ _ rfl (by kernel_rfl)) ?_
      simp only [Act.put, List.setIfInBounds_toArray, List.set_cons_zero, List.set_cons_succ]
      refine wpT.done (by kernel_rfl) ?_
      go_wp2_with fail
      go_ret
      exact ⟨rfl, c010.out.trans cq4⟩
    · have K2 : (kind == 2) = false := by simp [g2, g7, g9]
      have K7 : (kind == 7) = false := by simp [g2, g7, g9]
      have K9 : (kind == 9) = false := by simp [g2, g7, g9]
      have hE' : Hid (∀ w', Calls Try.prog 22 #[X] w' fun e w'' => e = .returned (.bool false) ∧ Chg (fun _ => False) w' w'') := fun w' => (hE.out w').mono (by rintro e w'' ⟨rfl, c⟩; exact ⟨by simp [g2, g7, g9], c⟩)
      have KK : Hid ((kind == 2) = false ∧ (kind == 7) = false ∧ (kind == 9) = false) := ⟨K2, K7, K9⟩
      clear K2 K7 K9 hE g2 g7 g9
      refine wpT.begin (fun _ => False) 44 (by kernel_rfl) rfl ?_
      refine wpT.take (v := .int .i64 0) 0 rfl (by kernel_rfl) (fun _ _ _ h => h) (by kernel_rfl) (fun w' hw' => exec_move _ _ rfl (by kernel_rfl)) ?_
      simp only [Act.put, List.setIfInBounds_toArray, List.set_cons_zero, List.set_cons_succ]
      refine wpT.take (v := .bool true) 1 rfl (by kernel_rfl) (fun _ _ _ h => h) (by kernel_rfl) (fun w' hw' => exec_eq_err _ _ _ rfl 0 (by kernel_rfl) (by kernel_rfl)) ?_
      simp only [Act.put, List.setIfInBounds_toArray, List.set_cons_zero, List.set_cons_succ]
      refine wpT.take (v := .bool true) 2 rfl (by kernel_rfl) (fun _ _ _ h => h) (by kernel_rfl) (fun w' hw' => exec_move _ _ rfl (by kernel_rfl)) ?_
      simp only [Act.put, List.setIfInBounds_toArray, List.set_cons_zero, List.set_cons_succ]
      refine wpT.take (v := .slice a3 n3 k3) 3 rfl (by kernel_rfl) (fun _ _ _ h => h) (by kernel_rfl) (fun w' hw' => exec_move _ _ rfl (by kernel_rfl)) ?_
      simp only [Act.put, List.setIfInBounds_toArray, List.set_cons_zero, List.set_cons_succ]
      refine wpT.take (v := .string ⟨l.toArray⟩) 4 rfl (by kernel_rfl) (fun _ _ _ h => h) (by kernel_rfl) (fun w' hw' => exec_convB _ rfl (.slice a3 n3 k3) l (by kernel_rfl) (hC.out w' (cd.trans hw'))) ?_
      simp only [Act.put, List.setIfInBounds_toArray, List.set_cons_zero, List.set_cons_succ]
      refine wpT.take (v := X) 5 rfl (by kernel_rfl) (fun _ _ _ h => h) (by kernel_rfl) (fun w' hw' => exec_load _ _ (.pointer (some ⟨bx, 0, none⟩)) _ rfl (by kernel_rfl) (hX.out w' (cd.trans hw'))) ?_
      simp only [Act.put, List.setIfInBounds_toArray, List.set_cons_zero, List.set_cons_succ]
      refine wpT.call 6 rfl (by kernel_rfl) (by kernel_rfl) (fun K' hK => ?_)
      go_wp2_with fail
      refine (hbX.out _ cd).mono ?_
      rintro e q1 ⟨rfl, cst⟩
      refine hK _ _ cst ?_
      have cq1 := cd.trans cst
      clear hK cst cd
      try (simp only [Act.put, List.setIfInBounds_toArray, List.set_cons_zero, List.set_cons_succ])
      refine wpT.take (v := .bool true) 7 rfl (by kernel_rfl) (fun _ _ _ h => h) (by kernel_rfl) (fun w' hw' => exec_eq_str _ _ _ rfl l (by kernel_rfl) (by kernel_rfl)) ?_
      simp only [Act.put, List.setIfInBounds_toArray, List.set_cons_zero, List.set_cons_succ]
      refine wpT.take (v := .bool true) 8 rfl (by kernel_rfl) (fun _ _ _ h => h) (by kernel_rfl) (fun w' hw' => exec_pick_t _ _ _ _ rfl (by kernel_rfl) (by kernel_rfl)) ?_
      simp only [Act.put, List.setIfInBounds_toArray, List.set_cons_zero, List.set_cons_succ]
      refine wpT.take (v := .bool true) 9 rfl (by kernel_rfl) (fun _ _ _ h => h) (by kernel_rfl) (fun w' hw' => exec_move _ _ rfl (by kernel_rfl)) ?_
      simp only [Act.put, List.setIfInBounds_toArray, List.set_cons_zero, List.set_cons_succ]
      refine wpT.take (v := .int .i64 0) 10 rfl (by kernel_rfl) (fun _ _ _ h => h) (by kernel_rfl) (fun w' hw' => exec_move _ _ rfl (by kernel_rfl)) ?_
      simp only [Act.put, List.setIfInBounds_toArray, List.set_cons_zero, List.set_cons_succ]
      refine wpT.take (v := .bool true) 11 rfl (by kernel_rfl) (fun _ _ _ h => h) (by kernel_rfl) (fun w' hw' => exec_eq_err _ _ _ rfl 0 (by kernel_rfl) (by kernel_rfl)) ?_
      simp only [Act.put, List.setIfInBounds_toArray, List.set_cons_zero, List.set_cons_succ]
      refine wpT.take (v := .bool true) 12 rfl (by kernel_rfl) (fun _ _ _ h => h) (by kernel_rfl) (fun w' hw' => exec_pick_t _ _ _ _ rfl (by kernel_rfl) (by kernel_rfl)) ?_
      simp only [Act.put, List.setIfInBounds_toArray, List.set_cons_zero, List.set_cons_succ]
      refine wpT.take (v := .bool true) 13 rfl (by kernel_rfl) (fun _ _ _ h => h) (by kernel_rfl) (fun w' hw' => exec_move _ _ rfl (by kernel_rfl)) ?_
      simp only [Act.put, List.setIfInBounds_toArray, List.set_cons_zero, List.set_cons_succ]
      refine wpT.take (v := U) 14 rfl (by kernel_rfl) (fun _ _ _ h => h) (by kernel_rfl) (fun w' hw' => exec_load _ _ (.pointer (some ⟨bu, 0, none⟩)) _ rfl (by kernel_rfl) (hU.out w' (cq1.trans hw'))) ?_
      simp only [Act.put, List.setIfInBounds_toArray, List.set_cons_zero, List.set_cons_succ]
      refine wpT.take (v := Y) 15 rfl (by kernel_rfl) (fun _ _ _ h => h) (by kernel_rfl) (fun w' hw' => exec_load _ _ (.pointer (some ⟨bw, 0, none⟩)) _ rfl (by kernel_rfl) (hY.out w' (cq1.trans hw'))) ?_
      simp only [Act.put, List.setIfInBounds_toArray, List.set_cons_zero, List.set_cons_succ]
      refine wpT.call 16 rfl (by kernel_rfl) (by kernel_rfl) (fun K' hK => ?_)
      go_wp2_with fail
      refine (hS.out _ cq1).mono ?_
      rintro e q2 ⟨rfl, cst⟩
      refine hK _ _ cst ?_
      have cq2 := cq1.trans cst
      clear hK cst cq1
      try (simp only [Act.put, List.setIfInBounds_toArray, List.set_cons_zero, List.set_cons_succ])
      refine wpT.take (v := .bool true) 17 rfl (by kernel_rfl) (fun _ _ _ h => h) (by kernel_rfl) (fun w' hw' => exec_pick_t _ _ _ _ rfl (by kernel_rfl) (by kernel_rfl)) ?_
      simp only [Act.put, List.setIfInBounds_toArray, List.set_cons_zero, List.set_cons_succ]
      refine wpT.take (v := .bool true) 18 rfl (by kernel_rfl) (fun _ _ _ h => h) (by kernel_rfl) (fun w' hw' => exec_move _ _ rfl (by kernel_rfl)) ?_
      simp only [Act.put, List.setIfInBounds_toArray, List.set_cons_zero, List.set_cons_succ]
      refine wpT.take (v := Y) 19 rfl (by kernel_rfl) (fun _ _ _ h => h) (by kernel_rfl) (fun w' hw' => exec_load _ _ (.pointer (some ⟨bw, 0, none⟩)) _ rfl (by kernel_rfl) (hY.out w' (cq2.trans hw'))) ?_
      simp only [Act.put, List.setIfInBounds_toArray, List.set_cons_zero, List.set_cons_succ]
      refine wpT.take (v := .slice a3 n3 k3) 21 rfl (by kernel_rfl) (fun _ _ _ h => h) (by kernel_rfl) (fun w' hw' => exec_move _ _ rfl (by kernel_rfl)) ?_
      simp only [Act.put, List.setIfInBounds_toArray, List.set_cons_zero, List.set_cons_succ]
      refine wpT.take (v := .string ⟨l.toArray⟩) 22 rfl (by kernel_rfl) (fun _ _ _ h => h) (by kernel_rfl) (fun w' hw' => exec_convB _ rfl (.slice a3 n3 k3) l (by kernel_rfl) (hC.out w' (cq2.trans hw'))) ?_
      simp only [Act.put, List.setIfInBounds_toArray, List.set_cons_zero, List.set_cons_succ]
      refine wpT.call 20 rfl (by kernel_rfl) (by kernel_rfl) (fun K' hK => ?_)
      go_wp2_with fail
      refine (hbY.out _ cq2).mono ?_
      rintro e q3 ⟨rfl, cst⟩
      refine hK _ _ cst ?_
      have cq3 := cq2.trans cst
      clear hK cst cq2
      try (simp only [Act.put, List.setIfInBounds_toArray, List.set_cons_zero, List.set_cons_succ])
      refine wpT.take (v := .bool true) 23 rfl (by kernel_rfl) (fun _ _ _ h => h) (by kernel_rfl) (fun w' hw' => exec_eq_str _ _ _ rfl l (by kernel_rfl) (by kernel_rfl)) ?_
      simp only [Act.put, List.setIfInBounds_toArray, List.set_cons_zero, List.set_cons_succ]
      refine wpT.take (v := .bool true) 24 rfl (by kernel_rfl) (fun _ _ _ h => h) (by kernel_rfl) (fun w' hw' => exec_pick_t _ _ _ _ rfl (by kernel_rfl) (by kernel_rfl)) ?_
      simp only [Act.put, List.setIfInBounds_toArray, List.set_cons_zero, List.set_cons_succ]
      refine wpT.take (v := .bool true) 25 rfl (by kernel_rfl) (fun _ _ _ h => h) (by kernel_rfl) (fun w' hw' => exec_move _ _ rfl (by kernel_rfl)) ?_
      simp only [Act.put, List.setIfInBounds_toArray, List.set_cons_zero, List.set_cons_succ]
      refine wpT.take (v := X) 26 rfl (by kernel_rfl) (fun _ _ _ h => h) (by kernel_rfl) (fun w' hw' => exec_load _ _ (.pointer (some ⟨bx, 0, none⟩)) _ rfl (by kernel_rfl) (hX.out w' (cq3.trans hw'))) ?_
      simp only [Act.put, List.setIfInBounds_toArray, List.set_cons_zero, List.set_cons_succ]
      refine wpT.take 28 rfl (by kernel_rfl) (fun _ _ _ h => h) rfl (fun w' hw' => by go_simp <;> with_reducible rfl) ?_
      simp only [Act.put, List.setIfInBounds_toArray, List.set_cons_zero, List.set_cons_succ]
      refine wpT.ld 29 rfl (by kernel_rfl) (fun _ _ _ _ h => h) (by kernel_rfl) _ _ rfl (by kernel_rfl) ⟨bx, 0, none⟩ (by kernel_rfl) (.int .i64 kind) (hk.out _ cq3) (fun h => h) ?_
      simp only [Act.put, List.setIfInBounds_toArray, List.set_cons_zero, List.set_cons_succ]
      refine wpT.take (v := .bool false) 30 rfl (by kernel_rfl) (fun _ _ _ h => h) (by kernel_rfl) (fun w' hw' => exec_eq_int _ _ _ rfl kind 2 false (by kernel_rfl) (by kernel_rfl) KK.out.1) ?_
      simp only [Act.put, List.setIfInBounds_toArray, List.set_cons_zero, List.set_cons_succ]
      refine wpT.call 27 rfl (by kernel_rfl) (by kernel_rfl) (fun K' hK => ?_)
      go_wp2_with fail
      refine (hE'.out _).mono ?_
      rintro e q4 ⟨rfl, cst⟩
      refine hK _ _ cst ?_
      have cq4 := cq3.trans cst
      clear hK cst cq3
      try (simp only [Act.put, List.setIfInBounds_toArray, List.set_cons_zero, List.set_cons_succ])
      refine wpT.take (v := .bool false) 31 rfl (by kernel_rfl) (fun _ _ _ h => h) (by kernel_rfl) (fun w' hw' => exec_move _ _ rfl (by kernel_rfl)) ?_
      simp only [Act.put, List.setIfInBounds_toArray, List.set_cons_zero, List.set_cons_succ]
      refine wpT.take 32 rfl (by kernel_rfl) (fun _ _ _ h => h) rfl (fun w' hw' => by go_simp <;> with_reducible rfl) ?_
      simp only [Act.put, List.setIfInBounds_toArray, List.set_cons_zero, List.set_cons_succ]
      refine wpT.ld 33 rfl (by kernel_rfl) (fun _ _ _ _ h => h) (by kernel_rfl) _ _ rfl (by kernel_rfl) ⟨bx, 0, none⟩ (by kernel_rfl) (.int .i64 kind) (hk.out _ cq4) (fun h => h) ?_
      simp only [Act.put, List.setIfInBounds_toArray, List.set_cons_zero, List.set_cons_succ]
      refine wpT.take (v := .bool false) 34 rfl (by kernel_rfl) (fun _ _ _ h => h) (by kernel_rfl) (fun w' hw' => exec_eq_int _ _ _ rfl kind 7 false (by kernel_rfl) (by kernel_rfl) KK.out.2.1) ?_
      simp only [Act.put, List.setIfInBounds_toArray, List.set_cons_zero, List.set_cons_succ]
      refine wpT.take (v := .bool false) 35 rfl (by kernel_rfl) (fun _ _ _ h => h) (by kernel_rfl) (fun w' hw' => exec_pick_f _ _ _ _ rfl (by kernel_rfl) (by kernel_rfl)) ?_
      simp only [Act.put, List.setIfInBounds_toArray, List.set_cons_zero, List.set_cons_succ]
      refine wpT.take (v := .bool false) 36 rfl (by kernel_rfl) (fun _ _ _ h => h) (by kernel_rfl) (fun w' hw' => exec_move _ _ rfl (by kernel_rfl)) ?_
      simp only [Act.put, List.setIfInBounds_toArray, List.set_cons_zero, List.set_cons_succ]
      refine wpT.take 37 rfl (by kernel_rfl) (fun _ _ _ h => h) rfl (fun w' hw' => by go_simp <;> with_reducible rfl) ?_
      simp only [Act.put, List.setIfInBounds_toArray, List.set_cons_zero, List.set_cons_succ]
      refine wpT.ld 38 rfl (by kernel_rfl) (fun _ _ _ _ h => h) (by kernel_rfl) _ _ rfl (by kernel_rfl) ⟨bx, 0, none⟩ (by kernel_rfl) (.int .i64 kind) (hk.out _ cq4) (fun h => h) ?_
      simp only [Act.put, List.setIfInBounds_toArray, List.set_cons_zero, List.set_cons_succ]
      refine wpT.take (v := .bool false) 39 rfl (by kernel_rfl) (fun _ _ _ h => h) (by kernel_rfl) (fun w' hw' => exec_eq_int _ _ _ rfl kind 9 false (by kernel_rfl) (by kernel_rfl) KK.out.2.2) ?_
      simp only [Act.put, List.setIfInBounds_toArray, List.set_cons_zero, List.set_cons_succ]
      refine wpT.take (v := .bool false) 40 rfl (by kernel_rfl) (fun _ _ _ h => h) (by kernel_rfl) (fun w' hw' => exec_pick_f _ _ _ _ rfl (by kernel_rfl) (by kernel_rfl)) ?_
      simp only [Act.put, List.setIfInBounds_toArray, List.set_cons_zero, List.set_cons_succ]
      refine wpT.take (v := .bool true) 41 rfl (by kernel_rfl) (fun _ _ _ h => h) (by kernel_rfl) (fun w' hw' => exec_eq_bool _ _ _ rfl false (by kernel_rfl) (by kernel_rfl)) ?_
      simp only [Act.put, List.setIfInBounds_toArray, List.set_cons_zero, List.set_cons_succ]
      refine wpT.take (v := .bool true) 42 rfl (by kernel_rfl) (fun _ _ _ h => h) (by kernel_rfl) (fun w' hw' => exec_pick_t _ _ _ _ rfl (by kernel_rfl) (by kernel_rfl)) ?_
      simp only [Act.put, List.setIfInBounds_toArray, List.set_cons_zero, List.set_cons_succ]
      refine wpT.take (v := .bool true) 43 rfl (by kernel_rfl) (fun _ _ _ h => h) (by kernel_rfl) (fun w' hw' => exec_assign _ _ rfl (by kernel_rfl)) ?_
      simp only [Act.put, List.setIfInBounds_toArray, List.set_cons_zero, List.set_cons_succ]
      refine wpT.done (by kernel_rfl) ?_
      go_wp2_with fail
      go_ret
      exact ⟨rfl, c010.out.trans cq4⟩
end Go.Proofs.Ytjhkhdockiocgaa
