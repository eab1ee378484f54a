/- Contracts of package command: Bytes. -/
import Derived.Test.YtjhkhdockiocgaaCmd4
namespace Go.Proofs.Ytjhkhdockiocgaa
open Go.RowKit Go.Cat

set_option maxRecDepth 100000 in
theorem writes_any90 (k : Int) (w : World) :
    Calls Try.prog 64 #[.int .i64 k] w fun e w' => e = .returned (.bool (decide (0 ≤ k ∧ k < 10))) ∧ w = w' := by
  by_cases h1 : 0 ≤ k
  · go_enter Try.func64, Try.ntmps64
    go_wp2_with fail
    go_ret
    refine ⟨?_, rfl⟩
    show Ending.returned (.bool (decide (k < 10))) = _
    congr 2
    simp [h1]
  · rw [decide_eq_false (show ¬ (0 ≤ k ∧ k < 10) from fun h => h1 h.1)]
    go_enter Try.func64, Try.ntmps64
    go_wp2_with fail
    go_ret
    exact ⟨rfl, rfl⟩

theorem load_intc (w : World) (p : Addr) (x : Int) (h : w.cell? p = some (.int .i64 x)) (hp : p.spot = none := by rfl) : (Instr.loadAt 3 (.pointer (some p))).run Try.prog w = .ok (.int .i64 x) w := by
  obtain ⟨b, o, s⟩ := p
  simp only at hp; subst hp
  go_simp
theorem fields_any (w0 w : World) (Sw : Nat → Prop) (c b : Nat) (st : List UInt8 × Int) (x : Cmd) (ps : List Pnt) (B : Nat) (T : TypeId) (h : CodS w0 w Sw c b st.1 st.2) (hB : w0.heap[B]? = some (.cells x.cells.toArray T (0, 0))) (hv : Reads w0 2 x.pv ps.length (ps.flatMap Pnt.cells)) (hl : st.1.length ≤ 1000000) (hk : 0 ≤ x.kind ∧ x.kind < 10) :
    Calls Try.prog 66 #[.pointer (some ⟨c, 0, none⟩), .pointer (some ⟨B, 0, none⟩)] w fun e' w' => e' = .returned (.tuple #[]) ∧ CodS w0 w' (ext Sw w w') c b (x.run ps st).1 (x.run ps st).2 ∧ Chg (SC Sw c) w w' := by
  have hk' : x.kind = 0 ∨ x.kind = 1 ∨ x.kind = 2 ∨ x.kind = 3 ∨ x.kind = 4 ∨ x.kind = 5 ∨ x.kind = 6 ∨ x.kind = 7 ∨ x.kind = 8 ∨ x.kind = 9 := by omega
  rcases hk' with h' | h' | h' | h' | h' | h' | h' | h' | h' | h'
  · exact fields_0 w0 w Sw c b st x ps B T h hB hv hl h'
  · exact fields_1 w0 w Sw c b st x ps B T h hB hv hl h'
  · exact fields_2 w0 w Sw c b st x ps B T h hB hv hl h'
  · exact fields_3 w0 w Sw c b st x ps B T h hB hv hl h'
  · exact fields_4 w0 w Sw c b st x ps B T h hB hv hl h'
  · exact fields_5 w0 w Sw c b st x ps B T h hB hv hl h'
  · exact fields_6 w0 w Sw c b st x ps B T h hB hv hl h'
  · exact fields_7 w0 w Sw c b st x ps B T h hB hv hl h'
  · exact fields_8 w0 w Sw c b st x ps B T h hB hv hl h'
  · exact fields_9 w0 w Sw c b st x ps B T h hB hv hl h'

theorem err_or (x : Cmd) (ps : List Pnt) (l : List UInt8) : (x.run ps (l, 0)).2 = 0 ∨ (x.run ps (l, 0)).2 = 12 := by
  have ht : ∀ (st : List UInt8 × Int) s, (st.2 = 0 ∨ st.2 = 12) → ((tstep st s).2 = 0 ∨ (tstep st s).2 = 12) := fun st s h => by unfold tstep; split; exact .inr rfl; exact h
  have hi : ∀ (st : List UInt8 × Int) s, (st.2 = 0 ∨ st.2 = 12) → ((istep st s).2 = 0 ∨ (istep st s).2 = 12) := fun st s h => h
  have hp : ∀ (st : List UInt8 × Int) s, (st.2 = 0 ∨ st.2 = 12) → ((pstep st s).2 = 0 ∨ (pstep st s).2 = 12) := fun st s h => by unfold pstep; split; exact .inr rfl; exact h
  have h0 : ((l, (0 : Int)).2 = 0 ∨ (l, (0 : Int)).2 = 12) := .inl rfl
  unfold Cmd.run
  simp only [List.foldl_cons, List.foldl_nil]
  repeat' split
  all_goals first
    | exact hi _ _ (hi _ _ (ht _ _ h0))
    | exact ht _ _ h0
    | exact hp _ _ (ht _ _ (ht _ _ h0))
    | exact hi _ _ (hi _ _ (hi _ _ (ht _ _ h0)))
    | exact hi _ _ (hi _ _ (ht _ _ (ht _ _ (ht _ _ h0))))
    | exact ht _ _ (ht _ _ h0)
    | exact hi _ _ (hi _ _ (ht _ _ (ht _ _ h0)))
    | exact hi _ _ h0
    | exact h0
theorem run_len (x : Cmd) (ps : List Pnt) (l : List UInt8) : (x.run ps (l, 0)).1.length ≤ l.length + 10000 := by
  have hp : ∀ (st : List UInt8 × Int), (pstep st ps).1.length ≤ st.1.length + 5000 := fun st => by
    unfold pstep; split
    · simp
    · simp [penc_length]; omega
  unfold Cmd.run
  simp only [List.foldl_cons, List.foldl_nil]
  have t := tstep_len
  have i := istep_len
  repeat' split
  all_goals first
    | (have h1 := i (istep (tstep (l, 0) x.tenant) x.bytes) x.count; have h2 := i (tstep (l, 0) x.tenant) x.bytes; have h3 := t (l, 0) x.tenant; simp only at *; omega)
    | (have h3 := t (l, 0) x.tenant; simp only at *; omega)
    | (have h1 := hp (tstep (tstep (l, 0) x.tenant) x.series); have h2 := t (tstep (l, 0) x.tenant) x.series; have h3 := t (l, 0) x.tenant; simp only at *; omega)
    | (have h0 := i (istep (istep (tstep (l, 0) x.tenant) x.praw) x.pmid) x.plong; have h1 := i (istep (tstep (l, 0) x.tenant) x.praw) x.pmid; have h2 := i (tstep (l, 0) x.tenant) x.praw; have h3 := t (l, 0) x.tenant; simp only at *; omega)
    | (have h0 := i (istep (tstep (tstep (tstep (l, 0) x.tenant) x.hname) x.hser) x.hlo) x.hhi; have h1 := i (tstep (tstep (tstep (l, 0) x.tenant) x.hname) x.hser) x.hlo; have h2 := t (tstep (tstep (l, 0) x.tenant) x.hname) x.hser; have h4 := t (tstep (l, 0) x.tenant) x.hname; have h3 := t (l, 0) x.tenant; simp only at *; omega)
    | (have h2 := t (tstep (l, 0) x.tenant) x.name; have h3 := t (l, 0) x.tenant; simp only at *; omega)
    | (have h0 := i (istep (tstep (tstep (l, 0) x.tenant) x.series) x.rlo) x.rhi; have h1 := i (tstep (tstep (l, 0) x.tenant) x.series) x.rlo; have h2 := t (tstep (l, 0) x.tenant) x.series; have h3 := t (l, 0) x.tenant; simp only at *; omega)
    | (have h3 := i (l, 0) x.at_; simp only at *; omega)
    | (have h3 := i (l, 0) x.bytes; simp only at *; omega)
    | (simp only at *; omega)

/-- A command's bytes, and whether there are any. -/
def Cmd.out (x : Cmd) (ps : List Pnt) : List UInt8 × Int := x.run ps (be x.kind.toNat 1, 0)

set_option maxRecDepth 100000 in
set_option maxHeartbeats 1000000 in
theorem cbytes_arg (x : Cmd) (w : World) (hk : ¬ (0 ≤ x.kind ∧ x.kind < 10)) :
    Calls Try.prog 16 #[.agg #[.int .i64 x.kind, .string ⟨x.tenant.toArray⟩, .string ⟨x.series.toArray⟩, .string ⟨x.name.toArray⟩, x.pv, .int .i64 x.rlo, .int .i64 x.rhi, .int .i64 x.praw, .int .i64 x.pmid, .int .i64 x.plong, .string ⟨x.hname.toArray⟩, .string ⟨x.hser.toArray⟩, .int .i64 x.hlo, .int .i64 x.hhi, .int .i64 x.bytes, .int .i64 x.count, .int .i64 x.at_]] w fun e w' => e = .returned (.tuple #[.slice none 0 0, .int .i64 1]) ∧ Chg (fun _ => False) w w' := by
  have WR := Lib.hid (fun w => writes_any90 x.kind w)
  rw [decide_eq_false hk] at WR
  clear hk
  go_enter Try.func16, Try.ntmps16
  go_wp2_with fail
  refine (WR.out _).mono ?_
  rintro e w1 ⟨rfl, rfl⟩
  go_wp2_with fail
  go_ret2
  exact ⟨rfl, (Chg.refl _ w).alloc _⟩

set_option maxRecDepth 100000 in
set_option maxHeartbeats 1000000 in
theorem cbytes_any (x : Cmd) (ps : List Pnt) (w : World) (hv : Reads w 2 x.pv ps.length (ps.flatMap Pnt.cells)) (hk : 0 ≤ x.kind ∧ x.kind < 10) :
    Calls Try.prog 16 #[.agg #[.int .i64 x.kind, .string ⟨x.tenant.toArray⟩, .string ⟨x.series.toArray⟩, .string ⟨x.name.toArray⟩, x.pv, .int .i64 x.rlo, .int .i64 x.rhi, .int .i64 x.praw, .int .i64 x.pmid, .int .i64 x.plong, .string ⟨x.hname.toArray⟩, .string ⟨x.hser.toArray⟩, .int .i64 x.hlo, .int .i64 x.hhi, .int .i64 x.bytes, .int .i64 x.count, .int .i64 x.at_]] w fun e w' => ∃ v, e = .returned (.tuple #[v, .int .i64 (x.out ps).2]) ∧ ((x.out ps).2 = 0 → OB w' v (x.out ps).1) ∧ ((x.out ps).2 ≠ 0 → v = .slice none 0 0) ∧ Chg (fun _ => False) w w' := by
  have WR := Lib.hid (fun w => writes_any90 x.kind w)
  rw [decide_eq_true hk] at WR
  obtain ⟨kn, hkn⟩ : ∃ kn : Nat, x.kind = kn := ⟨x.kind.toNat, by omega⟩
  have hk10 : kn < 10 := by omega
  obtain ⟨w0, hw0⟩ : ∃ w0, w0 = w.alloc (.cells #[.int .i64 x.kind, .string ⟨x.tenant.toArray⟩, .string ⟨x.series.toArray⟩, .string ⟨x.name.toArray⟩, x.pv, .int .i64 x.rlo, .int .i64 x.rhi, .int .i64 x.praw, .int .i64 x.pmid, .int .i64 x.plong, .string ⟨x.hname.toArray⟩, .string ⟨x.hser.toArray⟩, .int .i64 x.hlo, .int .i64 x.hhi, .int .i64 x.bytes, .int .i64 x.count, .int .i64 x.at_] 30) := ⟨_, rfl⟩
  have c0 : Chg (fun _ => False) w w0 := by rw [hw0]; exact (Chg.refl _ w).alloc _
  have hB : w0.heap[w.heap.size]? = some (.cells x.cells.toArray 30 (0, 0)) := by rw [hw0]; exact heap_at_new _ _ _ rfl
  have z0 : w0.heap.size = w.heap.size + 1 := by rw [hw0]; simp
  have HB := Lib.hid hB
  have HV := Lib.hid (hv.kept c0 (fun _ _ h => h))
  have HW0 := Lib.hid hw0
  have HKN := Lib.hid hkn
  have hk2 : Hid (0 ≤ x.kind ∧ x.kind < 10) := hk
  have a0 : w0.cell? ⟨w.heap.size, 0, none⟩ = some (.int .i64 kn) := by rw [← hkn]; exact cell_cmd hB 0 _ rfl
  clear hv hw0 hB hkn
  obtain ⟨⟨r1, r2⟩, hr⟩ : ∃ r, r = x.out ps := ⟨_, rfl⟩
  rw [← hr]
  have HR := Lib.hid hr
  clear hr
  go_enter Try.func16, Try.ntmps16
  go_wp2_with fail
  refine (WR.out _).mono ?_
  rintro e w1 ⟨rfl, rfl⟩
  rw [← HW0.out]
  go_wp2_with fail
  clear a0
  obtain ⟨w2, hw2⟩ : ∃ w2, w2 = (w0.alloc (.cells #[.slice none 0 0] 108)).alloc (.cells #[.pointer (some ⟨w.heap.size + 1, 0, none⟩), .pointer none, .int .i64 0] 111) := ⟨_, rfl⟩
  have c2 : Chg (fun _ => False) w0 w2 := by rw [hw2]; exact ((Chg.refl _ w0).alloc _).alloc _
  have z2 : w2.heap.size = w0.heap.size + 2 := by rw [hw2]; simp
  have hc2 : w2.heap[w.heap.size + 1 + 1]? = some (.cells #[.pointer (some ⟨w.heap.size + 1, 0, none⟩), .pointer none, .int .i64 0] 111 (0, 0)) := by rw [hw2]; exact heap_at_new _ _ _ (by simp; omega)
  have hwr : WriterAt w2 (fun k => k = w.heap.size + 1) (w.heap.size + 1) [] := by rw [hw2]; exact (WriterAt.fresh_at w0 _ _ z0).alloc _
  have hD : CodS w0 w2 (fun k => k = w.heap.size + 1) (w.heap.size + 1 + 1) (w.heap.size + 1) [] 0 := ⟨_, hc2, hwr, fun k hk => by omega, by omega, c2⟩
  have D := Lib.hid hD
  have HWR := Lib.hid hwr
  have HC2 := Lib.hid hc2
  have HB2 := Lib.hid (c2.heap HB.out (fun h => h))
  rw [← hw2]
  clear hw2 hc2 hwr hD
  have hwk : IntKind.u64.wrap (kn : Int) = kn := by rw [IntKind.wrap_u64]; omega
  refine wpT.begin (fun k => k = w.heap.size + 1) 8 (by kernel_rfl) rfl ?_
  refine wpT.take 0 rfl (by kernel_rfl) (fun _ _ _ h => h) rfl (fun w' hw' => by go_simp <;> with_reducible rfl) ?_
  simp only [Act.put, List.setIfInBounds_toArray, List.set_cons_zero, List.set_cons_succ]
  refine wpT.take 1 rfl (by kernel_rfl) (fun _ _ _ h => h) rfl (fun w' hw' => by go_simp <;> with_reducible rfl) ?_
  simp only [Act.put, List.setIfInBounds_toArray, List.set_cons_zero, List.set_cons_succ]
  refine wpT.take 2 rfl (by kernel_rfl) (fun _ _ _ h => h) rfl (fun w' hw' => by go_simp <;> with_reducible rfl) ?_
  simp only [Act.put, List.setIfInBounds_toArray, List.set_cons_zero, List.set_cons_succ]
  refine wpT.take 3 rfl (by kernel_rfl) (fun _ _ _ h => h) rfl (fun w' hw' => by exact exec_load _ _ _ _ rfl rfl (load_wp w' _ _ (((Chg.refl (fun k => k = w.heap.size + 1) w2).drew.trans hw').cell (by rw [cell_of_heap HC2.out]; rfl) (by simp)))) ?_
  simp only [Act.put, List.setIfInBounds_toArray, List.set_cons_zero, List.set_cons_succ]
  refine wpT.take 4 rfl (by kernel_rfl) (fun _ _ _ h => h) rfl (fun w' hw' => by go_simp <;> with_reducible rfl) ?_
  simp only [Act.put, List.setIfInBounds_toArray, List.set_cons_zero, List.set_cons_succ]
  refine wpT.take 5 rfl (by kernel_rfl) (fun _ _ _ h => h) rfl (fun w' hw' => by exact exec_load _ _ _ _ rfl rfl (load_intc w' ⟨w.heap.size, 0, none⟩ kn (Chg.cell (v := .int .i64 kn) ((Chg.refl (fun k => k = w.heap.size + 1) w2).drew.trans hw') (by rw [← HKN.out]; exact cell_cmd HB2.out 0 _ rfl) (by simp)))) ?_
  simp only [Act.put, List.setIfInBounds_toArray, List.set_cons_zero, List.set_cons_succ]
  refine wpT.take 6 rfl (by kernel_rfl) (fun _ _ _ h => h) rfl (fun w' hw' => by have hx := hwk; go_simp <;> with_reducible rfl) ?_
  simp only [Act.put, List.setIfInBounds_toArray, List.set_cons_zero, List.set_cons_succ]
  refine wpT.call 7 rfl (by kernel_rfl) rfl (fun K hK => ?_)
  go_wp2_with fail
  refine (num_yes kn 1 w2.drew (fun k => k = w.heap.size + 1) (w.heap.size + 1) [] (by omega) (by omega) (by omega) (by simp; omega) (HWR.out.kept (T := fun _ => False) (Chg.refl _ w2).drew (fun _ _ h => h)) (by simp)).mono ?_
  rintro e w3 ⟨rfl, hw3, c3⟩
  simp only [Int.toNat_natCast] at hw3
  refine hK _ _ c3 ?_
  clear hK
  refine wpT.done (by kernel_rfl) ?_
  have hD3 := D.out.wrote (l' := [] ++ be kn 1) hw3 ((Chg.refl (fun k => k = w.heap.size + 1) w2).drew.trans c3)
  have D3 := Lib.hid hD3.1
  have z3 := hD3.2.size
  have hxo : Hid (x.run ps ([] ++ be kn 1, 0) = x.out ps) := by
    show _ = _
    unfold Cmd.out
    rw [HKN.out]; rfl
  clear hw3 hD3 c3
  go_wp2_with fail
  refine (fields_any w0 w3 _ (w.heap.size + 1 + 1) (w.heap.size + 1) ([] ++ be kn 1, 0) x ps w.heap.size _ D3.out HB.out HV.out (by simp) hk2.out).mono ?_
  rintro e w4 ⟨rfl, d4, c4⟩
  rw [hxo.out, ← HR.out] at d4
  have herr := err_or x ps ([] ++ be kn 1)
  have hln := run_len x ps ([] ++ be kn 1)
  rw [hxo.out, ← HR.out] at herr hln
  simp only at d4 herr hln
  have hl1 : r1.length ≤ 20000 := by simp at hln; omega
  obtain ⟨T4, e4, e5, e6, _, e7⟩ := d4
  have cW := c0.trans e7
  have q0 : w4.cell? ⟨w.heap.size + 1 + 1, 0, none⟩ = some (.pointer (some ⟨w.heap.size + 1, 0, none⟩)) := by rw [cell_of_heap e4]; rfl
  have q2 : w4.cell? ⟨w.heap.size + 1 + 1, 2, none⟩ = some (.int .i64 r2) := by rw [cell_of_heap e4]; rfl
  have HWR4 := Lib.hid e5
  clear e4 e5 e6 hln hwk
  rcases herr with rfl | rfl
  · go_wp2_with fail
    refine (wbytes_any w4 _ (w.heap.size + 1) r1 HWR4.out (by omega)).mono ?_
    rintro e w5 ⟨v, rfl, h5, c5, _⟩
    have H5 := Lib.hid h5
    clear h5
    go_wp2_with fail
    go_ret2
    exact ⟨v, rfl, H5.out, cW.trans c5⟩
  · go_wp2_with fail
    go_quiet (fail)
    go_wp2_with fail
    go_ret2
    exact ⟨_, rfl, fun h => by simp at h, fun _ => rfl, cW.drewN _⟩
end Go.Proofs.Ytjhkhdockiocgaa
