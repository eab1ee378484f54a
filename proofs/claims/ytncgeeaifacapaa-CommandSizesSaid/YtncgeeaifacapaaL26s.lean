/- CommandSizes: the walk. -/
import Derived.Test.YtncgeeaifacapaaL26
import Derived.Deep.CutRange
namespace Go.Proofs.Ytncgeeaifacapaa
open Go.RowKit Go.Cat

theorem load_cmd (w : World) (g : Nat) (x : Cmd) (T : TypeId) (hg : w.heap[g]? = some (.cells x.cells.toArray T (0, 0))) :
    (Instr.loadAt 108 (.pointer (some ⟨g, 0, none⟩))).run Try.prog w = .ok (.agg #[.int .i64 x.kind, .string ⟨x.tenant.toArray⟩, .string ⟨x.series.toArray⟩, .string ⟨x.name.toArray⟩, x.pv, .int .i64 x.rlo, .int .i64 x.rhi, .int .i64 x.praw, .int .i64 x.pmid, .int .i64 x.plong, .string ⟨x.hname.toArray⟩, .string ⟨x.hser.toArray⟩, .int .i64 x.hlo, .int .i64 x.hhi, .int .i64 x.bytes, .int .i64 x.count, .int .i64 x.at_]) w := by
  refine run_loadAt_agg (P := Try.prog) w 108 _ g 0 x.cells Try.underlying108 rfl (by kernel_rfl) (fun j u hj => ?_)
  rw [cell_of_heap hg, Nat.zero_add]
  simpa using hj

theorem tstep_zero (st : List UInt8 × Int) (s : List UInt8) (h : (tstep st s).2 = 0) : (tstep st s).1.length = st.1.length + 2 + s.length ∧ st.2 = 0 := by
  unfold tstep at *
  split at h
  · simp at h
  · rename_i hc
    rw [if_neg hc]
    exact ⟨by simp; omega, h⟩
theorem pstep_zero (st : List UInt8 × Int) (ps : List Pnt) (h : (pstep st ps).2 = 0) : (pstep st ps).1.length = st.1.length + 2 + 16 * ps.length ∧ st.2 = 0 := by
  unfold pstep at *
  split at h
  · simp at h
  · rename_i hc
    rw [if_neg hc]
    exact ⟨by simp [penc_length]; omega, h⟩
theorem istep_l (st : List UInt8 × Int) (x : Int) : (istep st x).1.length = st.1.length + 8 := by simp [istep]
theorem istep_e (st : List UInt8 × Int) (x : Int) : (istep st x).2 = st.2 := rfl
theorem run_size (x : Cmd) (ps : List Pnt) (h : (x.out ps).2 = 0) (hk : 0 ≤ x.kind ∧ x.kind < 10) :
    ((x.out ps).1.length : Int) = sizeOf26 x.kind x.tenant.length (if x.kind = 5 then x.hser else x.series).length (if x.kind = 5 then x.hname else x.name).length ps.length := by
  have hk' : x.kind = 0 ∨ x.kind = 1 ∨ x.kind = 2 ∨ x.kind = 3 ∨ x.kind = 4 ∨ x.kind = 5 ∨ x.kind = 6 ∨ x.kind = 7 ∨ x.kind = 8 ∨ x.kind = 9 := by omega
  unfold Cmd.out Cmd.run at *
  have hb : ∀ k, (be k 1).length = 1 := fun k => by simp
  generalize hst : ((be x.kind.toNat 1, 0) : List UInt8 × Int) = st at *
  have hs1 : st.1.length = 1 := by rw [← hst]; exact hb _
  clear hst hb
  have t := tstep_zero
  have p := pstep_zero
  rcases hk' with h' | h' | h' | h' | h' | h' | h' | h' | h' | h' <;> simp [h', sizeOf26, istep_l, istep_e] at h ⊢
  all_goals first
    | (have a := t _ _ h; have b := t _ _ a.2; have c := t _ _ b.2; omega)
    | (have a := t _ _ h; have b := t _ _ a.2; omega)
    | (have a := t _ _ h; omega)
    | (have a := p _ _ h; have b := t _ _ a.2; have c := t _ _ b.2; omega)
    | omega
theorem wpList_loadG {P : Program} {ops : Array Oper} {rest : List Oper} {o : Oper} {a : Act} {w : World} {Q : Exit → Act → World → Prop} (t : TypeId) (x : Operand) (ho : o.op = .load t x) (hgd : Region.wanted o (yielded ops a.tmps) = true) (p v : Value) (hx : a.eval x = p) (h : (Instr.loadAt t p).run P w = .ok v w)
    (hk : wpList P ops Q rest (a.put o.dst v) w) : wpList P ops Q (o :: rest) a w := by
  unfold wpList
  rw [if_pos hgd]
  left
  unfold Oper.wp execOp
  simp only [ho, hx, Sem.run_bind, Sem.run_pure, h, Result.andThen_ok]
  exact hk

set_option maxRecDepth 100000 in
set_option maxHeartbeats 1000000 in
theorem sizes26 (x : Cmd) (ps : List Pnt) (k n : Int) (w : World) (hv : Reads w 2 x.pv ps.length (ps.flatMap Pnt.cells)) :
    Calls Try.prog 13 #[.agg #[.int .i64 x.kind, .string ⟨x.tenant.toArray⟩, .string ⟨x.series.toArray⟩, .string ⟨x.name.toArray⟩, x.pv, .int .i64 x.rlo, .int .i64 x.rhi, .int .i64 x.praw, .int .i64 x.pmid, .int .i64 x.plong, .string ⟨x.hname.toArray⟩, .string ⟨x.hser.toArray⟩, .int .i64 x.hlo, .int .i64 x.hhi, .int .i64 x.bytes, .int .i64 x.count, .int .i64 x.at_], .int .i64 k, .int .i64 n] w fun e w' => e = .returned (.bool true) ∧ Chg (fun _ => False) w w' := by
  obtain ⟨w0, hw0⟩ : ∃ w0, w0 = w.alloc (.cells #[.int .i64 x.kind, .string ⟨x.tenant.toArray⟩, .string ⟨x.series.toArray⟩, .string ⟨x.name.toArray⟩, x.pv, .int .i64 x.rlo, .int .i64 x.rhi, .int .i64 x.praw, .int .i64 x.pmid, .int .i64 x.plong, .string ⟨x.hname.toArray⟩, .string ⟨x.hser.toArray⟩, .int .i64 x.hlo, .int .i64 x.hhi, .int .i64 x.bytes, .int .i64 x.count, .int .i64 x.at_] 108) := ⟨_, rfl⟩
  have c0 : Chg (fun _ => False) w w0 := by rw [hw0]; exact (Chg.refl _ w).alloc _
  have HB : Hid (w0.heap[w.heap.size]? = some (.cells x.cells.toArray 108 (0, 0))) := by rw [hw0]; exact heap_at_new _ _ _ rfl
  have HV := Lib.hid (hv.kept c0 (fun _ _ h => h))
  have HW0 := Lib.hid hw0
  clear hv hw0
  go_enter Try.func13, Try.ntmps13
  go_wp2_with fail
  refine (lives26 _).mono ?_
  rintro e w1 ⟨rfl, c1⟩
  rw [← HW0.out] at c1
  have HB1 := Lib.hid (c1.heap HB.out (fun h => h))
  have HV1 := Lib.hid (HV.out.kept c1 (fun _ _ h => h))
  have ld := load_cmd w1 _ x _ HB1.out
  go_wp2_with (refine wpList_loadG 108 _ rfl rfl _ _ rfl ld ?_)
  clear ld
  refine (few26 x ps w1 HV1.out).mono ?_
  rintro e w2 ⟨rfl, c2⟩
  have c02 := (c0.trans c1).trans c2
  have HB2 := Lib.hid (c2.heap HB1.out (fun h => h))
  have HV2 := Lib.hid (HV1.out.kept c2 (fun _ _ h => h))
  cases hfew : x.few ps.length
  · go_wp2_with fail
    refine (lives26 _).mono ?_
    rintro e w3 ⟨rfl, c3⟩
    go_wp2_with fail
    go_ret
    exact ⟨rfl, c02.trans c3⟩
  go_upto_region 3 with fail
  go_cut [44] from 19 to 44 (fun s wx => s = .bool false ∧ wx = w2)
  case first =>
    have o0 : mx0 0 = 0 := rfl
    have o1 : mx0 1 = 1 := rfl
    have okk : (k < 0 ∨ 9 < k) → sizeOf26 k (mx0 1) (mx0 1) (mx0 1) (mx0 1) = 0 := fun h => by unfold sizeOf26; repeat' split <;> omega
    clear hfew HB HV HW0 HB1 HV1 HB2 HV2 c0 c1 c2 c02
    by_cases hn : n < 0
    · have on : mx0 n = 0 := if_pos hn
      have S1 := Lib.hid (fun w => size26 k n n n n w (by omega) (by omega) (by omega) (by omega))
      have S2 := Lib.hid (fun w => size26 k 0 0 0 0 w (by omega) (by omega) (by omega) (by omega))
      rw [on] at S1
      rw [o0] at S2
      clear on
      by_cases k0 : k < 0
      · have S3 := Lib.hid (fun w => size26 k 1 1 1 1 w (by omega) (by omega) (by omega) (by omega))
        rw [okk (by omega)] at S3
        clear okk o0 o1
        generalize sizeOf26 k 0 0 0 0 = z at *
        go_wp2_with fail
        refine (S1.out _).mono ?_
        rintro e _ ⟨rfl, rfl⟩
        go_wp2_with fail
        refine (S2.out _).mono ?_
        rintro e _ ⟨rfl, rfl⟩
        go_wp2_with fail
        refine (S3.out _).mono ?_
        rintro e _ ⟨rfl, rfl⟩
        go_wp2_with fail
        go_meet
        exact ⟨rfl, rfl⟩
      · by_cases k9 : 9 < k
        · have S3 := Lib.hid (fun w => size26 k 1 1 1 1 w (by omega) (by omega) (by omega) (by omega))
          rw [okk (by omega)] at S3
          clear okk o0 o1
          generalize sizeOf26 k 0 0 0 0 = z at *
          go_wp2_with fail
          refine (S1.out _).mono ?_
          rintro e _ ⟨rfl, rfl⟩
          go_wp2_with fail
          refine (S2.out _).mono ?_
          rintro e _ ⟨rfl, rfl⟩
          go_wp2_with fail
          refine (S3.out _).mono ?_
          rintro e _ ⟨rfl, rfl⟩
          go_wp2_with fail
          go_meet
          exact ⟨rfl, rfl⟩
        · clear okk o0 o1
          generalize sizeOf26 k 0 0 0 0 = z at *
          go_wp2_with fail
          refine (S1.out _).mono ?_
          rintro e _ ⟨rfl, rfl⟩
          go_wp2_with fail
          refine (S2.out _).mono ?_
          rintro e _ ⟨rfl, rfl⟩
          go_wp2_with fail
          go_meet
          exact ⟨rfl, rfl⟩
    · by_cases k0 : k < 0
      · have S3 := Lib.hid (fun w => size26 k 1 1 1 1 w (by omega) (by omega) (by omega) (by omega))
        rw [okk (by omega)] at S3
        clear okk o0 o1
        go_wp2_with fail
        refine (S3.out _).mono ?_
        rintro e _ ⟨rfl, rfl⟩
        go_wp2_with fail
        go_meet
        exact ⟨rfl, rfl⟩
      · by_cases k9 : 9 < k
        · have S3 := Lib.hid (fun w => size26 k 1 1 1 1 w (by omega) (by omega) (by omega) (by omega))
          rw [okk (by omega)] at S3
          clear okk o0 o1
          go_wp2_with fail
          refine (S3.out _).mono ?_
          rintro e _ ⟨rfl, rfl⟩
          go_wp2_with fail
          go_meet
          exact ⟨rfl, rfl⟩
        · clear okk o0 o1
          go_wp2_with fail
          go_meet
          exact ⟨rfl, rfl⟩
  case rest =>
    obtain ⟨rfl, rfl⟩ := hcut
    have ld := load_cmd wc _ x _ HB2.out
    by_cases hk : 0 ≤ x.kind ∧ x.kind < 10
    · have CB := Lib.hid (fun w h => cbytes_any x ps w h hk)
      have HSZ := Lib.hid (fun h => run_size x ps h hk)
      have HK := Lib.hid hk
      have hk5 : Hid (x.kind = 5 ∨ x.kind ≠ 5) := Decidable.em _
      have ERR := Lib.hid (err_or x ps (be x.kind.toNat 1))
      have LEN := Lib.hid (run_len x ps (be x.kind.toNat 1))
      clear hk
      go_wp2_with (refine wpList_loadG 108 _ rfl rfl _ _ rfl ld ?_)
      refine (CB.out _ HV2.out).mono ?_
      rintro e w3 ⟨v, rfl, hv3, hv4, c3⟩
      clear ld
      obtain ⟨⟨r1, r2⟩, hr⟩ : ∃ r, r = x.out ps := ⟨_, rfl⟩
      have her := ERR.out
      rw [show x.run ps (be x.kind.toNat 1, 0) = x.out ps from rfl, ← hr] at her
      rw [← hr] at hv3 hv4 ⊢
      simp only at her hv3 hv4 ⊢
      have HR := Lib.hid hr
      clear hr
      have c13 := c02.trans c3
      rcases her with rfl | rfl
      · have HOB := Lib.hid (hv3 rfl)
        have HB3 := Lib.hid (c3.heap HB2.out (fun h => h))
        clear hv3 hv4
        obtain ⟨ba, bc, rfl⟩ : ∃ a c, v = .slice a r1.length c := HOB.out.form
        obtain ⟨va, vc, hpv⟩ := HV2.out.form
        have hln := HSZ.out (by rw [← HR.out])
        rw [← HR.out] at hln
        simp only at hln
        simp only [Cmd.few, Bool.and_eq_true, decide_eq_true_eq] at hfew
        obtain ⟨f1, f2, f3, f4, f5, f6⟩ := hfew
        have f6' := f6
        have SZ : ∀ s n w, s ≤ 400 → n ≤ 400 → Calls Try.prog 64 #[.int .i64 x.kind, .int .i64 x.tenant.length, .int .i64 (s : Nat), .int .i64 (n : Nat), .int .i64 ps.length] w fun e w' => e = .returned (.int .i64 (sizeOf26 x.kind x.tenant.length s n ps.length)) ∧ w = w' := fun s n w h1 h2 => by
          have := size26 x.kind x.tenant.length s n ps.length w (by omega) (by omega) (by omega) (by omega)
          rw [show mx0 (x.tenant.length : Int) = x.tenant.length from if_neg (by omega), show mx0 (s : Int) = s from if_neg (by omega), show mx0 (n : Int) = n from if_neg (by omega), show mx0 (ps.length : Int) = ps.length from if_neg (by omega)] at this
          exact this
        rcases hk5.out with h5 | h5
        · rw [if_pos h5, if_pos h5] at hln
          have SZ5 := Lib.hid (fun w => SZ x.hser.length x.hname.length w f5 f4)
          rw [← hln, h5] at SZ5
          clear SZ hln f1 f2 f3 f4 f5 f6 f6'
          go_wp2_with fail
          refine wpT.begin (fun _ => False) 6 (by kernel_rfl) rfl ?_
          refine wpT.take 0 rfl (by kernel_rfl) (fun _ _ _ h => h) rfl (fun w' hw' => by go_simp <;> with_reducible rfl) ?_
          simp only [Act.put, List.setIfInBounds_toArray, List.set_cons_zero, List.set_cons_succ]
          refine wpT.take 1 rfl (by kernel_rfl) (fun _ _ _ h => h) rfl (fun w' hw' => by exact exec_load _ _ _ _ rfl rfl (load_strc w' _ _ (((Chg.refl (fun _ => False) w3).drew.trans hw').cell (cell_cmd HB3.out 3 _ rfl) (fun h => h)))) ?_
          simp only [Act.put, List.setIfInBounds_toArray, List.set_cons_zero, List.set_cons_succ]
          refine wpT.take 2 rfl (by kernel_rfl) (fun _ _ _ h => h) rfl (fun w' hw' => by go_simp <;> with_reducible rfl) ?_
          simp only [Act.put, List.setIfInBounds_toArray, List.set_cons_zero, List.set_cons_succ]
          refine wpT.take 3 rfl (by kernel_rfl) (fun _ _ _ h => h) rfl (fun w' hw' => by exact exec_load _ _ _ _ rfl rfl (load_strc w' _ _ (((Chg.refl (fun _ => False) w3).drew.trans hw').cell (cell_cmd HB3.out 2 _ rfl) (fun h => h)))) ?_
          simp only [Act.put, List.setIfInBounds_toArray, List.set_cons_zero, List.set_cons_succ]
          refine wpT.take 4 rfl (by kernel_rfl) (fun _ _ _ h => h) rfl (fun w' hw' => by go_simp <;> with_reducible rfl) ?_
          simp only [Act.put, List.setIfInBounds_toArray, List.set_cons_zero, List.set_cons_succ]
          refine wpT.take 5 rfl (by kernel_rfl) (fun _ _ _ h => h) rfl (fun w' hw' => by go_simp <;> with_reducible rfl) ?_
          simp only [Act.put, List.setIfInBounds_toArray, List.set_cons_zero, List.set_cons_succ]
          refine wpT.done (by kernel_rfl) ?_
          have q0 : w3.drew.cell? ⟨w.heap.size, 0, none⟩ = some (.int .i64 x.kind) := by rw [World.cell?_drew]; exact cell_cmd HB3.out 0 _ rfl
          go_wp2_with fail
          clear q0
          refine wpT.begin (fun _ => False) 8 (by kernel_rfl) rfl ?_
          refine wpT.take 0 rfl (by kernel_rfl) (fun _ _ _ h => h) rfl (fun w' hw' => by go_simp <;> with_reducible rfl) ?_
          simp only [Act.put, List.setIfInBounds_toArray, List.set_cons_zero, List.set_cons_succ]
          refine wpT.take 1 rfl (by kernel_rfl) (fun _ _ _ h => h) rfl (fun w' hw' => by go_simp <;> with_reducible rfl) ?_
          simp only [Act.put, List.setIfInBounds_toArray, List.set_cons_zero, List.set_cons_succ]
          refine wpT.take 2 rfl (by kernel_rfl) (fun _ _ _ h => h) rfl (fun w' hw' => by exact exec_load _ _ _ _ rfl rfl (load_strc w' _ _ (((Chg.refl (fun _ => False) w3).drew.drew.trans hw').cell (cell_cmd HB3.out 10 _ rfl) (fun h => h)))) ?_
          simp only [Act.put, List.setIfInBounds_toArray, List.set_cons_zero, List.set_cons_succ]
          refine wpT.take 3 rfl (by kernel_rfl) (fun _ _ _ h => h) rfl (fun w' hw' => by go_simp <;> with_reducible rfl) ?_
          simp only [Act.put, List.setIfInBounds_toArray, List.set_cons_zero, List.set_cons_succ]
          refine wpT.take 4 rfl (by kernel_rfl) (fun _ _ _ h => h) rfl (fun w' hw' => by go_simp <;> with_reducible rfl) ?_
          simp only [Act.put, List.setIfInBounds_toArray, List.set_cons_zero, List.set_cons_succ]
          refine wpT.take 5 rfl (by kernel_rfl) (fun _ _ _ h => h) rfl (fun w' hw' => by exact exec_load _ _ _ _ rfl rfl (load_strc w' _ _ (((Chg.refl (fun _ => False) w3).drew.drew.trans hw').cell (cell_cmd HB3.out 11 _ rfl) (fun h => h)))) ?_
          simp only [Act.put, List.setIfInBounds_toArray, List.set_cons_zero, List.set_cons_succ]
          refine wpT.take 6 rfl (by kernel_rfl) (fun _ _ _ h => h) rfl (fun w' hw' => by go_simp <;> with_reducible rfl) ?_
          simp only [Act.put, List.setIfInBounds_toArray, List.set_cons_zero, List.set_cons_succ]
          refine wpT.take 7 rfl (by kernel_rfl) (fun _ _ _ h => h) rfl (fun w' hw' => by go_simp <;> with_reducible rfl) ?_
          simp only [Act.put, List.setIfInBounds_toArray, List.set_cons_zero, List.set_cons_succ]
          refine wpT.done (by kernel_rfl) ?_
          have q0 : w3.drew.drew.cell? ⟨w.heap.size, 0, none⟩ = some (.int .i64 x.kind) := by rw [World.cell?_drew, World.cell?_drew]; exact cell_cmd HB3.out 0 _ rfl
          have q1 : w3.drew.drew.cell? ⟨w.heap.size, 1, none⟩ = some (.string ⟨x.tenant.toArray⟩) := by rw [World.cell?_drew, World.cell?_drew]; exact cell_cmd HB3.out 1 _ rfl
          have q4 : w3.drew.drew.cell? ⟨w.heap.size, 4, none⟩ = some (.slice va ps.length vc) := by rw [World.cell?_drew, World.cell?_drew]; exact cell_cmd HB3.out 4 _ (by rw [← hpv]; rfl)
          go_wp2_with fail
          refine (SZ5.out _).mono ?_
          rintro e _ ⟨rfl, rfl⟩
          go_wp2_with fail
          go_ret
          exact ⟨by simp, c13.drew.drew⟩
        · rw [if_neg h5, if_neg h5] at hln
          have SZ5 := Lib.hid (fun w => SZ x.series.length x.name.length w f2 f3)
          rw [← hln] at SZ5
          clear SZ hln f1 f2 f3 f4 f5 f6 f6'
          go_wp2_with fail
          refine wpT.begin (fun _ => False) 6 (by kernel_rfl) rfl ?_
          refine wpT.take 0 rfl (by kernel_rfl) (fun _ _ _ h => h) rfl (fun w' hw' => by go_simp <;> with_reducible rfl) ?_
          simp only [Act.put, List.setIfInBounds_toArray, List.set_cons_zero, List.set_cons_succ]
          refine wpT.take 1 rfl (by kernel_rfl) (fun _ _ _ h => h) rfl (fun w' hw' => by exact exec_load _ _ _ _ rfl rfl (load_strc w' _ _ (((Chg.refl (fun _ => False) w3).drew.trans hw').cell (cell_cmd HB3.out 3 _ rfl) (fun h => h)))) ?_
          simp only [Act.put, List.setIfInBounds_toArray, List.set_cons_zero, List.set_cons_succ]
          refine wpT.take 2 rfl (by kernel_rfl) (fun _ _ _ h => h) rfl (fun w' hw' => by go_simp <;> with_reducible rfl) ?_
          simp only [Act.put, List.setIfInBounds_toArray, List.set_cons_zero, List.set_cons_succ]
          refine wpT.take 3 rfl (by kernel_rfl) (fun _ _ _ h => h) rfl (fun w' hw' => by exact exec_load _ _ _ _ rfl rfl (load_strc w' _ _ (((Chg.refl (fun _ => False) w3).drew.trans hw').cell (cell_cmd HB3.out 2 _ rfl) (fun h => h)))) ?_
          simp only [Act.put, List.setIfInBounds_toArray, List.set_cons_zero, List.set_cons_succ]
          refine wpT.take 4 rfl (by kernel_rfl) (fun _ _ _ h => h) rfl (fun w' hw' => by go_simp <;> with_reducible rfl) ?_
          simp only [Act.put, List.setIfInBounds_toArray, List.set_cons_zero, List.set_cons_succ]
          refine wpT.take 5 rfl (by kernel_rfl) (fun _ _ _ h => h) rfl (fun w' hw' => by go_simp <;> with_reducible rfl) ?_
          simp only [Act.put, List.setIfInBounds_toArray, List.set_cons_zero, List.set_cons_succ]
          refine wpT.done (by kernel_rfl) ?_
          have q0 : w3.drew.cell? ⟨w.heap.size, 0, none⟩ = some (.int .i64 x.kind) := by rw [World.cell?_drew]; exact cell_cmd HB3.out 0 _ rfl
          have q1 : w3.drew.cell? ⟨w.heap.size, 1, none⟩ = some (.string ⟨x.tenant.toArray⟩) := by rw [World.cell?_drew]; exact cell_cmd HB3.out 1 _ rfl
          have q4 : w3.drew.cell? ⟨w.heap.size, 4, none⟩ = some (.slice va ps.length vc) := by rw [World.cell?_drew]; exact cell_cmd HB3.out 4 _ (by rw [← hpv]; rfl)
          go_wp2_with fail
          refine (SZ5.out _).mono ?_
          rintro e _ ⟨rfl, rfl⟩
          go_wp2_with fail
          go_ret
          exact ⟨by simp, c13.drew⟩
      · clear hv3 hv4
        go_wp2_with fail
        go_ret
        exact ⟨rfl, c13⟩
    · have CB := Lib.hid (fun w => cbytes_arg x w hk)
      clear hk
      go_wp2_with (refine wpList_loadG 108 _ rfl rfl _ _ rfl ld ?_)
      refine (CB.out _).mono ?_
      rintro e w3 ⟨rfl, c3⟩
      clear ld
      go_wp2_with fail
      go_ret
      exact ⟨rfl, c02.trans c3⟩
end Go.Proofs.Ytncgeeaifacapaa
