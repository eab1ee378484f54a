/- Stock.Aggs. -/
import Derived.Test.YtmnnahkaenikkaaStk1
namespace Go.Proofs.Ytmnnahkaenikkaa
open Go.RowKit Go.Cat
theorem infoAg : (Try.prog.info? 58).map (fun i => (i.zero, i.size, i.bytes)) = some (some (.agg #[.int .i64 0, .int .i64 0, .int .i64 0, .int .i64 0, .int .i64 0]), 5, 40) := by kernel_rfl
/-- Has an aggregate's window some of a range? -/
def mtR (t : Nat) (a b : Int) (x : Ag) : Bool := decide (max x.tk a < min (x.tk + wid t) b)
theorem wst_al {t : Nat} {x : Int} (h : x % wid t = 0) : wst t x = x := by unfold wst; omega
theorem agk_cells (l : List Ag) (p : Ag) : (l ++ [p]).flatMap Ag.cells = l.flatMap Ag.cells ++ p.cells := by rw [List.flatMap_append]; simp
theorem agokT {t : Nat} {m : Int} {l : List Ag} (h : AgOk t m l) (hm : m ≤ 1099511627776) {p : Ag} {k : Nat} (hp : l[k]? = some p) : 0 ≤ p.tk ∧ p.tk ≤ 4611686018427387904 ∧ p.tk % wid t = 0 := by
  have := h p (List.mem_of_getElem? hp)
  omega
set_option maxRecDepth 100000 in
set_option maxHeartbeats 2000000 in
theorem aggs_c (w : World) (F : Nat → Prop) (R : Nat) (s : St) (t : Nat) (ht : t = 1 ∨ t = 2) (a b : Int) (h : StIs w F R s) : Calls Try.prog 19 #[.pointer (some ⟨R, 0, none⟩), .int .i64 t, .agg #[.int .i64 a, .int .i64 b]] w fun e w' => ∃ v', e = .returned v' ∧ OAgs w' v' ((s.agg t).filter (mtR t a b)) ∧ (∀ k, v'.ownBlock = some k → w.heap.size ≤ k) ∧ Chg (fun _ => False) w w' := by
  obtain ⟨R1, vr, vm, vl, h⟩ := h
  obtain ⟨W, hW⟩ : ∃ W, W = w.alloc (.cells #[.int .i64 a, .int .i64 b] 24) := ⟨_, rfl⟩
  have cW : Chg (fun _ => False) w W := by rw [hW]; exact (Chg.refl _ w).alloc _
  have hb : W.heap[w.heap.size]? = some (.cells #[.int .i64 a, .int .i64 b] 24 (0, 0)) := by rw [hW]; exact heap_at_new _ _ _ rfl
  have WC := Lib.hid (wide_c W t (by omega))
  obtain ⟨q0, q2, q3, q5, q6⟩ := (h.kept cW (fun _ _ h => h)).cells
  obtain ⟨⟨l, va, vc, n, hl, hA, hfew, hva, hok⟩⟩ : Nonempty (Σ' (l : List Ag) (va : Option Addr) (vc n : Nat), l = s.agg t ∧ ((if t = 1 then vm else vl) = .slice va n vc ∧ n = l.length ∧ Hid (Ags w (.slice va n vc) l)) ∧ n ≤ 256 ∧ True ∧ Hid (∀ (k : Nat) (p : Ag), l[k]? = some p → 0 ≤ p.tk ∧ p.tk ≤ 4611686018427387904 ∧ p.tk % wid t = 0)) := by
    obtain ⟨hm, hl⟩ := h.ags
    have hi := h.inv
    rcases ht with rfl | rfl
    · obtain ⟨va, vc, hv⟩ := Reads.form hm
      exact ⟨⟨_, va, vc, _, rfl, ⟨hv, rfl, by rw [hv] at hm; exact hm⟩, hi.midFew, trivial, fun k p hp => agokT hi.midOk hi.b1.2 hp⟩⟩
    · obtain ⟨va, vc, hv⟩ := Reads.form hl
      exact ⟨⟨_, va, vc, _, rfl, ⟨hv, rfl, by rw [hv] at hl; exact hl⟩, hi.longFew, trivial, fun k p hp => agokT hi.longOk hi.b2.2 hp⟩⟩
  obtain ⟨hv, hn, H⟩ := hA
  rw [← hl]
  have HB := Lib.hid hb
  have CW := Lib.hid cW
  have HW := Lib.hid hW
  have HN := Lib.hid hn
  rw [hW] at q2 q3
  clear hb cW h hl q0 q5 q6 hva hn
  rcases ht with rfl | rfl
  · have qa : (w.alloc (.cells #[.int .i64 a, .int .i64 b] 24)).cell? ⟨R, 2, none⟩ = some (.slice va n vc) := by rw [q2]; exact congrArg some hv
    have OC := Lib.hid (fun W x h0 h1 => of_c W 1 x (by omega) h0 h1)
    have MC := Lib.hid (fun W p q => window_meets p q a b W)
    clear q2 q3 hv
    go_enter Try.func19, Try.ntmps19
    go_wp2_with fail
    rw [← HW.out]
    refine WC.out.mono ?_
    rintro e w1 ⟨rfl, rfl⟩
    rw [← hW] at qa
    clear hW WC
    go_wp2_with fail
    go_loopw [7, 24] (fun ov ci wr => ∃ k : Nat, k ≤ n ∧ ci = .int .i64 k ∧ Hid (OAgs wr ov ((l.take k).filter (mtR 1 a b))) ∧ Hid (∀ q, ov.ownBlock = some q → W.heap.size ≤ q) ∧ Hid (Chg (fun _ => False) W wr)) (fun _ ci _ => n - (intOf ci).toNat)
    case atStart => exact ⟨0, by omega, rfl, Owns.nil _ _, by simp [Hid, Value.ownBlock], Chg.refl _ _⟩
    case round =>
      obtain ⟨k, hk, rfl, hO, hF, hC⟩ := hrel
      clear qa
      by_cases hlt : k < n
      · obtain ⟨p, hp⟩ := at_lt (show k < l.length by rw [← HN.out]; exact hlt)
        obtain ⟨g, o, rfl, h1, h2, h3⟩ := reads_some (n := n) (by have := H.out; unfold Ags at this; rw [← HN.out] at this; exact this) (by omega)
        have hld := load_agE wr (fun j u hj => hC.out.cell (CW.out.cell (h3 j u hj) (fun h => h)) (fun h => h)) hp
        obtain ⟨p0, p1, p2⟩ := hok.out k p hp
        obtain ⟨Wb, hWb⟩ : ∃ W, W = wr.alloc (.cells #[.int .i64 p.tk, .int .i64 p.cnt, .int .i64 p.sum, .int .i64 p.mn, .int .i64 p.mx] 58) := ⟨_, rfl⟩
        have cb : Chg (fun _ => False) wr Wb := by rw [hWb]; exact (Chg.refl _ wr).alloc _
        have hP : AgAt Wb wr.heap.size p := by rw [hWb]; exact ag_new wr p
        have HB2 : Hid (Wb.drew.heap[w.heap.size]? = some (.cells #[.int .i64 a, .int .i64 b] 24 (0, 0))) := (hC.out.trans cb).heap HB.out (fun h => h)
        have e1 : l.take (k + 1) = l.take k ++ [p] := by rw [List.take_add_one, hp]; rfl
        obtain ⟨Ak, hAk⟩ : ∃ A, A = (l.take k).filter (mtR 1 a b) := ⟨_, rfl⟩
        rw [← hAk] at hO
        have e2 : (l.take (k + 1)).filter (mtR 1 a b) = Ak ++ (if mtR 1 a b p = true then [p] else []) := by rw [e1, List.filter_append, ← hAk, List.filter_cons, List.filter_nil]
        have hAl : Ak.length ≤ 256 := by rw [hAk]; have := List.length_filter_le (mtR 1 a b) (l.take k); have := List.length_take_le k l; omega
        have E2 := Lib.hid e2
        have HP := Lib.hid hP
        obtain ⟨qa0, -⟩ := hP.cell
        have Q0 := Lib.hid qa0
        have OCp := Lib.hid (fun W => OC.out W p.tk p0 p1)
        rw [show wst 1 p.tk = p.tk from wst_al p2] at OCp
        have CB := Lib.hid cb
        have HWB := Lib.hid hWb
        obtain ⟨bm, hbm⟩ : ∃ bm, bm = mtR 1 a b p := ⟨_, rfl⟩
        rw [← hbm] at E2
        have MCp : Hid (∀ W, Calls Try.prog 37 #[.agg #[.int .i64 p.tk, .int .i64 (p.tk + wid 1)], .agg #[.int .i64 a, .int .i64 b]] W fun e w' => e = .returned (.bool bm) ∧ Chg (fun _ => False) W w') := fun W => by rw [hbm]; exact MC.out W p.tk (p.tk + wid 1)
        clear hWb cb hP e1 hAk e2 h1 h2 h3 hp qa0 p0 p1 p2 hbm
        go_wp2_with (first | refine wpList_load rfl 58 _ rfl _ _ rfl hld ?_)
        rw [← HWB.out]
        clear hld
        refine wpT.begin (fun _ => False) 6 (by kernel_rfl) rfl ?_
        refine wpT.take 0 rfl (by kernel_rfl) (fun _ _ _ h => h) rfl (fun w' hw' => by go_simp <;> with_reducible rfl) ?_
        simp only [Act.put, List.setIfInBounds_toArray, List.set_cons_zero, List.set_cons_succ]
        refine wpT.take 1 rfl (by kernel_rfl) (fun _ _ _ h => h) rfl (fun w' hw' => by go_simp <;> with_reducible rfl) ?_
        simp only [Act.put, List.setIfInBounds_toArray, List.set_cons_zero, List.set_cons_succ]
        refine wpT.ld 2 rfl (by kernel_rfl) (fun _ _ _ _ h => h) rfl _ _ rfl (by kernel_rfl) ⟨wr.heap.size, 0, none⟩ rfl _ (Q0.out) (fun h => h) ?_
        simp only [Act.put, List.setIfInBounds_toArray, List.set_cons_zero, List.set_cons_succ]
        refine wpT.take 4 rfl (by kernel_rfl) (fun _ _ _ h => h) rfl (fun w' hw' => exec_load _ _ _ _ rfl rfl (run_loadAt_agg w' _ _ w.heap.size 0 [.int .i64 a, .int .i64 b] Try.underlying24 rfl (by kernel_rfl) (fun j u hj => by have := hw'.heap HB2.out (fun h => h); rw [Nat.zero_add, cell_of_heap this]; simpa using hj))) ?_
        simp only [Act.put, List.setIfInBounds_toArray, List.set_cons_zero, List.set_cons_succ]
        refine wpT.call 3 rfl (by kernel_rfl) rfl (fun K hK => ?_)
        go_wp2_with fail
        refine (OCp.out _).mono ?_
        rintro e w2 ⟨rfl, c2⟩
        have C2 := Lib.hid c2
        refine hK _ _ c2 ?_
        clear hK c2
        try (simp only [Act.put, List.setIfInBounds_toArray, List.set_cons_zero, List.set_cons_succ])
        refine wpT.call 5 rfl (by kernel_rfl) rfl (fun K hK => ?_)
        go_wp2_with fail
        refine (MCp.out _).mono ?_
        rintro e w3 ⟨rfl, c3⟩
        have CM := Lib.hid c3
        have C3 : Hid (Chg (fun _ => False) W w3) := (hC.out.trans CB.out).drew.trans (C2.out.trans c3)
        refine hK _ _ c3 ?_
        clear hK c3
        try (simp only [Act.put, List.setIfInBounds_toArray, List.set_cons_zero, List.set_cons_succ])
        refine wpT.done (by kernel_rfl) ?_
        cases bm with
        | false =>
          have E3 : Hid ((l.take (k + 1)).filter (mtR 1 a b) = Ak) := by show _ = _; rw [E2.out]; simp
          clear E2
          go_wp2_with fail
          refine ⟨⟨k + 1, by omega, rfl, ?_, hF.out, C3.out⟩, by simp only [intOf]; omega⟩
          show OAgs _ _ _
          rw [E3.out]
          exact hO.out.chgd (CB.out.drew.trans (C2.out.trans CM.out)) (fun _ _ h => h)
        | true =>
          have E3 : Hid ((l.take (k + 1)).filter (mtR 1 a b) = Ak ++ [p]) := by show _ = _; rw [E2.out]; simp
          clear E2
          have hO3 : Hid (OAgs w3 u7 Ak) := hO.out.chgd (CB.out.drew.trans (C2.out.trans CM.out)) (fun _ _ h => h)
          have hA3 : AgAt w3 wr.heap.size p := HP.out.kept ((Chg.refl (fun _ => False) Wb).drew.trans (C2.out.trans CM.out)) (fun h => h)
          have hl9 := hA3.load
          have pv : (Value.agg p.cells.toArray) = .agg #[.int .i64 p.tk, .int .i64 p.cnt, .int .i64 p.sum, .int .i64 p.mn, .int .i64 p.mx] := rfl
          rw [pv] at hl9
          obtain ⟨oa, oc, hov⟩ := Owns.form hO3.out
          obtain ⟨m, hm⟩ : ∃ m, m = Ak.length := ⟨_, rfl⟩
          have HMM := Lib.hid hm
          have ow : Hid (Owns w3 5 (.slice oa m oc) m (Ak.flatMap Ag.cells)) := by have h := hO3.out; unfold OAgs at h; rw [hov, ← hm] at h; exact h
          rw [← hm] at hAl hov
          have A1 := Lib.hid (agone p)
          subst hov
          clear hm pv hA3
          go_wp2_with (first | refine wpList_load rfl 58 _ rfl _ _ rfl hl9 ?_ | (at_builtin; go_loud (refine wpList_app_one rfl _ _ 51 rfl 58 (.agg #[.int .i64 0, .int .i64 0, .int .i64 0, .int .i64 0, .int .i64 0]) 5 40 Try.underlying51 infoAg rfl (.slice oa m oc) m (Ak.flatMap Ag.cells) [.int .i64 p.tk, .int .i64 p.cnt, .int .i64 p.sum, .int .i64 p.mn, .int .i64 p.mx] _ rfl rfl ow.out rfl A1.out (by simp only [maxLen]; omega) (by omega) ?_; intro v' w' own' c' in' nn'; refine Hid.out ?_)))
          obtain ⟨va', vc', rfl⟩ := own'.form
          have O4 := Lib.hid own'
          have C4 := Lib.hid c'
          have I4 := Lib.hid in'
          clear own' c' in' nn' hl9
          refine Lib.hid ?_
          go_wp2_with fail
          refine ⟨⟨k + 1, by omega, rfl, ?_, fun q hq => ?_, C3.out.new C4.out (fun q hq => hF.out q hq)⟩, by simp only [intOf]; omega⟩
          · have h := O4.out
            rw [HMM.out] at h ⊢
            show Owns _ _ _ _ _
            rw [E3.out, agk_cells, List.length_append]
            exact h
          · rcases I4.out q hq with h | h
            · exact hF.out q h
            · have := C3.out.size; omega
      · obtain rfl : k = n := by omega
        have hO : Hid (OAgs wr u7 (l.filter (mtR 1 a b))) := by have h := hO.out; rw [HN.out, List.take_length] at h; exact h
        go_wp2_with fail
        go_ret
        exact ⟨_, rfl, hO.out, fun q hq => by have := hF.out q hq; have := CW.out.size; omega, CW.out.trans hC.out⟩
  · have qa : (w.alloc (.cells #[.int .i64 a, .int .i64 b] 24)).cell? ⟨R, 3, none⟩ = some (.slice va n vc) := by rw [q3]; exact congrArg some hv
    have OC := Lib.hid (fun W x h0 h1 => of_c W 2 x (by omega) h0 h1)
    have MC := Lib.hid (fun W p q => window_meets p q a b W)
    clear q2 q3 hv
    go_enter Try.func19, Try.ntmps19
    go_wp2_with fail
    rw [← HW.out]
    refine WC.out.mono ?_
    rintro e w1 ⟨rfl, rfl⟩
    rw [← hW] at qa
    clear hW WC
    go_wp2_with fail
    go_loopw [7, 24] (fun ov ci wr => ∃ k : Nat, k ≤ n ∧ ci = .int .i64 k ∧ Hid (OAgs wr ov ((l.take k).filter (mtR 2 a b))) ∧ Hid (∀ q, ov.ownBlock = some q → W.heap.size ≤ q) ∧ Hid (Chg (fun _ => False) W wr)) (fun _ ci _ => n - (intOf ci).toNat)
    case atStart => exact ⟨0, by omega, rfl, Owns.nil _ _, by simp [Hid, Value.ownBlock], Chg.refl _ _⟩
    case round =>
      obtain ⟨k, hk, rfl, hO, hF, hC⟩ := hrel
      clear qa
      by_cases hlt : k < n
      · obtain ⟨p, hp⟩ := at_lt (show k < l.length by rw [← HN.out]; exact hlt)
        obtain ⟨g, o, rfl, h1, h2, h3⟩ := reads_some (n := n) (by have := H.out; unfold Ags at this; rw [← HN.out] at this; exact this) (by omega)
        have hld := load_agE wr (fun j u hj => hC.out.cell (CW.out.cell (h3 j u hj) (fun h => h)) (fun h => h)) hp
        obtain ⟨p0, p1, p2⟩ := hok.out k p hp
        obtain ⟨Wb, hWb⟩ : ∃ W, W = wr.alloc (.cells #[.int .i64 p.tk, .int .i64 p.cnt, .int .i64 p.sum, .int .i64 p.mn, .int .i64 p.mx] 58) := ⟨_, rfl⟩
        have cb : Chg (fun _ => False) wr Wb := by rw [hWb]; exact (Chg.refl _ wr).alloc _
        have hP : AgAt Wb wr.heap.size p := by rw [hWb]; exact ag_new wr p
        have HB2 : Hid (Wb.drew.heap[w.heap.size]? = some (.cells #[.int .i64 a, .int .i64 b] 24 (0, 0))) := (hC.out.trans cb).heap HB.out (fun h => h)
        have e1 : l.take (k + 1) = l.take k ++ [p] := by rw [List.take_add_one, hp]; rfl
        obtain ⟨Ak, hAk⟩ : ∃ A, A = (l.take k).filter (mtR 2 a b) := ⟨_, rfl⟩
        rw [← hAk] at hO
        have e2 : (l.take (k + 1)).filter (mtR 2 a b) = Ak ++ (if mtR 2 a b p = true then [p] else []) := by rw [e1, List.filter_append, ← hAk, List.filter_cons, List.filter_nil]
        have hAl : Ak.length ≤ 256 := by rw [hAk]; have := List.length_filter_le (mtR 2 a b) (l.take k); have := List.length_take_le k l; omega
        have E2 := Lib.hid e2
        have HP := Lib.hid hP
        obtain ⟨qa0, -⟩ := hP.cell
        have Q0 := Lib.hid qa0
        have OCp := Lib.hid (fun W => OC.out W p.tk p0 p1)
        rw [show wst 2 p.tk = p.tk from wst_al p2] at OCp
        have CB := Lib.hid cb
        have HWB := Lib.hid hWb
        obtain ⟨bm, hbm⟩ : ∃ bm, bm = mtR 2 a b p := ⟨_, rfl⟩
        rw [← hbm] at E2
        have MCp : Hid (∀ W, Calls Try.prog 37 #[.agg #[.int .i64 p.tk, .int .i64 (p.tk + wid 2)], .agg #[.int .i64 a, .int .i64 b]] W fun e w' => e = .returned (.bool bm) ∧ Chg (fun _ => False) W w') := fun W => by rw [hbm]; exact MC.out W p.tk (p.tk + wid 2)
        clear hWb cb hP e1 hAk e2 h1 h2 h3 hp qa0 p0 p1 p2 hbm
        go_wp2_with (first | refine wpList_load rfl 58 _ rfl _ _ rfl hld ?_)
        rw [← HWB.out]
        clear hld
        refine wpT.begin (fun _ => False) 6 (by kernel_rfl) rfl ?_
        refine wpT.take 0 rfl (by kernel_rfl) (fun _ _ _ h => h) rfl (fun w' hw' => by go_simp <;> with_reducible rfl) ?_
        simp only [Act.put, List.setIfInBounds_toArray, List.set_cons_zero, List.set_cons_succ]
        refine wpT.take 1 rfl (by kernel_rfl) (fun _ _ _ h => h) rfl (fun w' hw' => by go_simp <;> with_reducible rfl) ?_
        simp only [Act.put, List.setIfInBounds_toArray, List.set_cons_zero, List.set_cons_succ]
        refine wpT.ld 2 rfl (by kernel_rfl) (fun _ _ _ _ h => h) rfl _ _ rfl (by kernel_rfl) ⟨wr.heap.size, 0, none⟩ rfl _ (Q0.out) (fun h => h) ?_
        simp only [Act.put, List.setIfInBounds_toArray, List.set_cons_zero, List.set_cons_succ]
        refine wpT.take 4 rfl (by kernel_rfl) (fun _ _ _ h => h) rfl (fun w' hw' => exec_load _ _ _ _ rfl rfl (run_loadAt_agg w' _ _ w.heap.size 0 [.int .i64 a, .int .i64 b] Try.underlying24 rfl (by kernel_rfl) (fun j u hj => by have := hw'.heap HB2.out (fun h => h); rw [Nat.zero_add, cell_of_heap this]; simpa using hj))) ?_
        simp only [Act.put, List.setIfInBounds_toArray, List.set_cons_zero, List.set_cons_succ]
        refine wpT.call 3 rfl (by kernel_rfl) rfl (fun K hK => ?_)
        go_wp2_with fail
        refine (OCp.out _).mono ?_
        rintro e w2 ⟨rfl, c2⟩
        have C2 := Lib.hid c2
        refine hK _ _ c2 ?_
        clear hK c2
        try (simp only [Act.put, List.setIfInBounds_toArray, List.set_cons_zero, List.set_cons_succ])
        refine wpT.call 5 rfl (by kernel_rfl) rfl (fun K hK => ?_)
        go_wp2_with fail
        refine (MCp.out _).mono ?_
        rintro e w3 ⟨rfl, c3⟩
        have CM := Lib.hid c3
        have C3 : Hid (Chg (fun _ => False) W w3) := (hC.out.trans CB.out).drew.trans (C2.out.trans c3)
        refine hK _ _ c3 ?_
        clear hK c3
        try (simp only [Act.put, List.setIfInBounds_toArray, List.set_cons_zero, List.set_cons_succ])
        refine wpT.done (by kernel_rfl) ?_
        cases bm with
        | false =>
          have E3 : Hid ((l.take (k + 1)).filter (mtR 2 a b) = Ak) := by show _ = _; rw [E2.out]; simp
          clear E2
          go_wp2_with fail
          refine ⟨⟨k + 1, by omega, rfl, ?_, hF.out, C3.out⟩, by simp only [intOf]; omega⟩
          show OAgs _ _ _
          rw [E3.out]
          exact hO.out.chgd (CB.out.drew.trans (C2.out.trans CM.out)) (fun _ _ h => h)
        | true =>
          have E3 : Hid ((l.take (k + 1)).filter (mtR 2 a b) = Ak ++ [p]) := by show _ = _; rw [E2.out]; simp
          clear E2
          have hO3 : Hid (OAgs w3 u7 Ak) := hO.out.chgd (CB.out.drew.trans (C2.out.trans CM.out)) (fun _ _ h => h)
          have hA3 : AgAt w3 wr.heap.size p := HP.out.kept ((Chg.refl (fun _ => False) Wb).drew.trans (C2.out.trans CM.out)) (fun h => h)
          have hl9 := hA3.load
          have pv : (Value.agg p.cells.toArray) = .agg #[.int .i64 p.tk, .int .i64 p.cnt, .int .i64 p.sum, .int .i64 p.mn, .int .i64 p.mx] := rfl
          rw [pv] at hl9
          obtain ⟨oa, oc, hov⟩ := Owns.form hO3.out
          obtain ⟨m, hm⟩ : ∃ m, m = Ak.length := ⟨_, rfl⟩
          have HMM := Lib.hid hm
          have ow : Hid (Owns w3 5 (.slice oa m oc) m (Ak.flatMap Ag.cells)) := by have h := hO3.out; unfold OAgs at h; rw [hov, ← hm] at h; exact h
          rw [← hm] at hAl hov
          have A1 := Lib.hid (agone p)
          subst hov
          clear hm pv hA3
          go_wp2_with (first | refine wpList_load rfl 58 _ rfl _ _ rfl hl9 ?_ | (at_builtin; go_loud (refine wpList_app_one rfl _ _ 51 rfl 58 (.agg #[.int .i64 0, .int .i64 0, .int .i64 0, .int .i64 0, .int .i64 0]) 5 40 Try.underlying51 infoAg rfl (.slice oa m oc) m (Ak.flatMap Ag.cells) [.int .i64 p.tk, .int .i64 p.cnt, .int .i64 p.sum, .int .i64 p.mn, .int .i64 p.mx] _ rfl rfl ow.out rfl A1.out (by simp only [maxLen]; omega) (by omega) ?_; intro v' w' own' c' in' nn'; refine Hid.out ?_)))
          obtain ⟨va', vc', rfl⟩ := own'.form
          have O4 := Lib.hid own'
          have C4 := Lib.hid c'
          have I4 := Lib.hid in'
          clear own' c' in' nn' hl9
          refine Lib.hid ?_
          go_wp2_with fail
          refine ⟨⟨k + 1, by omega, rfl, ?_, fun q hq => ?_, C3.out.new C4.out (fun q hq => hF.out q hq)⟩, by simp only [intOf]; omega⟩
          · have h := O4.out
            rw [HMM.out] at h ⊢
            show Owns _ _ _ _ _
            rw [E3.out, agk_cells, List.length_append]
            exact h
          · rcases I4.out q hq with h | h
            · exact hF.out q h
            · have := C3.out.size; omega
      · obtain rfl : k = n := by omega
        have hO : Hid (OAgs wr u7 (l.filter (mtR 2 a b))) := by have h := hO.out; rw [HN.out, List.take_length] at h; exact h
        go_wp2_with fail
        go_ret
        exact ⟨_, rfl, hO.out, fun q hq => by have := hF.out q hq; have := CW.out.size; omega, CW.out.trans hC.out⟩
end Go.Proofs.Ytmnnahkaenikkaa
