/- Law 20: alike, of two stocks that are the same. -/
import Derived.Test.YtmnnahkaenikkaaAct16
import Derived.Laws.StructEq
namespace Go.Proofs.Ytmnnahkaenikkaa
open Go.RowKit Go.Cat
set_option maxRecDepth 100000 in
theorem neq_pt (w : World) (x : Pt) : (binOp .neq 32 (.agg #[.int .i64 x.tk, .int .i64 x.val]) (.agg #[.int .i64 x.tk, .int .i64 x.val])).run Try.prog w = .ok (.bool false) w := by
  have hS : Try.prog.underlying 32 = some (.struct (Try.prog.fieldsOf 32)) := by kernel_rfl
  have hp : Try.prog.stoodInHeld 32 = false := by kernel_rfl
  rw [run_neq_struct, show (10000 : Nat) = 9999 + 1 from rfl, run_equalIn_agg w 9999 32 _ _ hS hp]
  simp only [Program.fieldsOf, Try.underlying32]
  go_simp
set_option maxRecDepth 100000 in
theorem neq_ag (w : World) (x : Ag) : (binOp .neq 58 (.agg #[.int .i64 x.tk, .int .i64 x.cnt, .int .i64 x.sum, .int .i64 x.mn, .int .i64 x.mx]) (.agg #[.int .i64 x.tk, .int .i64 x.cnt, .int .i64 x.sum, .int .i64 x.mn, .int .i64 x.mx])).run Try.prog w = .ok (.bool false) w := by
  have hS : Try.prog.underlying 58 = some (.struct (Try.prog.fieldsOf 58)) := by kernel_rfl
  have hp : Try.prog.stoodInHeld 58 = false := by kernel_rfl
  rw [run_neq_struct, show (10000 : Nat) = 9999 + 1 from rfl, run_equalIn_agg w 9999 58 _ _ hS hp]
  simp only [Program.fieldsOf, Try.underlying58]
  go_simp
theorem exec_neq {P : Program} {o : Oper} {a : Act} {w : World} (t yt : TypeId) (x y : Operand) (ho : o.op = .binOp .neq t x y yt) (u v r : Value) (hx : a.eval x = u) (hy : a.eval y = v) (h0 : (eqGuard .neq t x y u v).run P w = .ok () w) (h : (binOp .neq t u v).run P w = .ok r w) : (execOp a.eval o).run P w = .ok (.value r) w := by
  unfold execOp
  simp only [ho, hx, hy]
  simp [Sem.run_bind, h0, h]
set_option maxRecDepth 100000 in
set_option maxHeartbeats 4000000 in
theorem alike_c (w : World) (F1 F2 : Nat → Prop) (R1 R2 : Nat) (s : St) (h1 : StIs w F1 R1 s) (h2 : StIs w F2 R2 s) :
    Calls Try.prog 13 #[.pointer (some ⟨R1, 0, none⟩), .pointer (some ⟨R2, 0, none⟩)] w fun e w' => e = .returned (.bool true) ∧ Chg (fun _ => False) w w' := by
  obtain ⟨W, hW⟩ : ∃ W, W = w.alloc (.cells #[.int .i64 0, .int .i64 2305843009213693952] 24) := ⟨_, rfl⟩
  have cW : Chg (fun _ => False) w W := by rw [hW]; exact (Chg.refl _ w).alloc _
  have HB : Hid (W.heap[w.heap.size]? = some (.cells #[.int .i64 0, .int .i64 2305843009213693952] 24 (0, 0))) := by show _ = _; rw [hW]; exact heap_at_new _ _ _ rfl
  have P1 := Lib.hid (points_c W.drew F1 R1 s 0 2305843009213693952 (h1.same cW.drew))
  have H1 := Lib.hid (h1.same cW)
  have H2 := Lib.hid (h2.same cW)
  obtain ⟨L, hL⟩ : ∃ L, L = inR s.raw 0 2305843009213693952 := ⟨_, rfl⟩
  have hfew : L.length ≤ 256 := by
    obtain ⟨_, _, _, _, h⟩ := h1
    rw [hL]
    exact Nat.le_trans (List.length_filter_le _ _) h.ser.few
  rw [← hL] at P1
  have HL := Lib.hid hL
  have CW := Lib.hid cW
  have HW := Lib.hid hW
  obtain ⟨n, hn⟩ : ∃ n, n = L.length := ⟨_, rfl⟩
  have HN := Lib.hid hn
  rw [← hn] at hfew
  clear hL hW cW h1 h2 hn
  go_enter Try.func13, Try.ntmps13
  go_wp2_with fail
  rw [← HW.out]
  refine wpT.begin (fun _ => False) 8 (by kernel_rfl) rfl ?_
  refine wpT.take 0 rfl (by kernel_rfl) (fun _ _ _ h => h) rfl (fun w' hw' => by go_simp <;> with_reducible rfl) ?_
  simp only [Act.put, List.setIfInBounds_toArray, List.set_cons_zero, List.set_cons_succ]
  refine wpT.take 1 rfl (by kernel_rfl) (fun _ _ _ h => h) rfl (fun w' hw' => exec_load _ _ _ _ rfl rfl (load_rng (hw'.heap HB.out (fun h => h)))) ?_
  simp only [Act.put, List.setIfInBounds_toArray, List.set_cons_zero, List.set_cons_succ]
  refine wpT.take 3 rfl (by kernel_rfl) (fun _ _ _ h => h) rfl (fun w' hw' => by go_simp <;> with_reducible rfl) ?_
  simp only [Act.put, List.setIfInBounds_toArray, List.set_cons_zero, List.set_cons_succ]
  refine wpT.take 4 rfl (by kernel_rfl) (fun _ _ _ h => h) rfl (fun w' hw' => exec_load _ _ _ _ rfl rfl (load_rng (hw'.heap HB.out (fun h => h)))) ?_
  simp only [Act.put, List.setIfInBounds_toArray, List.set_cons_zero, List.set_cons_succ]
  refine wpT.call 2 rfl (by kernel_rfl) rfl (fun K hK => ?_)
  go_wp2_with fail
  refine (P1.out).mono ?_
  rintro e w2 ⟨vv, rfl, oo, ff, cc⟩
  have C2 : Hid (Chg (fun _ => False) _ _) := cc
  obtain ⟨va2, vc2, hv2⟩ := oo.form
  rw [← HN.out] at hv2
  have O2 : Hid (OPts w2 (.slice va2 n vc2) L) := by rw [← hv2]; exact oo
  have P2 := points_c w2 F2 R2 s 0 2305843009213693952 (H2.out.same ((Chg.refl (fun _ => False) W).drew.trans cc))
  rw [← HL.out] at P2
  have P2 := Lib.hid P2
  have HB2 : Hid (w2.heap[w.heap.size]? = some (.cells #[.int .i64 0, .int .i64 2305843009213693952] 24 (0, 0))) := cc.heap HB.out (fun h => h)
  subst hv2
  refine hK _ _ cc ?_
  clear hK oo ff cc
  try (simp only [Act.put, List.setIfInBounds_toArray, List.set_cons_zero, List.set_cons_succ])
  refine wpT.call 5 rfl (by kernel_rfl) rfl (fun K hK => ?_)
  go_wp2_with fail
  refine (P2.out).mono ?_
  rintro e w3 ⟨vv, rfl, oo, ff, cc⟩
  have C3 : Hid (Chg (fun _ => False) _ _) := cc
  obtain ⟨va3, vc3, hv3⟩ := oo.form
  rw [← HN.out] at hv3
  have O3 : Hid (OPts w3 (.slice va3 n vc3) L) := by rw [← hv3]; exact oo
  subst hv3
  refine hK _ _ cc ?_
  clear hK oo ff cc
  try (simp only [Act.put, List.setIfInBounds_toArray, List.set_cons_zero, List.set_cons_succ])
  refine wpT.take 6 rfl (by kernel_rfl) (fun _ _ _ h => h) rfl (fun w' hw' => by go_simp <;> with_reducible rfl) ?_
  simp only [Act.put, List.setIfInBounds_toArray, List.set_cons_zero, List.set_cons_succ]
  refine wpT.take 7 rfl (by kernel_rfl) (fun _ _ _ h => h) rfl (fun w' hw' => by go_simp <;> with_reducible rfl) ?_
  simp only [Act.put, List.setIfInBounds_toArray, List.set_cons_zero, List.set_cons_succ]
  refine wpT.done (by kernel_rfl) ?_
  have CW3 : Hid (Chg (fun _ => False) W w3) := ((Chg.refl (fun _ => False) W).drew.trans C2.out).trans C3.out
  have M1 := Lib.hid (mark_c w3 F1 R1 s 1 (.inl rfl) (H1.out.same CW3.out))
  have M2 := Lib.hid (mark_c w3 F2 R2 s 1 (.inl rfl) (H2.out.same CW3.out))
  have M3 := Lib.hid (mark_c w3 F1 R1 s 2 (.inr rfl) (H1.out.same CW3.out))
  have M4 := Lib.hid (mark_c w3 F2 R2 s 2 (.inr rfl) (H2.out.same CW3.out))
  have O23 : Hid (Pts w3 (.slice va2 n vc2) L) := Reads.kept O2.out.reads C3.out (fun _ _ h => h)
  have O33 : Hid (Pts w3 (.slice va3 n vc3) L) := O3.out.reads
  go_wp2_with fail
  refine M1.out.mono ?_
  rintro e wx ⟨rfl, rfl⟩
  go_wp2_with fail
  refine M2.out.mono ?_
  rintro e wx ⟨rfl, rfl⟩
  go_wp2_with fail
  refine M3.out.mono ?_
  rintro e wx ⟨rfl, rfl⟩
  go_wp2_with fail
  refine M4.out.mono ?_
  rintro e wx ⟨rfl, rfl⟩
  go_wp2_with fail
  go_loopw [41] (fun ci wr => ∃ k : Nat, k ≤ n ∧ ci = .int .i64 k ∧ Hid (Chg (fun _ => False) w3 wr)) (fun ci _ => n - (intOf ci).toNat)
  case atStart => exact ⟨0, by omega, rfl, Chg.refl _ _⟩
  case round =>
    obtain ⟨k, hk, rfl, hC⟩ := hrel
    by_cases hlt : k < n
    · obtain ⟨x, hx⟩ := at_lt (show k < L.length by rw [← HN.out]; exact hlt)
      obtain ⟨ga, oa, rfl, f1, f2, f3⟩ := reads_some (n := n) (by have := O23.out; unfold Pts at this; rw [← HN.out] at this; exact this) (by omega)
      obtain ⟨gb, ob, rfl, f4, f5, f6⟩ := reads_some (n := n) (by have := O33.out; unfold Pts at this; rw [← HN.out] at this; exact this) (by omega)
      have LA : Hid (∀ w', Chg (fun _ => False) wr.drew w' → _) := fun w' hw' => load_pt w' (fun jj u hj => (hC.out.drew.trans hw').cell (f3 jj u hj) (fun h => h)) hx
      have LB : Hid (∀ w', Chg (fun _ => False) wr.drew w' → _) := fun w' hw' => load_pt w' (fun jj u hj => (hC.out.drew.trans hw').cell (f6 jj u hj) (fun h => h)) hx
      clear f1 f2 f3 f4 f5 f6 hx
      have ik : (k : Int) < n := by omega
      go_wp2_with fail
      refine wpT.begin (fun _ => False) 9 (by kernel_rfl) rfl ?_
      refine wpT.take 0 rfl (by kernel_rfl) (fun _ _ _ h => h) rfl (fun w' hw' => by go_simp <;> with_reducible rfl) ?_
      simp only [Act.put, List.setIfInBounds_toArray, List.set_cons_zero, List.set_cons_succ]
      refine wpT.take 1 rfl (by kernel_rfl) (fun _ _ _ h => h) rfl (fun w' hw' => by go_simp <;> with_reducible rfl) ?_
      simp only [Act.put, List.setIfInBounds_toArray, List.set_cons_zero, List.set_cons_succ]
      refine wpT.take 2 rfl (by kernel_rfl) (fun _ _ _ h => h) rfl (fun w' hw' => by go_simp <;> with_reducible rfl) ?_
      simp only [Act.put, List.setIfInBounds_toArray, List.set_cons_zero, List.set_cons_succ]
      refine wpT.take 3 rfl (by kernel_rfl) (fun _ _ _ h => h) rfl (fun w' hw' => exec_load _ _ _ _ rfl rfl (LA.out w' hw')) ?_
      simp only [Act.put, List.setIfInBounds_toArray, List.set_cons_zero, List.set_cons_succ]
      refine wpT.take 4 rfl (by kernel_rfl) (fun _ _ _ h => h) rfl (fun w' hw' => by go_simp <;> with_reducible rfl) ?_
      simp only [Act.put, List.setIfInBounds_toArray, List.set_cons_zero, List.set_cons_succ]
      refine wpT.take 5 rfl (by kernel_rfl) (fun _ _ _ h => h) rfl (fun w' hw' => by go_simp <;> with_reducible rfl) ?_
      simp only [Act.put, List.setIfInBounds_toArray, List.set_cons_zero, List.set_cons_succ]
      refine wpT.take 6 rfl (by kernel_rfl) (fun _ _ _ h => h) rfl (fun w' hw' => by go_simp <;> with_reducible rfl) ?_
      simp only [Act.put, List.setIfInBounds_toArray, List.set_cons_zero, List.set_cons_succ]
      refine wpT.take 7 rfl (by kernel_rfl) (fun _ _ _ h => h) rfl (fun w' hw' => exec_load _ _ _ _ rfl rfl (LB.out w' hw')) ?_
      simp only [Act.put, List.setIfInBounds_toArray, List.set_cons_zero, List.set_cons_succ]
      refine wpT.take (v := .bool false) 8 rfl (by kernel_rfl) (fun _ _ _ h => h) rfl (fun w' hw' => exec_neq _ _ _ _ rfl _ _ _ rfl rfl (by go_simp) (neq_pt w' x)) ?_
      simp only [Act.put, List.setIfInBounds_toArray, List.set_cons_zero, List.set_cons_succ]
      refine wpT.done (by kernel_rfl) ?_
      go_wp2_with fail
      exact ⟨⟨k + 1, by omega, rfl, hC.out.drew⟩, by simp only [intOf]; omega⟩
    · obtain rfl : k = n := by omega
      obtain ⟨wo, rfl⟩ : ∃ wo, wo = wr := ⟨_, rfl⟩
      have CWo : Hid (Chg (fun _ => False) W wo) := CW3.out.trans hC.out
      clear O23 O33 M1 M2 M3 M4
      go_wp2_with fail
      go_loopw [9] (fun tv wr => ∃ t : Nat, 1 ≤ t ∧ t ≤ 3 ∧ tv = .int .i64 t ∧ Hid (Chg (fun _ => False) W wr)) (fun tv _ => 3 - (intOf tv).toNat)
      case atStart => exact ⟨1, by omega, by omega, rfl, CWo.out⟩
      case round =>
        obtain ⟨t, ht1, ht2, rfl, hCt⟩ := hrel
        by_cases htl : t ≤ 2
        · have it : (t : Int) ≤ 2 := by omega
          obtain ⟨wp, rfl⟩ : ∃ wp, wp = wr := ⟨_, rfl⟩
          have A1 := Lib.hid (aggs_c wp.drew F1 R1 s t (by omega) 0 2305843009213693952 (H1.out.same hCt.out.drew))
          obtain ⟨Q, hQ⟩ : ∃ Q, Q = (s.agg t).filter (mtR t 0 2305843009213693952) := ⟨_, rfl⟩
          have hQl : Q.length ≤ 256 := by rw [hQ]; exact Nat.le_trans (List.length_filter_le _ _) (H1.out.inv.mkOk t (by omega)).2.1
          rw [← hQ] at A1
          have HQ := Lib.hid hQ
          obtain ⟨q, hq⟩ : ∃ q, q = Q.length := ⟨_, rfl⟩
          have HQN := Lib.hid hq
          rw [← hq] at hQl
          have HBp : Hid (wp.drew.heap[w.heap.size]? = some (.cells #[.int .i64 0, .int .i64 2305843009213693952] 24 (0, 0))) := hCt.out.heap HB.out (fun h => h)
          clear hQ hq
          go_wp2_with fail
          refine wpT.begin (fun _ => False) 10 (by kernel_rfl) rfl ?_
          refine wpT.take 0 rfl (by kernel_rfl) (fun _ _ _ h => h) rfl (fun w' hw' => by go_simp <;> with_reducible rfl) ?_
          simp only [Act.put, List.setIfInBounds_toArray, List.set_cons_zero, List.set_cons_succ]
          refine wpT.take 1 rfl (by kernel_rfl) (fun _ _ _ h => h) rfl (fun w' hw' => by go_simp <;> with_reducible rfl) ?_
          simp only [Act.put, List.setIfInBounds_toArray, List.set_cons_zero, List.set_cons_succ]
          refine wpT.take 2 rfl (by kernel_rfl) (fun _ _ _ h => h) rfl (fun w' hw' => exec_load _ _ _ _ rfl rfl (load_rng (hw'.heap HBp.out (fun h => h)))) ?_
          simp only [Act.put, List.setIfInBounds_toArray, List.set_cons_zero, List.set_cons_succ]
          refine wpT.take 4 rfl (by kernel_rfl) (fun _ _ _ h => h) rfl (fun w' hw' => by go_simp <;> with_reducible rfl) ?_
          simp only [Act.put, List.setIfInBounds_toArray, List.set_cons_zero, List.set_cons_succ]
          refine wpT.take 5 rfl (by kernel_rfl) (fun _ _ _ h => h) rfl (fun w' hw' => by go_simp <;> with_reducible rfl) ?_
          simp only [Act.put, List.setIfInBounds_toArray, List.set_cons_zero, List.set_cons_succ]
          refine wpT.take 6 rfl (by kernel_rfl) (fun _ _ _ h => h) rfl (fun w' hw' => exec_load _ _ _ _ rfl rfl (load_rng (hw'.heap HBp.out (fun h => h)))) ?_
          simp only [Act.put, List.setIfInBounds_toArray, List.set_cons_zero, List.set_cons_succ]
          refine wpT.call 3 rfl (by kernel_rfl) rfl (fun K hK => ?_)
          go_wp2_with fail
          refine (A1.out).mono ?_
          rintro e w4 ⟨vv, rfl, oo, ff, cc⟩
          have D2 : Hid (Chg (fun _ => False) _ _) := cc
          obtain ⟨va4, vc4, hv4⟩ := Owns.form oo
          rw [← HQN.out] at hv4
          have O4 : Hid (OAgs w4 (.slice va4 q vc4) Q) := by rw [← hv4]; exact oo
          have A2 := aggs_c w4 F2 R2 s t (by omega) 0 2305843009213693952 (H2.out.same (hCt.out.drew.trans cc))
          rw [← HQ.out] at A2
          have A2 := Lib.hid A2
          have HB4 : Hid (w4.heap[w.heap.size]? = some (.cells #[.int .i64 0, .int .i64 2305843009213693952] 24 (0, 0))) := cc.heap HBp.out (fun h => h)
          subst hv4
          refine hK _ _ cc ?_
          clear hK oo ff cc
          try (simp only [Act.put, List.setIfInBounds_toArray, List.set_cons_zero, List.set_cons_succ])
          refine wpT.call 7 rfl (by kernel_rfl) rfl (fun K hK => ?_)
          go_wp2_with fail
          refine (A2.out).mono ?_
          rintro e w5 ⟨vv, rfl, oo, ff, cc⟩
          have D3 : Hid (Chg (fun _ => False) _ _) := cc
          obtain ⟨va5, vc5, hv5⟩ := Owns.form oo
          rw [← HQN.out] at hv5
          have O5 : Hid (OAgs w5 (.slice va5 q vc5) Q) := by rw [← hv5]; exact oo
          subst hv5
          refine hK _ _ cc ?_
          clear hK oo ff cc
          try (simp only [Act.put, List.setIfInBounds_toArray, List.set_cons_zero, List.set_cons_succ])
          refine wpT.take 8 rfl (by kernel_rfl) (fun _ _ _ h => h) rfl (fun w' hw' => by go_simp <;> with_reducible rfl) ?_
          simp only [Act.put, List.setIfInBounds_toArray, List.set_cons_zero, List.set_cons_succ]
          refine wpT.take 9 rfl (by kernel_rfl) (fun _ _ _ h => h) rfl (fun w' hw' => by go_simp <;> with_reducible rfl) ?_
          simp only [Act.put, List.setIfInBounds_toArray, List.set_cons_zero, List.set_cons_succ]
          refine wpT.done (by kernel_rfl) ?_
          have CP3 : Hid (Chg (fun _ => False) W w5) := hCt.out.drew.trans (D2.out.trans D3.out)
          have O23 : Hid (Ags w5 (.slice va4 q vc4) Q) := Reads.kept O4.out.reads D3.out (fun _ _ h => h)
          have O33 : Hid (Ags w5 (.slice va5 q vc5) Q) := O5.out.reads
          go_wp2_with fail
          go_loopw [73] (fun ci wr => ∃ k : Nat, k ≤ q ∧ ci = .int .i64 k ∧ Hid (Chg (fun _ => False) w5 wr)) (fun ci _ => q - (intOf ci).toNat)
          case atStart => exact ⟨0, by omega, rfl, Chg.refl _ _⟩
          case round =>
            obtain ⟨k, hk, rfl, hC⟩ := hrel
            by_cases hlt : k < q
            · obtain ⟨x, hx⟩ := at_lt (show k < Q.length by rw [← HQN.out]; exact hlt)
              obtain ⟨ga, oa, rfl, f1, f2, f3⟩ := reads_some (n := q) (by have := O23.out; unfold Ags at this; rw [← HQN.out] at this; exact this) (by omega)
              obtain ⟨gb, ob, rfl, f4, f5, f6⟩ := reads_some (n := q) (by have := O33.out; unfold Ags at this; rw [← HQN.out] at this; exact this) (by omega)
              have LA : Hid (∀ w', Chg (fun _ => False) wr.drew w' → _) := fun w' hw' => load_agE w' (fun jj u hj => (hC.out.drew.trans hw').cell (f3 jj u hj) (fun h => h)) hx
              have LB : Hid (∀ w', Chg (fun _ => False) wr.drew w' → _) := fun w' hw' => load_agE w' (fun jj u hj => (hC.out.drew.trans hw').cell (f6 jj u hj) (fun h => h)) hx
              clear f1 f2 f3 f4 f5 f6 hx
              have ik : (k : Int) < q := by omega
              go_wp2_with fail
              refine wpT.begin (fun _ => False) 9 (by kernel_rfl) rfl ?_
              refine wpT.take 0 rfl (by kernel_rfl) (fun _ _ _ h => h) rfl (fun w' hw' => by go_simp <;> with_reducible rfl) ?_
              simp only [Act.put, List.setIfInBounds_toArray, List.set_cons_zero, List.set_cons_succ]
              refine wpT.take 1 rfl (by kernel_rfl) (fun _ _ _ h => h) rfl (fun w' hw' => by go_simp <;> with_reducible rfl) ?_
              simp only [Act.put, List.setIfInBounds_toArray, List.set_cons_zero, List.set_cons_succ]
              refine wpT.take 2 rfl (by kernel_rfl) (fun _ _ _ h => h) rfl (fun w' hw' => by go_simp <;> with_reducible rfl) ?_
              simp only [Act.put, List.setIfInBounds_toArray, List.set_cons_zero, List.set_cons_succ]
              refine wpT.take 3 rfl (by kernel_rfl) (fun _ _ _ h => h) rfl (fun w' hw' => exec_load _ _ _ _ rfl rfl (LA.out w' hw')) ?_
              simp only [Act.put, List.setIfInBounds_toArray, List.set_cons_zero, List.set_cons_succ]
              refine wpT.take 4 rfl (by kernel_rfl) (fun _ _ _ h => h) rfl (fun w' hw' => by go_simp <;> with_reducible rfl) ?_
              simp only [Act.put, List.setIfInBounds_toArray, List.set_cons_zero, List.set_cons_succ]
              refine wpT.take 5 rfl (by kernel_rfl) (fun _ _ _ h => h) rfl (fun w' hw' => by go_simp <;> with_reducible rfl) ?_
              simp only [Act.put, List.setIfInBounds_toArray, List.set_cons_zero, List.set_cons_succ]
              refine wpT.take 6 rfl (by kernel_rfl) (fun _ _ _ h => h) rfl (fun w' hw' => by go_simp <;> with_reducible rfl) ?_
              simp only [Act.put, List.setIfInBounds_toArray, List.set_cons_zero, List.set_cons_succ]
              refine wpT.take 7 rfl (by kernel_rfl) (fun _ _ _ h => h) rfl (fun w' hw' => exec_load _ _ _ _ rfl rfl (LB.out w' hw')) ?_
              simp only [Act.put, List.setIfInBounds_toArray, List.set_cons_zero, List.set_cons_succ]
              refine wpT.take (v := .bool false) 8 rfl (by kernel_rfl) (fun _ _ _ h => h) rfl (fun w' hw' => exec_neq _ _ _ _ rfl _ _ _ rfl rfl (by go_simp) (neq_ag w' x)) ?_
              simp only [Act.put, List.setIfInBounds_toArray, List.set_cons_zero, List.set_cons_succ]
              refine wpT.done (by kernel_rfl) ?_
              go_wp2_with fail
              exact ⟨⟨k + 1, by omega, rfl, hC.out.drew⟩, by simp only [intOf]; omega⟩
            · obtain rfl : k = q := by omega
              have hC2 : Hid (Chg (fun _ => False) W wr) := CP3.out.trans hC.out
              have hw1 : IntKind.i64.wrap ((t : Int) + 1) = ((t + 1 : Nat) : Int) := by rw [IntWalk.i64_in _ (by omega)]; omega
              have hw2 : wrap64 ((t : Int) + 1) = ((t + 1 : Nat) : Int) := by unfold wrap64; omega
              go_wp2_with fail
              exact ⟨⟨t + 1, by omega, by omega, rfl, hC2.out⟩, by simp only [intOf]; omega⟩
        · have it : ¬ (t : Int) ≤ 2 := by omega
          go_wp2_with fail
          go_ret
          exact ⟨rfl, CW.out.trans hCt.out⟩
end Go.Proofs.Ytmnnahkaenikkaa
