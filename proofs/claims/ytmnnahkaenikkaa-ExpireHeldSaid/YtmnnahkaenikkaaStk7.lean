/- Stock.rolled. -/
import Derived.Test.YtmnnahkaenikkaaStk6
namespace Go.Proofs.Ytmnnahkaenikkaa
open Go.RowKit Go.Cat
theorem soon_not {s : St} {t : Nat} {m : Int} (hm : m = s.mk_ t) {to : Int} (h : m < to) : ¬ to ≤ s.mk_ t := by omega
theorem meas_r {to a b : Int} (h1 : a < to) (h2 : a < b) : (to - b).toNat < (to - a).toNat := by omega
theorem push_len (s : St) (t : Nat) (ht : t = 1 ∨ t = 2) (l : List Ag) (m : Int) : (s.tier t l m).agg t = l ∧ (s.tier t l m).mk_ t = m := by
  rcases ht with rfl | rfl <;> exact ⟨rfl, rfl⟩
theorem wrap_one {a : Int} (h0 : 0 ≤ a) (h1 : a ≤ 256) : wrap64 (a + 1) = a + 1 := by unfold wrap64; omega
set_option maxRecDepth 100000 in
set_option maxHeartbeats 4000000 in
theorem rolled1_c (w : World) (F : Nat → Prop) (R : Nat) (s : St) (to : Int) (h : StIs w F R s) (hto : to % wid 1 = 0) (hto2 : to ≤ 1099511627776) :
    Calls Try.prog 56 #[.pointer (some ⟨R, 0, none⟩), .int .i64 1, .int .i64 to] w fun e w' => e = .returned (.tuple #[.int .i64 (rolledS 1 to s).2.1, .int .i64 (rolledS 1 to s).2.2]) ∧ StIs w' (ext F w w') R (rolledS 1 to s).1 ∧ Chg F w w' := by
  obtain ⟨RS, hRS⟩ : ∃ RS, RS = rolledS 1 to s := ⟨_, rfl⟩
  rw [← hRS]
  have HS0 := Lib.hid h
  have HR0 : Hid (rolledF (to - s.mk_ 1).toNat 1 to s 0 = RS) := hRS.symm
  have HTO := Lib.hid hto
  have hle : Hid (0 ≤ ((s.agg 1).length : Int)) := by show (0 : Int) ≤ _; omega
  clear hRS h hto
  go_enter Try.func56, Try.ntmps56
  go_wp2_with fail
  go_loopw [8] (fun mv wr => ∃ (f : Nat) (s' : St) (md : Int), mv = .int .i64 md ∧ Hid (StIs wr (ext F w wr) R s') ∧ Hid (rolledF f 1 to s' md = RS) ∧ Hid ((to - s'.mk_ 1).toNat ≤ f) ∧ Hid (Chg F w wr) ∧ Hid (0 ≤ md ∧ md ≤ ((s'.agg 1).length : Int))) (fun _ wr => (to - mkAt wr R 5).toNat)
  case atStart => exact ⟨_, s, 0, rfl, HS0.out.ext, HR0.out, Nat.le_refl _, Chg.refl _ _, by omega, hle.out⟩
  case round =>
    obtain ⟨f, s', md, rfl, hS, hRes, hFu, hC, hMd⟩ := hrel
    clear HS0 HR0 hle
    obtain ⟨R1, vr, vm, vl, hA⟩ := hS.out
    have hinv := hA.inv
    obtain ⟨qm, fm, qa, fa⟩ := hA.mark 1 (by omega)
    replace qm : wr.cell? ⟨R, 5, none⟩ = some (.int .i64 (s'.mk_ 1)) := qm
    have hmk : mkAt wr R 5 = s'.mk_ 1 := hS.out.mkAt 1 (by omega)
    obtain ⟨i1, i2, i3, i4⟩ := hinv.mkOk 1 (by omega)
    obtain ⟨m, hm⟩ : ∃ m, m = s'.mk_ 1 := ⟨_, rfl⟩
    rw [← hm] at qm i3 i4 hmk
    have HM := Lib.hid hm
    have HA := Lib.hid hA
    have HINV := Lib.hid hinv
    have I1 := Lib.hid i1
    have HMK := Lib.hid hmk
    clear hA hinv hm i1 fm qa fa hmk
    by_cases hlt : m < to
    · have hn1 : ¬ to ≤ s'.mk_ 1 := soon_not HM.out hlt
      obtain ⟨f', rfl⟩ : ∃ f', f = f' + 1 := ⟨f - 1, by have := hFu.out; omega⟩
      have SC := soon_c wr (ext F w wr) R s' 1 (by omega) hS.out
      have SMEM := Lib.hid (fun nx => soon_mem (t := 1) (nx := nx) HINV.out)
      cases hs : s'.soon 1 with
      | none =>
        rw [hs] at SC
        have SC := Lib.hid SC
        have E1 : Hid ((s'.setM 1 to, md, 0) = RS) := (rolled_none hn1 hs).symm.trans hRes.out
        have hiv : Hid (Inv (s'.setM 1 to)) := by
          rw [setM_tier]
          exact HINV.out.tier 1 (by omega) (I1.out.mono (by have := HM.out; omega)) i2 ⟨by omega, hto2⟩
        clear hs hn1 SMEM hRes
        go_wp2_with fail
        refine SC.out.mono ?_
        rintro e w1 ⟨rfl, c1⟩
        unfold optT
        have hA1 := HA.out.kept c1 (fun _ _ h => h)
        obtain ⟨qm1, fm1, -⟩ := hA1.mark 1 (by omega)
        replace qm1 : w1.cell? ⟨R, 5, none⟩ = some (.int .i64 (s'.mk_ 1)) := qm1
        replace fm1 : w1.frozen? ⟨R, 5, none⟩ = false := fm1
        obtain ⟨k1, k2⟩ := hA1.setm 1 (by omega) hiv.out
        have K1 := Lib.hid k1
        have K2 := Lib.hid k2
        have C1 := Lib.hid c1
        clear hA1 k1 k2 c1 qm
        go_wp2_with fail
        go_ret2
        have z1 := hC.out.size
        have z2 := C1.out.size
        have z3 := K2.out.size
        exact ⟨by rw [← E1.out]; rfl, by rw [← E1.out]; exact ext_two (b := w1) (by omega) z3 (ext_two2 (by omega) z2 K1.out), hC.out.trans_ext (C1.out.mono (fun _ _ h => h.elim) |>.trans (K2.out))⟩
      | some nx =>
        rw [hs] at SC
        have SC := Lib.hid SC
        obtain ⟨n1, n2, n3⟩ := SMEM.out nx hs
        clear SMEM
        by_cases hnx : to ≤ nx
        · have E1 : Hid ((s'.setM 1 to, md, 0) = RS) := (rolled_past hn1 hs hnx).symm.trans hRes.out
          have hiv : Hid (Inv (s'.setM 1 to)) := by
            rw [setM_tier]
            exact HINV.out.tier 1 (by omega) (I1.out.mono (by have := HM.out; omega)) i2 ⟨by omega, hto2⟩
          clear hs hn1 hRes
          go_wp2_with fail
          refine SC.out.mono ?_
          rintro e w1 ⟨rfl, c1⟩
          unfold optT
          have hA1 := HA.out.kept c1 (fun _ _ h => h)
          obtain ⟨qm1, fm1, -⟩ := hA1.mark 1 (by omega)
          replace qm1 : w1.cell? ⟨R, 5, none⟩ = some (.int .i64 (s'.mk_ 1)) := qm1
          replace fm1 : w1.frozen? ⟨R, 5, none⟩ = false := fm1
          obtain ⟨k1, k2⟩ := hA1.setm 1 (by omega) hiv.out
          have K1 := Lib.hid k1
          have K2 := Lib.hid k2
          have C1 := Lib.hid c1
          clear hA1 k1 k2 c1 qm
          go_wp2_with fail
          go_ret2
          have z1 := hC.out.size
          have z2 := C1.out.size
          have z3 := K2.out.size
          exact ⟨by rw [← E1.out]; rfl, by rw [← E1.out]; exact ext_two (b := w1) (by omega) z3 (ext_two2 (by omega) z2 K1.out), hC.out.trans_ext (C1.out.mono (fun _ _ h => h.elim) |>.trans (K2.out))⟩
        · obtain ⟨w0, w1x, w2x⟩ := wst_le (t := 1) n2
          have hwn := wst_next HTO.out (show nx < to by omega)
          obtain ⟨x, hx⟩ : ∃ x, x = wst 1 nx := ⟨_, rfl⟩
          have OC := Lib.hid (fun W => of_c W 1 nx (by omega) n2 (by omega))
          rw [← hx] at w0 w1x w2x hwn OC
          have HX := Lib.hid hx
          have hwp := wid_pos 1
          obtain ⟨y, hy⟩ : ∃ y, y = x + wid 1 := ⟨_, rfl⟩
          rw [← hy] at OC hwn w2x
          have HWIN : Hid ((s'.of 1 x y).getD Ag.zero = s'.win 1 nx) := by show _ = _; rw [hy, hx]; rfl
          obtain ⟨z, hz⟩ : ∃ z, z = s'.win 1 nx := ⟨_, rfl⟩
          obtain ⟨b, hb⟩ : ∃ b, b = (s'.of 1 x y).isSome := ⟨_, rfl⟩
          have hzt : z.tk = x ∨ z.tk = 0 := by rw [hz, hx]; exact win_tk s' 1 nx n2
          have SO : Hid (∀ W (G : Nat → Prop), StIs W G R s' → Calls Try.prog 80 #[.pointer (some ⟨R, 0, none⟩), .int .i64 1, .agg #[.int .i64 x, .int .i64 y]] W fun e w' => e = .returned (.tuple #[.agg #[.int .i64 z.tk, .int .i64 z.cnt, .int .i64 z.sum, .int .i64 z.mn, .int .i64 z.mx], .bool b]) ∧ Chg (fun _ => False) W w') := fun W G hG => by
            have := stof_c W G R s' 1 (by omega) x y hG
            rw [aggO_eq, HWIN.out, ← hz, ← hb] at this
            exact this
          have HZ := Lib.hid hz
          have HSO := Lib.hid hs
          have HN1 := Lib.hid hn1
          have HY := Lib.hid hy
          clear hx hz hb hs hn1 hy HWIN
          obtain ⟨n, hn⟩ : ∃ n, n = (s'.agg 1).length := ⟨_, rfl⟩
          have HN := Lib.hid hn
          rw [← hn] at i2 hMd
          clear hn
          go_wp2_with fail
          refine SC.out.mono ?_
          rintro e w1 ⟨rfl, c1⟩
          unfold optT
          have C1 := Lib.hid c1
          clear c1 SC
          go_wp2_with fail
          refine (OC.out _).mono ?_
          rintro e w2 ⟨rfl, c2⟩
          have C2 : Hid (Chg (fun _ => False) wr w2) := C1.out.trans c2
          obtain ⟨w3, hw3⟩ : ∃ w3, w3 = w2.alloc (.cells #[.int .i64 x, .int .i64 y] 24) := ⟨_, rfl⟩
          have c3 : Chg (fun _ => False) wr w3 := by rw [hw3]; exact C2.out.alloc _
          have SO3 := Lib.hid (SO.out w3 _ (hS.out.same c3))
          have hr3 : w3.heap[w2.heap.size]? = some (.cells #[.int .i64 x, .int .i64 y] 24 (0, 0)) := by rw [hw3]; exact heap_at_new _ _ _ rfl
          have C3 := Lib.hid c3
          have HR3 := Lib.hid hr3
          clear c2 c3 hr3 SO qm
          go_wp2_with fail
          rw [← hw3]
          refine SO3.out.mono ?_
          rintro e w4 ⟨rfl, c4⟩
          obtain ⟨w5, hw5⟩ : ∃ w5, w5 = w4.alloc (.cells #[.int .i64 z.tk, .int .i64 z.cnt, .int .i64 z.sum, .int .i64 z.mn, .int .i64 z.mx] 58) := ⟨_, rfl⟩
          have c45 : Chg (fun _ => False) w4 w5 := by rw [hw5]; exact (Chg.refl _ w4).alloc _
          have c5 : Chg (fun _ => False) wr w5 := (C3.out.trans c4).trans c45
          have hA5 := HA.out.kept c5 (fun _ _ h => h)
          have hP : AgAt w5 w4.heap.size z := by rw [hw5]; exact ag_new w4 z
          have hr5 := (c4.trans c45).heap HR3.out (fun h => h)
          obtain ⟨qm5, fm5, qa5, fa5⟩ := hA5.mark 1 (by omega)
          replace qm5 : w5.cell? ⟨R, 5, none⟩ = some (.int .i64 (s'.mk_ 1)) := qm5
          replace fm5 : w5.frozen? ⟨R, 5, none⟩ = false := fm5
          replace qa5 : w5.cell? ⟨R, 2, none⟩ = some vm := qa5
          obtain ⟨ho5, -⟩ := hA5.own 1 (by omega)
          replace ho5 : OAgs w5 vm (s'.agg 1) := ho5
          obtain ⟨va, vc, hv⟩ := Owns.form ho5
          rw [← HN.out] at hv
          rw [hv] at qa5
          rw [← HM.out] at qm5
          have qaS := qa5
          rw [hw5] at qaS
          have QM := Lib.hid qm5
          have FM := Lib.hid fm5
          have QA := Lib.hid qa5
          have C5 := Lib.hid c5
          have C34 := Lib.hid c4
          have HA5 := Lib.hid hA5
          have HP := Lib.hid hP
          have HR5 := Lib.hid hr5
          have HW5 := Lib.hid hw5
          have HV := Lib.hid hv
          have HO5 : Hid (Owns w5 5 (.slice va n vc) n ((s'.agg 1).flatMap Ag.cells)) := by
            have h := ho5
            unfold OAgs at h
            rw [hv, ← HN.out] at h
            exact h
          clear c4 c45 c5 hA5 hP hr5 qm5 fm5 qa5 fa5 ho5 hw5 hv hw3
          by_cases hfull : 256 ≤ n
          · have i256 : (256 : Int) ≤ n := by omega
            obtain ⟨mx, hmx⟩ : ∃ mx, mx = (if m < x then x else m) := ⟨_, rfl⟩
            have HMX := Lib.hid hmx.symm
            have E1 : Hid ((s'.setM 1 mx, md, 6) = RS) := by
              rw [hmx, HM.out, HX.out]
              exact (rolled_full (by have := HN1.out; omega) HSO.out (show ¬ to ≤ nx by omega) (by rw [← HN.out]; exact hfull)).symm.trans hRes.out
            have hiv : Hid (Inv (s'.setM 1 mx)) := by
              have hb : m ≤ mx ∧ mx ≤ 1099511627776 := by rw [hmx]; split <;> omega
              rw [setM_tier]
              exact HINV.out.tier 1 (by omega) (I1.out.mono (by have := HM.out; omega)) (by rw [← HN.out]; exact i2) ⟨by omega, hb.2⟩
            have qx : Hid (w5.cell? ⟨w2.heap.size, 0, none⟩ = some (.int .i64 x)) := by show _ = _; rw [cell_of_heap HR5.out]; rfl
            obtain ⟨k1, k2⟩ := StAt.setm (w := w5.drew) (HA5.out.kept (Chg.refl (fun _ => False) w5).drew (fun _ _ h => h)) 1 (by omega) hiv.out
            have K1 := Lib.hid k1
            have K2 := Lib.hid k2
            clear hmx k1 k2 hRes
            go_wp2_with fail
            rw [← HW5.out]
            clear qaS
            refine wpZ.begin 14 (fun _ => False) 15 (by kernel_rfl) rfl ?_
            refine wpZ.take 0 rfl (by kernel_rfl) (fun _ _ _ h => h) rfl (fun w' hw' => by go_simp <;> with_reducible rfl) ?_
            simp only [Act.put, List.setIfInBounds_toArray, List.set_cons_zero, List.set_cons_succ]
            refine wpZ.take 1 rfl (by kernel_rfl) (fun _ _ _ h => h) rfl (fun w' hw' => by go_simp <;> with_reducible rfl) ?_
            simp only [Act.put, List.setIfInBounds_toArray, List.set_cons_zero, List.set_cons_succ]
            refine wpZ.take 2 rfl (by kernel_rfl) (fun _ _ _ h => h) rfl (fun w' hw' => by go_simp <;> with_reducible rfl) ?_
            simp only [Act.put, List.setIfInBounds_toArray, List.set_cons_zero, List.set_cons_succ]
            refine wpZ.take 3 rfl (by kernel_rfl) (fun _ _ _ h => h) rfl (fun w' hw' => by go_simp <;> with_reducible rfl) ?_
            simp only [Act.put, List.setIfInBounds_toArray, List.set_cons_zero, List.set_cons_succ]
            refine wpZ.take 4 rfl (by kernel_rfl) (fun _ _ _ h => h) rfl (fun w' hw' => by go_simp <;> with_reducible rfl) ?_
            simp only [Act.put, List.setIfInBounds_toArray, List.set_cons_zero, List.set_cons_succ]
            refine wpZ.take 5 rfl (by kernel_rfl) (fun _ _ _ h => h) rfl (fun w' hw' => by go_simp <;> with_reducible rfl) ?_
            simp only [Act.put, List.setIfInBounds_toArray, List.set_cons_zero, List.set_cons_succ]
            refine wpZ.take 6 rfl (by kernel_rfl) (fun _ _ _ h => h) rfl (fun w' hw' => by go_simp <;> with_reducible rfl) ?_
            simp only [Act.put, List.setIfInBounds_toArray, List.set_cons_zero, List.set_cons_succ]
            refine wpZ.ld 7 rfl (by kernel_rfl) (fun _ _ _ _ h => h) rfl _ _ rfl (by kernel_rfl) ⟨R, 5, none⟩ rfl _ (QM.out) (fun h => h) ?_
            simp only [Act.put, List.setIfInBounds_toArray, List.set_cons_zero, List.set_cons_succ]
            refine wpZ.take 8 rfl (by kernel_rfl) (fun _ _ _ h => h) rfl (fun w' hw' => by go_simp <;> with_reducible rfl) ?_
            simp only [Act.put, List.setIfInBounds_toArray, List.set_cons_zero, List.set_cons_succ]
            refine wpZ.ld 9 rfl (by kernel_rfl) (fun _ _ _ _ h => h) rfl _ _ rfl (by kernel_rfl) ⟨w2.heap.size, 0, none⟩ rfl _ (qx.out) (fun h => h) ?_
            simp only [Act.put, List.setIfInBounds_toArray, List.set_cons_zero, List.set_cons_succ]
            refine wpZ.take (v := .int .i64 mx) 10 rfl (by kernel_rfl) (fun _ _ _ h => h) rfl (fun w' hw' => exec_max2 _ _ _ rfl _ _ rfl rfl _ HMX.out) ?_
            simp only [Act.put, List.setIfInBounds_toArray, List.set_cons_zero, List.set_cons_succ]
            refine wpZ.take 11 rfl (by kernel_rfl) (fun _ _ _ h => h) rfl (fun w' hw' => by go_simp <;> with_reducible rfl) ?_
            simp only [Act.put, List.setIfInBounds_toArray, List.set_cons_zero, List.set_cons_succ]
            refine wpZ.take 12 rfl (by kernel_rfl) (fun _ _ _ h => h) rfl (fun w' hw' => by go_simp <;> with_reducible rfl) ?_
            simp only [Act.put, List.setIfInBounds_toArray, List.set_cons_zero, List.set_cons_succ]
            refine wpZ.take 13 rfl (by kernel_rfl) (fun _ _ _ h => h) rfl (fun w' hw' => by go_simp <;> with_reducible rfl) ?_
            simp only [Act.put, List.setIfInBounds_toArray, List.set_cons_zero, List.set_cons_succ]
            refine wpZ.last1 rfl (by kernel_rfl) (by kernel_rfl) rfl _ _ _ rfl (by kernel_rfl) (⟨R, 5, none⟩) rfl (.int .i64 mx) rfl (.int .i64 m) (QM.out) (FM.out) rfl ?_
            simp only [Act.put, List.setIfInBounds_toArray, List.set_cons_zero, List.set_cons_succ]
            go_wp2_with fail
            go_ret2
            have z1 := hC.out.size
            have z2 := C5.out.size
            have z3 := K2.out.size
            exact ⟨by rw [← E1.out]; rfl, by rw [← E1.out]; exact ext_two (b := w5.drew) (by show w.heap.size ≤ w5.heap.size; omega) z3 (ext_two2 (by omega) z2 K1.out), hC.out.trans_ext ((C5.out.drew.mono (fun _ _ h => h.elim)).trans K2.out)⟩
          · have i256 : ¬ (256 : Int) ≤ n := by omega
            have E1 : Hid (rolledF f' 1 to (s'.tier 1 (s'.agg 1 ++ [z]) y) (md + 1) = RS) := by
              rw [HZ.out, HY.out, HX.out]
              exact (rolled_step (by have := HN1.out; omega) HSO.out (show ¬ to ≤ nx by omega) (by rw [← HN.out]; exact hfull)).symm.trans hRes.out
            have hiv : Hid (Inv (s'.tier 1 (s'.agg 1 ++ [z]) y)) := by
              refine HINV.out.tier 1 (by omega) (I1.out.push (by have := HM.out; omega) (by omega) (by have := HY.out; omega) ?_) (by rw [List.length_append, ← HN.out]; simp; omega) ⟨by omega, by omega⟩
              rcases hzt with e | e
              · rw [e, HX.out]; exact wst_mod _ _
              · rw [e]; simp
            have qy : Hid (w5.cell? ⟨w2.heap.size, 1, none⟩ = some (.int .i64 y)) := by show _ = _; rw [cell_of_heap HR5.out]; rfl
            have hvR : Hid (∀ k, (Value.slice va n vc).ownBlock = some k → k ≠ R ∧ k < wr.heap.size) := fun k hk => by
              have h1 := (HA.out.own 1 (by omega)).2 k (by rw [show (if 1 = 1 then vm else vl) = vm from rfl, HV.out]; exact hk)
              exact ⟨h1.1, Owns.lt (HA.out.own 1 (by omega)).1 k (by rw [show (if 1 = 1 then vm else vl) = vm from rfl, HV.out]; exact hk)⟩
            have hz24 : Hid (wr.heap.size ≤ w2.heap.size ∧ wr.heap.size ≤ w4.heap.size) := by
              have h1 := C2.out.size
              have h2 := C3.out.size
              refine ⟨h1, ?_⟩
              have h3 : w5.heap.size = w4.heap.size + 1 := by rw [HW5.out]; simp
              have h4 := HP.out.lt
              have h5 : w2.heap.size < w3.heap.size := (Array.getElem?_eq_some_iff.1 HR3.out).1
              have h6 := (Array.getElem?_eq_some_iff.1 HR5.out).1
              have h7 := C34.out.size
              omega
            have hl9 : AgAt w5.drew w4.heap.size z := HP.out
            have HL9 := Lib.hid hl9
            have hP9 := Lib.hid (fun (w7 : World) (v' : Value) => StAt.pushm (w := w5.drew) (w7 := w7) (v' := v') (HA5.out.kept (Chg.refl (fun _ => False) w5).drew (fun _ _ h => h)) 1 (by omega) (l := s'.agg 1 ++ [z]) (m := y))
            clear hRes hl9
            go_wp2_with fail
            rw [← HW5.out]
            clear qaS
            refine wpZ.begin 14 (fun k => (Value.slice va n vc).ownBlock = some k) 15 (by kernel_rfl) rfl ?_
            refine wpZ.take 0 rfl (by kernel_rfl) (fun _ _ _ h => h) rfl (fun w' hw' => by go_simp <;> with_reducible rfl) ?_
            simp only [Act.put, List.setIfInBounds_toArray, List.set_cons_zero, List.set_cons_succ]
            refine wpZ.take 1 rfl (by kernel_rfl) (fun _ _ _ h => h) rfl (fun w' hw' => by go_simp <;> with_reducible rfl) ?_
            simp only [Act.put, List.setIfInBounds_toArray, List.set_cons_zero, List.set_cons_succ]
            refine wpZ.take 2 rfl (by kernel_rfl) (fun _ _ _ h => h) rfl (fun w' hw' => by go_simp <;> with_reducible rfl) ?_
            simp only [Act.put, List.setIfInBounds_toArray, List.set_cons_zero, List.set_cons_succ]
            refine wpZ.take 3 rfl (by kernel_rfl) (fun _ _ _ h => h) rfl (fun w' hw' => by go_simp <;> with_reducible rfl) ?_
            simp only [Act.put, List.setIfInBounds_toArray, List.set_cons_zero, List.set_cons_succ]
            refine wpZ.take 4 rfl (by kernel_rfl) (fun _ _ _ h => h) rfl (fun w' hw' => by go_simp <;> with_reducible rfl) ?_
            simp only [Act.put, List.setIfInBounds_toArray, List.set_cons_zero, List.set_cons_succ]
            refine wpZ.take 5 rfl (by kernel_rfl) (fun _ _ _ h => h) rfl (fun w' hw' => by go_simp <;> with_reducible rfl) ?_
            simp only [Act.put, List.setIfInBounds_toArray, List.set_cons_zero, List.set_cons_succ]
            refine wpZ.take 6 rfl (by kernel_rfl) (fun _ _ _ h => h) rfl (fun w' hw' => by go_simp <;> with_reducible rfl) ?_
            simp only [Act.put, List.setIfInBounds_toArray, List.set_cons_zero, List.set_cons_succ]
            refine wpZ.ld 7 rfl (by kernel_rfl) (fun _ _ _ _ h => h) rfl _ _ rfl (by kernel_rfl) ⟨R, 2, none⟩ rfl _ (QA.out) (fun h => ((hvR.out _ h).1 rfl)) ?_
            simp only [Act.put, List.setIfInBounds_toArray, List.set_cons_zero, List.set_cons_succ]
            refine wpZ.take 8 rfl (by kernel_rfl) (fun _ _ _ h => h) rfl (fun w' hw' => exec_load _ _ _ _ rfl rfl ((HL9.out.kept hw' (fun h => by have := (hvR.out _ h).2; have := hz24.out.2; omega)).load)) ?_
            simp only [Act.put, List.setIfInBounds_toArray, List.set_cons_zero, List.set_cons_succ]
            refine wpZ.take 11 rfl (by kernel_rfl) (fun _ _ _ h => h) rfl (fun w' hw' => by go_simp <;> with_reducible rfl) ?_
            simp only [Act.put, List.setIfInBounds_toArray, List.set_cons_zero, List.set_cons_succ]
            refine wpZ.take 12 rfl (by kernel_rfl) (fun _ _ _ h => h) rfl (fun w' hw' => by go_simp <;> with_reducible rfl) ?_
            simp only [Act.put, List.setIfInBounds_toArray, List.set_cons_zero, List.set_cons_succ]
            refine wpZ.call 9 rfl (by kernel_rfl) rfl (fun K hK => ?_)
            refine wp_run _ _ (exec_buildSlice 51 1 0 _ (.agg z.cells.toArray) _ _ rfl rfl (run_buildSlice_one _ _ 58 (.agg #[.int .i64 0, .int .i64 0, .int .i64 0, .int .i64 0, .int .i64 0]) 5 40 Try.underlying51 infoAg z.cells rfl (by omega) (by omega))) ?_
            refine hK _ _ ((Chg.refl _ _).alloc _) ?_
            clear hK
            try (simp only [Act.put, List.setIfInBounds_toArray, List.set_cons_zero, List.set_cons_succ])
            refine wpZ.call 10 rfl (by kernel_rfl) rfl (fun K hK => ?_)
            refine wp_app _ _ 51 rfl 58 (.agg #[.int .i64 0, .int .i64 0, .int .i64 0, .int .i64 0, .int .i64 0]) 5 40 Try.underlying51 infoAg rfl (.slice va n vc) n ((s'.agg 1).flatMap Ag.cells) rfl (HO5.out.drew.alloc _) _ 1 z.cells rfl (Reads.one _ z.cells _) (agone z) (by simp only [maxLen]; omega) (by omega) ?_
            intro v' w7 own7 c7 in7 nn7
            have C57 : Hid (Chg (fun k => (Value.slice va n vc).ownBlock = some k) w5.drew w7) := ((Chg.refl _ w5.drew).alloc _).trans c7
            have O7 : Hid (OAgs w7 v' (s'.agg 1 ++ [z])) := by
              show Owns _ _ _ _ _
              rw [agk_cells, List.length_append, ← HN.out]
              exact own7
            have I7 : Hid (∀ k, v'.ownBlock = some k → (Value.slice va n vc).ownBlock = some k ∨ w5.heap.size ≤ k) := fun k hk => by
              rcases in7 k hk with h | h
              · exact .inl h
              · right; rw [h]; simp
            obtain ⟨va7, vc7, hv7⟩ := own7.form
            have FIN := Lib.hid (hP9.out w7 v' (by exact O7.out) (by show Chg (fun k => (vm).ownBlock = some k) _ _; rw [HV.out]; exact C57.out) (by show ∀ k, v'.ownBlock = some k → (vm).ownBlock = some k ∨ _; rw [HV.out]; exact I7.out) hiv.out)
            obtain ⟨qa7, fa7⟩ := FIN.out.2.1
            have QA7 : Hid (w7.cell? ⟨R, 2, none⟩ = some (.slice va n vc)) := by show _ = _; rw [← HV.out]; exact qa7
            have FA7 : Hid (w7.frozen? ⟨R, 2, none⟩ = false) := fa7
            subst hv7
            refine hK _ _ c7 ?_
            clear hK own7 c7 in7 nn7 qa7 fa7
            try (simp only [Act.put, List.setIfInBounds_toArray, List.set_cons_zero, List.set_cons_succ])
            refine wpZ.take 13 rfl (by kernel_rfl) (fun _ _ _ h => h) rfl (fun w' hw' => by go_simp <;> with_reducible rfl) ?_
            simp only [Act.put, List.setIfInBounds_toArray, List.set_cons_zero, List.set_cons_succ]
            refine wpZ.last1 rfl (by kernel_rfl) (by kernel_rfl) rfl _ _ _ rfl (by kernel_rfl) (⟨R, 2, none⟩) rfl (.slice va7 (n + 1) vc7) rfl (.slice va n vc) (QA7.out) (FA7.out) rfl ?_
            simp only [Act.put, List.setIfInBounds_toArray, List.set_cons_zero, List.set_cons_succ]
            obtain ⟨w8, hw8⟩ : ∃ w8, w8 = w7.setCell ⟨R, 2, none⟩ (.slice va7 (n + 1) vc7) := ⟨_, rfl⟩
            have c58 : Chg (fun k => (Value.slice va n vc).ownBlock = some k ∨ k = R) w5.drew w8 := by
              rw [hw8]
              exact (C57.out.mono (fun _ _ h => .inl h)).setCell (p := ⟨R, 2, none⟩) (fun _ => .inr rfl) _
            have qy8 : Hid (w8.cell? ⟨w2.heap.size, 1, none⟩ = some (.int .i64 y)) := c58.cell qy.out (fun h => by
              rcases h with h | h
              · have h1 : w2.heap.size < wr.heap.size := (hvR.out _ h).2
                have := hz24.out.1
                omega
              · have h : w2.heap.size = R := h
                have := HA.out.lt; have := hz24.out.1; omega)
            obtain ⟨qm8, fm8⟩ := FIN.out.2.2
            have QM8 : Hid (w8.drew.cell? ⟨R, 5, none⟩ = some (.int .i64 (s'.mk_ 1))) := by show _ = _; rw [hw8]; exact qm8
            have FM8 : Hid (w8.drew.frozen? ⟨R, 5, none⟩ = false) := by show _ = _; rw [hw8]; exact fm8
            have FIN : Hid ((StIs (w8.drew.setCell ⟨R, 5, none⟩ (.int .i64 y)) (ext (ext F w wr) w5.drew (w8.drew.setCell ⟨R, 5, none⟩ (.int .i64 y))) R (s'.tier 1 (s'.agg 1 ++ [z]) y) ∧ Chg (ext F w wr) w5.drew (w8.drew.setCell ⟨R, 5, none⟩ (.int .i64 y))) ∧ True) := by
              rw [hw8]; exact ⟨FIN.out.1, trivial⟩
            have HW8 := Lib.hid hw8
            clear c58 qm8 fm8 hw8 hP9
            go_wp2_with fail
            rw [← HW8.out]
            refine wpZ.begin 7 (fun _ => False) 8 (by kernel_rfl) rfl ?_
            refine wpZ.take 0 rfl (by kernel_rfl) (fun _ _ _ h => h) rfl (fun w' hw' => by go_simp <;> with_reducible rfl) ?_
            simp only [Act.put, List.setIfInBounds_toArray, List.set_cons_zero, List.set_cons_succ]
            refine wpZ.take 1 rfl (by kernel_rfl) (fun _ _ _ h => h) rfl (fun w' hw' => by go_simp <;> with_reducible rfl) ?_
            simp only [Act.put, List.setIfInBounds_toArray, List.set_cons_zero, List.set_cons_succ]
            refine wpZ.take 2 rfl (by kernel_rfl) (fun _ _ _ h => h) rfl (fun w' hw' => by go_simp <;> with_reducible rfl) ?_
            simp only [Act.put, List.setIfInBounds_toArray, List.set_cons_zero, List.set_cons_succ]
            refine wpZ.ld 3 rfl (by kernel_rfl) (fun _ _ _ _ h => h) rfl _ _ rfl (by kernel_rfl) ⟨w2.heap.size, 1, none⟩ rfl _ (qy8.out) (fun h => h) ?_
            simp only [Act.put, List.setIfInBounds_toArray, List.set_cons_zero, List.set_cons_succ]
            refine wpZ.take 4 rfl (by kernel_rfl) (fun _ _ _ h => h) rfl (fun w' hw' => by go_simp <;> with_reducible rfl) ?_
            simp only [Act.put, List.setIfInBounds_toArray, List.set_cons_zero, List.set_cons_succ]
            refine wpZ.take 5 rfl (by kernel_rfl) (fun _ _ _ h => h) rfl (fun w' hw' => by go_simp <;> with_reducible rfl) ?_
            simp only [Act.put, List.setIfInBounds_toArray, List.set_cons_zero, List.set_cons_succ]
            refine wpZ.take 6 rfl (by kernel_rfl) (fun _ _ _ h => h) rfl (fun w' hw' => by go_simp <;> with_reducible rfl) ?_
            simp only [Act.put, List.setIfInBounds_toArray, List.set_cons_zero, List.set_cons_succ]
            refine wpZ.last1 rfl (by kernel_rfl) (by kernel_rfl) rfl _ _ _ rfl (by kernel_rfl) (⟨R, 5, none⟩) rfl (.int .i64 y) rfl (.int .i64 (s'.mk_ 1)) (QM8.out) (FM8.out) rfl ?_
            simp only [Act.put, List.setIfInBounds_toArray, List.set_cons_zero, List.set_cons_succ]
            have hmd := hMd.out
            have hmw := wrap_one hmd.1 (by omega)
            have hmw2 : IntKind.i64.wrap (md + 1) = md + 1 := IntWalk.i64_in _ (by omega)
            go_wp2_with fail
            obtain ⟨p1, p2⟩ := push_len s' 1 (by omega) (s'.agg 1 ++ [z]) y
            have z1 := hC.out.size
            have z2 := C5.out.size
            have z3 := FIN.out.1.2.size
            refine ⟨⟨f', _, md + 1, rfl, ext_two (b := w5.drew) (by show w.heap.size ≤ w5.heap.size; omega) z3 (ext_two2 (by omega) z2 FIN.out.1.1), E1.out, ?_, hC.out.trans_ext ((C5.out.drew.mono (fun _ _ h => h.elim)).trans FIN.out.1.2), ?_⟩, ?_⟩
            · show (to - _).toNat ≤ f'
              rw [p2]
              have := hFu.out
              have := HM.out
              omega
            · show 0 ≤ md + 1 ∧ md + 1 ≤ _
              rw [p1, List.length_append, ← HN.out]
              simp
              omega
            · have e9 := FIN.out.1.1.mkAt 1 (by omega)
              rw [p2] at e9
              have key : ∀ q, q = y → (to - q).toNat < (to - m).toNat := fun q e => by rw [e]; exact meas_r hlt (by have := HM.out; omega)
              rw [HMK.out]
              exact key _ e9
    · have E1 : Hid ((s', md, 0) = RS) := (rolled_done (by have := HM.out; omega)).symm.trans hRes.out
      go_wp2_with fail
      go_ret2
      exact ⟨by rw [← E1.out]; rfl, by rw [← E1.out]; exact hS.out, hC.out⟩
set_option maxRecDepth 100000 in
set_option maxHeartbeats 4000000 in
theorem rolled2_c (w : World) (F : Nat → Prop) (R : Nat) (s : St) (to : Int) (h : StIs w F R s) (hto : to % wid 2 = 0) (hto2 : to ≤ 1099511627776) :
    Calls Try.prog 56 #[.pointer (some ⟨R, 0, none⟩), .int .i64 2, .int .i64 to] w fun e w' => e = .returned (.tuple #[.int .i64 (rolledS 2 to s).2.1, .int .i64 (rolledS 2 to s).2.2]) ∧ StIs w' (ext F w w') R (rolledS 2 to s).1 ∧ Chg F w w' := by
  obtain ⟨RS, hRS⟩ : ∃ RS, RS = rolledS 2 to s := ⟨_, rfl⟩
  rw [← hRS]
  have HS0 := Lib.hid h
  have HR0 : Hid (rolledF (to - s.mk_ 2).toNat 2 to s 0 = RS) := hRS.symm
  have HTO := Lib.hid hto
  have hle : Hid (0 ≤ ((s.agg 2).length : Int)) := by show (0 : Int) ≤ _; omega
  clear hRS h hto
  go_enter Try.func56, Try.ntmps56
  go_wp2_with fail
  go_loopw [8] (fun mv wr => ∃ (f : Nat) (s' : St) (md : Int), mv = .int .i64 md ∧ Hid (StIs wr (ext F w wr) R s') ∧ Hid (rolledF f 2 to s' md = RS) ∧ Hid ((to - s'.mk_ 2).toNat ≤ f) ∧ Hid (Chg F w wr) ∧ Hid (0 ≤ md ∧ md ≤ ((s'.agg 2).length : Int))) (fun _ wr => (to - mkAt wr R 6).toNat)
  case atStart => exact ⟨_, s, 0, rfl, HS0.out.ext, HR0.out, Nat.le_refl _, Chg.refl _ _, by omega, hle.out⟩
  case round =>
    obtain ⟨f, s', md, rfl, hS, hRes, hFu, hC, hMd⟩ := hrel
    clear HS0 HR0 hle
    obtain ⟨R1, vr, vm, vl, hA⟩ := hS.out
    have hinv := hA.inv
    obtain ⟨qm, fm, qa, fa⟩ := hA.mark 2 (by omega)
    replace qm : wr.cell? ⟨R, 6, none⟩ = some (.int .i64 (s'.mk_ 2)) := qm
    have hmk : mkAt wr R 6 = s'.mk_ 2 := hS.out.mkAt 2 (by omega)
    obtain ⟨i1, i2, i3, i4⟩ := hinv.mkOk 2 (by omega)
    obtain ⟨m, hm⟩ : ∃ m, m = s'.mk_ 2 := ⟨_, rfl⟩
    rw [← hm] at qm i3 i4 hmk
    have HM := Lib.hid hm
    have HA := Lib.hid hA
    have HINV := Lib.hid hinv
    have I1 := Lib.hid i1
    have HMK := Lib.hid hmk
    clear hA hinv hm i1 fm qa fa hmk
    by_cases hlt : m < to
    · have hn1 : ¬ to ≤ s'.mk_ 2 := soon_not HM.out hlt
      obtain ⟨f', rfl⟩ : ∃ f', f = f' + 1 := ⟨f - 1, by have := hFu.out; omega⟩
      have SC := soon_c wr (ext F w wr) R s' 2 (by omega) hS.out
      have SMEM := Lib.hid (fun nx => soon_mem (t := 2) (nx := nx) HINV.out)
      cases hs : s'.soon 2 with
      | none =>
        rw [hs] at SC
        have SC := Lib.hid SC
        have E1 : Hid ((s'.setM 2 to, md, 0) = RS) := (rolled_none hn1 hs).symm.trans hRes.out
        have hiv : Hid (Inv (s'.setM 2 to)) := by
          rw [setM_tier]
          exact HINV.out.tier 2 (by omega) (I1.out.mono (by have := HM.out; omega)) i2 ⟨by omega, hto2⟩
        clear hs hn1 SMEM hRes
        go_wp2_with fail
        refine SC.out.mono ?_
        rintro e w1 ⟨rfl, c1⟩
        unfold optT
        have hA1 := HA.out.kept c1 (fun _ _ h => h)
        obtain ⟨qm1, fm1, -⟩ := hA1.mark 2 (by omega)
        replace qm1 : w1.cell? ⟨R, 6, none⟩ = some (.int .i64 (s'.mk_ 2)) := qm1
        replace fm1 : w1.frozen? ⟨R, 6, none⟩ = false := fm1
        obtain ⟨k1, k2⟩ := hA1.setm 2 (by omega) hiv.out
        have K1 := Lib.hid k1
        have K2 := Lib.hid k2
        have C1 := Lib.hid c1
        clear hA1 k1 k2 c1 qm
        go_wp2_with fail
        go_ret2
        have z1 := hC.out.size
        have z2 := C1.out.size
        have z3 := K2.out.size
        exact ⟨by rw [← E1.out]; rfl, by rw [← E1.out]; exact ext_two (b := w1) (by omega) z3 (ext_two2 (by omega) z2 K1.out), hC.out.trans_ext (C1.out.mono (fun _ _ h => h.elim) |>.trans (K2.out))⟩
      | some nx =>
        rw [hs] at SC
        have SC := Lib.hid SC
        obtain ⟨n1, n2, n3⟩ := SMEM.out nx hs
        clear SMEM
        by_cases hnx : to ≤ nx
        · have E1 : Hid ((s'.setM 2 to, md, 0) = RS) := (rolled_past hn1 hs hnx).symm.trans hRes.out
          have hiv : Hid (Inv (s'.setM 2 to)) := by
            rw [setM_tier]
            exact HINV.out.tier 2 (by omega) (I1.out.mono (by have := HM.out; omega)) i2 ⟨by omega, hto2⟩
          clear hs hn1 hRes
          go_wp2_with fail
          refine SC.out.mono ?_
          rintro e w1 ⟨rfl, c1⟩
          unfold optT
          have hA1 := HA.out.kept c1 (fun _ _ h => h)
          obtain ⟨qm1, fm1, -⟩ := hA1.mark 2 (by omega)
          replace qm1 : w1.cell? ⟨R, 6, none⟩ = some (.int .i64 (s'.mk_ 2)) := qm1
          replace fm1 : w1.frozen? ⟨R, 6, none⟩ = false := fm1
          obtain ⟨k1, k2⟩ := hA1.setm 2 (by omega) hiv.out
          have K1 := Lib.hid k1
          have K2 := Lib.hid k2
          have C1 := Lib.hid c1
          clear hA1 k1 k2 c1 qm
          go_wp2_with fail
          go_ret2
          have z1 := hC.out.size
          have z2 := C1.out.size
          have z3 := K2.out.size
          exact ⟨by rw [← E1.out]; rfl, by rw [← E1.out]; exact ext_two (b := w1) (by omega) z3 (ext_two2 (by omega) z2 K1.out), hC.out.trans_ext (C1.out.mono (fun _ _ h => h.elim) |>.trans (K2.out))⟩
        · obtain ⟨w0, w1x, w2x⟩ := wst_le (t := 2) n2
          have hwn := wst_next HTO.out (show nx < to by omega)
          obtain ⟨x, hx⟩ : ∃ x, x = wst 2 nx := ⟨_, rfl⟩
          have OC := Lib.hid (fun W => of_c W 2 nx (by omega) n2 (by omega))
          rw [← hx] at w0 w1x w2x hwn OC
          have HX := Lib.hid hx
          have hwp := wid_pos 2
          obtain ⟨y, hy⟩ : ∃ y, y = x + wid 2 := ⟨_, rfl⟩
          rw [← hy] at OC hwn w2x
          have HWIN : Hid ((s'.of 2 x y).getD Ag.zero = s'.win 2 nx) := by show _ = _; rw [hy, hx]; rfl
          obtain ⟨z, hz⟩ : ∃ z, z = s'.win 2 nx := ⟨_, rfl⟩
          obtain ⟨b, hb⟩ : ∃ b, b = (s'.of 2 x y).isSome := ⟨_, rfl⟩
          have hzt : z.tk = x ∨ z.tk = 0 := by rw [hz, hx]; exact win_tk s' 2 nx n2
          have SO : Hid (∀ W (G : Nat → Prop), StIs W G R s' → Calls Try.prog 80 #[.pointer (some ⟨R, 0, none⟩), .int .i64 2, .agg #[.int .i64 x, .int .i64 y]] W fun e w' => e = .returned (.tuple #[.agg #[.int .i64 z.tk, .int .i64 z.cnt, .int .i64 z.sum, .int .i64 z.mn, .int .i64 z.mx], .bool b]) ∧ Chg (fun _ => False) W w') := fun W G hG => by
            have := stof_c W G R s' 2 (by omega) x y hG
            rw [aggO_eq, HWIN.out, ← hz, ← hb] at this
            exact this
          have HZ := Lib.hid hz
          have HSO := Lib.hid hs
          have HN1 := Lib.hid hn1
          have HY := Lib.hid hy
          clear hx hz hb hs hn1 hy HWIN
          obtain ⟨n, hn⟩ : ∃ n, n = (s'.agg 2).length := ⟨_, rfl⟩
          have HN := Lib.hid hn
          rw [← hn] at i2 hMd
          clear hn
          go_wp2_with fail
          refine SC.out.mono ?_
          rintro e w1 ⟨rfl, c1⟩
          unfold optT
          have C1 := Lib.hid c1
          clear c1 SC
          go_wp2_with fail
          refine (OC.out _).mono ?_
          rintro e w2 ⟨rfl, c2⟩
          have C2 : Hid (Chg (fun _ => False) wr w2) := C1.out.trans c2
          obtain ⟨w3, hw3⟩ : ∃ w3, w3 = w2.alloc (.cells #[.int .i64 x, .int .i64 y] 24) := ⟨_, rfl⟩
          have c3 : Chg (fun _ => False) wr w3 := by rw [hw3]; exact C2.out.alloc _
          have SO3 := Lib.hid (SO.out w3 _ (hS.out.same c3))
          have hr3 : w3.heap[w2.heap.size]? = some (.cells #[.int .i64 x, .int .i64 y] 24 (0, 0)) := by rw [hw3]; exact heap_at_new _ _ _ rfl
          have C3 := Lib.hid c3
          have HR3 := Lib.hid hr3
          clear c2 c3 hr3 SO qm
          go_wp2_with fail
          rw [← hw3]
          refine SO3.out.mono ?_
          rintro e w4 ⟨rfl, c4⟩
          obtain ⟨w5, hw5⟩ : ∃ w5, w5 = w4.alloc (.cells #[.int .i64 z.tk, .int .i64 z.cnt, .int .i64 z.sum, .int .i64 z.mn, .int .i64 z.mx] 58) := ⟨_, rfl⟩
          have c45 : Chg (fun _ => False) w4 w5 := by rw [hw5]; exact (Chg.refl _ w4).alloc _
          have c5 : Chg (fun _ => False) wr w5 := (C3.out.trans c4).trans c45
          have hA5 := HA.out.kept c5 (fun _ _ h => h)
          have hP : AgAt w5 w4.heap.size z := by rw [hw5]; exact ag_new w4 z
          have hr5 := (c4.trans c45).heap HR3.out (fun h => h)
          obtain ⟨qm5, fm5, qa5, fa5⟩ := hA5.mark 2 (by omega)
          replace qm5 : w5.cell? ⟨R, 6, none⟩ = some (.int .i64 (s'.mk_ 2)) := qm5
          replace fm5 : w5.frozen? ⟨R, 6, none⟩ = false := fm5
          replace qa5 : w5.cell? ⟨R, 3, none⟩ = some vl := qa5
          obtain ⟨ho5, -⟩ := hA5.own 2 (by omega)
          replace ho5 : OAgs w5 vl (s'.agg 2) := ho5
          obtain ⟨va, vc, hv⟩ := Owns.form ho5
          rw [← HN.out] at hv
          rw [hv] at qa5
          rw [← HM.out] at qm5
          have qaS := qa5
          rw [hw5] at qaS
          have QM := Lib.hid qm5
          have FM := Lib.hid fm5
          have QA := Lib.hid qa5
          have C5 := Lib.hid c5
          have C34 := Lib.hid c4
          have HA5 := Lib.hid hA5
          have HP := Lib.hid hP
          have HR5 := Lib.hid hr5
          have HW5 := Lib.hid hw5
          have HV := Lib.hid hv
          have HO5 : Hid (Owns w5 5 (.slice va n vc) n ((s'.agg 2).flatMap Ag.cells)) := by
            have h := ho5
            unfold OAgs at h
            rw [hv, ← HN.out] at h
            exact h
          clear c4 c45 c5 hA5 hP hr5 qm5 fm5 qa5 fa5 ho5 hw5 hv hw3
          by_cases hfull : 256 ≤ n
          · have i256 : (256 : Int) ≤ n := by omega
            obtain ⟨mx, hmx⟩ : ∃ mx, mx = (if m < x then x else m) := ⟨_, rfl⟩
            have HMX := Lib.hid hmx.symm
            have E1 : Hid ((s'.setM 2 mx, md, 6) = RS) := by
              rw [hmx, HM.out, HX.out]
              exact (rolled_full (by have := HN1.out; omega) HSO.out (show ¬ to ≤ nx by omega) (by rw [← HN.out]; exact hfull)).symm.trans hRes.out
            have hiv : Hid (Inv (s'.setM 2 mx)) := by
              have hb : m ≤ mx ∧ mx ≤ 1099511627776 := by rw [hmx]; split <;> omega
              rw [setM_tier]
              exact HINV.out.tier 2 (by omega) (I1.out.mono (by have := HM.out; omega)) (by rw [← HN.out]; exact i2) ⟨by omega, hb.2⟩
            have qx : Hid (w5.cell? ⟨w2.heap.size, 0, none⟩ = some (.int .i64 x)) := by show _ = _; rw [cell_of_heap HR5.out]; rfl
            obtain ⟨k1, k2⟩ := StAt.setm (w := w5.drew) (HA5.out.kept (Chg.refl (fun _ => False) w5).drew (fun _ _ h => h)) 2 (by omega) hiv.out
            have K1 := Lib.hid k1
            have K2 := Lib.hid k2
            clear hmx k1 k2 hRes
            go_wp2_with fail
            rw [← HW5.out]
            clear qaS
            refine wpZ.begin 14 (fun _ => False) 15 (by kernel_rfl) rfl ?_
            refine wpZ.take 0 rfl (by kernel_rfl) (fun _ _ _ h => h) rfl (fun w' hw' => by go_simp <;> with_reducible rfl) ?_
            simp only [Act.put, List.setIfInBounds_toArray, List.set_cons_zero, List.set_cons_succ]
            refine wpZ.take 1 rfl (by kernel_rfl) (fun _ _ _ h => h) rfl (fun w' hw' => by go_simp <;> with_reducible rfl) ?_
            simp only [Act.put, List.setIfInBounds_toArray, List.set_cons_zero, List.set_cons_succ]
            refine wpZ.take 2 rfl (by kernel_rfl) (fun _ _ _ h => h) rfl (fun w' hw' => by go_simp <;> with_reducible rfl) ?_
            simp only [Act.put, List.setIfInBounds_toArray, List.set_cons_zero, List.set_cons_succ]
            refine wpZ.take 3 rfl (by kernel_rfl) (fun _ _ _ h => h) rfl (fun w' hw' => by go_simp <;> with_reducible rfl) ?_
            simp only [Act.put, List.setIfInBounds_toArray, List.set_cons_zero, List.set_cons_succ]
            refine wpZ.take 4 rfl (by kernel_rfl) (fun _ _ _ h => h) rfl (fun w' hw' => by go_simp <;> with_reducible rfl) ?_
            simp only [Act.put, List.setIfInBounds_toArray, List.set_cons_zero, List.set_cons_succ]
            refine wpZ.take 5 rfl (by kernel_rfl) (fun _ _ _ h => h) rfl (fun w' hw' => by go_simp <;> with_reducible rfl) ?_
            simp only [Act.put, List.setIfInBounds_toArray, List.set_cons_zero, List.set_cons_succ]
            refine wpZ.take 6 rfl (by kernel_rfl) (fun _ _ _ h => h) rfl (fun w' hw' => by go_simp <;> with_reducible rfl) ?_
            simp only [Act.put, List.setIfInBounds_toArray, List.set_cons_zero, List.set_cons_succ]
            refine wpZ.ld 7 rfl (by kernel_rfl) (fun _ _ _ _ h => h) rfl _ _ rfl (by kernel_rfl) ⟨R, 6, none⟩ rfl _ (QM.out) (fun h => h) ?_
            simp only [Act.put, List.setIfInBounds_toArray, List.set_cons_zero, List.set_cons_succ]
            refine wpZ.take 8 rfl (by kernel_rfl) (fun _ _ _ h => h) rfl (fun w' hw' => by go_simp <;> with_reducible rfl) ?_
            simp only [Act.put, List.setIfInBounds_toArray, List.set_cons_zero, List.set_cons_succ]
            refine wpZ.ld 9 rfl (by kernel_rfl) (fun _ _ _ _ h => h) rfl _ _ rfl (by kernel_rfl) ⟨w2.heap.size, 0, none⟩ rfl _ (qx.out) (fun h => h) ?_
            simp only [Act.put, List.setIfInBounds_toArray, List.set_cons_zero, List.set_cons_succ]
            refine wpZ.take (v := .int .i64 mx) 10 rfl (by kernel_rfl) (fun _ _ _ h => h) rfl (fun w' hw' => exec_max2 _ _ _ rfl _ _ rfl rfl _ HMX.out) ?_
            simp only [Act.put, List.setIfInBounds_toArray, List.set_cons_zero, List.set_cons_succ]
            refine wpZ.take 11 rfl (by kernel_rfl) (fun _ _ _ h => h) rfl (fun w' hw' => by go_simp <;> with_reducible rfl) ?_
            simp only [Act.put, List.setIfInBounds_toArray, List.set_cons_zero, List.set_cons_succ]
            refine wpZ.take 12 rfl (by kernel_rfl) (fun _ _ _ h => h) rfl (fun w' hw' => by go_simp <;> with_reducible rfl) ?_
            simp only [Act.put, List.setIfInBounds_toArray, List.set_cons_zero, List.set_cons_succ]
            refine wpZ.take 13 rfl (by kernel_rfl) (fun _ _ _ h => h) rfl (fun w' hw' => by go_simp <;> with_reducible rfl) ?_
            simp only [Act.put, List.setIfInBounds_toArray, List.set_cons_zero, List.set_cons_succ]
            refine wpZ.last1 rfl (by kernel_rfl) (by kernel_rfl) rfl _ _ _ rfl (by kernel_rfl) (⟨R, 6, none⟩) rfl (.int .i64 mx) rfl (.int .i64 m) (QM.out) (FM.out) rfl ?_
            simp only [Act.put, List.setIfInBounds_toArray, List.set_cons_zero, List.set_cons_succ]
            go_wp2_with fail
            go_ret2
            have z1 := hC.out.size
            have z2 := C5.out.size
            have z3 := K2.out.size
            exact ⟨by rw [← E1.out]; rfl, by rw [← E1.out]; exact ext_two (b := w5.drew) (by show w.heap.size ≤ w5.heap.size; omega) z3 (ext_two2 (by omega) z2 K1.out), hC.out.trans_ext ((C5.out.drew.mono (fun _ _ h => h.elim)).trans K2.out)⟩
          · have i256 : ¬ (256 : Int) ≤ n := by omega
            have E1 : Hid (rolledF f' 2 to (s'.tier 2 (s'.agg 2 ++ [z]) y) (md + 1) = RS) := by
              rw [HZ.out, HY.out, HX.out]
              exact (rolled_step (by have := HN1.out; omega) HSO.out (show ¬ to ≤ nx by omega) (by rw [← HN.out]; exact hfull)).symm.trans hRes.out
            have hiv : Hid (Inv (s'.tier 2 (s'.agg 2 ++ [z]) y)) := by
              refine HINV.out.tier 2 (by omega) (I1.out.push (by have := HM.out; omega) (by omega) (by have := HY.out; omega) ?_) (by rw [List.length_append, ← HN.out]; simp; omega) ⟨by omega, by omega⟩
              rcases hzt with e | e
              · rw [e, HX.out]; exact wst_mod _ _
              · rw [e]; simp
            have qy : Hid (w5.cell? ⟨w2.heap.size, 1, none⟩ = some (.int .i64 y)) := by show _ = _; rw [cell_of_heap HR5.out]; rfl
            have hvR : Hid (∀ k, (Value.slice va n vc).ownBlock = some k → k ≠ R ∧ k < wr.heap.size) := fun k hk => by
              have h1 := (HA.out.own 2 (by omega)).2 k (by rw [show (if 2 = 1 then vm else vl) = vl from rfl, HV.out]; exact hk)
              exact ⟨h1.1, Owns.lt (HA.out.own 2 (by omega)).1 k (by rw [show (if 2 = 1 then vm else vl) = vl from rfl, HV.out]; exact hk)⟩
            have hz24 : Hid (wr.heap.size ≤ w2.heap.size ∧ wr.heap.size ≤ w4.heap.size) := by
              have h1 := C2.out.size
              have h2 := C3.out.size
              refine ⟨h1, ?_⟩
              have h3 : w5.heap.size = w4.heap.size + 1 := by rw [HW5.out]; simp
              have h4 := HP.out.lt
              have h5 : w2.heap.size < w3.heap.size := (Array.getElem?_eq_some_iff.1 HR3.out).1
              have h6 := (Array.getElem?_eq_some_iff.1 HR5.out).1
              have h7 := C34.out.size
              omega
            have hl9 : AgAt w5.drew w4.heap.size z := HP.out
            have HL9 := Lib.hid hl9
            have hP9 := Lib.hid (fun (w7 : World) (v' : Value) => StAt.pushm (w := w5.drew) (w7 := w7) (v' := v') (HA5.out.kept (Chg.refl (fun _ => False) w5).drew (fun _ _ h => h)) 2 (by omega) (l := s'.agg 2 ++ [z]) (m := y))
            clear hRes hl9
            go_wp2_with fail
            rw [← HW5.out]
            clear qaS
            refine wpZ.begin 14 (fun k => (Value.slice va n vc).ownBlock = some k) 15 (by kernel_rfl) rfl ?_
            refine wpZ.take 0 rfl (by kernel_rfl) (fun _ _ _ h => h) rfl (fun w' hw' => by go_simp <;> with_reducible rfl) ?_
            simp only [Act.put, List.setIfInBounds_toArray, List.set_cons_zero, List.set_cons_succ]
            refine wpZ.take 1 rfl (by kernel_rfl) (fun _ _ _ h => h) rfl (fun w' hw' => by go_simp <;> with_reducible rfl) ?_
            simp only [Act.put, List.setIfInBounds_toArray, List.set_cons_zero, List.set_cons_succ]
            refine wpZ.take 2 rfl (by kernel_rfl) (fun _ _ _ h => h) rfl (fun w' hw' => by go_simp <;> with_reducible rfl) ?_
            simp only [Act.put, List.setIfInBounds_toArray, List.set_cons_zero, List.set_cons_succ]
            refine wpZ.take 3 rfl (by kernel_rfl) (fun _ _ _ h => h) rfl (fun w' hw' => by go_simp <;> with_reducible rfl) ?_
            simp only [Act.put, List.setIfInBounds_toArray, List.set_cons_zero, List.set_cons_succ]
            refine wpZ.take 4 rfl (by kernel_rfl) (fun _ _ _ h => h) rfl (fun w' hw' => by go_simp <;> with_reducible rfl) ?_
            simp only [Act.put, List.setIfInBounds_toArray, List.set_cons_zero, List.set_cons_succ]
            refine wpZ.take 5 rfl (by kernel_rfl) (fun _ _ _ h => h) rfl (fun w' hw' => by go_simp <;> with_reducible rfl) ?_
            simp only [Act.put, List.setIfInBounds_toArray, List.set_cons_zero, List.set_cons_succ]
            refine wpZ.take 6 rfl (by kernel_rfl) (fun _ _ _ h => h) rfl (fun w' hw' => by go_simp <;> with_reducible rfl) ?_
            simp only [Act.put, List.setIfInBounds_toArray, List.set_cons_zero, List.set_cons_succ]
            refine wpZ.ld 7 rfl (by kernel_rfl) (fun _ _ _ _ h => h) rfl _ _ rfl (by kernel_rfl) ⟨R, 3, none⟩ rfl _ (QA.out) (fun h => ((hvR.out _ h).1 rfl)) ?_
            simp only [Act.put, List.setIfInBounds_toArray, List.set_cons_zero, List.set_cons_succ]
            refine wpZ.take 8 rfl (by kernel_rfl) (fun _ _ _ h => h) rfl (fun w' hw' => exec_load _ _ _ _ rfl rfl ((HL9.out.kept hw' (fun h => by have := (hvR.out _ h).2; have := hz24.out.2; omega)).load)) ?_
            simp only [Act.put, List.setIfInBounds_toArray, List.set_cons_zero, List.set_cons_succ]
            refine wpZ.take 11 rfl (by kernel_rfl) (fun _ _ _ h => h) rfl (fun w' hw' => by go_simp <;> with_reducible rfl) ?_
            simp only [Act.put, List.setIfInBounds_toArray, List.set_cons_zero, List.set_cons_succ]
            refine wpZ.take 12 rfl (by kernel_rfl) (fun _ _ _ h => h) rfl (fun w' hw' => by go_simp <;> with_reducible rfl) ?_
            simp only [Act.put, List.setIfInBounds_toArray, List.set_cons_zero, List.set_cons_succ]
            refine wpZ.call 9 rfl (by kernel_rfl) rfl (fun K hK => ?_)
            refine wp_run _ _ (exec_buildSlice 51 1 0 _ (.agg z.cells.toArray) _ _ rfl rfl (run_buildSlice_one _ _ 58 (.agg #[.int .i64 0, .int .i64 0, .int .i64 0, .int .i64 0, .int .i64 0]) 5 40 Try.underlying51 infoAg z.cells rfl (by omega) (by omega))) ?_
            refine hK _ _ ((Chg.refl _ _).alloc _) ?_
            clear hK
            try (simp only [Act.put, List.setIfInBounds_toArray, List.set_cons_zero, List.set_cons_succ])
            refine wpZ.call 10 rfl (by kernel_rfl) rfl (fun K hK => ?_)
            refine wp_app _ _ 51 rfl 58 (.agg #[.int .i64 0, .int .i64 0, .int .i64 0, .int .i64 0, .int .i64 0]) 5 40 Try.underlying51 infoAg rfl (.slice va n vc) n ((s'.agg 2).flatMap Ag.cells) rfl (HO5.out.drew.alloc _) _ 1 z.cells rfl (Reads.one _ z.cells _) (agone z) (by simp only [maxLen]; omega) (by omega) ?_
            intro v' w7 own7 c7 in7 nn7
            have C57 : Hid (Chg (fun k => (Value.slice va n vc).ownBlock = some k) w5.drew w7) := ((Chg.refl _ w5.drew).alloc _).trans c7
            have O7 : Hid (OAgs w7 v' (s'.agg 2 ++ [z])) := by
              show Owns _ _ _ _ _
              rw [agk_cells, List.length_append, ← HN.out]
              exact own7
            have I7 : Hid (∀ k, v'.ownBlock = some k → (Value.slice va n vc).ownBlock = some k ∨ w5.heap.size ≤ k) := fun k hk => by
              rcases in7 k hk with h | h
              · exact .inl h
              · right; rw [h]; simp
            obtain ⟨va7, vc7, hv7⟩ := own7.form
            have FIN := Lib.hid (hP9.out w7 v' (by exact O7.out) (by show Chg (fun k => (vl).ownBlock = some k) _ _; rw [HV.out]; exact C57.out) (by show ∀ k, v'.ownBlock = some k → (vl).ownBlock = some k ∨ _; rw [HV.out]; exact I7.out) hiv.out)
            obtain ⟨qa7, fa7⟩ := FIN.out.2.1
            have QA7 : Hid (w7.cell? ⟨R, 3, none⟩ = some (.slice va n vc)) := by show _ = _; rw [← HV.out]; exact qa7
            have FA7 : Hid (w7.frozen? ⟨R, 3, none⟩ = false) := fa7
            subst hv7
            refine hK _ _ c7 ?_
            clear hK own7 c7 in7 nn7 qa7 fa7
            try (simp only [Act.put, List.setIfInBounds_toArray, List.set_cons_zero, List.set_cons_succ])
            refine wpZ.take 13 rfl (by kernel_rfl) (fun _ _ _ h => h) rfl (fun w' hw' => by go_simp <;> with_reducible rfl) ?_
            simp only [Act.put, List.setIfInBounds_toArray, List.set_cons_zero, List.set_cons_succ]
            refine wpZ.last1 rfl (by kernel_rfl) (by kernel_rfl) rfl _ _ _ rfl (by kernel_rfl) (⟨R, 3, none⟩) rfl (.slice va7 (n + 1) vc7) rfl (.slice va n vc) (QA7.out) (FA7.out) rfl ?_
            simp only [Act.put, List.setIfInBounds_toArray, List.set_cons_zero, List.set_cons_succ]
            obtain ⟨w8, hw8⟩ : ∃ w8, w8 = w7.setCell ⟨R, 3, none⟩ (.slice va7 (n + 1) vc7) := ⟨_, rfl⟩
            have c58 : Chg (fun k => (Value.slice va n vc).ownBlock = some k ∨ k = R) w5.drew w8 := by
              rw [hw8]
              exact (C57.out.mono (fun _ _ h => .inl h)).setCell (p := ⟨R, 3, none⟩) (fun _ => .inr rfl) _
            have qy8 : Hid (w8.cell? ⟨w2.heap.size, 1, none⟩ = some (.int .i64 y)) := c58.cell qy.out (fun h => by
              rcases h with h | h
              · have h1 : w2.heap.size < wr.heap.size := (hvR.out _ h).2
                have := hz24.out.1
                omega
              · have h : w2.heap.size = R := h
                have := HA.out.lt; have := hz24.out.1; omega)
            obtain ⟨qm8, fm8⟩ := FIN.out.2.2
            have QM8 : Hid (w8.drew.cell? ⟨R, 6, none⟩ = some (.int .i64 (s'.mk_ 2))) := by show _ = _; rw [hw8]; exact qm8
            have FM8 : Hid (w8.drew.frozen? ⟨R, 6, none⟩ = false) := by show _ = _; rw [hw8]; exact fm8
            have FIN : Hid ((StIs (w8.drew.setCell ⟨R, 6, none⟩ (.int .i64 y)) (ext (ext F w wr) w5.drew (w8.drew.setCell ⟨R, 6, none⟩ (.int .i64 y))) R (s'.tier 2 (s'.agg 2 ++ [z]) y) ∧ Chg (ext F w wr) w5.drew (w8.drew.setCell ⟨R, 6, none⟩ (.int .i64 y))) ∧ True) := by
              rw [hw8]; exact ⟨FIN.out.1, trivial⟩
            have HW8 := Lib.hid hw8
            clear c58 qm8 fm8 hw8 hP9
            go_wp2_with fail
            rw [← HW8.out]
            refine wpZ.begin 7 (fun _ => False) 8 (by kernel_rfl) rfl ?_
            refine wpZ.take 0 rfl (by kernel_rfl) (fun _ _ _ h => h) rfl (fun w' hw' => by go_simp <;> with_reducible rfl) ?_
            simp only [Act.put, List.setIfInBounds_toArray, List.set_cons_zero, List.set_cons_succ]
            refine wpZ.take 1 rfl (by kernel_rfl) (fun _ _ _ h => h) rfl (fun w' hw' => by go_simp <;> with_reducible rfl) ?_
            simp only [Act.put, List.setIfInBounds_toArray, List.set_cons_zero, List.set_cons_succ]
            refine wpZ.take 2 rfl (by kernel_rfl) (fun _ _ _ h => h) rfl (fun w' hw' => by go_simp <;> with_reducible rfl) ?_
            simp only [Act.put, List.setIfInBounds_toArray, List.set_cons_zero, List.set_cons_succ]
            refine wpZ.ld 3 rfl (by kernel_rfl) (fun _ _ _ _ h => h) rfl _ _ rfl (by kernel_rfl) ⟨w2.heap.size, 1, none⟩ rfl _ (qy8.out) (fun h => h) ?_
            simp only [Act.put, List.setIfInBounds_toArray, List.set_cons_zero, List.set_cons_succ]
            refine wpZ.take 4 rfl (by kernel_rfl) (fun _ _ _ h => h) rfl (fun w' hw' => by go_simp <;> with_reducible rfl) ?_
            simp only [Act.put, List.setIfInBounds_toArray, List.set_cons_zero, List.set_cons_succ]
            refine wpZ.take 5 rfl (by kernel_rfl) (fun _ _ _ h => h) rfl (fun w' hw' => by go_simp <;> with_reducible rfl) ?_
            simp only [Act.put, List.setIfInBounds_toArray, List.set_cons_zero, List.set_cons_succ]
            refine wpZ.take 6 rfl (by kernel_rfl) (fun _ _ _ h => h) rfl (fun w' hw' => by go_simp <;> with_reducible rfl) ?_
            simp only [Act.put, List.setIfInBounds_toArray, List.set_cons_zero, List.set_cons_succ]
            refine wpZ.last1 rfl (by kernel_rfl) (by kernel_rfl) rfl _ _ _ rfl (by kernel_rfl) (⟨R, 6, none⟩) rfl (.int .i64 y) rfl (.int .i64 (s'.mk_ 2)) (QM8.out) (FM8.out) rfl ?_
            simp only [Act.put, List.setIfInBounds_toArray, List.set_cons_zero, List.set_cons_succ]
            have hmd := hMd.out
            have hmw := wrap_one hmd.1 (by omega)
            have hmw2 : IntKind.i64.wrap (md + 1) = md + 1 := IntWalk.i64_in _ (by omega)
            go_wp2_with fail
            obtain ⟨p1, p2⟩ := push_len s' 2 (by omega) (s'.agg 2 ++ [z]) y
            have z1 := hC.out.size
            have z2 := C5.out.size
            have z3 := FIN.out.1.2.size
            refine ⟨⟨f', _, md + 1, rfl, ext_two (b := w5.drew) (by show w.heap.size ≤ w5.heap.size; omega) z3 (ext_two2 (by omega) z2 FIN.out.1.1), E1.out, ?_, hC.out.trans_ext ((C5.out.drew.mono (fun _ _ h => h.elim)).trans FIN.out.1.2), ?_⟩, ?_⟩
            · show (to - _).toNat ≤ f'
              rw [p2]
              have := hFu.out
              have := HM.out
              omega
            · show 0 ≤ md + 1 ∧ md + 1 ≤ _
              rw [p1, List.length_append, ← HN.out]
              simp
              omega
            · have e9 := FIN.out.1.1.mkAt 2 (by omega)
              rw [p2] at e9
              have key : ∀ q, q = y → (to - q).toNat < (to - m).toNat := fun q e => by rw [e]; exact meas_r hlt (by have := HM.out; omega)
              rw [HMK.out]
              exact key _ e9
    · have E1 : Hid ((s', md, 0) = RS) := (rolled_done (by have := HM.out; omega)).symm.trans hRes.out
      go_wp2_with fail
      go_ret2
      exact ⟨by rw [← E1.out]; rfl, by rw [← E1.out]; exact hS.out, hC.out⟩
theorem rolled_c (w : World) (F : Nat → Prop) (R : Nat) (s : St) (t : Nat) (ht : t = 1 ∨ t = 2) (to : Int) (h : StIs w F R s) (hto : to % wid t = 0) (hto2 : to ≤ 1099511627776) :
    Calls Try.prog 56 #[.pointer (some ⟨R, 0, none⟩), .int .i64 t, .int .i64 to] w fun e w' => e = .returned (.tuple #[.int .i64 (rolledS t to s).2.1, .int .i64 (rolledS t to s).2.2]) ∧ StIs w' (ext F w w') R (rolledS t to s).1 ∧ Chg F w w' := by
  rcases ht with rfl | rfl
  · exact rolled1_c w F R s to h hto hto2
  · exact rolled2_c w F R s to h hto hto2
end Go.Proofs.Ytmnnahkaenikkaa
