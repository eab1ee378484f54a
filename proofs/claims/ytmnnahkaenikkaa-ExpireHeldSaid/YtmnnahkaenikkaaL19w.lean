/- Law 19: the walk of ExpireHeld. -/
import Derived.Test.YtmnnahkaenikkaaExL
import Derived.Test.YtmnnahkaenikkaaAlike20
namespace Go.Proofs.Ytmnnahkaenikkaa
open Go.RowKit Go.Cat
set_option maxRecDepth 100000 in
set_option maxHeartbeats 8000000 in
theorem held_w (w : World) (v tv : Value) (L : List Act16) (lo hi : Int) (p : Pol) (ts : List Int) (h : Acts16 w v L) (hl : L.length ≤ 9223372036854775807) (ht : TicksZ w tv ts) (htl : ts.length ≤ 9223372036854775807) :
    Calls Try.prog 4 #[v, .agg #[.int .i64 lo, .int .i64 hi], .agg #[.int .i64 p.a, .int .i64 p.b, .int .i64 p.c], tv] w fun e w' => e = .returned (.bool true) ∧ Chg (fun _ => False) w w' := by
  obtain ⟨ta, tc, rfl⟩ := ht.form
  obtain ⟨va, vc, rfl⟩ := Reads.form h.rd
  obtain ⟨W, hW⟩ : ∃ W, W = (w.alloc (.cells #[.int .i64 lo, .int .i64 hi] 24)).alloc (.cells #[.int .i64 p.a, .int .i64 p.b, .int .i64 p.c] 41) := ⟨_, rfl⟩
  have cW : Chg (fun _ => False) w W := by rw [hW]; exact ((Chg.refl _ w).alloc _).alloc _
  have zW : W.heap.size = w.heap.size + 2 := by rw [hW]; simp
  have hb0 : W.heap[w.heap.size]? = some (.cells #[.int .i64 lo, .int .i64 hi] 24 (0, 0)) := by rw [hW]; exact ((Chg.refl (fun _ => False) _).alloc _).heap (heap_at_new w _ _ rfl) (fun h => h)
  have hb1 : W.heap[w.heap.size + 1]? = some (.cells #[.int .i64 p.a, .int .i64 p.b, .int .i64 p.c] 41 (0, 0)) := by rw [hW]; exact heap_at_new _ _ _ (by simp)
  have HB0 := Lib.hid hb0
  have HB1 := Lib.hid hb1
  have HB00 := Lib.hid hb0
  have CW := Lib.hid cW
  have ZW := Lib.hid zW
  have HW := Lib.hid hW
  have HT := Lib.hid ht
  have HA := Lib.hid h
  have LV := Lib.hid lives19
  have FW : Hid (∀ W1, Chg (fun _ => False) w W1 → Calls Try.prog 7 #[.slice va L.length vc, .int .i64 30] W1 fun e w' => e = .returned (.bool (few16 L 30)) ∧ Chg (fun _ => False) W1 w') := fun W1 c => few_c W1 _ L 30 (h.same c) hl
  obtain ⟨nl, hnl⟩ : ∃ nl, nl = L.length := ⟨_, rfl⟩
  obtain ⟨nt, hnt⟩ : ∃ nt, nt = ts.length := ⟨_, rfl⟩
  have HNL := Lib.hid hnl
  have HNT := Lib.hid hnt
  rw [← hnl] at FW HA
  rw [← hnt] at HT
  rw [← hnl, ← hnt]
  rw [← hnt] at htl
  clear cW zW hb0 hb1 hW h ht hl hnl hnt
  cases hf : few16 L 30 with
  | false =>
    rw [hf] at FW
    clear hf
    go_enter Try.func4, Try.ntmps4
    go_wp2_with fail
    rw [← HW.out]
    refine (LV.out W).mono ?_
    rintro e w1 ⟨rfl, c1⟩
    have C1 := Lib.hid (CW.out.trans c1)
    clear c1
    go_wp2_with fail
    refine (FW.out w1 C1.out).mono ?_
    rintro e w2 ⟨rfl, c2⟩
    have C2 := Lib.hid (C1.out.trans c2)
    clear c2
    go_wp2_with fail
    refine (LV.out w2).mono ?_
    rintro e w3 ⟨rfl, c3⟩
    have C3 := Lib.hid (C2.out.trans c3)
    clear c3
    go_wp2_with fail
    go_ret
    exact ⟨rfl, C3.out⟩
  | true =>
    have HF := Lib.hid hf
    rw [hf] at FW
    clear hf
    by_cases htk : (20 : Int) < nt
    · go_enter Try.func4, Try.ntmps4
      go_wp2_with fail
      rw [← HW.out]
      refine (LV.out W).mono ?_
      rintro e w1 ⟨rfl, c1⟩
      have C1 := Lib.hid (CW.out.trans c1)
      clear c1
      go_wp2_with fail
      refine (FW.out w1 C1.out).mono ?_
      rintro e w2 ⟨rfl, c2⟩
      have C2 := Lib.hid (C1.out.trans c2)
      clear c2
      go_wp2_with fail
      refine (LV.out w2).mono ?_
      rintro e w3 ⟨rfl, c3⟩
      have C3 := Lib.hid (C2.out.trans c3)
      clear c3
      go_wp2_with fail
      go_ret
      exact ⟨rfl, C3.out⟩
    · go_enter Try.func4, Try.ntmps4
      go_wp2_with fail
      rw [← HW.out]
      refine (LV.out W).mono ?_
      rintro e w1 ⟨rfl, c1⟩
      have C1 := Lib.hid (CW.out.trans c1)
      have D1 := Lib.hid c1
      clear c1
      go_wp2_with fail
      refine (FW.out w1 C1.out).mono ?_
      rintro e w2 ⟨rfl, c2⟩
      have C2 := Lib.hid (C1.out.trans c2)
      have D2 := Lib.hid (D1.out.trans c2)
      clear c2
      go_wp2_with fail
      refine (new_tab w2).mono ?_
      rintro e w3 ⟨b, rfl, htb, c3⟩
      have q0 : w3.cell? ⟨w.heap.size, 0, none⟩ = some (.int .i64 lo) := by rw [cell_of_heap ((D2.out.trans c3).heap HB0.out (fun h => h))]; rfl
      have q1 : w3.cell? ⟨w.heap.size, 1, none⟩ = some (.int .i64 hi) := by rw [cell_of_heap ((D2.out.trans c3).heap HB0.out (fun h => h))]; rfl
      have AC := Lib.hid (show Calls Try.prog 16 #[.pointer (some ⟨b, 0, none⟩), .agg #[.string ⟨#[104]⟩, .string ⟨#[]⟩, .int .i64 lo, .int .i64 hi]] w3 fun e w' => e = .returned (.int .i64 (addCode (.map []) (hldH lo hi))) ∧ TabAt w' (fun k => w2.heap.size ≤ k) b (addTab (.map []) (hldH lo hi)) 1 ∧ Chg (fun k => w2.heap.size ≤ k) w3 w' from add_any w3 _ b (.map []) 0 (hldH lo hi) htb (by omega) (by show 1 ≤ maxLen; simp only [maxLen]; omega))
      have C3 := Lib.hid (C2.out.trans c3)
      have D3 := Lib.hid (D2.out.trans c3)
      have Z3 : Hid (w2.heap.size ≤ w3.heap.size ∧ w.heap.size + 2 ≤ w2.heap.size) := ⟨c3.size, by have := D2.out.size; have := ZW.out; omega⟩
      clear c3 htb
      obtain ⟨cd, hcd⟩ : ∃ cd, cd = addCode (.map []) (hldH lo hi) := ⟨_, rfl⟩
      rw [← hcd] at AC
      have HCD := Lib.hid hcd
      clear hcd
      by_cases hc0 : cd = 0
      · have i1 : (cd != 0) = false := by rw [hc0]; rfl
        go_wp2_with fail
        refine AC.out.mono ?_
        rintro e w4 ⟨rfl, htb, c4⟩
        have hcd0 : addCode (.map []) (hldH lo hi) = 0 := by rw [← HCD.out]; exact hc0
        have hlh : Hid (lo < hi) := by
          show _ < _
          rw [hold_code] at hcd0
          split at hcd0
          · rename_i h; exact h.2.1
          · cases hcd0
        have HMT : Hid (∀ V, Chg (fun q => w4.heap.size ≤ q) w4 V → ∀ T : Nat → Prop, (∀ k, T k → w4.heap.size ≤ k) → MeetsS V T (.pointer (some ⟨b, 0, none⟩)) [97] (holdM lo hi)) := fun V cV T hT => (meetsS_of htb.old (fun k hk h => by have := hk.2; omega) [97] _ (hold_mt hcd0)).at cV (fun k _ hk => hT k hk)
        have C4 : Hid (Chg (fun _ => False) w w4) := C3.out.new c4 (fun k hk => by have := Z3.out; omega)
        have D4 : Hid (Chg (fun _ => False) W w4) := D3.out.new c4 (fun k hk => by have := D2.out.size; omega)
        have PL := Lib.hid (play19_c w4 (.slice va nl vc) L (HA.out.same C4.out) (fun a ha => by
          have h1 := HF.out
          unfold few16 at h1
          rw [Bool.and_eq_true, List.all_eq_true] at h1
          have h2 := h1.1 a ha
          unfold few1 at h2
          exact (of_decide_eq_true h2).1) (by
          have h1 := HF.out
          unfold few16 at h1
          rw [Bool.and_eq_true] at h1
          have h2 := of_decide_eq_true h1.2
          omega))
        clear htb c4 hcd0 AC
        go_wp2_with fail
        refine PL.out.mono ?_
        rintro e w5 ⟨R, rfl, hs5, c5⟩
        clear i1 hc0
        obtain ⟨s, hs⟩ : ∃ s, s = playL id L := ⟨_, rfl⟩
        rw [← hs] at hs5
        obtain ⟨F, hF⟩ : ∃ F : Nat → Prop, F = fun q => w4.heap.size ≤ q ∧ q < w5.heap.size := ⟨_, rfl⟩
        have HFF : Hid (∀ q, F q → w4.heap.size ≤ q ∧ q < w5.heap.size) := fun q hq => by rw [hF] at hq; exact hq
        rw [← hF] at hs5
        have HS5 := Lib.hid hs5
        have E5 := Lib.hid c5
        have C5 := Lib.hid (C4.out.trans c5)
        have HBR : Hid (w5.drew.heap[w.heap.size]? = some (.cells #[.int .i64 lo, .int .i64 hi] 24 (0, 0))) := (D4.out.trans c5).heap HB0.out (fun h => h)
        clear hs5 c5 hs hF PL
        obtain ⟨P0, hP0⟩ : ∃ P0, P0 = inR s.raw lo hi := ⟨_, rfl⟩
        obtain ⟨Q1, hQ1⟩ : ∃ Q1, Q1 = s.mid.filter (mtR 1 lo hi) := ⟨_, rfl⟩
        obtain ⟨Q2, hQ2⟩ : ∃ Q2, Q2 = s.long.filter (mtR 2 lo hi) := ⟨_, rfl⟩
        have hfp : P0.length ≤ 256 := by
          obtain ⟨_, _, _, _, h⟩ := HS5.out
          rw [hP0]
          exact Nat.le_trans (List.length_filter_le _ _) h.ser.few
        have hf1 : Q1.length ≤ 256 := by rw [hQ1]; exact Nat.le_trans (List.length_filter_le _ _) HS5.out.inv.midFew
        have hf2 : Q2.length ≤ 256 := by rw [hQ2]; exact Nat.le_trans (List.length_filter_le _ _) HS5.out.inv.longFew
        obtain ⟨n0, hn0⟩ : ∃ n, n = P0.length := ⟨_, rfl⟩
        obtain ⟨n1, hn1⟩ : ∃ n, n = Q1.length := ⟨_, rfl⟩
        obtain ⟨n2, hn2⟩ : ∃ n, n = Q2.length := ⟨_, rfl⟩
        rw [← hn0] at hfp
        rw [← hn1] at hf1
        rw [← hn2] at hf2
        have HP0 := Lib.hid hP0
        have HQ1 := Lib.hid hQ1
        have HQ2 := Lib.hid hQ2
        have HN0 := Lib.hid hn0
        have HN1 := Lib.hid hn1
        have HN2 := Lib.hid hn2
        have HS5d : Hid (StIs w5.drew F R s) := HS5.out.same (Chg.refl _ w5).drew
        have PT := Lib.hid (pts0_c w5.drew F R s lo hi HS5d.out P0 HP0.out.symm)
        clear hP0 hQ1 hQ2 hn0 hn1 hn2
        go_wp2_with fail
        refine wpT.begin (fun _ => False) 12 (by kernel_rfl) rfl ?_
        refine wpT.take 0 rfl (by kernel_rfl) (fun _ _ _ h => h) rfl (fun w' hw' => by go_simp <;> with_reducible rfl) ?_
        simp only [Act.put, List.setIfInBounds_toArray, List.set_cons_zero, List.set_cons_succ]
        refine wpT.take 1 rfl (by kernel_rfl) (fun _ _ _ h => h) rfl (fun w' hw' => exec_load _ _ _ _ rfl rfl (load_rng (hw'.heap HBR.out (fun h => h)))) ?_
        simp only [Act.put, List.setIfInBounds_toArray, List.set_cons_zero, List.set_cons_succ]
        refine wpT.take 3 rfl (by kernel_rfl) (fun _ _ _ h => h) rfl (fun w' hw' => by go_simp <;> with_reducible rfl) ?_
        simp only [Act.put, List.setIfInBounds_toArray, List.set_cons_zero, List.set_cons_succ]
        refine wpT.take 4 rfl (by kernel_rfl) (fun _ _ _ h => h) rfl (fun w' hw' => exec_load _ _ _ _ rfl rfl (load_rng (hw'.heap HBR.out (fun h => h)))) ?_
        simp only [Act.put, List.setIfInBounds_toArray, List.set_cons_zero, List.set_cons_succ]
        refine wpT.take 6 rfl (by kernel_rfl) (fun _ _ _ h => h) rfl (fun w' hw' => by go_simp <;> with_reducible rfl) ?_
        simp only [Act.put, List.setIfInBounds_toArray, List.set_cons_zero, List.set_cons_succ]
        refine wpT.take 7 rfl (by kernel_rfl) (fun _ _ _ h => h) rfl (fun w' hw' => exec_load _ _ _ _ rfl rfl (load_rng (hw'.heap HBR.out (fun h => h)))) ?_
        simp only [Act.put, List.setIfInBounds_toArray, List.set_cons_zero, List.set_cons_succ]
        refine wpT.call 2 rfl (by kernel_rfl) rfl (fun K hK => ?_)
        go_wp2_with fail
        refine (PT.out).mono ?_
        rintro e x1 ⟨vv, rfl, oo, ff, cc⟩
        have CX1 : Hid (Chg (fun _ => False) _ _) := cc
        obtain ⟨a1, k1, hvv⟩ := Owns.form oo
        rw [← HN0.out] at hvv
        have OX1 : Hid (OPts x1 (.slice a1 n0 k1) P0) := by rw [← hvv]; exact oo
        have FX1 : Hid (∀ q, (Value.slice a1 n0 k1).ownBlock = some q → w5.heap.size ≤ q) := by rw [← hvv]; exact ff
        have PA1 := Lib.hid (agg1_c x1 F R s lo hi (HS5.out.same ((Chg.refl (fun _ => False) w5).drew.trans cc)) Q1 HQ1.out.symm)
        subst hvv
        refine hK _ _ cc ?_
        clear hK oo ff cc
        try (simp only [Act.put, List.setIfInBounds_toArray, List.set_cons_zero, List.set_cons_succ])
        refine wpT.call 5 rfl (by kernel_rfl) rfl (fun K hK => ?_)
        go_wp2_with fail
        refine (PA1.out).mono ?_
        rintro e x2 ⟨vv, rfl, oo, ff, cc⟩
        have CX2 : Hid (Chg (fun _ => False) _ _) := cc
        obtain ⟨a2, k2, hvv⟩ := Owns.form oo
        rw [← HN1.out] at hvv
        have OX2 : Hid (OAgs x2 (.slice a2 n1 k2) Q1) := by rw [← hvv]; exact oo
        have FX2 : Hid (∀ q, (Value.slice a2 n1 k2).ownBlock = some q → x1.heap.size ≤ q) := by rw [← hvv]; exact ff
        have PA2 := Lib.hid (agg2_c x2 F R s lo hi (HS5.out.same (((Chg.refl (fun _ => False) w5).drew.trans CX1.out).trans cc)) Q2 HQ2.out.symm)
        subst hvv
        refine hK _ _ cc ?_
        clear hK oo ff cc
        try (simp only [Act.put, List.setIfInBounds_toArray, List.set_cons_zero, List.set_cons_succ])
        refine wpT.call 8 rfl (by kernel_rfl) rfl (fun K hK => ?_)
        go_wp2_with fail
        refine (PA2.out).mono ?_
        rintro e x3 ⟨vv, rfl, oo, ff, cc⟩
        have CX3 : Hid (Chg (fun _ => False) _ _) := cc
        obtain ⟨a3, k3, hvv⟩ := Owns.form oo
        rw [← HN2.out] at hvv
        have OX3 : Hid (OAgs x3 (.slice a3 n2 k3) Q2) := by rw [← hvv]; exact oo
        have FX3 : Hid (∀ q, (Value.slice a3 n2 k3).ownBlock = some q → x2.heap.size ≤ q) := by rw [← hvv]; exact ff
        subst hvv
        refine hK _ _ cc ?_
        clear hK oo ff cc
        try (simp only [Act.put, List.setIfInBounds_toArray, List.set_cons_zero, List.set_cons_succ])
        refine wpT.take 9 rfl (by kernel_rfl) (fun _ _ _ h => h) rfl (fun w' hw' => by go_simp <;> with_reducible rfl) ?_
        simp only [Act.put, List.setIfInBounds_toArray, List.set_cons_zero, List.set_cons_succ]
        refine wpT.take 10 rfl (by kernel_rfl) (fun _ _ _ h => h) rfl (fun w' hw' => by go_simp <;> with_reducible rfl) ?_
        simp only [Act.put, List.setIfInBounds_toArray, List.set_cons_zero, List.set_cons_succ]
        refine wpT.take 11 rfl (by kernel_rfl) (fun _ _ _ h => h) rfl (fun w' hw' => by go_simp <;> with_reducible rfl) ?_
        simp only [Act.put, List.setIfInBounds_toArray, List.set_cons_zero, List.set_cons_succ]
        refine wpT.done (by kernel_rfl) ?_
        have CX : Hid (Chg (fun _ => False) w5 x3) := (((Chg.refl (fun _ => False) w5).drew.trans CX1.out).trans CX2.out).trans CX3.out
        have O1x : Hid (Pts x3 (.slice a1 n0 k1) P0) := Reads.kept (Reads.kept OX1.out.reads CX2.out (fun _ _ h => h)) CX3.out (fun _ _ h => h)
        have O2x : Hid (Ags x3 (.slice a2 n1 k2) Q1) := Reads.kept OX2.out.reads CX3.out (fun _ _ h => h)
        have O3x : Hid (Ags x3 (.slice a3 n2 k3) Q2) := OX3.out.reads
        have N1x : Hid (∀ q, (Value.slice a1 n0 k1).ownBlock = some q → w5.heap.size ≤ q) := fun q hq => FX1.out q hq
        have N2x : Hid (∀ q, (Value.slice a2 n1 k2).ownBlock = some q → w5.heap.size ≤ q) := fun q hq => by have h1 := FX2.out q hq; have h2 : w5.heap.size ≤ x1.heap.size := CX1.out.size; omega
        have N3x : Hid (∀ q, (Value.slice a3 n2 k3).ownBlock = some q → w5.heap.size ≤ q) := fun q hq => by have h1 := FX3.out q hq; have h2 : w5.heap.size ≤ x1.heap.size := CX1.out.size; have := CX2.out.size; omega
        have C6 : Hid (Chg (fun _ => False) w x3) := C5.out.trans CX.out
        have HS6 : Hid (StIs x3 F R s) := HS5.out.same CX.out
        clear OX1 OX2 OX3 FX1 FX2 FX3 PT HBR HS5d LV FW HA HF HB0 PA1 PA2
        have HB0 : Hid (x3.heap[w.heap.size]? = some (.cells #[.int .i64 lo, .int .i64 hi] 24 (0, 0)) ∧ x3.heap[w.heap.size + 1]? = some (.cells #[.int .i64 p.a, .int .i64 p.b, .int .i64 p.c] 41 (0, 0))) := ⟨CX.out.heap (E5.out.heap (D4.out.heap HB00.out (fun h => h)) (fun h => h)) (fun h => h), CX.out.heap (E5.out.heap (D4.out.heap HB1.out (fun h => h)) (fun h => h)) (fun h => h)⟩
        clear CX1 CX2 CX3
        go_wp2_with fail
        go_loopw [54] (fun ci wr => ∃ k : Nat, k ≤ nt ∧ ci = .int .i64 k ∧ Hid (StIs wr (ext F x3 wr) R ((ts.take k).foldl (fun s now => s.tick p (holdM lo hi) now) s)) ∧ Hid (Chg F x3 wr)) (fun ci _ => nt - (intOf ci).toNat)
        case atStart => exact ⟨0, by omega, rfl, HS6.out.ext, Chg.refl _ _⟩
        case round =>
          obtain ⟨k, hk, rfl, hS, hC⟩ := hrel
          have HZ : Hid (w4.heap.size ≤ w5.heap.size ∧ w5.heap.size ≤ x3.heap.size ∧ x3.heap.size ≤ wr.heap.size ∧ w.heap.size + 2 ≤ w4.heap.size) := ⟨E5.out.size, CX.out.size, hC.out.size, by have := D4.out.size; have := ZW.out; omega⟩
          by_cases hlt : k < nt
          · obtain ⟨x, hx⟩ := at_lt (show k < ts.length by rw [← HNT.out]; exact hlt)
            obtain ⟨g, o, rfl, hg⟩ := HT.out.at HNT.out hx
            have hCw : Chg (fun _ => False) w wr := C6.out.new hC.out (fun q hq => by have := HFF.out q hq; have := HZ.out; omega)
            have qx : wr.cell? ⟨g, o + k, none⟩ = some (.int .i64 x) := hCw.cell hg (fun h => h)
            have hpb := hC.out.heap HB0.out.2 (fun h => by have := HFF.out _ h; have := HZ.out; omega)
            have q2a : wr.cell? ⟨w.heap.size + 1, 0, none⟩ = some (.int .i64 p.a) := by rw [cell_of_heap hpb]; rfl
            have q2b : wr.cell? ⟨w.heap.size + 1, 1, none⟩ = some (.int .i64 p.b) := by rw [cell_of_heap hpb]; rfl
            have q2c : wr.cell? ⟨w.heap.size + 1, 2, none⟩ = some (.int .i64 p.c) := by rw [cell_of_heap hpb]; rfl
            obtain ⟨sk, hsk⟩ : ∃ sk, sk = (ts.take k).foldl (fun s now => s.tick p (holdM lo hi) now) s := ⟨_, rfl⟩
            have e1 : (ts.take (k + 1)).foldl (fun s now => s.tick p (holdM lo hi) now) s = sk.tick p (holdM lo hi) x := by rw [List.take_add_one, hx, hsk, List.foldl_append]; rfl
            rw [← hsk] at hS
            have TC := Lib.hid (tick_c wr (ext F x3 wr) R sk p x (some ⟨b, 0, none⟩) (holdM lo hi) hS.out (HMT.out wr ((E5.out.mono (fun _ _ h => h.elim)).trans ((CX.out.mono (fun _ _ h => h.elim)).trans (hC.out.mono (fun q _ hq => (HFF.out q hq).1)))) _ (fun q hq => by
              rcases hq.1 with h | h
              · exact (HFF.out q h).1
              · have := HZ.out; have := h.1; omega)))
            have E1 := Lib.hid e1
            clear e1 hsk hx hg hCw hpb
            go_wp2_with fail
            refine TC.out.mono ?_
            rintro e w8 ⟨⟨vv, rfl⟩, hs8, c8⟩
            have S8 : Hid (StIs w8 (ext F x3 w8) R ((ts.take (k + 1)).foldl (fun s now => s.tick p (holdM lo hi) now) s)) := by show StIs _ _ _ _; rw [E1.out]; exact ext_two HZ.out.2.2.1 c8.size hs8
            have C8 : Hid (Chg F x3 w8) := hC.out.trans_ext c8
            clear hs8 c8 qx q2a q2b q2c
            go_wp2_with fail
            exact ⟨⟨k + 1, by omega, rfl, S8.out, C8.out⟩, by simp only [intOf]; omega⟩
          · obtain rfl : k = nt := by omega
            obtain ⟨wo, rfl⟩ : ∃ wo, wo = wr := ⟨_, rfl⟩
            obtain ⟨sz, hsz⟩ : ∃ sz, sz = ts.foldl (fun s now => s.tick p (holdM lo hi) now) s := ⟨_, rfl⟩
            have hSZ : StIs wo (ext F x3 wo) R sz := by have h := hS.out; rw [HNT.out, List.take_length, ← hsz] at h; exact h
            have SA : Hid (SeenAs lo hi s sz) := by show SeenAs _ _ _ _; rw [hsz]; exact seen_ticks hlh.out p ts s
            have e0 : inR sz.raw lo hi = P0 := by rw [HP0.out]; exact SA.out.raw
            have e1 : sz.mid.filter (mtR 1 lo hi) = Q1 := by rw [HQ1.out]; exact SA.out.mid
            have e2 : sz.long.filter (mtR 2 lo hi) = Q2 := by rw [HQ2.out]; exact SA.out.long
            have HE1 := Lib.hid e1
            have HE2 := Lib.hid e2
            have HSZ := Lib.hid hSZ
            have PT := Lib.hid (pts0_c wo.drew _ R sz lo hi (hSZ.same (Chg.refl _ wo).drew) P0 e0)
            have HBR : Hid (wo.drew.heap[w.heap.size]? = some (.cells #[.int .i64 lo, .int .i64 hi] 24 (0, 0))) := hC.out.heap HB0.out.1 (fun h => by have := HFF.out _ h; have := HZ.out; omega)
            have O1o : Hid (Pts wo (.slice a1 n0 k1) P0) := Reads.kept O1x.out hC.out (fun q hq h => by have := N1x.out q hq; have := HFF.out q h; omega)
            have O2o : Hid (Ags wo (.slice a2 n1 k2) Q1) := Reads.kept O2x.out hC.out (fun q hq h => by have := N2x.out q hq; have := HFF.out q h; omega)
            have O3o : Hid (Ags wo (.slice a3 n2 k3) Q2) := Reads.kept O3x.out hC.out (fun q hq h => by have := N3x.out q hq; have := HFF.out q h; omega)
            have C7 : Hid (Chg (fun _ => False) w wo) := C6.out.new hC.out (fun q hq => by have := HFF.out q hq; have := HZ.out; omega)
            clear hSZ hsz e0 e1 e2 hS hC O1x O2x O3x N1x N2x N3x HS6 HT HMT SA HB0 HS5
            go_wp2_with fail
            refine wpT.begin (fun _ => False) 12 (by kernel_rfl) rfl ?_
            refine wpT.take 0 rfl (by kernel_rfl) (fun _ _ _ h => h) rfl (fun w' hw' => by go_simp <;> with_reducible rfl) ?_
            simp only [Act.put, List.setIfInBounds_toArray, List.set_cons_zero, List.set_cons_succ]
            refine wpT.take 1 rfl (by kernel_rfl) (fun _ _ _ h => h) rfl (fun w' hw' => exec_load _ _ _ _ rfl rfl (load_rng (hw'.heap HBR.out (fun h => h)))) ?_
            simp only [Act.put, List.setIfInBounds_toArray, List.set_cons_zero, List.set_cons_succ]
            refine wpT.take 3 rfl (by kernel_rfl) (fun _ _ _ h => h) rfl (fun w' hw' => by go_simp <;> with_reducible rfl) ?_
            simp only [Act.put, List.setIfInBounds_toArray, List.set_cons_zero, List.set_cons_succ]
            refine wpT.take 4 rfl (by kernel_rfl) (fun _ _ _ h => h) rfl (fun w' hw' => exec_load _ _ _ _ rfl rfl (load_rng (hw'.heap HBR.out (fun h => h)))) ?_
            simp only [Act.put, List.setIfInBounds_toArray, List.set_cons_zero, List.set_cons_succ]
            refine wpT.take 6 rfl (by kernel_rfl) (fun _ _ _ h => h) rfl (fun w' hw' => by go_simp <;> with_reducible rfl) ?_
            simp only [Act.put, List.setIfInBounds_toArray, List.set_cons_zero, List.set_cons_succ]
            refine wpT.take 7 rfl (by kernel_rfl) (fun _ _ _ h => h) rfl (fun w' hw' => exec_load _ _ _ _ rfl rfl (load_rng (hw'.heap HBR.out (fun h => h)))) ?_
            simp only [Act.put, List.setIfInBounds_toArray, List.set_cons_zero, List.set_cons_succ]
            refine wpT.call 2 rfl (by kernel_rfl) rfl (fun K hK => ?_)
            go_wp2_with fail
            refine (PT.out).mono ?_
            rintro e y1 ⟨vv, rfl, oo, ff, cc⟩
            have CY1 : Hid (Chg (fun _ => False) _ _) := cc
            obtain ⟨b1, l1, hvv⟩ := Owns.form oo
            rw [← HN0.out] at hvv
            have OY1 : Hid (OPts y1 (.slice b1 n0 l1) P0) := by rw [← hvv]; exact oo
            have FY1 : Hid (∀ q, (Value.slice b1 n0 l1).ownBlock = some q → wo.heap.size ≤ q) := by rw [← hvv]; exact ff
            have PB1 := Lib.hid (agg1_c y1 _ R sz lo hi (HSZ.out.same ((Chg.refl (fun _ => False) wo).drew.trans cc)) Q1 HE1.out)
            subst hvv
            refine hK _ _ cc ?_
            clear hK oo ff cc
            try (simp only [Act.put, List.setIfInBounds_toArray, List.set_cons_zero, List.set_cons_succ])
            refine wpT.call 5 rfl (by kernel_rfl) rfl (fun K hK => ?_)
            go_wp2_with fail
            refine (PB1.out).mono ?_
            rintro e y2 ⟨vv, rfl, oo, ff, cc⟩
            have CY2 : Hid (Chg (fun _ => False) _ _) := cc
            obtain ⟨b2, l2, hvv⟩ := Owns.form oo
            rw [← HN1.out] at hvv
            have OY2 : Hid (OAgs y2 (.slice b2 n1 l2) Q1) := by rw [← hvv]; exact oo
            have FY2 : Hid (∀ q, (Value.slice b2 n1 l2).ownBlock = some q → y1.heap.size ≤ q) := by rw [← hvv]; exact ff
            have PB2 := Lib.hid (agg2_c y2 _ R sz lo hi (HSZ.out.same (((Chg.refl (fun _ => False) wo).drew.trans CY1.out).trans cc)) Q2 HE2.out)
            subst hvv
            refine hK _ _ cc ?_
            clear hK oo ff cc
            try (simp only [Act.put, List.setIfInBounds_toArray, List.set_cons_zero, List.set_cons_succ])
            refine wpT.call 8 rfl (by kernel_rfl) rfl (fun K hK => ?_)
            go_wp2_with fail
            refine (PB2.out).mono ?_
            rintro e y3 ⟨vv, rfl, oo, ff, cc⟩
            have CY3 : Hid (Chg (fun _ => False) _ _) := cc
            obtain ⟨b3, l3, hvv⟩ := Owns.form oo
            rw [← HN2.out] at hvv
            have OY3 : Hid (OAgs y3 (.slice b3 n2 l3) Q2) := by rw [← hvv]; exact oo
            have FY3 : Hid (∀ q, (Value.slice b3 n2 l3).ownBlock = some q → y2.heap.size ≤ q) := by rw [← hvv]; exact ff
            subst hvv
            refine hK _ _ cc ?_
            clear hK oo ff cc
            try (simp only [Act.put, List.setIfInBounds_toArray, List.set_cons_zero, List.set_cons_succ])
            refine wpT.take 9 rfl (by kernel_rfl) (fun _ _ _ h => h) rfl (fun w' hw' => by go_simp <;> with_reducible rfl) ?_
            simp only [Act.put, List.setIfInBounds_toArray, List.set_cons_zero, List.set_cons_succ]
            refine wpT.take 10 rfl (by kernel_rfl) (fun _ _ _ h => h) rfl (fun w' hw' => by go_simp <;> with_reducible rfl) ?_
            simp only [Act.put, List.setIfInBounds_toArray, List.set_cons_zero, List.set_cons_succ]
            refine wpT.take 11 rfl (by kernel_rfl) (fun _ _ _ h => h) rfl (fun w' hw' => by go_simp <;> with_reducible rfl) ?_
            simp only [Act.put, List.setIfInBounds_toArray, List.set_cons_zero, List.set_cons_succ]
            refine wpT.done (by kernel_rfl) ?_
            have CY : Hid (Chg (fun _ => False) wo y3) := (((Chg.refl (fun _ => False) wo).drew.trans CY1.out).trans CY2.out).trans CY3.out
            have A1y : Hid (Pts y3 (.slice a1 n0 k1) P0) := Reads.kept O1o.out CY.out (fun _ _ h => h)
            have A2y : Hid (Ags y3 (.slice a2 n1 k2) Q1) := Reads.kept O2o.out CY.out (fun _ _ h => h)
            have A3y : Hid (Ags y3 (.slice a3 n2 k3) Q2) := Reads.kept O3o.out CY.out (fun _ _ h => h)
            have B1y : Hid (Pts y3 (.slice b1 n0 l1) P0) := Reads.kept (Reads.kept OY1.out.reads CY2.out (fun _ _ h => h)) CY3.out (fun _ _ h => h)
            have B2y : Hid (Ags y3 (.slice b2 n1 l2) Q1) := Reads.kept OY2.out.reads CY3.out (fun _ _ h => h)
            have B3y : Hid (Ags y3 (.slice b3 n2 l3) Q2) := OY3.out.reads
            have C9 : Hid (Chg (fun _ => False) w y3) := C7.out.trans CY.out
            clear OY1 OY2 OY3 FY1 FY2 FY3 PT HBR HSZ CY1 CY2 CY3 O1o O2o O3o CY HE1 HE2 PB1 PB2
            go_wp2_with fail
            go_loopw [94] (fun ci wr => ∃ k : Nat, k ≤ n0 ∧ ci = .int .i64 k ∧ Hid (Chg (fun _ => False) y3 wr)) (fun ci _ => n0 - (intOf ci).toNat)
            case atStart => exact ⟨0, by omega, rfl, Chg.refl _ _⟩
            case round =>
              obtain ⟨k, hk, rfl, hC⟩ := hrel
              by_cases hlt : k < n0
              · obtain ⟨x, hx⟩ := at_lt (show k < P0.length by rw [← HN0.out]; exact hlt)
                obtain ⟨ga, oa, rfl, f1, f2, f3⟩ := reads_some (n := n0) (by have := B1y.out; unfold Pts at this; rw [← HN0.out] at this; exact this) (by omega)
                obtain ⟨gb, ob, rfl, f4, f5, f6⟩ := reads_some (n := n0) (by have := A1y.out; unfold Pts at this; rw [← HN0.out] at this; exact this) (by omega)
                have LA : Hid (∀ w', Chg (fun _ => False) wr.drew w' → _) := fun w' hw' => load_pt w' (fun jj u hj => (hC.out.drew.trans hw').cell (f3 jj u hj) (fun h => h)) hx
                have LB : Hid (∀ w', Chg (fun _ => False) wr.drew w' → _) := fun w' hw' => load_pt w' (fun jj u hj => (hC.out.drew.trans hw').cell (f6 jj u hj) (fun h => h)) hx
                clear f1 f2 f3 f4 f5 f6 hx
                have ik : (k : Int) < n0 := by omega
                go_wp2_with fail
                refine wpT.begin (fun _ => False) 9 (by kernel_rfl) rfl ?_
                refine wpT.take 0 rfl (by kernel_rfl) (fun _ _ _ h => h) rfl (fun w' hw' => by go_simp <;> with_reducible rfl) ?_
                simp only [Act.put, List.setIfInBounds_toArray, List.set_cons_zero, List.set_cons_succ]
                refine wpT.take 1 rfl (by kernel_rfl) (fun _ _ _ h => h) rfl (fun w' hw' => by go_simp <;> with_reducible rfl) ?_
                simp only [Act.put, List.setIfInBounds_toArray, List.set_cons_zero, List.set_cons_succ]
                refine wpT.take 2 rfl (by kernel_rfl) (fun _ _ _ h => h) rfl (fun w' hw' => by go_simp <;> with_reducible rfl) ?_
                simp only [Act.put, List.setIfInBounds_toArray, List.set_cons_zero, List.set_cons_succ]
                refine wpT.take 3 rfl (by kernel_rfl) (fun _ _ _ h => h) rfl (fun w' hw' => exec_load _ _ _ _ rfl rfl (LA.out w' hw')) ?_
                simp only [Act.put, List.setIfInBounds_toArray, List.set_cons_zero, List.set_cons_succ]
                refine wpT.take 4 rfl (by kernel_rfl) (fun _ _ _ h => h) rfl (fun w' hw' => by go_simp <;> with_reducible rfl) ?_
                simp only [Act.put, List.setIfInBounds_toArray, List.set_cons_zero, List.set_cons_succ]
                refine wpT.take 5 rfl (by kernel_rfl) (fun _ _ _ h => h) rfl (fun w' hw' => by go_simp <;> with_reducible rfl) ?_
                simp only [Act.put, List.setIfInBounds_toArray, List.set_cons_zero, List.set_cons_succ]
                refine wpT.take 6 rfl (by kernel_rfl) (fun _ _ _ h => h) rfl (fun w' hw' => by go_simp <;> with_reducible rfl) ?_
                simp only [Act.put, List.setIfInBounds_toArray, List.set_cons_zero, List.set_cons_succ]
                refine wpT.take 7 rfl (by kernel_rfl) (fun _ _ _ h => h) rfl (fun w' hw' => exec_load _ _ _ _ rfl rfl (LB.out w' hw')) ?_
                simp only [Act.put, List.setIfInBounds_toArray, List.set_cons_zero, List.set_cons_succ]
                refine wpT.take (v := .bool false) 8 rfl (by kernel_rfl) (fun _ _ _ h => h) rfl (fun w' hw' => exec_neq _ _ _ _ rfl _ _ _ rfl rfl (by go_simp) (neq_pt w' x)) ?_
                simp only [Act.put, List.setIfInBounds_toArray, List.set_cons_zero, List.set_cons_succ]
                refine wpT.done (by kernel_rfl) ?_
                go_wp2_with fail
                exact ⟨⟨k + 1, by omega, rfl, hC.out.drew⟩, by simp only [intOf]; omega⟩
              · obtain rfl : k = n0 := by omega
                have hC0 := hC
                clear hC
                obtain ⟨wo94, rfl⟩ : ∃ wo, wo = wr := ⟨_, rfl⟩
                clear B1y A1y
                go_wp2_with fail
                go_loopw [109] (fun ci wr => ∃ k : Nat, k ≤ n1 ∧ ci = .int .i64 k ∧ Hid (Chg (fun _ => False) y3 wr)) (fun ci _ => n1 - (intOf ci).toNat)
                case atStart => exact ⟨0, by omega, rfl, hC0.out⟩
                case round =>
                  obtain ⟨k, hk, rfl, hC⟩ := hrel
                  by_cases hlt : k < n1
                  · obtain ⟨x, hx⟩ := at_lt (show k < Q1.length by rw [← HN1.out]; exact hlt)
                    obtain ⟨ga, oa, rfl, f1, f2, f3⟩ := reads_some (n := n1) (by have := B2y.out; unfold Ags at this; rw [← HN1.out] at this; exact this) (by omega)
                    obtain ⟨gb, ob, rfl, f4, f5, f6⟩ := reads_some (n := n1) (by have := A2y.out; unfold Ags at this; rw [← HN1.out] at this; exact this) (by omega)
                    have LA : Hid (∀ w', Chg (fun _ => False) wr.drew w' → _) := fun w' hw' => load_agE w' (fun jj u hj => (hC.out.drew.trans hw').cell (f3 jj u hj) (fun h => h)) hx
                    have LB : Hid (∀ w', Chg (fun _ => False) wr.drew w' → _) := fun w' hw' => load_agE w' (fun jj u hj => (hC.out.drew.trans hw').cell (f6 jj u hj) (fun h => h)) hx
                    clear f1 f2 f3 f4 f5 f6 hx
                    have ik : (k : Int) < n1 := by omega
                    go_wp2_with fail
                    refine wpT.begin (fun _ => False) 9 (by kernel_rfl) rfl ?_
                    refine wpT.take 0 rfl (by kernel_rfl) (fun _ _ _ h => h) rfl (fun w' hw' => by go_simp <;> with_reducible rfl) ?_
                    simp only [Act.put, List.setIfInBounds_toArray, List.set_cons_zero, List.set_cons_succ]
                    refine wpT.take 1 rfl (by kernel_rfl) (fun _ _ _ h => h) rfl (fun w' hw' => by go_simp <;> with_reducible rfl) ?_
                    simp only [Act.put, List.setIfInBounds_toArray, List.set_cons_zero, List.set_cons_succ]
                    refine wpT.take 2 rfl (by kernel_rfl) (fun _ _ _ h => h) rfl (fun w' hw' => by go_simp <;> with_reducible rfl) ?_
                    simp only [Act.put, List.setIfInBounds_toArray, List.set_cons_zero, List.set_cons_succ]
                    refine wpT.take 3 rfl (by kernel_rfl) (fun _ _ _ h => h) rfl (fun w' hw' => exec_load _ _ _ _ rfl rfl (LA.out w' hw')) ?_
                    simp only [Act.put, List.setIfInBounds_toArray, List.set_cons_zero, List.set_cons_succ]
                    refine wpT.take 4 rfl (by kernel_rfl) (fun _ _ _ h => h) rfl (fun w' hw' => by go_simp <;> with_reducible rfl) ?_
                    simp only [Act.put, List.setIfInBounds_toArray, List.set_cons_zero, List.set_cons_succ]
                    refine wpT.take 5 rfl (by kernel_rfl) (fun _ _ _ h => h) rfl (fun w' hw' => by go_simp <;> with_reducible rfl) ?_
                    simp only [Act.put, List.setIfInBounds_toArray, List.set_cons_zero, List.set_cons_succ]
                    refine wpT.take 6 rfl (by kernel_rfl) (fun _ _ _ h => h) rfl (fun w' hw' => by go_simp <;> with_reducible rfl) ?_
                    simp only [Act.put, List.setIfInBounds_toArray, List.set_cons_zero, List.set_cons_succ]
                    refine wpT.take 7 rfl (by kernel_rfl) (fun _ _ _ h => h) rfl (fun w' hw' => exec_load _ _ _ _ rfl rfl (LB.out w' hw')) ?_
                    simp only [Act.put, List.setIfInBounds_toArray, List.set_cons_zero, List.set_cons_succ]
                    refine wpT.take (v := .bool false) 8 rfl (by kernel_rfl) (fun _ _ _ h => h) rfl (fun w' hw' => exec_neq _ _ _ _ rfl _ _ _ rfl rfl (by go_simp) (neq_ag w' x)) ?_
                    simp only [Act.put, List.setIfInBounds_toArray, List.set_cons_zero, List.set_cons_succ]
                    refine wpT.done (by kernel_rfl) ?_
                    go_wp2_with fail
                    exact ⟨⟨k + 1, by omega, rfl, hC.out.drew⟩, by simp only [intOf]; omega⟩
                  · obtain rfl : k = n1 := by omega
                    have hC0 := hC
                    clear hC
                    obtain ⟨wo109, rfl⟩ : ∃ wo, wo = wr := ⟨_, rfl⟩
                    clear B2y A2y
                    go_wp2_with fail
                    go_loopw [124] (fun ci wr => ∃ k : Nat, k ≤ n2 ∧ ci = .int .i64 k ∧ Hid (Chg (fun _ => False) y3 wr)) (fun ci _ => n2 - (intOf ci).toNat)
                    case atStart => exact ⟨0, by omega, rfl, hC0.out⟩
                    case round =>
                      obtain ⟨k, hk, rfl, hC⟩ := hrel
                      by_cases hlt : k < n2
                      · obtain ⟨x, hx⟩ := at_lt (show k < Q2.length by rw [← HN2.out]; exact hlt)
                        obtain ⟨ga, oa, rfl, f1, f2, f3⟩ := reads_some (n := n2) (by have := B3y.out; unfold Ags at this; rw [← HN2.out] at this; exact this) (by omega)
                        obtain ⟨gb, ob, rfl, f4, f5, f6⟩ := reads_some (n := n2) (by have := A3y.out; unfold Ags at this; rw [← HN2.out] at this; exact this) (by omega)
                        have LA : Hid (∀ w', Chg (fun _ => False) wr.drew w' → _) := fun w' hw' => load_agE w' (fun jj u hj => (hC.out.drew.trans hw').cell (f3 jj u hj) (fun h => h)) hx
                        have LB : Hid (∀ w', Chg (fun _ => False) wr.drew w' → _) := fun w' hw' => load_agE w' (fun jj u hj => (hC.out.drew.trans hw').cell (f6 jj u hj) (fun h => h)) hx
                        clear f1 f2 f3 f4 f5 f6 hx
                        have ik : (k : Int) < n2 := by omega
                        go_wp2_with fail
                        refine wpT.begin (fun _ => False) 9 (by kernel_rfl) rfl ?_
                        refine wpT.take 0 rfl (by kernel_rfl) (fun _ _ _ h => h) rfl (fun w' hw' => by go_simp <;> with_reducible rfl) ?_
                        simp only [Act.put, List.setIfInBounds_toArray, List.set_cons_zero, List.set_cons_succ]
                        refine wpT.take 1 rfl (by kernel_rfl) (fun _ _ _ h => h) rfl (fun w' hw' => by go_simp <;> with_reducible rfl) ?_
                        simp only [Act.put, List.setIfInBounds_toArray, List.set_cons_zero, List.set_cons_succ]
                        refine wpT.take 2 rfl (by kernel_rfl) (fun _ _ _ h => h) rfl (fun w' hw' => by go_simp <;> with_reducible rfl) ?_
                        simp only [Act.put, List.setIfInBounds_toArray, List.set_cons_zero, List.set_cons_succ]
                        refine wpT.take 3 rfl (by kernel_rfl) (fun _ _ _ h => h) rfl (fun w' hw' => exec_load _ _ _ _ rfl rfl (LA.out w' hw')) ?_
                        simp only [Act.put, List.setIfInBounds_toArray, List.set_cons_zero, List.set_cons_succ]
                        refine wpT.take 4 rfl (by kernel_rfl) (fun _ _ _ h => h) rfl (fun w' hw' => by go_simp <;> with_reducible rfl) ?_
                        simp only [Act.put, List.setIfInBounds_toArray, List.set_cons_zero, List.set_cons_succ]
                        refine wpT.take 5 rfl (by kernel_rfl) (fun _ _ _ h => h) rfl (fun w' hw' => by go_simp <;> with_reducible rfl) ?_
                        simp only [Act.put, List.setIfInBounds_toArray, List.set_cons_zero, List.set_cons_succ]
                        refine wpT.take 6 rfl (by kernel_rfl) (fun _ _ _ h => h) rfl (fun w' hw' => by go_simp <;> with_reducible rfl) ?_
                        simp only [Act.put, List.setIfInBounds_toArray, List.set_cons_zero, List.set_cons_succ]
                        refine wpT.take 7 rfl (by kernel_rfl) (fun _ _ _ h => h) rfl (fun w' hw' => exec_load _ _ _ _ rfl rfl (LB.out w' hw')) ?_
                        simp only [Act.put, List.setIfInBounds_toArray, List.set_cons_zero, List.set_cons_succ]
                        refine wpT.take (v := .bool false) 8 rfl (by kernel_rfl) (fun _ _ _ h => h) rfl (fun w' hw' => exec_neq _ _ _ _ rfl _ _ _ rfl rfl (by go_simp) (neq_ag w' x)) ?_
                        simp only [Act.put, List.setIfInBounds_toArray, List.set_cons_zero, List.set_cons_succ]
                        refine wpT.done (by kernel_rfl) ?_
                        go_wp2_with fail
                        exact ⟨⟨k + 1, by omega, rfl, hC.out.drew⟩, by simp only [intOf]; omega⟩
                      · obtain rfl : k = n2 := by omega
                        have hC0 := hC
                        clear hC
                        obtain ⟨wo124, rfl⟩ : ∃ wo, wo = wr := ⟨_, rfl⟩
                        clear B3y A3y
                        go_wp2_with fail
                        go_ret
                        exact ⟨rfl, C9.out.trans hC0.out⟩
      · have i1 : (cd != 0) = true := by simp [hc0]
        go_wp2_with fail
        refine AC.out.mono ?_
        rintro e w4 ⟨rfl, _, c4⟩
        have C4 : Hid (Chg (fun _ => False) w w4) := C3.out.new c4 (fun k hk => by have := Z3.out; omega)
        clear c4
        go_wp2_with fail
        go_ret
        exact ⟨rfl, C4.out⟩
end Go.Proofs.Ytmnnahkaenikkaa
