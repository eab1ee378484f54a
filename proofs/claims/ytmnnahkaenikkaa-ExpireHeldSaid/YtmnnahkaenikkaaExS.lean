/- ExSer, Held, merged. -/
import Derived.Test.YtmnnahkaenikkaaExD
/- expire.Series. -/
namespace Go.Proofs.Ytmnnahkaenikkaa
open Go.RowKit Go.Cat
def exUp (s : St) (k : Nat) : Int := if k = 0 then s.m1 else if k = 1 then s.m2 else 1099511631376
/-- The stock behind k tiers. -/
def St.exK (s : St) (p : Pol) (now : Int) (mt : Int → Int → Bool) : Nat → St
  | 0 => s
  | k + 1 => (s.exK p now mt k).dropped k (gnE p k now (exUp (s.exK p now mt k) k) mt)
def St.exN (s : St) (p : Pol) (now : Int) (mt : Int → Int → Bool) (k : Nat) : Int := (s.exK p now mt k).len k - (s.exK p now mt (k + 1)).len k
def St.exO (s : St) (p : Pol) (now : Int) (mt : Int → Int → Bool) (k : Nat) : Array Value := #[.int .i64 (if 0 < k then s.exN p now mt 0 else 0), .int .i64 (if 1 < k then s.exN p now mt 1 else 0), .int .i64 (if 2 < k then s.exN p now mt 2 else 0)]
set_option maxRecDepth 100000 in
set_option maxHeartbeats 4000000 in
theorem ser_c (w : World) (F : Nat → Prop) (R : Nat) (s : St) (p : Pol) (now : Int) (sr : List UInt8) (pt : Option Addr) (mt : Int → Int → Bool) (h : StIs w F R s) (hr : rightE p now = true) (hM : MeetsS w (fun k => F k ∧ k < w.heap.size) (.pointer pt) sr mt) :
    Calls Try.prog 20 #[.pointer (some ⟨R, 0, none⟩), .string ⟨sr.toArray⟩, .pointer pt, .agg #[.int .i64 p.a, .int .i64 p.b, .int .i64 p.c], .int .i64 now] w fun e w' => e = .returned (.tuple #[.agg #[.int .i64 (s.exN p now mt 0), .int .i64 (s.exN p now mt 1), .int .i64 (s.exN p now mt 2)], .int .i64 0]) ∧ StIs w' (ext F w w') R (s.exK p now mt 3) ∧ Chg F w w' := by
  have hnow : 0 ≤ now ∧ now ≤ 1099511627776 := by
    unfold rightE at hr
    exact of_decide_eq_true (Bool.and_eq_true _ _ ▸ hr).2
  obtain ⟨F0, hF0⟩ : ∃ F0 : Nat → Prop, F0 = fun k => F k ∧ k < w.heap.size := ⟨_, rfl⟩
  have HF0 : Hid (∀ k, F0 k ↔ F k ∧ k < w.heap.size) := fun k => by rw [hF0]
  obtain ⟨W, hW⟩ : ∃ W, W = (((((w.alloc (.cells #[.string ⟨sr.toArray⟩] 9)).alloc (.cells #[.pointer pt] 43)).alloc (.cells #[.int .i64 p.a, .int .i64 p.b, .int .i64 p.c] 41)).alloc (.cells #[.int .i64 now] 2)).alloc (.cells #[.int .i64 0, .int .i64 0, .int .i64 0] 54)).alloc (.cells #[.int .i64 0, .int .i64 0, .int .i64 0] 54) := ⟨_, rfl⟩
  have AN : ∀ (v : World) (o : Obj), Chg (fun _ => False) v (v.alloc o) := fun v o => (Chg.refl _ v).alloc o
  have cW : Chg (fun _ => False) w W := by rw [hW]; exact ((((((Chg.refl _ w).alloc _).alloc _).alloc _).alloc _).alloc _).alloc _
  have zW : W.heap.size = w.heap.size + 6 := by rw [hW]; simp
  have hb0 : W.heap[w.heap.size]? = some (.cells #[.string ⟨sr.toArray⟩] 9 (0, 0)) := by rw [hW]; exact ((((((Chg.refl (fun _ => False) _).alloc _).alloc _).alloc _).alloc _).alloc _).heap (heap_at_new w _ _ rfl) (fun h => h)
  have hb1 : W.heap[w.heap.size + 1]? = some (.cells #[.pointer pt] 43 (0, 0)) := by rw [hW]; exact (((((Chg.refl (fun _ => False) _).alloc _).alloc _).alloc _).alloc _).heap (heap_at_new _ _ _ (by simp)) (fun h => h)
  have hb2 : W.heap[w.heap.size + 1 + 1]? = some (.cells #[.int .i64 p.a, .int .i64 p.b, .int .i64 p.c] 41 (0, 0)) := by rw [hW]; exact ((((Chg.refl (fun _ => False) _).alloc _).alloc _).alloc _).heap (heap_at_new _ _ _ (by simp)) (fun h => h)
  have hb3 : W.heap[w.heap.size + 1 + 1 + 1]? = some (.cells #[.int .i64 now] 2 (0, 0)) := by rw [hW]; exact (((Chg.refl (fun _ => False) _).alloc _).alloc _).heap (heap_at_new _ _ _ (by simp)) (fun h => h)
  have hb4 : W.heap[w.heap.size + 1 + 1 + 1 + 1]? = some (.cells #[.int .i64 0, .int .i64 0, .int .i64 0] 54 (0, 0)) := by rw [hW]; exact ((Chg.refl (fun _ => False) _).alloc _).heap (heap_at_new _ _ _ (by simp)) (fun h => h)
  have hb5 : W.heap[w.heap.size + 1 + 1 + 1 + 1 + 1]? = some (.cells #[.int .i64 0, .int .i64 0, .int .i64 0] 54 (0, 0)) := by rw [hW]; exact heap_at_new _ _ _ (by simp)
  have RC := Lib.hid (show Calls Try.prog 39 #[.pointer (some ⟨R, 0, none⟩), .agg #[.int .i64 p.a, .int .i64 p.b, .int .i64 p.c], .int .i64 now] W fun e w' => e = .returned (.bool true) ∧ Chg (fun _ => False) W w' by rw [← hr]; exact exright_c W R p now)
  have HO := Lib.hid (show StIs W F0 R s by rw [hF0]; exact h.old.same cW)
  have q2a : W.cell? ⟨w.heap.size + 1 + 1, 0, none⟩ = some (.int .i64 p.a) := by rw [cell_of_heap hb2]; rfl
  have q2b : W.cell? ⟨w.heap.size + 1 + 1, 1, none⟩ = some (.int .i64 p.b) := by rw [cell_of_heap hb2]; rfl
  have q2c : W.cell? ⟨w.heap.size + 1 + 1, 2, none⟩ = some (.int .i64 p.c) := by rw [cell_of_heap hb2]; rfl
  have q3 : W.cell? ⟨w.heap.size + 1 + 1 + 1, 0, none⟩ = some (.int .i64 now) := by rw [cell_of_heap hb3]; rfl
  have HCAP : Hid (∀ (S : Nat → Prop) (V : World) (b1 b3 : Nat) (up : Int) (t : Nat), Chg S W V → (∀ k, S k → k < w.heap.size ∨ k = w.heap.size + 1 + 1 + 1 + 1 + 1 ∨ w.heap.size + 6 ≤ k) → ∀ T : Nat → Prop, (∀ k, T k → k < w.heap.size ∨ w.heap.size + 6 ≤ k) → ¬ T b1 → ¬ T b3 → V.cell? ⟨b1, 0, none⟩ = some (.int .i64 up) → V.cell? ⟨b3, 0, none⟩ = some (.int .i64 t) →
      Caps V T b1 (w.heap.size + 1 + 1) b3 (w.heap.size + 1 + 1 + 1) (w.heap.size + 1) w.heap.size up p t now (.pointer pt) sr) := fun S V b1 b3 up t c hS T hT x1 x3 y1 y3 => by
    have no : ∀ k, w.heap.size ≤ k → k < w.heap.size + 1 + 1 + 1 + 1 + 1 → ¬ S k := fun k k1 k2 e => by have := hS k e; omega
    have nt : ∀ k, w.heap.size ≤ k → k < w.heap.size + 1 + 1 + 1 + 1 + 1 → ¬ T k := fun k k1 k2 e => by have := hT k e; omega
    have r0 := c.heap hb0 (no _ (by omega) (by omega))
    have r1 := c.heap hb1 (no _ (by omega) (by omega))
    have r2 := c.heap hb2 (no _ (by omega) (by omega))
    have r3 := c.heap hb3 (no _ (by omega) (by omega))
    exact ⟨x1, nt _ (by omega) (by omega), x3, nt _ (by omega) (by omega), nt _ (by omega) (by omega), nt _ (by omega) (by omega), y1, ⟨by rw [cell_of_heap r2]; rfl, by rw [cell_of_heap r2]; rfl, by rw [cell_of_heap r2]; rfl⟩, y3, by rw [cell_of_heap r3]; rfl, by rw [cell_of_heap r1]; rfl, by rw [cell_of_heap r0]; rfl⟩
  have HM : Hid (∀ (V : World) (T : Nat → Prop), Chg F0 w V → (∀ k, k < w.heap.size → T k → F0 k) → MeetsS V T (.pointer pt) sr mt) := fun V T c hT => by
    rw [hF0] at c hT
    exact hM.at c hT
  have HB5 := Lib.hid hb5
  have HB4 := Lib.hid hb4
  have CW := Lib.hid cW
  have HW := Lib.hid hW
  have ZW := Lib.hid zW
  have HN := Lib.hid hnow
  rw [hW] at q2a q2b q2c q3
  clear hF0 hM h hr cW zW hb0 hb1 hb2 hb3 hb4 hb5 hW hnow
  go_enter Try.func20, Try.ntmps20
  go_wp2_with fail
  rw [← HW.out]
  refine RC.out.mono ?_
  rintro e w1 ⟨rfl, c1⟩
  have C1 := Lib.hid c1
  clear c1 q2a q2b q2c q3
  go_wp2_with fail
  go_loopw [21] (fun ci wr => ∃ k : Nat, k ≤ 3 ∧ ci = .int .i64 k ∧ Hid (StIs wr (ext F0 W wr) R (s.exK p now mt k)) ∧ Hid (wr.heap[w.heap.size + 1 + 1 + 1 + 1 + 1]? = some (.cells (s.exO p now mt k) 54 (0, 0))) ∧ Hid (Chg (fun q => F0 q ∨ q = w.heap.size + 1 + 1 + 1 + 1 + 1) W wr)) (fun ci _ => 3 - (intOf ci).toNat)
  case atStart => exact ⟨0, by omega, rfl, (HO.out.same C1.out).ext, C1.out.heap HB5.out (fun h => h), C1.out.mono (fun _ _ h => h.elim)⟩
  case round =>
    obtain ⟨k, hk, rfl, hS, hO, hC⟩ := hrel
    have hWr : Hid (Chg F0 w wr) := (CW.out.mono (fun _ _ h => h.elim)).trans' hC.out (fun q hq h => by
      have := ZW.out
      rcases h with h | h
      · exact h
      · omega)
    rcases (show k = 0 ∨ k = 1 ∨ k = 2 ∨ k = 3 by omega) with rfl | rfl | rfl | rfl
    · obtain ⟨sK, hsK⟩ : ∃ sK, sK = s.exK p now mt 0 := ⟨_, rfl⟩
      obtain ⟨up, hup⟩ : ∃ up, up = exUp sK 0 := ⟨_, rfl⟩
      obtain ⟨Fc, hFc⟩ : ∃ Fc, Fc = ext F0 W wr := ⟨_, rfl⟩
      have hF : ∀ q, Fc q → q < w.heap.size ∨ (w.heap.size + 6 ≤ q ∧ q < wr.heap.size) := fun q hq => by
        rw [hFc] at hq
        have := ZW.out
        rcases hq with hq | hq
        · exact .inl ((HF0.out q).1 hq).2
        · exact .inr ⟨by omega, hq.2⟩
      have hF1 : ∀ q, q < w.heap.size → Fc q → F0 q := fun q h1 hq => by
        rw [hFc] at hq
        have := ZW.out
        rcases hq with hq | hq
        · exact hq
        · omega
      have hS1 : StIs wr Fc R sK := by rw [hsK, hFc]; exact hS.out
      obtain ⟨Wa, hWa⟩ : ∃ W, W = wr.alloc (.cells #[.int .i64 0] 3) := ⟨_, rfl⟩
      have ca : Chg (fun _ => False) wr Wa := by rw [hWa]; exact (Chg.refl _ wr).alloc _
      have za : Wa.heap.size = wr.heap.size + 1 := by rw [hWa]; simp
      have hA1 : Wa.heap[wr.heap.size]? = some (.cells #[.int .i64 0] 3 (0, 0)) := by rw [hWa]; exact heap_at_new _ _ _ rfl
      have EC : Hid (Calls Try.prog 40 #[.pointer (some ⟨R, 0, none⟩), .int .i64 0] Wa fun e w' => e = .returned (.int .i64 up) ∧ Wa = w') := by show Calls _ _ _ _ _; rw [hup]; exact exrolled_c Wa Fc R sK 0 (by omega) (hS1.same ca)
      obtain ⟨Wb, hWb⟩ : ∃ W, W = Wa.alloc (.cells #[.int .i64 up] 2) := ⟨_, rfl⟩
      have cb : Chg (fun _ => False) Wa Wb := by rw [hWb]; exact (Chg.refl _ Wa).alloc _
      have hB1 : Wb.heap[Wa.heap.size]? = some (.cells #[.int .i64 up] 2 (0, 0)) := by rw [hWb]; exact heap_at_new _ _ _ rfl
      have hB3 := cb.heap hA1 (fun h => h)
      have cd : Chg (fun _ => False) wr Wb.drew := (ca.trans cb).drew
      have NT1 : Hid (¬ Fc Wa.heap.size) := fun e => by have := hF _ e; have := hWr.out.size; omega
      have NT3 : Hid (¬ Fc wr.heap.size) := fun e => by have := hF _ e; have := hWr.out.size; omega
      have NT5 : Hid (¬ Fc (w.heap.size + 1 + 1 + 1 + 1 + 1)) := fun e => by have := hF _ e; omega
      have G1 := ser1_c Wb.drew Fc Wa.heap.size (w.heap.size + 1 + 1) wr.heap.size (w.heap.size + 1 + 1 + 1) (w.heap.size + 1) w.heap.size up p 0 now (by omega) HN.out.1 HN.out.2 (.pointer pt) sr mt
        (HCAP.out _ Wb.drew Wa.heap.size wr.heap.size up 0 (hC.out.trans (cd.mono (fun _ _ h => h.elim))) (fun q hq => by
          rcases hq with hq | hq
          · exact .inl ((HF0.out q).1 hq).2
          · exact .inr (.inl hq)) Fc (fun q hq => by
          have := hF q hq
          omega) NT1.out NT3.out (by show Wb.cell? _ = _; rw [cell_of_heap hB1]; rfl) (by show Wb.cell? _ = _; rw [cell_of_heap hB3]; rfl))
        (HM.out Wb.drew Fc (hWr.out.trans (cd.mono (fun _ _ h => h.elim))) hF1)
      have DC := drop_c Wb.drew Fc R sK 0 (by omega) Wa.heap.size (w.heap.size + 1 + 1) wr.heap.size (w.heap.size + 1 + 1 + 1) (w.heap.size + 1) w.heap.size _ (hS1.same cd) (fun W2 x y c2 => G1 W2 x y (c2.mono (fun _ _ h => h.1)))
      have hs' : sK.dropped 0 (gnE p 0 now up mt) = s.exK p now mt (1) := by rw [hup, hsK]; rfl
      rw [hs'] at DC
      obtain ⟨nK, hnK⟩ : ∃ nK, nK = sK.len 0 - (s.exK p now mt (1)).len 0 := ⟨_, rfl⟩
      rw [← hnK] at DC
      have HE : Hid (nK = s.exN p now mt 0) := by show _ = _; rw [hnK, hsK]; rfl
      unfold six at DC
      have DC := Lib.hid DC
      have Q13 : Hid (Wb.cell? ⟨wr.heap.size, 0, none⟩ = some (.int .i64 0)) := by show _ = _; rw [cell_of_heap hB3]; rfl
      have q13 : Wa.cell? ⟨wr.heap.size, 0, none⟩ = some (.int .i64 0) := by rw [cell_of_heap hA1]; rfl
      have OB : Hid (Wb.drew.heap[w.heap.size + 1 + 1 + 1 + 1 + 1]? = some (.cells (s.exO p now mt 0) 54 (0, 0))) := cd.heap hO.out (fun h => h)
      have HF := Lib.hid hF
      have CD := Lib.hid cd
      have HWa := Lib.hid hWa
      have HWb := Lib.hid hWb
      have HFC := Lib.hid hFc
      clear hF hF1 hS1 hsK hup hFc hWa ca za hA1 hWb cb hB1 hB3 cd G1 hs' hnK
      go_wp2_with fail
      rw [← HWa.out]
      refine EC.out.mono ?_
      rintro e wx ⟨rfl, rfl⟩
      go_wp2_with fail
      rw [← HWb.out]
      clear q13
      refine wpZ.begin 6 (Fc) 7 (by kernel_rfl) rfl ?_
      refine wpZ.ld 0 rfl (by kernel_rfl) (fun _ _ _ _ h => h) rfl _ _ rfl (by kernel_rfl) ⟨wr.heap.size, 0, none⟩ rfl _ (Q13.out) (fun h => NT3.out h) ?_
      simp only [Act.put, List.setIfInBounds_toArray, List.set_cons_zero, List.set_cons_succ]
      refine wpZ.take 1 rfl (by kernel_rfl) (fun _ _ _ h => h) rfl (fun w' hw' => by go_simp <;> with_reducible rfl) ?_
      simp only [Act.put, List.setIfInBounds_toArray, List.set_cons_zero, List.set_cons_succ]
      refine wpZ.ld 2 rfl (by kernel_rfl) (fun _ _ _ _ h => h) rfl _ _ rfl (by kernel_rfl) ⟨wr.heap.size, 0, none⟩ rfl _ (Q13.out) (fun h => NT3.out h) ?_
      simp only [Act.put, List.setIfInBounds_toArray, List.set_cons_zero, List.set_cons_succ]
      refine wpZ.take (v := .func (.func 42) #[] #[.pointer (some ⟨Wa.heap.size, 0, none⟩), .pointer (some ⟨w.heap.size + 1 + 1, 0, none⟩), .pointer (some ⟨wr.heap.size, 0, none⟩), .pointer (some ⟨w.heap.size + 1 + 1 + 1, 0, none⟩), .pointer (some ⟨w.heap.size + 1, 0, none⟩), .pointer (some ⟨w.heap.size, 0, none⟩)]) 3 rfl (by kernel_rfl) (fun _ _ _ h => h) rfl (fun w' hw' => by go_simp <;> with_reducible rfl) ?_
      simp only [Act.put, List.setIfInBounds_toArray, List.set_cons_zero, List.set_cons_succ]
      refine wpZ.call 4 rfl (by kernel_rfl) rfl (fun K hK => ?_)
      go_wp2_with fail
      refine DC.out.mono ?_
      rintro e w6 ⟨rfl, k1, k2⟩
      have K1 := Lib.hid k1
      have K2 := Lib.hid k2
      have HO6 := Lib.hid (k2.heap OB.out NT5.out)
      have C6 : Hid (w6.cell? ⟨w.heap.size + 1 + 1 + 1 + 1 + 1, 0, none⟩ = some (.int .i64 0)) := by show _ = _; rw [cell_of_heap HO6.out]; rfl
      have F6 : Hid (w6.frozen? ⟨w.heap.size + 1 + 1 + 1 + 1 + 1, 0, none⟩ = false) := frozen_of_heap HO6.out _
      refine hK _ _ k2 ?_
      clear hK k1 k2
      try (simp only [Act.put, List.setIfInBounds_toArray, List.set_cons_zero, List.set_cons_succ])
      refine wpZ.take 5 rfl (by kernel_rfl) (fun _ _ _ h => h) rfl (fun w' hw' => by go_simp <;> with_reducible rfl) ?_
      simp only [Act.put, List.setIfInBounds_toArray, List.set_cons_zero, List.set_cons_succ]
      refine wpZ.last1 rfl (by kernel_rfl) (by kernel_rfl) rfl _ _ _ rfl (by kernel_rfl) (⟨w.heap.size + 1 + 1 + 1 + 1 + 1, 0, none⟩) rfl (.int .i64 nK) rfl (.int .i64 0) (C6.out) (F6.out) rfl ?_
      simp only [Act.put, List.setIfInBounds_toArray, List.set_cons_zero, List.set_cons_succ]
      have c7 : Chg (fun q => q = w.heap.size + 1 + 1 + 1 + 1 + 1) w6 (w6.setCell ⟨w.heap.size + 1 + 1 + 1 + 1 + 1, 0, none⟩ (.int .i64 nK)) := Chg.setCell (S := fun q => q = w.heap.size + 1 + 1 + 1 + 1 + 1) (Chg.refl _ w6) (p := ⟨w.heap.size + 1 + 1 + 1 + 1 + 1, 0, none⟩) (fun _ => rfl) _
      have o7 := Cat.heap_setCell_same HO6.out 0 (.int .i64 nK)
      obtain ⟨w7, hw7⟩ : ∃ w7, w7 = w6.setCell ⟨w.heap.size + 1 + 1 + 1 + 1 + 1, 0, none⟩ (.int .i64 nK) := ⟨_, rfl⟩
      rw [← hw7] at c7 o7 ⊢
      have z1 := CD.out.size
      have z2 := K2.out.size
      have z3 := c7.size
      have z4 := hWr.out.size
      have z5 := hC.out.size
      have z6 := ZW.out
      have f1 : StIs w7 (ext F0 W w7) R (s.exK p now mt (1)) := (K1.out.kept c7 (fun q hq e => by
        have e : q = w.heap.size + 1 + 1 + 1 + 1 + 1 := e
        rcases hq with hq | hq
        · have := HF.out q hq; omega
        · have h1 : Wb.drew.heap.size ≤ q := hq.1; omega)).mono (fun q hq => by
        rcases hq with hq | hq
        · rw [HFC.out] at hq
          rcases hq with hq | hq
          · exact .inl hq
          · exact .inr ⟨hq.1, by omega⟩
        · have h1 : Wb.drew.heap.size ≤ q := hq.1
          have h2 : q < w6.heap.size := hq.2
          exact .inr ⟨by omega, by omega⟩)
      have f3 : Chg (fun q => F0 q ∨ q = w.heap.size + 1 + 1 + 1 + 1 + 1) W w7 := ((hC.out.trans (CD.out.mono (fun _ _ h => h.elim))).trans' K2.out (fun q h1 hq => by
        rw [HFC.out] at hq
        rcases hq with hq | hq
        · exact .inl hq
        · have h2 : W.heap.size ≤ q := hq.1; omega)).trans' c7 (fun q _ hq => .inr hq)
      have f2 : w7.heap[w.heap.size + 1 + 1 + 1 + 1 + 1]? = some (.cells (s.exO p now mt (1)) 54 (0, 0)) := by rw [o7, HE.out]; rfl
      have F1 := Lib.hid f1
      have F2 := Lib.hid f2
      have F3 := Lib.hid f3
      clear c7 o7 hw7 z1 z2 z3 z4 z5 z6 f1 f2 f3
      go_wp2_with fail
      exact ⟨⟨1, by omega, rfl, F1.out, F2.out, F3.out⟩, by simp only [intOf]; omega⟩
    · obtain ⟨sK, hsK⟩ : ∃ sK, sK = s.exK p now mt 1 := ⟨_, rfl⟩
      obtain ⟨up, hup⟩ : ∃ up, up = exUp sK 1 := ⟨_, rfl⟩
      obtain ⟨Fc, hFc⟩ : ∃ Fc, Fc = ext F0 W wr := ⟨_, rfl⟩
      have hF : ∀ q, Fc q → q < w.heap.size ∨ (w.heap.size + 6 ≤ q ∧ q < wr.heap.size) := fun q hq => by
        rw [hFc] at hq
        have := ZW.out
        rcases hq with hq | hq
        · exact .inl ((HF0.out q).1 hq).2
        · exact .inr ⟨by omega, hq.2⟩
      have hF1 : ∀ q, q < w.heap.size → Fc q → F0 q := fun q h1 hq => by
        rw [hFc] at hq
        have := ZW.out
        rcases hq with hq | hq
        · exact hq
        · omega
      have hS1 : StIs wr Fc R sK := by rw [hsK, hFc]; exact hS.out
      obtain ⟨Wa, hWa⟩ : ∃ W, W = wr.alloc (.cells #[.int .i64 1] 3) := ⟨_, rfl⟩
      have ca : Chg (fun _ => False) wr Wa := by rw [hWa]; exact (Chg.refl _ wr).alloc _
      have za : Wa.heap.size = wr.heap.size + 1 := by rw [hWa]; simp
      have hA1 : Wa.heap[wr.heap.size]? = some (.cells #[.int .i64 1] 3 (0, 0)) := by rw [hWa]; exact heap_at_new _ _ _ rfl
      have EC : Hid (Calls Try.prog 40 #[.pointer (some ⟨R, 0, none⟩), .int .i64 1] Wa fun e w' => e = .returned (.int .i64 up) ∧ Wa = w') := by show Calls _ _ _ _ _; rw [hup]; exact exrolled_c Wa Fc R sK 1 (by omega) (hS1.same ca)
      obtain ⟨Wb, hWb⟩ : ∃ W, W = Wa.alloc (.cells #[.int .i64 up] 2) := ⟨_, rfl⟩
      have cb : Chg (fun _ => False) Wa Wb := by rw [hWb]; exact (Chg.refl _ Wa).alloc _
      have hB1 : Wb.heap[Wa.heap.size]? = some (.cells #[.int .i64 up] 2 (0, 0)) := by rw [hWb]; exact heap_at_new _ _ _ rfl
      have hB3 := cb.heap hA1 (fun h => h)
      have cd : Chg (fun _ => False) wr Wb.drew := (ca.trans cb).drew
      have NT1 : Hid (¬ Fc Wa.heap.size) := fun e => by have := hF _ e; have := hWr.out.size; omega
      have NT3 : Hid (¬ Fc wr.heap.size) := fun e => by have := hF _ e; have := hWr.out.size; omega
      have NT5 : Hid (¬ Fc (w.heap.size + 1 + 1 + 1 + 1 + 1)) := fun e => by have := hF _ e; omega
      have G1 := ser1_c Wb.drew Fc Wa.heap.size (w.heap.size + 1 + 1) wr.heap.size (w.heap.size + 1 + 1 + 1) (w.heap.size + 1) w.heap.size up p 1 now (by omega) HN.out.1 HN.out.2 (.pointer pt) sr mt
        (HCAP.out _ Wb.drew Wa.heap.size wr.heap.size up 1 (hC.out.trans (cd.mono (fun _ _ h => h.elim))) (fun q hq => by
          rcases hq with hq | hq
          · exact .inl ((HF0.out q).1 hq).2
          · exact .inr (.inl hq)) Fc (fun q hq => by
          have := hF q hq
          omega) NT1.out NT3.out (by show Wb.cell? _ = _; rw [cell_of_heap hB1]; rfl) (by show Wb.cell? _ = _; rw [cell_of_heap hB3]; rfl))
        (HM.out Wb.drew Fc (hWr.out.trans (cd.mono (fun _ _ h => h.elim))) hF1)
      have DC := drop_c Wb.drew Fc R sK 1 (by omega) Wa.heap.size (w.heap.size + 1 + 1) wr.heap.size (w.heap.size + 1 + 1 + 1) (w.heap.size + 1) w.heap.size _ (hS1.same cd) (fun W2 x y c2 => G1 W2 x y (c2.mono (fun _ _ h => h.1)))
      have hs' : sK.dropped 1 (gnE p 1 now up mt) = s.exK p now mt (2) := by rw [hup, hsK]; rfl
      rw [hs'] at DC
      obtain ⟨nK, hnK⟩ : ∃ nK, nK = sK.len 1 - (s.exK p now mt (2)).len 1 := ⟨_, rfl⟩
      rw [← hnK] at DC
      have HE : Hid (nK = s.exN p now mt 1) := by show _ = _; rw [hnK, hsK]; rfl
      unfold six at DC
      have DC := Lib.hid DC
      have Q13 : Hid (Wb.cell? ⟨wr.heap.size, 0, none⟩ = some (.int .i64 1)) := by show _ = _; rw [cell_of_heap hB3]; rfl
      have q13 : Wa.cell? ⟨wr.heap.size, 0, none⟩ = some (.int .i64 1) := by rw [cell_of_heap hA1]; rfl
      have OB : Hid (Wb.drew.heap[w.heap.size + 1 + 1 + 1 + 1 + 1]? = some (.cells (s.exO p now mt 1) 54 (0, 0))) := cd.heap hO.out (fun h => h)
      have HF := Lib.hid hF
      have CD := Lib.hid cd
      have HWa := Lib.hid hWa
      have HWb := Lib.hid hWb
      have HFC := Lib.hid hFc
      clear hF hF1 hS1 hsK hup hFc hWa ca za hA1 hWb cb hB1 hB3 cd G1 hs' hnK
      go_wp2_with fail
      rw [← HWa.out]
      refine EC.out.mono ?_
      rintro e wx ⟨rfl, rfl⟩
      go_wp2_with fail
      rw [← HWb.out]
      clear q13
      refine wpZ.begin 6 (Fc) 7 (by kernel_rfl) rfl ?_
      refine wpZ.ld 0 rfl (by kernel_rfl) (fun _ _ _ _ h => h) rfl _ _ rfl (by kernel_rfl) ⟨wr.heap.size, 0, none⟩ rfl _ (Q13.out) (fun h => NT3.out h) ?_
      simp only [Act.put, List.setIfInBounds_toArray, List.set_cons_zero, List.set_cons_succ]
      refine wpZ.take 1 rfl (by kernel_rfl) (fun _ _ _ h => h) rfl (fun w' hw' => by go_simp <;> with_reducible rfl) ?_
      simp only [Act.put, List.setIfInBounds_toArray, List.set_cons_zero, List.set_cons_succ]
      refine wpZ.ld 2 rfl (by kernel_rfl) (fun _ _ _ _ h => h) rfl _ _ rfl (by kernel_rfl) ⟨wr.heap.size, 0, none⟩ rfl _ (Q13.out) (fun h => NT3.out h) ?_
      simp only [Act.put, List.setIfInBounds_toArray, List.set_cons_zero, List.set_cons_succ]
      refine wpZ.take (v := .func (.func 42) #[] #[.pointer (some ⟨Wa.heap.size, 0, none⟩), .pointer (some ⟨w.heap.size + 1 + 1, 0, none⟩), .pointer (some ⟨wr.heap.size, 0, none⟩), .pointer (some ⟨w.heap.size + 1 + 1 + 1, 0, none⟩), .pointer (some ⟨w.heap.size + 1, 0, none⟩), .pointer (some ⟨w.heap.size, 0, none⟩)]) 3 rfl (by kernel_rfl) (fun _ _ _ h => h) rfl (fun w' hw' => by go_simp <;> with_reducible rfl) ?_
      simp only [Act.put, List.setIfInBounds_toArray, List.set_cons_zero, List.set_cons_succ]
      refine wpZ.call 4 rfl (by kernel_rfl) rfl (fun K hK => ?_)
      go_wp2_with fail
      refine DC.out.mono ?_
      rintro e w6 ⟨rfl, k1, k2⟩
      have K1 := Lib.hid k1
      have K2 := Lib.hid k2
      have HO6 := Lib.hid (k2.heap OB.out NT5.out)
      have C6 : Hid (w6.cell? ⟨w.heap.size + 1 + 1 + 1 + 1 + 1, 1, none⟩ = some (.int .i64 0)) := by show _ = _; rw [cell_of_heap HO6.out]; rfl
      have F6 : Hid (w6.frozen? ⟨w.heap.size + 1 + 1 + 1 + 1 + 1, 1, none⟩ = false) := frozen_of_heap HO6.out _
      refine hK _ _ k2 ?_
      clear hK k1 k2
      try (simp only [Act.put, List.setIfInBounds_toArray, List.set_cons_zero, List.set_cons_succ])
      refine wpZ.take 5 rfl (by kernel_rfl) (fun _ _ _ h => h) rfl (fun w' hw' => by go_simp <;> with_reducible rfl) ?_
      simp only [Act.put, List.setIfInBounds_toArray, List.set_cons_zero, List.set_cons_succ]
      refine wpZ.last1 rfl (by kernel_rfl) (by kernel_rfl) rfl _ _ _ rfl (by kernel_rfl) (⟨w.heap.size + 1 + 1 + 1 + 1 + 1, 1, none⟩) rfl (.int .i64 nK) rfl (.int .i64 0) (C6.out) (F6.out) rfl ?_
      simp only [Act.put, List.setIfInBounds_toArray, List.set_cons_zero, List.set_cons_succ]
      have c7 : Chg (fun q => q = w.heap.size + 1 + 1 + 1 + 1 + 1) w6 (w6.setCell ⟨w.heap.size + 1 + 1 + 1 + 1 + 1, 1, none⟩ (.int .i64 nK)) := Chg.setCell (S := fun q => q = w.heap.size + 1 + 1 + 1 + 1 + 1) (Chg.refl _ w6) (p := ⟨w.heap.size + 1 + 1 + 1 + 1 + 1, 1, none⟩) (fun _ => rfl) _
      have o7 := Cat.heap_setCell_same HO6.out 1 (.int .i64 nK)
      obtain ⟨w7, hw7⟩ : ∃ w7, w7 = w6.setCell ⟨w.heap.size + 1 + 1 + 1 + 1 + 1, 1, none⟩ (.int .i64 nK) := ⟨_, rfl⟩
      rw [← hw7] at c7 o7 ⊢
      have z1 := CD.out.size
      have z2 := K2.out.size
      have z3 := c7.size
      have z4 := hWr.out.size
      have z5 := hC.out.size
      have z6 := ZW.out
      have f1 : StIs w7 (ext F0 W w7) R (s.exK p now mt (2)) := (K1.out.kept c7 (fun q hq e => by
        have e : q = w.heap.size + 1 + 1 + 1 + 1 + 1 := e
        rcases hq with hq | hq
        · have := HF.out q hq; omega
        · have h1 : Wb.drew.heap.size ≤ q := hq.1; omega)).mono (fun q hq => by
        rcases hq with hq | hq
        · rw [HFC.out] at hq
          rcases hq with hq | hq
          · exact .inl hq
          · exact .inr ⟨hq.1, by omega⟩
        · have h1 : Wb.drew.heap.size ≤ q := hq.1
          have h2 : q < w6.heap.size := hq.2
          exact .inr ⟨by omega, by omega⟩)
      have f3 : Chg (fun q => F0 q ∨ q = w.heap.size + 1 + 1 + 1 + 1 + 1) W w7 := ((hC.out.trans (CD.out.mono (fun _ _ h => h.elim))).trans' K2.out (fun q h1 hq => by
        rw [HFC.out] at hq
        rcases hq with hq | hq
        · exact .inl hq
        · have h2 : W.heap.size ≤ q := hq.1; omega)).trans' c7 (fun q _ hq => .inr hq)
      have f2 : w7.heap[w.heap.size + 1 + 1 + 1 + 1 + 1]? = some (.cells (s.exO p now mt (2)) 54 (0, 0)) := by rw [o7, HE.out]; rfl
      have F1 := Lib.hid f1
      have F2 := Lib.hid f2
      have F3 := Lib.hid f3
      clear c7 o7 hw7 z1 z2 z3 z4 z5 z6 f1 f2 f3
      go_wp2_with fail
      exact ⟨⟨2, by omega, rfl, F1.out, F2.out, F3.out⟩, by simp only [intOf]; omega⟩
    · obtain ⟨sK, hsK⟩ : ∃ sK, sK = s.exK p now mt 2 := ⟨_, rfl⟩
      obtain ⟨up, hup⟩ : ∃ up, up = exUp sK 2 := ⟨_, rfl⟩
      obtain ⟨Fc, hFc⟩ : ∃ Fc, Fc = ext F0 W wr := ⟨_, rfl⟩
      have hF : ∀ q, Fc q → q < w.heap.size ∨ (w.heap.size + 6 ≤ q ∧ q < wr.heap.size) := fun q hq => by
        rw [hFc] at hq
        have := ZW.out
        rcases hq with hq | hq
        · exact .inl ((HF0.out q).1 hq).2
        · exact .inr ⟨by omega, hq.2⟩
      have hF1 : ∀ q, q < w.heap.size → Fc q → F0 q := fun q h1 hq => by
        rw [hFc] at hq
        have := ZW.out
        rcases hq with hq | hq
        · exact hq
        · omega
      have hS1 : StIs wr Fc R sK := by rw [hsK, hFc]; exact hS.out
      obtain ⟨Wa, hWa⟩ : ∃ W, W = wr.alloc (.cells #[.int .i64 2] 3) := ⟨_, rfl⟩
      have ca : Chg (fun _ => False) wr Wa := by rw [hWa]; exact (Chg.refl _ wr).alloc _
      have za : Wa.heap.size = wr.heap.size + 1 := by rw [hWa]; simp
      have hA1 : Wa.heap[wr.heap.size]? = some (.cells #[.int .i64 2] 3 (0, 0)) := by rw [hWa]; exact heap_at_new _ _ _ rfl
      have EC : Hid (Calls Try.prog 40 #[.pointer (some ⟨R, 0, none⟩), .int .i64 2] Wa fun e w' => e = .returned (.int .i64 up) ∧ Wa = w') := by show Calls _ _ _ _ _; rw [hup]; exact exrolled_c Wa Fc R sK 2 (by omega) (hS1.same ca)
      obtain ⟨Wb, hWb⟩ : ∃ W, W = Wa.alloc (.cells #[.int .i64 up] 2) := ⟨_, rfl⟩
      have cb : Chg (fun _ => False) Wa Wb := by rw [hWb]; exact (Chg.refl _ Wa).alloc _
      have hB1 : Wb.heap[Wa.heap.size]? = some (.cells #[.int .i64 up] 2 (0, 0)) := by rw [hWb]; exact heap_at_new _ _ _ rfl
      have hB3 := cb.heap hA1 (fun h => h)
      have cd : Chg (fun _ => False) wr Wb.drew := (ca.trans cb).drew
      have NT1 : Hid (¬ Fc Wa.heap.size) := fun e => by have := hF _ e; have := hWr.out.size; omega
      have NT3 : Hid (¬ Fc wr.heap.size) := fun e => by have := hF _ e; have := hWr.out.size; omega
      have NT5 : Hid (¬ Fc (w.heap.size + 1 + 1 + 1 + 1 + 1)) := fun e => by have := hF _ e; omega
      have G1 := ser1_c Wb.drew Fc Wa.heap.size (w.heap.size + 1 + 1) wr.heap.size (w.heap.size + 1 + 1 + 1) (w.heap.size + 1) w.heap.size up p 2 now (by omega) HN.out.1 HN.out.2 (.pointer pt) sr mt
        (HCAP.out _ Wb.drew Wa.heap.size wr.heap.size up 2 (hC.out.trans (cd.mono (fun _ _ h => h.elim))) (fun q hq => by
          rcases hq with hq | hq
          · exact .inl ((HF0.out q).1 hq).2
          · exact .inr (.inl hq)) Fc (fun q hq => by
          have := hF q hq
          omega) NT1.out NT3.out (by show Wb.cell? _ = _; rw [cell_of_heap hB1]; rfl) (by show Wb.cell? _ = _; rw [cell_of_heap hB3]; rfl))
        (HM.out Wb.drew Fc (hWr.out.trans (cd.mono (fun _ _ h => h.elim))) hF1)
      have DC := drop_c Wb.drew Fc R sK 2 (by omega) Wa.heap.size (w.heap.size + 1 + 1) wr.heap.size (w.heap.size + 1 + 1 + 1) (w.heap.size + 1) w.heap.size _ (hS1.same cd) (fun W2 x y c2 => G1 W2 x y (c2.mono (fun _ _ h => h.1)))
      have hs' : sK.dropped 2 (gnE p 2 now up mt) = s.exK p now mt (3) := by rw [hup, hsK]; rfl
      rw [hs'] at DC
      obtain ⟨nK, hnK⟩ : ∃ nK, nK = sK.len 2 - (s.exK p now mt (3)).len 2 := ⟨_, rfl⟩
      rw [← hnK] at DC
      have HE : Hid (nK = s.exN p now mt 2) := by show _ = _; rw [hnK, hsK]; rfl
      unfold six at DC
      have DC := Lib.hid DC
      have Q13 : Hid (Wb.cell? ⟨wr.heap.size, 0, none⟩ = some (.int .i64 2)) := by show _ = _; rw [cell_of_heap hB3]; rfl
      have q13 : Wa.cell? ⟨wr.heap.size, 0, none⟩ = some (.int .i64 2) := by rw [cell_of_heap hA1]; rfl
      have OB : Hid (Wb.drew.heap[w.heap.size + 1 + 1 + 1 + 1 + 1]? = some (.cells (s.exO p now mt 2) 54 (0, 0))) := cd.heap hO.out (fun h => h)
      have HF := Lib.hid hF
      have CD := Lib.hid cd
      have HWa := Lib.hid hWa
      have HWb := Lib.hid hWb
      have HFC := Lib.hid hFc
      clear hF hF1 hS1 hsK hup hFc hWa ca za hA1 hWb cb hB1 hB3 cd G1 hs' hnK
      go_wp2_with fail
      rw [← HWa.out]
      refine EC.out.mono ?_
      rintro e wx ⟨rfl, rfl⟩
      go_wp2_with fail
      rw [← HWb.out]
      clear q13
      refine wpZ.begin 6 (Fc) 7 (by kernel_rfl) rfl ?_
      refine wpZ.ld 0 rfl (by kernel_rfl) (fun _ _ _ _ h => h) rfl _ _ rfl (by kernel_rfl) ⟨wr.heap.size, 0, none⟩ rfl _ (Q13.out) (fun h => NT3.out h) ?_
      simp only [Act.put, List.setIfInBounds_toArray, List.set_cons_zero, List.set_cons_succ]
      refine wpZ.take 1 rfl (by kernel_rfl) (fun _ _ _ h => h) rfl (fun w' hw' => by go_simp <;> with_reducible rfl) ?_
      simp only [Act.put, List.setIfInBounds_toArray, List.set_cons_zero, List.set_cons_succ]
      refine wpZ.ld 2 rfl (by kernel_rfl) (fun _ _ _ _ h => h) rfl _ _ rfl (by kernel_rfl) ⟨wr.heap.size, 0, none⟩ rfl _ (Q13.out) (fun h => NT3.out h) ?_
      simp only [Act.put, List.setIfInBounds_toArray, List.set_cons_zero, List.set_cons_succ]
      refine wpZ.take (v := .func (.func 42) #[] #[.pointer (some ⟨Wa.heap.size, 0, none⟩), .pointer (some ⟨w.heap.size + 1 + 1, 0, none⟩), .pointer (some ⟨wr.heap.size, 0, none⟩), .pointer (some ⟨w.heap.size + 1 + 1 + 1, 0, none⟩), .pointer (some ⟨w.heap.size + 1, 0, none⟩), .pointer (some ⟨w.heap.size, 0, none⟩)]) 3 rfl (by kernel_rfl) (fun _ _ _ h => h) rfl (fun w' hw' => by go_simp <;> with_reducible rfl) ?_
      simp only [Act.put, List.setIfInBounds_toArray, List.set_cons_zero, List.set_cons_succ]
      refine wpZ.call 4 rfl (by kernel_rfl) rfl (fun K hK => ?_)
      go_wp2_with fail
      refine DC.out.mono ?_
      rintro e w6 ⟨rfl, k1, k2⟩
      have K1 := Lib.hid k1
      have K2 := Lib.hid k2
      have HO6 := Lib.hid (k2.heap OB.out NT5.out)
      have C6 : Hid (w6.cell? ⟨w.heap.size + 1 + 1 + 1 + 1 + 1, 2, none⟩ = some (.int .i64 0)) := by show _ = _; rw [cell_of_heap HO6.out]; rfl
      have F6 : Hid (w6.frozen? ⟨w.heap.size + 1 + 1 + 1 + 1 + 1, 2, none⟩ = false) := frozen_of_heap HO6.out _
      refine hK _ _ k2 ?_
      clear hK k1 k2
      try (simp only [Act.put, List.setIfInBounds_toArray, List.set_cons_zero, List.set_cons_succ])
      refine wpZ.take 5 rfl (by kernel_rfl) (fun _ _ _ h => h) rfl (fun w' hw' => by go_simp <;> with_reducible rfl) ?_
      simp only [Act.put, List.setIfInBounds_toArray, List.set_cons_zero, List.set_cons_succ]
      refine wpZ.last1 rfl (by kernel_rfl) (by kernel_rfl) rfl _ _ _ rfl (by kernel_rfl) (⟨w.heap.size + 1 + 1 + 1 + 1 + 1, 2, none⟩) rfl (.int .i64 nK) rfl (.int .i64 0) (C6.out) (F6.out) rfl ?_
      simp only [Act.put, List.setIfInBounds_toArray, List.set_cons_zero, List.set_cons_succ]
      have c7 : Chg (fun q => q = w.heap.size + 1 + 1 + 1 + 1 + 1) w6 (w6.setCell ⟨w.heap.size + 1 + 1 + 1 + 1 + 1, 2, none⟩ (.int .i64 nK)) := Chg.setCell (S := fun q => q = w.heap.size + 1 + 1 + 1 + 1 + 1) (Chg.refl _ w6) (p := ⟨w.heap.size + 1 + 1 + 1 + 1 + 1, 2, none⟩) (fun _ => rfl) _
      have o7 := Cat.heap_setCell_same HO6.out 2 (.int .i64 nK)
      obtain ⟨w7, hw7⟩ : ∃ w7, w7 = w6.setCell ⟨w.heap.size + 1 + 1 + 1 + 1 + 1, 2, none⟩ (.int .i64 nK) := ⟨_, rfl⟩
      rw [← hw7] at c7 o7 ⊢
      have z1 := CD.out.size
      have z2 := K2.out.size
      have z3 := c7.size
      have z4 := hWr.out.size
      have z5 := hC.out.size
      have z6 := ZW.out
      have f1 : StIs w7 (ext F0 W w7) R (s.exK p now mt (3)) := (K1.out.kept c7 (fun q hq e => by
        have e : q = w.heap.size + 1 + 1 + 1 + 1 + 1 := e
        rcases hq with hq | hq
        · have := HF.out q hq; omega
        · have h1 : Wb.drew.heap.size ≤ q := hq.1; omega)).mono (fun q hq => by
        rcases hq with hq | hq
        · rw [HFC.out] at hq
          rcases hq with hq | hq
          · exact .inl hq
          · exact .inr ⟨hq.1, by omega⟩
        · have h1 : Wb.drew.heap.size ≤ q := hq.1
          have h2 : q < w6.heap.size := hq.2
          exact .inr ⟨by omega, by omega⟩)
      have f3 : Chg (fun q => F0 q ∨ q = w.heap.size + 1 + 1 + 1 + 1 + 1) W w7 := ((hC.out.trans (CD.out.mono (fun _ _ h => h.elim))).trans' K2.out (fun q h1 hq => by
        rw [HFC.out] at hq
        rcases hq with hq | hq
        · exact .inl hq
        · have h2 : W.heap.size ≤ q := hq.1; omega)).trans' c7 (fun q _ hq => .inr hq)
      have f2 : w7.heap[w.heap.size + 1 + 1 + 1 + 1 + 1]? = some (.cells (s.exO p now mt (3)) 54 (0, 0)) := by rw [o7, HE.out]; rfl
      have F1 := Lib.hid f1
      have F2 := Lib.hid f2
      have F3 := Lib.hid f3
      clear c7 o7 hw7 z1 z2 z3 z4 z5 z6 f1 f2 f3
      go_wp2_with fail
      exact ⟨⟨3, by omega, rfl, F1.out, F2.out, F3.out⟩, by simp only [intOf]; omega⟩
    · obtain ⟨n0, hn0⟩ : ∃ n, n = s.exN p now mt 0 := ⟨_, rfl⟩
      obtain ⟨n1, hn1⟩ : ∃ n, n = s.exN p now mt 1 := ⟨_, rfl⟩
      obtain ⟨n2, hn2⟩ : ∃ n, n = s.exN p now mt 2 := ⟨_, rfl⟩
      have hO3 : wr.heap[w.heap.size + 1 + 1 + 1 + 1 + 1]? = some (.cells #[.int .i64 n0, .int .i64 n1, .int .i64 n2] 54 (0, 0)) := by rw [hn0, hn1, hn2]; exact hO.out
      have HN0 := Lib.hid hn0
      have HN1 := Lib.hid hn1
      have HN2 := Lib.hid hn2
      have q0 : wr.cell? ⟨w.heap.size + 1 + 1 + 1 + 1 + 1, 0, none⟩ = some (.int .i64 n0) := by rw [cell_of_heap hO3]; rfl
      have q1 : wr.cell? ⟨w.heap.size + 1 + 1 + 1 + 1 + 1, 1, none⟩ = some (.int .i64 n1) := by rw [cell_of_heap hO3]; rfl
      have q2 : wr.cell? ⟨w.heap.size + 1 + 1 + 1 + 1 + 1, 2, none⟩ = some (.int .i64 n2) := by rw [cell_of_heap hO3]; rfl
      have hr3 : wr.heap[w.heap.size + 1 + 1 + 1 + 1]? = some (.cells #[.int .i64 0, .int .i64 0, .int .i64 0] 54 (0, 0)) := hC.out.heap HB4.out (fun e => by
        rcases e with e | e
        · have := ((HF0.out _).1 e).2; omega
        · omega)
      have hst := run_storeAt_agg (P := Try.prog) wr 54 (w.heap.size + 1 + 1 + 1 + 1) 0 [.int .i64 n0, .int .i64 n1, .int .i64 n2] (by kernel_rfl) (fun j hj => row_some hr3 j hj) (fun j _ => frozen_of_heap hr3 _) (by intro u hu; simp at hu; rcases hu with rfl | rfl | rfl <;> rfl)
      have hr8 : (wr.setCells (w.heap.size + 1 + 1 + 1 + 1) 0 [.int .i64 n0, .int .i64 n1, .int .i64 n2]).heap[w.heap.size + 1 + 1 + 1 + 1]? = some (.cells #[.int .i64 n0, .int .i64 n1, .int .i64 n2] 54 (0, 0)) := Cat.heap_setCell_same (Cat.heap_setCell_same (Cat.heap_setCell_same hr3 0 _) 1 _) 2 _
      have c8 : Chg (fun k => k = w.heap.size + 1 + 1 + 1 + 1) wr (wr.setCells (w.heap.size + 1 + 1 + 1 + 1) 0 [.int .i64 n0, .int .i64 n1, .int .i64 n2]) := Chg.setCells _ _ _ _
      obtain ⟨x8, hx8⟩ : ∃ x8, x8 = wr.setCells (w.heap.size + 1 + 1 + 1 + 1) 0 [.int .i64 n0, .int .i64 n1, .int .i64 n2] := ⟨_, rfl⟩
      rw [← hx8] at hst hr8 c8
      have z1 := c8.size
      have z2 := hWr.out.size
      have z3 := ZW.out
      have f1 : StIs x8 (ext F w x8) R (s.exK p now mt 3) := (hS.out.kept c8 (fun q hq e => by
        have e : q = w.heap.size + 1 + 1 + 1 + 1 := e
        rcases hq with hq | hq
        · have := ((HF0.out q).1 hq).2; omega
        · have h1 : W.heap.size ≤ q := hq.1; omega)).mono (fun q hq => by
        rcases hq with hq | hq
        · exact .inl ((HF0.out q).1 hq).1
        · have h1 : W.heap.size ≤ q := hq.1
          exact .inr ⟨by omega, by have h2 : q < wr.heap.size := hq.2; omega⟩)
      have f2 : Chg F w x8 := (hWr.out.mono (fun q _ hq => ((HF0.out q).1 hq).1)).trans' c8 (fun q h1 e => by have e : q = w.heap.size + 1 + 1 + 1 + 1 := e; omega)
      have F1 := Lib.hid f1
      have F2 := Lib.hid f2
      have HR8 := Lib.hid hr8
      clear hn0 hn1 hn2 hO3 hr3 hr8 c8 hx8 z1 z2 z3 f1 f2
      go_wp2_with (first | refine wpList_store rfl 54 _ _ rfl _ _ _ rfl rfl hst ?_)
      exact bodyPost_ret (v := .tuple #[.agg #[.int .i64 n0, .int .i64 n1, .int .i64 n2], .int .i64 0]) (results_row_tmp2 (fn := Try.f20) (p := 10) (u := 11) (ty := 54) rfl _ _ (w.heap.size + 1 + 1 + 1 + 1) _ _ (0, 0) _ rfl HR8.out Try.underlying54 rfl (by kernel_rfl)) rfl ⟨by rw [HN0.out, HN1.out, HN2.out], F1.out, F2.out⟩
end Go.Proofs.Ytmnnahkaenikkaa

/- Law 19, plain: what meets the hold stays. -/
namespace Go.Proofs.Ytmnnahkaenikkaa
open Go.RowKit Go.Cat
/-- What the law reads of a stock. -/
structure SeenAs (lo hi : Int) (s s' : St) : Prop where
  raw : inR s'.raw lo hi = inR s.raw lo hi
  mid : s'.mid.filter (mtR 1 lo hi) = s.mid.filter (mtR 1 lo hi)
  long : s'.long.filter (mtR 2 lo hi) = s.long.filter (mtR 2 lo hi)
theorem SeenAs.refl (lo hi : Int) (s : St) : SeenAs lo hi s s := ⟨rfl, rfl, rfl⟩
theorem SeenAs.trans {lo hi : Int} {a b c : St} (h : SeenAs lo hi a b) (k : SeenAs lo hi b c) : SeenAs lo hi a c := ⟨k.raw.trans h.raw, k.mid.trans h.mid, k.long.trans h.long⟩
def holdM (lo hi : Int) (x y : Int) : Bool := decide (max lo x < min hi y)
theorem filter_stays {α : Type} {f g : α → Bool} (h : ∀ x, f x = true → g x = true) : ∀ l : List α, (l.filter g).filter f = l.filter f := fun l => by
  rw [List.filter_filter]
  exact List.filter_congr (fun x _ => by
    cases hf : f x with
    | false => rfl
    | true => rw [h x hf]; rfl)
theorem seen_dropped {lo hi : Int} (hlh : lo < hi) (s : St) (t : Nat) (ht : t = 0 ∨ t = 1 ∨ t = 2) (gn : Int → Int → Bool) (hg : ∀ x y, gn x y = true → holdM lo hi x y = false) : SeenAs lo hi s (s.dropped t gn) := by
  have k : ∀ x y, holdM lo hi x y = true → (!gn x y) = true := fun x y h => by
    cases hgn : gn x y with
    | false => rfl
    | true => rw [hg x y hgn] at h; cases h
  rcases ht with rfl | rfl | rfl
  · refine ⟨filter_stays (fun p hp => k _ _ ?_) s.raw, rfl, rfl⟩
    have hp := of_decide_eq_true hp
    exact decide_eq_true (by omega)
  · refine ⟨rfl, filter_stays (fun a ha => k _ _ ?_) s.mid, rfl⟩
    have ha := of_decide_eq_true ha
    exact decide_eq_true (by omega)
  · refine ⟨rfl, rfl, filter_stays (fun a ha => k _ _ ?_) s.long⟩
    have ha := of_decide_eq_true ha
    exact decide_eq_true (by omega)
theorem gnE_held {p : Pol} {t : Nat} {now up : Int} {mt : Int → Int → Bool} {x y : Int} (h : gnE p t now up mt x y = true) : mt x y = false := by
  unfold gnE at h
  cases hm : mt x y with
  | false => rfl
  | true => rw [hm] at h; simp at h
theorem seen_ex {lo hi : Int} (hlh : lo < hi) (s : St) (p : Pol) (now : Int) : ∀ k, k ≤ 3 → SeenAs lo hi s (s.exK p now (holdM lo hi) k)
  | 0, _ => SeenAs.refl _ _ _
  | k + 1, hk => (seen_ex hlh s p now k (by omega)).trans (seen_dropped hlh _ k (by omega) _ (fun _ _ h => gnE_held h))
/-- A tick. -/
def St.tick (s : St) (p : Pol) (mt : Int → Int → Bool) (now : Int) : St := if rightE p now = true then s.exK p now mt 3 else s
theorem seen_tick {lo hi : Int} (hlh : lo < hi) (s : St) (p : Pol) (now : Int) : SeenAs lo hi s (s.tick p (holdM lo hi) now) := by
  unfold St.tick
  split
  · exact seen_ex hlh s p now 3 (by omega)
  · exact SeenAs.refl _ _ _
theorem seen_ticks {lo hi : Int} (hlh : lo < hi) (p : Pol) (ts : List Int) : ∀ s, SeenAs lo hi s (ts.foldl (fun s now => s.tick p (holdM lo hi) now) s) := by
  induction ts with
  | nil => exact fun s => SeenAs.refl _ _ _
  | cons x r ih => exact fun s => (seen_tick hlh s p x).trans (ih _)
end Go.Proofs.Ytmnnahkaenikkaa
