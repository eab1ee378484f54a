/- Stock.Put, Stock.Roll. -/
import Derived.Test.YtmnnahkaenikkaaStk7
namespace Go.Proofs.Ytmnnahkaenikkaa
open Go.RowKit Go.Cat
def lateP (m : Int) (p : Pt) : Bool := decide (p.tk < m)
set_option maxRecDepth 100000 in
set_option maxHeartbeats 1000000 in
theorem put1_c (w : World) (Bx R : Nat) (m : Int) (p : Pt) (hB : w.cell? ⟨Bx, 0, none⟩ = some (.pointer (some ⟨R, 0, none⟩))) (hM : w.cell? ⟨R, 5, none⟩ = some (.int .i64 m)) :
    Calls Try.prog 52 #[.agg #[.int .i64 p.tk, .int .i64 p.val], .pointer (some ⟨Bx, 0, none⟩)] w fun e w' => e = .returned (.bool (lateP m p)) ∧ Chg (fun _ => False) w w' := by
  obtain ⟨W, hW⟩ : ∃ W, W = w.alloc (.cells #[.int .i64 p.tk, .int .i64 p.val] 32) := ⟨_, rfl⟩
  have cW : Chg (fun _ => False) w W := by rw [hW]; exact (Chg.refl _ w).alloc _
  have hb : W.heap[w.heap.size]? = some (.cells #[.int .i64 p.tk, .int .i64 p.val] 32 (0, 0)) := by rw [hW]; exact heap_at_new _ _ _ rfl
  have q0 : Hid (W.cell? ⟨w.heap.size, 0, none⟩ = some (.int .i64 p.tk)) := by show _ = _; rw [cell_of_heap hb]; rfl
  have q1 : Hid (W.cell? ⟨Bx, 0, none⟩ = some (.pointer (some ⟨R, 0, none⟩))) := cW.cell hB (fun h => h)
  have q2 : Hid (W.cell? ⟨R, 5, none⟩ = some (.int .i64 m)) := cW.cell hM (fun h => h)
  have CW := Lib.hid cW
  have HW := Lib.hid hW
  obtain ⟨b, hb1⟩ : ∃ b, b = lateP m p := ⟨_, rfl⟩
  have HB1 : Hid (decide (p.tk < m) = b) := hb1.symm
  rw [← hb1]
  clear hb cW hW hB hM hb1
  go_enter Try.func52, Try.ntmps52
  go_wp2_with fail
  rw [← HW.out]
  refine wpT.begin (fun _ => False) 9 (by kernel_rfl) rfl ?_
  refine wpT.take 0 rfl (by kernel_rfl) (fun _ _ _ h => h) rfl (fun w' hw' => by go_simp <;> with_reducible rfl) ?_
  simp only [Act.put, List.setIfInBounds_toArray, List.set_cons_zero, List.set_cons_succ]
  refine wpT.ld 1 rfl (by kernel_rfl) (fun _ _ _ _ h => h) rfl _ _ rfl (by kernel_rfl) ⟨w.heap.size, 0, none⟩ rfl _ (q0.out) (fun h => h) ?_
  simp only [Act.put, List.setIfInBounds_toArray, List.set_cons_zero, List.set_cons_succ]
  refine wpT.ld 2 rfl (by kernel_rfl) (fun _ _ _ _ h => h) rfl _ _ rfl (by kernel_rfl) ⟨Bx, 0, none⟩ rfl _ (q1.out) (fun h => h) ?_
  simp only [Act.put, List.setIfInBounds_toArray, List.set_cons_zero, List.set_cons_succ]
  refine wpT.take 3 rfl (by kernel_rfl) (fun _ _ _ h => h) rfl (fun w' hw' => by go_simp <;> with_reducible rfl) ?_
  simp only [Act.put, List.setIfInBounds_toArray, List.set_cons_zero, List.set_cons_succ]
  refine wpT.take 4 rfl (by kernel_rfl) (fun _ _ _ h => h) rfl (fun w' hw' => by go_simp <;> with_reducible rfl) ?_
  simp only [Act.put, List.setIfInBounds_toArray, List.set_cons_zero, List.set_cons_succ]
  refine wpT.take 5 rfl (by kernel_rfl) (fun _ _ _ h => h) rfl (fun w' hw' => by go_simp <;> with_reducible rfl) ?_
  simp only [Act.put, List.setIfInBounds_toArray, List.set_cons_zero, List.set_cons_succ]
  refine wpT.ld 6 rfl (by kernel_rfl) (fun _ _ _ _ h => h) rfl _ _ rfl (by kernel_rfl) ⟨R, 5, none⟩ rfl _ (q2.out) (fun h => h) ?_
  simp only [Act.put, List.setIfInBounds_toArray, List.set_cons_zero, List.set_cons_succ]
  refine wpT.take 7 rfl (by kernel_rfl) (fun _ _ _ h => h) rfl (fun w' hw' => by go_simp <;> with_reducible rfl) ?_
  simp only [Act.put, List.setIfInBounds_toArray, List.set_cons_zero, List.set_cons_succ]
  refine wpT.take 8 rfl (by kernel_rfl) (fun _ _ _ h => h) rfl (fun w' hw' => by go_simp <;> with_reducible rfl) ?_
  simp only [Act.put, List.setIfInBounds_toArray, List.set_cons_zero, List.set_cons_succ]
  refine wpT.done (by kernel_rfl) ?_
  go_wp2_with fail
  go_ret
  exact ⟨by rw [← HB1.out]; rfl, CW.out.drew⟩
def St.put (s : St) (l : List Pt) : Int × Int × St := if l.any (lateP s.m1) = true then (0, 14, s) else ((sput s.raw l).1, (sput s.raw l).2.1, { s with raw := (sput s.raw l).2.2 })
theorem mem_putP {l : List Pt} {p q : Pt} (h : q ∈ putP l p) : q ∈ l ∨ q = p := by
  unfold putP at h
  rcases List.mem_append.1 h with h | h
  · exact .inl (List.mem_filter.1 h).1
  · rcases List.mem_cons.1 h with h | h
    · exact .inr h
    · exact .inl (List.mem_filter.1 h).1
theorem mem_putAll {l m : List Pt} {q : Pt} (h : q ∈ putAll l m) : q ∈ l ∨ q ∈ m := by
  induction m generalizing l with
  | nil => exact .inl h
  | cons p r ih =>
    rcases ih (l := putP l p) h with h | h
    · rcases mem_putP h with h | h
      · exact .inl h
      · exact .inr (by rw [h]; exact List.mem_cons_self)
    · exact .inr (List.mem_cons_of_mem _ h)
theorem sput_tks {l m : List Pt} (h : ∀ p ∈ l, 0 ≤ p.tk ∧ p.tk ≤ 1099511627776) : ∀ p ∈ (sput l m).2.2, 0 ≤ p.tk ∧ p.tk ≤ 1099511627776 := by
  unfold sput
  split
  · exact h
  · split
    · exact h
    · rename_i h1 _
      intro p hp
      rcases mem_putAll hp with h2 | h2
      · exact h p h2
      · have h3 : ¬ decide (p.tk < 0 ∨ 1099511627776 < p.tk) = true := fun h4 => h1 (List.any_eq_true.2 ⟨p, h2, h4⟩)
        simp at h3
        omega
set_option maxRecDepth 100000 in
set_option maxHeartbeats 1000000 in
theorem stput_c (w : World) (F : Nat → Prop) (R : Nat) (s : St) (mv : Value) (l : List Pt) (h : StIs w F R s) (hm : Pts w mv l) (hml : l.length ≤ 1000) :
    Calls Try.prog 26 #[.pointer (some ⟨R, 0, none⟩), mv] w fun e w' => e = .returned (.tuple #[.int .i64 (s.put l).1, .int .i64 (s.put l).2.1]) ∧ StIs w' (ext F w w') R (s.put l).2.2 ∧ Chg F w w' := by
  obtain ⟨R1, vr, vm, vl, h⟩ := h
  obtain ⟨ma, mc, rfl⟩ := hm.form
  obtain ⟨W, hW⟩ : ∃ W, W = w.alloc (.cells #[.pointer (some ⟨R, 0, none⟩)] 28) := ⟨_, rfl⟩
  have cW : Chg (fun _ => False) w W := by rw [hW]; exact (Chg.refl _ w).alloc _
  have hb : W.cell? ⟨w.heap.size, 0, none⟩ = some (.pointer (some ⟨R, 0, none⟩)) := by rw [hW, World.cell?_alloc_new]; rfl
  have hA := h.kept cW (fun _ _ h => h)
  obtain ⟨q0, -, -, q5, -⟩ := hA.cells
  have CM := contains_mark W (.slice ma l.length mc) l (Reads.kept hm cW (fun _ _ h => h)) (by omega) (.pointer (some ⟨w.heap.size, 0, none⟩)) (lateP s.m1) (fun W2 p c2 => put1_c W2 w.heap.size R s.m1 p (c2.cell hb (fun h => h)) (c2.cell q5 (fun h => h)))
  have HA := Lib.hid hA
  have CW := Lib.hid cW
  have HW := Lib.hid hW
  have HB := Lib.hid hb
  have HM := Lib.hid (Reads.kept hm cW (fun _ _ h => h))
  cases hany : l.any (lateP s.m1) with
  | true =>
    rw [hany] at CM
    have e0 : s.put l = (0, 14, s) := by unfold St.put; rw [if_pos hany]
    rw [e0]
    have CM := Lib.hid CM
    rw [hW] at hb
    clear hany e0 hA h hm cW hW q0 q5
    go_enter Try.func26, Try.ntmps26
    go_wp2_with fail
    rw [← HW.out]
    refine CM.out.mono ?_
    rintro e w1 ⟨rfl, c1⟩
    have C1 := Lib.hid c1
    clear c1
    go_wp2_with fail
    go_ret2
    exact ⟨rfl, ⟨_, _, _, _, (HA.out.kept C1.out (fun _ _ h => h)).mono (fun _ hk => .inl hk)⟩, (CW.out.trans C1.out).mono (fun _ _ h => h.elim)⟩
  | false =>
    rw [hany] at CM
    have e0 : s.put l = ((sput s.raw l).1, (sput s.raw l).2.1, { s with raw := (sput s.raw l).2.2 }) := by unfold St.put; rw [hany]; rfl
    rw [e0]
    have CM := Lib.hid CM
    rw [hW] at hb
    clear hany e0 hA h hm cW hW q0 q5
    go_enter Try.func26, Try.ntmps26
    go_wp2_with fail
    rw [← HW.out]
    refine CM.out.mono ?_
    rintro e w1 ⟨rfl, c1⟩
    have hA1 := HA.out.kept c1 (fun _ _ h => h)
    obtain ⟨q0, -⟩ := hA1.cells
    have hb1 := c1.cell HB.out (fun h => h)
    have SP := Lib.hid (sput_c w1 R1 vr (.slice ma l.length mc) s.raw l hA1.ser (Reads.kept HM.out c1 (fun _ _ h => h)) hml)
    have C1 := Lib.hid c1
    have HA1 := Lib.hid hA1
    clear c1 hA1 hb
    go_wp2_with fail
    refine SP.out.mono ?_
    rintro e w2 ⟨rfl, ho⟩
    obtain ⟨k1, k2⟩ := HA1.out.pts ho (sput_tks HA1.out.inv.tks)
    have K1 := Lib.hid k1
    have K2 := Lib.hid k2
    clear ho k1 k2 q0 hb1
    go_wp2_with fail
    go_ret2
    have z1 := CW.out.size
    have z2 := C1.out.size
    exact ⟨rfl, ext_two (b := w1) (by omega) K2.out.size (K1.out.mono (fun k hk => by
      rcases hk with h | h
      · exact .inl (.inl h)
      · exact .inr h)), ((CW.out.trans C1.out).mono (fun _ _ h => h.elim)).trans K2.out⟩
def St.roll (s : St) (now : Int) : Int × Int × St :=
  if now < 0 ∨ 1099511627776 < now then (0, 3, s) else
    (wrap64 ((rolledS 1 (wst 1 now) s).2.1 + (rolledS 2 (wst 2 (rolledS 1 (wst 1 now) s).1.m1) (rolledS 1 (wst 1 now) s).1).2.1),
     (if (rolledS 1 (wst 1 now) s).2.2 < (rolledS 2 (wst 2 (rolledS 1 (wst 1 now) s).1.m1) (rolledS 1 (wst 1 now) s).1).2.2 then (rolledS 2 (wst 2 (rolledS 1 (wst 1 now) s).1.m1) (rolledS 1 (wst 1 now) s).1).2.2 else (rolledS 1 (wst 1 now) s).2.2),
     (rolledS 2 (wst 2 (rolledS 1 (wst 1 now) s).1.m1) (rolledS 1 (wst 1 now) s).1).1)
set_option maxRecDepth 100000 in
set_option maxHeartbeats 1000000 in
theorem stroll_c (w : World) (F : Nat → Prop) (R : Nat) (s : St) (now : Int) (hnow : -9223372036854775808 ≤ now ∧ now ≤ 9223372036854775807) (h : StIs w F R s) :
    Calls Try.prog 29 #[.pointer (some ⟨R, 0, none⟩), .int .i64 now] w fun e w' => e = .returned (.tuple #[.int .i64 (s.roll now).1, .int .i64 (s.roll now).2.1]) ∧ StIs w' (ext F w w') R (s.roll now).2.2 ∧ Chg F w w' := by
  by_cases h1 : now < 0
  · have e0 : s.roll now = (0, 3, s) := by unfold St.roll; rw [if_pos (.inl h1)]
    rw [e0]
    have H := Lib.hid h
    clear e0 h
    go_enter Try.func29, Try.ntmps29
    go_wp2_with fail
    go_ret2
    exact ⟨rfl, H.out.ext, Chg.refl _ _⟩
  · by_cases h2 : 1099511627776 < now
    · have e0 : s.roll now = (0, 3, s) := by unfold St.roll; rw [if_pos (.inr h2)]
      rw [e0]
      have H := Lib.hid h
      clear e0 h
      go_enter Try.func29, Try.ntmps29
      go_wp2_with fail
      go_ret2
      exact ⟨rfl, H.out.ext, Chg.refl _ _⟩
    · have e0 := (show s.roll now = _ from if_neg (by omega))
      have SC := Lib.hid (start_c w 1 now (by omega) (by omega) (by omega))
      have w1 := wst_le (t := 1) (x := now) (by omega)
      have RC := Lib.hid (rolled_c w F R s 1 (.inl rfl) (wst 1 now) h (wst_mod 1 now) (by omega))
      obtain ⟨r1, hr1⟩ : ∃ r, r = rolledS 1 (wst 1 now) s := ⟨_, rfl⟩
      rw [← hr1] at e0 RC
      obtain ⟨s1, n1, e1⟩ := r1
      simp only at e0
      obtain ⟨r2, hr2⟩ : ∃ r, r = rolledS 2 (wst 2 s1.m1) s1 := ⟨_, rfl⟩
      rw [← hr2] at e0
      obtain ⟨s2, n2, e2⟩ := r2
      simp only at e0
      rw [e0]
      obtain ⟨mx, hmx⟩ : ∃ mx, mx = (if e1 < e2 then e2 else e1) := ⟨_, rfl⟩
      obtain ⟨sm, hsm⟩ : ∃ sm, sm = wrap64 (n1 + n2) := ⟨_, rfl⟩
      rw [← hmx, ← hsm]
      have HMX := Lib.hid hmx.symm
      have HSM := Lib.hid hsm
      have HR2 := Lib.hid hr2
      have W1 := Lib.hid w1
      clear hr1 hr2 e0 h w1 hmx hsm
      go_enter Try.func29, Try.ntmps29
      go_wp2_with fail
      refine SC.out.mono ?_
      rintro e w2 ⟨rfl, rfl⟩
      go_wp2_with fail
      refine RC.out.mono ?_
      rintro e w2 ⟨rfl, hs2, c2⟩
      obtain ⟨R1, vr, vm, vl, hA⟩ := id hs2
      obtain ⟨-, -, -, q5, -⟩ := hA.cells
      have hb := hA.inv.b1
      have SC2 := Lib.hid (start_c w2 2 s1.m1 (by omega) (by omega) (by omega))
      have wl := wst_le (t := 2) (x := s1.m1) (by omega)
      have RC2 := Lib.hid (rolled_c w2 (ext F w w2) R s1 2 (.inr rfl) (wst 2 s1.m1) hs2 (wst_mod 2 s1.m1) (by omega))
      rw [← HR2.out] at RC2
      have C2 := Lib.hid c2
      clear hs2 c2 hA hb wl
      go_wp2_with fail
      refine SC2.out.mono ?_
      rintro e w3 ⟨rfl, rfl⟩
      go_wp2_with fail
      refine RC2.out.mono ?_
      rintro e w3 ⟨rfl, hs3, c3⟩
      have HS3 := Lib.hid hs3
      have C3 := Lib.hid c3
      clear hs3 c3 q5
      go_wp2_with fail
      all_goals go_ret2
      all_goals have z2 := C2.out.size
      all_goals refine ⟨?_, ext_two z2 C3.out.size HS3.out, C2.out.trans_ext C3.out⟩
      all_goals rw [HSM.out, ← HMX.out]
      all_goals first
        | (rw [if_pos (by omega)]; rfl)
        | (rw [if_neg (by omega)]; rfl)
end Go.Proofs.Ytmnnahkaenikkaa
