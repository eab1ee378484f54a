/- Law 20: PurgeForgets walked. -/
import Derived.Test.YtmnnahkaenikkaaL20b
namespace Go.Proofs.Ytmnnahkaenikkaa
open Go.RowKit Go.Cat
theorem few_len {L : List Act16} {m : Int} (h : few16 L m = true) : (L.length : Int) ≤ m ∧ ∀ a ∈ L, a.l.length ≤ 40 := by
  unfold few16 at h
  rw [Bool.and_eq_true, List.all_eq_true, decide_eq_true_eq] at h
  exact ⟨h.2, fun a ha => by have := h.1 a ha; unfold few1 at this; rw [decide_eq_true_eq] at this; exact this.1⟩
theorem do_ok {s : St} {a b : Int} (h : rngOk a b = true) : s.do_ (fun _ _ => false) a b = ((s.purge a b).1, ((s.wins a b : Nat) : Int), 0, (s.purge a b).2) := by
  have e : checkN (fun _ _ => false) a b = 0 := by unfold checkN; rw [if_pos h]; rfl
  unfold St.do_
  rw [if_pos e]
set_option maxRecDepth 100000 in
set_option maxHeartbeats 4000000 in
theorem forgets20 (v : Value) (L : List Act16) (lo hi by_ : Int) (w : World) (h : Acts16 w v L) (hl : L.length ≤ 9223372036854775807) :
    Calls Try.prog 3 #[v, .agg #[.int .i64 lo, .int .i64 hi], .int .i64 by_] w fun e w' => e = .returned (.bool true) ∧ Chg (fun _ => False) w w' := by
  obtain ⟨va, vc, hv⟩ := Reads.form h.rd
  obtain ⟨W, hW⟩ : ∃ W, W = (w.alloc (.cells #[.int .i64 lo, .int .i64 hi] 24)).alloc (.cells #[.int .i64 by_] 2) := ⟨_, rfl⟩
  have cW : Chg (fun _ => False) w W := by rw [hW]; exact ((Chg.refl _ w).alloc _).alloc _
  have hb : W.heap[w.heap.size]? = some (.cells #[.int .i64 lo, .int .i64 hi] 24 (0, 0)) := by rw [hW]; exact Chg.heap ((Chg.refl (fun _ => False) _).alloc _) (heap_at_new w _ _ rfl) (fun h => h)
  have hy : W.heap[w.heap.size + 1]? = some (.cells #[.int .i64 by_] 2 (0, 0)) := by rw [hW]; exact heap_at_new _ _ _ (by simp)
  have zW : W.heap.size = w.heap.size + 2 := by rw [hW]; simp
  have LI := Lib.hid (fun W => lives20 W)
  have H := Lib.hid (h.same cW)
  have HB := Lib.hid hb
  have HY := Lib.hid hy
  have CW := Lib.hid cW
  have HW := Lib.hid hW
  have ZW := Lib.hid zW
  have HV := Lib.hid hv
  subst hv
  have fin0 : Hid (∀ W1, Chg (fun _ => False) W W1 → W1.cell? ⟨w.heap.size, 0, none⟩ = some (.int .i64 lo) ∧ W1.cell? ⟨w.heap.size, 1, none⟩ = some (.int .i64 hi) ∧ W1.cell? ⟨w.heap.size + 1, 0, none⟩ = some (.int .i64 by_)) := fun W1 c => by
    have h1 := c.heap HB.out (fun h => h)
    have h2 := c.heap HY.out (fun h => h)
    refine ⟨?_, ?_, ?_⟩
    · rw [cell_of_heap h1]; rfl
    · rw [cell_of_heap h1]; rfl
    · rw [cell_of_heap h2]; rfl
  clear h hb hy cW hW zW
  cases hf : few16 L 30 with
  | false =>
    go_enter Try.func3, Try.ntmps3
    go_wp2_with fail
    rw [← HW.out]
    refine (LI.out _).mono ?_
    rintro e w1 ⟨rfl, c1⟩
    have FC := few_c w1 _ L 30 (H.out.same c1) hl
    rw [hf] at FC
    have FC := Lib.hid FC
    have C1 := Lib.hid c1
    clear c1 hf
    go_wp2_with fail
    refine FC.out.mono ?_
    rintro e w2 ⟨rfl, c2⟩
    have C2 := Lib.hid (C1.out.trans c2)
    clear c2
    go_wp2_with fail
    refine (LI.out _).mono ?_
    rintro e w3 ⟨rfl, c3⟩
    have C3 := Lib.hid (C2.out.trans c3)
    clear c3
    go_wp2_with fail
    go_ret
    exact ⟨rfl, CW.out.trans C3.out⟩
  | true =>
    obtain ⟨hlen, hfew⟩ := few_len hf
    cases hr : rngOk lo hi with
    | false =>
      go_enter Try.func3, Try.ntmps3
      go_wp2_with fail
      rw [← HW.out]
      refine (LI.out _).mono ?_
      rintro e w1 ⟨rfl, c1⟩
      have FC := few_c w1 _ L 30 (H.out.same c1) hl
      rw [hf] at FC
      have FC := Lib.hid FC
      have C1 := Lib.hid c1
      clear c1 hf
      go_wp2_with fail
      refine FC.out.mono ?_
      rintro e w2 ⟨rfl, c2⟩
      have c02 := C1.out.trans c2
      obtain ⟨q0, q1, q2⟩ := fin0.out w2 c02
      have RC := right20 lo hi w2
      rw [hr] at RC
      have RC := Lib.hid RC
      have C2 := Lib.hid c02
      clear c2 c02 hr
      go_wp2_with fail
      refine RC.out.mono ?_
      rintro e w3 ⟨rfl, c3⟩
      have C3 := Lib.hid (C2.out.trans c3)
      clear c3 q0 q1 q2
      go_wp2_with fail
      refine (LI.out _).mono ?_
      rintro e w4 ⟨rfl, c4⟩
      have C4 := Lib.hid (C3.out.trans c4)
      clear c4
      go_wp2_with fail
      go_ret
      exact ⟨rfl, CW.out.trans C4.out⟩
    | true =>
      have hr3 : 0 ≤ lo ∧ lo < hi ∧ hi ≤ 1099511627777 := by unfold rngOk at hr; rw [decide_eq_true_eq] at hr; exact hr
      have hrel := rel_playL hr3.1 hr3.2.1 (bl_xor lo hi by_) L
      have hsame := forgets hr3.1 hr3.2.1 hrel
      obtain ⟨s1, hs1⟩ : ∃ s, s = playL id L := ⟨_, rfl⟩
      obtain ⟨s2, hs2⟩ : ∃ s, s = playL (xorP lo hi by_) L := ⟨_, rfl⟩
      have hw1 : Wf s1 := by rw [hs1]; exact wf_playL id (fun _ h => h) L H.out.vals
      have hw2 : Wf s2 := by rw [hs2]; exact wf_playL _ (xorP_v lo hi by_) L H.out.vals
      rw [← hs1, ← hs2] at hsame
      have ep : (s1.purge lo hi).2 = (s2.purge lo hi).2 := by
        unfold St.purge
        rw [if_pos hr, if_pos hr]
        exact hsame
      have EP := Lib.hid ep
      have D1 := do_ok (s := s1) hr
      have D2 := do_ok (s := s2) hr
      have HD1 := Lib.hid D1
      have HD2 := Lib.hid D2
      have HS1 := Lib.hid hs1
      have HS2 := Lib.hid hs2
      have HW1 := Lib.hid hw1
      have HW2 := Lib.hid hw2
      have HF := Lib.hid hfew
      clear hrel hsame hs1 hs2 hw1 hw2 ep D1 D2 hfew hr3
      go_enter Try.func3, Try.ntmps3
      go_wp2_with fail
      rw [← HW.out]
      refine (LI.out _).mono ?_
      rintro e w1 ⟨rfl, c1⟩
      have FC := few_c w1 _ L 30 (H.out.same c1) hl
      rw [hf] at FC
      have FC := Lib.hid FC
      have C1 := Lib.hid c1
      clear c1 hf
      go_wp2_with fail
      refine FC.out.mono ?_
      rintro e w2 ⟨rfl, c2⟩
      have c02 := C1.out.trans c2
      obtain ⟨q0, q1, q2⟩ := fin0.out w2 c02
      have RC := right20 lo hi w2
      rw [hr] at RC
      have RC := Lib.hid RC
      have C2 := Lib.hid c02
      clear c2 c02 hr
      go_wp2_with fail
      refine RC.out.mono ?_
      rintro e w3 ⟨rfl, c3⟩
      have c03 := C2.out.trans c3
      have P1 := play_same w3 _ L id (H.out.same c03) HF.out (by omega) (same_fun w3)
      rw [← HS1.out] at P1
      have P1 := Lib.hid P1
      have C3 := Lib.hid c03
      clear c3 c03 q0 q1 q2
      go_wp2_with fail
      refine P1.out.mono ?_
      rintro e w4 ⟨Ra, rfl, hsa, c4⟩
      have c04 := C3.out.trans c4
      obtain ⟨q0, q1, q2⟩ := fin0.out w4 c04
      have P2 := play_xor w4 _ L (w.heap.size) (w.heap.size + 1) (xorP lo hi by_) (H.out.same c04) HF.out (by omega) (xor_fun w4 _ _ lo hi by_ q0 q1 q2)
      rw [← HS2.out] at P2
      have P2 := Lib.hid P2
      have HSA := Lib.hid hsa
      have C4 := Lib.hid c4
      have C04 := Lib.hid c04
      clear hsa c4 c04 q0 q1 q2
      go_wp2_with fail
      refine P2.out.mono ?_
      rintro e w5 ⟨Rb, rfl, hsb, c5⟩
      obtain ⟨q0, q1, q2⟩ := fin0.out w5 (C04.out.trans c5)
      have DC : Calls Try.prog 12 #[.pointer (some ⟨Ra, 0, none⟩), .string ⟨#[97]⟩, .pointer none, .agg #[.int .i64 lo, .int .i64 hi]] w5 _ := do_c w5 _ Ra s1 (.pointer none) [97] (fun _ _ => false) lo hi (HSA.out.same c5) HW1.out (meets_nil w5 [97])
      rw [HD1.out] at DC
      have DC := Lib.hid DC
      have HSB := Lib.hid hsb
      have C5 := Lib.hid c5
      clear hsb c5
      go_wp2_with fail
      refine DC.out.mono ?_
      rintro e w6 ⟨rfl, hsa6, c6⟩
      have z3 := C3.out.size
      have z4 := C4.out.size
      have z5 := C5.out.size
      have z6 := c6.size
      have zw := ZW.out
      have hsb6 := HSB.out.kept c6 (fun k hk hq => by omega)
      have b6 := c6.heap ((C04.out.trans C5.out).heap HB.out (fun h => h)) (fun hq => by omega)
      obtain ⟨w7, hw7⟩ : ∃ w7, w7 = w6.alloc (.cells #[.int .i64 (s1.purge lo hi).1, .int .i64 (s1.wins lo hi : Nat)] 34) := ⟨_, rfl⟩
      have c67 : Chg (fun _ => False) w6 w7 := by rw [hw7]; exact (Chg.refl _ w6).alloc _
      have b7 := c67.heap b6 (fun h => h)
      have q0' : w7.cell? ⟨w.heap.size, 0, none⟩ = some (.int .i64 lo) := by rw [cell_of_heap b7]; rfl
      have q1' : w7.cell? ⟨w.heap.size, 1, none⟩ = some (.int .i64 hi) := by rw [cell_of_heap b7]; rfl
      have DC2 : Calls Try.prog 12 #[.pointer (some ⟨Rb, 0, none⟩), .string ⟨#[97]⟩, .pointer none, .agg #[.int .i64 lo, .int .i64 hi]] w7 _ := do_c w7 _ Rb s2 (.pointer none) [97] (fun _ _ => false) lo hi (hsb6.same c67) HW2.out (meets_nil w7 [97])
      rw [HD2.out] at DC2
      have DC2 := Lib.hid DC2
      have HSA6 := Lib.hid (hsa6.same c67)
      have C6 := Lib.hid c6
      have C67 := Lib.hid c67
      have HW7 := Lib.hid hw7
      rw [hw7] at q0' q1'
      clear hsa6 c6 c67 hsb6 b6 b7 q0 q1 q2 DC hw7 z3 z4 z5 z6 zw
      go_wp2_with fail
      rw [← HW7.out]
      refine DC2.out.mono ?_
      rintro e w8 ⟨rfl, hsb8, c8⟩
      have z3 := C3.out.size
      have z4 := C4.out.size
      have z5 := C5.out.size
      have z6 := C6.out.size
      have z67 := C67.out.size
      have z8 := c8.size
      have zw := ZW.out
      have hsa8 := HSA6.out.kept c8 (fun k hk hq => by
        rcases hk with hk | hk <;> omega)
      obtain ⟨w9, hw9⟩ : ∃ w9, w9 = w8.alloc (.cells #[.int .i64 (s2.purge lo hi).1, .int .i64 (s2.wins lo hi : Nat)] 34) := ⟨_, rfl⟩
      have c89 : Chg (fun _ => False) w8 w9 := by rw [hw9]; exact (Chg.refl _ w8).alloc _
      have hsb9 := hsb8.same c89
      rw [← EP.out] at hsb9
      have AL := Lib.hid (alike_c w9 _ _ Ra Rb _ (hsa8.same c89) hsb9)
      have CF : Hid (Chg (fun _ => False) w w9) := by
        refine Chg.trans ?_ c89
        refine Chg.new (S := fun k => w4.heap.size ≤ k ∧ k < w5.heap.size) ?_ c8 (fun k hk => by omega)
        refine Chg.trans ?_ C67.out
        exact ((CW.out.trans C04.out).trans C5.out).new C6.out (fun k hk => by omega)
      have HW9 := Lib.hid hw9
      clear hsb8 c8 hsa8 c89 hsb9 q0' q1' DC2 hw9 z3 z4 z5 z6 z67 z8 zw
      go_wp2_with fail
      rw [← HW9.out]
      refine AL.out.mono ?_
      rintro e w10 ⟨rfl, c10⟩
      have C10 := Lib.hid (CF.out.trans c10)
      clear c10
      go_wp2_with fail
      go_ret
      exact ⟨rfl, C10.out⟩
end Go.Proofs.Ytmnnahkaenikkaa
