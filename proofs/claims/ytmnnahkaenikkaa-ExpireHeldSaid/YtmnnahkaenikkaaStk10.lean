/- Stock.Purge. -/
import Derived.Test.YtmnnahkaenikkaaStk9
namespace Go.Proofs.Ytmnnahkaenikkaa
open Go.RowKit Go.Cat
def rngOk (a b : Int) : Bool := decide (0 ≤ a ∧ a < b ∧ b ≤ 1099511627777)
/-- A purge of a range that may be. -/
def St.cut (s : St) (a b : Int) : St := { s with raw := outR s.raw a b }
def St.purged (s : St) (a b : Int) : St := ((s.cut a b).setA 1 ((s.cut a b).againL 1 a b)).setA 2 (((s.cut a b).setA 1 ((s.cut a b).againL 1 a b)).againL 2 a b)
def St.purge (s : St) (a b : Int) : Int × St := if rngOk a b = true then ((((inR s.raw a b).length : Nat) : Int), s.purged a b) else (0, s)
theorem inv_cut {s : St} (h : Inv s) (a b : Int) : Inv (s.cut a b) := { h with tks := fun p hp => h.tks p (List.mem_filter.1 hp).1 }
theorem inv_purged {s : St} (h : Inv s) (a b : Int) : Inv (s.purged a b) := again_ok (again_ok (inv_cut h a b) 1 (.inl rfl) a b) 2 (.inr rfl) a b
theorem StIs.old {w : World} {F : Nat → Prop} {R : Nat} {s : St} (h : StIs w F R s) : StIs w (fun k => F k ∧ k < w.heap.size) R s := by
  obtain ⟨R1, vr, vm, vl, h⟩ := h
  have hs := h.ser.lt
  exact ⟨R1, vr, vm, vl, { h with fR := ⟨h.fR, h.lt⟩, fR1 := ⟨h.fR1, hs.1⟩, fr := fun k hk => ⟨h.fr k hk, hs.2 k hk⟩, fm := fun k hk => ⟨h.fm k hk, Owns.lt h.mid k hk⟩, fl := fun k hk => ⟨h.fl k hk, Owns.lt h.long k hk⟩ }⟩
theorem load_rng {w : World} {g : Nat} {a b : Int} (h : w.heap[g]? = some (.cells #[.int .i64 a, .int .i64 b] 24 (0, 0))) : (Instr.loadAt 24 (.pointer (some ⟨g, 0, none⟩))).run Try.prog w = .ok (.agg #[.int .i64 a, .int .i64 b]) w :=
  run_loadAt_agg w _ _ g 0 [.int .i64 a, .int .i64 b] Try.underlying24 rfl (by kernel_rfl) (fun j u hj => by rw [Nat.zero_add, cell_of_heap h]; simpa using hj)
set_option maxRecDepth 100000 in
set_option maxHeartbeats 1000000 in
theorem stpurge_c (w : World) (F : Nat → Prop) (R : Nat) (s : St) (a b : Int) (h : StIs w F R s) :
    Calls Try.prog 30 #[.pointer (some ⟨R, 0, none⟩), .agg #[.int .i64 a, .int .i64 b]] w fun e w' => e = .returned (.int .i64 (s.purge a b).1) ∧ StIs w' (ext F w w') R (s.purge a b).2 ∧ Chg F w w' := by
  obtain ⟨W, hW⟩ : ∃ W, W = w.alloc (.cells #[.int .i64 a, .int .i64 b] 24) := ⟨_, rfl⟩
  have cW : Chg (fun _ => False) w W := by rw [hW]; exact (Chg.refl _ w).alloc _
  have hb : W.heap[w.heap.size]? = some (.cells #[.int .i64 a, .int .i64 b] 24 (0, 0)) := by rw [hW]; exact heap_at_new _ _ _ rfl
  have RC := window_right a b W
  have HIS := Lib.hid (h.old.same cW)
  have HB := Lib.hid hb
  have CW := Lib.hid cW
  have HW := Lib.hid hW
  have hlt : ∀ k, F k → True := fun _ _ => trivial
  by_cases hr : 0 ≤ a ∧ a < b ∧ b ≤ 1099511627777
  · have e0 : s.purge a b = ((((inR s.raw a b).length : Nat) : Int), s.purged a b) := by
      unfold St.purge
      rw [if_pos (show rngOk a b = true from decide_eq_true hr)]
    rw [e0]
    rw [decide_eq_true hr] at RC
    have RC := Lib.hid RC
    clear e0 hb cW hW h hlt
    go_enter Try.func30, Try.ntmps30
    go_wp2_with fail
    rw [← HW.out]
    refine RC.out.mono ?_
    rintro e w1 ⟨rfl, c1⟩
    obtain ⟨R1, vr, vm, vl, hA⟩ := HIS.out.same (c1.trans (Chg.refl _ w1).drew)
    have CUT := Lib.hid (cut_c w1.drew R1 vr s.raw a b hA.ser)
    obtain ⟨q0, -⟩ := hA.cells
    have q0 := Lib.hid q0
    have HA := Lib.hid hA
    have NFR : Hid (R1 < w.heap.size) := hA.fR1.2
    have HWS : Hid (W.heap.size = w.heap.size + 1) := by show _ = _; rw [HW.out]; simp
    have C1 := Lib.hid c1
    have HB1 : Hid (w1.drew.heap[w.heap.size]? = some (.cells #[.int .i64 a, .int .i64 b] 24 (0, 0))) := c1.heap HB.out (fun h => h)
    clear hA c1
    go_wp2_with fail
    refine wpT.begin (fun k => k = R1) 7 (by kernel_rfl) rfl ?_
    refine wpT.take 0 rfl (by kernel_rfl) (fun _ _ _ h => h) rfl (fun w' hw' => by go_simp <;> with_reducible rfl) ?_
    simp only [Act.put, List.setIfInBounds_toArray, List.set_cons_zero, List.set_cons_succ]
    refine wpT.take 1 rfl (by kernel_rfl) (fun _ _ _ h => h) rfl (fun w' hw' => by go_simp <;> with_reducible rfl) ?_
    simp only [Act.put, List.setIfInBounds_toArray, List.set_cons_zero, List.set_cons_succ]
    refine wpT.take 2 rfl (by kernel_rfl) (fun _ _ _ h => h) rfl (fun w' hw' => by go_simp <;> with_reducible rfl) ?_
    simp only [Act.put, List.setIfInBounds_toArray, List.set_cons_zero, List.set_cons_succ]
    refine wpT.ld 3 rfl (by kernel_rfl) (fun _ _ _ _ h => h) rfl _ _ rfl (by kernel_rfl) ⟨R, 0, none⟩ rfl _ (q0.out) (fun h => HA.out.d1 h) ?_
    simp only [Act.put, List.setIfInBounds_toArray, List.set_cons_zero, List.set_cons_succ]
    refine wpT.take 4 rfl (by kernel_rfl) (fun _ _ _ h => h) rfl (fun w' hw' => exec_load _ _ _ _ rfl rfl (load_rng (hw'.heap HB1.out (fun h => by have h1 : w.heap.size = R1 := h; have := NFR.out; omega)))) ?_
    simp only [Act.put, List.setIfInBounds_toArray, List.set_cons_zero, List.set_cons_succ]
    refine wpT.call 5 rfl (by kernel_rfl) rfl (fun K hK => ?_)
    go_wp2_with fail
    refine CUT.out.mono ?_
    rintro e w2 ⟨rfl, ho⟩
    obtain ⟨v2, hs2, hv2, c2⟩ := id ho
    obtain ⟨k1, k2⟩ := HA.out.pts ho (fun p hp => HA.out.inv.tks p (List.mem_filter.1 hp).1)
    have K1 := Lib.hid k1
    have K2 := Lib.hid k2
    have RB2 : Hid (w2.heap[w.heap.size]? = some (.cells #[.int .i64 a, .int .i64 b] 24 (0, 0))) := c2.heap HB1.out (fun h => by have h1 : w.heap.size = R1 := h; have := NFR.out; omega)
    have NF2 : Hid (¬ ext (fun k => F k ∧ k < w.heap.size) w1.drew w2 w.heap.size) := fun h => (by have z1 := HWS.out; have z2 := C1.out.size; have z2' : w1.drew.heap.size = w1.heap.size := rfl; rcases h with h | h <;> omega)
    refine hK _ _ c2 ?_
    clear hK ho hs2 hv2 c2 k1 k2
    try (simp only [Act.put, List.setIfInBounds_toArray, List.set_cons_zero, List.set_cons_succ])
    refine wpT.take 6 rfl (by kernel_rfl) (fun _ _ _ h => h) rfl (fun w' hw' => by go_simp <;> with_reducible rfl) ?_
    simp only [Act.put, List.setIfInBounds_toArray, List.set_cons_zero, List.set_cons_succ]
    refine wpT.done (by kernel_rfl) ?_
    have h2 := K1.out
    have hnF : Hid (¬ F w.heap.size ∨ True) := .inr trivial
    obtain ⟨S2, hS2⟩ : ∃ S2, S2 = s.cut a b := ⟨_, rfl⟩
    rw [show ({ s with raw := outR s.raw a b } : St) = S2 from hS2.symm] at h2
    have HS2 := Lib.hid hS2
    have AG1 := Lib.hid (again_c w2 _ R S2 1 (.inl rfl) a b h2 hr.1 hr.2.1 hr.2.2)
    have q20 : w2.cell? ⟨w.heap.size, 0, none⟩ = some (.int .i64 a) := by rw [cell_of_heap RB2.out]; rfl
    have q21 : w2.cell? ⟨w.heap.size, 1, none⟩ = some (.int .i64 b) := by rw [cell_of_heap RB2.out]; rfl
    clear h2 hS2
    go_wp2_with fail
    refine AG1.out.mono ?_
    rintro e w3 ⟨rfl, h3, c3⟩
    have hb3 : w3.heap[w.heap.size]? = some (.cells #[.int .i64 a, .int .i64 b] 24 (0, 0)) := c3.heap RB2.out NF2.out
    have AG2 := Lib.hid (again_c w3 _ R (S2.setA 1 (S2.againL 1 a b)) 2 (.inr rfl) a b h3 hr.1 hr.2.1 hr.2.2)
    have q30 : w3.cell? ⟨w.heap.size, 0, none⟩ = some (.int .i64 a) := by rw [cell_of_heap hb3]; rfl
    have q31 : w3.cell? ⟨w.heap.size, 1, none⟩ = some (.int .i64 b) := by rw [cell_of_heap hb3]; rfl
    have C3 := Lib.hid c3
    clear h3 c3 hb3 q20 q21
    go_wp2_with fail
    refine AG2.out.mono ?_
    rintro e w4 ⟨rfl, h4, c4⟩
    have H4 := Lib.hid h4
    have C4 := Lib.hid c4
    clear h4 c4
    go_wp2_with fail
    go_ret
    have z1 := CW.out.size
    have z2 := C1.out.size
    have z2' : w1.drew.heap.size = w1.heap.size := rfl
    have z3 := K2.out.size
    have z4 := C3.out.size
    have z5 := C4.out.size
    have ex : ∀ k, ext (ext (ext (fun k => F k ∧ k < w.heap.size) w1.drew w2) w2 w3) w3 w4 k → ext F w w4 k := fun k hk => by
      rcases hk with hk | hk
      · rcases hk with hk | hk
        · rcases hk with hk | hk
          · exact .inl hk.1
          · exact .inr ⟨by omega, by omega⟩
        · exact .inr ⟨by omega, by omega⟩
      · exact .inr ⟨by omega, by omega⟩
    refine ⟨by simp, (by rw [← show (S2.setA 1 (S2.againL 1 a b)).setA 2 ((S2.setA 1 (S2.againL 1 a b)).againL 2 a b) = s.purged a b from by rw [HS2.out]; rfl]; exact H4.out.mono ex), ?_⟩
    have c0 : Chg F w w1.drew := (CW.out.trans C1.out).drew.mono (fun _ _ h => h.elim)
    have c1 : Chg (ext F w w1.drew) w1.drew w2 := K2.out.mono (fun k _ hk => .inl hk.1)
    have c2 : Chg (ext F w w2) w2 w3 := C3.out.mono (fun k hk0 hk => by
      rcases hk with hk | hk
      · exact .inl hk.1
      · exact .inr ⟨by omega, by omega⟩)
    have c3 : Chg (ext F w w3) w3 w4 := C4.out.mono (fun k hk0 hk => by
      rcases hk with hk | hk
      · rcases hk with hk | hk
        · exact .inl hk.1
        · exact .inr ⟨by omega, by omega⟩
      · exact .inr ⟨by omega, by omega⟩)
    exact ((c0.trans_ext c1).trans_ext c2).trans_ext c3
  · have e0 : s.purge a b = (0, s) := by
      unfold St.purge
      rw [if_neg (by unfold rngOk; rw [decide_eq_false hr]; simp)]
    rw [e0]
    rw [decide_eq_false hr] at RC
    have RC := Lib.hid RC
    clear e0 hb cW hW h hlt
    go_enter Try.func30, Try.ntmps30
    go_wp2_with fail
    rw [← HW.out]
    refine RC.out.mono ?_
    rintro e w1 ⟨rfl, c1⟩
    have H1 := Lib.hid (HIS.out.same c1)
    have C1 := Lib.hid c1
    clear c1
    go_wp2_with fail
    go_ret
    exact ⟨rfl, H1.out.mono (fun k hk => .inl hk.1), (CW.out.trans C1.out).mono (fun _ _ h => h.elim)⟩
end Go.Proofs.Ytmnnahkaenikkaa
