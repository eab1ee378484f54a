/- Package purge: Reach, Check, Do. -/
import Derived.Test.YtmnnahkaenikkaaPurge
namespace Go.Proofs.Ytmnnahkaenikkaa
open Go.RowKit Go.Cat
/-- What a table answers to a series and a range: in every world that is as w was. -/
def MeetsAs (w : World) (tv : Value) (sr : List UInt8) (mt : Int → Int → Bool) : Prop :=
  ∀ W x y, Chg (fun _ => False) w W → Calls Try.prog 44 #[tv, .string ⟨sr.toArray⟩, .agg #[.int .i64 x, .int .i64 y]] W fun e w' => e = .returned (.bool (mt x y)) ∧ Chg (fun _ => False) W w'
theorem MeetsAs.kept {w W : World} {tv : Value} {sr : List UInt8} {mt : Int → Int → Bool} (h : MeetsAs w tv sr mt) (c : Chg (fun _ => False) w W) : MeetsAs W tv sr mt := fun W2 x y c2 => h W2 x y (c.trans c2)
theorem meets_nil (w : World) (sr : List UInt8) : MeetsAs w (.pointer none) sr (fun _ _ => false) := fun W x y _ => nmeets sr x y W
set_option maxRecDepth 100000 in
theorem reach_c (w : World) (a b : Int) (h0 : 0 ≤ a) (hab : a < b) (hb : b ≤ 1099511627777) : Calls Try.prog 27 #[.agg #[.int .i64 a, .int .i64 b]] w fun e w' => e = .returned (.agg #[.int .i64 (covF 2 a), .int .i64 (covT 2 b)]) ∧ Chg (fun _ => False) w w' := by
  obtain ⟨W, hW⟩ : ∃ W, W = (w.alloc (.cells #[.int .i64 a, .int .i64 b] 24)).alloc (.cells #[.int .i64 0, .int .i64 0] 24) := ⟨_, rfl⟩
  have cW : Chg (fun _ => False) w W := by rw [hW]; exact ((Chg.refl _ w).alloc _).alloc _
  have hr : W.heap[w.heap.size + 1]? = some (.cells #[.int .i64 0, .int .i64 0] 24 (0, 0)) := by rw [hW]; exact heap_at_new _ _ _ (by simp)
  have CC := Lib.hid (cover_c W 2 a b (by omega) (by omega) h0 hab hb)
  have HR := Lib.hid hr
  have HW := Lib.hid hW
  have CW := Lib.hid cW
  obtain ⟨x, hx⟩ : ∃ x, x = covF 2 a := ⟨_, rfl⟩
  obtain ⟨y, hy⟩ : ∃ y, y = covT 2 b := ⟨_, rfl⟩
  rw [← hx, ← hy] at CC ⊢
  clear hr hW cW hx hy
  go_enter Try.func27, Try.ntmps27
  go_wp2_with fail
  rw [← HW.out]
  refine CC.out.mono ?_
  rintro e x7 ⟨rfl, c7⟩
  have hr7 := c7.heap HR.out (fun h => h)
  have hst := run_storeAt_agg (P := Try.prog) x7 24 (w.heap.size + 1) 0 [.int .i64 x, .int .i64 y] (by kernel_rfl) (fun j hj => row_some hr7 j hj) (fun j _ => frozen_of_heap hr7 _) (by intro u hu; simp at hu; rcases hu with rfl | rfl <;> rfl)
  have hr8 : (x7.setCells (w.heap.size + 1) 0 [.int .i64 x, .int .i64 y]).heap[w.heap.size + 1]? = some (.cells #[.int .i64 x, .int .i64 y] 24 (0, 0)) := Cat.heap_setCell_same (Cat.heap_setCell_same hr7 0 _) 1 _
  obtain ⟨x8, hx8⟩ : ∃ x8, x8 = x7.setCells (w.heap.size + 1) 0 [.int .i64 x, .int .i64 y] := ⟨_, rfl⟩
  have c8 : Chg (fun _ => False) w x8 := by rw [hx8]; exact (CW.out.trans c7).new (Chg.setCells _ (w.heap.size + 1) _ _) (fun q hq => by omega)
  rw [← hx8] at hst hr8
  have HR8 := Lib.hid hr8
  have C8 := Lib.hid c8
  clear c7 hr7 hx8 c8 hr8
  go_wp2_with (first | refine wpList_store rfl 24 _ _ rfl _ _ _ rfl rfl hst ?_)
  exact bodyPost_ret (v := .agg #[.int .i64 x, .int .i64 y]) (results_cell_row (fn := Try.f27) (p := 2) (ty := 24) rfl _ _ (w.heap.size + 1) _ _ (0, 0) _ rfl HR8.out Try.underlying24 rfl (by kernel_rfl)) rfl ⟨rfl, C8.out⟩
def checkN (mt : Int → Int → Bool) (a b : Int) : Int := if rngOk a b = true then (if mt (covF 2 a) (covT 2 b) = true then 9 else 0) else 3
set_option maxRecDepth 100000 in
theorem check_c (w : World) (tv : Value) (sr : List UInt8) (mt : Int → Int → Bool) (a b : Int) (hM : MeetsAs w tv sr mt) : Calls Try.prog 31 #[tv, .string ⟨sr.toArray⟩, .agg #[.int .i64 a, .int .i64 b]] w fun e w' => e = .returned (.int .i64 (checkN mt a b)) ∧ Chg (fun _ => False) w w' := by
  have RC := window_right a b (w.alloc (.cells #[.int .i64 a, .int .i64 b] 24))
  have HM := Lib.hid hM
  have q0 : (w.alloc (.cells #[.int .i64 a, .int .i64 b] 24)).cell? ⟨w.heap.size, 0, none⟩ = some (.int .i64 a) := by rw [World.cell?_alloc_new]; rfl
  have q1 : (w.alloc (.cells #[.int .i64 a, .int .i64 b] 24)).cell? ⟨w.heap.size, 1, none⟩ = some (.int .i64 b) := by rw [World.cell?_alloc_new]; rfl
  have Q0 := Lib.hid q0
  have Q1 := Lib.hid q1
  have C0 : Hid (Chg (fun _ => False) w (w.alloc (.cells #[.int .i64 a, .int .i64 b] 24))) := (Chg.refl _ w).alloc _
  by_cases hr : 0 ≤ a ∧ a < b ∧ b ≤ 1099511627777
  · rw [decide_eq_true hr] at RC
    have RC := Lib.hid RC
    have RE := Lib.hid (fun W => reach_c W a b hr.1 hr.2.1 hr.2.2)
    have e0 : checkN mt a b = if mt (covF 2 a) (covT 2 b) = true then 9 else 0 := if_pos (show rngOk a b = true from decide_eq_true hr)
    rw [e0]
    obtain ⟨x, hx⟩ : ∃ x, x = covF 2 a := ⟨_, rfl⟩
    obtain ⟨y, hy⟩ : ∃ y, y = covT 2 b := ⟨_, rfl⟩
    rw [← hx, ← hy] at RE ⊢
    have ME := Lib.hid (fun W c => HM.out W x y c)
    obtain ⟨v, hv⟩ : ∃ v, v = mt x y := ⟨_, rfl⟩
    rw [← hv] at ME ⊢
    clear hM e0 hx hy hv q0 q1
    go_enter Try.func31, Try.ntmps31
    go_wp2_with fail
    refine RC.out.mono ?_
    rintro e w1 ⟨rfl, c1⟩
    have q0 := c1.cell Q0.out (fun h => h)
    have q1 := c1.cell Q1.out (fun h => h)
    have C1 := Lib.hid (C0.out.trans c1)
    clear c1
    go_wp2_with fail
    refine (RE.out _).mono ?_
    rintro e w2 ⟨rfl, c2⟩
    have C2 := Lib.hid (C1.out.trans c2)
    clear c2 q0 q1
    go_wp2_with fail
    refine (ME.out _ C2.out).mono ?_
    rintro e w3 ⟨rfl, c3⟩
    have C3 := Lib.hid (C2.out.trans c3)
    clear c3
    cases v with
    | true =>
      go_wp2_with fail
      go_ret
      exact ⟨rfl, C3.out⟩
    | false =>
      go_wp2_with fail
      go_ret
      exact ⟨rfl, C3.out⟩
  · rw [decide_eq_false hr] at RC
    have RC := Lib.hid RC
    have e0 : checkN mt a b = 3 := if_neg (by unfold rngOk; rw [decide_eq_false hr]; simp)
    rw [e0]
    clear hM e0
    go_enter Try.func31, Try.ntmps31
    go_wp2_with fail
    refine RC.out.mono ?_
    rintro e w1 ⟨rfl, c1⟩
    have C1 := Lib.hid (C0.out.trans c1)
    clear c1
    go_wp2_with fail
    go_ret
    exact ⟨rfl, C1.out⟩
/-- What Do answers, and what is there behind it. -/
def St.do_ (s : St) (mt : Int → Int → Bool) (a b : Int) : Int × Int × Int × St := if checkN mt a b = 0 then ((s.purge a b).1, (s.wins a b : Nat), 0, (s.purge a b).2) else (0, 0, checkN mt a b, s)
set_option maxRecDepth 100000 in
set_option maxHeartbeats 1000000 in
theorem do_c (w : World) (F : Nat → Prop) (R : Nat) (s : St) (tv : Value) (sr : List UInt8) (mt : Int → Int → Bool) (a b : Int) (h : StIs w F R s) (hwf : Wf s) (hM : MeetsAs w tv sr mt) :
    Calls Try.prog 12 #[.pointer (some ⟨R, 0, none⟩), .string ⟨sr.toArray⟩, tv, .agg #[.int .i64 a, .int .i64 b]] w fun e w' => e = .returned (.tuple #[.agg #[.int .i64 (s.do_ mt a b).1, .int .i64 (s.do_ mt a b).2.1], .int .i64 (s.do_ mt a b).2.2.1]) ∧ StIs w' (ext F w w') R (s.do_ mt a b).2.2.2 ∧ Chg F w w' := by
  obtain ⟨W, hW⟩ : ∃ W, W = (w.alloc (.cells #[.int .i64 a, .int .i64 b] 24)).alloc (.cells #[.int .i64 0, .int .i64 0] 34) := ⟨_, rfl⟩
  have cW : Chg (fun _ => False) w W := by rw [hW]; exact ((Chg.refl _ w).alloc _).alloc _
  have zW : W.heap.size = w.heap.size + 2 := by rw [hW]; simp
  have hb : W.heap[w.heap.size]? = some (.cells #[.int .i64 a, .int .i64 b] 24 (0, 0)) := by rw [hW]; exact Chg.heap ((Chg.refl (fun _ => False) _).alloc _) (heap_at_new w _ _ rfl) (fun h => h)
  have hr : W.heap[w.heap.size + 1]? = some (.cells #[.int .i64 0, .int .i64 0] 34 (0, 0)) := by rw [hW]; exact heap_at_new _ _ _ (by simp)
  have CK := Lib.hid (check_c W tv sr mt a b (hM.kept cW))
  have q0 : W.cell? ⟨w.heap.size, 0, none⟩ = some (.int .i64 a) := by rw [cell_of_heap hb]; rfl
  have q1 : W.cell? ⟨w.heap.size, 1, none⟩ = some (.int .i64 b) := by rw [cell_of_heap hb]; rfl
  have H0 := Lib.hid (h.old.same cW)
  have HWF := Lib.hid hwf
  have HB := Lib.hid hb
  have HR := Lib.hid hr
  have HW := Lib.hid hW
  have CW := Lib.hid cW
  have ZW := Lib.hid zW
  obtain ⟨ck, hck⟩ : ∃ ck, ck = checkN mt a b := ⟨_, rfl⟩
  rw [← hck] at CK
  have fin : Hid (∀ (x3 : World) (n u : Int) (G : Nat → Prop) (s' : St), x3.heap[w.heap.size + 1]? = some (.cells #[.int .i64 0, .int .i64 0] 34 (0, 0)) → StIs x3 G R s' → (∀ k, G k → (F k ∧ k < w.heap.size) ∨ (w.heap.size + 2 ≤ k ∧ k < x3.heap.size)) → Chg (fun k => F k ∧ k < w.heap.size) w x3 →
      ∃ x8, (Instr.storeAt 34 (.pointer (some ⟨w.heap.size + 1, 0, none⟩)) (.agg #[.int .i64 n, .int .i64 u])).run Try.prog x3 = .ok () x8 ∧ x8.heap[w.heap.size + 1]? = some (.cells #[.int .i64 n, .int .i64 u] 34 (0, 0)) ∧ StIs x8 (ext F w x8) R s' ∧ Chg F w x8) := fun x3 n u G s' hr3 hs3 hG c3 => by
    have hst := run_storeAt_agg (P := Try.prog) x3 34 (w.heap.size + 1) 0 [.int .i64 n, .int .i64 u] (by kernel_rfl) (fun j hj => row_some hr3 j hj) (fun j _ => frozen_of_heap hr3 _) (by intro u hu; simp at hu; rcases hu with rfl | rfl <;> rfl)
    have hr8 : (x3.setCells (w.heap.size + 1) 0 [.int .i64 n, .int .i64 u]).heap[w.heap.size + 1]? = some (.cells #[.int .i64 n, .int .i64 u] 34 (0, 0)) := Cat.heap_setCell_same (Cat.heap_setCell_same hr3 0 _) 1 _
    have c8 : Chg (fun k => k = w.heap.size + 1) x3 (x3.setCells (w.heap.size + 1) 0 [.int .i64 n, .int .i64 u]) := Chg.setCells _ _ _ _
    have z8 := c8.size
    refine ⟨_, hst, hr8, (hs3.kept c8 (fun k hk e => ?_)).mono (fun k hk => ?_), ?_⟩
    · have e : k = w.heap.size + 1 := e
      rcases hG k hk with h | h <;> omega
    · rcases hG k hk with h | h
      · exact .inl h.1
      · exact .inr ⟨by omega, by omega⟩
    · exact (c3.mono (fun k _ h => h.1)).trans' c8 (fun k hk e => by have e : k = w.heap.size + 1 := e; omega)
  rw [hW] at q0 q1
  by_cases hc0 : ck = 0
  · have hc1 : checkN mt a b = 0 := by rw [← hck]; exact hc0
    have e0 : s.do_ mt a b = ((s.purge a b).1, ((s.wins a b : Nat) : Int), 0, (s.purge a b).2) := if_pos hc1
    rw [e0]
    have i1 : (ck != 0) = false := by rw [hc0]; rfl
    clear hb hr hW cW zW h hwf hM hck e0 hc1
    go_enter Try.func12, Try.ntmps12
    go_wp2_with fail
    rw [← HW.out]
    refine CK.out.mono ?_
    rintro e x1 ⟨rfl, c1⟩
    have PC := Lib.hid (ppurge_c x1 _ R s a b (H0.out.same c1) HWF.out)
    have hb1 := c1.heap HB.out (fun h => h)
    have hr1 := c1.heap HR.out (fun h => h)
    have q2 : x1.cell? ⟨w.heap.size, 0, none⟩ = some (.int .i64 a) := by rw [cell_of_heap hb1]; rfl
    have q3 : x1.cell? ⟨w.heap.size, 1, none⟩ = some (.int .i64 b) := by rw [cell_of_heap hb1]; rfl
    have HR1 := Lib.hid hr1
    have C1 := Lib.hid c1
    clear c1 hb1 hr1 q0 q1
    go_wp2_with fail
    refine PC.out.mono ?_
    rintro e x3 ⟨rfl, h3, c3⟩
    have z1 := C1.out.size
    have z2 := ZW.out
    obtain ⟨x8, hst, hr8, hs8, c8⟩ := fin.out x3 (s.purge a b).1 ((s.wins a b : Nat) : Int) _ _ (c3.heap HR1.out (fun h => by omega)) h3 (fun k hk => by
      rcases hk with h | h
      · exact .inl h
      · exact .inr ⟨by omega, h.2⟩) (((CW.out.trans C1.out).mono (fun _ _ h => h.elim)).trans' c3 (fun k hk h => h))
    have HR8 := Lib.hid hr8
    have HS8 := Lib.hid hs8
    have C8 := Lib.hid c8
    clear h3 c3 q2 q3 hr8 hs8 c8 z1 z2
    go_wp2_with (first | refine wpList_store rfl 34 _ _ rfl _ _ _ rfl rfl hst ?_)
    exact bodyPost_ret (v := .tuple #[.agg #[.int .i64 (s.purge a b).1, .int .i64 (s.wins a b : Nat)], .int .i64 0]) (results_row_tmp2 (fn := Try.f12) (p := 8) (u := 9) (ty := 34) rfl _ _ (w.heap.size + 1) _ _ (0, 0) _ rfl HR8.out Try.underlying34 rfl (by kernel_rfl)) rfl ⟨rfl, HS8.out, C8.out⟩
  · have hc1 : ¬ checkN mt a b = 0 := by rw [← hck]; exact hc0
    have e0 : s.do_ mt a b = (0, 0, ck, s) := by rw [hck]; exact if_neg hc1
    rw [e0]
    have i1 : (ck != 0) = true := by simp [hc0]
    clear hb hr hW cW zW h hwf hM hck e0 hc1
    go_enter Try.func12, Try.ntmps12
    go_wp2_with fail
    rw [← HW.out]
    refine CK.out.mono ?_
    rintro e x1 ⟨rfl, c1⟩
    have hr1 := c1.heap HR.out (fun h => h)
    have z1 := c1.size
    have z2 := ZW.out
    obtain ⟨x8, hst, hr8, hs8, c8⟩ := fin.out x1 0 0 _ _ hr1 (H0.out.same c1) (fun k hk => .inl hk) ((CW.out.trans c1).mono (fun _ _ h => h.elim))
    have HR8 := Lib.hid hr8
    have HS8 := Lib.hid hs8
    have C8 := Lib.hid c8
    clear c1 hr1 q0 q1 hr8 hs8 c8 z1 z2
    go_wp2_with (first | refine wpList_store rfl 34 _ _ rfl _ _ _ rfl rfl hst ?_)
    exact bodyPost_ret (v := .tuple #[.agg #[.int .i64 0, .int .i64 0], .int .i64 ck]) (results_row_tmp2 (fn := Try.f12) (p := 8) (u := 9) (ty := 34) rfl _ _ (w.heap.size + 1) _ _ (0, 0) _ rfl HR8.out Try.underlying34 rfl (by kernel_rfl)) rfl ⟨rfl, HS8.out, C8.out⟩
end Go.Proofs.Ytmnnahkaenikkaa
