/- Contracts of package command: Of. -/
import Derived.Test.YtjhkhdockiocgaaCmd9
import Derived.Test.YtjhkhdockiocgaaStampPure2
import Derived.Deep.CutRange
namespace Go.Proofs.Ytjhkhdockiocgaa
open Go.RowKit Go.Cat

theorem _root_.Go.Cat.ReaderAt.bound {w : World} {S : Nat → Prop} {b : Nat} {l : List UInt8} {e : Int} (h : ReaderAt w S b l e) : ReaderAt w (fun k => S k ∧ k < w.heap.size) b l e := by
  obtain ⟨bv, t, h1, h2, h3, h4, h5⟩ := h
  exact ⟨bv, t, h1, h2, h3, ⟨h4, (Array.getElem?_eq_some_iff.1 h1).1⟩, fun k hk => ⟨h5 k hk, h2.lt k hk⟩⟩
theorem rfields_any (w : World) (S : Nat → Prop) (c b : Nat) (k : Int) (st : RS) (B : Nat) (T : TypeId) (h : CodR w S c b st) (hS : ∀ k, S k → k < w.heap.size) (hB : w.heap[B]? = some (.cells (kz k) T (0, 0))) (hBS : ¬ S B) (hBc : B ≠ c) (hl : st.1.length ≤ 140737488355328) (hk : 0 ≤ k ∧ k < 10) :
    Calls Try.prog 66 #[.pointer (some ⟨c, 0, none⟩), .pointer (some ⟨B, 0, none⟩)] w fun e' w' => ∃ pv, e' = .returned (.tuple #[]) ∧ CodR w' S c b (rdc k pv st).2.2 ∧ w'.heap[B]? = some (.cells (rdc k pv st).1.cells.toArray T (0, 0)) ∧ Reads w' 2 pv (rdc k pv st).2.1.length ((rdc k pv st).2.1.flatMap Pnt.cells) ∧ (∀ k, pv.ownBlock = some k → w.heap.size ≤ k) ∧ (rdc k pv st).1.pv = pv ∧ Chg (RB2 b B) w w' := by
  have hk' : k = 0 ∨ k = 1 ∨ k = 2 ∨ k = 3 ∨ k = 4 ∨ k = 5 ∨ k = 6 ∨ k = 7 ∨ k = 8 ∨ k = 9 := by omega
  rcases hk' with rfl | rfl | rfl | rfl | rfl | rfl | rfl | rfl | rfl | rfl
  · exact rfields_0 w S c b st B T h hS hB hBS hBc hl
  · exact rfields_1 w S c b st B T h hS hB hBS hBc hl
  · exact rfields_2 w S c b st B T h hS hB hBS hBc hl
  · exact rfields_3 w S c b st B T h hS hB hBS hBc hl
  · exact rfields_4 w S c b st B T h hS hB hBS hBc hl
  · exact rfields_5 w S c b st B T h hS hB hBS hBc hl
  · exact rfields_6 w S c b st B T h hS hB hBS hBc hl
  · exact rfields_7 w S c b st B T h hS hB hBS hBc hl
  · exact rfields_8 w S c b st B T h hS hB hBS hBc hl
  · exact rfields_9 w S c b st B T h hS hB hBS hBc hl

theorem rdc_pv (k : Int) (pv pv' : Value) (st : RS) : (rdc k pv st).2.2 = (rdc k pv' st).2.2 := by
  unfold rdc
  repeat' split
  all_goals rfl
/-- What is read of bytes: a command, its points, an error. -/
def ofRes (pv : Value) (l : List UInt8) : Cmd × List Pnt × Int :=
  if (rdNum 1 (l, 0)).2.2 = 0 ∧ ¬ ((rdNum 1 (l, 0)).1 < 10) then (Cmd.zero, [], 2)
  else if (rdc (rdNum 1 (l, 0)).1 pv (rdNum 1 (l, 0)).2).2.2.2 ≠ 0 then (Cmd.zero, [], (rdc (rdNum 1 (l, 0)).1 pv (rdNum 1 (l, 0)).2).2.2.2)
  else if (rdc (rdNum 1 (l, 0)).1 pv (rdNum 1 (l, 0)).2).2.2.1 ≠ [] then (Cmd.zero, [], 12)
  else ((rdc (rdNum 1 (l, 0)).1 pv (rdNum 1 (l, 0)).2).1, (rdc (rdNum 1 (l, 0)).1 pv (rdNum 1 (l, 0)).2).2.1, 0)

set_option maxRecDepth 100000 in
set_option maxHeartbeats 1000000 in
theorem of_any (v : Value) (l : List UInt8) (w : World) (hv : RB w v l) (hl : l.length ≤ 140737488355328) :
    Calls Try.prog 19 #[v] w fun e w' => ∃ pv, e = .returned (.tuple #[.agg (ofRes pv l).1.cells.toArray, .int .i64 (ofRes pv l).2.2]) ∧ Reads w' 2 (ofRes pv l).1.pv (ofRes pv l).2.1.length ((ofRes pv l).2.1.flatMap Pnt.cells) ∧ Chg (fun _ => False) w w' := by
  obtain ⟨va, vc, rfl⟩ := hv.form
  obtain ⟨w1, hw1⟩ : ∃ w1, w1 = w.alloc (.cells Cmd.zero.cells.toArray 30) := ⟨_, rfl⟩
  have c1 : Chg (fun _ => False) w w1 := by rw [hw1]; exact (Chg.refl _ w).alloc _
  have z1 : w1.heap.size = w.heap.size + 1 := by rw [hw1]; simp
  have HR1 : Hid (w1.heap[w.heap.size]? = some (.cells Cmd.zero.cells.toArray 30 (0, 0))) := by rw [hw1]; exact heap_at_new _ _ _ rfl
  have RD := Lib.hid (rread_any w1 (.slice va l.length vc) l (hv.kept c1 (fun _ _ h => h)) hl)
  have HW1 := Lib.hid hw1
  clear hw1 hv
  go_enter Try.func19, Try.ntmps19
  go_wp2_with (first | refine wpList_allocN rfl 30 rfl (.agg Cmd.zero.cells.toArray) 17 (by kernel_rfl) w1 (w.heap.size) rfl HW1.out ?_)
  refine RD.out.mono ?_
  rintro e w2 ⟨b, rfl, h2, c2⟩
  have h2b : ReaderAt w2 (fun k => w1.heap.size ≤ k ∧ k < w2.heap.size) b l 0 := h2.bound
  have hbS : w1.heap.size ≤ b ∧ b < w2.heap.size := by obtain ⟨_, _, _, _, _, h5, _⟩ := h2b; exact h5
  have H2 := Lib.hid h2b
  have HR2 := Lib.hid (c2.heap HR1.out (fun h => h))
  have z12 := c2.size
  clear h2 h2b RD HR1
  have hbS1 := hbS.1
  have hbS2 := hbS.2
  go_wp2_with fail
  obtain ⟨w3, hw3⟩ : ∃ w3, w3 = w2.alloc (.cells #[.pointer none, .pointer (some ⟨b, 0, none⟩), .int .i64 0] 111) := ⟨_, rfl⟩
  have c3 : Chg (fun _ => False) w2 w3 := by rw [hw3]; exact (Chg.refl _ w2).alloc _
  have z3 : Hid (w3.heap.size = w2.heap.size + 1) := by show _ = _; rw [hw3]; simp
  have HC3 : Hid (w3.heap[w2.heap.size]? = some (.cells #[.pointer none, .pointer (some ⟨b, 0, none⟩), .int .i64 0] 111 (0, 0))) := by rw [hw3]; exact heap_at_new _ _ _ rfl
  have H3 := Lib.hid (H2.out.kept c3 (fun _ _ h => h))
  rw [← hw3]
  clear hw3
  refine (rnum_any w3 _ b (l, 0) 1 H3.out (by omega) hl).mono ?_
  rintro e w4 ⟨rfl, h4, c4⟩
  have hk256 := rdNum_lt 1 (l, 0)
  have hs1 := rdNum_len 1 (l, 0)
  have hz0 : (rdNum 1 (l, 0)).2.2 ≠ 0 → (rdNum 1 (l, 0)).1 = 0 := by unfold rdNum; repeat' split <;> simp
  obtain ⟨⟨k, s1⟩, hk⟩ : ∃ r, r = rdNum 1 (l, 0) := ⟨_, rfl⟩
  rw [← hk] at h4 hk256 hs1 hz0 ⊢
  simp only at h4 hk256 hs1 hz0
  have HK := Lib.hid hk
  have hkw : IntKind.i64.wrap (k : Int) = k := by rw [IntKind.wrap_i64]; omega
  have H4 := Lib.hid h4
  have HZ0 := Lib.hid hz0
  have c24 : Chg (fun q => q = b) w2 w4 := (c3.mono (fun _ _ h => h.elim)).trans c4
  have HC4 : Hid (w4.heap[w2.heap.size]? = some (.cells #[.pointer none, .pointer (some ⟨b, 0, none⟩), .int .i64 0] 111 (0, 0))) := c4.heap HC3.out (fun h => absurd h (by omega))
  have z4 := c4.size
  have HR4 := Lib.hid (c24.heap HR2.out (fun h => absurd h (by omega)))
  obtain ⟨w5, hw5⟩ : ∃ w5, w5 = w4.alloc (.cells Cmd.zero.cells.toArray 30) := ⟨_, rfl⟩
  have HC5 : Hid (w5.heap[w2.heap.size]? = some (.cells #[.pointer none, .pointer (some ⟨b, 0, none⟩), .int .i64 0] 111 (0, 0))) := by rw [hw5]; exact ((Chg.refl (fun _ => False) w4).alloc _).heap HC4.out (fun h => h)
  have HB5 : Hid (w5.heap[w4.heap.size]? = some (.cells Cmd.zero.cells.toArray 30 (0, 0))) := by rw [hw5]; exact heap_at_new _ _ _ rfl
  obtain ⟨w6, hw6⟩ : ∃ w6, w6 = w5.setCells w4.heap.size 0 (Cmd.cells ⟨k, [], [], [], .slice none 0 0, 0, 0, 0, 0, 0, [], [], 0, 0, 0, 0, 0⟩) := ⟨_, rfl⟩
  have HST : Hid ((Instr.storeAt 30 (.pointer (some ⟨w4.heap.size, 0, none⟩)) (.agg (kz k))).run Try.prog w5 = .ok () w6) := by show _ = _; rw [hw6]; exact store_cmd w5 _ ⟨k, [], [], [], .slice none 0 0, 0, 0, 0, 0, 0, [], [], 0, 0, 0, 0, 0⟩ Cmd.zero _ HB5.out rfl
  have HB6 : Hid (w6.heap[w4.heap.size]? = some (.cells (kz k) 30 (0, 0))) := by rw [hw6]; exact heap_cmd w5 _ ⟨k, [], [], [], .slice none 0 0, 0, 0, 0, 0, 0, [], [], 0, 0, 0, 0, 0⟩ Cmd.zero _ HB5.out
  have c56 : Chg (fun q => q = w4.heap.size) w5 w6 := by rw [hw6]; exact Chg.setCells _ _ _ _
  have c45 : Chg (fun _ => False) w4 w5 := by rw [hw5]; exact (Chg.refl _ w4).alloc _
  have c46 : Hid (Chg (fun _ => False) w4 w6) := c45.new c56 (fun q h => by omega)
  have z3' := z3.out
  have zc : w2.heap.size < w4.heap.size := by omega
  have H6 : Hid (CodR w6 (fun k => w1.heap.size ≤ k ∧ k < w2.heap.size) w2.heap.size b s1) := ⟨_, c46.out.heap HC4.out (fun h => h), H4.out.kept c46.out (fun _ _ h => h), fun h => by omega⟩
  have HR6 := Lib.hid (c46.out.heap HR4.out (fun h => h))
  have q1 : w6.cell? ⟨w2.heap.size, 1, none⟩ = some (.pointer (some ⟨b, 0, none⟩)) := by obtain ⟨_, h, _⟩ := H6.out; rw [cell_of_heap h]; rfl
  have q2 : w6.cell? ⟨w4.heap.size, 0, none⟩ = some (.int .i64 k) := by rw [cell_of_heap HB6.out]; rfl
  have HW5 := Lib.hid hw5
  have a4 : w4.cell? ⟨w2.heap.size, 1, none⟩ = some (.pointer (some ⟨b, 0, none⟩)) := by rw [cell_of_heap HC4.out]; rfl
  clear hw5 hw6 c56 c45 hz0 h4 hk z3' z3 c4 c3 HW1 H3 HC3 H2 HC5 HB5 HC4 z4 hbS
  go_upto_region 3 with (first | refine wpList_allocN rfl 30 rfl (.agg Cmd.zero.cells.toArray) 17 (by kernel_rfl) w5 (w4.heap.size) rfl HW5.out ?_ | refine wpList_store rfl 30 _ _ rfl _ _ _ rfl rfl HST.out ?_)
  clear a4 HST HW5
  have hR7 : ∀ w', w'.heap[w.heap.size]? = some (.cells Cmd.zero.cells.toArray 30 (0, 0)) → ∀ x : Cmd, x.pv.oneCell' = true → ∃ w'', (Instr.storeAt 30 (.pointer (some ⟨w.heap.size, 0, none⟩)) (.agg x.cells.toArray)).run Try.prog w' = .ok () w'' ∧ w''.heap[w.heap.size]? = some (.cells x.cells.toArray 30 (0, 0)) ∧ Chg (fun q => q = w.heap.size) w' w'' :=
    fun w' h x hx => ⟨_, store_cmd w' _ x Cmd.zero _ h hx, heap_cmd w' _ x Cmd.zero _ h, Chg.setCells _ _ _ _⟩
  have HRS := Lib.hid hR7
  have cw6 : Hid (Chg (fun _ => False) w w6) := by
    have c12 : Chg (fun _ => False) w w2 := c1.trans c2
    exact (c12.new c24 (fun q h => by omega)).trans c46.out
  clear hR7
  have ER := Lib.hid (rerr_any w6 _ b s1.1 s1.2 (by obtain ⟨_, _, h, _⟩ := H6.out; exact h))
  have WR := Lib.hid (fun w => writes_any90 (k : Int) w)
  obtain ⟨s1l, s1e⟩ := s1
  simp only at hs1
  have fin : Hid (∀ (x : Cmd) (ps : List Pnt) (z : Int) w', (∀ pv, ofRes pv l = (x, ps, z)) → x.pv = .slice none 0 0 → ps = [] → Chg (fun _ => False) w w' → ∃ pv, Ending.returned (.tuple #[.agg x.cells.toArray, .int .i64 z]) = .returned (.tuple #[.agg (ofRes pv l).1.cells.toArray, .int .i64 (ofRes pv l).2.2]) ∧ Reads w' 2 (ofRes pv l).1.pv (ofRes pv l).2.1.length ((ofRes pv l).2.1.flatMap Pnt.cells) ∧ Chg (fun _ => False) w w') := fun x ps z w' h1 h2 h3 h4 => by
    refine ⟨.slice none 0 0, by rw [h1], ?_, h4⟩
    rw [h1]; simp only [h2, h3]; exact Reads.nil _ 2
  simp only at ER
  try simp only [Act.put, List.setIfInBounds_toArray, List.set_cons_zero, List.set_cons_succ]
  go_cut [29] from 18 to 29 (fun s wx => s = .bool (decide (s1e = 0 ∧ ¬ k < 10)) ∧ wx = w6)
  case first =>
    by_cases he : s1e = 0
    · subst he
      have hd : decide ((0 : Int) = 0 ∧ ¬ k < 10) = !decide (0 ≤ (k : Int) ∧ (k : Int) < 10) := by
        by_cases h : k < 10
        · simp [h]; omega
        · simp [h]; omega
      have HD := Lib.hid hd
      obtain ⟨q, hq⟩ : ∃ q, q = decide (0 ≤ (k : Int) ∧ (k : Int) < 10) := ⟨_, rfl⟩
      rw [← hq] at WR HD
      clear hq hd
      go_wp2_with fail
      refine ER.out.mono ?_
      rintro e _ ⟨rfl, rfl⟩
      go_wp2_with fail
      refine (WR.out _).mono ?_
      rintro e _ ⟨rfl, rfl⟩
      go_wp2_with fail
      go_meet
      exact ⟨by rw [HD.out], rfl⟩
    · have e0 : (s1e == 0) = false := by simpa using he
      have HD := Lib.hid (decide_eq_false (fun h : s1e = 0 ∧ ¬ k < 10 => he h.1))
      clear he
      go_wp2_with fail
      refine ER.out.mono ?_
      rintro e _ ⟨rfl, rfl⟩
      go_wp2_with fail
      go_meet
      exact ⟨by rw [HD.out], rfl⟩
  case rest =>
    obtain ⟨rfl, rfl⟩ := hcut
    by_cases hbad : s1e = 0 ∧ ¬ k < 10
    · obtain ⟨rfl, hk10⟩ := hbad
      have hres : ∀ pv, ofRes pv l = (Cmd.zero, [], 2) := fun pv => by unfold ofRes; rw [← HK.out]; simp [hk10]
      have HRES := Lib.hid hres
      obtain ⟨w7, hst, h7, c7⟩ := HRS.out wc HR6.out Cmd.zero rfl
      have HST := Lib.hid hst
      have H7 := Lib.hid h7
      have C7 := Lib.hid c7
      clear hst h7 c7 hres
      have hdd : decide ((0 : Int) = 0 ∧ ¬ k < 10) = true := by simp [hk10]
      rw [hdd]
      clear hdd hk10
      go_wp2_with (refine wpList_store rfl 30 _ _ rfl _ _ _ rfl rfl HST.out ?_)
      refine bodyPost_ret (v := .tuple #[.agg Cmd.zero.cells.toArray, .int .i64 2]) (results_row_tmp (fn := Try.f19) (p := 2) (u := 3) (ty := 30) rfl _ _ w.heap.size _ _ (0, 0) _ rfl H7.out Try.underlying30 rfl (by kernel_rfl)) rfl ?_
      exact fin.out Cmd.zero [] 2 w7 HRES.out rfl rfl (cw6.out.new C7.out (fun q h => by omega))
    rw [decide_eq_false hbad]
    have hk10 : k < 10 := by
      by_cases he : s1e = 0
      · exact Classical.byContradiction fun h => hbad ⟨he, h⟩
      · have := HZ0.out he; omega
    have FLD := Lib.hid (rfields_any wc _ w2.heap.size b (k : Int) (s1l, s1e) w4.heap.size _ H6.out (fun q hq => by have := cw6.out.size; have := c46.out.size; omega) HB6.out (fun h => by omega) (by omega) (by simp only; omega) (by omega))
    have HB := Lib.hid hbad
    clear hbad
    go_wp2_with fail
    refine FLD.out.mono ?_
    rintro e w8 ⟨pv, rfl, h8, hb8, hv8, hn8, hp8, c8⟩
    obtain ⟨⟨x, ps, sl, se⟩, hx⟩ : ∃ r, r = rdc k pv (s1l, s1e) := ⟨_, rfl⟩
    rw [← hx] at h8 hb8 hv8 hp8
    simp only at h8 hb8 hv8 hp8
    have cw8 : Hid (Chg (fun _ => False) w w8) := cw6.out.new c8 (fun q h => by
      have := c46.out.size
      rcases h with h | h <;> omega)
    have hRa : Hid (ReaderAt w8 (fun k => w1.heap.size ≤ k ∧ k < w2.heap.size) b sl se) := by obtain ⟨_, _, h, _⟩ := h8; exact h
    have r1 : w8.cell? ⟨w2.heap.size, 1, none⟩ = some (.pointer (some ⟨b, 0, none⟩)) := by obtain ⟨_, h, _⟩ := h8; rw [cell_of_heap h]; rfl
    have HR8 : Hid (w8.heap[w.heap.size]? = some (.cells Cmd.zero.cells.toArray 30 (0, 0))) := c8.heap HR6.out (fun h => by
      have := c46.out.size
      rcases h with h | h <;> omega)
    have RES : Hid (∀ pv', ofRes pv' l = if (rdc k pv' (s1l, s1e)).2.2.2 ≠ 0 then (Cmd.zero, [], (rdc k pv' (s1l, s1e)).2.2.2) else if (rdc k pv' (s1l, s1e)).2.2.1 ≠ [] then (Cmd.zero, [], 12) else ((rdc k pv' (s1l, s1e)).1, (rdc k pv' (s1l, s1e)).2.1, 0)) := fun pv' => by
      unfold ofRes; rw [← HK.out]; rw [if_neg (by simpa using HB.out)]
    have PV : Hid (∀ pv', (rdc k pv' (s1l, s1e)).2.2 = (sl, se)) := fun pv' => by rw [rdc_pv _ pv' pv, ← hx]
    have HX := Lib.hid hx
    have HB8 := Lib.hid hb8
    have HV8 := Lib.hid hv8
    have HP8 := Lib.hid hp8
    clear hx hb8 hv8 hp8 h8 q1 q2
    go_wp2_with fail
    refine (rend_any w8 _ b sl se hRa.out).mono ?_
    rintro e _ ⟨rfl, rfl⟩
    obtain ⟨z, hz⟩ : ∃ z, z = (if se ≠ 0 then se else if sl = [] then 0 else 12) := ⟨_, rfl⟩
    rw [← hz]
    have HZ := Lib.hid hz
    clear hz
    by_cases hz0 : z = 0
    · have hse : se = 0 ∧ sl = [] := by
        have := HZ.out
        by_cases h1 : se = 0
        · by_cases h2 : sl = []
          · exact ⟨h1, h2⟩
          · rw [if_neg (by simpa using h1), if_neg h2] at this; omega
        · rw [if_pos h1] at this; omega
      have HSE := Lib.hid hse
      subst hz0
      obtain ⟨w9, hst, h9, c9⟩ := HRS.out w8 HR8.out x (by rw [HP8.out]; obtain ⟨a, c, h⟩ := HV8.out.form; rw [h]; rfl)
      have HST := Lib.hid hst
      have H9 := Lib.hid h9
      have C9 := Lib.hid c9
      have ld := load_cmd w8 _ x _ HB8.out
      clear hst h9 c9 hse
      go_wp2_with (first | refine wpList_loadG 30 _ rfl rfl _ _ rfl ld ?_ | refine wpList_store rfl 30 _ _ rfl _ _ _ rfl rfl HST.out ?_)
      refine bodyPost_ret (v := .tuple #[.agg x.cells.toArray, .int .i64 0]) (results_row_tmp (fn := Try.f19) (p := 2) (u := 3) (ty := 30) rfl _ _ w.heap.size _ _ (0, 0) _ rfl H9.out Try.underlying30 rfl (by kernel_rfl)) rfl ?_
      have hres : ofRes pv l = (x, ps, 0) := by rw [RES.out, ← HX.out]; simp [HSE.out]
      refine ⟨pv, by rw [hres], ?_, cw8.out.new C9.out (fun q h => by omega)⟩
      rw [hres]
      simp only [HP8.out]
      exact HV8.out.kept C9.out (fun q hq e => by have := hn8 q hq; have := c46.out.size; omega)
    · have e0 : (z == 0) = false := by simpa using hz0
      have HZ1 := Lib.hid hz0
      obtain ⟨w9, hst, h9, c9⟩ := HRS.out w8 HR8.out Cmd.zero rfl
      have HST := Lib.hid hst
      have H9 := Lib.hid h9
      have C9 := Lib.hid c9
      clear hst h9 c9 hz0
      go_wp2_with (refine wpList_store rfl 30 _ _ rfl _ _ _ rfl rfl HST.out ?_)
      refine bodyPost_ret (v := .tuple #[.agg Cmd.zero.cells.toArray, .int .i64 z]) (results_row_tmp (fn := Try.f19) (p := 2) (u := 3) (ty := 30) rfl _ _ w.heap.size _ _ (0, 0) _ rfl H9.out Try.underlying30 rfl (by kernel_rfl)) rfl ?_
      refine fin.out Cmd.zero [] z w9 (fun pv' => ?_) rfl rfl (cw8.out.new C9.out (fun q h => by omega))
      rw [RES.out, PV.out]
      have := HZ.out
      by_cases h1 : se = 0
      · by_cases h2 : sl = []
        · rw [if_neg (by simpa using h1), if_pos h2] at this; exact absurd this HZ1.out
        · rw [if_neg (by simpa using h1), if_neg h2] at this; simp [h1, h2, this]
      · rw [if_pos h1] at this; simp [h1, this]
end Go.Proofs.Ytjhkhdockiocgaa
