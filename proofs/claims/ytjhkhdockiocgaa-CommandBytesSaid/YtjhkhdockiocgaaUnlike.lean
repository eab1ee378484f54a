/- CommandUnlike: the walk. -/
import Derived.Test.YtjhkhdockiocgaaSame
import Derived.Test.YtjhkhdockiocgaaL26a
namespace Go.Proofs.Ytjhkhdockiocgaa
open Go.RowKit Go.Cat

theorem onlyPs_len (x : Cmd) (ps : List Pnt) : (x.onlyPs ps).length ≤ ps.length := by
  unfold Cmd.onlyPs; split <;> simp
theorem cbytes_all (x : Cmd) (ps : List Pnt) (w : World) (hv : Reads w 2 x.pv ps.length (ps.flatMap Pnt.cells)) :
    Calls Try.prog 16 #[.agg #[.int .i64 x.kind, .string ⟨x.tenant.toArray⟩, .string ⟨x.series.toArray⟩, .string ⟨x.name.toArray⟩, x.pv, .int .i64 x.rlo, .int .i64 x.rhi, .int .i64 x.praw, .int .i64 x.pmid, .int .i64 x.plong, .string ⟨x.hname.toArray⟩, .string ⟨x.hser.toArray⟩, .int .i64 x.hlo, .int .i64 x.hhi, .int .i64 x.bytes, .int .i64 x.count, .int .i64 x.at_]] w fun e w' => ∃ a n c z, e = .returned (.tuple #[.slice a n c, .int .i64 z]) ∧ (z = 0 → (0 ≤ x.kind ∧ x.kind < 10) ∧ (x.out ps).2 = 0 ∧ OB w' (.slice a n c) (x.out ps).1) ∧ (z ≠ 0 → (¬ (0 ≤ x.kind ∧ x.kind < 10) ∧ z = 1 ∨ (0 ≤ x.kind ∧ x.kind < 10) ∧ (x.out ps).2 = 12 ∧ z = 12) ∧ n = 0) ∧ Chg (fun _ => False) w w' := by
  by_cases hk : 0 ≤ x.kind ∧ x.kind < 10
  · refine (cbytes_any x ps w hv hk).mono ?_
    rintro e w' ⟨v, rfl, h1, h2, c⟩
    rcases err_or x ps (be x.kind.toNat 1) with h0 | h0
    · have h0' : (x.out ps).2 = 0 := h0
      have h3 := h1 h0'
      obtain ⟨a, cc, rfl⟩ := h3.form
      exact ⟨a, _, cc, _, rfl, fun _ => ⟨hk, h0', h3⟩, fun h => absurd h0' h, c⟩
    · have h0' : (x.out ps).2 = 12 := h0
      have h3 := h2 (by rw [h0']; decide)
      subst h3
      exact ⟨none, 0, 0, _, rfl, fun h => absurd h (by rw [h0']; decide), fun h => ⟨.inr ⟨hk, h0', h0'⟩, rfl⟩, c⟩
  · refine (cbytes_arg x w hk).mono ?_
    rintro e w' ⟨rfl, c⟩
    exact ⟨none, 0, 0, 1, rfl, fun h => absurd h (by decide), fun h => ⟨.inl ⟨hk, rfl⟩, rfl⟩, c⟩

set_option maxRecDepth 100000 in
set_option maxHeartbeats 4000000 in
theorem unlike26 (x y : Cmd) (ps qs : List Pnt) (w : World) (hx : Reads w 2 x.pv ps.length (ps.flatMap Pnt.cells)) (hy : Reads w 2 y.pv qs.length (qs.flatMap Pnt.cells)) (ox : x.Ok ps) (oy : y.Ok qs) :
    Calls Try.prog 3 #[.agg #[.int .i64 x.kind, .string ⟨x.tenant.toArray⟩, .string ⟨x.series.toArray⟩, .string ⟨x.name.toArray⟩, x.pv, .int .i64 x.rlo, .int .i64 x.rhi, .int .i64 x.praw, .int .i64 x.pmid, .int .i64 x.plong, .string ⟨x.hname.toArray⟩, .string ⟨x.hser.toArray⟩, .int .i64 x.hlo, .int .i64 x.hhi, .int .i64 x.bytes, .int .i64 x.count, .int .i64 x.at_], .agg #[.int .i64 y.kind, .string ⟨y.tenant.toArray⟩, .string ⟨y.series.toArray⟩, .string ⟨y.name.toArray⟩, y.pv, .int .i64 y.rlo, .int .i64 y.rhi, .int .i64 y.praw, .int .i64 y.pmid, .int .i64 y.plong, .string ⟨y.hname.toArray⟩, .string ⟨y.hser.toArray⟩, .int .i64 y.hlo, .int .i64 y.hhi, .int .i64 y.bytes, .int .i64 y.count, .int .i64 y.at_]] w fun e w' => e = .returned (.bool true) ∧ Chg (fun _ => False) w w' := by
  obtain ⟨w0, hw0⟩ : ∃ w0, w0 = (w.alloc (.cells #[.int .i64 x.kind, .string ⟨x.tenant.toArray⟩, .string ⟨x.series.toArray⟩, .string ⟨x.name.toArray⟩, x.pv, .int .i64 x.rlo, .int .i64 x.rhi, .int .i64 x.praw, .int .i64 x.pmid, .int .i64 x.plong, .string ⟨x.hname.toArray⟩, .string ⟨x.hser.toArray⟩, .int .i64 x.hlo, .int .i64 x.hhi, .int .i64 x.bytes, .int .i64 x.count, .int .i64 x.at_] 30)).alloc (.cells #[.int .i64 y.kind, .string ⟨y.tenant.toArray⟩, .string ⟨y.series.toArray⟩, .string ⟨y.name.toArray⟩, y.pv, .int .i64 y.rlo, .int .i64 y.rhi, .int .i64 y.praw, .int .i64 y.pmid, .int .i64 y.plong, .string ⟨y.hname.toArray⟩, .string ⟨y.hser.toArray⟩, .int .i64 y.hlo, .int .i64 y.hhi, .int .i64 y.bytes, .int .i64 y.count, .int .i64 y.at_] 30) := ⟨_, rfl⟩
  have c0 : Chg (fun _ => False) w w0 := by rw [hw0]; exact ((Chg.refl _ w).alloc _).alloc _
  have HX0 : Hid (w0.heap[w.heap.size]? = some (.cells x.cells.toArray 30 (0, 0))) := by rw [hw0]; exact ((Chg.refl (fun _ => False) _).alloc _).heap (heap_at_new _ _ _ rfl) (fun h => h)
  have HY0 : Hid (w0.heap[w.heap.size + 1]? = some (.cells y.cells.toArray 30 (0, 0))) := by rw [hw0]; exact heap_at_new _ _ _ (by simp)
  have VX0 := Lib.hid (hx.kept c0 (fun _ _ h => h))
  have VY0 := Lib.hid (hy.kept c0 (fun _ _ h => h))
  have HW0 := Lib.hid hw0
  have OX := Lib.hid ox
  have OY := Lib.hid oy
  clear hx hy hw0 ox oy
  go_enter Try.func3, Try.ntmps3
  go_wp2_with fail
  refine (lives26 _).mono ?_
  rintro e w1 ⟨rfl, c1⟩
  rw [← HW0.out] at c1
  have HX1 := Lib.hid (c1.heap HX0.out (fun h => h))
  have HY1 := Lib.hid (c1.heap HY0.out (fun h => h))
  have VX1 := Lib.hid (VX0.out.kept c1 (fun _ _ h => h))
  have VY1 := Lib.hid (VY0.out.kept c1 (fun _ _ h => h))
  have ld := load_cmd w1 _ x _ HX1.out
  go_wp2_with (refine wpList_loadG 30 _ rfl rfl _ _ rfl ld ?_)
  clear ld
  refine (few26 x ps w1 VX1.out).mono ?_
  rintro e w2 ⟨rfl, c2⟩
  have c02 : Hid (Chg (fun _ => False) w w2) := (c0.trans c1).trans c2
  have HX2 := Lib.hid (c2.heap HX1.out (fun h => h))
  have HY2 := Lib.hid (c2.heap HY1.out (fun h => h))
  have VX2 := Lib.hid (VX1.out.kept c2 (fun _ _ h => h))
  have VY2 := Lib.hid (VY1.out.kept c2 (fun _ _ h => h))
  clear c0 c1 c2 HX0 HY0 VX0 VY0 HX1 HY1 VX1 VY1 HW0
  cases hfx : x.few ps.length
  · go_wp2_with fail
    refine (lives26 _).mono ?_
    rintro e w3 ⟨rfl, c3⟩
    go_wp2_with fail
    go_ret
    exact ⟨rfl, c02.out.trans c3⟩
  have ld := load_cmd w2 _ y _ HY2.out
  go_wp2_with (refine wpList_loadG 30 _ rfl rfl _ _ rfl ld ?_)
  clear ld
  refine (few26 y qs w2 VY2.out).mono ?_
  rintro e w3 ⟨rfl, c3⟩
  have c03 : Hid (Chg (fun _ => False) w w3) := c02.out.trans c3
  have HX3 := Lib.hid (c3.heap HX2.out (fun h => h))
  have HY3 := Lib.hid (c3.heap HY2.out (fun h => h))
  have VX3 := Lib.hid (VX2.out.kept c3 (fun _ _ h => h))
  have VY3 := Lib.hid (VY2.out.kept c3 (fun _ _ h => h))
  clear c3 c02 HX2 HY2 VX2 VY2
  cases hfy : y.few qs.length
  · go_wp2_with fail
    refine (lives26 _).mono ?_
    rintro e w4 ⟨rfl, c4⟩
    go_wp2_with fail
    go_ret
    exact ⟨rfl, c03.out.trans c4⟩
  have np : ps.length ≤ 1000000 := by simp only [Cmd.few, Bool.and_eq_true, decide_eq_true_eq] at hfx; omega
  have nq : qs.length ≤ 1000000 := by simp only [Cmd.few, Bool.and_eq_true, decide_eq_true_eq] at hfy; omega
  clear hfx hfy
  have ld := load_cmd w3 _ x _ HX3.out
  go_wp2_with (refine wpList_loadG 30 _ rfl rfl _ _ rfl ld ?_)
  clear ld
  refine (cbytes_all x ps w3 VX3.out).mono ?_
  rintro e w4 ⟨a4, n4, k4, z4, rfl, h4, _, c4⟩
  have c04 : Hid (Chg (fun _ => False) w w4) := c03.out.trans c4
  have HX4 := Lib.hid (c4.heap HX3.out (fun h => h))
  have HY4 := Lib.hid (c4.heap HY3.out (fun h => h))
  have VX4 := Lib.hid (VX3.out.kept c4 (fun _ _ h => h))
  have VY4 := Lib.hid (VY3.out.kept c4 (fun _ _ h => h))
  have H4 := Lib.hid h4
  clear c4 c03 HX3 HY3 VX3 VY3 h4
  have ld := load_cmd w4 _ y _ HY4.out
  go_wp2_with (refine wpList_loadG 30 _ rfl rfl _ _ rfl ld ?_)
  clear ld
  refine (cbytes_all y qs w4 VY4.out).mono ?_
  rintro e w5 ⟨a5, n5, k5, z5, rfl, h5, _, c5⟩
  have c05 : Hid (Chg (fun _ => False) w w5) := c04.out.trans c5
  have HX5 := Lib.hid (c5.heap HX4.out (fun h => h))
  have HY5 := Lib.hid (c5.heap HY4.out (fun h => h))
  have VX5 := Lib.hid (VX4.out.kept c5 (fun _ _ h => h))
  have VY5 := Lib.hid (VY4.out.kept c5 (fun _ _ h => h))
  by_cases hz4 : z4 = 0
  case neg =>
    have e4 : (z4 == 0) = false := by simpa using hz4
    clear hz4
    go_wp2_with fail
    go_ret
    exact ⟨rfl, c05.out⟩
  by_cases hz5 : z5 = 0
  case neg =>
    have e5 : (z5 == 0) = false := by simpa using hz5
    subst hz4
    clear hz5
    go_wp2_with fail
    go_ret
    exact ⟨rfl, c05.out⟩
  subst hz4 hz5
  obtain ⟨kx, zx, bx⟩ := H4.out rfl
  obtain ⟨ky, zy, by'⟩ := h5 rfl
  have bx5 := bx.kept c5 (fun _ _ h => h)
  have UC := Lib.hid (fun va vb => unlike_close x y ps qs va vb OX.out OY.out kx ky zx zy)
  obtain ⟨lx, hlx⟩ : ∃ l, l = (x.out ps).1 := ⟨_, rfl⟩
  obtain ⟨ly, hly⟩ : ∃ l, l = (y.out qs).1 := ⟨_, rfl⟩
  rw [← hlx, ← hly] at UC
  rw [← hlx] at bx5
  rw [← hly] at by'
  have BX := Lib.hid bx5.rb
  have BY := Lib.hid by'.rb
  clear bx bx5 by' h5 H4 kx ky zx zy hlx hly c5 c04 HX4 HY4 VX4 VY4
  go_wp2_with fail
  by_cases hxy : lx = ly
  · subst hxy
    refine wpT.begin (fun _ => False) 12 (by kernel_rfl) rfl ?_
    refine wpT.take 0 rfl (by kernel_rfl) (fun _ _ _ h => h) rfl (fun w' hw' => by go_simp <;> with_reducible rfl) ?_
    simp only [Act.put, List.setIfInBounds_toArray, List.set_cons_zero, List.set_cons_succ]
    refine wpT.take 1 rfl (by kernel_rfl) (fun _ _ _ h => h) rfl (fun w' hw' => by have hx := convb w' _ lx (BX.out.kept ((Chg.refl (fun _ => False) w5).drew.trans hw') (fun _ _ h => h)); go_simp <;> with_reducible rfl) ?_
    simp only [Act.put, List.setIfInBounds_toArray, List.set_cons_zero, List.set_cons_succ]
    refine wpT.take 2 rfl (by kernel_rfl) (fun _ _ _ h => h) rfl (fun w' hw' => by go_simp <;> with_reducible rfl) ?_
    simp only [Act.put, List.setIfInBounds_toArray, List.set_cons_zero, List.set_cons_succ]
    refine wpT.take 3 rfl (by kernel_rfl) (fun _ _ _ h => h) rfl (fun w' hw' => by have hx := convb w' _ lx (BY.out.kept ((Chg.refl (fun _ => False) w5).drew.trans hw') (fun _ _ h => h)); go_simp <;> with_reducible rfl) ?_
    simp only [Act.put, List.setIfInBounds_toArray, List.set_cons_zero, List.set_cons_succ]
    refine wpT.take 4 rfl (by kernel_rfl) (fun _ _ _ h => h) rfl (fun w' hw' => by go_simp <;> with_reducible rfl) ?_
    simp only [Act.put, List.setIfInBounds_toArray, List.set_cons_zero, List.set_cons_succ]
    refine wpT.take 5 rfl (by kernel_rfl) (fun _ _ _ h => h) rfl (fun w' hw' => exec_load _ _ _ _ rfl rfl (load_cmd w' _ x _ (((Chg.refl (fun _ => False) w5).drew.trans hw').heap HX5.out (fun h => h)))) ?_
    simp only [Act.put, List.setIfInBounds_toArray, List.set_cons_zero, List.set_cons_succ]
    refine wpT.take 7 rfl (by kernel_rfl) (fun _ _ _ h => h) rfl (fun w' hw' => exec_load _ _ _ _ rfl rfl (load_cmd w' _ y _ (((Chg.refl (fun _ => False) w5).drew.trans hw').heap HY5.out (fun h => h)))) ?_
    simp only [Act.put, List.setIfInBounds_toArray, List.set_cons_zero, List.set_cons_succ]
    refine wpT.call 6 rfl (by kernel_rfl) rfl (fun K hK => ?_)
    go_wp2_with fail
    refine (only_any x ps _ (VX5.out.kept (Chg.refl (fun _ => False) w5).drew (fun _ _ h => h)) np).mono ?_
    rintro e w6 ⟨pvx, rfl, hrx, c6⟩
    have c56 : Chg (fun _ => False) w5 w6 := (Chg.refl (fun _ => False) w5).drew.trans c6
    have VY6 := Lib.hid (VY5.out.kept c56 (fun _ _ h => h))
    have HRX := Lib.hid hrx
    refine hK _ _ c6 ?_
    clear hK hrx
    try (simp only [Act.put, List.setIfInBounds_toArray, List.set_cons_zero, List.set_cons_succ])
    refine wpT.call 8 rfl (by kernel_rfl) rfl (fun K hK => ?_)
    go_wp2_with fail
    refine (only_any y qs _ VY6.out nq).mono ?_
    rintro e w7 ⟨pvy, rfl, hry, c7⟩
    have c57 := c56.trans c7
    have HRY := Lib.hid hry
    have HRX7 := Lib.hid (HRX.out.kept c7 (fun _ _ h => h))
    refine hK _ _ c7 ?_
    clear hK hry
    try (simp only [Act.put, List.setIfInBounds_toArray, List.set_cons_zero, List.set_cons_succ])
    refine wpT.call 9 rfl (by kernel_rfl) rfl (fun K hK => ?_)
    go_wp2_with fail
    refine (same_any (x.only pvx) (y.only pvy) (x.onlyPs ps) (y.onlyPs qs) w7 HRX7.out HRY.out (by have := onlyPs_len x ps; simp only [maxLen]; omega)).mono ?_
    rintro e w8 ⟨r, rfl, hr, c8⟩
    obtain rfl := hr.2 ((UC.out pvx pvy).1 (by first | exact rfl | trivial))
    have c58 := c57.trans c8
    refine hK _ _ c8 ?_
    clear hK hr
    try (simp only [Act.put, List.setIfInBounds_toArray, List.set_cons_zero, List.set_cons_succ])
    refine wpT.take 10 rfl (by kernel_rfl) (fun _ _ _ h => h) rfl (fun w' hw' => by go_simp <;> with_reducible rfl) ?_
    simp only [Act.put, List.setIfInBounds_toArray, List.set_cons_zero, List.set_cons_succ]
    refine wpT.take 11 rfl (by kernel_rfl) (fun _ _ _ h => h) rfl (fun w' hw' => by go_simp <;> with_reducible rfl) ?_
    simp only [Act.put, List.setIfInBounds_toArray, List.set_cons_zero, List.set_cons_succ]
    refine wpT.done (by kernel_rfl) ?_
    go_wp2_with fail
    go_ret
    refine ⟨?_, c05.out.trans c58⟩
    first | rfl | (show Ending.returned (.bool _) = _; simp [HNE.out])
  · have HNE := Lib.hid hxy
    clear hxy
    refine wpT.begin (fun _ => False) 12 (by kernel_rfl) rfl ?_
    refine wpT.take 0 rfl (by kernel_rfl) (fun _ _ _ h => h) rfl (fun w' hw' => by go_simp <;> with_reducible rfl) ?_
    simp only [Act.put, List.setIfInBounds_toArray, List.set_cons_zero, List.set_cons_succ]
    refine wpT.take 1 rfl (by kernel_rfl) (fun _ _ _ h => h) rfl (fun w' hw' => by have hx := convb w' _ lx (BX.out.kept ((Chg.refl (fun _ => False) w5).drew.trans hw') (fun _ _ h => h)); go_simp <;> with_reducible rfl) ?_
    simp only [Act.put, List.setIfInBounds_toArray, List.set_cons_zero, List.set_cons_succ]
    refine wpT.take 2 rfl (by kernel_rfl) (fun _ _ _ h => h) rfl (fun w' hw' => by go_simp <;> with_reducible rfl) ?_
    simp only [Act.put, List.setIfInBounds_toArray, List.set_cons_zero, List.set_cons_succ]
    refine wpT.take 3 rfl (by kernel_rfl) (fun _ _ _ h => h) rfl (fun w' hw' => by have hx := convb w' _ ly (BY.out.kept ((Chg.refl (fun _ => False) w5).drew.trans hw') (fun _ _ h => h)); go_simp <;> with_reducible rfl) ?_
    simp only [Act.put, List.setIfInBounds_toArray, List.set_cons_zero, List.set_cons_succ]
    refine wpT.take 4 rfl (by kernel_rfl) (fun _ _ _ h => h) rfl (fun w' hw' => by have hne := HNE.out; go_simp <;> with_reducible rfl) ?_
    simp only [Act.put, List.setIfInBounds_toArray, List.set_cons_zero, List.set_cons_succ]
    refine wpT.take 5 rfl (by kernel_rfl) (fun _ _ _ h => h) rfl (fun w' hw' => exec_load _ _ _ _ rfl rfl (load_cmd w' _ x _ (((Chg.refl (fun _ => False) w5).drew.trans hw').heap HX5.out (fun h => h)))) ?_
    simp only [Act.put, List.setIfInBounds_toArray, List.set_cons_zero, List.set_cons_succ]
    refine wpT.take 7 rfl (by kernel_rfl) (fun _ _ _ h => h) rfl (fun w' hw' => exec_load _ _ _ _ rfl rfl (load_cmd w' _ y _ (((Chg.refl (fun _ => False) w5).drew.trans hw').heap HY5.out (fun h => h)))) ?_
    simp only [Act.put, List.setIfInBounds_toArray, List.set_cons_zero, List.set_cons_succ]
    refine wpT.call 6 rfl (by kernel_rfl) rfl (fun K hK => ?_)
    go_wp2_with fail
    refine (only_any x ps _ (VX5.out.kept (Chg.refl (fun _ => False) w5).drew (fun _ _ h => h)) np).mono ?_
    rintro e w6 ⟨pvx, rfl, hrx, c6⟩
    have c56 : Chg (fun _ => False) w5 w6 := (Chg.refl (fun _ => False) w5).drew.trans c6
    have VY6 := Lib.hid (VY5.out.kept c56 (fun _ _ h => h))
    have HRX := Lib.hid hrx
    refine hK _ _ c6 ?_
    clear hK hrx
    try (simp only [Act.put, List.setIfInBounds_toArray, List.set_cons_zero, List.set_cons_succ])
    refine wpT.call 8 rfl (by kernel_rfl) rfl (fun K hK => ?_)
    go_wp2_with fail
    refine (only_any y qs _ VY6.out nq).mono ?_
    rintro e w7 ⟨pvy, rfl, hry, c7⟩
    have c57 := c56.trans c7
    have HRY := Lib.hid hry
    have HRX7 := Lib.hid (HRX.out.kept c7 (fun _ _ h => h))
    refine hK _ _ c7 ?_
    clear hK hry
    try (simp only [Act.put, List.setIfInBounds_toArray, List.set_cons_zero, List.set_cons_succ])
    refine wpT.call 9 rfl (by kernel_rfl) rfl (fun K hK => ?_)
    go_wp2_with fail
    refine (same_any (x.only pvx) (y.only pvy) (x.onlyPs ps) (y.onlyPs qs) w7 HRX7.out HRY.out (by have := onlyPs_len x ps; simp only [maxLen]; omega)).mono ?_
    rintro e w8 ⟨r, rfl, hr, c8⟩
    obtain rfl : r = false := by
      cases r with
      | false => rfl
      | true => exact absurd ((UC.out pvx pvy).2 (hr.1 rfl)) HNE.out
    have c58 := c57.trans c8
    refine hK _ _ c8 ?_
    clear hK hr
    try (simp only [Act.put, List.setIfInBounds_toArray, List.set_cons_zero, List.set_cons_succ])
    refine wpT.take 10 rfl (by kernel_rfl) (fun _ _ _ h => h) rfl (fun w' hw' => by go_simp <;> with_reducible rfl) ?_
    simp only [Act.put, List.setIfInBounds_toArray, List.set_cons_zero, List.set_cons_succ]
    refine wpT.take 11 rfl (by kernel_rfl) (fun _ _ _ h => h) rfl (fun w' hw' => by go_simp <;> with_reducible rfl) ?_
    simp only [Act.put, List.setIfInBounds_toArray, List.set_cons_zero, List.set_cons_succ]
    refine wpT.done (by kernel_rfl) ?_
    go_wp2_with fail
    go_ret
    refine ⟨?_, c05.out.trans c58⟩
    first | rfl | (show Ending.returned (.bool _) = _; simp [HNE.out])
end Go.Proofs.Ytjhkhdockiocgaa
