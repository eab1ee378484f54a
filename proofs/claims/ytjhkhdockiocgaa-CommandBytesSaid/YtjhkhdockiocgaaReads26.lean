/- CommandReads: the walk. -/
import Derived.Test.YtjhkhdockiocgaaSame
import Derived.Test.YtjhkhdockiocgaaL26a
import Derived.Test.YtjhkhdockiocgaaRdPure
import Derived.Test.YtjhkhdockiocgaaBytes3
namespace Go.Proofs.Ytjhkhdockiocgaa
open Go.RowKit Go.Cat

theorem ofRes_bad (pv : Value) (l : List UInt8) (h : (ofRes pv l).2.2 ≠ 0) : (ofRes pv l).1 = Cmd.zero ∧ (ofRes pv l).2.1 = [] := by
  unfold ofRes at *
  split at h
  · rename_i h1; rw [if_pos h1]; exact ⟨rfl, rfl⟩
  · rename_i h1
    rw [if_neg h1]
    split at h
    · rename_i h2; rw [if_pos h2]; exact ⟨rfl, rfl⟩
    · rename_i h2
      rw [if_neg h2]
      split at h
      · rename_i h3; rw [if_pos h3]; exact ⟨rfl, rfl⟩
      · exact absurd rfl h
theorem like_refl (x : Cmd) (ps : List Pnt) : x.like x ps ps := ⟨rfl, rfl, rfl, rfl, ⟨rfl, rfl⟩, ⟨rfl, rfl, rfl⟩, ⟨rfl, rfl, rfl, rfl⟩, rfl, rfl, rfl, rfl⟩
theorem its_ps (x : Cmd) (ps : List Pnt) (h : ∀ i ∈ x.its ps, i.short) (hl : ∀ va, x.like (x.only va) ps (x.onlyPs ps)) : ps.length ≤ 255 := by
  have h1 := (hl x.pv).2.2.2.2.2.2.2.2.2.2
  by_cases hk : x.kind = 3
  · have := h (.p ps) (by unfold Cmd.its; rw [hk]; simp)
    exact this
  · unfold Cmd.onlyPs at h1
    rw [if_neg hk] at h1
    rw [h1]; simp

set_option maxRecDepth 100000 in
set_option maxHeartbeats 4000000 in
theorem reads26 (v : Value) (l : List UInt8) (w0 : World) (hv0 : RB w0 v l) :
    Calls Try.prog 4 #[v] w0 fun e w' => e = .returned (.bool true) ∧ Chg (fun _ => False) w0 w' := by
  obtain ⟨va, vc, rfl⟩ := hv0.form
  have HV0 := Lib.hid hv0
  clear hv0
  go_enter Try.func4, Try.ntmps4
  go_wp2_with fail
  refine (lives26 _).mono ?_
  rintro e w ⟨rfl, c1⟩
  have HV := Lib.hid (HV0.out.kept c1 (fun _ _ h => h))
  have C1 := Lib.hid c1
  clear HV0 c1
  by_cases h600 : 600 < l.length
  · have h6 : (600 : Int) < l.length := by omega
    go_wp2_with fail
    refine (lives26 _).mono ?_
    rintro e w3 ⟨rfl, c3⟩
    go_wp2_with fail
    go_ret
    exact ⟨rfl, C1.out.trans c3⟩
  have h6 : ¬ (600 : Int) < l.length := by omega
  have hl6 : l.length ≤ 600 := by omega
  clear h600
  go_wp2_with fail
  refine (of_any _ l w HV.out (by omega)).mono ?_
  rintro e w2 ⟨pv, rfl, hr, c2⟩
  have ZR := Lib.hid (ofRes_zero pv l)
  have NZ := Lib.hid (ofRes_bad pv l)
  obtain ⟨⟨x, ps, z⟩, hx⟩ : ∃ r, r = ofRes pv l := ⟨_, rfl⟩
  rw [← hx] at ZR NZ hr ⊢
  simp only at ZR NZ hr ⊢
  have hone : x.pv.oneCell' = true := by obtain ⟨a, c, h⟩ := hr.form; rw [h]; rfl
  obtain ⟨w3, hw3⟩ : ∃ w3, w3 = w2.alloc (.cells Cmd.zero.cells.toArray 30) := ⟨_, rfl⟩
  have c3 : Chg (fun _ => False) w2 w3 := by rw [hw3]; exact (Chg.refl _ w2).alloc _
  have hB3 : w3.heap[w2.heap.size]? = some (.cells Cmd.zero.cells.toArray 30 (0, 0)) := by rw [hw3]; exact heap_at_new _ _ _ rfl
  obtain ⟨w4, hw4⟩ : ∃ w4, w4 = w3.setCells w2.heap.size 0 x.cells := ⟨_, rfl⟩
  have HST : Hid ((Instr.storeAt 30 (.pointer (some ⟨w2.heap.size, 0, none⟩)) (.agg #[.int .i64 x.kind, .string ⟨x.tenant.toArray⟩, .string ⟨x.series.toArray⟩, .string ⟨x.name.toArray⟩, x.pv, .int .i64 x.rlo, .int .i64 x.rhi, .int .i64 x.praw, .int .i64 x.pmid, .int .i64 x.plong, .string ⟨x.hname.toArray⟩, .string ⟨x.hser.toArray⟩, .int .i64 x.hlo, .int .i64 x.hhi, .int .i64 x.bytes, .int .i64 x.count, .int .i64 x.at_])).run Try.prog w3 = .ok () w4) := by show _ = _; rw [hw4]; exact store_cmd w3 _ x Cmd.zero _ hB3 hone
  have HB4 : Hid (w4.heap[w2.heap.size]? = some (.cells x.cells.toArray 30 (0, 0))) := by rw [hw4]; exact heap_cmd w3 _ x Cmd.zero _ hB3
  have c34 : Chg (fun q => q = w2.heap.size) w3 w4 := by rw [hw4]; exact Chg.setCells _ _ _ _
  have C24 : Hid (Chg (fun _ => False) w2 w4) := c3.new c34 (fun q h => by omega)
  have C4 : Hid (Chg (fun _ => False) w0 w4) := (C1.out.trans c2).trans C24.out
  have HR4 := Lib.hid (hr.kept C24.out (fun _ _ h => h))
  have HV4 := Lib.hid ((HV.out.kept c2 (fun _ _ h => h)).kept C24.out (fun _ _ h => h))
  have HW3 := Lib.hid hw3
  have HX := Lib.hid hx
  clear hx hr hone hw3 c3 hB3 hw4 c34 c2
  go_upto_region 4 with (first | refine wpList_allocN rfl 30 rfl (.agg Cmd.zero.cells.toArray) 17 (by kernel_rfl) w3 w2.heap.size rfl HW3.out ?_ | refine wpList_store rfl 30 _ _ rfl _ _ _ rfl rfl HST.out ?_)
  have q0 : w4.cell? ⟨w2.heap.size, 0, none⟩ = some (.int .i64 x.kind) := cell_cmd HB4.out 0 _ rfl
  clear HST HW3
  by_cases hz : z = 0
  case neg =>
    have e0 : (z != 0) = true := by simpa using hz
    obtain ⟨hxz, hps⟩ := NZ.out hz
    have SM := Lib.hid (fun w => same_any Cmd.zero Cmd.zero [] [] w (Reads.nil w 2) (Reads.nil w 2) (by simp [maxLen]))
    have LR := Lib.hid (like_refl Cmd.zero [])
    have hb4 := HB4.out
    rw [hxz] at hb4
    have ld := load_cmd w4 _ Cmd.zero _ hb4
    clear hz hxz hps q0 ZR NZ hb4
    go_wp2_with (refine wpList_loadG 30 _ rfl rfl _ _ rfl ld ?_)
    refine (SM.out _).mono ?_
    rintro e w5 ⟨r, rfl, hr, c5⟩
    obtain rfl := hr.2 LR.out
    go_wp2_with fail
    go_ret
    exact ⟨rfl, C4.out.trans c5⟩
  subst hz
  obtain ⟨hk, hlb, hsh, hlk⟩ := ZR.out rfl
  have hk0 : (0 : Int) ≤ x.kind := hk.1
  have hk9 : x.kind ≤ 9 := by omega
  have hpl := its_ps x ps hsh hlk
  have BY := Lib.hid (fun w h => bytes_any x ps w h hk hsh)
  rw [← hlb] at BY
  have LK := Lib.hid hlk
  have ON := Lib.hid (fun w h => only_any x ps w h (by omega))
  have SM := Lib.hid (fun y qs w h1 h2 => same_any x y ps qs w h1 h2 (by simp only [maxLen]; omega))
  clear hk hlb hsh hlk ZR NZ hpl q0
  have e1 : ((0 : Int) != 0) = false := rfl
  go_wp2_with fail
  refine wpT.begin (fun _ => False) 22 (by kernel_rfl) rfl ?_
  refine wpT.take 0 rfl (by kernel_rfl) (fun _ _ _ h => h) rfl (fun w' hw' => by go_simp <;> with_reducible rfl) ?_
  simp only [Act.put, List.setIfInBounds_toArray, List.set_cons_zero, List.set_cons_succ]
  refine wpT.ld 1 rfl (by kernel_rfl) (fun _ _ _ _ h => h) rfl _ _ rfl (by kernel_rfl) ⟨w2.heap.size, 0, none⟩ rfl _ (by rw [World.cell?_drew]; exact cell_cmd HB4.out 0 _ rfl) (fun h => h) ?_
  simp only [Act.put, List.setIfInBounds_toArray, List.set_cons_zero, List.set_cons_succ]
  refine wpT.take 2 rfl (by kernel_rfl) (fun _ _ _ h => h) rfl (fun w' hw' => by go_simp <;> with_reducible rfl) ?_
  simp only [Act.put, List.setIfInBounds_toArray, List.set_cons_zero, List.set_cons_succ]
  refine wpT.take 3 rfl (by kernel_rfl) (fun _ _ _ h => h) rfl (fun w' hw' => by go_simp <;> with_reducible rfl) ?_
  simp only [Act.put, List.setIfInBounds_toArray, List.set_cons_zero, List.set_cons_succ]
  refine wpT.take 4 rfl (by kernel_rfl) (fun _ _ _ h => h) rfl (fun w' hw' => by go_simp <;> with_reducible rfl) ?_
  simp only [Act.put, List.setIfInBounds_toArray, List.set_cons_zero, List.set_cons_succ]
  refine wpT.ld 5 rfl (by kernel_rfl) (fun _ _ _ _ h => h) rfl _ _ rfl (by kernel_rfl) ⟨w2.heap.size, 0, none⟩ rfl _ (by rw [World.cell?_drew]; exact cell_cmd HB4.out 0 _ rfl) (fun h => h) ?_
  simp only [Act.put, List.setIfInBounds_toArray, List.set_cons_zero, List.set_cons_succ]
  refine wpT.take 6 rfl (by kernel_rfl) (fun _ _ _ h => h) rfl (fun w' hw' => by go_simp <;> with_reducible rfl) ?_
  simp only [Act.put, List.setIfInBounds_toArray, List.set_cons_zero, List.set_cons_succ]
  refine wpT.take 7 rfl (by kernel_rfl) (fun _ _ _ h => h) rfl (fun w' hw' => by go_simp <;> with_reducible rfl) ?_
  simp only [Act.put, List.setIfInBounds_toArray, List.set_cons_zero, List.set_cons_succ]
  refine wpT.take 8 rfl (by kernel_rfl) (fun _ _ _ h => h) rfl (fun w' hw' => by go_simp <;> with_reducible rfl) ?_
  simp only [Act.put, List.setIfInBounds_toArray, List.set_cons_zero, List.set_cons_succ]
  refine wpT.take 9 rfl (by kernel_rfl) (fun _ _ _ h => h) rfl (fun w' hw' => exec_load _ _ _ _ rfl rfl (load_cmd w' _ x _ (((Chg.refl (fun _ => False) w4).drew.trans hw').heap HB4.out (fun h => h)))) ?_
  simp only [Act.put, List.setIfInBounds_toArray, List.set_cons_zero, List.set_cons_succ]
  refine wpT.take 11 rfl (by kernel_rfl) (fun _ _ _ h => h) rfl (fun w' hw' => by go_simp <;> with_reducible rfl) ?_
  simp only [Act.put, List.setIfInBounds_toArray, List.set_cons_zero, List.set_cons_succ]
  refine wpT.take 12 rfl (by kernel_rfl) (fun _ _ _ h => h) rfl (fun w' hw' => by have hx := convb w' _ l (HV4.out.kept ((Chg.refl (fun _ => False) w4).drew.trans hw') (fun _ _ h => h)); go_simp <;> with_reducible rfl) ?_
  simp only [Act.put, List.setIfInBounds_toArray, List.set_cons_zero, List.set_cons_succ]
  refine wpT.call 10 rfl (by kernel_rfl) rfl (fun K hK => ?_)
  go_wp2_with fail
  refine (BY.out _ (HR4.out.kept (Chg.refl (fun _ => False) w4).drew (fun _ _ h => h))).mono ?_
  rintro e w5 ⟨rfl, c5⟩
  have HB5 := Lib.hid (((Chg.refl (fun _ => False) w4).drew.trans c5).heap HB4.out (fun h => h))
  have HR5 := Lib.hid (HR4.out.kept ((Chg.refl (fun _ => False) w4).drew.trans c5) (fun _ _ h => h))
  have C5 : Chg (fun _ => False) w0 w5 := C4.out.trans ((Chg.refl (fun _ => False) w4).drew.trans c5)
  refine hK _ _ c5 ?_
  clear hK
  try (simp only [Act.put, List.setIfInBounds_toArray, List.set_cons_zero, List.set_cons_succ])
  refine wpT.take 13 rfl (by kernel_rfl) (fun _ _ _ h => h) rfl (fun w' hw' => by go_simp <;> with_reducible rfl) ?_
  simp only [Act.put, List.setIfInBounds_toArray, List.set_cons_zero, List.set_cons_succ]
  refine wpT.take 14 rfl (by kernel_rfl) (fun _ _ _ h => h) rfl (fun w' hw' => by go_simp <;> with_reducible rfl) ?_
  simp only [Act.put, List.setIfInBounds_toArray, List.set_cons_zero, List.set_cons_succ]
  refine wpT.take 15 rfl (by kernel_rfl) (fun _ _ _ h => h) rfl (fun w' hw' => by go_simp <;> with_reducible rfl) ?_
  simp only [Act.put, List.setIfInBounds_toArray, List.set_cons_zero, List.set_cons_succ]
  refine wpT.take 16 rfl (by kernel_rfl) (fun _ _ _ h => h) rfl (fun w' hw' => exec_load _ _ _ _ rfl rfl (load_cmd w' _ x _ (hw'.heap HB5.out (fun h => h)))) ?_
  simp only [Act.put, List.setIfInBounds_toArray, List.set_cons_zero, List.set_cons_succ]
  refine wpT.take 17 rfl (by kernel_rfl) (fun _ _ _ h => h) rfl (fun w' hw' => exec_load _ _ _ _ rfl rfl (load_cmd w' _ x _ (hw'.heap HB5.out (fun h => h)))) ?_
  simp only [Act.put, List.setIfInBounds_toArray, List.set_cons_zero, List.set_cons_succ]
  refine wpT.call 18 rfl (by kernel_rfl) rfl (fun K hK => ?_)
  go_wp2_with fail
  refine (ON.out _ HR5.out).mono ?_
  rintro e w6 ⟨pv', rfl, hr6, c6⟩
  have HR6 := Lib.hid (HR5.out.kept c6 (fun _ _ h => h))
  have HO6 := Lib.hid hr6
  have C6 : Chg (fun _ => False) w0 w6 := C5.trans c6
  refine hK _ _ c6 ?_
  clear hK hr6
  try (simp only [Act.put, List.setIfInBounds_toArray, List.set_cons_zero, List.set_cons_succ])
  refine wpT.call 19 rfl (by kernel_rfl) rfl (fun K hK => ?_)
  go_wp2_with fail
  refine (SM.out (x.only pv') (x.onlyPs ps) w6 HR6.out HO6.out).mono ?_
  rintro e w7 ⟨r, rfl, hr, c7⟩
  obtain rfl := hr.2 (LK.out pv')
  have C7 : Chg (fun _ => False) w0 w7 := C6.trans c7
  refine hK _ _ c7 ?_
  clear hK hr
  try (simp only [Act.put, List.setIfInBounds_toArray, List.set_cons_zero, List.set_cons_succ])
  refine wpT.take 20 rfl (by kernel_rfl) (fun _ _ _ h => h) rfl (fun w' hw' => by go_simp <;> with_reducible rfl) ?_
  simp only [Act.put, List.setIfInBounds_toArray, List.set_cons_zero, List.set_cons_succ]
  refine wpT.take 21 rfl (by kernel_rfl) (fun _ _ _ h => h) rfl (fun w' hw' => by go_simp <;> with_reducible rfl) ?_
  simp only [Act.put, List.setIfInBounds_toArray, List.set_cons_zero, List.set_cons_succ]
  refine wpT.done (by kernel_rfl) ?_
  go_wp2_with fail
  go_ret
  exact ⟨rfl, C7⟩
end Go.Proofs.Ytjhkhdockiocgaa
