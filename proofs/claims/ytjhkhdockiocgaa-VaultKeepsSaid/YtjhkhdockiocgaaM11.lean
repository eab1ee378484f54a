/- DevArm, JourArm, JourArm2, VaultArm, VaultArm2, VaultOpen, L11b, L11c, L11d, VaultCr, VaultCr2, VaultCr3, L11k, L11w0, merged. -/
import Derived.Test.YtjhkhdockiocgaaDevice4
import Derived.Test.YtjhkhdockiocgaaJour3
import Derived.Test.YtjhkhdockiocgaaVault7
import Derived.Test.YtjhkhdockiocgaaL10k
import Derived.Test.YtjhkhdockiocgaaL11a
import Derived.Test.YtjhkhdockiocgaaRowAct11
/- device.Write with a crash armed. -/
namespace Go.Proofs.Ytjhkhdockiocgaa
open Go.RowKit Go.Cat

theorem set_left {w : World} {D : Nat} {lv wv : Value} {d : Dev} (h : DevIs w D lv wv d) (n : Nat) : DevIs (w.setCell ⟨D, 3, none⟩ (.int .i64 (n : Nat))) D lv wv { d with left := n } := by
  obtain ⟨T, hb⟩ := h.heap
  have c4 : Chg (fun k => k = D) w (w.setCell ⟨D, 3, none⟩ (.int .i64 (n : Nat))) := (Chg.refl (fun k => k = D) w).setCell (p := ⟨D, 3, none⟩) (fun _ => rfl) _
  exact ⟨⟨T, Cat.heap_setCell_same hb 3 _⟩, h.ownL.kept c4 (fun k hk => h.apL k hk), h.ownW.kept c4 (fun k hk => (h.apW k hk).1), h.apL, h.apW, h.len, h.wait, h.many⟩
set_option maxRecDepth 100000 in
set_option maxHeartbeats 1000000 in
theorem write_1 (w : World) (D : Nat) (lv wv v : Value) (d : Dev) (at_ : Nat) (b : List UInt8) (h : DevIs w D lv wv d) (hv : RBz w v b) (hd : d.down = false) (hl : d.left = 1) (ha : at_ < d.l.length) (hb : b.length ≤ 64) (hm : d.waits.length ≤ 990000) :
    Calls Try.prog 79 #[.pointer (some ⟨D, 0, none⟩), .int .i64 at_, v] w fun e w' => e = .returned (.int .i64 13) ∧ ∃ wv', DevIs w' D lv wv' { d with l := crashTo d.keep d.torn d.bytes d.l (d.waits ++ [(at_, pad b)]) (d.waits ++ [(at_, pad b)]).length, waits := [], down := true, left := 0 } ∧ Chg (foot D lv wv) w w' ∧ ∀ k, wv'.ownBlock = some k → wv.ownBlock = some k ∨ w.heap.size ≤ k := by
  obtain ⟨va, vc, rfl⟩ := hv.form
  obtain ⟨T, hh⟩ := h.heap
  obtain ⟨la, lc, rfl⟩ := h.ownL.form
  have hc0 := cell_of_heap hh 0
  have hc1 := cell_of_heap hh 1
  have hc3 := cell_of_heap hh 3
  have hf := frozen_of_heap hh
  rw [hl] at hc3
  simp only [List.getElem?_toArray, List.getElem?_cons_zero, List.getElem?_cons_succ] at hc0 hc1 hc3
  have ha1 : (at_ : Int) < d.l.length := by omega
  have hb1 : (b.length : Int) ≤ 64 := by omega
  have h8 := h.many
  have HB := Lib.hid hh
  have H := Lib.hid h
  have HV := Lib.hid hv
  have HD := Lib.hid hd
  have HL := Lib.hid hl
  have hn0 : ¬ (at_ : Int) < 0 := by omega
  have hn1 : ¬ d.l.length ≤ at_ := by omega
  have hz : Try.zeroCells185.setIfInBounds 0 (.int .i64 at_) = (wcells (at_, zb 64)).toArray := by rw [zero_wri]; rfl
  have hsc : ∀ w : World, (Instr.storeAt 185 (.pointer (some ⟨w.heap.size, 0, none⟩)) (.agg (wcells (at_, zb 64)).toArray)).run Try.prog (w.alloc (.cells Try.zeroCells185 185)) = .ok () (w.alloc (.cells (wcells (at_, zb 64)).toArray 185)) := fun w =>
    run_storeAt_new w _ _ _ (by obtain ⟨i0, hi, hz0, hz1, hz2⟩ := info_parts Try.infoWri; rw [hi]; simp [hz1, wcells]) (by rw [zero_wri]; simp [wcells]) (by simp [wcells, bs, zb, Value.oneCell'])
  obtain ⟨c0, hc0e⟩ : ∃ c, c = wcells (at_, zb 64) := ⟨_, rfl⟩
  rw [← hc0e] at hz hsc
  have hcl : c0.length = 65 := by subst hc0e; simp [wcells]
  obtain ⟨c1, hc1e⟩ : ∃ c, c = wcells (at_, pad b) := ⟨_, rfl⟩
  have hcp : (Builtin.copy_ #[33, 33] 3 #[.slice (some ⟨w.heap.size, 1, none⟩) 64 64, .slice va b.length vc]).run Try.prog (w.alloc (.cells c0.toArray 185)) = .ok (.int .i64 b.length) (w.alloc (.cells c1.toArray 185)) := by
    have hcell : ∀ j, j < b.length → (w.alloc (.cells c0.toArray 185)).cell? ⟨w.heap.size, 1 + j, none⟩ = c0[1 + j]? := fun j _ => by rw [World.cell?_alloc_new]; simp
    have := run_copy_rb (P := Try.prog) (w.alloc (.cells c0.toArray 185)) 33 33 3 5 Try.underlying33 (by kernel_rfl) w.heap.size 1 64 64 va b.length vc b (hv.alloc _) b.length (by omega)
      (fun j hj => by rw [hcell j hj]; simp; omega) (fun j hj => frozen_of_heap (heap_at_new _ _ _ rfl) _)
    rw [this, List.take_length, setCells_alloc _ _ _ _ _ (by simp; omega)]
    have e : c0.take 1 ++ bs b ++ c0.drop (1 + (bs b).length) = c1 := by
      subst hc0e hc1e
      have e64 : zb 64 = List.replicate b.length 0 ++ List.replicate (64 - b.length) 0 := by rw [List.replicate_append_replicate]; simp only [zb]; congr 1; omega
      simp only [wcells, List.take_succ_cons, List.take_zero, bs_length]
      rw [show 1 + b.length = b.length + 1 by omega, List.drop_succ_cons, e64, bs_append, List.drop_left' (by simp), pad, bs_append]; rfl
    rw [e]; rfl
  have hcl1 : c1.length = 65 := by subst hc1e; simp [wcells, pad_length hb]
  have HC1 := Lib.hid hc1e
  clear hc1e
  have HC0 := Lib.hid hc0e
  clear hc0e
  clear hh h hv hl hd
  go_enter Try.func79, Try.ntmps79
  go_wp2_with (first | (go_at_call 50; refine (down_no w D _ _ d H.out).mono ?_; rintro e w1 ⟨rfl, rfl⟩; rw [HD.out]) | (refine wpList_store rfl 185 _ _ rfl _ _ _ rfl rfl (hsc w) ?_))
  obtain ⟨W1, hW1⟩ : ∃ W, W = w.alloc (.cells c1.toArray 185) := ⟨_, rfl⟩
  rw [← hW1]
  have hN1 : W1.heap[w.heap.size]? = some (.cells c1.toArray 185 (0, 0)) := by rw [hW1]; exact heap_at_new _ _ _ rfl
  have cN : ∀ (j : Nat) (u : Value), c1[j]? = some u → W1.cell? ⟨w.heap.size, 0 + j, none⟩ = some u := fun j u hj => by rw [Nat.zero_add, cell_of_heap hN1]; simpa using hj
  have k1 : Chg (fun _ => False) w W1 := by rw [hW1]; exact (Chg.refl _ w).alloc _
  have q1 : W1.cell? ⟨D, 1, none⟩ = some wv := k1.cell hc1 (fun h => h)
  have q1a : (W1.alloc (.cells c1.toArray 185)).cell? ⟨D, 1, none⟩ = some wv := ((Chg.refl (fun _ => False) W1).alloc _).cell q1 (fun h => h)
  have hld : ∀ w' : World, Chg (fun k => k = D ∨ wv.ownBlock = some k) W1.drew w' → (Instr.loadAt 185 (.pointer (some ⟨w.heap.size, 0, none⟩))).run Try.prog w' = .ok (.agg c1.toArray) w' := fun w' hw' =>
    run_loadAt_agg w' _ _ _ _ c1 Try.underlying185 rfl (by obtain ⟨i0, hi, hz0, hz1, hz2⟩ := info_parts Try.infoWri; rw [hi, hcl1]; simp [hz1])
      (fun j u hj => hw'.cell (cN j u hj) (fun h => by
        rcases h with h | h
        · have h : w.heap.size = D := h
          have := (Array.getElem?_eq_some_iff.1 HB.out).1; omega
        · have h : wv.ownBlock = some w.heap.size := h
          have := H.out.ownW.lt _ h; omega))
  have HC := Lib.hid cN
  have HW := Lib.hid hW1
  have HN1 := Lib.hid hN1
  have HLD := Lib.hid hld
  have HO : Hid (Owns W1 65 wv d.waits.length (d.waits.flatMap wcells)) := H.out.ownW.kept k1 (fun _ _ h => h)
  have hone : ∀ u ∈ c1, u.oneCell' = true := by rw [HC1.out]; intro u hu; rcases List.mem_cons.1 hu with rfl | hu; rfl; exact bs_one _ u hu
  have hmx : d.waits.length + 1 ≤ maxLen := by simp only [maxLen]; omega
  have hrd : Reads (W1.drew.alloc (.cells c1.toArray 185)) 65 (.slice (some ⟨W1.drew.heap.size, 0, none⟩) 1 1) 1 c1 := by
    have := Reads.one W1.drew c1 185; rw [hcl1] at this; exact this
  clear cN hW1 hN1 hld
  refine wpT.begin (fun k => k = D ∨ wv.ownBlock = some k) 11 (by kernel_rfl) rfl ?_
  refine wpT.take 0 rfl (by kernel_rfl) (fun _ _ _ h => h) rfl (fun w' hw' => by go_simp <;> with_reducible rfl) ?_
  simp only [Act.put, List.setIfInBounds_toArray, List.set_cons_zero, List.set_cons_succ]
  refine wpT.take 1 rfl (by kernel_rfl) (fun _ _ _ h => h) rfl (fun w' hw' => by go_simp <;> with_reducible rfl) ?_
  simp only [Act.put, List.setIfInBounds_toArray, List.set_cons_zero, List.set_cons_succ]
  refine wpT.take 2 rfl (by kernel_rfl) (fun _ _ _ h => h) rfl (fun w' hw' => by go_simp <;> with_reducible rfl) ?_
  simp only [Act.put, List.setIfInBounds_toArray, List.set_cons_zero, List.set_cons_succ]
  refine wpT.take 3 rfl (by kernel_rfl) (fun _ _ _ h => h) rfl (fun w' hw' => by go_simp <;> with_reducible rfl) ?_
  simp only [Act.put, List.setIfInBounds_toArray, List.set_cons_zero, List.set_cons_succ]
  refine wpT.take 5 rfl (by kernel_rfl) (fun _ _ _ h => h) rfl (fun w' hw' => exec_load _ _ _ _ rfl rfl (HLD.out w' hw')) ?_
  simp only [Act.put, List.setIfInBounds_toArray, List.set_cons_zero, List.set_cons_succ]
  refine wpT.both 4 6 rfl rfl (by kernel_rfl) rfl rfl (fun K hK => ?_) (fun K hK => ?_)
  · refine wp_run wv W1.drew (by go_simp <;> with_reducible rfl) ?_
    refine hK _ _ (Chg.refl _ _) ?_
    simp only [Act.put, List.setIfInBounds_toArray, List.set_cons_zero, List.set_cons_succ]
    refine wpT.call 6 rfl (by kernel_rfl) rfl (fun K hK => ?_)
    refine wp_run _ _ (exec_buildSlice _ _ _ _ _ _ _ rfl rfl (run_buildSlice_one W1.drew _ _ _ _ _ Try.underlying124 Try.infoWri c1 hcl1 (by omega) (by omega))) ?_
    refine hK _ _ ((Chg.refl _ _).alloc _) ?_
    simp only [Act.put, List.setIfInBounds_toArray, List.set_cons_zero, List.set_cons_succ]
    refine wpT.call 7 rfl (by kernel_rfl) rfl (fun K hK => ?_)
    refine wp_app _ _ 124 rfl 185 _ 65 72 Try.underlying124 Try.infoWri Try.zeroCells185_size wv d.waits.length (d.waits.flatMap wcells) rfl (Owns.alloc (Owns.drew HO.out) _) _ 1 c1 rfl hrd hone hmx (by omega) ?_
    intro wv' w3 own3 c3 in3 _
    refine hK _ _ (c3.mono (fun k _ hk => .inr hk)) ?_
    simp only [Act.put, List.setIfInBounds_toArray, List.set_cons_zero, List.set_cons_succ]
    refine wpT.take 8 rfl (by kernel_rfl) (fun _ _ _ h => h) rfl (fun w' hw' => by go_simp <;> with_reducible rfl) ?_
    simp only [Act.put, List.setIfInBounds_toArray, List.set_cons_zero, List.set_cons_succ]
    refine wpT.take 9 rfl (by kernel_rfl) (fun _ _ _ h => h) rfl (fun w' hw' => by go_simp <;> with_reducible rfl) ?_
    simp only [Act.put, List.setIfInBounds_toArray, List.set_cons_zero, List.set_cons_succ]
    have kk : Chg (fun k => wv.ownBlock = some k) w w3 := (((k1.drew.alloc _).mono (fun _ _ h => h.elim)).trans c3)
    have hD : ¬ wv.ownBlock = some D := fun h => (H.out.apW _ h).1 rfl
    obtain ⟨va', vc', rfl⟩ := own3.form
    have q31 : w3.cell? ⟨D, 1, none⟩ = some wv := kk.cell hc1 hD
    have q33 : True := trivial
    have q3f : w3.frozen? ⟨D, 1, none⟩ = false := frozen_of_heap (kk.heap HB.out hD) 1
    have HI := Lib.hid in3
    have HO3 := Lib.hid own3
    clear in3 own3
    refine wpT.call 10 rfl (by kernel_rfl) rfl (fun K hK => ?_)
    go_wp2_with fail
    refine hK _ _ ((Chg.refl (fun k => k = D ∨ wv.ownBlock = some k) w3).setCell (p := ⟨D, 1, none⟩) (fun _ => .inl rfl) _) ?_
    refine wpT.done (by kernel_rfl) ?_
    clear hK
    obtain ⟨wv4, hD4, c4, in4⟩ := write_end H.out HB.out HC1.out hb ha kk HO3.out (fun k hk => by
      rcases HI.out k hk with h | h
      · exact .inl h
      · exact .inr (by have := k1.size; simp at h; omega))
    obtain ⟨w4, hw4⟩ : ∃ w4, w4 = w3.setCell ⟨D, 1, none⟩ (.slice va' (d.waits.length + 1) vc') := ⟨_, rfl⟩
    rw [← hw4] at hD4 c4 ⊢
    obtain ⟨T4, hh4⟩ := hD4.heap
    have z3 := cell_of_heap hh4 3
    have z4 := cell_of_heap hh4 4
    have z5 := cell_of_heap hh4 5
    have z6 := cell_of_heap hh4 6
    have zf := frozen_of_heap hh4 3
    simp only [List.getElem?_toArray, List.getElem?_cons_zero, List.getElem?_cons_succ, HL.out] at z3 z4 z5 z6
    have HD4 := Lib.hid hD4
    have HN4 := Lib.hid in4
    have hDl4 : D < w4.heap.size := (Array.getElem?_eq_some_iff.1 hh4).1
    clear hw4 hh4 hD4 in4 q31 q33 q3f
    have h5 := set_left HD4.out 0
    have HC5 := Lib.hid (crash_in _ D _ wv4 _ d.keep d.torn d.bytes h5 (by simp; omega))
    clear h5
    go_wp2_with (go_at_call 80; refine HC5.out.mono ?_; rintro e w6 ⟨rfl, h6, c6⟩)
    go_ret
    refine ⟨rfl, _, h6, (c4.trans ((Chg.refl (foot D _ wv) w4).setCell (p := ⟨D, 3, none⟩) (fun _ => .inl rfl) _)).trans' c6 (fun k hk hf => ?_), fun k hk => by simp [Value.ownBlock] at hk⟩
    rcases hf with hf | hf | hf
    · exact .inl hf
    · exact .inr (.inl hf)
    · rcases HN4.out k hf with h | h
      · exact .inr (.inr h)
      · omega
  · refine wp_run _ _ (exec_buildSlice _ _ _ _ _ _ _ rfl rfl (run_buildSlice_one W1.drew _ _ _ _ _ Try.underlying124 Try.infoWri c1 hcl1 (by omega) (by omega))) ?_
    refine hK _ _ ((Chg.refl _ _).alloc _) ?_
    simp only [Act.put, List.setIfInBounds_toArray, List.set_cons_zero, List.set_cons_succ]
    refine wpT.call 4 rfl (by kernel_rfl) rfl (fun K hK => ?_)
    refine wp_run wv (W1.drew.alloc _) (by go_simp <;> with_reducible rfl) ?_
    refine hK _ _ (Chg.refl _ _) ?_
    simp only [Act.put, List.setIfInBounds_toArray, List.set_cons_zero, List.set_cons_succ]
    refine wpT.call 7 rfl (by kernel_rfl) rfl (fun K hK => ?_)
    refine wp_app _ _ 124 rfl 185 _ 65 72 Try.underlying124 Try.infoWri Try.zeroCells185_size wv d.waits.length (d.waits.flatMap wcells) rfl (Owns.alloc (Owns.drew HO.out) _) _ 1 c1 rfl hrd hone hmx (by omega) ?_
    intro wv' w3 own3 c3 in3 _
    refine hK _ _ (c3.mono (fun k _ hk => .inr hk)) ?_
    simp only [Act.put, List.setIfInBounds_toArray, List.set_cons_zero, List.set_cons_succ]
    refine wpT.take 8 rfl (by kernel_rfl) (fun _ _ _ h => h) rfl (fun w' hw' => by go_simp <;> with_reducible rfl) ?_
    simp only [Act.put, List.setIfInBounds_toArray, List.set_cons_zero, List.set_cons_succ]
    refine wpT.take 9 rfl (by kernel_rfl) (fun _ _ _ h => h) rfl (fun w' hw' => by go_simp <;> with_reducible rfl) ?_
    simp only [Act.put, List.setIfInBounds_toArray, List.set_cons_zero, List.set_cons_succ]
    have kk : Chg (fun k => wv.ownBlock = some k) w w3 := (((k1.drew.alloc _).mono (fun _ _ h => h.elim)).trans c3)
    have hD : ¬ wv.ownBlock = some D := fun h => (H.out.apW _ h).1 rfl
    obtain ⟨va', vc', rfl⟩ := own3.form
    have q31 : w3.cell? ⟨D, 1, none⟩ = some wv := kk.cell hc1 hD
    have q33 : True := trivial
    have q3f : w3.frozen? ⟨D, 1, none⟩ = false := frozen_of_heap (kk.heap HB.out hD) 1
    have HI := Lib.hid in3
    have HO3 := Lib.hid own3
    clear in3 own3
    refine wpT.call 10 rfl (by kernel_rfl) rfl (fun K hK => ?_)
    go_wp2_with fail
    refine hK _ _ ((Chg.refl (fun k => k = D ∨ wv.ownBlock = some k) w3).setCell (p := ⟨D, 1, none⟩) (fun _ => .inl rfl) _) ?_
    refine wpT.done (by kernel_rfl) ?_
    clear hK
    obtain ⟨wv4, hD4, c4, in4⟩ := write_end H.out HB.out HC1.out hb ha kk HO3.out (fun k hk => by
      rcases HI.out k hk with h | h
      · exact .inl h
      · exact .inr (by have := k1.size; simp at h; omega))
    obtain ⟨w4, hw4⟩ : ∃ w4, w4 = w3.setCell ⟨D, 1, none⟩ (.slice va' (d.waits.length + 1) vc') := ⟨_, rfl⟩
    rw [← hw4] at hD4 c4 ⊢
    obtain ⟨T4, hh4⟩ := hD4.heap
    have z3 := cell_of_heap hh4 3
    have z4 := cell_of_heap hh4 4
    have z5 := cell_of_heap hh4 5
    have z6 := cell_of_heap hh4 6
    have zf := frozen_of_heap hh4 3
    simp only [List.getElem?_toArray, List.getElem?_cons_zero, List.getElem?_cons_succ, HL.out] at z3 z4 z5 z6
    have HD4 := Lib.hid hD4
    have HN4 := Lib.hid in4
    have hDl4 : D < w4.heap.size := (Array.getElem?_eq_some_iff.1 hh4).1
    clear hw4 hh4 hD4 in4 q31 q33 q3f
    have h5 := set_left HD4.out 0
    have HC5 := Lib.hid (crash_in _ D _ wv4 _ d.keep d.torn d.bytes h5 (by simp; omega))
    clear h5
    go_wp2_with (go_at_call 80; refine HC5.out.mono ?_; rintro e w6 ⟨rfl, h6, c6⟩)
    go_ret
    refine ⟨rfl, _, h6, (c4.trans ((Chg.refl (foot D _ wv) w4).setCell (p := ⟨D, 3, none⟩) (fun _ => .inl rfl) _)).trans' c6 (fun k hk hf => ?_), fun k hk => by simp [Value.ownBlock] at hk⟩
    rcases hf with hf | hf | hf
    · exact .inl hf
    · exact .inr (.inl hf)
    · rcases HN4.out k hf with h | h
      · exact .inr (.inr h)
      · omega
set_option maxRecDepth 100000 in
set_option maxHeartbeats 1000000 in
theorem write_2 (w : World) (D : Nat) (lv wv v : Value) (d : Dev) (at_ : Nat) (b : List UInt8) (h : DevIs w D lv wv d) (hv : RBz w v b) (hd : d.down = false) (q : Nat) (hq : q < 1000000) (hl : d.left = q + 2) (ha : at_ < d.l.length) (hb : b.length ≤ 64) (hm : d.waits.length ≤ 990000) :
    Calls Try.prog 79 #[.pointer (some ⟨D, 0, none⟩), .int .i64 at_, v] w fun e w' => e = .returned (.int .i64 0) ∧ ∃ wv', DevIs w' D lv wv' { d with waits := d.waits ++ [(at_, pad b)], left := q + 1 } ∧ Chg (foot D lv wv) w w' ∧ ∀ k, wv'.ownBlock = some k → wv.ownBlock = some k ∨ w.heap.size ≤ k := by
  obtain ⟨va, vc, rfl⟩ := hv.form
  obtain ⟨T, hh⟩ := h.heap
  obtain ⟨la, lc, rfl⟩ := h.ownL.form
  have hc0 := cell_of_heap hh 0
  have hc1 := cell_of_heap hh 1
  have hc3 := cell_of_heap hh 3
  have hf := frozen_of_heap hh
  rw [hl] at hc3
  simp only [List.getElem?_toArray, List.getElem?_cons_zero, List.getElem?_cons_succ] at hc0 hc1 hc3
  have ha1 : (at_ : Int) < d.l.length := by omega
  have hb1 : (b.length : Int) ≤ 64 := by omega
  have h8 := h.many
  have HB := Lib.hid hh
  have H := Lib.hid h
  have HV := Lib.hid hv
  have HD := Lib.hid hd
  have HL := Lib.hid hl
  have hn0 : ¬ (at_ : Int) < 0 := by omega
  have hn1 : ¬ d.l.length ≤ at_ := by omega
  have hz : Try.zeroCells185.setIfInBounds 0 (.int .i64 at_) = (wcells (at_, zb 64)).toArray := by rw [zero_wri]; rfl
  have hsc : ∀ w : World, (Instr.storeAt 185 (.pointer (some ⟨w.heap.size, 0, none⟩)) (.agg (wcells (at_, zb 64)).toArray)).run Try.prog (w.alloc (.cells Try.zeroCells185 185)) = .ok () (w.alloc (.cells (wcells (at_, zb 64)).toArray 185)) := fun w =>
    run_storeAt_new w _ _ _ (by obtain ⟨i0, hi, hz0, hz1, hz2⟩ := info_parts Try.infoWri; rw [hi]; simp [hz1, wcells]) (by rw [zero_wri]; simp [wcells]) (by simp [wcells, bs, zb, Value.oneCell'])
  obtain ⟨c0, hc0e⟩ : ∃ c, c = wcells (at_, zb 64) := ⟨_, rfl⟩
  rw [← hc0e] at hz hsc
  have hcl : c0.length = 65 := by subst hc0e; simp [wcells]
  obtain ⟨c1, hc1e⟩ : ∃ c, c = wcells (at_, pad b) := ⟨_, rfl⟩
  have hcp : (Builtin.copy_ #[33, 33] 3 #[.slice (some ⟨w.heap.size, 1, none⟩) 64 64, .slice va b.length vc]).run Try.prog (w.alloc (.cells c0.toArray 185)) = .ok (.int .i64 b.length) (w.alloc (.cells c1.toArray 185)) := by
    have hcell : ∀ j, j < b.length → (w.alloc (.cells c0.toArray 185)).cell? ⟨w.heap.size, 1 + j, none⟩ = c0[1 + j]? := fun j _ => by rw [World.cell?_alloc_new]; simp
    have := run_copy_rb (P := Try.prog) (w.alloc (.cells c0.toArray 185)) 33 33 3 5 Try.underlying33 (by kernel_rfl) w.heap.size 1 64 64 va b.length vc b (hv.alloc _) b.length (by omega)
      (fun j hj => by rw [hcell j hj]; simp; omega) (fun j hj => frozen_of_heap (heap_at_new _ _ _ rfl) _)
    rw [this, List.take_length, setCells_alloc _ _ _ _ _ (by simp; omega)]
    have e : c0.take 1 ++ bs b ++ c0.drop (1 + (bs b).length) = c1 := by
      subst hc0e hc1e
      have e64 : zb 64 = List.replicate b.length 0 ++ List.replicate (64 - b.length) 0 := by rw [List.replicate_append_replicate]; simp only [zb]; congr 1; omega
      simp only [wcells, List.take_succ_cons, List.take_zero, bs_length]
      rw [show 1 + b.length = b.length + 1 by omega, List.drop_succ_cons, e64, bs_append, List.drop_left' (by simp), pad, bs_append]; rfl
    rw [e]; rfl
  have hcl1 : c1.length = 65 := by subst hc1e; simp [wcells, pad_length hb]
  have HC1 := Lib.hid hc1e
  clear hc1e
  have HC0 := Lib.hid hc0e
  clear hc0e
  clear hh h hv hl hd
  go_enter Try.func79, Try.ntmps79
  go_wp2_with (first | (go_at_call 50; refine (down_no w D _ _ d H.out).mono ?_; rintro e w1 ⟨rfl, rfl⟩; rw [HD.out]) | (refine wpList_store rfl 185 _ _ rfl _ _ _ rfl rfl (hsc w) ?_))
  obtain ⟨W1, hW1⟩ : ∃ W, W = w.alloc (.cells c1.toArray 185) := ⟨_, rfl⟩
  rw [← hW1]
  have hN1 : W1.heap[w.heap.size]? = some (.cells c1.toArray 185 (0, 0)) := by rw [hW1]; exact heap_at_new _ _ _ rfl
  have cN : ∀ (j : Nat) (u : Value), c1[j]? = some u → W1.cell? ⟨w.heap.size, 0 + j, none⟩ = some u := fun j u hj => by rw [Nat.zero_add, cell_of_heap hN1]; simpa using hj
  have k1 : Chg (fun _ => False) w W1 := by rw [hW1]; exact (Chg.refl _ w).alloc _
  have q1 : W1.cell? ⟨D, 1, none⟩ = some wv := k1.cell hc1 (fun h => h)
  have q1a : (W1.alloc (.cells c1.toArray 185)).cell? ⟨D, 1, none⟩ = some wv := ((Chg.refl (fun _ => False) W1).alloc _).cell q1 (fun h => h)
  have hld : ∀ w' : World, Chg (fun k => k = D ∨ wv.ownBlock = some k) W1.drew w' → (Instr.loadAt 185 (.pointer (some ⟨w.heap.size, 0, none⟩))).run Try.prog w' = .ok (.agg c1.toArray) w' := fun w' hw' =>
    run_loadAt_agg w' _ _ _ _ c1 Try.underlying185 rfl (by obtain ⟨i0, hi, hz0, hz1, hz2⟩ := info_parts Try.infoWri; rw [hi, hcl1]; simp [hz1])
      (fun j u hj => hw'.cell (cN j u hj) (fun h => by
        rcases h with h | h
        · have h : w.heap.size = D := h
          have := (Array.getElem?_eq_some_iff.1 HB.out).1; omega
        · have h : wv.ownBlock = some w.heap.size := h
          have := H.out.ownW.lt _ h; omega))
  have HC := Lib.hid cN
  have HW := Lib.hid hW1
  have HN1 := Lib.hid hN1
  have HLD := Lib.hid hld
  have HO : Hid (Owns W1 65 wv d.waits.length (d.waits.flatMap wcells)) := H.out.ownW.kept k1 (fun _ _ h => h)
  have hone : ∀ u ∈ c1, u.oneCell' = true := by rw [HC1.out]; intro u hu; rcases List.mem_cons.1 hu with rfl | hu; rfl; exact bs_one _ u hu
  have hmx : d.waits.length + 1 ≤ maxLen := by simp only [maxLen]; omega
  have hrd : Reads (W1.drew.alloc (.cells c1.toArray 185)) 65 (.slice (some ⟨W1.drew.heap.size, 0, none⟩) 1 1) 1 c1 := by
    have := Reads.one W1.drew c1 185; rw [hcl1] at this; exact this
  clear cN hW1 hN1 hld
  refine wpT.begin (fun k => k = D ∨ wv.ownBlock = some k) 11 (by kernel_rfl) rfl ?_
  refine wpT.take 0 rfl (by kernel_rfl) (fun _ _ _ h => h) rfl (fun w' hw' => by go_simp <;> with_reducible rfl) ?_
  simp only [Act.put, List.setIfInBounds_toArray, List.set_cons_zero, List.set_cons_succ]
  refine wpT.take 1 rfl (by kernel_rfl) (fun _ _ _ h => h) rfl (fun w' hw' => by go_simp <;> with_reducible rfl) ?_
  simp only [Act.put, List.setIfInBounds_toArray, List.set_cons_zero, List.set_cons_succ]
  refine wpT.take 2 rfl (by kernel_rfl) (fun _ _ _ h => h) rfl (fun w' hw' => by go_simp <;> with_reducible rfl) ?_
  simp only [Act.put, List.setIfInBounds_toArray, List.set_cons_zero, List.set_cons_succ]
  refine wpT.take 3 rfl (by kernel_rfl) (fun _ _ _ h => h) rfl (fun w' hw' => by go_simp <;> with_reducible rfl) ?_
  simp only [Act.put, List.setIfInBounds_toArray, List.set_cons_zero, List.set_cons_succ]
  refine wpT.take 5 rfl (by kernel_rfl) (fun _ _ _ h => h) rfl (fun w' hw' => exec_load _ _ _ _ rfl rfl (HLD.out w' hw')) ?_
  simp only [Act.put, List.setIfInBounds_toArray, List.set_cons_zero, List.set_cons_succ]
  refine wpT.both 4 6 rfl rfl (by kernel_rfl) rfl rfl (fun K hK => ?_) (fun K hK => ?_)
  · refine wp_run wv W1.drew (by go_simp <;> with_reducible rfl) ?_
    refine hK _ _ (Chg.refl _ _) ?_
    simp only [Act.put, List.setIfInBounds_toArray, List.set_cons_zero, List.set_cons_succ]
    refine wpT.call 6 rfl (by kernel_rfl) rfl (fun K hK => ?_)
    refine wp_run _ _ (exec_buildSlice _ _ _ _ _ _ _ rfl rfl (run_buildSlice_one W1.drew _ _ _ _ _ Try.underlying124 Try.infoWri c1 hcl1 (by omega) (by omega))) ?_
    refine hK _ _ ((Chg.refl _ _).alloc _) ?_
    simp only [Act.put, List.setIfInBounds_toArray, List.set_cons_zero, List.set_cons_succ]
    refine wpT.call 7 rfl (by kernel_rfl) rfl (fun K hK => ?_)
    refine wp_app _ _ 124 rfl 185 _ 65 72 Try.underlying124 Try.infoWri Try.zeroCells185_size wv d.waits.length (d.waits.flatMap wcells) rfl (Owns.alloc (Owns.drew HO.out) _) _ 1 c1 rfl hrd hone hmx (by omega) ?_
    intro wv' w3 own3 c3 in3 _
    refine hK _ _ (c3.mono (fun k _ hk => .inr hk)) ?_
    simp only [Act.put, List.setIfInBounds_toArray, List.set_cons_zero, List.set_cons_succ]
    refine wpT.take 8 rfl (by kernel_rfl) (fun _ _ _ h => h) rfl (fun w' hw' => by go_simp <;> with_reducible rfl) ?_
    simp only [Act.put, List.setIfInBounds_toArray, List.set_cons_zero, List.set_cons_succ]
    refine wpT.take 9 rfl (by kernel_rfl) (fun _ _ _ h => h) rfl (fun w' hw' => by go_simp <;> with_reducible rfl) ?_
    simp only [Act.put, List.setIfInBounds_toArray, List.set_cons_zero, List.set_cons_succ]
    have kk : Chg (fun k => wv.ownBlock = some k) w w3 := (((k1.drew.alloc _).mono (fun _ _ h => h.elim)).trans c3)
    have hD : ¬ wv.ownBlock = some D := fun h => (H.out.apW _ h).1 rfl
    obtain ⟨va', vc', rfl⟩ := own3.form
    have q31 : w3.cell? ⟨D, 1, none⟩ = some wv := kk.cell hc1 hD
    have q33 : True := trivial
    have q3f : w3.frozen? ⟨D, 1, none⟩ = false := frozen_of_heap (kk.heap HB.out hD) 1
    have HI := Lib.hid in3
    have HO3 := Lib.hid own3
    clear in3 own3
    refine wpT.call 10 rfl (by kernel_rfl) rfl (fun K hK => ?_)
    go_wp2_with fail
    refine hK _ _ ((Chg.refl (fun k => k = D ∨ wv.ownBlock = some k) w3).setCell (p := ⟨D, 1, none⟩) (fun _ => .inl rfl) _) ?_
    refine wpT.done (by kernel_rfl) ?_
    clear hK
    obtain ⟨wv4, hD4, c4, in4⟩ := write_end H.out HB.out HC1.out hb ha kk HO3.out (fun k hk => by
      rcases HI.out k hk with h | h
      · exact .inl h
      · exact .inr (by have := k1.size; simp at h; omega))
    obtain ⟨w4, hw4⟩ : ∃ w4, w4 = w3.setCell ⟨D, 1, none⟩ (.slice va' (d.waits.length + 1) vc') := ⟨_, rfl⟩
    rw [← hw4] at hD4 c4 ⊢
    obtain ⟨T4, hh4⟩ := hD4.heap
    have z3 := cell_of_heap hh4 3
    have z4 := cell_of_heap hh4 4
    have z5 := cell_of_heap hh4 5
    have z6 := cell_of_heap hh4 6
    have zf := frozen_of_heap hh4 3
    simp only [List.getElem?_toArray, List.getElem?_cons_zero, List.getElem?_cons_succ, HL.out] at z3 z4 z5 z6
    have HD4 := Lib.hid hD4
    have HN4 := Lib.hid in4
    have hDl4 : D < w4.heap.size := (Array.getElem?_eq_some_iff.1 hh4).1
    clear hw4 hh4 hD4 in4 q31 q33 q3f
    have h5 := set_left HD4.out (q + 1)
    have ew : IntKind.i64.wrap (((q + 2 : Nat) : Int) - 1) = ((q + 1 : Nat) : Int) := by rw [IntWalk.i64_in _ (by omega)]; omega
    have ez : (((q + 1 : Nat) : Int) == 0) = false := by simp; omega
    have ez2 : (((q + 2 : Nat) : Int) == 0) = false := by simp; omega
    rw [show (((q + 1 : Nat)) : Int) = (q : Int) + 2 - 1 by omega] at h5
    have H5 := Lib.hid h5
    clear h5
    go_wp2_with fail
    go_ret
    exact ⟨rfl, _, H5.out, c4.trans ((Chg.refl (foot D _ wv) w4).setCell (p := ⟨D, 3, none⟩) (fun _ => .inl rfl) _), HN4.out⟩
  · refine wp_run _ _ (exec_buildSlice _ _ _ _ _ _ _ rfl rfl (run_buildSlice_one W1.drew _ _ _ _ _ Try.underlying124 Try.infoWri c1 hcl1 (by omega) (by omega))) ?_
    refine hK _ _ ((Chg.refl _ _).alloc _) ?_
    simp only [Act.put, List.setIfInBounds_toArray, List.set_cons_zero, List.set_cons_succ]
    refine wpT.call 4 rfl (by kernel_rfl) rfl (fun K hK => ?_)
    refine wp_run wv (W1.drew.alloc _) (by go_simp <;> with_reducible rfl) ?_
    refine hK _ _ (Chg.refl _ _) ?_
    simp only [Act.put, List.setIfInBounds_toArray, List.set_cons_zero, List.set_cons_succ]
    refine wpT.call 7 rfl (by kernel_rfl) rfl (fun K hK => ?_)
    refine wp_app _ _ 124 rfl 185 _ 65 72 Try.underlying124 Try.infoWri Try.zeroCells185_size wv d.waits.length (d.waits.flatMap wcells) rfl (Owns.alloc (Owns.drew HO.out) _) _ 1 c1 rfl hrd hone hmx (by omega) ?_
    intro wv' w3 own3 c3 in3 _
    refine hK _ _ (c3.mono (fun k _ hk => .inr hk)) ?_
    simp only [Act.put, List.setIfInBounds_toArray, List.set_cons_zero, List.set_cons_succ]
    refine wpT.take 8 rfl (by kernel_rfl) (fun _ _ _ h => h) rfl (fun w' hw' => by go_simp <;> with_reducible rfl) ?_
    simp only [Act.put, List.setIfInBounds_toArray, List.set_cons_zero, List.set_cons_succ]
    refine wpT.take 9 rfl (by kernel_rfl) (fun _ _ _ h => h) rfl (fun w' hw' => by go_simp <;> with_reducible rfl) ?_
    simp only [Act.put, List.setIfInBounds_toArray, List.set_cons_zero, List.set_cons_succ]
    have kk : Chg (fun k => wv.ownBlock = some k) w w3 := (((k1.drew.alloc _).mono (fun _ _ h => h.elim)).trans c3)
    have hD : ¬ wv.ownBlock = some D := fun h => (H.out.apW _ h).1 rfl
    obtain ⟨va', vc', rfl⟩ := own3.form
    have q31 : w3.cell? ⟨D, 1, none⟩ = some wv := kk.cell hc1 hD
    have q33 : True := trivial
    have q3f : w3.frozen? ⟨D, 1, none⟩ = false := frozen_of_heap (kk.heap HB.out hD) 1
    have HI := Lib.hid in3
    have HO3 := Lib.hid own3
    clear in3 own3
    refine wpT.call 10 rfl (by kernel_rfl) rfl (fun K hK => ?_)
    go_wp2_with fail
    refine hK _ _ ((Chg.refl (fun k => k = D ∨ wv.ownBlock = some k) w3).setCell (p := ⟨D, 1, none⟩) (fun _ => .inl rfl) _) ?_
    refine wpT.done (by kernel_rfl) ?_
    clear hK
    obtain ⟨wv4, hD4, c4, in4⟩ := write_end H.out HB.out HC1.out hb ha kk HO3.out (fun k hk => by
      rcases HI.out k hk with h | h
      · exact .inl h
      · exact .inr (by have := k1.size; simp at h; omega))
    obtain ⟨w4, hw4⟩ : ∃ w4, w4 = w3.setCell ⟨D, 1, none⟩ (.slice va' (d.waits.length + 1) vc') := ⟨_, rfl⟩
    rw [← hw4] at hD4 c4 ⊢
    obtain ⟨T4, hh4⟩ := hD4.heap
    have z3 := cell_of_heap hh4 3
    have z4 := cell_of_heap hh4 4
    have z5 := cell_of_heap hh4 5
    have z6 := cell_of_heap hh4 6
    have zf := frozen_of_heap hh4 3
    simp only [List.getElem?_toArray, List.getElem?_cons_zero, List.getElem?_cons_succ, HL.out] at z3 z4 z5 z6
    have HD4 := Lib.hid hD4
    have HN4 := Lib.hid in4
    have hDl4 : D < w4.heap.size := (Array.getElem?_eq_some_iff.1 hh4).1
    clear hw4 hh4 hD4 in4 q31 q33 q3f
    have h5 := set_left HD4.out (q + 1)
    have ew : IntKind.i64.wrap (((q + 2 : Nat) : Int) - 1) = ((q + 1 : Nat) : Int) := by rw [IntWalk.i64_in _ (by omega)]; omega
    have ez : (((q + 1 : Nat) : Int) == 0) = false := by simp; omega
    have ez2 : (((q + 2 : Nat) : Int) == 0) = false := by simp; omega
    rw [show (((q + 1 : Nat)) : Int) = (q : Int) + 2 - 1 by omega] at h5
    have H5 := Lib.hid h5
    clear h5
    go_wp2_with fail
    go_ret
    exact ⟨rfl, _, H5.out, c4.trans ((Chg.refl (foot D _ wv) w4).setCell (p := ⟨D, 3, none⟩) (fun _ => .inl rfl) _), HN4.out⟩
end Go.Proofs.Ytjhkhdockiocgaa

/- journal.Write, Commit, Wipe on a device at which a crash may be armed. -/
namespace Go.Proofs.Ytjhkhdockiocgaa
open Go.RowKit Go.Cat

/-- Behind so many writings no crash has come. -/
def Alive (d : Dev) (k : Nat) : Prop := d.left = 0 ∨ k < d.left
/-- Behind writings, none of which was the crash. -/
def after (d : Dev) (W : List (Nat × List UInt8)) : Dev := { d with waits := d.waits ++ W, left := d.left - W.length }
/-- Behind the crash in the midst of writings. -/
def crashed (d : Dev) (W : List (Nat × List UInt8)) : Dev := { d with l := crashTo d.keep d.torn d.bytes d.l (d.waits ++ W.take d.left) (d.waits ++ W.take d.left).length, waits := [], down := true, left := 0 }
theorem alive_zero (d : Dev) : Alive d 0 := by unfold Alive; omega
theorem after_nil (d : Dev) : after d [] = d := by simp [after]
theorem alive_succ {d : Dev} {k : Nat} (h : Alive d k) (hn : d.left - k ≠ 1) : Alive d (k + 1) := by unfold Alive at *; omega
theorem left_of {d : Dev} {k : Nat} (_ : Alive d k) (hn : d.left - k = 1) : d.left = k + 1 := by unfold Alive at *; omega
theorem not_alive {d : Dev} {k m : Nat} (h : d.left = k + 1) (hk : k < m) : ¬ Alive d m := by unfold Alive; omega
theorem after_snoc (d : Dev) (W : List (Nat × List UInt8)) (x : Nat × List UInt8) : after d (W ++ [x]) = { after d W with waits := (after d W).waits ++ [x], left := (after d W).left - 1 } := by
  simp [after, Nat.sub_sub]
theorem wat_take : ∀ (xs : List (List UInt8)) (b k : Nat), (wat b xs).take k = wat b (xs.take k)
  | [], b, k => by simp [wat]
  | x :: xs, b, 0 => by simp [wat]
  | x :: xs, b, k + 1 => by simp [wat, wat_take xs (b + 1) k]
theorem crashed_take (d : Dev) (b : Nat) (xs : List (List UInt8)) (k : Nat) (h : d.left = k + 1) (_ : k < xs.length) : crashed d (wat b xs) = { d with l := crashTo d.keep d.torn d.bytes d.l (d.waits ++ wat b (xs.take (k + 1))) (d.waits ++ wat b (xs.take (k + 1))).length, waits := [], down := true, left := 0 } := by
  unfold crashed; rw [h, wat_take]
theorem write_a (w : World) (D : Nat) (lv wv v : Value) (d : Dev) (at_ : Nat) (b : List UInt8) (h : DevIs w D lv wv d) (hv : RBz w v b) (hd : d.down = false) (ha : at_ < d.l.length) (hb : b.length ≤ 64) (hq : d.left ≤ 1000000) (hm : d.waits.length ≤ 990000) :
    Calls Try.prog 79 #[.pointer (some ⟨D, 0, none⟩), .int .i64 at_, v] w fun e w' =>
      (e = .returned (.int .i64 0) ∧ d.left ≠ 1 ∧ ∃ wv', DevIs w' D lv wv' { d with waits := d.waits ++ [(at_, pad b)], left := d.left - 1 } ∧ Chg (foot D lv wv) w w' ∧ ∀ k, wv'.ownBlock = some k → wv.ownBlock = some k ∨ w.heap.size ≤ k) ∨
      (e = .returned (.int .i64 13) ∧ d.left = 1 ∧ ∃ wv', DevIs w' D lv wv' { d with l := crashTo d.keep d.torn d.bytes d.l (d.waits ++ [(at_, pad b)]) (d.waits ++ [(at_, pad b)]).length, waits := [], down := true, left := 0 } ∧ Chg (foot D lv wv) w w' ∧ ∀ k, wv'.ownBlock = some k → wv.ownBlock = some k ∨ w.heap.size ≤ k) := by
  by_cases h1 : d.left = 1
  · exact (write_1 w D lv wv v d at_ b h hv hd h1 ha hb hm).mono fun e w' ⟨he, h2⟩ => .inr ⟨he, h1, h2⟩
  · by_cases h0 : d.left = 0
    · refine (write_ok w D lv wv v d at_ b h hv hd h0 ha hb (by omega)).mono fun e w' ⟨he, h2⟩ => .inl ⟨he, h1, ?_⟩
      have e1 : d.left - 1 = d.left := by omega
      rw [e1]
      exact h2
    · obtain ⟨q, hq2⟩ : ∃ q, d.left = q + 2 := ⟨d.left - 2, by omega⟩
      refine (write_2 w D lv wv v d at_ b h hv hd q (by omega) hq2 ha hb hm).mono fun e w' ⟨he, h2⟩ => .inl ⟨he, h1, ?_⟩
      have e1 : d.left - 1 = q + 1 := by omega
      rw [e1]
      exact h2
set_option maxRecDepth 100000 in
set_option maxHeartbeats 2000000 in
theorem writej_a (w : World) (J D lo n turn next : Nat) (lv wv v : Value) (d : Dev) (l : List UInt8) (h : DevIs w D lv wv d) (hj : JIs w J D lo n turn next) (hJ : ¬ foot D lv wv J) (hv : RBz w v l) (hd : d.down = false)
    (hin : lo + n ≤ d.l.length) (hl : l.length ≤ 600) (hfit : next + costN l.length ≤ n) (ht : turn < 4294967296) (h0 : turn ≠ 0) (hq9 : d.left ≤ 1000000) (hm : d.waits.length ≤ 900000) :
    Calls Try.prog 27 #[.pointer (some ⟨J, 0, none⟩), v] w fun e w' =>
      (e = .returned (.int .i64 0) ∧ Alive d (costN l.length) ∧ ∃ wv', DevIs w' D lv wv' (after d (wat (lo + next) (recSecs turn next l))) ∧ JIs w' J D lo n turn (next + costN l.length) ∧
        Chg (fun k => foot D lv wv k ∨ k = J) w w' ∧ (∀ k, wv'.ownBlock = some k → wv.ownBlock = some k ∨ w.heap.size ≤ k)) ∨
      (e = .returned (.int .i64 13) ∧ ¬ Alive d (costN l.length) ∧ ∃ wv', DevIs w' D lv wv' (crashed d (wat (lo + next) (recSecs turn next l))) ∧ Chg (foot D lv wv) w w' ∧ (∀ k, wv'.ownBlock = some k → wv.ownBlock = some k ∨ w.heap.size ≤ k)) := by
  obtain ⟨a, c, rfl⟩ := hv.form
  have hmany := h.many
  have HCe : Hid (costN l.length = max ((l.length + 46) / 47) 1) := rfl
  obtain ⟨m, hme⟩ : ∃ m, m = costN l.length := ⟨_, rfl⟩
  have hm1 : 1 ≤ m := by rw [hme, HCe.out]; omega
  have hm13 : m ≤ 13 := by rw [hme]; exact costN_le hl
  have HC : Hid (∀ w, Calls Try.prog 37 #[.int .i64 l.length] w fun e w' => e = .returned (.int .i64 m) ∧ w = w') := fun w => by rw [hme]; exact cost_any _ w (by omega)
  have HSP : Hid (∀ w, RBz w (.slice a l.length c) l → Calls Try.prog 77 #[.int .u32 turn, .int .u32 next, .slice a l.length c] w fun e w' => ∃ v' ss, e = .returned (.tuple #[v', .int .i64 0]) ∧ Sectors w w' v' ss ∧ Splits turn next l m m ss ∧ Chg (fun _ => False) w w') := fun w hz => by
    have := split_anyz turn next _ w l hz ht (by omega) hl h0 (by rw [← HCe.out, ← hme]; omega)
    rw [← HCe.out, ← hme] at this
    exact this
  rw [← hme] at hfit ⊢
  have HME := Lib.hid hme
  have e1 : IntKind.i64.wrap ((n : Int) - next) = (n : Int) - next := IntWalk.i64_in _ (by omega)
  have g : ¬ (n : Int) - next < m := by omega
  have EW : Hid (IntKind.u32.wrap (next : Int) = next) := by show _ = _; rw [IntKind.wrap_u32]; omega
  have q2 := hj.at 2 _ rfl
  have q4 := hj.at 4 _ rfl
  have HV := Lib.hid hv
  have HJ := Lib.hid hj
  have HNF := Lib.hid hJ
  have H := Lib.hid h
  have HD := Lib.hid hd
  have hfl : ∀ k, foot D lv wv k → k < w.heap.size := fun k hk => by
    rcases hk with hk | hk | hk
    · obtain ⟨T, hb⟩ := h.heap; rw [hk]; exact (Array.getElem?_eq_some_iff.1 hb).1
    · exact h.ownL.lt k hk
    · exact h.ownW.lt k hk
  have HFL := Lib.hid hfl
  clear hme hv hj hJ h hd hfl
  go_enter Try.func27, Try.ntmps27
  go_wp2_with fail
  go_quiet ((go_at_call 37; refine Calls.quiet_of ((HC.out _).mono (fun e w' h => ⟨h.1, 0, h.2.symm⟩))))
  go_wp2_with fail
  have cq : Chg (fun _ => False) w (w.drewN nq) := (Chg.refl _ w).drewN nq
  generalize w.drewN nq = w0 at cq ⊢
  clear q2 q4 e1 g HC
  have HJ0 := Lib.hid (HJ.out.kept cq (fun h => h))
  have HV0 := Lib.hid (HV.out.same cq)
  refine wpT.begin (fun _ => False) 16 (by kernel_rfl) rfl ?_
  refine wpT.take 0 rfl (by kernel_rfl) (fun _ _ _ h => h) rfl (fun w' hw' => by go_simp <;> with_reducible rfl) ?_
  simp only [Act.put, List.setIfInBounds_toArray, List.set_cons_zero, List.set_cons_succ]
  refine wpT.take 1 rfl (by kernel_rfl) (fun _ _ _ h => h) rfl (fun w' hw' => by go_simp <;> with_reducible rfl) ?_
  simp only [Act.put, List.setIfInBounds_toArray, List.set_cons_zero, List.set_cons_succ]
  refine wpT.take 2 rfl (by kernel_rfl) (fun _ _ _ h => h) rfl (fun w' hw' => by go_simp <;> with_reducible rfl) ?_
  simp only [Act.put, List.setIfInBounds_toArray, List.set_cons_zero, List.set_cons_succ]
  refine wpT.ld 3 rfl (by kernel_rfl) (fun _ _ _ _ h => h) rfl _ _ rfl (by kernel_rfl) ⟨J, 3, none⟩ rfl _ ((HJ0.out.kept (Chg.refl (fun _ => False) w0).drew (fun h => h)).at 3 _ rfl) (fun h => h) ?_
  simp only [Act.put, List.setIfInBounds_toArray, List.set_cons_zero, List.set_cons_succ]
  refine wpT.take 4 rfl (by kernel_rfl) (fun _ _ _ h => h) rfl (fun w' hw' => by go_simp <;> with_reducible rfl) ?_
  simp only [Act.put, List.setIfInBounds_toArray, List.set_cons_zero, List.set_cons_succ]
  refine wpT.take 5 rfl (by kernel_rfl) (fun _ _ _ h => h) rfl (fun w' hw' => by go_simp <;> with_reducible rfl) ?_
  simp only [Act.put, List.setIfInBounds_toArray, List.set_cons_zero, List.set_cons_succ]
  refine wpT.take 6 rfl (by kernel_rfl) (fun _ _ _ h => h) rfl (fun w' hw' => by go_simp <;> with_reducible rfl) ?_
  simp only [Act.put, List.setIfInBounds_toArray, List.set_cons_zero, List.set_cons_succ]
  refine wpT.ld 7 rfl (by kernel_rfl) (fun _ _ _ _ h => h) rfl _ _ rfl (by kernel_rfl) ⟨J, 4, none⟩ rfl _ ((HJ0.out.kept (Chg.refl (fun _ => False) w0).drew (fun h => h)).at 4 _ rfl) (fun h => h) ?_
  simp only [Act.put, List.setIfInBounds_toArray, List.set_cons_zero, List.set_cons_succ]
  refine wpT.take (v := .int .u32 next) 8 rfl (by kernel_rfl) (fun _ _ _ h => h) rfl (fun w' hw' => by have hx := EW.out; go_simp <;> first | with_reducible rfl | simp [hx]) ?_
  simp only [Act.put, List.setIfInBounds_toArray, List.set_cons_zero, List.set_cons_succ]
  refine wpT.take 9 rfl (by kernel_rfl) (fun _ _ _ h => h) rfl (fun w' hw' => by go_simp <;> with_reducible rfl) ?_
  simp only [Act.put, List.setIfInBounds_toArray, List.set_cons_zero, List.set_cons_succ]
  refine wpT.call 10 rfl (by kernel_rfl) rfl (fun K hK => ?_)
  go_wp2_with fail
  refine (HSP.out w0.drew (HV0.out.same (Chg.refl (fun _ => False) w0).drew)).mono ?_
  rintro e w1 ⟨v1, ss, rfl, hse, hsp, c1⟩
  have c01 : Chg (fun _ => False) w w1 := cq.trans ((Chg.refl (fun _ => False) w0).drew.trans c1)
  obtain ⟨sa, sc, rfl⟩ := hse.own.form
  refine hK _ _ c1 ?_
  clear hK
  try (simp only [Act.put, List.setIfInBounds_toArray, List.set_cons_zero, List.set_cons_succ])
  refine wpT.take 11 rfl (by kernel_rfl) (fun _ _ _ h => h) rfl (fun w' hw' => by go_simp <;> with_reducible rfl) ?_
  simp only [Act.put, List.setIfInBounds_toArray, List.set_cons_zero, List.set_cons_succ]
  refine wpT.take 12 rfl (by kernel_rfl) (fun _ _ _ h => h) rfl (fun w' hw' => by go_simp <;> with_reducible rfl) ?_
  simp only [Act.put, List.setIfInBounds_toArray, List.set_cons_zero, List.set_cons_succ]
  refine wpT.take 13 rfl (by kernel_rfl) (fun _ _ _ h => h) rfl (fun w' hw' => by go_simp <;> with_reducible rfl) ?_
  simp only [Act.put, List.setIfInBounds_toArray, List.set_cons_zero, List.set_cons_succ]
  refine wpT.take 14 rfl (by kernel_rfl) (fun _ _ _ h => h) rfl (fun w' hw' => by go_simp <;> with_reducible rfl) ?_
  simp only [Act.put, List.setIfInBounds_toArray, List.set_cons_zero, List.set_cons_succ]
  refine wpT.take 15 rfl (by kernel_rfl) (fun _ _ _ h => h) rfl (fun w' hw' => by go_simp <;> with_reducible rfl) ?_
  simp only [Act.put, List.setIfInBounds_toArray, List.set_cons_zero, List.set_cons_succ]
  refine wpT.done (by kernel_rfl) ?_
  have HSZ : Hid (w.heap.size ≤ w0.drew.heap.size) := cq.size
  clear cq HJ0 HV0 HSP HV EW
  obtain rfl : ss.length = m := hsp.1
  have SP := Lib.hid hsp
  have SE := Lib.hid hse
  clear hsp hse
  go_wp2_with fail
  go_loopw [48] (fun i wr => ∃ (k : Nat) (wvk : Value), k ≤ ss.length ∧ i = .int .i64 k ∧ Alive d k ∧ DevIs wr D lv wvk (after d (wat (lo + next) ((recSecs turn next l).take k))) ∧ Chg (foot D lv wv) w1 wr ∧ (∀ q, wvk.ownBlock = some q → wv.ownBlock = some q ∨ w1.heap.size ≤ q)) (fun i _ => ss.length - (intOf i).toNat)
  case atStart =>
    exact ⟨0, wv, by omega, rfl, alive_zero d, by rw [List.take_zero]; exact (after_nil d).symm ▸ H.out.kept c01 (fun _ _ h => h), Chg.refl _ _, fun q hq => .inl hq⟩
  case round =>
    obtain ⟨k, wvk, hk, rfl, hal, hDk, ck, hin⟩ := hrel
    have HAL := Lib.hid hal
    clear hal
    have z01 := c01.size
    have zk := ck.size
    have hnf : ∀ q, foot D lv wvk q → foot D lv wv q ∨ w1.heap.size ≤ q := fun q hq => by
      rcases hq with hq | hq | hq
      · exact .inl (.inl hq)
      · exact .inl (.inr (.inl hq))
      · rcases hin q hq with h1 | h1
        · exact .inl (.inr (.inr h1))
        · exact .inr h1
    have hJlt : J < w.heap.size := HJ.out.lt
    have HNFk : Hid (¬ foot D lv wvk J) := fun h => by
      rcases hnf J h with h1 | h1
      · exact HNF.out h1
      · omega
    have HNW := Lib.hid hnf
    have HIN := Lib.hid hin
    have CK := Lib.hid ck
    have HDk := Lib.hid hDk
    have HJr := Lib.hid ((HJ.out.kept c01 (fun h => h)).kept ck HNF.out)
    have q4 := HJr.out.at 4 _ rfl
    clear hDk ck hin hnf
    by_cases hlt : k < ss.length
    · obtain ⟨s, hs⟩ : ∃ s, ss[k]? = some s := ⟨_, List.getElem?_eq_getElem hlt⟩
      obtain ⟨s1, s2, s3, s4⟩ := SP.out.2 k s hs
      have hsf : ∀ q, (Value.slice sa ss.length sc).ownBlock = some q → ¬ foot D lv wv q := fun q hq h => by
        have h1 := SE.out.fresh q hq
        have h2 := HFL.out q h
        have h3 := HSZ.out
        omega
      have hown := SE.out.own.kept CK.out hsf
      have hdat := SE.out.data s (List.mem_of_getElem? hs)
      have hdf : ∀ q, s.dv.ownBlock = some q → ¬ foot D lv wv q := fun q hq h => by
        have h1 := hdat.2.1 q hq
        have h2 := HFL.out q h
        have h3 := HSZ.out
        omega
      have hdv := Lib.hid (hdat.1.kept CK.out hdf)
      obtain ⟨g, o, rfl⟩ : ∃ g o, sa = some ⟨g, o, none⟩ := by
        rcases hown.2 with ⟨hv, h0⟩ | ⟨g, o, c, hv, _⟩
        · omega
        · simp only [Value.slice.injEq] at hv; exact ⟨g, o, hv.1⟩
      have hce : ∀ (j : Nat) (u : Value), (flat ss)[j]? = some u → wr.cell? ⟨g, o + j, none⟩ = some u := by
        rcases hown.2 with ⟨hv, h0⟩ | ⟨g', o', c, hv, _, _, _, hc, _⟩
        · omega
        · simp only [Value.slice.injEq, Option.some.injEq, Addr.mk.injEq, true_and, and_true] at hv
          obtain ⟨⟨rfl, rfl⟩, _⟩ := hv
          exact hc
      have p0 := hce (k * 4 + 0) _ (flat_get ss k 0 s hs (by omega))
      have p1 := hce (k * 4 + 1) _ (flat_get ss k 1 s hs (by omega))
      have p2 := hce (k * 4 + 2) _ (flat_get ss k 2 s hs (by omega))
      have p3 := hce (k * 4 + 3) _ (flat_get ss k 3 s hs (by omega))
      simp only [Nat.add_zero, ← Nat.add_assoc] at p0 p1 p2 p3
      have k0 : wr.cell? ⟨g, o + k * 4, none⟩ = some (.int .u32 turn) := by rw [← s1]; exact p0
      have k1 : wr.cell? ⟨g, o + k * 4 + 1, none⟩ = some (.int .u32 ((next + k : Nat) : Int)) := by rw [← s2]; exact p1
      have k2 : wr.cell? ⟨g, o + k * 4 + 2, none⟩ = some (.bool s.last) := p2
      have k3 : wr.cell? ⟨g, o + k * 4 + 3, none⟩ = some s.dv := p3
      have hdl : s.data.length ≤ 47 := by rw [s4]; simp; omega
      have HPK : Hid (∀ w, RB w s.dv s.data → Calls Try.prog 78 #[.agg #[.int .u32 turn, .int .u32 ((next + k : Nat) : Int), .bool s.last, s.dv]] w fun e w' => ∃ v', e = .returned (.tuple #[v', .int .i64 0]) ∧ OB w' v' (recSec turn next l k) ∧ Chg (fun _ => False) w w' ∧ Fresh w v') := fun w hw => by
        have := pack_any turn (next + k) s.last s.dv s.data w ht (by omega) h0 hdl hw
        have e1 : recSec turn next l k = packOf turn (next + k) s.last s.data := by
          unfold recSec; rw [s4, s3, ← HME.out]; congr 1; rw [decide_eq_decide]; omega
        rw [e1]; exact this
      clear hce hown hdat hsf hdf s1 s2 s3 s4 p0 p1 p2 p3 hs
      generalize s.last = L at *
      obtain ⟨da, dc, hde⟩ := hdv.out.form
      rw [hde] at hdv k3 HPK
      clear hde
      generalize (((next + k : Nat) : Int)) = pl at k1 HPK
      have WA : Hid (IntKind.i64.wrap ((lo : Int) + next) = (lo : Int) + next) := IntWalk.i64_in _ (by omega)
      have WB : Hid (IntKind.i64.wrap ((lo : Int) + next + k) = (lo : Int) + next + k) := IntWalk.i64_in _ (by omega)
      have WC : Hid (((lo + next + k : Nat) : Int) = (lo : Int) + next + k) := by show _ = _; omega
      go_wp2_with fail
      refine (HPK.out _ (hdv.out.alloc _)).mono ?_
      rintro e w6 ⟨v6, rfl, ho6, c6, f6⟩
      have c56 : Chg (fun _ => False) wr w6 := ((Chg.refl _ wr).alloc _).trans c6
      clear c6 k0 k1 k2 k3 q4
      go_wp2_with fail
      have HJk := Lib.hid (HJr.out.kept c56 (fun h => h))
      have hkc : k < costN l.length := by rw [← HME.out]; exact hlt
      have HWR : Hid (Calls Try.prog 79 #[.pointer (some ⟨D, 0, none⟩), .int .i64 ((lo : Int) + next + k), v6] w6.drew fun e w' =>
          (e = .returned (.int .i64 0) ∧ Alive d (k + 1) ∧ ∃ wv', DevIs w' D lv wv' (after d (wat (lo + next) ((recSecs turn next l).take (k + 1)))) ∧ Chg (foot D lv wvk) w6.drew w' ∧ ∀ q, wv'.ownBlock = some q → wvk.ownBlock = some q ∨ w6.drew.heap.size ≤ q) ∨
          (e = .returned (.int .i64 13) ∧ d.left = k + 1 ∧ ∃ wv', DevIs w' D lv wv' (crashed d (wat (lo + next) (recSecs turn next l))) ∧ Chg (foot D lv wvk) w6.drew w' ∧ ∀ q, wv'.ownBlock = some q → wvk.ownBlock = some q ∨ w6.drew.heap.size ≤ q)) := by
        have hw := wat_length ((recSecs turn next l).take k) (lo + next)
        have hrl := recSecs_length turn next l
        have := write_a w6.drew D lv wvk v6 _ (lo + next + k) (recSec turn next l k) (HDk.out.kept (c56.trans (Chg.refl _ w6).drew) (fun _ _ h => h)) (.inl (ho6.rb.kept (Chg.refl (fun _ => False) w6).drew (fun _ _ h => h))) (by exact HD.out) (by show _ < d.l.length; omega) (by rw [recSec_len]; omega)
          (by show d.left - _ ≤ _; omega) (by simp only [after, List.length_append, hw, List.length_take]; omega)
        rw [WC.out] at this
        refine this.mono ?_
        have hsn : wat (lo + next) ((recSecs turn next l).take (k + 1)) = wat (lo + next) ((recSecs turn next l).take k) ++ [(lo + next + k, pad (recSec turn next l k))] := by
          rw [recSecs_take _ _ _ _ hkc, wat_snoc, pad_64 (recSec_len _ _ _ _), List.length_take, Nat.min_eq_left (by omega)]
        have hwl : (wat (lo + next) ((recSecs turn next l).take k)).length = k := by rw [hw, List.length_take, Nat.min_eq_left (by omega)]
        rintro e w' (⟨rfl, hne, wv', h1, h2, h3⟩ | ⟨rfl, heq, wv', h1, h2, h3⟩)
        · refine .inl ⟨rfl, alive_succ HAL.out (by rw [← hwl]; exact hne), wv', ?_, h2, h3⟩
          rw [hsn, after_snoc]
          exact h1
        · have hk1 : d.left = k + 1 := left_of HAL.out (by rw [← hwl]; exact heq)
          refine .inr ⟨rfl, hk1, wv', ?_, h2, h3⟩
          rw [crashed_take d (lo + next) (recSecs turn next l) k hk1 (by omega), hsn, ← List.append_assoc]
          exact h1
      refine wpT.begin (foot D lv wvk) 18 (by kernel_rfl) rfl ?_
      refine wpT.take 0 rfl (by kernel_rfl) (fun _ _ _ h => h) rfl (fun w' hw' => by go_simp <;> with_reducible rfl) ?_
      simp only [Act.put, List.setIfInBounds_toArray, List.set_cons_zero, List.set_cons_succ]
      refine wpT.take 1 rfl (by kernel_rfl) (fun _ _ _ h => h) rfl (fun w' hw' => by go_simp <;> with_reducible rfl) ?_
      simp only [Act.put, List.setIfInBounds_toArray, List.set_cons_zero, List.set_cons_succ]
      refine wpT.take 2 rfl (by kernel_rfl) (fun _ _ _ h => h) rfl (fun w' hw' => by go_simp <;> with_reducible rfl) ?_
      simp only [Act.put, List.setIfInBounds_toArray, List.set_cons_zero, List.set_cons_succ]
      refine wpT.ld 3 rfl (by kernel_rfl) (fun _ _ _ _ h => h) rfl _ _ rfl (by kernel_rfl) ⟨J, 0, none⟩ rfl _ ((HJk.out.kept (Chg.refl (fun _ => False) w6).drew (fun h => h)).at 0 _ rfl) (fun h => HNFk.out h) ?_
      simp only [Act.put, List.setIfInBounds_toArray, List.set_cons_zero, List.set_cons_succ]
      refine wpT.take 4 rfl (by kernel_rfl) (fun _ _ _ h => h) rfl (fun w' hw' => by go_simp <;> with_reducible rfl) ?_
      simp only [Act.put, List.setIfInBounds_toArray, List.set_cons_zero, List.set_cons_succ]
      refine wpT.take 5 rfl (by kernel_rfl) (fun _ _ _ h => h) rfl (fun w' hw' => by go_simp <;> with_reducible rfl) ?_
      simp only [Act.put, List.setIfInBounds_toArray, List.set_cons_zero, List.set_cons_succ]
      refine wpT.take 6 rfl (by kernel_rfl) (fun _ _ _ h => h) rfl (fun w' hw' => by go_simp <;> with_reducible rfl) ?_
      simp only [Act.put, List.setIfInBounds_toArray, List.set_cons_zero, List.set_cons_succ]
      refine wpT.ld 7 rfl (by kernel_rfl) (fun _ _ _ _ h => h) rfl _ _ rfl (by kernel_rfl) ⟨J, 1, none⟩ rfl _ ((HJk.out.kept (Chg.refl (fun _ => False) w6).drew (fun h => h)).at 1 _ rfl) (fun h => HNFk.out h) ?_
      simp only [Act.put, List.setIfInBounds_toArray, List.set_cons_zero, List.set_cons_succ]
      refine wpT.take 8 rfl (by kernel_rfl) (fun _ _ _ h => h) rfl (fun w' hw' => by go_simp <;> with_reducible rfl) ?_
      simp only [Act.put, List.setIfInBounds_toArray, List.set_cons_zero, List.set_cons_succ]
      refine wpT.take 9 rfl (by kernel_rfl) (fun _ _ _ h => h) rfl (fun w' hw' => by go_simp <;> with_reducible rfl) ?_
      simp only [Act.put, List.setIfInBounds_toArray, List.set_cons_zero, List.set_cons_succ]
      refine wpT.take 10 rfl (by kernel_rfl) (fun _ _ _ h => h) rfl (fun w' hw' => by go_simp <;> with_reducible rfl) ?_
      simp only [Act.put, List.setIfInBounds_toArray, List.set_cons_zero, List.set_cons_succ]
      refine wpT.ld 11 rfl (by kernel_rfl) (fun _ _ _ _ h => h) rfl _ _ rfl (by kernel_rfl) ⟨J, 4, none⟩ rfl _ ((HJk.out.kept (Chg.refl (fun _ => False) w6).drew (fun h => h)).at 4 _ rfl) (fun h => HNFk.out h) ?_
      simp only [Act.put, List.setIfInBounds_toArray, List.set_cons_zero, List.set_cons_succ]
      refine wpT.take (v := .int .i64 ((lo : Int) + next)) 12 rfl (by kernel_rfl) (fun _ _ _ h => h) rfl (fun w' hw' => by have hx := WA.out; go_simp <;> first | with_reducible rfl | simp [hx]) ?_
      simp only [Act.put, List.setIfInBounds_toArray, List.set_cons_zero, List.set_cons_succ]
      refine wpT.take 13 rfl (by kernel_rfl) (fun _ _ _ h => h) rfl (fun w' hw' => by go_simp <;> with_reducible rfl) ?_
      simp only [Act.put, List.setIfInBounds_toArray, List.set_cons_zero, List.set_cons_succ]
      refine wpT.take (v := .int .i64 ((lo : Int) + next + k)) 14 rfl (by kernel_rfl) (fun _ _ _ h => h) rfl (fun w' hw' => by have hx := WB.out; go_simp <;> first | with_reducible rfl | simp [hx]) ?_
      simp only [Act.put, List.setIfInBounds_toArray, List.set_cons_zero, List.set_cons_succ]
      refine wpT.take 15 rfl (by kernel_rfl) (fun _ _ _ h => h) rfl (fun w' hw' => by go_simp <;> with_reducible rfl) ?_
      simp only [Act.put, List.setIfInBounds_toArray, List.set_cons_zero, List.set_cons_succ]
      refine wpT.call 16 rfl (by kernel_rfl) rfl (fun K hK => ?_)
      go_wp2_with fail
      refine (HWR.out).mono ?_
      rintro e w7 (⟨rfl, hal7, wv7, hD7, c7, in7⟩ | ⟨rfl, hl7, wv7, hD7, c7, in7⟩)
      · have cst : Chg (foot D lv wvk) w6.drew w7 := c7
        refine hK _ _ cst ?_
        clear hK cst
        try (simp only [Act.put, List.setIfInBounds_toArray, List.set_cons_zero, List.set_cons_succ])
        refine wpT.take 17 rfl (by kernel_rfl) (fun _ _ _ h => h) rfl (fun w' hw' => by go_simp <;> with_reducible rfl) ?_
        simp only [Act.put, List.setIfInBounds_toArray, List.set_cons_zero, List.set_cons_succ]
        refine wpT.done (by kernel_rfl) ?_
        have z6 := c56.size
        have hc7 : Chg (foot D lv wv) w1 w7 := ((CK.out.trans (c56.mono (fun _ _ h => h.elim))).drew).trans' c7 (fun i hi ht => by
          rcases HNW.out i ht with h1 | h1
          · exact h1
          · omega)
        have hi7 : ∀ q, wv7.ownBlock = some q → wv.ownBlock = some q ∨ w1.heap.size ≤ q := fun q hq => by
          rcases in7 q hq with h1 | h1
          · exact HIN.out q h1
          · have h1 : w6.heap.size ≤ q := h1
            exact .inr (by omega)
        have HC7 := Lib.hid hc7
        have HI7 := Lib.hid hi7
        have HD7 := Lib.hid hD7
        clear hc7 hi7 hD7 c7 in7 f6
        go_wp2_with fail
        exact ⟨⟨k + 1, wv7, by omega, rfl, hal7, HD7.out, HC7.out, HI7.out⟩, by simp only [intOf]; omega⟩
      · have cst : Chg (foot D lv wvk) w6.drew w7 := c7
        refine hK _ _ cst ?_
        clear hK cst
        try (simp only [Act.put, List.setIfInBounds_toArray, List.set_cons_zero, List.set_cons_succ])
        refine wpT.take 17 rfl (by kernel_rfl) (fun _ _ _ h => h) rfl (fun w' hw' => by go_simp <;> with_reducible rfl) ?_
        simp only [Act.put, List.setIfInBounds_toArray, List.set_cons_zero, List.set_cons_succ]
        refine wpT.done (by kernel_rfl) ?_
        have z6 := c56.size
        have hc7 : Chg (foot D lv wv) w1 w7 := ((CK.out.trans (c56.mono (fun _ _ h => h.elim))).drew).trans' c7 (fun i hi ht => by
          rcases HNW.out i ht with h1 | h1
          · exact h1
          · omega)
        have hi7 : ∀ q, wv7.ownBlock = some q → wv.ownBlock = some q ∨ w1.heap.size ≤ q := fun q hq => by
          rcases in7 q hq with h1 | h1
          · exact HIN.out q h1
          · have h1 : w6.heap.size ≤ q := h1
            exact .inr (by omega)
        have HC7 := Lib.hid hc7
        have HI7 := Lib.hid hi7
        have HD7 := Lib.hid hD7
        clear hc7 hi7 hD7 c7 in7 f6
        go_wp2_with fail
        go_ret
        refine .inr ⟨rfl, not_alive hl7 hlt, wv7, HD7.out, (c01.mono (fun _ _ h => h.elim)).trans HC7.out, fun q hq => ?_⟩
        rcases HI7.out q hq with h1 | h1
        · exact .inl h1
        · exact .inr (by omega)
    · obtain rfl : k = ss.length := by omega
      have qf : wr.frozen? ⟨J, 4, none⟩ = false := by obtain ⟨T, hb⟩ := HJr.out.heap; exact frozen_of_heap hb 4
      go_wp2_with fail
      go_ret
      have cJ : Chg (fun q => q = J) wr (wr.setCell ⟨J, 4, none⟩ (.int .i64 ((next : Int) + ss.length))) := (Chg.refl (fun q => q = J) wr).setCell (p := ⟨J, 4, none⟩) (fun _ => rfl) _
      have hall : (recSecs turn next l).take ss.length = recSecs turn next l := List.take_of_length_le (by rw [recSecs_length, ← HME.out]; exact Nat.le_refl _)
      have hDk := HDk.out
      rw [hall] at hDk
      refine .inl ⟨rfl, HAL.out, wvk, hDk.kept cJ (fun q hq e => HNFk.out (e ▸ hq)), ?_, ?_, fun q hq => ?_⟩
      · obtain ⟨T, hb⟩ := HJr.out.heap
        exact ⟨T, Cat.heap_setCell_same hb 4 _⟩
      · exact ((c01.mono (fun _ _ h => h.elim)).trans' (CK.out.mono (fun q _ h => .inl h)) (fun q _ h => h)).trans' (cJ.mono (fun q _ h => .inr h)) (fun q _ h => h)
      · rcases HIN.out q hq with h1 | h1
        · exact .inl h1
        · exact .inr (by omega)
end Go.Proofs.Ytjhkhdockiocgaa

/- journal.Commit, Wipe on a device at which a crash may be armed. -/
namespace Go.Proofs.Ytjhkhdockiocgaa
open Go.RowKit Go.Cat
/-- Behind writings and a flush. -/
def flushed (d : Dev) (W : List (Nat × List UInt8)) : Dev := { after d W with l := flushTo d.l (d.waits ++ W), waits := [] }
set_option maxRecDepth 100000 in
set_option maxHeartbeats 1000000 in
theorem commitj_a (w : World) (J D lo n turn next : Nat) (lv wv v : Value) (d : Dev) (l : List UInt8) (h : DevIs w D lv wv d) (hj : JIs w J D lo n turn next) (hJ : ¬ foot D lv wv J) (hv : RBz w v l) (hd : d.down = false)
    (hin : lo + n ≤ d.l.length) (hl : l.length ≤ 600) (hfit : next + costN l.length ≤ n) (ht : turn < 4294967296) (h0 : turn ≠ 0) (hq9 : d.left ≤ 1000000) (hm : d.waits.length ≤ 900000) :
    Calls Try.prog 26 #[.pointer (some ⟨J, 0, none⟩), v] w fun e w' =>
      (e = .returned (.int .i64 0) ∧ Alive d (costN l.length) ∧ DevIs w' D lv (.slice none 0 0) (flushed d (wat (lo + next) (recSecs turn next l))) ∧ JIs w' J D lo n turn (next + costN l.length) ∧
        ∃ T, Chg T w w' ∧ ∀ k, k < w.heap.size → T k → foot D lv wv k ∨ k = J) ∨
      (e = .returned (.int .i64 13) ∧ ¬ Alive d (costN l.length) ∧ ∃ wv', DevIs w' D lv wv' (crashed d (wat (lo + next) (recSecs turn next l))) ∧ Chg (foot D lv wv) w w' ∧ (∀ k, wv'.ownBlock = some k → wv.ownBlock = some k ∨ w.heap.size ≤ k)) := by
  have hc := costN_le hl
  have hJl := hj.lt
  have H := Lib.hid (writej_a w J D lo n turn next lv wv v d l h hj hJ hv hd hin hl hfit ht h0 hq9 hm)
  have HN := Lib.hid hJ
  have HD := Lib.hid hd
  have HF : Hid (∀ k, foot D lv wv k → k < w.heap.size) := fun k hk => by
    rcases hk with hk | hk | hk
    · obtain ⟨T, hb⟩ := h.heap; rw [hk]; exact (Array.getElem?_eq_some_iff.1 hb).1
    · exact h.ownL.lt k hk
    · exact h.ownW.lt k hk
  clear h hj hJ hv hd hfit
  go_enter Try.func26, Try.ntmps26
  go_wp2_with fail
  refine H.out.mono ?_
  rintro e w1 (⟨rfl, hal, wv1, h1, j1, c1, i1⟩ | ⟨rfl, hal, wv1, h1, c1, i1⟩)
  rotate_left
  · go_wp2_with fail
    go_ret
    exact .inr ⟨rfl, hal, wv1, h1, c1, i1⟩
  have hJ1 : ¬ foot D lv wv1 J := fun hk => by
    rcases hk with hk | hk | hk
    · exact HN.out (.inl hk)
    · exact HN.out (.inr (.inl hk))
    · rcases i1 J hk with hk | hk
      · exact HN.out (.inr (.inr hk))
      · omega
  have qd := j1.at 0 _ rfl
  have FL := Lib.hid (flush_ok w1 D lv wv1 _ h1 HD.out (by
    have e1 := wat_length (recSecs turn next l) (lo + next)
    rw [recSecs_length] at e1
    show (d.waits ++ _).length ≤ _
    simp only [List.length_append, e1]; omega))
  have J1 := Lib.hid j1
  have C1 := Lib.hid c1
  have I1 := Lib.hid i1
  have HJ1 := Lib.hid hJ1
  clear h1 j1 c1 i1 hJ1
  go_wp2_with fail
  refine FL.out.mono ?_
  rintro e w2 ⟨rfl, h2, c2⟩
  go_wp2_with fail
  go_ret
  refine .inl ⟨rfl, hal, h2, J1.out.kept c2 HJ1.out, fun k => (foot D lv wv k ∨ k = J) ∨ foot D lv wv1 k, (C1.out.mono (fun _ _ h => .inl h)).trans (c2.mono (fun _ _ h => .inr h)), fun k hk hT => ?_⟩
  rcases hT with hT | hT
  · exact hT
  · rcases hT with hT | hT | hT
    · exact .inl (.inl hT)
    · exact .inl (.inr (.inl hT))
    · rcases I1.out k hT with h | h
      · exact .inl (.inr (.inr h))
      · omega

set_option maxRecDepth 100000 in
set_option maxHeartbeats 2000000 in
theorem wipej_a (w : World) (D : Nat) (lv wv : Value) (d : Dev) (lo n : Nat) (h : DevIs w D lv wv d) (hd : d.down = false) (h1 : 1 ≤ n) (hr : lo + n ≤ d.l.length) (hq9 : d.left ≤ 1000000) (hm : d.waits.length ≤ 900000) :
    Calls Try.prog 36 #[.pointer (some ⟨D, 0, none⟩), .int .i64 lo, .int .i64 n] w fun e w' =>
      (e = .returned (.int .i64 0) ∧ Alive d n ∧ DevIs w' D lv (.slice none 0 0) (flushed d (wat lo (List.replicate n (zb 64)))) ∧
        ∃ T, Chg T w w' ∧ ∀ k, k < w.heap.size → T k → foot D lv wv k) ∨
      (e = .returned (.int .i64 13) ∧ ¬ Alive d n ∧ ∃ wv', DevIs w' D lv wv' (crashed d (wat lo (List.replicate n (zb 64)))) ∧ Chg (foot D lv wv) w w' ∧ (∀ k, wv'.ownBlock = some k → wv.ownBlock = some k ∨ w.heap.size ≤ k)) := by
  have hmany := h.many
  have HL := lies_any w D lv wv d h lo n (by omega)
  rw [show inB d.l.length lo n = true from decide_eq_true (by omega)] at HL
  have HL := Lib.hid HL
  have H := Lib.hid h
  have HD := Lib.hid hd
  clear h hd
  go_enter Try.func36, Try.ntmps36
  go_wp2_with (first | (go_at_call 75; refine HL.out.mono ?_; rintro e w' ⟨rfl, rfl⟩))
  go_loopw [15] (fun i wr => ∃ (k : Nat) (wvk : Value), k ≤ n ∧ i = .int .i64 k ∧ Alive d k ∧ DevIs wr D lv wvk (after d (wat lo ((List.replicate n (zb 64)).take k))) ∧ Chg (foot D lv wv) w wr ∧ (∀ q, wvk.ownBlock = some q → wv.ownBlock = some q ∨ w.heap.size ≤ q)) (fun i _ => n - (intOf i).toNat)
  case atStart => exact ⟨0, wv, by omega, rfl, alive_zero d, by rw [List.take_zero]; exact (after_nil d).symm ▸ H.out, Chg.refl _ _, fun q hq => .inl hq⟩
  case round =>
    obtain ⟨k, wvk, hk, rfl, hal, hDk, ck, hin⟩ := hrel
    have HAL := Lib.hid hal
    clear hal
    have hft : ∀ q, q < w.heap.size → foot D lv wvk q → foot D lv wv q := fun q hq hf => by
      rcases hf with hf | hf | hf
      · exact .inl hf
      · exact .inr (.inl hf)
      · rcases hin q hf with h1 | h1
        · exact .inr (.inr h1)
        · omega
    have zk := ck.size
    have HFT := Lib.hid hft
    have CK := Lib.hid ck
    have HIN := Lib.hid hin
    have HDK := Lib.hid hDk
    have hwl := wat_length ((List.replicate n (zb 64)).take k) lo
    clear hft ck hin hDk
    by_cases hlt : k < n
    · have WR : Hid (Calls Try.prog 79 #[.pointer (some ⟨D, 0, none⟩), .int .i64 ((lo : Int) + k), .slice none 0 0] wr fun e w' =>
          (e = .returned (.int .i64 0) ∧ Alive d (k + 1) ∧ ∃ wv', DevIs w' D lv wv' (after d (wat lo ((List.replicate n (zb 64)).take (k + 1)))) ∧ Chg (foot D lv wvk) wr w' ∧ ∀ q, wv'.ownBlock = some q → wvk.ownBlock = some q ∨ wr.heap.size ≤ q) ∨
          (e = .returned (.int .i64 13) ∧ d.left = k + 1 ∧ ∃ wv', DevIs w' D lv wv' (crashed d (wat lo (List.replicate n (zb 64)))) ∧ Chg (foot D lv wvk) wr w' ∧ ∀ q, wv'.ownBlock = some q → wvk.ownBlock = some q ∨ wr.heap.size ≤ q)) := by
        have := write_a wr D lv wvk (.slice none 0 0) _ (lo + k) [] HDK.out (.inl (Reads.nil wr 1)) (by exact HD.out) (by show _ < d.l.length; omega) (by simp) (by show d.left - _ ≤ _; omega) (by simp only [after, List.length_append, hwl, List.length_take, List.length_replicate]; omega)
        rw [show ((lo + k : Nat) : Int) = (lo : Int) + k by omega] at this
        refine this.mono ?_
        have hsn : wat lo ((List.replicate n (zb 64)).take (k + 1)) = wat lo ((List.replicate n (zb 64)).take k) ++ [(lo + k, pad [])] := by
          rw [replicate_take_succ _ _ _ hlt, wat_snoc, List.length_take, List.length_replicate, Nat.min_eq_left (by omega)]; rfl
        have hwk : (wat lo ((List.replicate n (zb 64)).take k)).length = k := by rw [hwl, List.length_take, List.length_replicate, Nat.min_eq_left (by omega)]
        rintro e w' (⟨rfl, hne, wv', h1, h2, h3⟩ | ⟨rfl, heq, wv', h1, h2, h3⟩)
        · refine .inl ⟨rfl, alive_succ HAL.out (by rw [← hwk]; exact hne), wv', ?_, h2, h3⟩
          rw [hsn, after_snoc]
          exact h1
        · have hk1 : d.left = k + 1 := left_of HAL.out (by rw [← hwk]; exact heq)
          refine .inr ⟨rfl, hk1, wv', ?_, h2, h3⟩
          rw [crashed_take d lo (List.replicate n (zb 64)) k hk1 (by simp; omega), hsn, ← List.append_assoc]
          exact h1
      clear hwl
      go_wp2_with fail
      refine WR.out.mono ?_
      rintro e w1 (⟨rfl, hal7, wv1, hD1, c1, i1⟩ | ⟨rfl, hl7, wv1, hD1, c1, i1⟩)
      · have hc1 : Chg (foot D lv wv) w w1 := CK.out.trans' c1 (fun q hq ht => HFT.out q hq ht)
        have hi1 : ∀ q, wv1.ownBlock = some q → wv.ownBlock = some q ∨ w.heap.size ≤ q := fun q hq => by
          rcases i1 q hq with h1 | h1
          · exact HIN.out q h1
          · exact .inr (by omega)
        have HC1 := Lib.hid hc1
        have HI1 := Lib.hid hi1
        have HD1 := Lib.hid hD1
        clear hc1 hi1 hD1 c1 i1
        go_wp2_with fail
        exact ⟨⟨k + 1, wv1, by omega, rfl, hal7, HD1.out, HC1.out, HI1.out⟩, by simp only [intOf]; omega⟩
      · have hc1 : Chg (foot D lv wv) w w1 := CK.out.trans' c1 (fun q hq ht => HFT.out q hq ht)
        have hi1 : ∀ q, wv1.ownBlock = some q → wv.ownBlock = some q ∨ w.heap.size ≤ q := fun q hq => by
          rcases i1 q hq with h1 | h1
          · exact HIN.out q h1
          · exact .inr (by omega)
        have HC1 := Lib.hid hc1
        have HI1 := Lib.hid hi1
        have HD1 := Lib.hid hD1
        clear hc1 hi1 hD1 c1 i1
        go_wp2_with fail
        go_ret
        exact .inr ⟨rfl, not_alive hl7 hlt, wv1, HD1.out, HC1.out, HI1.out⟩
    · obtain rfl : k = n := by omega
      have FL := Lib.hid (flush_ok wr D lv wvk _ HDK.out (by exact HD.out) (by simp only [after, List.length_append, hwl, List.length_take, List.length_replicate]; omega))
      clear hwl
      go_wp2_with fail
      refine FL.out.mono ?_
      rintro e w2 ⟨rfl, h2, c2⟩
      go_wp2_with fail
      go_ret
      rw [List.take_of_length_le (by simp)] at h2
      exact .inl ⟨rfl, HAL.out, h2, fun k => foot D lv wv k ∨ foot D lv wvk k, (CK.out.mono (fun _ _ h => .inl h)).trans (c2.mono (fun _ _ h => .inr h)), fun q hq hT => by
        rcases hT with hT | hT
        · exact hT
        · exact HFT.out q hq hT⟩
end Go.Proofs.Ytjhkhdockiocgaa

/- vault.wipe, begin on a device at which a crash may be armed (law level). -/
namespace Go.Proofs.Ytjhkhdockiocgaa
open Go.RowKit Go.Cat

theorem not_alive_left {d : Dev} {n : Nat} (h : ¬ Alive d n) : d.left ≠ 0 := fun e => h (.inl e)
theorem dj_commit_a (w0 w : World) (J D lo n turn next : Nat) (d : Dev) (S : Nat → Prop) (v : Value) (l : List UInt8) (h : DJ w0 w D d S) (hj : JIs w J D lo n turn next) (hJ : S J) (hv : RBz w v l) (hd : d.down = false)
    (hin : lo + n ≤ d.l.length) (hl : l.length ≤ 600) (hfit : next + costN l.length ≤ n) (ht : turn < 4294967296) (h0 : turn ≠ 0) (hq9 : d.left ≤ 1000000) (hm : d.waits.length ≤ 900000) :
    Calls Try.prog 26 #[.pointer (some ⟨J, 0, none⟩), v] w fun e w' =>
      (e = .returned (.int .i64 0) ∧ Alive d (costN l.length) ∧ DJ w0 w' D (flushed d (wat (lo + next) (recSecs turn next l))) S ∧ JIs w' J D lo n turn (next + costN l.length) ∧
        ∃ T, Chg T w w' ∧ ∀ k, k < w.heap.size → T k → w0.heap.size ≤ k ∧ (S k → k = J)) ∨
      (e = .returned (.int .i64 13) ∧ d.left ≠ 0 ∧ DJ w0 w' D (crashed d (wat (lo + next) (recSecs turn next l))) S ∧ ∃ T, Chg T w w' ∧ ∀ k, k < w.heap.size → T k → w0.heap.size ≤ k ∧ ¬ S k) := by
  obtain ⟨h3, h4, lv, wv, h5, h6⟩ := h
  refine (commitj_a w J D lo n turn next lv wv v d l h5 hj (fun hf => (h6 J hf).2 hJ) hv hd hin hl hfit ht h0 hq9 hm).mono ?_
  rintro e w' (⟨rfl, hal, h7, j, T, c, h8⟩ | ⟨rfl, hal, wv', h7, c, h8⟩)
  · have hT : ∀ k, k < w.heap.size → T k → w0.heap.size ≤ k ∧ (S k → k = J) := fun k hk ht => by
      rcases h8 k hk ht with hk | hk
      · exact ⟨(h6 k hk).1, fun hs => absurd hs (h6 k hk).2⟩
      · exact ⟨by rw [hk]; exact (h4 J hJ).1, fun _ => hk⟩
    exact .inl ⟨rfl, hal, DJ.next h3 h4 h5 h6 h7 c (fun k hk ht => (hT k hk ht).1) (by simp [Value.ownBlock]), j, _, c, hT⟩
  · exact .inr ⟨rfl, not_alive_left hal, DJ.next h3 h4 h5 h6 h7 c (fun k hk ht => (h6 k ht).1) h8, _, c, fun k _ ht => h6 k ht⟩
theorem dj_wipe_a (w0 w : World) (D lo n : Nat) (d : Dev) (S : Nat → Prop) (h : DJ w0 w D d S) (hd : d.down = false) (h1 : 1 ≤ n) (hr : lo + n ≤ d.l.length) (hq9 : d.left ≤ 1000000) (hm : d.waits.length ≤ 900000) :
    Calls Try.prog 36 #[.pointer (some ⟨D, 0, none⟩), .int .i64 lo, .int .i64 n] w fun e w' =>
      (e = .returned (.int .i64 0) ∧ Alive d n ∧ DJ w0 w' D (flushed d (wat lo (List.replicate n (zb 64)))) S ∧ ∃ T, Chg T w w' ∧ ∀ k, k < w.heap.size → T k → w0.heap.size ≤ k ∧ ¬ S k) ∨
      (e = .returned (.int .i64 13) ∧ d.left ≠ 0 ∧ DJ w0 w' D (crashed d (wat lo (List.replicate n (zb 64)))) S ∧ ∃ T, Chg T w w' ∧ ∀ k, k < w.heap.size → T k → w0.heap.size ≤ k ∧ ¬ S k) := by
  obtain ⟨h3, h4, lv, wv, h5, h6⟩ := h
  refine (wipej_a w D lv wv d lo n h5 hd h1 hr hq9 hm).mono ?_
  rintro e w' (⟨rfl, hal, h7, T, c, h8⟩ | ⟨rfl, hal, wv', h7, c, h8⟩)
  · have hT : ∀ k, k < w.heap.size → T k → w0.heap.size ≤ k ∧ ¬ S k := fun k hk ht => h6 k (h8 k hk ht)
    exact .inl ⟨rfl, hal, DJ.next h3 h4 h5 h6 h7 c (fun k hk ht => (hT k hk ht).1) (by simp [Value.ownBlock]), _, c, hT⟩
  · exact .inr ⟨rfl, not_alive_left hal, DJ.next h3 h4 h5 h6 h7 c (fun k hk ht => (h6 k ht).1) h8, _, c, fun k _ ht => h6 k ht⟩
set_option maxRecDepth 100000 in
set_option maxHeartbeats 1000000 in
theorem dj_vwipe_a (w0 w : World) (D : Nat) (d : Dev) (S : Nat → Prop) (half q : Nat) (hh : half ≤ 1) (h : DJ w0 w D d S) (hd : d.down = false) (hlen : d.l.length = 2 * q) (hq4 : 4 ≤ q) (hq2 : q ≤ 4096) (hq9 : d.left ≤ 1000000) (hm : d.waits.length ≤ 900000) :
    Calls Try.prog 86 #[.pointer (some ⟨D, 0, none⟩), .int .i64 half] w fun e w' =>
      (e = .returned (.int .i64 0) ∧ Alive d q ∧ DJ w0 w' D (flushed d (wat (half * q) (List.replicate q (zb 64)))) S ∧ ∃ T, Chg T w w' ∧ ∀ k, k < w.heap.size → T k → w0.heap.size ≤ k ∧ ¬ S k) ∨
      (e = .returned (.int .i64 13) ∧ d.left ≠ 0 ∧ DJ w0 w' D (crashed d (wat (half * q) (List.replicate q (zb 64)))) S ∧ ∃ T, Chg T w w' ∧ ∀ k, k < w.heap.size → T k → w0.heap.size ≤ k ∧ ¬ S k) := by
  have H := Lib.hid (dj_size w0 w D d S h)
  have hle : half * q + q ≤ d.l.length := by
    have : half * q ≤ 1 * q := Nat.mul_le_mul_right _ hh
    omega
  have W := Lib.hid (dj_wipe_a w0 w D (half * q) q d S h hd (by omega) hle hq9 hm)
  rw [hlen, show 2 * q / 2 = q by omega] at H
  have e1 : ((half * q : Nat) : Int) = (half : Int) * q := by simp
  rw [e1] at W
  have hb : (0 : Int) ≤ (half : Int) * q := by omega
  have hb2 : (half : Int) * q ≤ 4096 := by rw [← e1]; have : half * q ≤ 1 * q := Nat.mul_le_mul_right _ hh; omega
  have hw : wrap64 ((half : Int) * q) = (half : Int) * q := by unfold wrap64; omega
  clear h hd hlen hm e1 hle
  go_enter Try.func86, Try.ntmps86
  go_wp2_with (first | (go_at_call 84; refine H.out.mono ?_; rintro e w' ⟨rfl, rfl⟩))
  refine W.out.mono ?_
  rintro e w1 (⟨rfl, h1⟩ | ⟨rfl, h1⟩)
  · go_wp2_with fail
    go_ret
    exact .inl ⟨rfl, h1⟩
  · go_wp2_with fail
    go_ret
    exact .inr ⟨rfl, h1⟩
set_option maxRecDepth 100000 in
set_option maxHeartbeats 1000000 in
theorem vbegin_a (w0 w : World) (D : Nat) (d : Dev) (S : Nat → Prop) (half t q : Nat) (v : Value) (l : List UInt8) (h : DJ w0 w D d S) (hh : half ≤ 1) (hv : RBz w v l) (hd : d.down = false) (hlen : d.l.length = 2 * q) (hq4 : 4 ≤ q) (hq1 : q ≤ 4096) (hq9 : d.left ≤ 1000000) (hl : l.length ≤ 600)
    (hfit : costN l.length ≤ q) (ht : t < 4294967296) (h0 : t ≠ 0) (hm : d.waits.length ≤ 900000) :
    Calls Try.prog 87 #[.pointer (some ⟨D, 0, none⟩), .int .i64 half, .int .u32 t, v] w fun e w' =>
      (∃ J, e = .returned (.tuple #[.pointer (some ⟨J, 0, none⟩), .int .i64 0]) ∧ Alive d (costN l.length) ∧
        DJ w0 w' D (flushed d (wat (half * q) (recSecs t 0 l))) (fun k => S k ∨ k = J) ∧ JIs w' J D (half * q) q t (costN l.length) ∧ w.heap.size ≤ J ∧
        ∃ T, Chg T w w' ∧ ∀ k, k < w.heap.size → T k → w0.heap.size ≤ k ∧ ¬ S k) ∨
      (e = .returned (.tuple #[.pointer none, .int .i64 13]) ∧ d.left ≠ 0 ∧ DJ w0 w' D (crashed d (wat (half * q) (recSecs t 0 l))) S ∧ ∃ T, Chg T w w' ∧ ∀ k, k < w.heap.size → T k → w0.heap.size ≤ k ∧ ¬ S k) := by
  obtain ⟨va, vc, rfl⟩ := hv.form
  have SZ := Lib.hid (dj_size w0 w D d S h)
  have hle : half * q + q ≤ d.l.length := by
    have : half * q ≤ 1 * q := Nat.mul_le_mul_right _ hh
    omega
  rw [hlen, show 2 * q / 2 = q by omega] at SZ
  have NJ := Lib.hid (dj_newj w0 w D d S h (half * q) q t h0 (by omega) hle)
  have CJ : Hid (∀ (w1 : World) (J : Nat), DJ w0 w1 D d (fun k => S k ∨ k = J) → JIs w1 J D (half * q) q t 0 → RBz w1 (.slice va l.length vc) l → _) := fun w1 J a b c => dj_commit_a w0 w1 J D (half * q) q t 0 d (fun k => S k ∨ k = J) _ l a b (.inr rfl) c hd hle hl (by omega) ht h0 hq9 hm
  have HV := Lib.hid hv
  have HS := Lib.hid h.2.1
  have e1 : ((half * q : Nat) : Int) = (half : Int) * q := by simp
  rw [e1] at NJ
  have hb : (0 : Int) ≤ (half : Int) * q := by omega
  have hb2 : (half : Int) * q ≤ 4096 := by rw [← e1]; have : half * q ≤ 1 * q := Nat.mul_le_mul_right _ hh; omega
  have hw : wrap64 ((half : Int) * q) = (half : Int) * q := by unfold wrap64; omega
  clear h hd hlen hm e1 hle hv hfit
  go_enter Try.func87, Try.ntmps87
  go_wp2_with (first | (go_at_call 84; refine SZ.out.mono ?_; rintro e w' ⟨rfl, rfl⟩))
  refine NJ.out.mono ?_
  rintro e w1 ⟨J, rfl, h1, j1, z1, c1⟩
  have CC := Lib.hid (CJ.out w1 J h1 j1 (HV.out.same c1))
  have C1 := Lib.hid c1
  have Z1 := Lib.hid z1
  clear h1 j1 z1 c1
  go_wp2_with fail
  refine CC.out.mono ?_
  rintro e w2 (⟨rfl, hal, h2, j2, T2, c2, t2⟩ | ⟨rfl, hal, h2, T2, c2, t2⟩)
  rotate_left
  · have H2 := Lib.hid h2
    have C2 := Lib.hid c2
    have T2' := Lib.hid t2
    clear h2 c2 t2
    go_wp2_with fail
    go_ret2
    have hz := C1.out.size
    refine .inr ⟨rfl, hal, H2.out.less (fun k hk => .inl hk), T2, (C1.out.mono (fun _ _ h => h.elim)).trans C2.out, fun k hk ht => ?_⟩
    obtain ⟨g1, g2⟩ := T2'.out k (by omega) ht
    exact ⟨g1, fun hs => g2 (.inl hs)⟩
  rw [Nat.add_zero] at h2
  rw [Nat.zero_add] at j2
  have H2 := Lib.hid h2
  have J2 := Lib.hid j2
  have C2 := Lib.hid c2
  have T2' := Lib.hid t2
  clear h2 j2 c2 t2
  go_wp2_with fail
  go_ret2
  have hz := C1.out.size
  refine .inl ⟨J, rfl, hal, H2.out, J2.out, Z1.out, T2, (C1.out.mono (fun _ _ h => h.elim)).trans C2.out, fun k hk ht => ?_⟩
  obtain ⟨g1, g2⟩ := T2'.out k (by omega) ht
  exact ⟨g1, fun hs => by have := g2 (.inl hs); have := Z1.out; omega⟩
end Go.Proofs.Ytjhkhdockiocgaa

/- vault.Commit, Seal on a device at which a crash may be armed (law level). -/
namespace Go.Proofs.Ytjhkhdockiocgaa
open Go.RowKit Go.Cat

/-- A vault's cells, whatever its journal. -/
def VCells (w : World) (V D half t : Nat) (jp : Value) : Prop := ∃ T, w.heap[V]? = some (.cells #[.pointer (some ⟨D, 0, none⟩), .int .i64 half, .int .u32 t, jp] T (0, 0))
theorem VCells.at {w : World} {V D half t : Nat} {jp : Value} (h : VCells w V D half t jp) (k : Nat) (v : Value) (hk : [Value.pointer (some ⟨D, 0, none⟩), .int .i64 half, .int .u32 t, jp][k]? = some v) : w.cell? ⟨V, k, none⟩ = some v := by
  obtain ⟨T, hb⟩ := h
  rw [cell_of_heap hb]
  simpa using hk
theorem VCells.kept {w w' : World} {V D half t : Nat} {jp : Value} (h : VCells w V D half t jp) {S : Nat → Prop} (c : Chg S w w') (hs : ¬ S V) : VCells w' V D half t jp := by
  obtain ⟨T, hb⟩ := h
  exact ⟨T, c.heap hb hs⟩
set_option maxRecDepth 100000 in
set_option maxHeartbeats 1000000 in
theorem vcommit_a (w0 w : World) (D V J q half t tot : Nat) (S : Nat → Prop) (d : Dev) (v : Value) (l : List UInt8) (h : DJ w0 w D d S) (hvis : VIs w V D half t J) (hji : JIs w J D (half * q) q t tot) (sV : S V) (sJ : S J) (ne : V ≠ J) (hv : RBz w v l) (hl : l.length ≤ 600) (hd : d.down = false) (hh : half ≤ 1) (hlen : d.l.length = 2 * q) (hw : d.waits = []) (hq9 : d.left ≤ 1000000) (hfit : tot + costN l.length ≤ q) (ht : t < 4294967296) (h0 : t ≠ 0) :
    Calls Try.prog 41 #[.pointer (some ⟨V, 0, none⟩), v] w fun e w' =>
      (e = .returned (.int .i64 0) ∧ DJ w0 w' D (flushed d (wat (half * q + tot) (recSecs t tot l))) S ∧ VIs w' V D half t J ∧ JIs w' J D (half * q) q t (tot + costN l.length) ∧ ∃ T, Chg T w w' ∧ ∀ k, k < w.heap.size → T k → w0.heap.size ≤ k ∧ (S k → k = J)) ∨
      (e = .returned (.int .i64 13) ∧ d.left ≠ 0 ∧ DJ w0 w' D (crashed d (wat (half * q + tot) (recSecs t tot l))) S ∧ ∃ T, Chg T w w' ∧ ∀ k, k < w.heap.size → T k → w0.heap.size ≤ k ∧ ¬ S k) := by
  obtain ⟨va, vc, rfl⟩ := hv.form
  have q3 := hvis.at 3 _ rfl
  have hle : half * q + q ≤ d.l.length := by
    have : half * q ≤ 1 * q := Nat.mul_le_mul_right _ hh
    omega
  have CM := Lib.hid (dj_commit_a w0 w J D (half * q) q t tot d S _ l h hji sJ hv hd hle hl hfit ht h0 hq9 (by rw [hw]; simp))
  have HVI := Lib.hid hvis
  clear h hv hvis hji hfit hw hlen hle
  go_enter Try.func41, Try.ntmps41
  go_wp2_with fail
  refine CM.out.mono ?_
  rintro e w1 (⟨rfl, _, h1, j1, T, c1, t1⟩ | ⟨rfl, hal, h1, T, c1, t1⟩)
  · have H1 := Lib.hid h1
    have J1 := Lib.hid j1
    have C1 := Lib.hid c1
    have T1 := Lib.hid t1
    clear h1 j1 c1 t1
    go_wp2_with fail
    go_ret
    refine .inl ⟨rfl, H1.out, ?_, J1.out, T, C1.out, T1.out⟩
    exact HVI.out.kept C1.out (fun ht => ne ((T1.out V (by obtain ⟨_, hb⟩ := HVI.out.heap; exact (Array.getElem?_eq_some_iff.1 hb).1) ht).2 sV))
  · have H1 := Lib.hid h1
    have C1 := Lib.hid c1
    have T1 := Lib.hid t1
    clear h1 c1 t1
    go_wp2_with fail
    go_ret
    exact .inr ⟨rfl, hal, H1.out, T, C1.out, T1.out⟩
/-- What Seal has written: the other half wiped; the image; the half that was wiped. -/
def wipeW (k q : Nat) : List (Nat × List UInt8) := wat (k * q) (List.replicate q (zb 64))
def imgW (k q t : Nat) (l : List UInt8) : List (Nat × List UInt8) := wat (k * q) (recSecs t 0 l)
theorem flushed_len {d : Dev} {b : Nat} {xs : List (List UInt8)} (hw : d.waits = []) (h : b + xs.length ≤ d.l.length) : (flushed d (wat b xs)).l.length = d.l.length := by
  show (flushTo d.l (d.waits ++ wat b xs)).length = _
  rw [hw, List.nil_append, (flushTo_wat xs d.l b h).1]
set_option maxRecDepth 100000 in
set_option maxHeartbeats 2000000 in
theorem vseal_a (w0 w : World) (D V q half t T0 : Nat) (jp : Value) (S : Nat → Prop) (d : Dev) (v : Value) (l : List UInt8) (hdj0 : DJ w0 w D d S) (hvc : VCells w V D half t jp) (sV : S V) (hh : half ≤ 1) (hv : RBz w v l) (hvS : (l = [] ∧ ∃ a, v = .slice a 0 0) ∨ ∀ k, v.ownBlock = some k → k < w0.heap.size ∨ S k) (hl : l.length ≤ 600) (hfit : costN l.length ≤ q) (hd : d.down = false) (hlen : d.l.length = 2 * q) (hwt : d.waits = []) (hq9 : d.left ≤ 1000000) (hX : KnownAll d.l) (hmx : maxT d.l = T0) (hT0 : T0 < 1000000) (hq : 4 ≤ q) (hq2 : q ≤ 4096) :
    Calls Try.prog 42 #[.pointer (some ⟨V, 0, none⟩), v] w fun e w' =>
      (e = .returned (.int .i64 0) ∧ (∃ J', DJ w0 w' D (flushed (flushed (flushed d (wipeW (1 - half) q)) (imgW (1 - half) q (T0 + 1) l)) (wipeW half q)) (fun k => S k ∨ k = J') ∧ VIs w' V D (1 - half) (T0 + 1) J' ∧ JIs w' J' D ((1 - half) * q) q (T0 + 1) (costN l.length) ∧ V ≠ J' ∧ w.heap.size ≤ J') ∧
        ∃ T, Chg T w w' ∧ ∀ k, k < w.heap.size → T k → w0.heap.size ≤ k ∧ (S k → k = V)) ∨
      (e = .returned (.int .i64 13) ∧ d.left ≠ 0 ∧ (∃ d', (d' = crashed d (wipeW (1 - half) q) ∨ d' = crashed (flushed d (wipeW (1 - half) q)) (imgW (1 - half) q (T0 + 1) l) ∨ d' = crashed (flushed (flushed d (wipeW (1 - half) q)) (imgW (1 - half) q (T0 + 1) l)) (wipeW half q)) ∧ ∃ S' : Nat → Prop, (∀ k, S k → S' k) ∧ DJ w0 w' D d' S') ∧
        ∃ T, Chg T w w' ∧ ∀ k, k < w.heap.size → T k → w0.heap.size ≤ k ∧ (S k → k = V)) := by
  obtain ⟨va, vc, rfl⟩ := hv.form
  have hdiv : d.l.length / 2 = q := by omega
  have q0 := hvc.at 0 _ rfl
  have q1 := hvc.at 1 _ rfl
  have hCc := costN_le hl
  have CO : Hid (∀ w, Calls Try.prog 37 #[.int .i64 l.length] w fun e w' => e = .returned (.int .i64 (costN l.length)) ∧ w = w') := fun w => cost_any _ w (by omega)
  have SZ : Hid (∀ n, Calls Try.prog 84 #[.pointer (some ⟨D, 0, none⟩)] (w.drewN n) fun e w' => e = .returned (.int .i64 q) ∧ w.drewN n = w') := fun n => by
    have := dj_size w0 (w.drewN n) D d S (hdj0.same ((Chg.refl _ w).drewN n))
    rw [hdiv] at this
    exact this
  obtain ⟨c, hc⟩ : ∃ c, c = costN l.length := ⟨_, rfl⟩
  have HCN := Lib.hid hc
  rw [← hc] at CO hfit hCc
  have HVS := Lib.hid hvS
  have HDJ0 := Lib.hid hdj0
  have HVC := Lib.hid hvc
  have HDN := Lib.hid hd
  have HWT := Lib.hid hwt
  have HKN := Lib.hid hX
  have HSV := Lib.hid sV
  have HRB := Lib.hid hv
  have HL := Lib.hid hl
  have HLEN := Lib.hid hlen
  have HDIV := Lib.hid hdiv
  have HMX := Lib.hid hmx
  have i1 : ¬ (q : Int) < c := by omega
  clear hdj0 hvc hd hwt hX sV hv hvS hl hlen hdiv hc hmx
  go_enter Try.func42, Try.ntmps42
  go_wp2_with fail
  go_quiet (first | ((go_at_call 37; refine Calls.quiet_of ((CO.out _).mono (fun e w' h => ⟨h.1, 0, h.2.symm⟩)))) | ((go_at_call 84; refine Calls.quiet_of ((SZ.out _).mono (fun e w' h => ⟨h.1, 0, h.2.symm⟩)))))
  have cq : Chg (fun _ => False) w (w.drewN nq) := (Chg.refl _ w).drewN nq
  generalize w.drewN nq = wa at cq ⊢
  have hdj := HDJ0.out.same cq
  have hvi := HVC.out.kept cq (fun h => h)
  have NX := Lib.hid (dj_vnext w0 wa D d S hdj HDN.out (by have := HLEN.out; omega) HWT.out HKN.out (by rw [HMX.out]; omega))
  rw [HMX.out] at NX
  have e1 : ((T0 + 1 : Nat) : Int) = (T0 : Int) + 1 := by omega
  rw [e1] at NX
  have HDJ := Lib.hid hdj
  have HVI := Lib.hid hvi
  have HRA := Lib.hid (HRB.out.same cq)
  have CQ := Lib.hid cq
  have q0 := hvi.at 0 _ rfl
  have q1 := hvi.at 1 _ rfl
  clear SZ CO cq hdj hvi i1
  go_wp2_with fail
  refine NX.out.mono ?_
  rintro e w1 ⟨rfl, c1⟩
  have HVI1 := Lib.hid (HVI.out.kept c1 (fun h => h))
  have HDJ1 := Lib.hid (HDJ.out.same c1)
  have C1 := Lib.hid (CQ.out.trans c1)
  have HR1 := Lib.hid (HRA.out.same c1)
  have q0 := HVI1.out.at 0 _ rfl
  have q1 := HVI1.out.at 1 _ rfl
  obtain ⟨o, ho⟩ : ∃ o, o = 1 - half := ⟨_, rfl⟩
  have hoi : (1 : Int) - (half : Int) = (o : Int) := by omega
  have ho1 : o ≤ 1 := by omega
  have HO := Lib.hid ho
  have HOI : Hid ((1 : Int) - (half : Int) = (o : Int)) := hoi
  have WP := Lib.hid (dj_vwipe_a w0 w1 D d S o q ho1 HDJ1.out HDN.out HLEN.out hq hq2 hq9 (by rw [HWT.out]; simp))
  clear c1 NX hoi ho
  go_wp2_with fail
  rw [HOI.out]
  refine WP.out.mono ?_
  rintro e w2 (⟨rfl, _, h2, T2, c2, t2⟩ | ⟨rfl, hal, h2, T2, c2, t2⟩)
  rotate_left
  · have H2 := Lib.hid h2
    have C2 := Lib.hid c2
    have T2' := Lib.hid t2
    clear h2 c2 t2
    go_wp2_with fail
    go_ret
    have hz1 := C1.out.size
    exact .inr ⟨rfl, hal, ⟨_, .inl (by rw [← HO.out]; rfl), S, fun _ h => h, H2.out⟩, T2, (C1.out.mono (fun _ _ h => h.elim)).trans C2.out, fun k hk ht => by
      obtain ⟨g1, g2⟩ := T2'.out k (by omega) ht
      exact ⟨g1, fun hs => absurd hs g2⟩⟩
  obtain ⟨d1, hd1⟩ : ∃ d1, d1 = flushed d (wat (o * q) (List.replicate q (zb 64))) := ⟨_, rfl⟩
  rw [← hd1] at h2
  have hd1d : d1.down = false := by rw [hd1]; exact HDN.out
  have hd1w : d1.waits = [] := by rw [hd1]; rfl
  have hd1l : d1.left ≤ d.left := by rw [hd1]; exact Nat.sub_le _ _
  have hoq : o * q + q ≤ 2 * q := by have : o * q ≤ 1 * q := Nat.mul_le_mul_right _ ho1; omega
  have hn1 : d1.l.length = 2 * q := by rw [hd1, flushed_len HWT.out (by rw [List.length_replicate, HLEN.out]; exact hoq), HLEN.out]
  have hVl : ∀ (W : World), w1.heap.size ≤ W.heap.size → V < W.heap.size := fun W hz => by have := (HDJ1.out.2.1 V HSV.out).2; omega
  have hvi2 := HVI1.out.kept c2 (fun ht => (t2 V (hVl w1 (Nat.le_refl _)) ht).2 HSV.out)
  have hr2 : RBz w2 (.slice va l.length vc) l := by
    rcases HVS.out with hzz | hvs
    · exact .inr hzz
    rcases HR1.out with hr | hr
    · refine .inl (hr.kept c2 (fun k hk ht => ?_))
      have hkl := hr.lt' k hk
      obtain ⟨g1, g2⟩ := t2 k hkl ht
      rcases hvs k hk with h | h
      · omega
      · exact g2 h
    · exact .inr hr
  have BG := Lib.hid (vbegin_a w0 w2 D d1 S o (T0 + 1) q (.slice va l.length vc) l h2 ho1 hr2 hd1d hn1 hq hq2 (by omega) HL.out (by rw [← HCN.out]; omega) (by omega) (by omega) (by rw [hd1w]; simp))
  rw [e1] at BG
  have HD1 := Lib.hid hd1
  have HD1D := Lib.hid hd1d
  have HD1W := Lib.hid hd1w
  have HN1 := Lib.hid hn1
  have HVI2 := Lib.hid hvi2
  have C2 := Lib.hid c2
  have T2' := Lib.hid t2
  have q0 := hvi2.at 0 _ rfl
  have q1 := hvi2.at 1 _ rfl
  clear h2 c2 t2 hd1 hd1d hd1w hvi2
  go_wp2_with fail
  refine BG.out.mono ?_
  rintro e w3 (⟨J', rfl, _, h3, j3, z3, T3, c3, t3⟩ | ⟨rfl, hal, h3, T3, c3, t3⟩)
  rotate_left
  · have H3 := Lib.hid h3
    have C3 := Lib.hid c3
    have T3' := Lib.hid t3
    clear h3 c3 t3 BG
    go_wp2_with fail
    go_ret
    have hz1 := C1.out.size
    have hz2 := C2.out.size
    refine .inr ⟨rfl, by omega, ⟨_, .inr (.inl (by rw [HD1.out, HO.out]; rfl)), S, fun _ h => h, H3.out⟩, fun k => T2 k ∨ T3 k, ((C1.out.mono (fun _ _ h => h.elim)).trans (C2.out.mono (fun _ _ h => .inl h))).trans (C3.out.mono (fun _ _ h => .inr h)), fun k hk ht => ?_⟩
    rcases ht with ht | ht
    · obtain ⟨g1, g2⟩ := T2'.out k (by omega) ht
      exact ⟨g1, fun hs => absurd hs g2⟩
    · obtain ⟨g1, g2⟩ := T3'.out k (by omega) ht
      exact ⟨g1, fun hs => absurd hs g2⟩
  obtain ⟨d2, hd2⟩ : ∃ d2, d2 = flushed d1 (wat (o * q) (recSecs (T0 + 1) 0 l)) := ⟨_, rfl⟩
  rw [← hd2] at h3
  have hd2d : d2.down = false := by rw [hd2]; exact HD1D.out
  have hd2w : d2.waits = [] := by rw [hd2]; rfl
  have hd2l : d2.left ≤ d1.left := by rw [hd2]; exact Nat.sub_le _ _
  have hn2 : d2.l.length = 2 * q := by rw [hd2, flushed_len HD1W.out (by rw [recSecs_length, HN1.out, ← HCN.out]; omega), HN1.out]
  have hVd := HDJ1.out.2.1 V HSV.out
  have hz2 := C2.out.size
  have hvi3 := HVI2.out.kept c3 (fun ht => (t3 V (by omega) ht).2 HSV.out)
  obtain ⟨TV, hb3⟩ := hvi3
  have hvi3 : VCells w3 V D half t jp := ⟨TV, hb3⟩
  have q0 := hvi3.at 0 _ rfl
  have q1 := hvi3.at 1 _ rfl
  have q2 := hvi3.at 2 _ rfl
  have q3 := hvi3.at 3 _ rfl
  have f1 : w3.frozen? ⟨V, 1, none⟩ = false := frozen_of_heap hb3 1
  have f2 : w3.frozen? ⟨V, 2, none⟩ = false := frozen_of_heap hb3 2
  have f3 : w3.frozen? ⟨V, 3, none⟩ = false := frozen_of_heap hb3 3
  obtain ⟨w4, hw4⟩ : ∃ w4, w4 = ((w3.setCell ⟨V, 1, none⟩ (.int .i64 o)).setCell ⟨V, 2, none⟩ (.int .u32 ((T0 : Int) + 1))).setCell ⟨V, 3, none⟩ (.pointer (some ⟨J', 0, none⟩)) := ⟨_, rfl⟩
  have c34 : Chg (fun k => k = V) w3 w4 := by
    rw [hw4]
    exact Chg.setCell (S := fun k => k = V) (Chg.setCell (S := fun k => k = V) (Chg.setCell (S := fun k => k = V) (Chg.refl _ w3) (p := ⟨V, 1, none⟩) (fun _ => rfl) _) (p := ⟨V, 2, none⟩) (fun _ => rfl) _) (p := ⟨V, 3, none⟩) (fun _ => rfl) _
  have hb4 := Cat.heap_setCell_same (Cat.heap_setCell_same (Cat.heap_setCell_same hb3 1 (.int .i64 o)) 2 (.int .u32 ((T0 : Int) + 1))) 3 (.pointer (some ⟨J', 0, none⟩))
  rw [← hw4] at hb4
  have hvi4 : VIs w4 V D o (T0 + 1) J' := ⟨TV, hb4⟩
  have hne4 : V ≠ J' := by omega
  have j4 := j3.kept c34 (fun h => hne4 h.symm)
  have h4 : DJ w0 w4 D d2 (fun k => S k ∨ k = J') := h3.kept c34 (fun k _ hk => .inl (by have e : k = V := hk; rw [e]; exact HSV.out)) (fun k hk => .inl hk)
  have WP2 := Lib.hid (dj_vwipe_a w0 w4 D d2 (fun k => S k ∨ k = J') half q hh h4 hd2d hn2 hq hq2 (by omega) (by rw [hd2w]; simp))
  have HD2 := Lib.hid hd2
  have HVI4 := Lib.hid hvi4
  have J4 := Lib.hid j4
  have HB4 := Lib.hid hb4
  have C34 := Lib.hid c34
  have C3 := Lib.hid c3
  have T3' := Lib.hid t3
  have HW4 := Lib.hid hw4
  have Z3 := Lib.hid z3
  clear hb3 hd2 hd2d hd2w hvi3 hb4 c34 hvi4 j4 h4 h3 j3 z3 c3 t3 hw4 BG
  go_wp2_with fail
  rw [← HW4.out]
  refine WP2.out.mono ?_
  rintro e w5 (⟨rfl, _, h5, T5, c5, t5⟩ | ⟨rfl, hal, h5, T5, c5, t5⟩)
  · have H5 := Lib.hid h5
    have C5 := Lib.hid c5
    have T5' := Lib.hid t5
    clear h5 c5 t5
    go_wp2_with fail
    go_ret
    have hz1 := C1.out.size
    have hz2 := C2.out.size
    have hz3 := C3.out.size
    have hz4 := C34.out.size
    have hJ4 := J4.out.lt
    have hch : Chg (fun k => T2 k ∨ T3 k ∨ k = V ∨ T5 k) w w5 := ((((C1.out.mono (fun _ _ h => h.elim)).trans (C2.out.mono (fun _ _ h => .inl h))).trans (C3.out.mono (fun _ _ h => .inr (.inl h)))).trans (C34.out.mono (fun _ _ h => .inr (.inr (.inl h))))).trans (C5.out.mono (fun _ _ h => .inr (.inr (.inr h))))
    have hTT : ∀ k, k < w.heap.size → (T2 k ∨ T3 k ∨ k = V ∨ T5 k) → w0.heap.size ≤ k ∧ (S k → k = V) := fun k hk ht => by
      rcases ht with ht | ht | ht | ht
      · obtain ⟨g1, g2⟩ := T2'.out k (by omega) ht
        exact ⟨g1, fun hs => absurd hs g2⟩
      · obtain ⟨g1, g2⟩ := T3'.out k (by omega) ht
        exact ⟨g1, fun hs => absurd hs g2⟩
      · exact ⟨by rw [ht]; exact hVd.1, fun _ => ht⟩
      · obtain ⟨g1, g2⟩ := T5'.out k (by omega) ht
        exact ⟨g1, fun hs => absurd (.inl hs) g2⟩
    have hVI5 := HVI4.out.kept C5.out (fun ht => (T5'.out V (by omega) ht).2 (.inl HSV.out))
    have hJI5 := J4.out.kept C5.out (fun ht => (T5'.out J' hJ4 ht).2 (.inr rfl))
    refine .inl ⟨rfl, ⟨J', ?_, by rw [← HO.out]; exact hVI5, by rw [← HO.out]; exact hJI5, hne4, by have := Z3.out; omega⟩, _, hch, hTT⟩
    have h5 := H5.out
    rw [HD2.out, HD1.out, HO.out] at h5
    exact h5
  · have H5 := Lib.hid h5
    have C5 := Lib.hid c5
    have T5' := Lib.hid t5
    clear h5 c5 t5
    go_wp2_with fail
    go_ret
    have hz1 := C1.out.size
    have hz2 := C2.out.size
    have hz3 := C3.out.size
    have hz4 := C34.out.size
    have hJ4 := J4.out.lt
    have hch : Chg (fun k => T2 k ∨ T3 k ∨ k = V ∨ T5 k) w w5 := ((((C1.out.mono (fun _ _ h => h.elim)).trans (C2.out.mono (fun _ _ h => .inl h))).trans (C3.out.mono (fun _ _ h => .inr (.inl h)))).trans (C34.out.mono (fun _ _ h => .inr (.inr (.inl h))))).trans (C5.out.mono (fun _ _ h => .inr (.inr (.inr h))))
    have hTT : ∀ k, k < w.heap.size → (T2 k ∨ T3 k ∨ k = V ∨ T5 k) → w0.heap.size ≤ k ∧ (S k → k = V) := fun k hk ht => by
      rcases ht with ht | ht | ht | ht
      · obtain ⟨g1, g2⟩ := T2'.out k (by omega) ht
        exact ⟨g1, fun hs => absurd hs g2⟩
      · obtain ⟨g1, g2⟩ := T3'.out k (by omega) ht
        exact ⟨g1, fun hs => absurd hs g2⟩
      · exact ⟨by rw [ht]; exact hVd.1, fun _ => ht⟩
      · obtain ⟨g1, g2⟩ := T5'.out k (by omega) ht
        exact ⟨g1, fun hs => absurd (.inl hs) g2⟩
    refine .inr ⟨rfl, by omega, ⟨_, .inr (.inr ?_), fun k => S k ∨ k = J', fun _ h => .inl h, H5.out⟩, _, hch, hTT⟩
    rw [HD2.out, HD1.out, HO.out]; rfl
end Go.Proofs.Ytjhkhdockiocgaa

/- vault.Open of any device whose sectors are known (law level). -/
namespace Go.Proofs.Ytjhkhdockiocgaa
open Go.RowKit Go.Cat

/-- A half's sectors; what they tell; their turn. -/
def halfX (l : List (List UInt8)) (q k : Nat) : List (List UInt8) := readOf l [] (k * q) q
noncomputable def halfTurn (l : List (List UInt8)) (q k : Nat) : Nat := turnB ((halfX l q k).headD [])
def halfRec (l : List (List UInt8)) (q k : Nat) (out : List (List UInt8)) : Prop := Recs (halfTurn l q k) (halfX l q k) out
/-- What Open holds behind so many halves. -/
inductive Stage (R : Nat → List (List UInt8) → Prop) (tk : Nat → Nat) : Nat → Nat → Nat → List (List UInt8) → Prop
  | zero : Stage R tk 0 0 0 []
  | take {k bh bt : Nat} {al out : List (List UInt8)} : Stage R tk k bh bt al → R k out → out ≠ [] → bt < tk k → Stage R tk (k + 1) k (tk k) out
  | leave {k bh bt : Nat} {al out : List (List UInt8)} : Stage R tk k bh bt al → R k out → (out = [] ∨ ¬ bt < tk k) → Stage R tk (k + 1) bh bt al
def OpenG (R : Nat → List (List UInt8) → Prop) (tk : Nat → Nat) (wr : World) (B D k : Nat) (av : Value) : Prop :=
  ∃ bh bt al T, wr.heap[B]? = some (.cells #[.pointer (some ⟨D, 0, none⟩), .int .i64 (bh : Nat), .int .u32 (bt : Nat), .pointer none] T (0, 0)) ∧ ((al = [] ∧ av = .slice none 0 0) ∨ (al ≠ [] ∧ ∃ F, OutsF wr F av al ∧ ∀ a, F a → B < a)) ∧ Stage R tk k bh bt al
theorem halfX_len {l : List (List UInt8)} {q k : Nat} (hN : l.length = 2 * q) (hk : k ≤ 1) : (halfX l q k).length = q := by
  have : k * q ≤ 1 * q := Nat.mul_le_mul_right _ hk
  unfold halfX
  rw [readOf_nil, List.length_take, List.length_drop]; omega
theorem halfX_known {l : List (List UInt8)} {q k : Nat} (h : KnownAll l) : KnownAll (halfX l q k) := fun x hx => by
  unfold halfX at hx
  rw [readOf_nil] at hx
  exact h x (List.mem_of_mem_drop (List.mem_of_mem_take hx))
theorem vread_g (w0 w : World) (D q : Nat) (S : Nat → Prop) (d : Dev) (hdj : DJ w0 w D d S) (hd : d.down = false) (hN : d.l.length = 2 * q) (hwt : d.waits = []) (hX : KnownAll d.l) (hq : 1 ≤ q) (k : Nat) (hk : k ≤ 1) :
    Calls Try.prog 30 #[.pointer (some ⟨D, 0, none⟩), .int .i64 ((k : Int) * q), .int .i64 q] w fun e w' => ∃ (v' : Value) (F : Nat → Prop) (l : List (List UInt8)), e = .returned (.tuple #[v', .int .u32 (halfTurn d.l q k), .int .i64 0]) ∧ halfRec d.l q k l ∧ OutsF w' F v' l ∧ (∀ a, F a → w.heap.size ≤ a) ∧ Chg (fun _ => False) w w' := by
  have hkq : k * q ≤ 1 * q := Nat.mul_le_mul_right _ hk
  have := dj_read w0 w D (k * q) q d S hdj hd hq (by omega) (by rw [hwt]; simp) (halfX d.l q k) (by rw [hwt]; rfl) (halfX_known hX) (halfX_len hN hk)
  rw [show ((k * q : Nat) : Int) = (k : Int) * q by simp] at this
  refine this.mono ?_
  rintro e w' ⟨v', out, F, rfl, g1, g2, g3, _, c⟩
  exact ⟨v', F, out, rfl, g3, g1, g2, c⟩
set_option maxRecDepth 100000 in
set_option maxHeartbeats 4000000 in
theorem vopen_g (w0 w : World) (D q : Nat) (S : Nat → Prop) (d : Dev) (hdj : DJ w0 w D d S) (hd : d.down = false) (hN : d.l.length = 2 * q) (hwt : d.waits = []) (hX : KnownAll d.l) (hq : 4 ≤ q) (hq2 : q ≤ 4096) (hne : ∀ bh bt al, Stage (halfRec d.l q) (halfTurn d.l q) 2 bh bt al → al ≠ []) :
    Calls Try.prog 47 #[.pointer (some ⟨D, 0, none⟩)] w fun e w' => ∃ iv cv bh bt r rs, e = .returned (.tuple #[.pointer (some ⟨w.heap.size, 0, none⟩), iv, cv, .int .i64 0]) ∧ Stage (halfRec d.l q) (halfTurn d.l q) 2 bh bt (r :: rs) ∧ VCells w' w.heap.size D bh bt (.pointer none) ∧ RBz w' iv r ∧ RBs w' cv rs ∧ Chg (fun _ => False) w w' := by
  have VC := Lib.hid (dj_vcheck w0 w D d S hdj hd (by omega))
  have SZ : Hid (∀ w', Chg (fun _ => False) w w' → Calls Try.prog 84 #[.pointer (some ⟨D, 0, none⟩)] w' fun e w'' => e = .returned (.int .i64 q) ∧ w' = w'') := fun w' c => by
    have := dj_size w0 w' D d S (hdj.same c)
    rw [hN, show 2 * q / 2 = q by omega] at this
    exact this
  have RD : Hid (∀ w', Chg (fun _ => False) w w' → ∀ k, k ≤ 1 → _) := fun w' c k hk => vread_g w0 w' D q S d (hdj.same c) hd hN hwt hX (by omega) k hk
  have HNE := Lib.hid hne
  clear hdj hN hd hwt hX hne
  go_enter Try.func47, Try.ntmps47
  go_wp2_with (first | (go_at_call 83; refine VC.out.mono ?_; rintro e w' ⟨rfl, rfl⟩))
  have ca : Chg (fun _ => False) w (w.alloc (.cells #[.pointer (some ⟨D, 0, none⟩), .int .i64 0, .int .u32 0, .pointer none] 152)) := (Chg.refl _ w).alloc _
  have hB0 := heap_at_new w (.cells #[.pointer (some ⟨D, 0, none⟩), .int .i64 0, .int .u32 0, .pointer none] 152) _ rfl
  have CA := Lib.hid ca
  have HB0 := Lib.hid hB0
  clear ca hB0 VC
  go_loopw [8, 21] (fun av i wr => ∃ k : Nat, k ≤ 2 ∧ i = .int .i64 k ∧ Hid (OpenG (halfRec d.l q) (halfTurn d.l q) wr w.heap.size D k av) ∧ Hid (Chg (fun _ => False) w wr)) (fun _ i _ => 2 - (intOf i).toNat)
  case atStart => exact ⟨0, by omega, rfl, ⟨0, 0, [], _, HB0.out, .inl ⟨rfl, rfl⟩, .zero⟩, CA.out⟩
  case round =>
    obtain ⟨k, hk, rfl, hO, hC⟩ := hrel
    obtain ⟨bh, bt, al, TB, hb, hcase, hst⟩ := hO.out
    have HST := Lib.hid hst
    clear hst
    have HB := Lib.hid hb
    have HCS := Lib.hid hcase
    have hBl := (Array.getElem?_eq_some_iff.1 hb).1
    clear hb hcase
    by_cases hlt : k < 2
    · have hkI : (k : Int) < 2 := by omega
      have S1 := Lib.hid (SZ.out wr hC.out)
      have R1 := Lib.hid (RD.out wr hC.out k (by omega))
      have hkq : k * q ≤ 1 * q := Nat.mul_le_mul_right _ (by omega)
      have hb1 : (0 : Int) ≤ (k : Int) * q := by rw [← Int.natCast_mul]; omega
      have hb2 : (k : Int) * q ≤ 4096 := by rw [← Int.natCast_mul]; omega
      have hw : wrap64 ((k : Int) * q) = (k : Int) * q := by unfold wrap64; omega
      clear hkq
      go_wp2_with (first | (go_at_call 84; refine S1.out.mono ?_; rintro e w' ⟨rfl, rfl⟩))
      refine R1.out.mono ?_
      rintro e w1 ⟨v', F, l, rfl, hrc, ho, hF, c1⟩
      have HB1 := Lib.hid (c1.heap HB.out (fun h => h))
      have b1 : w1.cell? ⟨w.heap.size, 1, none⟩ = some (.int .i64 bh) := by rw [cell_of_heap HB1.out]; rfl
      have b2 : w1.cell? ⟨w.heap.size, 2, none⟩ = some (.int .u32 bt) := by rw [cell_of_heap HB1.out]; rfl
      have f1 : w1.frozen? ⟨w.heap.size, 1, none⟩ = false := frozen_of_heap HB1.out 1
      have f2 : w1.frozen? ⟨w.heap.size, 2, none⟩ = false := frozen_of_heap HB1.out 2
      have C1 := Lib.hid c1
      have HF := Lib.hid hF
      have HOU := Lib.hid ho
      have HRC := Lib.hid hrc
      clear c1 hF hrc
      obtain ⟨va, vc, rfl⟩ := ho.form
      clear ho
      obtain ⟨tt, htt⟩ : ∃ tt, tt = halfTurn d.l q k := ⟨_, rfl⟩
      rw [← htt]
      have HTT := Lib.hid htt
      clear htt
      have leave : (l = [] ∨ ¬ bt < tt) → Hid (OpenG (halfRec d.l q) (halfTurn d.l q) w1 w.heap.size D (k + 1) u8) := fun hor => by
        refine ⟨bh, bt, al, TB, HB1.out, ?_, .leave HST.out HRC.out (by rw [← HTT.out]; exact hor)⟩
        rcases HCS.out with ⟨h1, h2⟩ | ⟨h1, F2, h4, h5⟩
        · exact .inl ⟨h1, h2⟩
        · exact .inr ⟨h1, F2, h4.kept C1.out (fun _ _ h => h), h5⟩
      have LV := Lib.hid leave
      clear leave
      by_cases hl0 : l = []
      · have LV1 := LV.out (.inl hl0)
        subst hl0
        clear HF HOU LV
        go_wp2_with fail
        exact ⟨⟨k + 1, by omega, rfl, LV1, hC.out.trans C1.out⟩, by simp only [intOf]; omega⟩
      · have hlI : (0 : Int) < l.length := by have := List.length_pos_iff.2 hl0; omega
        have HL0 := Lib.hid hl0
        clear hl0
        by_cases hbt : bt < tt
        · have hbI : (bt : Int) < tt := by omega
          have HBT := Lib.hid hbt
          clear hbt
          go_wp2_with fail
          have cS : Chg (fun a => a = w.heap.size) w1 ((w1.setCell ⟨w.heap.size, 1, none⟩ (.int .i64 k)).setCell ⟨w.heap.size, 2, none⟩ (.int .u32 tt)) := Chg.setCell (S := fun a => a = w.heap.size) (Chg.setCell (S := fun a => a = w.heap.size) (Chg.refl _ w1) (p := ⟨w.heap.size, 1, none⟩) (fun _ => rfl) _) (p := ⟨w.heap.size, 2, none⟩) (fun _ => rfl) _
          have hb' := Cat.heap_setCell_same (Cat.heap_setCell_same HB1.out 1 (.int .i64 k)) 2 (.int .u32 tt)
          exact ⟨⟨k + 1, by omega, rfl, ⟨k, tt, l, TB, hb', .inr ⟨HL0.out, F, HOU.out.kept cS (fun a ha e => by have := HF.out a ha; have e : a = w.heap.size := e; omega), fun a ha => by have := HF.out a ha; omega⟩, by rw [HTT.out]; exact .take HST.out HRC.out HL0.out (by rw [← HTT.out]; exact HBT.out)⟩, (hC.out.trans C1.out).new cS (fun a ha => by have e : a = w.heap.size := ha; omega)⟩, by simp only [intOf]; omega⟩
        · have hbI : ¬ (bt : Int) < tt := by omega
          have HBT := Lib.hid hbt
          clear hbt
          go_wp2_with fail
          exact ⟨⟨k + 1, by omega, rfl, LV.out (.inr HBT.out), hC.out.trans C1.out⟩, by simp only [intOf]; omega⟩
    · obtain rfl : k = 2 := by omega
      have hne := HNE.out _ _ _ HST.out
      obtain ⟨F, hav⟩ : ∃ F, OutsF wr F u8 al := by
        rcases HCS.out with ⟨h1, _⟩ | ⟨_, F, h4, _⟩
        · exact absurd h1 hne
        · exact ⟨F, h4⟩
      obtain ⟨r, rs, hdr⟩ := List.exists_cons_of_ne_nil hne
      clear hne
      obtain ⟨va, vc, rfl⟩ := hav.form
      have hrb := hav.rbs
      have hdl : al.length = rs.length + 1 := by rw [hdr]; rfl
      obtain ⟨g, o, uu, uc, rfl, q1, z1⟩ := hrb.at_ 0 r (by rw [hdr]; rfl)
      have hdp := hrb.drop (j := 1) (by omega)
      generalize al.length = n at *
      have hsl : ∀ w, (Instr.sliceAt 43 (.slice (some ⟨g, o, none⟩) n vc) (some (.int .i64 1)) none none).run Try.prog w = .ok (.slice (if vc = 1 then (some ⟨g, o, none⟩ : Option Addr) else (some ⟨g, o, none⟩ : Option Addr).map (·.add (1 * 1))) (n - 1) (vc - 1)) w := fun w => slice_lo43 w (some ⟨g, o, none⟩) n vc 1 (by omega)
      rw [Nat.add_zero] at q1
      have q2 : wr.cell? ⟨g, o + 0 * 1, none⟩ = some (.slice uu r.length uc) := by rw [Nat.zero_mul, Nat.add_zero]; exact q1
      generalize hpv : (Value.slice (if vc = 1 then (some ⟨g, o, none⟩ : Option Addr) else (some ⟨g, o, none⟩ : Option Addr).map (·.add (1 * 1))) (n - 1) (vc - 1)) = pv at hsl
      rw [hpv] at hdp
      have hn0 : ((n : Int) == 0) = false := by simp; omega
      have hn1 : (0 : Int) < n := by omega
      have Z1 := Lib.hid z1
      have HDP := Lib.hid hdp
      have HDR := Lib.hid hdr
      clear hpv hdp hrb hav z1 hdr hdl
      go_wp2_with fail
      go_quiet (fail)
      have cq : Chg (fun _ => False) wr (wr.drewN nq) := (Chg.refl _ wr).drewN nq
      have hrs : RBs (wr.drewN nq) pv rs := by
        have h := HDP.out.same cq
        rw [HDR.out, List.drop_succ_cons, List.drop_zero] at h
        exact h
      go_wp2_with fail
      exact bodyPost_ret (results_tmp4 rfl _ _ _) rfl ⟨_, pv, bh, bt, r, rs, rfl, by rw [← HDR.out]; exact HST.out, ⟨TB, cq.heap HB.out (fun h => h)⟩, Z1.out.same cq, hrs, hC.out.trans cq⟩
end Go.Proofs.Ytjhkhdockiocgaa

/- Law 11, VaultKeeps: Arm, Down, Turn, Room, a vault without a journal; same; whole. -/
namespace Go.Proofs.Ytjhkhdockiocgaa
open Go.RowKit Go.Cat

set_option maxRecDepth 100000 in
theorem arm_c (w : World) (D : Nat) (lv wv : Value) (d : Dev) (h : DevIs w D lv wv d) (n keep : Nat) (torn bytes : Int) :
    Calls Try.prog 46 #[.pointer (some ⟨D, 0, none⟩), .int .i64 n, .int .u64 keep, .int .i64 torn, .int .i64 bytes] w fun e w' => e = .returned (.tuple #[]) ∧ DevIs w' D lv wv { d with left := n, keep := keep, torn := torn, bytes := bytes } ∧ Chg (fun k => k = D) w w' := by
  obtain ⟨T, hb⟩ := h.heap
  have H := Lib.hid h
  have HB := Lib.hid hb
  have hm : (if (0 : Int) < n then (n : Int) else 0) = n := by split <;> omega
  have hm2 : max (n : Int) 0 = n := by omega
  have z3 : (w.cell? ⟨D, 3, none⟩) = some (.int .i64 d.left) := by rw [cell_of_heap hb]; rfl
  have z4 : (w.cell? ⟨D, 4, none⟩) = some (.int .u64 d.keep) := by rw [cell_of_heap hb]; rfl
  have z5 : (w.cell? ⟨D, 5, none⟩) = some (.int .i64 d.torn) := by rw [cell_of_heap hb]; rfl
  have z6 : (w.cell? ⟨D, 6, none⟩) = some (.int .i64 d.bytes) := by rw [cell_of_heap hb]; rfl
  have hf := frozen_of_heap hb
  clear h hb
  go_enter Try.func46, Try.ntmps46
  go_wp2_with fail
  go_end0
  have c4 : Chg (fun k => k = D) w ((((w.setCell ⟨D, 3, none⟩ (.int .i64 n)).setCell ⟨D, 4, none⟩ (.int .u64 keep)).setCell ⟨D, 5, none⟩ (.int .i64 torn)).setCell ⟨D, 6, none⟩ (.int .i64 bytes)) :=
    ((((Chg.refl (fun k => k = D) w).setCell (p := ⟨D, 3, none⟩) (fun _ => rfl) _).setCell (p := ⟨D, 4, none⟩) (fun _ => rfl) _).setCell (p := ⟨D, 5, none⟩) (fun _ => rfl) _).setCell (p := ⟨D, 6, none⟩) (fun _ => rfl) _
  have h := H.out
  refine ⟨rfl, ⟨⟨T, Cat.heap_setCell_same (Cat.heap_setCell_same (Cat.heap_setCell_same (Cat.heap_setCell_same HB.out 3 _) 4 _) 5 _) 6 _⟩, h.ownL.kept c4 (fun k hk => h.apL k hk), h.ownW.kept c4 (fun k hk => (h.apW k hk).1), h.apL, h.apW, h.len, h.wait, h.many⟩, c4⟩
theorem dj_arm (w0 w : World) (D : Nat) (d : Dev) (S : Nat → Prop) (n keep : Nat) (torn bytes : Int) (h : DJ w0 w D d S) :
    Calls Try.prog 46 #[.pointer (some ⟨D, 0, none⟩), .int .i64 n, .int .u64 keep, .int .i64 torn, .int .i64 bytes] w fun e w' => e = .returned (.tuple #[]) ∧ DJ w0 w' D { d with left := n, keep := keep, torn := torn, bytes := bytes } S ∧ ∃ T, Chg T w w' ∧ ∀ k, k < w.heap.size → T k → w0.heap.size ≤ k ∧ ¬ S k := by
  obtain ⟨h3, h4, lv, wv, h5, h6⟩ := h
  refine (arm_c w D lv wv d h5 n keep torn bytes).mono ?_
  rintro e w' ⟨rfl, h7, c⟩
  exact ⟨rfl, DJ.next h3 h4 h5 h6 h7 c (fun k hk ht => (h6 k (.inl ht)).1) (fun k hk => .inl hk), _, c, fun k _ ht => h6 k (.inl ht)⟩
theorem dj_down (w0 w : World) (D : Nat) (d : Dev) (S : Nat → Prop) (h : DJ w0 w D d S) :
    Calls Try.prog 50 #[.pointer (some ⟨D, 0, none⟩)] w fun e w' => e = .returned (.bool d.down) ∧ w = w' := by
  obtain ⟨lv, wv, h1⟩ := dj_dev h
  exact (down_no w D lv wv d h1).mono fun e w' h => by first | exact ⟨h.1, h.2⟩ | exact ⟨h.1, h.2.symm⟩
theorem vturn_c (w : World) (V D half t : Nat) (jp : Value) (h : VCells w V D half t jp) :
    Calls Try.prog 45 #[.pointer (some ⟨V, 0, none⟩)] w fun e w' => e = .returned (.int .u32 t) ∧ w = w' := by
  have q2 := h.at 2 _ rfl
  clear h
  go_enter Try.func45, Try.ntmps45
  go_wp2_with fail
  go_ret
  exact ⟨rfl, rfl⟩
theorem vroom_c (w : World) (V D half t J lo n next : Nat) (h : VIs w V D half t J) (hj : JIs w J D lo n t next) (h1 : next ≤ n) (h2 : n ≤ 8192) :
    Calls Try.prog 44 #[.pointer (some ⟨V, 0, none⟩)] w fun e w' => ∃ q, e = .returned (.int .i64 (((n - next) * 47 : Nat) : Int)) ∧ w' = w.drewN q := by
  have q3 := h.at 3 _ rfl
  have RJ := Lib.hid (roomj w J D lo n t next hj h1 h2)
  clear h hj
  go_enter Try.func44, Try.ntmps44
  go_wp2_with fail
  refine RJ.out.mono ?_
  rintro e w1 ⟨q, rfl, rfl⟩
  go_wp2_with fail
  go_ret
  exact ⟨q, rfl, rfl⟩
theorem vcommit_none (w : World) (V D half t : Nat) (v : Value) (h : VCells w V D half t (.pointer none)) :
    Calls Try.prog 41 #[.pointer (some ⟨V, 0, none⟩), v] w fun e w' => e = .returned (.int .i64 14) ∧ w = w' := by
  have q3 := h.at 3 _ rfl
  clear h
  go_enter Try.func41, Try.ntmps41
  go_wp2_with fail
  go_ret
  exact ⟨rfl, rfl⟩
end Go.Proofs.Ytjhkhdockiocgaa

/- Law 11: same, whole. -/
namespace Go.Proofs.Ytjhkhdockiocgaa
open Go.RowKit Go.Cat

set_option maxRecDepth 100000 in
set_option maxHeartbeats 1000000 in
theorem same11 (gv rv ov kv : Value) (r o : List UInt8) (rs ks : List (List UInt8)) (w : World) (hg : RBz w gv r) (hr : RBs w rv rs) (ho : RBz w ov o) (hk : RBs w kv ks) (hm : rs.length ≤ 1000000) (hm2 : ks.length ≤ 1000000) :
    Calls Try.prog 48 #[gv, rv, ov, kv] w fun e w' => e = .returned (.bool (decide (r = o ∧ rs = ks))) ∧ Chg (fun _ => False) w w' := by
  have v1 := convz10 w _ _ hg
  have v2 := convz10 w _ _ ho
  obtain ⟨ra, rc, rfl⟩ := hr.form
  obtain ⟨ka, kc, rfl⟩ := hk.form
  obtain ⟨n, hn⟩ : ∃ n, n = rs.length := ⟨_, rfl⟩
  obtain ⟨m, hm3⟩ : ∃ m, m = ks.length := ⟨_, rfl⟩
  rw [← hn] at hr hm ⊢
  rw [← hm3] at hk hm2 ⊢
  have HR := Lib.hid hr
  have HK := Lib.hid hk
  have HN := Lib.hid hn
  have HM := Lib.hid hm3
  by_cases hro : r = o
  · subst hro
    by_cases hl : n = m
    · subst hl
      have hres : Hid ((∀ i : Nat, i < n → rs[i]? = ks[i]?) → decide (r = r ∧ rs = ks) = true) := fun h => decide_eq_true ⟨rfl, List.ext_getElem? fun i => by
        by_cases hi : i < n
        · exact h i hi
        · rw [List.getElem?_eq_none (by omega), List.getElem?_eq_none (by omega)]⟩
      have hnes : Hid (∀ i : Nat, rs[i]? ≠ ks[i]? → decide (r = r ∧ rs = ks) = false) := fun i h => decide_eq_false fun e => h (by rw [e.2])
      clear hr hk hn hm3 hg ho
      generalize hB : decide (r = r ∧ rs = ks) = B at hres hnes
      clear hB
      go_enter Try.func48, Try.ntmps48
      go_wp2_with fail
      go_loopw [9, 24] (fun _ i wr => ∃ j : Nat, j ≤ n ∧ i = .int .i64 j ∧ Hid (∀ i : Nat, i < j → rs[i]? = ks[i]?) ∧ Chg (fun _ => False) w wr) (fun _ i _ => n - (intOf i).toNat)
      case atStart => exact ⟨0, by omega, rfl, fun i hi => by omega, Chg.refl _ _⟩
      case round =>
        obtain ⟨j, hj, rfl, hall, hc⟩ := hrel
        have HC := Lib.hid hc
        clear hc
        by_cases hlt : j < n
        · obtain ⟨x, hx⟩ := getElem?_some_lt (show j < rs.length by rw [← HN.out]; exact hlt)
          obtain ⟨y, hy⟩ := getElem?_some_lt (show j < ks.length by rw [← HM.out]; exact hlt)
          obtain ⟨g1, o1, u1, uc1, rfl, c1, z1⟩ := HR.out.at_ j x hx
          obtain ⟨g2, o2, u2, uc2, rfl, c2, z2⟩ := HK.out.at_ j y hy
          have c1 := HC.out.cell c1 (fun h => h)
          have c2 := HC.out.cell c2 (fun h => h)
          have v1 := fun q => convz10 (wr.drewN q) _ _ ((z1.same HC.out).same ((Chg.refl (fun _ => False) wr).drewN q))
          have v2 := fun q => convz10 (wr.drewN q) _ _ ((z2.same HC.out).same ((Chg.refl (fun _ => False) wr).drewN q))
          have HX := Lib.hid hx
          have HY := Lib.hid hy
          clear hx hy z1 z2
          by_cases hxy : x = y
          · subst hxy
            go_wp2_with fail
            go_quiet (fail)
            go_wp2_with fail
            refine ⟨⟨j + 1, by omega, rfl, fun i hi => ?_, HC.out.drewN _⟩, by simp only [intOf]; omega⟩
            rcases Nat.lt_or_ge i j with h | h
            · exact hall.out i h
            · obtain rfl : i = j := by omega
              rw [HX.out, HY.out]
          · have hB := hnes.out j (fun h => by rw [HX.out, HY.out] at h; exact hxy (Option.some.inj h))
            subst hB
            have e1 : (x == y) = false := by simpa using hxy
            go_wp2_with fail
            go_quiet (fail)
            go_wp2_with fail
            go_ret
            exact ⟨rfl, HC.out.drewN _⟩
        · obtain rfl : j = n := by omega
          have hB := hres.out hall.out
          subst hB
          go_wp2_with fail
          go_ret
          exact ⟨rfl, HC.out⟩
    · have hF : decide (r = r ∧ rs = ks) = false := decide_eq_false fun h => hl (by rw [hn, hm3, h.2])
      rw [hF]
      have e1 : ((n : Int) == m) = false := by simp; omega
      have e2 : ((n : Int) != m) = true := by simp; omega
      clear hr hk hn hm3 hg ho hF
      go_enter Try.func48, Try.ntmps48
      go_wp2_with fail
      go_ret
      exact ⟨rfl, Chg.refl _ _⟩
  · have hF : decide (r = o ∧ rs = ks) = false := decide_eq_false fun h => hro h.1
    rw [hF]
    have e1 : (r == o) = false := by simpa using hro
    clear hr hk hn hm3 hg ho hF
    go_enter Try.func48, Try.ntmps48
    go_wp2_with fail
    go_ret
    exact ⟨rfl, Chg.refl _ _⟩
end Go.Proofs.Ytjhkhdockiocgaa

/- Law 11: append of bytes that may be nothing; append onto a slice without room; whole. -/
namespace Go.Cat
open Go.RowKit
/-- append of nothing. -/
theorem run_app_none {P : Program} (w : World) (t ty e : TypeId) (i : TypeInfo) (size : Nat) (ht : P.underlying t = some (.slice e)) (hi : P.info? e = some i)
    (v : Value) (n : Nat) (xs : List Value) (hown : Owns w size v n xs) (a : Option Addr) : (Builtin.append_ #[t, t] ty #[v, .slice a 0 0]).run P w = .ok v w := by
  have hf : (Builtin.firstCells i.size 0 (.slice a 0 0)).run P w = .ok #[] w := by
    cases a with
    | none => simp [Builtin.firstCells]
    | some p => exact run_firstCells_some w i.size 0 p 0 0 [] (by simp) (fun j u hj => by simp at hj)
  rcases hown.2 with ⟨rfl, rfl⟩ | ⟨g, o, cap, rfl, hnc, hcm, hgl, hcells, hroom⟩
  · simp [Builtin.append_, run_underlying ht, sizeOf, typeInfo, hi, Builtin.lenOf, hf]
  · simp [Builtin.append_, run_underlying ht, sizeOf, typeInfo, hi, Builtin.lenOf, hf, hnc, storeCells]
theorem wpList_app_bz {P : Program} {w : World} {ops : Array Oper} {rest : List Oper} {o : Oper} {a : Act} {Q : Exit → Act → World → Prop} (hgd : o.guard = none) (s x : Operand) (t : TypeId)
    (ho : o.op = .call { callee := .builtin .append, args := #[s, x], argTypes := #[t, t] })
    (e : TypeId) (ht : P.underlying t = some (.slice e)) (hi : (P.info? e).map (fun i => (i.zero, i.size, i.bytes)) = some (some (.int .u8 0), 1, 1))
    (v y : Value) (l m : List UInt8) (hs : a.eval s = v) (hy : a.eval x = y) (hown : OB w v l) (hx : RBz w y m) (hl : l.length + m.length ≤ 140737488355328)
    (h : ∀ v' w', OB w' v' (l ++ m) → Chg (fun k => v.ownBlock = some k) w w' → (∀ k, v'.ownBlock = some k → v.ownBlock = some k ∨ k = w.heap.size) → (v' = .slice none 0 0 ↔ v = .slice none 0 0 ∧ m.length = 0) → wpList P ops Q rest (a.put o.dst v') w') : wpList P ops Q (o :: rest) a w := by
  rcases hx with hx | ⟨rfl, b, rfl⟩
  · exact wpList_app_bytes hgd s x t ho e ht hi v y l m hs hy hown hx hl h
  · obtain ⟨i, hi, hz0, hz1, hz2⟩ := info_parts hi
    refine wpList_plain hgd fun K hK => ?_
    have hr := run_app_none (P := P) w t o.type e i 1 ht hi v _ _ hown b
    unfold Oper.wp execOp
    simp only [ho, resolve, invoke, builtin, Sem.run_bind, Sem.run_pure, Result.andThen_ok, List.map_toArray, List.map_cons, List.map_nil, hs, hy, hr]
    exact hK _ _ (h v w (by simpa using hown) (Chg.refl _ _) (fun k hk => .inl hk) (by simp))
/-- append onto a slice that has no room: all of it is new. -/
theorem run_app_full {P : Program} (w : World) (t ty e : TypeId) (i : TypeInfo) (z : Value) (size bytes : Nat) (ht : P.underlying t = some (.slice e)) (hi : P.info? e = some i) (hz : i.zero = some z)
    (hsize : i.size = size) (hby : i.bytes = bytes) (hzs : z.cells.size = size)
    (a : Option Addr) (n : Nat) (xs : List Value) (hr : Reads w size (.slice a n n) n xs) (x : Value) (m : Nat) (news : List Value) (hx : Reads w size x m news) (hm : 1 ≤ m)
    (h63 : n + m ≤ maxLen) (hbytes : (n + m) * bytes ≤ 140737488355328) :
    ∃ v' w', (Builtin.append_ #[t, t] ty #[.slice a n n, x]).run P w = .ok v' w' ∧ Owns w' size v' (n + m) (xs ++ news) ∧ Chg (fun _ => False) w w' ∧ (∀ k, v'.ownBlock = some k → k = w.heap.size) := by
  subst hsize
  subst hby
  have hlen : (xs ++ news).length = (n + m) * i.size := by rw [List.length_append, hr.1, hx.1, Nat.add_mul]
  have grown : ∀ (w0 : World), w0.heap.size = w.heap.size → ∀ c, n + m ≤ c → c ≤ maxLen →
      Owns (w0.alloc (.cells (xs.toArray ++ news.toArray ++ Builtin.zeroCells z.cells (c - (n + m))) e)) i.size (.slice (some ⟨w.heap.size, 0, none⟩) (n + m) c) (n + m) (xs ++ news) := by
    intro w0 hw0 c hge hcm
    rw [← hw0]
    refine Owns.made (heap_alloc_new w0 _) hlen hge hcm ?_ ?_
    · simp only [Array.size_append, List.size_toArray, size_zeroCells, hzs, hr.1, hx.1, ← Nat.add_mul]
      congr 1
      omega
    · intro j u hj
      have : j < (xs ++ news).length := (List.getElem?_eq_some_iff.1 hj).1
      rw [Array.getElem?_append_left (by simpa using this)]
      simpa using hj
  obtain ⟨g', o', c', rfl, g1, g2, g3, g4⟩ : ∃ g o c, x = .slice (some ⟨g, o, none⟩) m c ∧ m ≤ c ∧ c ≤ maxLen ∧ g < w.heap.size ∧ ∀ j u, news[j]? = some u → w.cell? ⟨g, o + j, none⟩ = some u := by
    rcases hx.2 with ⟨_, h0⟩ | h
    · omega
    · exact h
  rcases hr.2 with ⟨hv, h0⟩ | ⟨g, o, cap, hv, hnc, hcm, hgl, hcells⟩
  · simp only [Value.slice.injEq] at hv
    obtain ⟨rfl, rfl, _⟩ := hv
    have hxs : xs = [] := List.eq_nil_of_length_eq_zero (by simpa using hr.1)
    subst hxs
    have hrn := run_append_nil (P := P) w t ty e i z ht hi hz ⟨g', o', none⟩ m c' news hx.1 (fun j u hj => by rw [addr_add]; exact g4 j u hj) (by omega) (by simp only [maxLen] at h63; omega) (by have hb := hbytes; simp only [Nat.zero_add] at hb; omega)
    have hgr := grown w.drew rfl (grownCap w m 0 e) (by have := grownCap_ge w m 0 e; omega) (grownCap_le_maxLen w m 0 e (by omega))
    simp only [Nat.zero_add, List.nil_append, Array.empty_append] at hgr ⊢
    exact ⟨_, _, hrn, hgr, ((Chg.refl _ w).drew).alloc _, by simp [Value.ownBlock]⟩
  · simp only [Value.slice.injEq, true_and] at hv
    obtain ⟨rfl, rfl⟩ := hv
    have hrg := run_append_grow (P := P) w t ty e i z ht hi hz ⟨g, o, none⟩ n n xs hr.1 (fun j u hj => by rw [addr_add]; exact hcells j u hj) ⟨g', o', none⟩ m c' news hx.1 (fun j u hj => by rw [addr_add]; exact g4 j u hj) (by omega) (by simp only [maxLen] at h63; omega) (growslice_fits (by omega) hbytes)
    have hgr := grown w.drew rfl (grownCap w (n + m) n e) (grownCap_ge w (n + m) n e) (grownCap_le_maxLen w (n + m) n e h63)
    refine ⟨_, _, hrg, hgr, ((Chg.refl _ w).drew).alloc _, ?_⟩
    intro k hk
    simp [Value.ownBlock] at hk
    exact hk.symm
end Go.Cat
namespace Go.Proofs.Ytjhkhdockiocgaa
open Go.RowKit Go.Cat
/-- The last 300 bytes of an image and its changes. -/
def wholeL (r : List UInt8) (rs : List (List UInt8)) : List UInt8 := (r ++ rs.flatten).drop ((r ++ rs.flatten).length - 300)
theorem wholeL_len (r : List UInt8) (rs : List (List UInt8)) : (wholeL r rs).length ≤ 300 := by unfold wholeL; rw [List.length_drop]; omega
set_option maxRecDepth 100000 in
set_option maxHeartbeats 1000000 in
theorem whole11 (gv rv : Value) (r : List UInt8) (rs : List (List UInt8)) (w : World) (hg : RBz w gv r) (hr : RBs w rv rs) (hm : rs.length ≤ 1000) (hl : ∀ x ∈ rs, x.length ≤ 1000) (hlr : r.length ≤ 1000) :
    Calls Try.prog 49 #[gv, rv] w fun e w' => ∃ v', e = .returned v' ∧ RB w' v' (wholeL r rs) ∧ (∀ k, v'.ownBlock = some k → w.heap.size ≤ k) ∧ Chg (fun _ => False) w w' := by
  obtain ⟨ra, rc, rfl⟩ := hr.form
  obtain ⟨n, hn⟩ : ∃ n, n = rs.length := ⟨_, rfl⟩
  rw [← hn] at hr hm ⊢
  have HR := Lib.hid hr
  have HG := Lib.hid hg
  have HN := Lib.hid hn
  have HL := Lib.hid hl
  have O0 := OB.empty w 5
  have G0 := hg.alloc (.cells #[] 5)
  have htake : ∀ k, k ≤ n → (rs.take k).flatten.length ≤ 1000 * k := fun k hk => by
    induction k with
    | zero => simp
    | succ k ih =>
      obtain ⟨x, hx⟩ := getElem?_some_lt (show k < rs.length by omega)
      have h1 := hl x (List.mem_of_getElem? hx)
      have h2 := ih (by omega)
      rw [List.take_add_one, hx]
      simp only [Option.toList_some, List.flatten_append, List.flatten_cons, List.flatten_nil, List.append_nil, List.length_append]
      omega
  have HTK := Lib.hid htake
  clear hr hg hn hl htake
  go_enter Try.func49, Try.ntmps49
  go_wp2_with (at_builtin; go_loud (refine wpList_app_bz rfl _ _ 33 rfl 5 Try.underlying33 Try.info5 (.slice (some ⟨w.heap.size, 0, none⟩) 0 0) gv [] r rfl rfl O0 G0 (by simp; omega) ?_; intro v1 w1 ob1 c1 in1 nn1; refine Hid.out ?_))
  refine Lib.hid ?_
  rw [List.nil_append] at ob1
  have c01 : Chg (fun _ => False) w w1 := ((Chg.refl (fun _ => False) w).alloc _).new c1 (fun k hk => by simp [Value.ownBlock] at hk; omega)
  have f1 : Fresh w v1 := fun k hk => by
    rcases in1 k hk with h | h
    · simp [Value.ownBlock] at h; omega
    · have : (w.alloc (.cells #[] 5)).heap.size = w.heap.size + 1 := by show (w.heap.push _).size = _; simp
      omega
  have OB1 := Lib.hid ob1
  have F1 := Lib.hid f1
  have C01 := Lib.hid c01
  clear O0 G0 ob1 c1 in1 nn1 f1 c01
  go_wp2_with fail
  go_loopw [5, 7, 13] (fun out _ i wr => ∃ k : Nat, k ≤ n ∧ i = .int .i64 k ∧ OB wr out (r ++ (rs.take k).flatten) ∧ Fresh w out ∧ Chg (fun _ => False) w wr) (fun _ _ i _ => n - (intOf i).toNat)
  case atStart => exact ⟨0, by omega, rfl, by simpa using OB1.out, F1.out, C01.out⟩
  case round =>
    obtain ⟨k, hk, rfl, hob, hfr, hch⟩ := hrel
    have htk := HTK.out k hk
    by_cases hlt : k < n
    · obtain ⟨x, hx⟩ := getElem?_some_lt (show k < rs.length by rw [← HN.out]; exact hlt)
      obtain ⟨g1, o1, u1, uc1, rfl, q1, z1⟩ := HR.out.at_ k x hx
      have q1 := hch.cell q1 (fun h => h)
      have z1 := z1.same hch
      have hxl := HL.out x (List.mem_of_getElem? hx)
      have HX := Lib.hid hx
      clear hx
      go_wp2_with (at_builtin; go_loud (refine wpList_app_bz rfl _ _ 33 rfl 5 Try.underlying33 Try.info5 _ _ (r ++ (rs.take k).flatten) x rfl rfl hob z1 (by rw [List.length_append]; omega) ?_; intro v' w3 ob3 c3 in3 nn3))
      have hf3 : Fresh w v' := fun q hq => by
        have := hch.size
        rcases in3 q hq with h | h
        · exact hfr q h
        · omega
      have hd3 : r ++ (rs.take (k + 1)).flatten = r ++ (rs.take k).flatten ++ x := by rw [List.take_add_one, HX.out]; simp
      rw [← hd3] at ob3
      exact ⟨⟨k + 1, by omega, rfl, ob3, hf3, hch.new c3 (fun q hq => hfr q hq)⟩, by simp only [intOf]; omega⟩
    · obtain rfl : k = n := by omega
      rw [HN.out, List.take_length] at hob
      have htl : (rs.take k).flatten = rs.flatten := by rw [HN.out, List.take_length]
      rw [htl] at htk
      obtain ⟨oa, oc, rfl⟩ := hob.form
      obtain ⟨N, hN⟩ : ∃ N, N = (r ++ rs.flatten).length := ⟨_, rfl⟩
      have hNb : N ≤ 2000000 := by rw [hN, List.length_append]; omega
      have hcap := hob.rb.cap_ge
      rw [← hN] at hob hcap hfr ⊢
      have HO := Lib.hid hob
      have HNN := Lib.hid hN
      clear hob hN htl
      by_cases h3 : 300 < N
      · have i3 : (300 : Int) < N := by omega
        have e3 : IntKind.i64.wrap ((N : Int) - 300) = ((N - 300 : Nat) : Int) := by rw [IntWalk.i64_in _ (by omega)]; omega
        have hsl := fun W => slice_lo W oa N oc (N - 300) (by omega)
        have hdr : Reads wr 1 (.slice (if oc = N - 300 then oa else oa.map (·.add ((N - 300) * 1))) (N - (N - 300)) (oc - (N - 300))) (N - (N - 300)) ((bs (r ++ rs.flatten)).drop ((N - 300) * 1)) := by
          have h := HO.out.rb
          unfold RB at h
          rw [← HNN.out] at h
          exact Reads.drop h (by omega) hcap.2
        have hfp : ∀ q, (Value.slice (if oc = N - 300 then oa else oa.map (·.add ((N - 300) * 1))) (N - (N - 300)) (oc - (N - 300))).ownBlock = some q → w.heap.size ≤ q := fun q hq => hfr q (by
          split at hq
          · cases oa <;> exact hq
          · cases oa with
            | none => simp [Value.ownBlock] at hq
            | some p =>
              simp only [Value.ownBlock, Option.map_some, Option.some.injEq, Addr.add] at hq ⊢
              split at hq <;> exact hq)
        generalize hpv : (Value.slice (if oc = N - 300 then oa else oa.map (·.add ((N - 300) * 1))) (N - (N - 300)) (oc - (N - 300))) = pv at hsl hdr hfp
        have HDR := Lib.hid hdr
        have HFP := Lib.hid hfp
        clear hdr hfp hpv
        go_wp2_with fail
        go_ret
        refine ⟨pv, rfl, ?_, HFP.out, hch⟩
        have e : wholeL r rs = (r ++ rs.flatten).drop (N - 300) := by unfold wholeL; rw [← HNN.out]
        have h := HDR.out
        unfold RB
        rw [e, show bs ((r ++ rs.flatten).drop (N - 300)) = (bs (r ++ rs.flatten)).drop ((N - 300) * 1) by rw [Nat.mul_one]; simp [bs, List.map_drop]]
        rw [show ((r ++ rs.flatten).drop (N - 300)).length = N - (N - 300) by rw [List.length_drop, ← HNN.out]]
        exact h
      · have i3 : ¬ (300 : Int) < N := by omega
        go_wp2_with fail
        go_ret
        refine ⟨_, rfl, ?_, hfr, hch⟩
        have : wholeL r rs = r ++ rs.flatten := by unfold wholeL; rw [← HNN.out, Nat.sub_eq_zero_of_le (by omega), List.drop_zero]
        rw [this]
        have h := HO.out.rb
        unfold RB at h ⊢
        rw [← HNN.out] at h ⊢
        exact h
end Go.Proofs.Ytjhkhdockiocgaa

/- What a crash leaves of a vault: plain words. -/
namespace Go.Proofs.Ytjhkhdockiocgaa
open Go.RowKit Go.Cat

/-- From place b on sectors xs were being written over l: each is new, old, or torn. -/
structure MixAt (l l' : List (List UInt8)) (b : Nat) (xs : List (List UInt8)) : Prop where
  len : l'.length = l.length
  out : ∀ i, ¬ (b ≤ i ∧ i < b + xs.length) → l'[i]? = l[i]?
  mix : ∀ (j : Nat) f o, xs[j]? = some f → l[b + j]? = some o → ∃ x, l'[b + j]? = some x ∧ Mix f o x
theorem crash_at (d : Dev) (b : Nat) (xs : List (List UInt8)) (hw : d.waits = []) (hb : b + xs.length ≤ d.l.length) (hx : ∀ x ∈ xs, x.length = 64) (hl : ∀ x ∈ d.l, x.length = 64) : MixAt d.l (crashed d (wat b xs)).l b xs := by
  have hk : (xs.take d.left).length ≤ xs.length := by rw [List.length_take]; omega
  have h := crashTo_wat d.keep d.torn d.bytes (xs.take d.left) d.l b (by omega) (fun x hm => hx x (List.mem_of_mem_take hm)) hl (xs.take d.left).length (Nat.le_refl _)
  have e : (crashed d (wat b xs)).l = crashTo d.keep d.torn d.bytes d.l (wat b (xs.take d.left)) (xs.take d.left).length := by
    show crashTo _ _ _ _ (d.waits ++ (wat b xs).take d.left) (d.waits ++ (wat b xs).take d.left).length = _
    rw [hw, List.nil_append, wat_take, wat_length]
  rw [e]
  refine ⟨h.1, fun i hi => h.2.1 i (by omega), fun j f o hf ho => ?_⟩
  by_cases hj : j < (xs.take d.left).length
  · exact h.2.2 j f o hj (by rw [List.getElem?_take, if_pos (by rw [List.length_take] at hj; omega)]; exact hf) ho
  · refine ⟨o, ?_, 0, by omega, by simp⟩
    rw [h.2.1 (b + j) (by omega)]
    exact ho
theorem zeros_64 (q : Nat) : ∀ x ∈ List.replicate q (zb 64), x.length = 64 := fun x hx => by rw [(List.mem_replicate.1 hx).2]; simp
theorem recSecs_64 (t p : Nat) (r : List UInt8) : ∀ x ∈ recSecs t p r, x.length = 64 := fun x hx => by
  obtain ⟨i, _, rfl⟩ := List.mem_map.1 hx
  exact recSec_len _ _ _ _
theorem recSecs_secsOf (t p : Nat) (r : List UInt8) : recSecs t p r = secsOf t p [r] := by simp [secsOf]
/-- A journal whose next record was being written when the crash came. -/
theorem mixed_half {l l' : List (List UInt8)} {lo n t : Nat} {done : List (List UInt8)} {r : List UInt8} (hlen : lo + n ≤ l.length) (there : ∀ i, i < total done → l[lo + i]? = (secsOf t 0 done)[i]?) (old : ∀ i, total done ≤ i → i < n → l[lo + i]? = some (zb 64))
    (hf : total done + costN r.length ≤ n) (hn : n ≤ 8192) (hpos : 1 ≤ n) (ht : t < 4294967296) (h0 : t ≠ 0) (hm : MixAt l l' (lo + total done) (recSecs t (total done) r)) (out : List (List UInt8)) :
    KnownAll (readOf l' [] lo n) ∧ (Recs (turnB ((readOf l' [] lo n).headD [])) (readOf l' [] lo n) out → (∃ p, p <+: [r] ∧ out = done ++ p) ∧ (done ≠ [] → turnB ((readOf l' [] lo n).headD []) = t)) := by
  have hrl := recSecs_length t (total done) r
  have htot : total [r] = costN r.length := by simp [total]
  have hl : (readOf l' [] lo n).length = n := by rw [readOf_nil, List.length_take, List.length_drop, hm.len]; omega
  refine read_mixed (X := readOf l' [] lo n) (done := done) (behind := [r]) (Old := fun o => o = zb 64) ht h0 hl hn (by rw [htot]; exact hf) (.inr zb_unsound) (fun i hi => ?_) (fun i h1 h2 => ?_) hpos
  · rw [readOf_at, if_pos (by omega), hm.out (lo + i) (by omega), there i hi, secsOf_append, List.getElem?_append_left (by rw [secsOf_length]; exact hi)]
  · rw [readOf_at, if_pos h2]
    rcases Nat.lt_or_ge i (total done + total [r]) with h3 | h3
    · obtain ⟨f, hff⟩ := getElem?_some_lt (show i - total done < (recSecs t (total done) r).length by rw [hrl, ← htot]; omega)
      obtain ⟨L, e, g1, g2⟩ := secsOf_at t [r] (total done) (i - total done) f (by rw [← recSecs_secsOf]; exact hff)
      rw [show total done + (i - total done) = i by omega] at g2
      obtain ⟨x, hx1, hx2⟩ := hm.mix (i - total done) f (zb 64) hff (by rw [show lo + total done + (i - total done) = lo + i by omega]; exact old i h1 h2)
      rw [show lo + total done + (i - total done) = lo + i by omega] at hx1
      have hs : (secsOf t 0 (done ++ [r]))[i]? = some f := by
        rw [secsOf_append, Nat.zero_add, List.getElem?_append_right (by rw [secsOf_length]; omega), secsOf_length, ← recSecs_secsOf]
        exact hff
      rw [g2] at hx2
      rcases mix_cases g1 (zb_clear8 ht h0) hx2 with h5 | h5 | h5
      · exact .inl ⟨h3, by rw [hs, hx1, g2, h5]⟩
      · exact .inr ⟨x, hx1, .inl (by rw [h5]; exact ⟨zb_clear8 ht h0, rfl⟩)⟩
      · exact .inr ⟨x, hx1, .inr h5⟩
    · refine .inr ⟨zb 64, ?_, .inl ⟨zb_clear8 ht h0, rfl⟩⟩
      rw [hm.out (lo + i) (by rw [hrl, ← htot]; omega)]
      exact old i h1 h2
/-- What stands as it stood. -/
theorem still_half {l l' : List (List UInt8)} {lo n t : Nat} {done : List (List UInt8)} (hlen : lo + n ≤ l'.length) (there : ∀ i, i < total done → l[lo + i]? = (secsOf t 0 done)[i]?) (old : ∀ i, total done ≤ i → i < n → l[lo + i]? = some (zb 64))
    (hf : total done ≤ n) (hn : n ≤ 8192) (hpos : 1 ≤ n) (ht : t < 4294967296) (h0 : t ≠ 0) (hs : ∀ i, i < n → l'[lo + i]? = l[lo + i]?) (out : List (List UInt8)) :
    KnownAll (readOf l' [] lo n) ∧ (Recs (turnB ((readOf l' [] lo n).headD [])) (readOf l' [] lo n) out → out = done ∧ (done ≠ [] → turnB ((readOf l' [] lo n).headD []) = t)) := by
  have hl : (readOf l' [] lo n).length = n := by rw [readOf_nil, List.length_take, List.length_drop]; omega
  have := read_mixed (X := readOf l' [] lo n) (out := out) (done := done) (behind := []) (Old := fun o => o = zb 64) ht h0 hl hn (by simpa [total] using hf) (.inr zb_unsound) (fun i hi => by
    rw [readOf_at, if_pos (by omega), hs i (by omega), there i hi, List.append_nil]) (fun i h1 h2 => by
    rw [readOf_at, if_pos h2]
    exact .inr ⟨zb 64, by rw [hs i h2]; exact old i h1 h2, .inl ⟨zb_clear8 ht h0, rfl⟩⟩) hpos
  refine ⟨this.1, fun hr => ?_⟩
  obtain ⟨⟨p, hp, he⟩, h2⟩ := this.2 hr
  rw [List.prefix_nil.1 hp, List.append_nil] at he
  exact ⟨he, h2⟩
/-- A sector over which nothing was being written. -/
theorem mix_zero {t p : Nat} {L : Bool} {e x : List UInt8} (he : e.length ≤ 47) (ht : t < 4294967296) (h0 : t ≠ 0) (hm : Mix (zb 64) (packOf t p L e) x) : known x ∧ turnB x ≤ t := by
  obtain ⟨k, hk, rfl⟩ := hm
  have hz64 : (zb 64).length = 64 := by simp
  have hxl : ((zb 64).take k ++ (packOf t p L e).drop k).length = 64 := by
    rw [List.length_append, List.length_take, List.length_drop, hz64, pack_len he]; omega
  by_cases ha : stampsAlike ((zb 64).take k ++ (packOf t p L e).drop k)
  · rcases torn_or hz64 zb_8 (alike_8 (pack_len he) (pack_alike he)) (fun h => pack_ne_zb ht h0 h.symm) hk (alike_8 hxl ha) with h | h
    · rw [h]; exact ⟨zb_known, by rw [turnB_zb]; omega⟩
    · rw [h]; exact ⟨⟨pack_len he, .inr (.inr (packOf_sound he ht h0))⟩, by rw [turnB_pack he ht h0]; exact Nat.le_refl _⟩
  · refine ⟨⟨hxl, .inr (.inl ⟨fun hz => ha ?_, ha⟩)⟩, by rw [show turnB _ = 0 from if_neg (fun h => ha h.2.1)]; omega⟩
    have hall : (zb 64).take k ++ (packOf t p L e).drop k = zb 64 := by
      apply List.ext_getElem (by rw [hxl]; simp)
      intro i h1 h2
      rw [hz _ (List.getElem_mem h1)]
      exact (List.mem_replicate.1 (show (zb 64)[i] ∈ zb 64 from List.getElem_mem h2)).2.symm
    rw [hall]
    exact ⟨by decide, by decide⟩
theorem mix_zero_zero {x : List UInt8} (hm : Mix (zb 64) (zb 64) x) : x = zb 64 := by
  obtain ⟨k, _, rfl⟩ := hm
  exact List.take_append_drop k _
end Go.Proofs.Ytjhkhdockiocgaa

/- What Open tells behind a crash: plain words. -/
namespace Go.Proofs.Ytjhkhdockiocgaa
open Go.RowKit Go.Cat

/-- The sectors of a device whose half 'half' bears done, of turn t; the others are nothing. -/
structure Clean (l : List (List UInt8)) (q half t : Nat) (done : List (List UInt8)) : Prop where
  len : l.length = 2 * q
  h1 : half ≤ 1
  l64 : ∀ x ∈ l, x.length = 64
  there : ∀ i, i < total done → l[half * q + i]? = (secsOf t 0 done)[i]?
  old : ∀ i, total done ≤ i → i < q → l[half * q + i]? = some (zb 64)
  other : ∀ i, i < q → l[(1 - half) * q + i]? = some (zb 64)
  fits : total done ≤ q
theorem VInv.clean {d : Dev} {q half t : Nat} {done : List (List UInt8)} (h : VInv d q half t done) : Clean d.l q half t done :=
  ⟨h.len, h.h1, h.j.l64, h.j.there, fun i h1 h2 => by obtain ⟨o, h3, _, h4⟩ := h.j.old i h1 h2; rw [h3, h4], h.other, by have := h.j.fits; simp only [total] at this; omega⟩
theorem Clean.vinv {d : Dev} {q half t : Nat} {done : List (List UInt8)} (h : Clean d.l q half t done) (hw : d.waits = []) (ht : t < 4294967296) (h0 : t ≠ 0) (hq : q ≤ 8192) : VInv d q half t done := by
  have hle : half * q + q ≤ d.l.length := by
    have := h.len
    rcases half_cases h.h1 with hh | hh <;> subst hh <;> omega
  exact ⟨⟨hle, h.l64, h.there, fun i h1 h2 => ⟨zb 64, h.old i h1 h2, zb_clear8 ht h0, rfl⟩, by rw [hw]; rfl, by simp only [total]; have := h.fits; omega, hq⟩, h.other, h.len, h.h1⟩
theorem half_split {l : List (List UInt8)} {q half : Nat} (hl : l.length = 2 * q) (hh : half ≤ 1) {i : Nat} {x : List UInt8} (h : l[i]? = some x) : (∃ j, j < q ∧ l[half * q + j]? = some x) ∨ ∃ j, j < q ∧ l[(1 - half) * q + j]? = some x := by
  have hi := (List.getElem?_eq_some_iff.1 h).1
  rcases half_cases hh with rfl | rfl
  · rcases Nat.lt_or_ge i q with h1 | h1
    · exact .inl ⟨i, h1, by rw [show 0 * q + i = i by omega]; exact h⟩
    · exact .inr ⟨i - q, by omega, by rw [show (1 - 0) * q + (i - q) = i by simp; omega]; exact h⟩
  · rcases Nat.lt_or_ge i q with h1 | h1
    · exact .inr ⟨i, h1, by rw [show (1 - 1) * q + i = i by simp]; exact h⟩
    · exact .inl ⟨i - q, by omega, by rw [show 1 * q + (i - q) = i by omega]; exact h⟩
theorem stage2 {R : Nat → List (List UInt8) → Prop} {tk : Nat → Nat} {bh bt : Nat} {al : List (List UInt8)} (h : Stage R tk 2 bh bt al) :
    (∃ o0 o1, R 0 o0 ∧ R 1 o1 ∧ o1 ≠ [] ∧ bh = 1 ∧ al = o1 ∧ 0 < tk 1 ∧ (o0 = [] ∨ tk 0 < tk 1)) ∨
    (∃ o0 o1, R 0 o0 ∧ R 1 o1 ∧ o0 ≠ [] ∧ (o1 = [] ∨ ¬ tk 0 < tk 1) ∧ bh = 0 ∧ al = o0 ∧ 0 < tk 0) ∨
    (∃ o0 o1, R 0 o0 ∧ R 1 o1 ∧ (o0 = [] ∨ tk 0 = 0) ∧ (o1 = [] ∨ tk 1 = 0) ∧ bh = 0 ∧ al = []) := by
  cases h with
  | take h1 r1 n1 l1 =>
    cases h1 with
    | take h0 r0 n0 l0 =>
      cases h0
      have l1 : tk 0 < tk 1 := l1
      exact .inl ⟨_, _, r0, r1, n1, rfl, rfl, by omega, .inr l1⟩
    | leave h0 r0 n0 =>
      cases h0
      refine .inl ⟨_, _, r0, r1, n1, rfl, rfl, l1, ?_⟩
      rcases n0 with n0 | n0
      · exact .inl n0
      · exact .inr (by have l1 : 0 < tk 1 := l1; have n0 : ¬ 0 < tk 0 := n0; show tk 0 < tk 1; omega)
  | leave h1 r1 n1 =>
    cases h1 with
    | take h0 r0 n0 l0 =>
      cases h0
      exact .inr (.inl ⟨_, _, r0, r1, n0, n1, rfl, rfl, l0⟩)
    | leave h0 r0 n0 =>
      cases h0
      exact .inr (.inr ⟨_, _, r0, r1, n0.imp id (fun h => by have h : ¬ 0 < tk 0 := h; omega), n1.imp id (fun h => by have h : ¬ 0 < tk 1 := h; omega), rfl, rfl⟩)
/-- The half that counts. -/
theorem pick_half {R : Nat → List (List UInt8) → Prop} {tk : Nat → Nat} {half t : Nat} {P : List (List UInt8) → Prop} (hh : half ≤ 1) (h0 : 0 < t) (HG : ∀ out, R half out → out ≠ [] ∧ P out ∧ tk half = t)
    (HO : ∀ out, R (1 - half) out → out ≠ [] → tk (1 - half) < t ∨ (t < tk (1 - half) ∧ P out)) {bh bt : Nat} {al : List (List UInt8)} (h : Stage R tk 2 bh bt al) : bh ≤ 1 ∧ al ≠ [] ∧ P al := by
  rcases half_cases hh with rfl | rfl
  · rcases stage2 h with ⟨o0, o1, r0, r1, n1, rfl, rfl, l1, k⟩ | ⟨o0, o1, r0, r1, n0, k, rfl, rfl, l0⟩ | ⟨o0, o1, r0, r1, k0, k1, rfl, rfl⟩
    · obtain ⟨g1, g2, g3⟩ := HG o0 r0
      refine ⟨by omega, n1, ?_⟩
      rcases HO al r1 n1 with h2 | ⟨_, h2⟩
      · rcases k with k | k
        · exact absurd k g1
        · simp only [Nat.sub_zero] at h2; omega
      · exact h2
    · obtain ⟨g1, g2, g3⟩ := HG al r0
      exact ⟨by omega, g1, g2⟩
    · obtain ⟨g1, g2, g3⟩ := HG o0 r0
      rcases k0 with k0 | k0
      · exact absurd k0 g1
      · omega
  · rcases stage2 h with ⟨o0, o1, r0, r1, n1, rfl, rfl, l1, k⟩ | ⟨o0, o1, r0, r1, n0, k, rfl, rfl, l0⟩ | ⟨o0, o1, r0, r1, k0, k1, rfl, rfl⟩
    · obtain ⟨g1, g2, g3⟩ := HG al r1
      exact ⟨by omega, g1, g2⟩
    · obtain ⟨g1, g2, g3⟩ := HG o1 r1
      refine ⟨by omega, n0, ?_⟩
      rcases HO al r0 n0 with h2 | ⟨_, h2⟩
      · rcases k with k | k
        · exact absurd k g1
        · simp only [Nat.sub_self] at h2; omega
      · exact h2
    · obtain ⟨g1, g2, g3⟩ := HG o1 r1
      rcases k1 with k1 | k1
      · exact absurd k1 g1
      · omega
/-- What the law wants to know of a device behind a crash. -/
structure After (l : List (List UInt8)) (q T : Nat) (P : List (List UInt8) → Prop) : Prop where
  len : l.length = 2 * q
  l64 : ∀ x ∈ l, x.length = 64
  known : ∀ x ∈ l, known x ∧ turnB x ≤ T
  opens : ∀ bh bt al, Stage (halfRec l q) (halfTurn l q) 2 bh bt al → bh ≤ 1 ∧ al ≠ [] ∧ P al
theorem recs_head {T : Nat} {X out : List (List UInt8)} (h : Recs T X out) (hne : out ≠ []) : ∃ x, X[0]? = some x ∧ goodAt T 0 x := by
  refine Classical.byContradiction fun hc => hne (recs_none h fun x hx hg => hc ⟨x, hx, hg⟩)
theorem halfX_at (l : List (List UInt8)) (q k i : Nat) (hi : i < q) : (halfX l q k)[i]? = l[k * q + i]? := by unfold halfX; rw [readOf_at, if_pos hi]
theorem half_turn {l : List (List UInt8)} {q k : Nat} {x : List UInt8} (hq : 1 ≤ q) (h : l[k * q]? = some x) : halfTurn l q k = turnB x := by
  unfold halfTurn
  rw [headD_at (x := x) (by rw [halfX_at l q k 0 (by omega)]; exact h)]
/-- A half that tells something has a sound first sector, whose turn it has. -/
theorem half_tells {l : List (List UInt8)} {q k : Nat} {out : List (List UInt8)} (hq : 1 ≤ q) (h : halfRec l q k out) (hne : out ≠ []) : ∃ x, l[k * q]? = some x ∧ sound x ∧ halfTurn l q k = turnB x := by
  obtain ⟨x, h1, h2⟩ := recs_head h hne
  rw [halfX_at l q k 0 (by omega), Nat.add_zero] at h1
  exact ⟨x, h1, h2.1, half_turn hq h1⟩
theorem sec_known {t : Nat} {done : List (List UInt8)} {i : Nat} {x : List UInt8} (ht : t < 4294967296) (h0 : t ≠ 0) (h : (secsOf t 0 done)[i]? = some x) : known x ∧ turnB x ≤ t := by
  obtain ⟨L, e, h3, rfl⟩ := secsOf_at t done 0 i x h
  exact ⟨⟨pack_len h3, .inr (.inr (packOf_sound h3 ht h0))⟩, by rw [turnB_pack h3 ht h0]; exact Nat.le_refl _⟩
theorem zb_ok (t : Nat) : known (zb 64) ∧ turnB (zb 64) ≤ t := ⟨zb_known, by rw [turnB_zb]; omega⟩
/-- A sector of a record that was being written over nothing. -/
theorem mix_rec {t p : Nat} {L : Bool} {e x : List UInt8} (he : e.length ≤ 47) (ht : t < 4294967296) (h0 : t ≠ 0) (hm : Mix (packOf t p L e) (zb 64) x) : (known x ∧ turnB x ≤ t) ∧ x.length = 64 ∧ (sound x → turnB x = t) := by
  rcases mix_cases he (zb_clear8 (p := p) ht h0) hm with h | h | h
  · rw [h]; exact ⟨⟨⟨pack_len he, .inr (.inr (packOf_sound he ht h0))⟩, by rw [turnB_pack he ht h0]; exact Nat.le_refl _⟩, pack_len he, fun _ => turnB_pack he ht h0⟩
  · rw [h]; exact ⟨zb_ok t, by simp, fun hs => absurd hs (zb_unsound _ rfl)⟩
  · exact ⟨⟨⟨h.1, .inr (.inl ⟨h.2.2, h.2.1⟩)⟩, by rw [show turnB x = 0 from if_neg (fun hs => h.2.1 hs.2.1)]; omega⟩, h.1, fun hs => absurd hs.2.1 h.2.1⟩
end Go.Proofs.Ytjhkhdockiocgaa

/- What crashes and flushes make of a vault: plain words. -/
namespace Go.Proofs.Ytjhkhdockiocgaa
open Go.RowKit Go.Cat

theorem half_off {q half : Nat} (hh : half ≤ 1) : half * q + q ≤ 2 * q ∧ (1 - half) * q + q ≤ 2 * q ∧ (half * q + q ≤ (1 - half) * q ∨ (1 - half) * q + q ≤ half * q) := by
  rcases half_cases hh with rfl | rfl <;> simp <;> omega
theorem flush_mix {l : List (List UInt8)} {b : Nat} {xs : List (List UInt8)} (hb : b + xs.length ≤ l.length) (hx : ∀ x ∈ xs, x.length = 64) (hl : ∀ x ∈ l, x.length = 64) : MixAt l (flushTo l (wat b xs)) b xs := by
  obtain ⟨f1, f2⟩ := flushTo_wat xs l b hb
  refine ⟨f1, fun i hi => by rw [f2, if_neg hi], fun j f o hf ho => ?_⟩
  have hj := (List.getElem?_eq_some_iff.1 hf).1
  refine ⟨f, by rw [f2, if_pos (by omega), Nat.add_sub_cancel_left]; exact hf, 64, Nat.le_refl _, ?_⟩
  rw [List.take_of_length_le (by rw [hx f (List.mem_of_getElem? hf)]; exact Nat.le_refl _), List.drop_of_length_le (by rw [hl o (List.mem_of_getElem? ho)]; exact Nat.le_refl _), List.append_nil]
/-- Nothing over nothing. -/
theorem Clean.wiped {l l' : List (List UInt8)} {q half t : Nat} {done : List (List UInt8)} (c : Clean l q half t done) (m : MixAt l l' ((1 - half) * q) (List.replicate q (zb 64))) : Clean l' q half t done := by
  obtain ⟨o1, o2, o3⟩ := half_off (q := q) c.h1
  have hs : ∀ i, l'[i]? = l[i]? := fun i => by
    by_cases hi : (1 - half) * q ≤ i ∧ i < (1 - half) * q + q
    · obtain ⟨j, rfl⟩ : ∃ j, i = (1 - half) * q + j := ⟨i - (1 - half) * q, by omega⟩
      have ho := c.other j (by omega)
      obtain ⟨x, h1, h2⟩ := m.mix j (zb 64) (zb 64) (by rw [List.getElem?_replicate, if_pos (by omega)]) ho
      rw [h1, ho, mix_zero_zero h2]
    · exact m.out i (by rw [List.length_replicate]; exact hi)
  have e : l' = l := List.ext_getElem? hs
  rw [e]; exact c
theorem Clean.after {l : List (List UInt8)} {q half t : Nat} {done : List (List UInt8)} (c : Clean l q half t done) (hne : done ≠ []) (hq : 1 ≤ q) (hq2 : q ≤ 8192) (ht : t < 4294967296) (h0 : t ≠ 0) : After l q t (fun al => al = done) := by
  obtain ⟨o1, o2, _⟩ := half_off (q := q) c.h1
  refine ⟨c.len, c.l64, fun x hx => ?_, fun bh bt al hs => ?_⟩
  · obtain ⟨i, hi⟩ := List.getElem?_of_mem hx
    rcases half_split c.len c.h1 hi with ⟨j, hj, h⟩ | ⟨j, hj, h⟩
    · rcases Nat.lt_or_ge j (total done) with h1 | h1
      · rw [c.there j h1] at h; exact sec_known ht h0 h
      · rw [c.old j h1 hj] at h; cases h; exact zb_ok t
    · rw [c.other j hj] at h; cases h; exact zb_ok t
  · refine pick_half (P := fun al => al = done) c.h1 (by omega : 0 < t) (fun out hr => ?_) (fun out hr hn => ?_) hs
    · obtain ⟨g1, g2⟩ := (still_half (by rw [c.len]; exact o1) c.there c.old c.fits hq2 hq ht h0 (fun _ _ => rfl) out).2 hr
      exact ⟨by rw [g1]; exact hne, g1, g2 hne⟩
    · obtain ⟨x, h1, h2, _⟩ := half_tells hq hr hn
      rw [show (1 - half) * q = (1 - half) * q + 0 by omega, c.other 0 hq] at h1
      cases h1; exact absurd h2 (zb_unsound _ rfl)
theorem len_of_mix {l l' : List (List UInt8)} {b : Nat} {xs : List (List UInt8)} (m : MixAt l l' b xs) (hx : ∀ x ∈ xs, x.length = 64) (hl : ∀ x ∈ l, x.length = 64) : ∀ x ∈ l', x.length = 64 := fun x hm => by
  obtain ⟨i, hi⟩ := List.getElem?_of_mem hm
  by_cases hb : b ≤ i ∧ i < b + xs.length
  · obtain ⟨j, rfl⟩ : ∃ j, i = b + j := ⟨i - b, by omega⟩
    obtain ⟨f, hf⟩ := getElem?_some_lt (show j < xs.length by omega)
    have hil := (List.getElem?_eq_some_iff.1 hi).1
    obtain ⟨o, ho⟩ := getElem?_some_lt (show b + j < l.length by rw [← m.len]; exact hil)
    obtain ⟨y, h1, k, hk, h2⟩ := m.mix j f o hf ho
    rw [hi] at h1; cases h1
    have h3 := hx f (List.mem_of_getElem? hf)
    have h4 := hl o (List.mem_of_getElem? ho)
    rw [h2, List.length_append, List.length_take, List.length_drop]; omega
  · rw [m.out i hb] at hi
    exact hl x (List.mem_of_getElem? hi)
/-- A crash in the midst of a record. -/
theorem Clean.commit_crash {l l' : List (List UInt8)} {q half t : Nat} {done : List (List UInt8)} {r : List UInt8} (c : Clean l q half t done) (hne : done ≠ []) (hq : 1 ≤ q) (hq2 : q ≤ 8192) (ht : t < 4294967296) (h0 : t ≠ 0) (hf : total done + costN r.length ≤ q)
    (m : MixAt l l' (half * q + total done) (recSecs t (total done) r)) : After l' q t (fun al => al = done ∨ al = done ++ [r]) := by
  obtain ⟨o1, o2, o3⟩ := half_off (q := q) c.h1
  have hrl := recSecs_length t (total done) r
  have hoth : ∀ j, j < q → l'[(1 - half) * q + j]? = some (zb 64) := fun j hj => by rw [m.out _ (by omega)]; exact c.other j hj
  refine ⟨by rw [m.len]; exact c.len, len_of_mix m (recSecs_64 _ _ _) c.l64, fun x hx => ?_, fun bh bt al hs => ?_⟩
  · obtain ⟨i, hi⟩ := List.getElem?_of_mem hx
    rcases half_split (by rw [m.len]; exact c.len) c.h1 hi with ⟨j, hj, h⟩ | ⟨j, hj, h⟩
    · by_cases hin : total done ≤ j ∧ j < total done + costN r.length
      · obtain ⟨f, hff⟩ := getElem?_some_lt (show j - total done < (recSecs t (total done) r).length by rw [hrl]; omega)
        obtain ⟨L, e, g1, g2⟩ := secsOf_at t [r] (total done) (j - total done) f (by rw [← recSecs_secsOf]; exact hff)
        obtain ⟨y, hy1, hy2⟩ := m.mix (j - total done) f (zb 64) hff (by rw [show half * q + total done + (j - total done) = half * q + j by omega]; exact c.old j hin.1 hj)
        rw [show half * q + total done + (j - total done) = half * q + j by omega, h] at hy1
        cases hy1
        rw [g2] at hy2
        exact (mix_rec g1 ht h0 hy2).1
      · rw [m.out _ (by omega)] at h
        rcases Nat.lt_or_ge j (total done) with h1 | h1
        · rw [c.there j h1] at h; exact sec_known ht h0 h
        · rw [c.old j h1 hj] at h; cases h; exact zb_ok t
    · rw [hoth j hj] at h; cases h; exact zb_ok t
  · refine pick_half (P := fun al => al = done ∨ al = done ++ [r]) c.h1 (by omega : 0 < t) (fun out hr => ?_) (fun out hr hn => ?_) hs
    · obtain ⟨⟨p, hp, g1⟩, g2⟩ := (mixed_half (by rw [c.len]; exact o1) c.there c.old hf hq2 hq ht h0 m out).2 hr
      refine ⟨by rw [g1]; simp [hne], ?_, g2 hne⟩
      obtain ⟨s, hs⟩ := hp
      cases p with
      | nil => exact .inl (by rw [g1, List.append_nil])
      | cons a p =>
        simp only [List.cons_append, List.cons.injEq, List.append_eq_nil_iff] at hs
        obtain ⟨rfl, rfl, _⟩ := hs
        exact .inr g1
    · obtain ⟨x, h1, h2, _⟩ := half_tells hq hr hn
      rw [show (1 - half) * q = (1 - half) * q + 0 by omega, hoth 0 hq] at h1
      cases h1; exact absurd h2 (zb_unsound _ rfl)
/-- A crash in the midst of an image. -/
theorem Clean.image_crash {l l' : List (List UInt8)} {q half t : Nat} {done : List (List UInt8)} {r : List UInt8} (c : Clean l q half t done) (hne : done ≠ []) (hq : 1 ≤ q) (hq2 : q ≤ 8192) (ht : t + 1 < 4294967296) (h0 : t ≠ 0) (hf : costN r.length ≤ q)
    (m : MixAt l l' ((1 - half) * q) (recSecs (t + 1) 0 r)) : After l' q (t + 1) (fun al => al = done ∨ al = [r]) := by
  obtain ⟨o1, o2, o3⟩ := half_off (q := q) c.h1
  have hrl := recSecs_length (t + 1) 0 r
  have hthis : ∀ j, j < q → l'[half * q + j]? = l[half * q + j]? := fun j hj => m.out _ (by omega)
  have hother : ∀ j, j < q → ∃ x, l'[(1 - half) * q + j]? = some x ∧ (known x ∧ turnB x ≤ t + 1) ∧ (sound x → turnB x = t + 1) := fun j hj => by
    by_cases hin : j < costN r.length
    · obtain ⟨f, hff⟩ := getElem?_some_lt (show j < (recSecs (t + 1) 0 r).length by rw [hrl]; exact hin)
      obtain ⟨L, e, g1, g2⟩ := secsOf_at (t + 1) [r] 0 j f (by rw [← recSecs_secsOf]; exact hff)
      obtain ⟨y, hy1, hy2⟩ := m.mix j f (zb 64) hff (c.other j hj)
      rw [g2] at hy2
      obtain ⟨k1, _, k2⟩ := mix_rec g1 ht (by omega) hy2
      exact ⟨y, hy1, k1, k2⟩
    · exact ⟨zb 64, by rw [m.out _ (by omega)]; exact c.other j hj, zb_ok _, fun h => absurd h (zb_unsound _ rfl)⟩
  refine ⟨by rw [m.len]; exact c.len, len_of_mix m (recSecs_64 _ _ _) c.l64, fun x hx => ?_, fun bh bt al hs => ?_⟩
  · obtain ⟨i, hi⟩ := List.getElem?_of_mem hx
    rcases half_split (by rw [m.len]; exact c.len) c.h1 hi with ⟨j, hj, h⟩ | ⟨j, hj, h⟩
    · rw [hthis j hj] at h
      rcases Nat.lt_or_ge j (total done) with h1 | h1
      · rw [c.there j h1] at h; obtain ⟨k1, k2⟩ := sec_known (by omega) h0 h; exact ⟨k1, by omega⟩
      · rw [c.old j h1 hj] at h; cases h; exact zb_ok _
    · obtain ⟨y, h1, h2, _⟩ := hother j hj
      rw [h] at h1; cases h1; exact h2
  · refine pick_half (P := fun al => al = done ∨ al = [r]) c.h1 (by omega : 0 < t) (fun out hr => ?_) (fun out hr hn => ?_) hs
    · obtain ⟨g1, g2⟩ := (still_half (by rw [m.len, c.len]; exact o1) c.there c.old c.fits hq2 hq (by omega) h0 hthis out).2 hr
      exact ⟨by rw [g1]; exact hne, .inl g1, g2 hne⟩
    · obtain ⟨x, h1, h2, h3⟩ := half_tells hq hr hn
      obtain ⟨y, k1, _, k2⟩ := hother 0 hq
      rw [Nat.add_zero, h1] at k1; cases k1
      refine .inr ⟨by rw [h3, k2 h2]; omega, ?_⟩
      have hmx := (mixed_half (l := l) (l' := l') (lo := (1 - half) * q) (n := q) (t := t + 1) (done := []) (r := r) (by rw [c.len]; exact o2) (fun i hi => by simp [total] at hi) (fun i _ hi => c.other i hi) (by simpa [total] using hf) hq2 hq ht (by omega) (by simpa [total] using m) out).2 hr
      obtain ⟨⟨p, ⟨s, hp⟩, g1⟩, _⟩ := hmx
      cases p with
      | nil => exact absurd g1 hn
      | cons a p =>
        simp only [List.cons_append, List.cons.injEq, List.append_eq_nil_iff] at hp
        obtain ⟨rfl, rfl, _⟩ := hp
        exact .inr (by simpa using g1)
/-- A crash in the midst of the last wiping. -/
theorem Clean.wipe_crash {l l2 l' : List (List UInt8)} {q half t : Nat} {done : List (List UInt8)} {r : List UInt8} (c : Clean l q half t done) (hq : 1 ≤ q) (hq2 : q ≤ 8192) (ht : t + 1 < 4294967296) (h0 : t ≠ 0) (hf : costN r.length ≤ q)
    (h2 : l2 = flushTo l (wat ((1 - half) * q) (recSecs (t + 1) 0 r))) (m : MixAt l2 l' (half * q) (List.replicate q (zb 64))) : After l' q (t + 1) (fun al => al = [r]) := by
  obtain ⟨o1, o2, o3⟩ := half_off (q := q) c.h1
  have hrl := recSecs_length (t + 1) 0 r
  obtain ⟨f1, f2⟩ := flushTo_wat (recSecs (t + 1) 0 r) l ((1 - half) * q) (by rw [hrl, c.len]; omega)
  rw [← h2] at f1 f2
  have htot : total [r] = costN r.length := by simp [total]
  have hml : l2.length = 2 * q := by rw [f1, c.len]
  have there : ∀ i, i < total [r] → l2[(1 - half) * q + i]? = (secsOf (t + 1) 0 [r])[i]? := fun i hi => by
    rw [f2, if_pos (by rw [hrl, ← htot]; omega), Nat.add_sub_cancel_left, recSecs_secsOf]
  have old : ∀ i, total [r] ≤ i → i < q → l2[(1 - half) * q + i]? = some (zb 64) := fun i hi hi2 => by
    rw [f2, if_neg (by rw [hrl, ← htot]; omega)]; exact c.other i hi2
  have hkeep : ∀ j, j < q → l'[(1 - half) * q + j]? = l2[(1 - half) * q + j]? := fun j hj => m.out _ (by rw [List.length_replicate]; omega)
  have hthis : ∀ j, j < q → ∃ x, l'[half * q + j]? = some x ∧ known x ∧ turnB x ≤ t := fun j hj => by
    have hz : (List.replicate q (zb 64))[j]? = some (zb 64) := by rw [List.getElem?_replicate, if_pos hj]
    have hl2 : l2[half * q + j]? = l[half * q + j]? := by rw [f2, if_neg (by rw [hrl]; omega)]
    rcases Nat.lt_or_ge j (total done) with h1 | h1
    · obtain ⟨x, hx⟩ := getElem?_some_lt (show j < (secsOf t 0 done).length by rw [secsOf_length]; exact h1)
      obtain ⟨L, e, g1, g2⟩ := secsOf_at t done 0 j x hx
      obtain ⟨y, hy1, hy2⟩ := m.mix j _ x hz (by rw [hl2, c.there j h1]; exact hx)
      rw [g2] at hy2
      exact ⟨y, hy1, mix_zero g1 (by omega) h0 hy2⟩
    · obtain ⟨y, hy1, hy2⟩ := m.mix j _ (zb 64) hz (by rw [hl2]; exact c.old j h1 hj)
      rw [mix_zero_zero hy2] at hy1
      exact ⟨zb 64, hy1, zb_ok t⟩
  refine ⟨by rw [m.len, hml], len_of_mix m (zeros_64 q) (by rw [h2]; exact wat_set64 (by rw [hrl, c.len]; omega) (recSecs_64 _ _ _) c.l64), fun x hx => ?_, fun bh bt al hs => ?_⟩
  · obtain ⟨i, hi⟩ := List.getElem?_of_mem hx
    rcases half_split (by rw [m.len, hml]) c.h1 hi with ⟨j, hj, h⟩ | ⟨j, hj, h⟩
    · obtain ⟨y, h1, h3, h4⟩ := hthis j hj
      rw [h] at h1; cases h1; exact ⟨h3, by omega⟩
    · rw [hkeep j hj] at h
      rcases Nat.lt_or_ge j (total [r]) with h1 | h1
      · rw [there j h1] at h; exact sec_known ht (by omega) h
      · rw [old j h1 hj] at h; cases h; exact zb_ok _
  · have hh : 1 - half ≤ 1 := by omega
    refine pick_half (P := fun al => al = [r]) (half := 1 - half) (t := t + 1) hh (by omega) (fun out hr => ?_) (fun out hr hn => ?_) hs
    · obtain ⟨g1, g2⟩ := (still_half (by rw [m.len, hml]; exact o2) there old (by rw [htot]; exact hf) hq2 hq ht (by omega) hkeep out).2 hr
      exact ⟨by rw [g1]; simp, g1, g2 (by simp)⟩
    · have e : 1 - (1 - half) = half := by have := c.h1; omega
      rw [e] at hr ⊢
      obtain ⟨x, h1, h3, h4⟩ := half_tells hq hr hn
      obtain ⟨y, k1, _, k2⟩ := hthis 0 hq
      rw [Nat.add_zero, h1] at k1; cases k1
      exact .inl (by rw [h4]; omega)
/-- A record more. -/
theorem Clean.commit {l : List (List UInt8)} {q half t : Nat} {done : List (List UInt8)} {r : List UInt8} (c : Clean l q half t done) (hf : total done + costN r.length ≤ q) : Clean (flushTo l (wat (half * q + total done) (recSecs t (total done) r))) q half t (done ++ [r]) := by
  obtain ⟨o1, o2, o3⟩ := half_off (q := q) c.h1
  have hrl := recSecs_length t (total done) r
  obtain ⟨f1, f2⟩ := flushTo_wat (recSecs t (total done) r) l (half * q + total done) (by rw [hrl, c.len]; omega)
  have htot : total (done ++ [r]) = total done + costN r.length := total_snoc done r
  refine ⟨by rw [f1, c.len], c.h1, wat_set64 (by rw [hrl, c.len]; omega) (recSecs_64 _ _ _) c.l64, fun i hi => ?_, fun i h1 h2 => ?_, fun i hi => ?_, by rw [htot]; exact hf⟩
  · rw [f2, secsOf_append, Nat.zero_add]
    rw [htot] at hi
    rcases Nat.lt_or_ge i (total done) with h1 | h1
    · rw [if_neg (by omega), List.getElem?_append_left (by rw [secsOf_length]; exact h1)]
      exact c.there i h1
    · rw [if_pos (by rw [hrl]; omega), List.getElem?_append_right (by rw [secsOf_length]; exact h1), secsOf_length, ← recSecs_secsOf]
      congr 1; omega
  · rw [htot] at h1
    rw [f2, if_neg (by rw [hrl]; omega)]
    exact c.old i (by omega) h2
  · rw [f2, if_neg (by rw [hrl]; omega)]
    exact c.other i hi
theorem seal_any {d : Dev} {q half T : Nat} (hl : d.l.length = 2 * q) (l64 : ∀ x ∈ d.l, x.length = 64) (hh : half ≤ 1) (ht : T < 4294967296) (h0 : T ≠ 0) (hq : q ≤ 8192) (image : List UInt8) (hf : costN image.length ≤ q) :
    VInv { d with l := flushTo (flushTo (flushTo d.l (wat ((1 - half) * q) (List.replicate q (zb 64)))) (wat ((1 - half) * q) (recSecs T 0 image))) (wat (half * q) (List.replicate q (zb 64))), waits := [] } q (1 - half) T [image] := by
  have hrl := recSecs_length T 0 image
  have hle : half * q + q ≤ 2 * q := by rcases half_cases hh with rfl | rfl <;> omega
  have hle' : (1 - half) * q + q ≤ 2 * q := by rcases half_cases hh with rfl | rfl <;> simp <;> omega
  have r64 : ∀ x ∈ List.replicate q (zb 64), x.length = 64 := fun x hx => by rw [(List.mem_replicate.1 hx).2]; simp
  have s64 : ∀ x ∈ recSecs T 0 image, x.length = 64 := fun x hx => by
    obtain ⟨i, _, rfl⟩ := List.mem_map.1 hx
    exact recSec_len _ _ _ _
  obtain ⟨a1, a2⟩ := flushTo_wat (List.replicate q (zb 64)) d.l ((1 - half) * q) (by rw [List.length_replicate, hl]; exact hle')
  have a3 := wat_set64 (xs := List.replicate q (zb 64)) (l := d.l) (b := (1 - half) * q) (by rw [List.length_replicate, hl]; exact hle') r64 l64
  obtain ⟨b1, b2⟩ := flushTo_wat (recSecs T 0 image) (flushTo d.l (wat ((1 - half) * q) (List.replicate q (zb 64)))) ((1 - half) * q) (by rw [a1, hrl, hl]; omega)
  have b3 := wat_set64 (xs := recSecs T 0 image) (b := (1 - half) * q) (by rw [a1, hrl, hl]; omega) s64 a3
  obtain ⟨c1, c2⟩ := flushTo_wat (List.replicate q (zb 64)) (flushTo (flushTo d.l (wat ((1 - half) * q) (List.replicate q (zb 64)))) (wat ((1 - half) * q) (recSecs T 0 image))) (half * q) (by rw [b1, a1, List.length_replicate, hl]; exact hle)
  have c3 := wat_set64 (xs := List.replicate q (zb 64)) (b := half * q) (by rw [b1, a1, List.length_replicate, hl]; exact hle) r64 b3
  have htot : total [image] = costN image.length := by simp [total]
  have hsec : secsOf T 0 [image] = recSecs T 0 image := by simp [secsOf]
  refine VInv.mk' (by omega) ht h0 hq (by show (flushTo _ _).length = _; rw [c1, b1, a1, hl]) rfl (by rw [htot]; exact hf) c3 (fun i hi => ?_)
  show (flushTo _ _)[i]? = _
  rw [c2, b2, a2, htot, hsec, hrl, List.length_replicate]
  clear c2 b2 a2 a1 a3 b1 b3 c1 c3 htot hsec s64 r64 hle hle'
  generalize costN image.length = cc at hf hrl ⊢
  rcases half_cases hh with rfl | rfl
  · simp only [Nat.zero_mul, Nat.zero_add, Nat.zero_le, true_and, Nat.sub_zero, Nat.one_mul] at *
    by_cases h1 : i < q
    · rw [if_pos h1, if_neg (by omega), List.getElem?_replicate, if_pos h1]
    · rw [if_neg h1]
      by_cases h2 : i < q + cc
      · rw [if_pos ⟨by omega, h2⟩, if_pos ⟨by omega, h2⟩]
      · rw [if_neg (by omega), if_pos ⟨by omega, by omega⟩, List.getElem?_replicate, if_pos (by omega), if_neg (by omega)]
  · simp only [Nat.sub_self, Nat.zero_mul, Nat.zero_add, Nat.zero_le, true_and, Nat.sub_zero, Nat.one_mul] at *
    by_cases h1 : q ≤ i ∧ i < q + q
    · rw [if_pos h1, if_neg (by omega), List.getElem?_replicate, if_pos (by omega)]
    · rw [if_neg h1]
      by_cases h2 : i < cc
      · rw [if_pos h2, if_pos h2]
      · rw [if_neg h2, if_neg h2, if_pos (by omega), List.getElem?_replicate, if_pos (by omega)]
end Go.Proofs.Ytjhkhdockiocgaa

/- Law 11, VaultKeeps: what the law holds of its vault, and what its acts do. -/
namespace Go.Proofs.Ytjhkhdockiocgaa
open Go.RowKit Go.Cat

/-- A value whose memory is elder than w0, or of K. -/
def Old (w0 : World) (K : Nat → Prop) (v : Value) (l : List UInt8) : Prop := (l = [] ∧ ∃ a, v = .slice a 0 0) ∨ ∀ k, v.ownBlock = some k → k < w0.heap.size ∨ K k
theorem Old.mono {w0 : World} {K K' : Nat → Prop} {v : Value} {l : List UInt8} (h : Old w0 K v l) (hk : ∀ k, K k → K' k) : Old w0 K' v l := h.imp id fun g k hv => (g k hv).imp id (hk k)
theorem RBz.keptO {w0 w w' : World} {K : Nat → Prop} {v : Value} {l : List UInt8} (h : RBz w v l) (ho : Old w0 K v l) {T : Nat → Prop} (c : Chg T w w') (hT : ∀ k, k < w.heap.size → T k → w0.heap.size ≤ k ∧ ¬ K k) : RBz w' v l := by
  rcases h with h | h
  · rcases ho with ho | ho
    · exact .inr ho
    · exact .inl (h.kept c (fun k hk ht => by
        have h1 := hT k (h.lt' k hk) ht
        rcases ho k hk with h2 | h2
        · omega
        · exact h1.2 h2))
  · exact .inr h
/-- Rows of bytes whose memory is elder than w0, or of K. -/
def KRows (w0 w : World) (K : Nat → Prop) (v : Value) (ls : List (List UInt8)) : Prop :=
  ∃ vs : List Value, Reads w 1 v ls.length vs ∧ (∀ (i : Nat) (u : Value) (l : List UInt8), vs[i]? = some u → ls[i]? = some l → RBz w u l ∧ Old w0 K u l) ∧ (∀ k, v.ownBlock = some k → k < w0.heap.size ∨ K k) ∧ ∀ u ∈ vs, u.oneCell' = true
def KBytes (w0 w : World) (K : Nat → Prop) (v : Value) (l : List UInt8) : Prop := RBz w v l ∧ Old w0 K v l
theorem KBytes.kept {w0 w w' : World} {K : Nat → Prop} {v : Value} {l : List UInt8} (h : KBytes w0 w K v l) {T : Nat → Prop} (c : Chg T w w') (hT : ∀ k, k < w.heap.size → T k → w0.heap.size ≤ k ∧ ¬ K k) : KBytes w0 w' K v l :=
  ⟨RBz.keptO h.1 h.2 c hT, h.2⟩
theorem KRows.kept {w0 w w' : World} {K : Nat → Prop} {v : Value} {ls : List (List UInt8)} (h : KRows w0 w K v ls) {T : Nat → Prop} (c : Chg T w w') (hT : ∀ k, k < w.heap.size → T k → w0.heap.size ≤ k ∧ ¬ K k) : KRows w0 w' K v ls := by
  obtain ⟨vs, h1, h2, h3, h4⟩ := h
  refine ⟨vs, h1.kept c (fun k hk ht => ?_), fun i u l hu hl => ⟨RBz.keptO (h2 i u l hu hl).1 (h2 i u l hu hl).2 c hT, (h2 i u l hu hl).2⟩, h3, h4⟩
  have g1 := hT k (h1.lt k hk) ht
  rcases h3 k hk with g2 | g2
  · omega
  · exact g1.2 g2
theorem KRows.mono {w0 w : World} {K K' : Nat → Prop} {v : Value} {ls : List (List UInt8)} (h : KRows w0 w K v ls) (hk : ∀ k, K k → K' k) : KRows w0 w K' v ls := by
  obtain ⟨vs, h1, h2, h3, h4⟩ := h
  exact ⟨vs, h1, fun i u l hu hl => ⟨(h2 i u l hu hl).1, (h2 i u l hu hl).2.mono hk⟩, fun k hv => (h3 k hv).imp id (hk k), h4⟩
theorem KRows.rbs {w0 w : World} {K : Nat → Prop} {v : Value} {ls : List (List UInt8)} (h : KRows w0 w K v ls) : RBs w v ls := by
  obtain ⟨vs, h1, h2, _⟩ := h
  exact ⟨vs, h1, fun i u l hu hl => (h2 i u l hu hl).1⟩
theorem KRows.nil (w0 w : World) (K : Nat → Prop) : KRows w0 w K (.slice none 0 0) [] := ⟨[], Reads.nil w 1, by simp, by simp [Value.ownBlock], by simp⟩
theorem KBytes.mono {w0 w : World} {K K' : Nat → Prop} {v : Value} {l : List UInt8} (h : KBytes w0 w K v l) (hk : ∀ k, K k → K' k) : KBytes w0 w K' v l := ⟨h.1, h.2.mono hk⟩
def SVJ (V J : Nat) (K : Nat → Prop) (k : Nat) : Prop := k = V ∨ k = J ∨ K k
/-- The law's vault, up, with nothing that waits; what it holds, as the law has it. -/
structure VK (w0 w : World) (D V J half t i : Nat) (K : Nat → Prop) (d : Dev) (img : List UInt8) (chs : List (List UInt8)) (iv cv : Value) : Prop where
  dj : DJ w0 w D d (SVJ V J K)
  cln : Clean d.l 50 half t (img :: chs)
  wt : d.waits = []
  dn : d.down = false
  lf : d.left ≤ 60
  vis : VIs w V D half t J
  ji : JIs w J D (half * 50) 50 t (total (img :: chs))
  ne : V ≠ J
  nV : ¬ K V
  nJ : ¬ K J
  im : KBytes w0 w K iv img
  ch : KRows w0 w K cv chs
  bi : img.length ≤ 300
  bc : chs.length ≤ i
  bx : ∀ x ∈ chs, x.length ≤ 150
  tb : t ≤ 2 * i + 1
  t0 : t ≠ 0
variable {w0 w w' : World} {D V J half t i : Nat} {K : Nat → Prop} {d : Dev} {img : List UInt8} {chs : List (List UInt8)} {iv cv : Value}
theorem VK.lt (h : VK w0 w D V J half t i K d img chs iv cv) : V < w.heap.size ∧ J < w.heap.size ∧ ∀ k, K k → w0.heap.size ≤ k ∧ k < w.heap.size :=
  ⟨(h.dj.2.1 V (.inl rfl)).2, (h.dj.2.1 J (.inr (.inl rfl))).2, fun k hk => h.dj.2.1 k (.inr (.inr hk))⟩
/-- Where only new memory was made. -/
theorem VK.grow (h : VK w0 w D V J half t i K d img chs iv cv) (c : Chg (fun _ => False) w w') {K' : Nat → Prop} (h1 : ∀ k, K k → K' k) (h2 : ∀ k, K' k → K k ∨ (w.heap.size ≤ k ∧ k < w'.heap.size)) : VK w0 w' D V J half t i K' d img chs iv cv := by
  obtain ⟨hV, hJ, _⟩ := h.lt
  exact ⟨h.dj.kept c (fun _ _ h => h.elim) (fun k hk => by
      rcases hk with hk | hk | hk
      · exact .inl (.inl hk)
      · exact .inl (.inr (.inl hk))
      · exact (h2 k hk).imp (fun h => .inr (.inr h)) id), h.cln, h.wt, h.dn, h.lf, h.vis.kept c (fun h => h), h.ji.kept c (fun h => h), h.ne,
    fun hk => (h2 V hk).elim h.nV (fun g => by omega), fun hk => (h2 J hk).elim h.nJ (fun g => by omega),
    (h.im.kept c (fun _ _ h => h.elim)).mono h1, (h.ch.kept c (fun _ _ h => h.elim)).mono h1, h.bi, h.bc, h.bx, h.tb, h.t0⟩
theorem VK.same (h : VK w0 w D V J half t i K d img chs iv cv) (c : Chg (fun _ => False) w w') : VK w0 w' D V J half t i K d img chs iv cv := h.grow c (fun _ h => h) (fun _ h => .inl h)
theorem VK.next (h : VK w0 w D V J half t i K d img chs iv cv) : VK w0 w D V J half t (i + 1) K d img chs iv cv :=
  ⟨h.dj, h.cln, h.wt, h.dn, h.lf, h.vis, h.ji, h.ne, h.nV, h.nJ, h.im, h.ch, h.bi, by have := h.bc; omega, h.bx, by have := h.tb; omega, h.t0⟩
/-- What the law looks for behind a crash in the midst of something. -/
def NowIs (w0 w : World) (K : Nat → Prop) (wv fv : Value) (img : List UInt8) (al : List (List UInt8)) : Prop :=
  (fv = .slice none 0 0 ∧ ∃ ws, KRows w0 w K wv ws ∧ ws.length ≤ 1000 ∧ al = img :: ws) ∨ ∃ p n c fr, fv = .slice (some p) n c ∧ KBytes w0 w K fv fr ∧ al = [fr]
theorem NowIs.kept {w0 w w' : World} {K : Nat → Prop} {wv fv : Value} {img : List UInt8} {al : List (List UInt8)} (h : NowIs w0 w K wv fv img al) {T : Nat → Prop} (c : Chg T w w') (hT : ∀ k, k < w.heap.size → T k → w0.heap.size ≤ k ∧ ¬ K k) : NowIs w0 w' K wv fv img al := by
  rcases h with ⟨h1, ws, h2, h3⟩ | ⟨p, n, c', fr, h1, h2, h3⟩
  · exact .inl ⟨h1, ws, h2.kept c hT, h3⟩
  · exact .inr ⟨p, n, c', fr, h1, h2.kept c hT, h3⟩
structure CS (w0 w : World) (D : Nat) (K : Nat → Prop) (d : Dev) (T : Nat) (img : List UInt8) (chs : List (List UInt8)) (iv cv wv fv : Value) : Prop where
  dj : DJ w0 w D d K
  wt : d.waits = []
  im : KBytes w0 w K iv img
  ch : KRows w0 w K cv chs
  nc : chs.length ≤ 1000
  alt : ∃ al2, NowIs w0 w K wv fv img al2 ∧ ∃ P, After d.l 50 T P ∧ ∀ al, P al → (al = img :: chs ∨ al = al2) ∧ ∀ r rs, al = r :: rs → r.length ≤ 1000 ∧ rs.length ≤ 1000 ∧ ∀ x ∈ rs, x.length ≤ 1000
theorem keepK {T : Nat → Prop} {V J J2 : Nat} (hT : ∀ k, k < w.heap.size → T k → w0.heap.size ≤ k ∧ (SVJ V J K k → k = J2)) (hn : ¬ K J2) : ∀ k, k < w.heap.size → T k → w0.heap.size ≤ k ∧ ¬ K k := fun k hk ht =>
  ⟨(hT k hk ht).1, fun hK => by have := (hT k hk ht).2 (.inr (.inr hK)); rw [this] at hK; exact hn hK⟩
theorem keepS {T : Nat → Prop} {V J : Nat} (hT : ∀ k, k < w.heap.size → T k → w0.heap.size ≤ k ∧ ¬ SVJ V J K k) : ∀ k, k < w.heap.size → T k → w0.heap.size ≤ k ∧ ¬ K k := fun k hk ht => ⟨(hT k hk ht).1, fun hK => (hT k hk ht).2 (.inr (.inr hK))⟩
set_option maxRecDepth 100000 in
set_option maxHeartbeats 1000000 in
theorem vcommit_full_a (w : World) (D V J half t tot : Nat) (a : Option Addr) (m c : Nat) (hv : VIs w V D half t J) (hj : JIs w J D (half * 50) 50 t tot) (ht : tot ≤ 50) (hm : m ≤ 1000000) (hfull : 50 < tot + costN m) :
    Calls Try.prog 41 #[.pointer (some ⟨V, 0, none⟩), .slice a m c] w fun e w' => e = .returned (.int .i64 6) ∧ Chg (fun _ => False) w w' := by
  have q3 := hv.at 3 _ rfl
  have CM := Lib.hid (commitj_full w J D (half * 50) 50 t tot a m c hj (by omega) ht hm hfull)
  clear hv hj hfull
  go_enter Try.func41, Try.ntmps41
  go_wp2_with fail
  refine CM.out.mono ?_
  rintro e w1 ⟨rfl, c1⟩
  have C1 := Lib.hid c1
  clear c1
  go_wp2_with fail
  go_ret
  exact ⟨rfl, C1.out⟩
theorem vk_commit (h : VK w0 w D V J half t i K d img chs iv cv) (wv v : Value) (l : List UInt8) (hv : RBz w v l) (hl : l.length ≤ 150) (hw : KRows w0 w K wv (chs ++ [l])) (hi : i ≤ 25) :
    Calls Try.prog 41 #[.pointer (some ⟨V, 0, none⟩), v] w fun e w' =>
      (e = .returned (.int .i64 0) ∧ ∃ d', VK w0 w' D V J half t (i + 1) K d' img (chs ++ [l]) iv wv) ∨
      (e = .returned (.int .i64 6) ∧ VK w0 w' D V J half t i K d img chs iv cv ∧ Chg (fun _ => False) w w' ∧ 50 < total (img :: chs) + costN l.length) ∨
      (e = .returned (.int .i64 13) ∧ ∃ d', CS w0 w' D K d' t img chs iv cv wv (.slice none 0 0)) := by
  have htb := h.tb
  by_cases hf : total (img :: chs) + costN l.length ≤ 50
  · refine (vcommit_a w0 w D V J 50 half t (total (img :: chs)) (SVJ V J K) d v l h.dj h.vis h.ji (.inl rfl) (.inr (.inl rfl)) h.ne hv (by omega) h.dn h.cln.h1 h.cln.len h.wt (by have := h.lf; omega) hf (by omega) h.t0).mono ?_
    rintro e w' (⟨rfl, g1, g2, g3, T, c, hT⟩ | ⟨rfl, g0, g1, T, c, hT⟩)
    · have hk := keepK hT h.nJ
      refine .inl ⟨rfl, _, g1, ?_, rfl, h.dn, Nat.le_trans (Nat.sub_le _ _) h.lf, g2, ?_, h.ne, h.nV, h.nJ, h.im.kept c hk, hw.kept c hk, h.bi, by have := h.bc; simp; omega, fun x hx => ?_, by omega, h.t0⟩
      · have hc := h.cln.commit hf
        show Clean (flushTo d.l (d.waits ++ _)) 50 half t (img :: (chs ++ [l]))
        rw [h.wt, List.nil_append]
        exact hc
      · have e := total_snoc (img :: chs) l
        rw [← List.cons_append, e]
        exact g3
      · rcases List.mem_append.1 hx with hx | hx
        · exact h.bx x hx
        · rw [List.mem_singleton.1 hx]; exact hl
    · have hk := keepS hT
      obtain ⟨o1, o2, o3⟩ := half_off (q := 50) h.cln.h1
      refine .inr (.inr ⟨rfl, _, g1.less (fun k hk => .inr (.inr hk)), rfl, h.im.kept c hk, h.ch.kept c hk, by have := h.bc; omega, img :: (chs ++ [l]), .inl ⟨rfl, chs ++ [l], hw.kept c hk, by have := h.bc; simp; omega, rfl⟩, fun al => al = img :: chs ∨ al = (img :: chs) ++ [l], ?_, fun al hal => ⟨?_, ?_⟩⟩)
      · exact h.cln.commit_crash (by simp) (by omega) (by omega) (by omega) h.t0 hf (crash_at d _ _ h.wt (by rw [recSecs_length, h.cln.len]; omega) (recSecs_64 _ _ _) h.cln.l64)
      · rcases hal with hal | hal
        · exact .inl hal
        · exact .inr (by rw [hal, List.cons_append])
      · rintro r rs rfl
        have hb : ∀ cs : List (List UInt8), r :: rs = img :: cs → (∀ x ∈ cs, x.length ≤ 150) → cs.length ≤ 100 → r.length ≤ 1000 ∧ rs.length ≤ 1000 ∧ ∀ x ∈ rs, x.length ≤ 1000 := fun cs e h1 h2 => by
          obtain ⟨rfl, rfl⟩ := List.cons.inj e
          exact ⟨by have := h.bi; omega, by omega, fun x hx => by have := h1 x hx; omega⟩
        rcases hal with hal | hal
        · exact hb chs hal h.bx (by have := h.bc; omega)
        · refine hb (chs ++ [l]) (by rw [hal, List.cons_append]) (fun x hx => ?_) (by have := h.bc; simp; omega)
          rcases List.mem_append.1 hx with hx | hx
          · exact h.bx x hx
          · rw [List.mem_singleton.1 hx]; exact hl
  · obtain ⟨a, c, rfl⟩ := hv.form
    refine (vcommit_full_a w D V J half t _ a l.length c h.vis h.ji h.cln.fits (by omega) (by omega)).mono ?_
    rintro e w' ⟨rfl, c⟩
    exact .inr (.inl ⟨rfl, h.same c, c, by omega⟩)

theorem After.mono {l : List (List UInt8)} {q T T' : Nat} {P P' : List (List UInt8) → Prop} (h : After l q T P) (ht : T ≤ T') (hp : ∀ al, P al → P' al) : After l q T' P' :=
  ⟨h.len, h.l64, fun x hx => ⟨(h.known x hx).1, Nat.le_trans (h.known x hx).2 ht⟩, fun bh bt al hs => by obtain ⟨a, b, c⟩ := h.opens bh bt al hs; exact ⟨a, b, hp al c⟩⟩
theorem VIs.cells {w : World} {V D half t J : Nat} (h : VIs w V D half t J) : VCells w V D half t (.pointer (some ⟨J, 0, none⟩)) := h.heap
theorem flushed_l {d : Dev} {W : List (Nat × List UInt8)} (hw : d.waits = []) : (flushed d W).l = flushTo d.l W := by
  show flushTo d.l (d.waits ++ W) = _
  rw [hw]; rfl
theorem seal_clean {l : List (List UInt8)} {q half T : Nat} (hl : l.length = 2 * q) (l64 : ∀ x ∈ l, x.length = 64) (hh : half ≤ 1) (ht : T < 4294967296) (h0 : T ≠ 0) (hq : q ≤ 8192) (image : List UInt8) (hf : costN image.length ≤ q) :
    Clean (flushTo (flushTo (flushTo l (wipeW (1 - half) q)) (imgW (1 - half) q T image)) (wipeW half q)) q (1 - half) T [image] := (seal_any (d := ⟨l, [], false, 0, 0, 0, 0⟩) hl l64 hh ht h0 hq image hf).clean
theorem sealed_clean {d : Dev} {q half T : Nat} (hw : d.waits = []) (hl : d.l.length = 2 * q) (l64 : ∀ x ∈ d.l, x.length = 64) (hh : half ≤ 1) (ht : T < 4294967296) (h0 : T ≠ 0) (hq : q ≤ 8192) (image : List UInt8) (hf : costN image.length ≤ q) :
    Clean (flushed (flushed (flushed d (wipeW (1 - half) q)) (imgW (1 - half) q T image)) (wipeW half q)).l q (1 - half) T [image] := by
  rw [flushed_l rfl, flushed_l rfl, flushed_l hw]
  exact seal_clean hl l64 hh ht h0 hq image hf
theorem flushed_waits (d : Dev) (W : List (Nat × List UInt8)) : (flushed d W).waits = [] := rfl
theorem flushed_dn {d : Dev} {W : List (Nat × List UInt8)} (h : d.down = false) : (flushed d W).down = false := h
theorem flushed_left (d : Dev) (W : List (Nat × List UInt8)) : (flushed d W).left ≤ d.left := Nat.sub_le _ _
theorem wipeW_mix {d : Dev} {k : Nat} (hk : k * 50 + 50 ≤ d.l.length) (hw : d.waits = []) (h64 : ∀ x ∈ d.l, x.length = 64) : MixAt d.l (flushed d (wipeW k 50)).l (k * 50) (List.replicate 50 (zb 64)) := by
  have : (flushed d (wipeW k 50)).l = flushTo d.l (wat (k * 50) (List.replicate 50 (zb 64))) := by
    show flushTo d.l (d.waits ++ _) = _
    rw [hw]; rfl
  rw [this]
  exact flush_mix (by rw [List.length_replicate]; exact hk) (zeros_64 50) h64
theorem vk_seal (h : VK w0 w D V J half t i K d img chs iv cv) (wv fv : Value) (fr : List UInt8) (hf : KBytes w0 w K fv fr) (hfn : ∃ p n c, fv = .slice (some p) n c) (hl : fr.length ≤ 300) (hi : i ≤ 25) :
    Calls Try.prog 42 #[.pointer (some ⟨V, 0, none⟩), fv] w fun e w' =>
      (e = .returned (.int .i64 0) ∧ ∃ J' d', VK w0 w' D V J' (1 - half) (t + 1) (i + 1) K d' fr [] fv (.slice none 0 0)) ∨
      (e = .returned (.int .i64 13) ∧ ∃ d', CS w0 w' D K d' (t + 1) img chs iv cv wv fv) := by
  have htb := h.tb
  have hcn := costN_le (n := fr.length) (by omega)
  have ha := h.cln.after (by simp) (by omega) (by omega) (by omega) h.t0
  have hmx := (h.cln.vinv h.wt (by omega) h.t0 (by omega)).max (by omega) h.t0 (by simp)
  have hh := h.cln.h1
  obtain ⟨o1, o2, o3⟩ := half_off (q := 50) hh
  obtain ⟨hVl, hJl, hKl⟩ := h.lt
  have hlen := h.cln.len
  -- behind the first wiping
  have m1 := wipeW_mix (k := 1 - half) (d := d) (by omega) h.wt h.cln.l64
  have c1 := h.cln.wiped m1
  refine (vseal_a w0 w D V 50 half t t _ (SVJ V J K) d fv fr h.dj h.vis.cells (.inl rfl) hh hf.1 (hf.2.mono (fun k g => .inr (.inr g))) (by omega) (by omega) h.dn hlen h.wt (by have := h.lf; omega) (fun x hx => (ha.known x hx).1) hmx (by omega) (by omega) (by omega)).mono ?_
  rintro e w' (⟨rfl, ⟨J', g1, g2, g3, g4, g5⟩, T, c, hT⟩ | ⟨rfl, g0, ⟨d', hd', S', hS', g1⟩, T, c, hT⟩)
  · have hk := keepK hT h.nV
    refine .inl ⟨rfl, J', flushed (flushed (flushed d (wipeW (1 - half) 50)) (imgW (1 - half) 50 (t + 1) fr)) (wipeW half 50), ?_, ?_, flushed_waits _ _, flushed_dn (flushed_dn (flushed_dn h.dn)), ?_, g2, ?_, g4, h.nV, fun hK => by have := (hKl J' hK).2; omega, hf.kept c hk, KRows.nil _ _ _, hl, by simp, by simp, by omega, by omega⟩
    · exact g1.less (fun k hk => by
        rcases hk with hk | hk | hk
        · exact .inl (.inl hk)
        · exact .inr hk
        · exact .inl (.inr (.inr hk)))
    · exact sealed_clean h.wt hlen h.cln.l64 hh (by omega) (by omega) (by omega) fr (by omega)
    · exact Nat.le_trans (Nat.le_trans (flushed_left _ _) (Nat.le_trans (flushed_left _ _) (flushed_left _ _))) h.lf
    · have e : total [fr] = costN fr.length := by simp [total]
      rw [e]
      exact g3
  · have hk := keepK hT h.nV
    have hbnd : ∀ al, (al = img :: chs ∨ al = [fr]) → ∀ r rs, al = r :: rs → r.length ≤ 1000 ∧ rs.length ≤ 1000 ∧ ∀ x ∈ rs, x.length ≤ 1000 := by
      rintro al hal r rs rfl
      rcases hal with hal | hal
      · obtain ⟨rfl, rfl⟩ := List.cons.inj hal
        exact ⟨by have := h.bi; omega, by have := h.bc; omega, fun x hx => by have := h.bx x hx; omega⟩
      · obtain ⟨rfl, rfl⟩ := List.cons.inj hal
        exact ⟨by omega, by simp, by simp⟩
    have hnow : NowIs w0 w' K wv fv img [fr] := by
      obtain ⟨p, n, c', rfl⟩ := hfn
      exact .inr ⟨p, n, c', fr, rfl, hf.kept c hk, rfl⟩
    have haft : d'.waits = [] ∧ After d'.l 50 (t + 1) (fun al => al = img :: chs ∨ al = [fr]) := by
      rcases hd' with rfl | rfl | rfl
      · refine ⟨rfl, ?_⟩
        have m := crash_at d ((1 - half) * 50) (List.replicate 50 (zb 64)) h.wt (by rw [List.length_replicate]; omega) (zeros_64 50) h.cln.l64
        exact ((h.cln.wiped m).after (by simp) (by omega) (by omega) (by omega) h.t0).mono (by omega) (fun al e => .inl e)
      · refine ⟨rfl, ?_⟩
        have m := crash_at (flushed d (wipeW (1 - half) 50)) ((1 - half) * 50) (recSecs (t + 1) 0 fr) rfl (by rw [recSecs_length, c1.len]; omega) (recSecs_64 _ _ _) c1.l64
        exact c1.image_crash (by simp) (by omega) (by omega) (by omega) h.t0 (by omega) m
      · refine ⟨rfl, ?_⟩
        have hl2 : (flushed (flushed d (wipeW (1 - half) 50)) (imgW (1 - half) 50 (t + 1) fr)).l = flushTo (flushed d (wipeW (1 - half) 50)).l (wat ((1 - half) * 50) (recSecs (t + 1) 0 fr)) := rfl
        have hlen2 : (flushed (flushed d (wipeW (1 - half) 50)) (imgW (1 - half) 50 (t + 1) fr)).l.length = 2 * 50 := by
          rw [hl2, (flushTo_wat _ _ _ (by rw [recSecs_length, c1.len]; omega)).1, c1.len]
        have m := crash_at (flushed (flushed d (wipeW (1 - half) 50)) (imgW (1 - half) 50 (t + 1) fr)) (half * 50) (List.replicate 50 (zb 64)) rfl (by rw [List.length_replicate, hlen2]; omega) (zeros_64 50) (by rw [hl2]; exact wat_set64 (by rw [recSecs_length, c1.len]; omega) (recSecs_64 _ _ _) c1.l64)
        exact (c1.wipe_crash (by omega) (by omega) (by omega) h.t0 (by omega) hl2 m).mono (Nat.le_refl _) (fun al e => .inr e)
    exact .inr ⟨rfl, d', g1.less (fun k hk => hS' k (.inr (.inr hk))), haft.1, h.im.kept c hk, h.ch.kept c hk, by have := h.bc; omega, _, hnow, _, haft.2, fun al hal => ⟨hal, hbnd al hal⟩⟩
/-- A crash as the vault stands. -/
theorem vk_crash (h : VK w0 w D V J half t i K d img chs iv cv) (keep : Nat) (torn bytes : Int) (hi : i ≤ 25) :
    Calls Try.prog 28 #[.pointer (some ⟨D, 0, none⟩), .int .u64 keep, .int .i64 torn, .int .i64 bytes] w fun e w' => e = .returned (.tuple #[]) ∧ ∃ d', CS w0 w' D K d' t img chs iv cv cv (.slice none 0 0) := by
  have htb := h.tb
  refine (dj_crash w0 w D d (SVJ V J K) keep torn bytes h.dj (by rw [h.wt]; simp)).mono ?_
  rintro e w' ⟨rfl, g1, T, c, hT⟩
  have hk := keepS hT
  refine ⟨rfl, _, g1.less (fun k hk => .inr (.inr hk)), rfl, h.im.kept c hk, h.ch.kept c hk, by have := h.bc; omega, img :: chs, .inl ⟨rfl, chs, h.ch.kept c hk, by have := h.bc; omega, rfl⟩, fun al => al = img :: chs, ?_, fun al hal => ⟨.inl hal, ?_⟩⟩
  · show After (crashTo keep torn bytes d.l d.waits d.waits.length) 50 t _
    rw [h.wt]
    exact h.cln.after (by simp) (by omega) (by omega) (by omega) h.t0
  · rintro r rs rfl
    obtain ⟨rfl, rfl⟩ := List.cons.inj hal
    exact ⟨by have := h.bi; omega, by have := h.bc; omega, fun x hx => by have := h.bx x hx; omega⟩
theorem vk_arm (h : VK w0 w D V J half t i K d img chs iv cv) (n keep : Nat) (torn bytes : Int) (hn : n ≤ 60) :
    Calls Try.prog 46 #[.pointer (some ⟨D, 0, none⟩), .int .i64 n, .int .u64 keep, .int .i64 torn, .int .i64 bytes] w fun e w' => e = .returned (.tuple #[]) ∧ ∃ d', VK w0 w' D V J half t (i + 1) K d' img chs iv cv := by
  refine (dj_arm w0 w D d (SVJ V J K) n keep torn bytes h.dj).mono ?_
  rintro e w' ⟨rfl, g1, T, c, hT⟩
  have hk := keepS hT
  obtain ⟨hVl, hJl, _⟩ := h.lt
  exact ⟨rfl, _, g1, h.cln, h.wt, h.dn, hn, h.vis.kept c (fun ht => (hT V hVl ht).2 (.inl rfl)), h.ji.kept c (fun ht => (hT J hJl ht).2 (.inr (.inl rfl))), h.ne, h.nV, h.nJ, h.im.kept c hk, h.ch.kept c hk, h.bi, by have := h.bc; omega, h.bx, by have := h.tb; omega, h.t0⟩

/-- Behind Open: the image is sealed. -/
theorem cs_seal {w1 : World} {d : Dev} {K : Nat → Prop} {T B bh bt : Nat} {P : List (List UInt8) → Prop} {nv : Value} {nl : List UInt8} (hdj : DJ w0 w1 D d K) (hd : d.down = false) (hl : d.left = 0) (hw : d.waits = []) (ha : After d.l 50 T P) (c : Chg (fun _ => False) w1 w) (hB : w1.heap.size ≤ B) (hB2 : B < w.heap.size)
    (hv : VCells w B D bh bt (.pointer none)) (hh : bh ≤ 1) (hn : RB w nv nl) (hnf : ∀ k, nv.ownBlock = some k → w1.heap.size ≤ k ∧ k ≠ B) (hnl : nl.length ≤ 300) (hT : T ≤ 2 * i + 2) (hi : i ≤ 25) :
    Calls Try.prog 42 #[.pointer (some ⟨B, 0, none⟩), nv] w fun e w' => e = .returned (.int .i64 0) ∧ ∃ J' h' T' d', VK w0 w' D B J' h' T' (i + 1) (fun k => nv.ownBlock = some k) d' nl [] nv (.slice none 0 0) := by
  have hcn := costN_le (n := nl.length) (by omega)
  have hmx : maxT d.l ≤ T := maxT_le fun x hx => (ha.known x hx).2
  have hdj2 : DJ w0 w D d (fun k => k = B ∨ nv.ownBlock = some k) := hdj.kept c (fun _ _ h => h.elim) (fun k hk => by
    rcases hk with hk | hk
    · exact .inr ⟨by omega, by omega⟩
    · exact .inr ⟨(hnf k hk).1, hn.lt' k hk⟩)
  refine (vseal_a w0 w D B 50 bh bt (maxT d.l) _ (fun k => k = B ∨ nv.ownBlock = some k) d nv nl hdj2 hv (.inl rfl) hh (.inl hn) (.inr fun k hk => .inr (.inr hk)) (by omega) (by omega) hd ha.len hw (by omega) (fun x hx => (ha.known x hx).1) rfl (by omega) (by omega) (by omega)).mono ?_
  rintro e w' (⟨rfl, ⟨J', g1, g2, g3, g4, g5⟩, T2, c2, hT2⟩ | ⟨rfl, g0, _⟩)
  · have hnB : ¬ nv.ownBlock = some B := fun h => (hnf B h).2 rfl
    have hk : ∀ k, k < w.heap.size → T2 k → w0.heap.size ≤ k ∧ ¬ nv.ownBlock = some k := fun k hk ht => ⟨(hT2 k hk ht).1, fun h => by
      have := (hT2 k hk ht).2 (.inr h)
      rw [this] at h; exact hnB h⟩
    refine ⟨rfl, J', 1 - bh, maxT d.l + 1, flushed (flushed (flushed d (wipeW (1 - bh) 50)) (imgW (1 - bh) 50 (maxT d.l + 1) nl)) (wipeW bh 50), ?_, ?_, flushed_waits _ _, flushed_dn (flushed_dn (flushed_dn hd)), ?_, g2, ?_, g4, hnB, fun hK => by have := hn.lt' J' hK; omega, KBytes.kept ⟨.inl hn, .inr fun k hk => .inr hk⟩ c2 hk, KRows.nil _ _ _, hnl, by simp, by simp, by omega, by omega⟩
    · exact g1.less (fun k hk => by
        rcases hk with hk | hk | hk
        · exact .inl (.inl hk)
        · exact .inr hk
        · exact .inl (.inr hk))
    · exact sealed_clean hw ha.len ha.l64 hh (by omega) (by omega) (by omega) nl (by omega)
    · exact Nat.le_trans (Nat.le_trans (flushed_left _ _) (Nat.le_trans (flushed_left _ _) (flushed_left _ _))) (by omega)
    · have e : total [nl] = costN nl.length := by simp [total]
      rw [e]
      exact g3
  · exact absurd hl g0
end Go.Proofs.Ytjhkhdockiocgaa

/- Law 11, VaultKeeps: the begin. -/
namespace Go.Proofs.Ytjhkhdockiocgaa
open Go.RowKit Go.Cat
theorem vk_init {w0 w : World} {D V J : Nat} {S : Nat → Prop} {d : Dev} (h : VU w0 w D V J 50 0 1 [[]] S d) : VK w0 w D V J 0 1 0 (fun _ => False) d [] [] (.slice none 0 0) (.slice none 0 0) :=
  ⟨h.dj.less (fun k hk => by
    rcases hk with hk | hk | hk
    · rw [hk]; exact h.sV
    · rw [hk]; exact h.sJ
    · exact hk.elim), h.inv.clean, h.inv.waits, h.dn, by rw [h.lf]; omega, h.vis, h.ji, h.ne, fun h => h, fun h => h, ⟨.inl (RB.nil w), .inl ⟨rfl, _, rfl⟩⟩, KRows.nil _ _ _, by simp, by simp, by simp, by omega, by omega⟩
theorem exec_slice11 {P : Program} {o : Oper} {a : Act} {w : World} (t : TypeId) (x : Operand) (lo hi mx : Option Operand) (ho : o.op = .slice t x lo hi mx) (v : Value) (h : (Instr.sliceAt t (a.eval x) (lo.map a.eval) (hi.map a.eval) (mx.map a.eval)).run P w = .ok v w) : (execOp a.eval o).run P w = .ok (.value v) w := by
  unfold execOp
  simp only [ho]
  cases lo <;> cases hi <;> cases mx <;> simp_all [Sem.run_bind]
/-- append(changes[:n:n], data). -/
theorem krows_push {w0 w w' : World} {K : Nat → Prop} {chs : List (List UInt8)} {v' dv : Value} {l : List UInt8} {vs : List Value} (hb : ∀ (i : Nat) (u : Value) (x : List UInt8), vs[i]? = some u → chs[i]? = some x → RBz w u x ∧ Old w0 K u x) (h1 : ∀ u ∈ vs, u.oneCell' = true) (hvl : vs.length = chs.length)
    (hd : RBz w dv l) (hdo : Old w0 K dv l) (hd1 : dv.oneCell' = true) (own : Owns w' 1 v' (chs.length + 1) (vs ++ [dv])) (c : Chg (fun _ => False) w w') :
    KRows w0 w' (fun k => K k ∨ v'.ownBlock = some k) v' (chs ++ [l]) := by
  refine ⟨vs ++ [dv], by rw [List.length_append]; exact own.reads, fun i u x hu hx => ?_, fun k hk => .inr (.inr hk), fun u hu => ?_⟩
  · rcases Nat.lt_or_ge i vs.length with hi | hi
    · rw [List.getElem?_append_left hi] at hu
      rw [List.getElem?_append_left (by omega)] at hx
      obtain ⟨g1, g2⟩ := hb i u x hu hx
      exact ⟨g1.same c, g2.mono (fun _ h => .inl h)⟩
    · rw [List.getElem?_append_right hi] at hu
      rw [List.getElem?_append_right (by omega)] at hx
      have e1 : i - vs.length = 0 := by have := (List.getElem?_eq_some_iff.1 hu).1; simp at this; omega
      have e2 : i - chs.length = 0 := by omega
      rw [e1] at hu; rw [e2] at hx
      simp at hu hx
      subst hu; subst hx
      exact ⟨hd.same c, hdo.mono (fun _ h => .inl h)⟩
  · rcases List.mem_append.1 hu with hu | hu
    · exact h1 u hu
    · rw [List.mem_singleton.1 hu]; exact hd1
theorem old_of {w0 : World} {K : Nat → Prop} {v : Value} {l : List UInt8} (h : RBz w0 v l) : Old w0 K v l := by
  rcases h with h | h
  · exact .inr fun k hk => .inl (h.lt' k hk)
  · exact .inl h
theorem rbz_one {w : World} {v : Value} {l : List UInt8} (h : RBz w v l) : v.oneCell' = true := by
  obtain ⟨a, c, rfl⟩ := h.form
  rfl
theorem ob_one (w : World) (T : TypeId) (b : UInt8) : OB (w.alloc (.cells #[.int .u8 b.toNat] T)) (.slice (some ⟨w.heap.size, 0, none⟩) 1 1) [b] := by
  unfold OB
  refine Owns.made (heap_alloc_new w _) (by simp) (by simp) (by simp [maxLen]) (by simp) (fun j u hj => ?_)
  simpa [bs] using hj
theorem neqn_bytes (w : World) (a : Option Addr) (n c : Nat) : (binOp .neq 33 (.slice a n c) (.slice none 0 0)).run Try.prog w = .ok (.bool (!a.isNone)) w := by
  simp only [binOp]
  simp [Op.equal, Op.maxDepth, Lib.run_equalIn_slice_nil w 9999 33 5 a n c 0 0 Try.underlying33]
/-- Behind a crash. -/
theorem cs_up {w0 w : World} {D T : Nat} {K : Nat → Prop} {d : Dev} {img : List UInt8} {chs : List (List UInt8)} {iv cv wv fv : Value} (h : CS w0 w D K d T img chs iv cv wv fv) :
    Calls Try.prog 29 #[.pointer (some ⟨D, 0, none⟩)] w fun e w' => e = .returned (.tuple #[]) ∧ CS w0 w' D K { d with down := false, left := 0 } T img chs iv cv wv fv := by
  refine (dj_up w0 w D d K h.dj).mono ?_
  rintro e w' ⟨rfl, g1, T', c, hT⟩
  obtain ⟨al2, h2, P, h3, h4⟩ := h.alt
  exact ⟨rfl, g1, h.wt, h.im.kept c hT, h.ch.kept c hT, h.nc, al2, h2.kept c hT, P, h3, h4⟩
/-- Behind Open. -/
structure OP (w0 wo w : World) (D T : Nat) (K : Nat → Prop) (d : Dev) (img : List UInt8) (chs : List (List UInt8)) (iv cv wv fv iv2 cv2 : Value) (r : List UInt8) (rs : List (List UInt8)) : Prop where
  dj : DJ w0 wo D d K
  dn : d.down = false
  lf : d.left = 0
  wt : d.waits = []
  aft : ∃ P, After d.l 50 T P
  chg : Chg (fun _ => False) wo w
  lt : wo.heap.size < w.heap.size
  vc : ∃ bh bt, VCells w wo.heap.size D bh bt (.pointer none) ∧ bh ≤ 1
  im : RBz w iv img
  ch : RBs w cv chs
  nc : chs.length ≤ 1000
  now : ∃ al2, NowIs w0 w K wv fv img al2 ∧ (r :: rs = img :: chs ∨ r :: rs = al2)
  r2 : RBz w iv2 r
  rs2 : RBs w cv2 rs
  lr : r.length ≤ 1000
  lrs : rs.length ≤ 1000
  lx : ∀ x ∈ rs, x.length ≤ 1000
theorem OP.same {w0 wo w w' : World} {D T : Nat} {K : Nat → Prop} {d : Dev} {img : List UInt8} {chs : List (List UInt8)} {iv cv wv fv iv2 cv2 : Value} {r : List UInt8} {rs : List (List UInt8)} (h : OP w0 wo w D T K d img chs iv cv wv fv iv2 cv2 r rs) (c : Chg (fun _ => False) w w') : OP w0 wo w' D T K d img chs iv cv wv fv iv2 cv2 r rs := by
  obtain ⟨bh, bt, v1, v2⟩ := h.vc
  obtain ⟨al2, n1, n2⟩ := h.now
  have := h.lt
  have := c.size
  exact ⟨h.dj, h.dn, h.lf, h.wt, h.aft, h.chg.trans c, by omega, ⟨bh, bt, v1.kept c (fun h => h), v2⟩, h.im.same c, h.ch.same c, h.nc, ⟨al2, n1.kept c (fun _ _ h => h.elim), n2⟩, h.r2.same c, h.rs2.same c, h.lr, h.lrs, h.lx⟩
theorem cs_open {w0 w : World} {D T : Nat} {K : Nat → Prop} {d : Dev} {img : List UInt8} {chs : List (List UInt8)} {iv cv wv fv : Value} (h : CS w0 w D K d T img chs iv cv wv fv) (hd : d.down = false) (hl : d.left = 0) :
    Calls Try.prog 47 #[.pointer (some ⟨D, 0, none⟩)] w fun e w' => ∃ iv2 cv2 r rs, e = .returned (.tuple #[.pointer (some ⟨w.heap.size, 0, none⟩), iv2, cv2, .int .i64 0]) ∧ OP w0 w w' D T K d img chs iv cv wv fv iv2 cv2 r rs := by
  obtain ⟨al2, h2, P, h3, h4⟩ := h.alt
  refine (vopen_g w0 w D 50 K d h.dj hd h3.len h.wt (fun x hx => (h3.known x hx).1) (by omega) (by omega) (fun bh bt al hs => (h3.opens bh bt al hs).2.1)).mono ?_
  rintro e w' ⟨iv2, cv2, bh, bt, r, rs, rfl, hs, hv, hr, hrs, c⟩
  obtain ⟨o1, _, o3⟩ := h3.opens bh bt _ hs
  obtain ⟨g1, g2⟩ := h4 _ o3
  obtain ⟨b1, b2, b3⟩ := g2 r rs rfl
  have hlt : w.heap.size < w'.heap.size := by obtain ⟨T, hb⟩ := hv; exact (Array.getElem?_eq_some_iff.1 hb).1
  exact ⟨iv2, cv2, r, rs, rfl, h.dj, hd, hl, h.wt, ⟨P, h3⟩, c, hlt, ⟨bh, bt, hv, o1⟩, h.im.1.same c, h.ch.rbs.same c, h.nc, ⟨al2, h2.kept c (fun _ _ h => h.elim), g1⟩, hr, hrs, b1, b2, b3⟩
variable {w0 wo w : World} {D T i : Nat} {K : Nat → Prop} {d : Dev} {img : List UInt8} {chs : List (List UInt8)} {iv cv wv fv iv2 cv2 : Value} {r : List UInt8} {rs : List (List UInt8)}
theorem op_same1 (h : OP w0 wo w D T K d img chs iv cv wv fv iv2 cv2 r rs) :
    ∃ b1 : Bool, (r :: rs = img :: chs → b1 = true) ∧ Calls Try.prog 48 #[iv2, cv2, iv, cv] w fun e w' => e = .returned (.bool b1) ∧ Chg (fun _ => False) w w' :=
  ⟨_, fun e => by obtain ⟨e1, e2⟩ := List.cons.inj e; exact decide_eq_true ⟨e1, e2⟩, same11 iv2 cv2 iv cv r img rs chs w h.r2 h.rs2 h.im h.ch (by have := h.lrs; omega) (by have := h.nc; omega)⟩
theorem op_now (h : OP w0 wo w D T K d img chs iv cv wv fv iv2 cv2 r rs) :
    (fv = .slice none 0 0 ∧ ∃ b2 : Bool, (r :: rs = img :: chs ∨ b2 = true) ∧ Calls Try.prog 48 #[iv2, cv2, iv, wv] w fun e w' => e = .returned (.bool b2) ∧ Chg (fun _ => False) w w') ∨
    (∃ p n c, fv = .slice (some p) n c ∧ ∃ b2 : Bool, (r :: rs = img :: chs ∨ b2 = true) ∧ Calls Try.prog 48 #[iv2, cv2, fv, .slice none 0 0] w fun e w' => e = .returned (.bool b2) ∧ Chg (fun _ => False) w w') := by
  obtain ⟨al2, n1, n2⟩ := h.now
  rcases n1 with ⟨e1, ws, e2, e3, e4⟩ | ⟨p, n, c, fr, e1, e2, e3⟩
  · exact .inl ⟨e1, _, n2.imp id (fun e => by rw [e4] at e; obtain ⟨e5, e6⟩ := List.cons.inj e; exact decide_eq_true ⟨e5, e6⟩), same11 iv2 cv2 iv wv r img rs ws w h.r2 h.rs2 h.im e2.rbs (by have := h.lrs; omega) (by omega)⟩
  · refine .inr ⟨p, n, c, e1, _, n2.imp id (fun e => by rw [e3] at e; obtain ⟨e5, e6⟩ := List.cons.inj e; exact decide_eq_true ⟨e5, e6⟩), same11 iv2 cv2 fv _ r fr rs [] w h.r2 h.rs2 e2.1 ⟨[], Reads.nil w 1, by simp⟩ (by have := h.lrs; omega) (by simp)⟩
theorem op_seal (h : OP w0 wo w D T K d img chs iv cv wv fv iv2 cv2 r rs) {nv : Value} {nl : List UInt8} (hn : RB w nv nl) (hnf : ∀ k, nv.ownBlock = some k → wo.heap.size < k) (hnl : nl.length ≤ 300) (hT : T ≤ 2 * i + 2) (hi : i ≤ 25) :
    Calls Try.prog 42 #[.pointer (some ⟨wo.heap.size, 0, none⟩), nv] w fun e w' => e = .returned (.int .i64 0) ∧ ∃ J' h' T' d', VK w0 w' D wo.heap.size J' h' T' (i + 1) (fun k => nv.ownBlock = some k) d' nl [] nv (.slice none 0 0) := by
  obtain ⟨bh, bt, v1, v2⟩ := h.vc
  obtain ⟨P, ha⟩ := h.aft
  exact cs_seal h.dj h.dn h.lf h.wt ha h.chg (Nat.le_refl _) h.lt v1 v2 hn (fun k hk => ⟨Nat.le_of_lt (hnf k hk), Nat.ne_of_gt (hnf k hk)⟩) hnl hT hi
/-- The law's last Open. -/
theorem vk_open {V J half t : Nat} (h : VK w0 w D V J half t i K d img chs iv cv) (hi : i ≤ 25) :
    Calls Try.prog 47 #[.pointer (some ⟨D, 0, none⟩)] w fun e w' => ∃ iv2 cv2 p, e = .returned (.tuple #[p, iv2, cv2, .int .i64 0]) ∧ Chg (fun _ => False) w w' ∧ Calls Try.prog 48 #[iv2, cv2, iv, cv] w' fun e w'' => e = .returned (.bool true) ∧ Chg (fun _ => False) w' w'' := by
  have htb := h.tb
  have hbc := h.bc
  have ha := h.cln.after (by simp) (by omega) (by omega) (by omega) h.t0
  refine (vopen_g w0 w D 50 _ d h.dj h.dn ha.len h.wt (fun x hx => (ha.known x hx).1) (by omega) (by omega) (fun bh bt al hs => (ha.opens bh bt al hs).2.1)).mono ?_
  rintro e w' ⟨iv2, cv2, bh, bt, r, rs, rfl, hs, hv, hr, hrs, c⟩
  obtain ⟨_, _, o3⟩ := ha.opens bh bt _ hs
  obtain ⟨rfl, rfl⟩ := List.cons.inj o3
  refine ⟨iv2, cv2, _, rfl, c, ?_⟩
  have := same11 iv2 cv2 iv cv r r rs rs w' hr hrs (h.im.1.same c) (h.ch.rbs.same c) (by omega) (by omega)
  rw [show decide (r = r ∧ rs = rs) = true from decide_eq_true ⟨rfl, rfl⟩] at this
  exact this
end Go.Proofs.Ytjhkhdockiocgaa
namespace Go.Cat
open Go.RowKit
theorem wp_app_full {P : Program} {w : World} {o : Oper} {a : Act} {K : Act → World → Prop} {Q : Exit → Act → World → Prop} (s x : Operand) (t : TypeId)
    (ho : o.op = .call { callee := .builtin .append, args := #[s, x], argTypes := #[t, t] })
    (e : TypeId) (z : Value) (size bytes : Nat) (ht : P.underlying t = some (.slice e)) (hi : (P.info? e).map (fun i => (i.zero, i.size, i.bytes)) = some (some z, size, bytes)) (hzs : z.cells.size = size)
    (ad : Option Addr) (n : Nat) (xs : List Value) (hs : a.eval s = .slice ad n n) (hr : Reads w size (.slice ad n n) n xs)
    (y : Value) (m : Nat) (news : List Value) (hy : a.eval x = y) (hx : Reads w size y m news) (hm : 1 ≤ m)
    (h63 : n + m ≤ maxLen) (hbytes : (n + m) * bytes ≤ 140737488355328)
    (h : ∀ v' w', Owns w' size v' (n + m) (xs ++ news) → Chg (fun _ => False) w w' → (∀ k, v'.ownBlock = some k → k = w.heap.size) → K (a.put o.dst v') w') : o.wp P a w K Q := by
  obtain ⟨i, hi, hz0, hz1, hz2⟩ := info_parts hi
  obtain ⟨v', w', hrun, h2, h3, h4⟩ := run_app_full (P := P) w t o.type e i z size bytes ht hi hz0 hz1 hz2 hzs ad n xs hr y m news hx hm h63 hbytes
  unfold Oper.wp execOp
  simp only [ho, resolve, invoke, builtin, Sem.run_bind, Sem.run_pure, Result.andThen_ok, List.map_toArray, List.map_cons, List.map_nil, hs, hy, hrun]
  exact h v' w' h2 h3 h4
theorem store_new11 {P : Program} (t : TypeId) (z c : List Value) (T : TypeId) (hi : (P.info? t).map (·.size) = some c.length) (hz : z.length = c.length) (h1 : ∀ u ∈ c, u.oneCell' = true) (w : World) :
    (Instr.storeAt t (.pointer (some ⟨w.heap.size, 0, none⟩)) (.agg c.toArray)).run P (w.alloc (.cells z.toArray T)) = .ok () (w.alloc (.cells c.toArray T)) := by
  have hcell : ∀ j, j < c.length → ((w.alloc (.cells z.toArray T)).cell? ⟨w.heap.size, 0 + j, none⟩).isSome = true := fun j hj => by
    rw [cell_of_heap (heap_alloc_new w _)]; simp [hz, hj]
  have hf : ∀ j, j < c.length → (w.alloc (.cells z.toArray T)).frozen? ⟨w.heap.size, 0 + j, none⟩ = false := fun j _ => frozen_of_heap (heap_alloc_new w _) _
  rw [run_storeAt_agg _ t _ 0 c hi hcell hf h1, setCells_alloc c w z T 0 (by omega)]
  rw [Nat.zero_add, List.drop_of_length_le (Nat.le_of_eq hz)]; simp
end Go.Cat
