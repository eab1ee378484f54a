/- Contracts of package device: Flush, Crash, Read, Image. -/
import Derived.Test.YtjhkhdockiocgaaDevice
namespace Go.Proofs.Ytjhkhdockiocgaa
open Go.RowKit Go.Cat

theorem store_wri (c : List Value) (hc : c.length = 65) (h1 : ∀ u ∈ c, u.oneCell' = true) (w : World) : (Instr.storeAt 185 (.pointer (some ⟨w.heap.size, 0, none⟩)) (.agg c.toArray)).run Try.prog (w.alloc (.cells Try.zeroCells185 185)) = .ok () (w.alloc (.cells c.toArray 185)) :=
  run_storeAt_new w _ _ _ (by obtain ⟨i0, hi, hz0, hz1, hz2⟩ := info_parts Try.infoWri; rw [hi]; simp [hz1, hc]) (by rw [Try.zeroCells185_size]; simp [hc]) (by simpa using h1)
theorem size_sec : (Try.prog.info? 183).map (·.size) = some 64 := by kernel_rfl
theorem size_wri : (Try.prog.info? 185).map (·.size) = some 65 := by kernel_rfl
theorem wcells_length {x : Nat × List UInt8} (h : x.2.length = 64) : (wcells x).length = 65 := by simp [wcells, h]
theorem wcells_one (x : Nat × List UInt8) : ∀ u ∈ wcells x, u.oneCell' = true := by
  intro u hu; rcases List.mem_cons.1 hu with rfl | hu; rfl; exact bs_one _ u hu

def flushTo (l : List (List UInt8)) (ws : List (Nat × List UInt8)) : List (List UInt8) := ws.foldl (fun l x => l.set x.1 x.2) l
theorem flushTo_ok : ∀ (ws : List (Nat × List UInt8)) (l : List (List UInt8)), (∀ x ∈ ws, x.2.length = 64) → (∀ x ∈ l, x.length = 64) → (flushTo l ws).length = l.length ∧ ∀ x ∈ flushTo l ws, x.length = 64
  | [], l, _, h => ⟨rfl, h⟩
  | x :: ws, l, hw, h => by
    have := flushTo_ok ws (l.set x.1 x.2) (fun y hy => hw y (by simp [hy])) (fun y hy => by
      rcases List.mem_or_eq_of_mem_set hy with h1 | h1
      · exact h y h1
      · subst h1; exact hw x (by simp))
    simpa [flushTo] using this
theorem flushTo_step (l : List (List UInt8)) (ws : List (Nat × List UInt8)) (k : Nat) (x : Nat × List UInt8) (h : ws[k]? = some x) : flushTo l (ws.take (k + 1)) = (flushTo l (ws.take k)).set x.1 x.2 := by
  rw [List.take_add_one, h]; simp [flushTo]

set_option maxRecDepth 100000 in
set_option maxHeartbeats 1000000 in
theorem flush_ok (w : World) (D : Nat) (lv wv : Value) (d : Dev) (h : DevIs w D lv wv d) (hd : d.down = false) (hm : d.waits.length ≤ 1000000) :
    Calls Try.prog 76 #[.pointer (some ⟨D, 0, none⟩)] w fun e w' => e = .returned (.int .i64 0) ∧ DevIs w' D lv (.slice none 0 0) { d with l := flushTo d.l d.waits, waits := [] } ∧ Chg (foot D lv wv) w w' := by
  obtain ⟨T, hh⟩ := h.heap
  obtain ⟨la, lc, rfl⟩ := h.ownL.form
  obtain ⟨wa, wc, rfl⟩ := h.ownW.form
  obtain ⟨n, hn⟩ : ∃ n, n = d.l.length := ⟨_, rfl⟩
  obtain ⟨m, hmm⟩ : ∃ m, m = d.waits.length := ⟨_, rfl⟩
  rw [← hn, ← hmm] at h hh
  rw [← hn, ← hmm]
  rw [← hmm] at hm
  have hc1 := cell_of_heap hh 1
  simp only [List.getElem?_toArray, List.getElem?_cons_zero, List.getElem?_cons_succ] at hc1
  have HB := Lib.hid hh
  have H := Lib.hid h
  have HD := Lib.hid hd
  have HN := Lib.hid hn
  have HM := Lib.hid hmm
  have hDl : D < w.heap.size := (Array.getElem?_eq_some_iff.1 hh).1
  clear hh h hd hn hmm
  go_enter Try.func76, Try.ntmps76
  go_wp2_with (first | (go_at_call 50; refine (down_no w D _ _ d H.out).mono ?_; rintro e w1 ⟨rfl, rfl⟩; rw [HD.out]))
  clear hc1
  go_loopw [4, 12] (fun _ i wr => ∃ k : Nat, k ≤ m ∧ i = .int .i64 k ∧ Chg (fun b => (Value.slice la n lc).ownBlock = some b) w wr ∧ Hid (Owns wr 64 (.slice la n lc) n ((flushTo d.l (d.waits.take k)).flatMap bs))) (fun _ i _ => m - (intOf i).toNat)
  case atStart =>
    refine ⟨0, by omega, rfl, Chg.refl _ _, ?_⟩
    have := H.out.ownL
    rw [← HN.out] at this
    exact this
  case round =>
    obtain ⟨k, hk, rfl, hch, hol⟩ := hrel
    have hLD : ∀ b, (Value.slice la n lc).ownBlock = some b → b ≠ D := H.out.apL
    have hnD : ¬ (Value.slice la n lc).ownBlock = some D := fun h => hLD D h rfl
    by_cases hlt : k < m
    · obtain ⟨x, hx⟩ : ∃ x, d.waits[k]? = some x := ⟨_, List.getElem?_eq_getElem (by rw [← HM.out]; exact hlt)⟩
      obtain ⟨hx64, hxn⟩ := H.out.wait x (List.mem_of_getElem? hx)
      rw [← HN.out] at hxn
      obtain ⟨hfl, hf64⟩ := flushTo_ok (d.waits.take k) d.l (fun y hy => (H.out.wait y (List.mem_of_mem_take hy)).1) H.out.len
      obtain ⟨old, hold⟩ : ∃ y, (flushTo d.l (d.waits.take k))[x.1]? = some y := ⟨_, List.getElem?_eq_getElem (by rw [hfl, ← HN.out]; exact hxn)⟩
      obtain ⟨g, o, rfl⟩ : ∃ g o, la = some ⟨g, o, none⟩ := by
        rcases hol.out.2 with ⟨hv, h0⟩ | ⟨g, o, c, hv, _⟩
        · omega
        · simp only [Value.slice.injEq] at hv; exact ⟨g, o, hv.1⟩
      obtain ⟨wg, wo, rfl⟩ : ∃ g o, wa = some ⟨g, o, none⟩ := by
        rcases H.out.ownW.2 with ⟨hv, h0⟩ | ⟨g, o, c, hv, _⟩
        · rw [← HM.out] at h0; omega
        · simp only [Value.slice.injEq] at hv; exact ⟨g, o, hv.1⟩
      have hoW := H.out.ownW
      rw [← HM.out] at hoW
      have hel := Owns.elem hoW (fun y hy => wcells_length (H.out.wait y hy).1) k x hx
      have hgl : g < w.heap.size := H.out.ownL.lt g rfl
      have hwgl : wg < w.heap.size := H.out.ownW.lt wg rfl
      have hgw : g ≠ wg := fun h => (H.out.apW wg rfl).2 (by subst h; rfl)
      have hgD : g ≠ D := hLD g rfl
      have hld : (Instr.loadAt 185 (.pointer (some ⟨wg, wo + k * 65, none⟩))).run Try.prog wr = .ok (.agg (wcells x).toArray) wr :=
        run_loadAt_agg wr _ _ _ _ (wcells x) Try.underlying185 rfl (by rw [size_wri, wcells_length hx64]) (fun j u hj => hch.cell (hel.1 j u hj) (fun h => by
          have h : (Value.slice (some ⟨g, o, none⟩) n lc).ownBlock = some wg := h
          simp [Value.ownBlock] at h; exact hgw h))
      have hsc := store_wri (wcells x) (wcells_length hx64) (wcells_one x) wr
      have hsz : w.heap.size ≤ wr.heap.size := hch.size
      have HEL := Lib.hid hel
      have HOLD := Lib.hid hold
      have HX := Lib.hid hx
      have HX64 := Lib.hid hx64
      have HF64 := Lib.hid hf64
      have HFL := Lib.hid hfl
      obtain ⟨c1, hc1e⟩ : ∃ c, c = wcells x := ⟨_, rfl⟩
      rw [← hc1e] at hld hsc
      have HC1 := Lib.hid hc1e
      clear hel hold hx hx64 hf64 hfl hc1e hoW
      go_wp2_with (first | refine wpList_load rfl 185 _ rfl _ _ rfl hld ?_ | refine wpList_store rfl 185 _ _ rfl _ _ _ rfl rfl hsc ?_)
      obtain ⟨W1, hW1⟩ : ∃ W, W = wr.alloc (.cells c1.toArray 185) := ⟨_, rfl⟩
      rw [← hW1]
      have hN1 : W1.heap[wr.heap.size]? = some (.cells c1.toArray 185 (0, 0)) := by rw [hW1]; exact heap_at_new _ _ _ rfl
      have k1 : Chg (fun b => (Value.slice (some ⟨g, o, none⟩) n lc).ownBlock = some b) w W1 := by rw [hW1]; exact hch.alloc _
      have hgN : ¬ wr.heap.size = g := by omega
      have q0 : ∀ w', Chg (fun k => k = g) W1.drew w' → w'.cell? ⟨D, 0, none⟩ = some (.slice (some ⟨g, o, none⟩) n lc) := fun w' hw' =>
        hw'.cell (k1.cell (by rw [cell_of_heap HB.out]; rfl) hnD) (fun h => hgD h.symm)
      have qN : ∀ w', Chg (fun k => k = g) W1.drew w' → ∀ (j : Nat) (u : Value), c1[j]? = some u → w'.cell? ⟨wr.heap.size, j, none⟩ = some u := fun w' hw' j u hj =>
        hw'.cell (by show W1.cell? _ = _; rw [cell_of_heap hN1]; simpa using hj) hgN
      have q1 : ∀ w', Chg (fun k => k = g) W1.drew w' → w'.cell? ⟨wr.heap.size, 0, none⟩ = some (.int .i64 x.1) := fun w' hw' => qN w' hw' 0 _ (by rw [HC1.out]; rfl)
      have q2 : ∀ w', Chg (fun k => k = g) W1.drew w' → (Instr.loadAt 183 (.pointer (some ⟨wr.heap.size, 1, none⟩))).run Try.prog w' = .ok (.agg (bs x.2).toArray) w' := fun w' hw' =>
        run_loadAt_agg w' _ _ _ _ (bs x.2) Try.underlying183 rfl (by rw [size_sec, bs_length, HX64.out]) (fun j u hj => qN w' hw' (1 + j) u (by rw [HC1.out, Nat.add_comm]; simpa [wcells] using hj))
      have ho1 : Owns W1 64 (.slice (some ⟨g, o, none⟩) n lc) n ((flushTo d.l (d.waits.take k)).flatMap bs) := by rw [hW1]; exact Owns.alloc hol.out _
      have hfn : (flushTo d.l (d.waits.take k)).length = n := by rw [HFL.out, HN.out]
      have helm := Owns.elem ho1 (bs64 HF64.out) x.1 old HOLD.out
      have hst : (Instr.storeAt 183 (.pointer (some ⟨g, o + x.1 * 64, none⟩)) (.agg (bs x.2).toArray)).run Try.prog W1.drew = .ok () (W1.drew.setCells g (o + x.1 * 64) (bs x.2)) :=
        run_storeAt_agg W1.drew _ _ _ (bs x.2) (by rw [size_sec, bs_length, HX64.out]) (fun j hj => helm.2.1 j (by rw [bs_length, HX64.out] at hj; exact hj)) (fun j hj => helm.2.2 j (by rw [bs_length, HX64.out] at hj; exact hj)) (bs_one _)
      have hput := Owns.put (Owns.drew ho1) (bs64 HF64.out) hfn x.1 0 old x.2 (bs x.2) HOLD.out (by rw [bs_length, HX64.out]; omega) (by rw [bs_length, HX64.out]; simp [HF64.out old (List.mem_of_getElem? HOLD.out)])
      rw [← flushTo_step _ _ _ _ HX.out] at hput
      have hend : Chg (fun b => (Value.slice (some ⟨g, o, none⟩) n lc).ownBlock = some b) w (W1.drew.setCells g (o + x.1 * 64) (bs x.2)) :=
        (k1.drew).trans ((Chg.setCells W1.drew g _ _).mono (fun b _ hb => by rw [hb]; rfl))
      have Q0 := Lib.hid q0
      have Q1 := Lib.hid q1
      have Q2 := Lib.hid q2
      have HST := Lib.hid hst
      have HPUT := Lib.hid hput
      have hxn' : (x.1 : Int) < n := by omega
      clear q0 qN q1 q2 hst hput hW1 hN1 ho1 hfn helm hld hsc k1 hch hol
      simp only [Act.put]
      refine wpT.begin (fun k => k = g) 10 (by kernel_rfl) rfl ?_
      refine wpT.take 0 rfl (by kernel_rfl) (fun _ _ _ h => h) rfl (fun w' hw' => by go_simp <;> with_reducible rfl) ?_
      simp only [Act.put, List.setIfInBounds_toArray, List.set_cons_zero, List.set_cons_succ]
      refine wpT.take 1 rfl (by kernel_rfl) (fun _ _ _ h => h) rfl (fun w' hw' => by go_simp <;> with_reducible rfl) ?_
      simp only [Act.put, List.setIfInBounds_toArray, List.set_cons_zero, List.set_cons_succ]
      refine wpT.take 2 rfl (by kernel_rfl) (fun _ _ _ h => h) rfl (fun w' hw' => by go_simp <;> with_reducible rfl) ?_
      simp only [Act.put, List.setIfInBounds_toArray, List.set_cons_zero, List.set_cons_succ]
      refine wpT.take 3 rfl (by kernel_rfl) (fun _ _ _ h => h) rfl (fun w' hw' => by have hx := Q0.out w' hw'; go_simp <;> with_reducible rfl) ?_
      simp only [Act.put, List.setIfInBounds_toArray, List.set_cons_zero, List.set_cons_succ]
      refine wpT.take 4 rfl (by kernel_rfl) (fun _ _ _ h => h) rfl (fun w' hw' => by go_simp <;> with_reducible rfl) ?_
      simp only [Act.put, List.setIfInBounds_toArray, List.set_cons_zero, List.set_cons_succ]
      refine wpT.take 5 rfl (by kernel_rfl) (fun _ _ _ h => h) rfl (fun w' hw' => by have hx := Q1.out w' hw'; go_simp <;> with_reducible rfl) ?_
      simp only [Act.put, List.setIfInBounds_toArray, List.set_cons_zero, List.set_cons_succ]
      refine wpT.take 6 rfl (by kernel_rfl) (fun _ _ _ h => h) rfl (fun w' hw' => by go_simp <;> with_reducible rfl) ?_
      simp only [Act.put, List.setIfInBounds_toArray, List.set_cons_zero, List.set_cons_succ]
      refine wpT.take 7 rfl (by kernel_rfl) (fun _ _ _ h => h) rfl (fun w' hw' => exec_load _ _ _ _ rfl rfl (Q2.out w' hw')) ?_
      simp only [Act.put, List.setIfInBounds_toArray, List.set_cons_zero, List.set_cons_succ]
      refine wpT.take 8 rfl (by kernel_rfl) (fun _ _ _ h => h) rfl (fun w' hw' => by go_simp <;> with_reducible rfl) ?_
      simp only [Act.put, List.setIfInBounds_toArray, List.set_cons_zero, List.set_cons_succ]
      refine wpT.call 9 rfl (by kernel_rfl) rfl (fun K hK => ?_)
      refine wp_skipped _ (exec_store _ _ _ _ _ _ rfl rfl rfl HST.out) ?_
      refine hK _ _ (Chg.setCells W1.drew g _ _) ?_
      refine wpT.done (by kernel_rfl) ?_
      clear hK
      go_wp2_with fail
      exact ⟨⟨k + 1, by omega, rfl, hend, HPUT.out⟩, by simp only [intOf]; omega⟩
    · obtain rfl : k = m := by omega
      have hc1 : wr.cell? ⟨D, 1, none⟩ = some (.slice wa k wc) := hch.cell (by rw [cell_of_heap HB.out]; rfl) hnD
      have hf : ∀ i, wr.frozen? ⟨D, i, none⟩ = false := frozen_of_heap (hch.heap HB.out hnD)
      have hfin := hol.out
      rw [HM.out, List.take_length] at hfin
      have HF := Lib.hid hfin
      clear hfin hol
      go_wp2_with fail
      go_ret
      have c4 : Chg (fun k => k = D) wr (wr.setCell ⟨D, 1, none⟩ (.slice none 0 0)) := (Chg.refl (fun k => k = D) wr).setCell (p := ⟨D, 1, none⟩) (fun _ => rfl) _
      obtain ⟨hfl, hf64⟩ := flushTo_ok d.waits d.l (fun y hy => (H.out.wait y hy).1) H.out.len
      refine ⟨rfl, ⟨⟨T, Cat.heap_setCell_same (hch.heap HB.out hnD) 1 _⟩, ?_, Owns.nil _ _, H.out.apL, by simp [Value.ownBlock], hf64, by simp, ?_⟩, ?_⟩
      · show Owns _ 64 _ (flushTo d.l d.waits).length _
        rw [hfl, ← HN.out]
        exact HF.out.kept c4 (fun b hb => hLD b hb)
      · show (flushTo d.l d.waits).length ≤ 8192
        rw [hfl]; exact H.out.many
      · exact (hch.mono (fun b _ hb => .inr (.inl hb))).trans (c4.mono (fun b _ hb => .inl hb))
end Go.Proofs.Ytjhkhdockiocgaa
