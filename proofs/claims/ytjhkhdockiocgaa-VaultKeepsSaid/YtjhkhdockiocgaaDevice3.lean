/- Contracts of package device: Crash. -/
import Derived.Test.YtjhkhdockiocgaaDevice2
namespace Go.Proofs.Ytjhkhdockiocgaa
open Go.RowKit Go.Cat

def tornN (torn bytes : Int) (i : Nat) : Nat := if (i : Int) = torn then (min (max bytes 0) 64).toNat else 64
theorem tornN_le (torn bytes : Int) (i : Nat) : tornN torn bytes i ≤ 64 := by unfold tornN; split <;> omega
def crashStep (keep : Nat) (torn bytes : Int) (l : List (List UInt8)) (i : Nat) (x : Nat × List UInt8) : List (List UInt8) :=
  if keep.testBit (i % 64) = true then l.set x.1 (x.2.take (tornN torn bytes i) ++ (l.getD x.1 []).drop (tornN torn bytes i)) else l
def crashTo (keep : Nat) (torn bytes : Int) (l : List (List UInt8)) (ws : List (Nat × List UInt8)) : Nat → List (List UInt8)
  | 0 => l
  | k + 1 => match ws[k]? with
    | some x => crashStep keep torn bytes (crashTo keep torn bytes l ws k) k x
    | none => crashTo keep torn bytes l ws k
theorem crashTo_ok (keep : Nat) (torn bytes : Int) (l : List (List UInt8)) (ws : List (Nat × List UInt8)) (hw : ∀ x ∈ ws, x.2.length = 64 ∧ x.1 < l.length) (hl : ∀ x ∈ l, x.length = 64) :
    ∀ k, (crashTo keep torn bytes l ws k).length = l.length ∧ ∀ x ∈ crashTo keep torn bytes l ws k, x.length = 64
  | 0 => ⟨rfl, hl⟩
  | k + 1 => by
    have ih := crashTo_ok keep torn bytes l ws hw hl k
    unfold crashTo
    cases hx : ws[k]? with
    | none => exact ih
    | some x =>
      obtain ⟨h1, h2⟩ := hw x (List.mem_of_getElem? hx)
      simp only [crashStep]
      split
      · refine ⟨by simpa using ih.1, fun y hy => ?_⟩
        rcases List.mem_or_eq_of_mem_set hy with h3 | h3
        · exact ih.2 y h3
        · have h4 : x.1 < (crashTo keep torn bytes l ws k).length := by omega
          have h5 := ih.2 _ (List.getElem_mem h4)
          have h6 := tornN_le torn bytes k
          rw [h3, List.getD_eq_getElem?_getD, List.getElem?_eq_getElem h4]
          simp only [Option.getD_some, List.length_append, List.length_take, List.length_drop]
          omega
      · exact ih

set_option maxRecDepth 100000 in
set_option maxHeartbeats 1000000 in
theorem crash_in (w : World) (D : Nat) (lv wv : Value) (d : Dev) (keep : Nat) (torn bytes : Int) (h : DevIs w D lv wv d) (hm : d.waits.length ≤ 1000000) :
    Calls Try.prog 80 #[.pointer (some ⟨D, 0, none⟩), .agg #[.int .u64 keep, .int .i64 torn, .int .i64 bytes]] w fun e w' => e = .returned (.tuple #[]) ∧ DevIs w' D lv (.slice none 0 0) { d with l := crashTo keep torn bytes d.l d.waits d.waits.length, waits := [], down := true, left := 0 } ∧ Chg (foot D lv wv) w w' := by
  obtain ⟨T, hh⟩ := h.heap
  obtain ⟨la, lc, rfl⟩ := h.ownL.form
  obtain ⟨wa, wc, rfl⟩ := h.ownW.form
  obtain ⟨n, hn⟩ : ∃ n, n = d.l.length := ⟨_, rfl⟩
  obtain ⟨m, hmm⟩ : ∃ m, m = d.waits.length := ⟨_, rfl⟩
  rw [← hn, ← hmm] at h hh
  rw [← hn, ← hmm]
  rw [← hmm] at hm
  have hc1 := cell_of_heap hh 1
  simp only [List.getElem?_toArray, List.getElem?_cons_zero, List.getElem?_cons_succ] at hc1
  have HB := Lib.hid hh
  have H := Lib.hid h
  have HN := Lib.hid hn
  have HM := Lib.hid hmm
  have hDl : D < w.heap.size := (Array.getElem?_eq_some_iff.1 hh).1
  clear hh h hn hmm
  go_enter Try.func80, Try.ntmps80
  go_wp2_with fail
  clear hc1
  go_loopw [4, 5, 6, 12] (fun _ _ _ i wr => ∃ k : Nat, k ≤ m ∧ i = .int .i64 k ∧ Chg (fun b => (Value.slice la n lc).ownBlock = some b) w wr ∧ w.heap.size < wr.heap.size ∧ wr.heap[w.heap.size]? = some (.cells #[.int .u64 keep, .int .i64 torn, .int .i64 bytes] 126 (0, 0)) ∧ Hid (Owns wr 64 (.slice la n lc) n ((crashTo keep torn bytes d.l d.waits k).flatMap bs))) (fun _ _ _ i _ => m - (intOf i).toNat)
  case atStart =>
    refine ⟨0, by omega, rfl, (Chg.refl _ _).alloc _, by simp, heap_at_new _ _ _ rfl, ?_⟩
    have := H.out.ownL
    rw [← HN.out] at this
    exact this.alloc _
  case round =>
    obtain ⟨k, hk, rfl, hch, hsz, hcr, hol⟩ := hrel
    have cr0 : wr.cell? ⟨w.heap.size, 0, none⟩ = some (.int .u64 keep) := by rw [cell_of_heap hcr]; rfl
    have cr1 : wr.cell? ⟨w.heap.size, 1, none⟩ = some (.int .i64 torn) := by rw [cell_of_heap hcr]; rfl
    have cr2 : wr.cell? ⟨w.heap.size, 2, none⟩ = some (.int .i64 bytes) := by rw [cell_of_heap hcr]; rfl
    have HCR := Lib.hid hcr
    clear hcr
    have hLD : ∀ b, (Value.slice la n lc).ownBlock = some b → b ≠ D := H.out.apL
    have hnD : ¬ (Value.slice la n lc).ownBlock = some D := fun h => hLD D h rfl
    by_cases hlt : k < m
    · obtain ⟨x, hx⟩ : ∃ x, d.waits[k]? = some x := ⟨_, List.getElem?_eq_getElem (by rw [← HM.out]; exact hlt)⟩
      obtain ⟨hx64, hxn⟩ := H.out.wait x (List.mem_of_getElem? hx)
      have hcok := crashTo_ok keep torn bytes d.l d.waits H.out.wait H.out.len k
      rw [← HN.out] at hxn
      obtain ⟨hfl, hf64⟩ := hcok
      obtain ⟨old, hold⟩ : ∃ y, (crashTo keep torn bytes d.l d.waits k)[x.1]? = some y := ⟨_, List.getElem?_eq_getElem (by rw [hfl, ← HN.out]; exact hxn)⟩
      obtain ⟨g, o, rfl⟩ : ∃ g o, la = some ⟨g, o, none⟩ := by
        rcases hol.out.2 with ⟨hv, h0⟩ | ⟨g, o, c, hv, _⟩
        · omega
        · simp only [Value.slice.injEq] at hv; exact ⟨g, o, hv.1⟩
      obtain ⟨wg, wo, rfl⟩ : ∃ g o, wa = some ⟨g, o, none⟩ := by
        rcases H.out.ownW.2 with ⟨hv, h0⟩ | ⟨g, o, c, hv, _⟩
        · rw [← HM.out] at h0; omega
        · simp only [Value.slice.injEq] at hv; exact ⟨g, o, hv.1⟩
      have hoW := H.out.ownW
      rw [← HM.out] at hoW
      have hel := Owns.elem hoW (fun y hy => wcells_length (H.out.wait y hy).1) k x hx
      have hgl : g < w.heap.size := H.out.ownL.lt g rfl
      have hwgl : wg < w.heap.size := H.out.ownW.lt wg rfl
      have hgw : g ≠ wg := fun h => (H.out.apW wg rfl).2 (by subst h; rfl)
      have hgD : g ≠ D := hLD g rfl
      have hld : (Instr.loadAt 185 (.pointer (some ⟨wg, wo + k * 65, none⟩))).run Try.prog wr = .ok (.agg (wcells x).toArray) wr :=
        run_loadAt_agg wr _ _ _ _ (wcells x) Try.underlying185 rfl (by rw [size_wri, wcells_length hx64]) (fun j u hj => hch.cell (hel.1 j u hj) (fun h => by
          have h : (Value.slice (some ⟨g, o, none⟩) n lc).ownBlock = some wg := h
          simp [Value.ownBlock] at h; exact hgw h))
      have hsc := store_wri (wcells x) (wcells_length hx64) (wcells_one x) wr
      have HEL := Lib.hid hel
      have HOLD := Lib.hid hold
      have HX := Lib.hid hx
      have HX64 := Lib.hid hx64
      have HF64 := Lib.hid hf64
      have HFL := Lib.hid hfl
      obtain ⟨c1, hc1e⟩ : ∃ c, c = wcells x := ⟨_, rfl⟩
      rw [← hc1e] at hld hsc
      have HC1 := Lib.hid hc1e
      clear hel hold hx hx64 hf64 hfl hc1e hoW
      have hbt := bits_test keep (k % 64)
      cases hbit : keep.testBit (k % 64)
      · rw [hbit] at hbt
        simp only [Bool.false_eq_true, if_false] at hbt
        have HBIT := Lib.hid hbit
        clear hbit
        go_wp2_with (first | refine wpList_load rfl 185 _ rfl _ _ rfl hld ?_ | refine wpList_store rfl 185 _ _ rfl _ _ _ rfl rfl hsc ?_)
        have e : crashTo keep torn bytes d.l d.waits (k + 1) = crashTo keep torn bytes d.l d.waits k := by
          simp only [crashTo, HX.out, crashStep, HBIT.out, Bool.false_eq_true, if_false]
        exact ⟨⟨k + 1, by omega, rfl, hch.alloc _, by simp; omega, ((Chg.refl (fun _ => False) wr).alloc _).heap HCR.out (fun h => h), by rw [e]; exact Owns.alloc hol.out _⟩, by simp only [intOf]; omega⟩
      rw [hbit] at hbt
      simp only [if_true] at hbt
      have HBIT := Lib.hid hbit
      clear hbit
      by_cases htn : (k : Int) = torn
      · have htb : ((k : Int) == torn) = true := by simp [htn]
        obtain ⟨b0, hb0⟩ : ∃ b0, b0 = if bytes < 0 then (0 : Int) else bytes := ⟨_, rfl⟩
        obtain ⟨q, hq⟩ : ∃ q, q = tornN torn bytes k := ⟨_, rfl⟩
        have hq64 : q ≤ 64 := by rw [hq]; exact tornN_le _ _ _
        have hb1 : (if 64 < b0 then (64 : Int) else b0) = (q : Int) := by
          rw [hq, hb0]; unfold tornN; rw [if_pos htn]; repeat (first | omega | split)
        have hb0' := hb0.symm
        have HTN : Hid (tornN torn bytes k = q) := hq.symm
        have hq64' : (q : Int) ≤ 64 := by omega
        clear hq hb0 htn
        go_wp2_with (first | refine wpList_load rfl 185 _ rfl _ _ rfl hld ?_ | refine wpList_store rfl 185 _ _ rfl _ _ _ rfl rfl hsc ?_)
        clear hb1 hb0' hbt htb
        obtain ⟨W1, hW1⟩ : ∃ W, W = wr.alloc (.cells c1.toArray 185) := ⟨_, rfl⟩
        rw [← hW1]
        have hN1 : W1.heap[wr.heap.size]? = some (.cells c1.toArray 185 (0, 0)) := by rw [hW1]; exact heap_at_new _ _ _ rfl
        have k1 : Chg (fun b => (Value.slice (some ⟨g, o, none⟩) n lc).ownBlock = some b) w W1 := by rw [hW1]; exact hch.alloc _
        have hsz1 : w.heap.size < W1.heap.size := by rw [hW1]; simp; omega
        have hcr1 : W1.heap[w.heap.size]? = some (.cells #[.int .u64 keep, .int .i64 torn, .int .i64 bytes] 126 (0, 0)) := by rw [hW1]; exact ((Chg.refl (fun _ => False) wr).alloc _).heap HCR.out (fun h => h)
        have hgN : ¬ wr.heap.size = g := by omega
        have q0 : ∀ w', Chg (fun k => k = g) W1.drew w' → w'.cell? ⟨D, 0, none⟩ = some (.slice (some ⟨g, o, none⟩) n lc) := fun w' hw' =>
          hw'.cell (k1.cell (by rw [cell_of_heap HB.out]; rfl) hnD) (fun h => hgD h.symm)
        have qN : ∀ w', Chg (fun k => k = g) W1.drew w' → ∀ (j : Nat) (u : Value), c1[j]? = some u → w'.cell? ⟨wr.heap.size, j, none⟩ = some u := fun w' hw' j u hj =>
          hw'.cell (by show W1.cell? _ = _; rw [cell_of_heap hN1]; simpa using hj) hgN
        have q1 : ∀ w', Chg (fun k => k = g) W1.drew w' → w'.cell? ⟨wr.heap.size, 0, none⟩ = some (.int .i64 x.1) := fun w' hw' => qN w' hw' 0 _ (by rw [HC1.out]; rfl)
        have hrb : RB W1.drew (.slice (some ⟨wr.heap.size, 1, none⟩) q 64) (x.2.take q) := by
          have hlen : (x.2.take q).length = q := by rw [List.length_take, HX64.out]; omega
          refine ⟨by simp, .inr ⟨wr.heap.size, 1, 64, by rw [hlen], by omega, by simp [maxLen], (Array.getElem?_eq_some_iff.1 hN1).1, fun j u hj => ?_⟩⟩
          have hjl := (List.getElem?_eq_some_iff.1 hj).1
          rw [bs_length, hlen] at hjl
          refine qN _ (Chg.refl _ _) (1 + j) u ?_
          rw [HC1.out, Nat.add_comm]
          rw [bs_get _ j (by omega)] at hj
          show (bs x.2)[j]? = some u
          rw [bs_get _ j (by rw [HX64.out]; omega)]
          simpa using hj
        have ho1 : Owns W1 64 (.slice (some ⟨g, o, none⟩) n lc) n ((crashTo keep torn bytes d.l d.waits k).flatMap bs) := by rw [hW1]; exact Owns.alloc hol.out _
        have hfn : (crashTo keep torn bytes d.l d.waits k).length = n := by rw [HFL.out, HN.out]
        have helm := Owns.elem ho1 (bs64 HF64.out) x.1 old HOLD.out
        have hst := run_copy_rb (P := Try.prog) W1.drew 33 33 3 5 Try.underlying33 (by kernel_rfl) g (o + x.1 * 64) q 64 (some ⟨wr.heap.size, 1, none⟩) q 64 (x.2.take q) (.inl hrb) q (by rw [List.length_take, HX64.out]; omega)
          (fun j hj => helm.2.1 j (by omega)) (fun j hj => helm.2.2 j (by omega))
        rw [List.take_take, Nat.min_self] at hst
        have hputq := Owns.put (Owns.drew ho1) (bs64 HF64.out) hfn x.1 0 old (x.2.take q ++ old.drop q) (bs (x.2.take q)) HOLD.out (by rw [bs_length, List.length_take, HX64.out]; omega)
          (by rw [bs_append, bs_length, List.length_take, HX64.out, show 0 + min q 64 = q by omega, List.take_zero, List.nil_append]; simp only [bs, List.map_drop])
        have hput : Hid (Owns (W1.drew.setCells g (o + x.1 * 64) (bs (x.2.take q))) 64 (.slice (some ⟨g, o, none⟩) n lc) n ((crashTo keep torn bytes d.l d.waits (k + 1)).flatMap bs)) := by
          have e : crashTo keep torn bytes d.l d.waits (k + 1) = (crashTo keep torn bytes d.l d.waits k).set x.1 (x.2.take q ++ old.drop q) := by
            simp only [crashTo, HX.out, crashStep, HBIT.out, if_true, List.getD_eq_getElem?_getD, HOLD.out, Option.getD_some]
            rw [HTN.out]
          rw [e]; exact hputq
        have hend : Chg (fun b => (Value.slice (some ⟨g, o, none⟩) n lc).ownBlock = some b) w (W1.drew.setCells g (o + x.1 * 64) (bs (x.2.take q))) :=
          (k1.drew).trans ((Chg.setCells W1.drew g _ _).mono (fun b _ hb => by rw [hb]; rfl))
        have hszE : w.heap.size < (W1.drew.setCells g (o + x.1 * 64) (bs (x.2.take q))).heap.size := by rw [size_setCells]; exact hsz1
        have hcrE : (W1.drew.setCells g (o + x.1 * 64) (bs (x.2.take q))).heap[w.heap.size]? = some (.cells #[.int .u64 keep, .int .i64 torn, .int .i64 bytes] 126 (0, 0)) := by rw [heap_setCells _ _ _ _ _ (by omega)]; exact hcr1
        have Q0 := Lib.hid q0
        have Q1 := Lib.hid q1
        have HST := Lib.hid hst
        have HCE := Lib.hid hcrE
        have hxn' : (x.1 : Int) < n := by omega
        clear q0 qN q1 hst hputq hcrE hcr1 hW1 hN1 ho1 hfn helm hld hsc k1 hch hol hrb
        refine wpT.begin (fun k => k = g) 13 (by kernel_rfl) rfl ?_
        refine wpT.take 0 rfl (by kernel_rfl) (fun _ _ _ h => h) rfl (fun w' hw' => by go_simp <;> with_reducible rfl) ?_
        simp only [Act.put, List.setIfInBounds_toArray, List.set_cons_zero, List.set_cons_succ]
        refine wpT.take 1 rfl (by kernel_rfl) (fun _ _ _ h => h) rfl (fun w' hw' => by go_simp <;> with_reducible rfl) ?_
        simp only [Act.put, List.setIfInBounds_toArray, List.set_cons_zero, List.set_cons_succ]
        refine wpT.take 2 rfl (by kernel_rfl) (fun _ _ _ h => h) rfl (fun w' hw' => by go_simp <;> with_reducible rfl) ?_
        simp only [Act.put, List.setIfInBounds_toArray, List.set_cons_zero, List.set_cons_succ]
        refine wpT.take 3 rfl (by kernel_rfl) (fun _ _ _ h => h) rfl (fun w' hw' => by have hx := Q0.out w' hw'; go_simp <;> with_reducible rfl) ?_
        simp only [Act.put, List.setIfInBounds_toArray, List.set_cons_zero, List.set_cons_succ]
        refine wpT.take 4 rfl (by kernel_rfl) (fun _ _ _ h => h) rfl (fun w' hw' => by go_simp <;> with_reducible rfl) ?_
        simp only [Act.put, List.setIfInBounds_toArray, List.set_cons_zero, List.set_cons_succ]
        refine wpT.take 5 rfl (by kernel_rfl) (fun _ _ _ h => h) rfl (fun w' hw' => by have hx := Q1.out w' hw'; go_simp <;> with_reducible rfl) ?_
        simp only [Act.put, List.setIfInBounds_toArray, List.set_cons_zero, List.set_cons_succ]
        refine wpT.take 6 rfl (by kernel_rfl) (fun _ _ _ h => h) rfl (fun w' hw' => by go_simp <;> with_reducible rfl) ?_
        simp only [Act.put, List.setIfInBounds_toArray, List.set_cons_zero, List.set_cons_succ]
        refine wpT.take 7 rfl (by kernel_rfl) (fun _ _ _ h => h) rfl (fun w' hw' => by go_simp <;> with_reducible rfl) ?_
        simp only [Act.put, List.setIfInBounds_toArray, List.set_cons_zero, List.set_cons_succ]
        refine wpT.take 8 rfl (by kernel_rfl) (fun _ _ _ h => h) rfl (fun w' hw' => by go_simp <;> with_reducible rfl) ?_
        simp only [Act.put, List.setIfInBounds_toArray, List.set_cons_zero, List.set_cons_succ]
        refine wpT.take 9 rfl (by kernel_rfl) (fun _ _ _ h => h) rfl (fun w' hw' => by go_simp <;> with_reducible rfl) ?_
        simp only [Act.put, List.setIfInBounds_toArray, List.set_cons_zero, List.set_cons_succ]
        refine wpT.take 10 rfl (by kernel_rfl) (fun _ _ _ h => h) rfl (fun w' hw' => by go_simp <;> with_reducible rfl) ?_
        simp only [Act.put, List.setIfInBounds_toArray, List.set_cons_zero, List.set_cons_succ]
        refine wpT.take 11 rfl (by kernel_rfl) (fun _ _ _ h => h) rfl (fun w' hw' => by go_simp <;> with_reducible rfl) ?_
        simp only [Act.put, List.setIfInBounds_toArray, List.set_cons_zero, List.set_cons_succ]
        refine wpT.call 12 rfl (by kernel_rfl) rfl (fun K hK => ?_)
        refine wp_copy _ _ _ _ rfl _ _ _ _ rfl rfl HST.out ?_
        refine hK _ _ (Chg.setCells W1.drew g _ _) ?_
        refine wpT.done (by kernel_rfl) ?_
        clear hK
        go_wp2_with fail
        exact ⟨⟨k + 1, by omega, rfl, hend, hszE, HCE.out, hput⟩, by simp only [intOf]; omega⟩
      · have htb : ((k : Int) == torn) = false := by simp [htn]
        have HTN : Hid (tornN torn bytes k = 64) := by unfold tornN; rw [if_neg htn]; trivial
        clear htn
        go_wp2_with (first | refine wpList_load rfl 185 _ rfl _ _ rfl hld ?_ | refine wpList_store rfl 185 _ _ rfl _ _ _ rfl rfl hsc ?_)
        clear hbt htb
        obtain ⟨W1, hW1⟩ : ∃ W, W = wr.alloc (.cells c1.toArray 185) := ⟨_, rfl⟩
        rw [← hW1]
        have hN1 : W1.heap[wr.heap.size]? = some (.cells c1.toArray 185 (0, 0)) := by rw [hW1]; exact heap_at_new _ _ _ rfl
        have k1 : Chg (fun b => (Value.slice (some ⟨g, o, none⟩) n lc).ownBlock = some b) w W1 := by rw [hW1]; exact hch.alloc _
        have hsz1 : w.heap.size < W1.heap.size := by rw [hW1]; simp; omega
        have hcr1 : W1.heap[w.heap.size]? = some (.cells #[.int .u64 keep, .int .i64 torn, .int .i64 bytes] 126 (0, 0)) := by rw [hW1]; exact ((Chg.refl (fun _ => False) wr).alloc _).heap HCR.out (fun h => h)
        have hgN : ¬ wr.heap.size = g := by omega
        have q0 : ∀ w', Chg (fun k => k = g) W1.drew w' → w'.cell? ⟨D, 0, none⟩ = some (.slice (some ⟨g, o, none⟩) n lc) := fun w' hw' =>
          hw'.cell (k1.cell (by rw [cell_of_heap HB.out]; rfl) hnD) (fun h => hgD h.symm)
        have qN : ∀ w', Chg (fun k => k = g) W1.drew w' → ∀ (j : Nat) (u : Value), c1[j]? = some u → w'.cell? ⟨wr.heap.size, j, none⟩ = some u := fun w' hw' j u hj =>
          hw'.cell (by show W1.cell? _ = _; rw [cell_of_heap hN1]; simpa using hj) hgN
        have q1 : ∀ w', Chg (fun k => k = g) W1.drew w' → w'.cell? ⟨wr.heap.size, 0, none⟩ = some (.int .i64 x.1) := fun w' hw' => qN w' hw' 0 _ (by rw [HC1.out]; rfl)
        have hrb : RB W1.drew (.slice (some ⟨wr.heap.size, 1, none⟩) 64 64) (x.2.take 64) := by
          have hlen : (x.2.take 64).length = 64 := by rw [List.length_take, HX64.out]; omega
          refine ⟨by simp, .inr ⟨wr.heap.size, 1, 64, by rw [hlen], by omega, by simp [maxLen], (Array.getElem?_eq_some_iff.1 hN1).1, fun j u hj => ?_⟩⟩
          have hjl := (List.getElem?_eq_some_iff.1 hj).1
          rw [bs_length, hlen] at hjl
          refine qN _ (Chg.refl _ _) (1 + j) u ?_
          rw [HC1.out, Nat.add_comm]
          rw [bs_get _ j (by omega)] at hj
          show (bs x.2)[j]? = some u
          rw [bs_get _ j (by rw [HX64.out]; omega)]
          simpa using hj
        have ho1 : Owns W1 64 (.slice (some ⟨g, o, none⟩) n lc) n ((crashTo keep torn bytes d.l d.waits k).flatMap bs) := by rw [hW1]; exact Owns.alloc hol.out _
        have hfn : (crashTo keep torn bytes d.l d.waits k).length = n := by rw [HFL.out, HN.out]
        have helm := Owns.elem ho1 (bs64 HF64.out) x.1 old HOLD.out
        have hst := run_copy_rb (P := Try.prog) W1.drew 33 33 3 5 Try.underlying33 (by kernel_rfl) g (o + x.1 * 64) 64 64 (some ⟨wr.heap.size, 1, none⟩) 64 64 (x.2.take 64) (.inl hrb) 64 (by rw [List.length_take, HX64.out]; omega)
          (fun j hj => helm.2.1 j (by omega)) (fun j hj => helm.2.2 j (by omega))
        rw [List.take_take, Nat.min_self] at hst
        have hputq := Owns.put (Owns.drew ho1) (bs64 HF64.out) hfn x.1 0 old (x.2.take 64 ++ old.drop 64) (bs (x.2.take 64)) HOLD.out (by rw [bs_length, List.length_take, HX64.out]; omega)
          (by rw [bs_append, bs_length, List.length_take, HX64.out, show 0 + min 64 64 = 64 by omega, List.take_zero, List.nil_append]; simp only [bs, List.map_drop])
        have hput : Hid (Owns (W1.drew.setCells g (o + x.1 * 64) (bs (x.2.take 64))) 64 (.slice (some ⟨g, o, none⟩) n lc) n ((crashTo keep torn bytes d.l d.waits (k + 1)).flatMap bs)) := by
          have e : crashTo keep torn bytes d.l d.waits (k + 1) = (crashTo keep torn bytes d.l d.waits k).set x.1 (x.2.take 64 ++ old.drop 64) := by
            simp only [crashTo, HX.out, crashStep, HBIT.out, if_true, List.getD_eq_getElem?_getD, HOLD.out, Option.getD_some]
            rw [HTN.out]
          rw [e]; exact hputq
        have hend : Chg (fun b => (Value.slice (some ⟨g, o, none⟩) n lc).ownBlock = some b) w (W1.drew.setCells g (o + x.1 * 64) (bs (x.2.take 64))) :=
          (k1.drew).trans ((Chg.setCells W1.drew g _ _).mono (fun b _ hb => by rw [hb]; rfl))
        have hszE : w.heap.size < (W1.drew.setCells g (o + x.1 * 64) (bs (x.2.take 64))).heap.size := by rw [size_setCells]; exact hsz1
        have hcrE : (W1.drew.setCells g (o + x.1 * 64) (bs (x.2.take 64))).heap[w.heap.size]? = some (.cells #[.int .u64 keep, .int .i64 torn, .int .i64 bytes] 126 (0, 0)) := by rw [heap_setCells _ _ _ _ _ (by omega)]; exact hcr1
        have Q0 := Lib.hid q0
        have Q1 := Lib.hid q1
        have HST := Lib.hid hst
        have HCE := Lib.hid hcrE
        have hxn' : (x.1 : Int) < n := by omega
        clear q0 qN q1 hst hputq hcrE hcr1 hW1 hN1 ho1 hfn helm hld hsc k1 hch hol hrb
        refine wpT.begin (fun k => k = g) 13 (by kernel_rfl) rfl ?_
        refine wpT.take 0 rfl (by kernel_rfl) (fun _ _ _ h => h) rfl (fun w' hw' => by go_simp <;> with_reducible rfl) ?_
        simp only [Act.put, List.setIfInBounds_toArray, List.set_cons_zero, List.set_cons_succ]
        refine wpT.take 1 rfl (by kernel_rfl) (fun _ _ _ h => h) rfl (fun w' hw' => by go_simp <;> with_reducible rfl) ?_
        simp only [Act.put, List.setIfInBounds_toArray, List.set_cons_zero, List.set_cons_succ]
        refine wpT.take 2 rfl (by kernel_rfl) (fun _ _ _ h => h) rfl (fun w' hw' => by go_simp <;> with_reducible rfl) ?_
        simp only [Act.put, List.setIfInBounds_toArray, List.set_cons_zero, List.set_cons_succ]
        refine wpT.take 3 rfl (by kernel_rfl) (fun _ _ _ h => h) rfl (fun w' hw' => by have hx := Q0.out w' hw'; go_simp <;> with_reducible rfl) ?_
        simp only [Act.put, List.setIfInBounds_toArray, List.set_cons_zero, List.set_cons_succ]
        refine wpT.take 4 rfl (by kernel_rfl) (fun _ _ _ h => h) rfl (fun w' hw' => by go_simp <;> with_reducible rfl) ?_
        simp only [Act.put, List.setIfInBounds_toArray, List.set_cons_zero, List.set_cons_succ]
        refine wpT.take 5 rfl (by kernel_rfl) (fun _ _ _ h => h) rfl (fun w' hw' => by have hx := Q1.out w' hw'; go_simp <;> with_reducible rfl) ?_
        simp only [Act.put, List.setIfInBounds_toArray, List.set_cons_zero, List.set_cons_succ]
        refine wpT.take 6 rfl (by kernel_rfl) (fun _ _ _ h => h) rfl (fun w' hw' => by go_simp <;> with_reducible rfl) ?_
        simp only [Act.put, List.setIfInBounds_toArray, List.set_cons_zero, List.set_cons_succ]
        refine wpT.take 7 rfl (by kernel_rfl) (fun _ _ _ h => h) rfl (fun w' hw' => by go_simp <;> with_reducible rfl) ?_
        simp only [Act.put, List.setIfInBounds_toArray, List.set_cons_zero, List.set_cons_succ]
        refine wpT.take 8 rfl (by kernel_rfl) (fun _ _ _ h => h) rfl (fun w' hw' => by go_simp <;> with_reducible rfl) ?_
        simp only [Act.put, List.setIfInBounds_toArray, List.set_cons_zero, List.set_cons_succ]
        refine wpT.take 9 rfl (by kernel_rfl) (fun _ _ _ h => h) rfl (fun w' hw' => by go_simp <;> with_reducible rfl) ?_
        simp only [Act.put, List.setIfInBounds_toArray, List.set_cons_zero, List.set_cons_succ]
        refine wpT.take 10 rfl (by kernel_rfl) (fun _ _ _ h => h) rfl (fun w' hw' => by go_simp <;> with_reducible rfl) ?_
        simp only [Act.put, List.setIfInBounds_toArray, List.set_cons_zero, List.set_cons_succ]
        refine wpT.take 11 rfl (by kernel_rfl) (fun _ _ _ h => h) rfl (fun w' hw' => by go_simp <;> with_reducible rfl) ?_
        simp only [Act.put, List.setIfInBounds_toArray, List.set_cons_zero, List.set_cons_succ]
        refine wpT.call 12 rfl (by kernel_rfl) rfl (fun K hK => ?_)
        refine wp_copy _ _ _ _ rfl _ _ _ _ rfl rfl HST.out ?_
        refine hK _ _ (Chg.setCells W1.drew g _ _) ?_
        refine wpT.done (by kernel_rfl) ?_
        clear hK
        go_wp2_with fail
        exact ⟨⟨k + 1, by omega, rfl, hend, hszE, HCE.out, hput⟩, by simp only [intOf]; omega⟩
    · obtain rfl : k = m := by omega
      have hc1 : wr.cell? ⟨D, 1, none⟩ = some (.slice wa k wc) := hch.cell (by rw [cell_of_heap HB.out]; rfl) hnD
      have hc2 : wr.cell? ⟨D, 2, none⟩ = some (.bool d.down) := hch.cell (by rw [cell_of_heap HB.out]; rfl) hnD
      have hc3 : wr.cell? ⟨D, 3, none⟩ = some (.int .i64 d.left) := hch.cell (by rw [cell_of_heap HB.out]; rfl) hnD
      have hf : ∀ i, wr.frozen? ⟨D, i, none⟩ = false := frozen_of_heap (hch.heap HB.out hnD)
      go_wp2_with fail
      go_end0
      have c4 : Chg (fun k => k = D) wr (((wr.setCell ⟨D, 1, none⟩ (.slice none 0 0)).setCell ⟨D, 2, none⟩ (.bool true)).setCell ⟨D, 3, none⟩ (.int .i64 0)) :=
        (((Chg.refl (fun k => k = D) wr).setCell (p := ⟨D, 1, none⟩) (fun _ => rfl) _).setCell (p := ⟨D, 2, none⟩) (fun _ => rfl) _).setCell (p := ⟨D, 3, none⟩) (fun _ => rfl) _
      obtain ⟨hfl, hf64⟩ := crashTo_ok keep torn bytes d.l d.waits H.out.wait H.out.len k
      refine ⟨rfl, ⟨⟨T, Cat.heap_setCell_same (Cat.heap_setCell_same (Cat.heap_setCell_same (hch.heap HB.out hnD) 1 _) 2 _) 3 _⟩, ?_, Owns.nil _ _, H.out.apL, by simp [Value.ownBlock], hf64, by simp, ?_⟩, ?_⟩
      · show Owns _ 64 _ (crashTo keep torn bytes d.l d.waits k).length _
        rw [hfl, ← HN.out]
        exact hol.out.kept c4 (fun b hb => hLD b hb)
      · show (crashTo keep torn bytes d.l d.waits k).length ≤ 8192
        rw [hfl]; exact H.out.many
      · exact (hch.mono (fun b _ hb => .inr (.inl hb))).trans (c4.mono (fun b _ hb => .inl hb))

set_option maxRecDepth 100000 in
theorem crash_ok (w : World) (D : Nat) (lv wv : Value) (d : Dev) (keep : Nat) (torn bytes : Int) (h : DevIs w D lv wv d) (hm : d.waits.length ≤ 1000000) :
    Calls Try.prog 28 #[.pointer (some ⟨D, 0, none⟩), .int .u64 keep, .int .i64 torn, .int .i64 bytes] w fun e w' => e = .returned (.tuple #[]) ∧ DevIs w' D lv (.slice none 0 0) { d with l := crashTo keep torn bytes d.l d.waits d.waits.length, waits := [], down := true, left := 0 } ∧ Chg (foot D lv wv) w w' := by
  have H := Lib.hid h
  clear h
  go_enter Try.func28, Try.ntmps28
  go_wp2_with (first | (go_at_call 80; refine (crash_in w D lv wv d keep torn bytes H.out hm).mono ?_; rintro e w1 ⟨rfl, h1, h2⟩))
  go_end0
  exact ⟨rfl, h1, h2⟩
end Go.Proofs.Ytjhkhdockiocgaa
