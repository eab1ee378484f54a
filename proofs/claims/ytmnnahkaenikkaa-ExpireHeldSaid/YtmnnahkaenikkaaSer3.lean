/- slices.Insert at points. -/
import Derived.Test.YtmnnahkaenikkaaSer2
namespace Go.Cat
open Go.RowKit
theorem exec_sl {P : Program} {o : Oper} {a : Act} {w : World} (t : TypeId) (x : Operand) (lo hi mx : Option Operand) (ho : o.op = .slice t x lo hi mx) (v : Value) (h : (Instr.sliceAt t (a.eval x) (lo.map a.eval) (hi.map a.eval) (mx.map a.eval)).run P w = .ok v w) : (execOp a.eval o).run P w = .ok (.value v) w := by
  unfold execOp
  simp only [ho]
  cases lo <;> cases hi <;> cases mx <;> simp_all [Sem.run_bind]
theorem shape_cell {w : World} {g o : Nat} {v : Value} (h : w.cell? ⟨g, o, none⟩ = some v) : ∃ t k, w.shape? g = some (t, k) ∧ k ≠ 0 := by
  unfold World.cell? at h
  unfold World.shape?
  split at h
  · rename_i c t f heq
    simp only at heq
    rw [heq]
    simp at h
    refine ⟨t, c.size, rfl, ?_⟩
    have := (Array.getElem?_eq_some_iff.1 h).1
    omega
  · cases h
theorem shape_alloc (w : World) (c : Array Value) (t : TypeId) : (w.alloc (.cells c t)).shape? w.heap.size = some (t, c.size) := by
  unfold World.shape?
  rw [heap_alloc_new]
theorem frozen_alloc (w : World) (c : Array Value) (t : TypeId) (k : Nat) : (w.alloc (.cells c t)).frozen? ⟨w.heap.size, k, none⟩ = false := by
  unfold World.frozen?
  simp only [heap_alloc_new]
  simp
end Go.Cat
namespace Go.Proofs.Ytmnnahkaenikkaa
open Go.RowKit Go.Cat
def insP (l : List Pt) (i : Nat) (p : Pt) : List Pt := l.take i ++ p :: l.drop i
theorem insP_cells (l : List Pt) (i : Nat) (p : Pt) : (insP l i p).flatMap Pt.cells = (l.flatMap Pt.cells).take (i * 2) ++ p.cells ++ (l.flatMap Pt.cells).drop (i * 2) := by
  unfold insP
  rw [List.flatMap_append, List.flatMap_cons, rows_take l (s := 2) (f := Pt.cells) (fun _ _ => rfl), rows_drop l (s := 2) (f := Pt.cells) (fun _ _ => rfl), List.append_assoc]
theorem insP_len {l : List Pt} {i : Nat} (h : i ≤ l.length) (p : Pt) : (insP l i p).length = l.length + 1 := by
  unfold insP
  rw [List.length_append, List.length_cons, List.length_take, List.length_drop]; omega
def InsOut (w : World) (v : Value) (l : List Pt) (e : Ending) (w' : World) : Prop :=
  ∃ v', e = .returned v' ∧ OPts w' v' l ∧ (∀ k, v'.ownBlock = some k → v.ownBlock = some k ∨ w.heap.size ≤ k) ∧ Chg (fun k => v.ownBlock = some k) w w'
set_option maxRecDepth 100000 in
set_option maxHeartbeats 1000000 in
/-- At the end. -/
theorem insert_end (w : World) (v : Value) (l : List Pt) (p : Pt) (h : OPts w v l) (hl : l.length ≤ 1000000) :
    Calls Try.prog 92 #[v, .int .i64 l.length, .slice (some ⟨w.heap.size, 0, none⟩) 1 1] (w.alloc (.cells #[.int .i64 p.tk, .int .i64 p.val] 32)) fun e w' => InsOut w v (insP l l.length p) e w' := by
  obtain ⟨a, c, rfl⟩ := h.form
  have H := Lib.hid h
  have H1 := Lib.hid (ptone [p])
  obtain ⟨n, hn⟩ : ∃ n, n = l.length := ⟨_, rfl⟩
  have HN := Lib.hid hn
  have h0 := h
  unfold OPts at h0
  rw [← hn] at hl h0 ⊢
  have hsl := fun W => sl_lo W a n c n (Nat.le_refl _)
  generalize (Value.slice (if c = n then a else a.map (·.add (n * 2))) (n - n) (c - n)) = junk at hsl
  clear h hn
  go_enter Try.func92, Try.ntmps92
  go_wp2_with (at_builtin; go_loud (refine wpList_app_one rfl _ _ 49 rfl 32 (.agg #[.int .i64 0, .int .i64 0]) 2 16 Try.underlying49 infoPt rfl (.slice a n c) n (l.flatMap Pt.cells) [.int .i64 p.tk, .int .i64 p.val] _ rfl rfl h0 rfl (by intro u hu; exact H1.out u (by simpa [Pt.cells] using hu)) (by simp only [maxLen]; omega) (by omega) ?_; intro v' w' own' c' in' nn'; refine Hid.out ?_))
  refine Lib.hid ?_
  go_wp2_with fail
  go_ret
  refine ⟨v', rfl, ?_, in', c'⟩
  unfold OPts
  rw [insP_len (Nat.le_of_eq HN.out), insP_cells, ← HN.out, List.take_of_length_le (by rw [ptlen, ← HN.out]; omega), List.drop_of_length_le (by rw [ptlen, ← HN.out]; omega), List.append_nil]
  exact own'
set_option maxRecDepth 100000 in
set_option maxHeartbeats 2000000 in
/-- In place. -/
theorem insert_room (w : World) (g o c i : Nat) (l : List Pt) (p : Pt) (h : OPts w (.slice (some ⟨g, o, none⟩) l.length c) l) (hl : l.length ≤ 1000000) (hi : i < l.length) (hc : l.length + 1 ≤ c) :
    Calls Try.prog 92 #[.slice (some ⟨g, o, none⟩) l.length c, .int .i64 i, .slice (some ⟨w.heap.size, 0, none⟩) 1 1] (w.alloc (.cells #[.int .i64 p.tk, .int .i64 p.val] 32)) fun e w' => InsOut w (.slice (some ⟨g, o, none⟩) l.length c) (insP l i p) e w' := by
  obtain ⟨n, hn⟩ : ∃ n, n = l.length := ⟨_, rfl⟩
  have HN := Lib.hid hn
  have h0 := h
  unfold OPts at h0
  rw [← hn] at hl h0 hi hc ⊢
  obtain ⟨hcl, hrest⟩ := h0
  obtain ⟨g', o', c', hv, hnc, hcm, hg, hcs, hroom⟩ : ∃ g' o' cap, (Value.slice (some ⟨g, o, none⟩) n c) = .slice (some ⟨g', o', none⟩) n cap ∧ n ≤ cap ∧ cap ≤ maxLen ∧ g' < w.heap.size ∧ (∀ j u, (l.flatMap Pt.cells)[j]? = some u → w.cell? ⟨g', o' + j, none⟩ = some u) ∧ ∀ i, i < cap * 2 → (w.cell? ⟨g', o' + i, none⟩).isSome = true ∧ w.frozen? ⟨g', o' + i, none⟩ = false := by
    rcases hrest with ⟨hv, _⟩ | h
    · simp at hv
    · exact h
  simp only [Value.slice.injEq, Option.some.injEq, Addr.mk.injEq, true_and, and_true] at hv
  obtain ⟨⟨rfl, rfl⟩, rfl⟩ := hv
  clear h hrest
  have hc63 : c ≤ 9223372036854775807 := by simp only [maxLen] at hcm; omega
  obtain ⟨W, hW⟩ : ∃ W, W = w.alloc (.cells #[.int .i64 p.tk, .int .i64 p.val] 32) := ⟨_, rfl⟩
  have cW : Chg (fun _ => False) w W := by rw [hW]; exact (Chg.refl _ w).alloc _
  have hWs : W.heap.size = w.heap.size + 1 := by rw [hW]; simp
  have hpc : ∀ j v, [Value.int .i64 p.tk, .int .i64 p.val][j]? = some v → W.cell? (Addr.add ⟨w.heap.size, 0, none⟩ j) = some v := fun j v hj => by
    rw [Addr.add_lit, hW, Nat.zero_add, World.cell?_alloc_new]; simpa using hj
  have hroomW : ∀ j, j < c * 2 → (W.cell? ⟨g, o + j, none⟩).isSome = true ∧ W.frozen? ⟨g, o + j, none⟩ = false := fun j hj => by
    have hb := cW.block g hg (fun h => h)
    rw [World.cell?_of_block (w := w) (w' := W) hb, World.frozen?_of_block (w := w) (w' := W) hb]
    exact hroom j hj
  have hcsW : ∀ j u, (l.flatMap Pt.cells)[j]? = some u → W.cell? ⟨g, o + j, none⟩ = some u := fun j u hj => cW.cell (hcs j u hj) (fun h => h)
  have hdl : ((l.flatMap Pt.cells).drop (i * 2)).length = (n - i) * 2 := by rw [List.length_drop, hcl]; omega
  have hsz : (Try.prog.info? 32).map (·.size) = some 2 := by kernel_rfl
  have hov : ∀ lb cb, (callFunc 96 #[.slice (some ⟨w.heap.size, 0, none⟩) 1 1, .slice (some ⟨g, o + (i + 1) * 2, none⟩) lb cb]).run Try.prog W = .ok (.value (.bool false)) W := fun lb cb => by
    obtain ⟨u, hu⟩ := Option.isSome_iff_exists.1 (hroomW 0 (by omega)).1
    obtain ⟨tB, kB, s1, s2⟩ := shape_cell hu
    rw [run_callFunc_extern Try.func96 (by kernel_rfl) (by kernel_rfl) (by kernel_rfl) (e := Extern.SlicesOverlaps.overlaps #[49, 49] #[4]) (by kernel_rfl),
      Lib.run_overlaps_apart W 49 4 32 Try.underlying49 2 (fun w => by obtain ⟨i0, hi0, hz0, hz1, hz2⟩ := info_parts infoPt; simp [Go.sizeOf, typeInfo, hi0, hz1]) ⟨w.heap.size, 0, none⟩ ⟨g, o + (i + 1) * 2, none⟩ 1 1 lb cb (by simp only; omega) 32 tB 2 kB (by rw [hW]; exact shape_alloc w _ _) s1 s2 (by rw [hW]; exact frozen_alloc w _ _ _) (by rw [hW]; exact frozen_alloc w _ _ _)]
    rfl
  have hcp1 : Hid (∀ ty dc sc, (Builtin.copy_ #[49, 49] ty #[.slice (some ⟨g, o + (i + 1) * 2, none⟩) (n + 1 - (i + 1)) dc, .slice (some ⟨g, o + i * 2, none⟩) (n + 1 - i) sc]).run Try.prog W.drew = .ok (goInt ((n - i : Nat) : Int)) (W.drew.setCells g (o + (i + 1) * 2) ((l.flatMap Pt.cells).drop (i * 2)))) := fun ty dc sc =>
    run_copy_rows W.drew _ _ ty 32 2 g (o + (i + 1) * 2) (n + 1 - (i + 1)) dc ⟨g, o + i * 2, none⟩ (n + 1 - i) sc (n - i) _ Try.underlying49 hsz (by simp only [Nat.min_def]; split <;> omega) hdl
      (fun j v hj => by rw [Addr.add_lit, Nat.add_assoc]; exact hcsW (i * 2 + j) v (by rwa [List.getElem?_drop] at hj))
      (fun j hj => by rw [Nat.add_assoc]; exact (hroomW _ (by rw [hdl] at hj; omega)).1) (fun j hj => by rw [Nat.add_assoc]; exact (hroomW _ (by rw [hdl] at hj; omega)).2) (fun v hv => ptone l v (List.mem_of_mem_drop hv))
  obtain ⟨W1, hW1⟩ : ∃ W1, W1 = W.drew.setCells g (o + (i + 1) * 2) ((l.flatMap Pt.cells).drop (i * 2)) := ⟨_, rfl⟩
  have hc1 : ∀ k, W1.cell? ⟨g, k, none⟩ = if o + (i + 1) * 2 ≤ k ∧ k < o + (i + 1) * 2 + ((l.flatMap Pt.cells).drop (i * 2)).length then ((l.flatMap Pt.cells).drop (i * 2))[k - (o + (i + 1) * 2)]? else W.cell? ⟨g, k, none⟩ := fun k => by
    rw [hW1, cell_setCells (w := W.drew) (fun j hj => by rw [Nat.add_assoc]; exact (hroomW _ (by rw [hdl] at hj; omega)).1) k]; rfl
  have hsp1 : ∀ k, k < c * 2 → (W1.cell? ⟨g, o + k, none⟩).isSome = true := fun k hk => by
    rw [hc1]
    split
    · rw [List.getElem?_eq_getElem (by omega)]; rfl
    · exact (hroomW k hk).1
  have hfr1 : ∀ x, W1.frozen? x = W.frozen? x := fun x => by rw [hW1, World.frozen?_setCells]; rfl
  have hcp2 : ∀ ty dc, (Builtin.copy_ #[49, 49] ty #[.slice (some ⟨g, o + i * 2, none⟩) (n + 1 - i) dc, .slice (some ⟨w.heap.size, 0, none⟩) 1 1]).run Try.prog W1 = .ok (goInt ((1 : Nat) : Int)) (W1.setCells g (o + i * 2) [.int .i64 p.tk, .int .i64 p.val]) := fun ty dc =>
    run_copy_rows W1 _ _ ty 32 2 g (o + i * 2) (n + 1 - i) dc ⟨w.heap.size, 0, none⟩ 1 1 1 _ Try.underlying49 hsz (by simp only [Nat.min_def]; split <;> omega) rfl
      (fun j v hj => by
        rw [hW1, World.cell?_setCells_out g _ _ W.drew _ (fun h _ => absurd h (by rw [Addr.add_lit]; simp only; omega))]
        exact hpc j v hj)
      (fun j hj => by rw [Nat.add_assoc]; exact hsp1 _ (by simp at hj; omega)) (fun j hj => by rw [hfr1, Nat.add_assoc]; exact (hroomW _ (by simp at hj; omega)).2) (by intro v hv; simp at hv; rcases hv with rfl | rfl <;> rfl)
  rw [← hW1] at hcp1
  have HFIN : Hid (InsOut w (.slice (some ⟨g, o, none⟩) n c) (insP l i p) (.returned (.slice (some ⟨g, o, none⟩) (n + 1) c)) (W1.setCells g (o + i * 2) [.int .i64 p.tk, .int .i64 p.val])) := by
    refine ⟨_, rfl, ?_, fun k hk => .inl hk, ?_⟩
    · unfold OPts
      rw [insP_len (by rw [← HN.out]; omega), insP_cells, ← HN.out]
      refine owns_gap (w := W) (i := i) (n := n) _ hc hcm (by omega) hroomW hcl rfl (by omega) (fun j u _ hj => hcsW j u hj) (by rw [size_setCells, hW1, size_setCells]; rfl) (fun k => ?_) (fun k => by rw [World.frozen?_setCells, hfr1])
      rw [cell_setCells (w := W1) (fun j hj => by rw [Nat.add_assoc]; exact hsp1 _ (by simp at hj; omega)) k, hc1, show o + (i + 1) * 2 = o + (i * 2 + 2) by omega]
      rfl
    · have c1 : Chg (fun k => (Value.slice (some ⟨g, o, none⟩) n c).ownBlock = some k) w W1 := by
        rw [hW1]
        exact (cW.drew.mono (fun _ _ h => h.elim)).trans ((Chg.setCells _ g _ _).mono (fun k _ hk => by rw [hk]; rfl))
      exact c1.trans ((Chg.setCells _ g _ _).mono (fun k _ hk => by rw [hk]; rfl))
  have hs2 : ∀ X, (Instr.sliceAt 49 (.slice (some ⟨g, o, none⟩) n c) (some (.int .i64 i)) none none).run Try.prog X = .ok (.slice (some ⟨g, o + i * 2, none⟩) (n - i) (c - i)) X := fun X => by rw [sl_lo X _ n c i (by omega), if_neg (by omega)]; simp [Addr.add_lit]
  have hs3 := fun X => sl_hi X (some ⟨g, o, none⟩) n c (n + 1) hc
  have hs5 : Hid (∀ X, (Instr.sliceAt 49 (.slice (some ⟨g, o, none⟩) (n + 1) c) (some (.int .i64 ((i : Int) + 1))) none none).run Try.prog X = .ok (.slice (some ⟨g, o + (i + 1) * 2, none⟩) (n + 1 - (i + 1)) (c - (i + 1))) X) := fun X => by
    rw [show (i : Int) + 1 = ((i + 1 : Nat) : Int) from rfl, sl_lo X _ (n + 1) c (i + 1) (by omega)]
    by_cases hci : c = i + 1
    · omega
    · rw [if_neg hci]; simp [Addr.add_lit]
  have hs5' := hs5.out
  have hs6 : Hid (∀ X, (Instr.sliceAt 49 (.slice (some ⟨g, o, none⟩) (n + 1) c) (some (.int .i64 i)) none none).run Try.prog X = .ok (.slice (some ⟨g, o + i * 2, none⟩) (n + 1 - i) (c - i)) X) := fun X => by rw [sl_lo X _ (n + 1) c i (by omega), if_neg (by omega)]; simp [Addr.add_lit]
  have e1 : IntKind.i64.wrap ((n : Int) + 1) = ((n + 1 : Nat) : Int) := IntWalk.i64_in _ (by omega)
  have e2 : IntKind.i64.wrap ((i : Int) + 1) = (i : Int) + 1 := IntWalk.i64_in _ (by omega)
  have i1 : ¬ ((i : Int) = n) := by omega
  have i2 : ¬ ((c : Int) < ((n + 1 : Nat) : Int)) := by omega
  have hs6' := hs6.out
  have HCP2 := Lib.hid hcp2
  have HC1 : Hid (Chg (fun k => k = g) W.drew W1) := by rw [hW1]; exact Chg.setCells _ g _ _
  rw [← hW]
  clear hn hcl hnc hcm hg hcs hroom hW cW hWs hpc hroomW hcsW hdl hsz hW1 hc1 hsp1 hfr1 hcp2
  go_enter Try.func92, Try.ntmps92
  go_wp2_with (simp only [hov])
  refine wpT.begin (fun k => k = g) 9 (by kernel_rfl) rfl ?_
  refine wpT.take 0 rfl (by kernel_rfl) (fun _ _ _ h => h) rfl (fun w' hw' => by go_simp <;> with_reducible rfl) ?_
  simp only [Act.put, List.setIfInBounds_toArray, List.set_cons_zero, List.set_cons_succ]
  refine wpT.take 1 rfl (by kernel_rfl) (fun _ _ _ h => h) rfl (fun w' hw' => by go_simp <;> with_reducible rfl) ?_
  simp only [Act.put, List.setIfInBounds_toArray, List.set_cons_zero, List.set_cons_succ]
  refine wpT.take 2 rfl (by kernel_rfl) (fun _ _ _ h => h) rfl (fun w' hw' => by go_simp <;> with_reducible rfl) ?_
  simp only [Act.put, List.setIfInBounds_toArray, List.set_cons_zero, List.set_cons_succ]
  refine wpT.take 3 rfl (by kernel_rfl) (fun _ _ _ h => h) rfl (fun w' hw' => by go_simp <;> with_reducible rfl) ?_
  simp only [Act.put, List.setIfInBounds_toArray, List.set_cons_zero, List.set_cons_succ]
  refine wpT.take (v := .slice (some ⟨g, o + (i + 1) * 2, none⟩) (n + 1 - (i + 1)) (c - (i + 1))) 4 rfl (by kernel_rfl) (fun _ _ _ h => h) rfl (fun w' hw' => exec_sl _ _ _ _ _ rfl _ (hs5.out w')) ?_
  simp only [Act.put, List.setIfInBounds_toArray, List.set_cons_zero, List.set_cons_succ]
  refine wpT.take 5 rfl (by kernel_rfl) (fun _ _ _ h => h) rfl (fun w' hw' => by go_simp <;> with_reducible rfl) ?_
  simp only [Act.put, List.setIfInBounds_toArray, List.set_cons_zero, List.set_cons_succ]
  refine wpT.take 6 rfl (by kernel_rfl) (fun _ _ _ h => h) rfl (fun w' hw' => by go_simp <;> with_reducible rfl) ?_
  simp only [Act.put, List.setIfInBounds_toArray, List.set_cons_zero, List.set_cons_succ]
  refine wpT.take (v := .slice (some ⟨g, o + i * 2, none⟩) (n + 1 - i) (c - i)) 7 rfl (by kernel_rfl) (fun _ _ _ h => h) rfl (fun w' hw' => exec_sl _ _ _ _ _ rfl _ (hs6.out w')) ?_
  simp only [Act.put, List.setIfInBounds_toArray, List.set_cons_zero, List.set_cons_succ]
  refine wpT.call 8 rfl (by kernel_rfl) rfl (fun K hK => ?_)
  refine wp_copy _ _ 49 49 rfl _ _ _ _ rfl rfl (hcp1.out _ _ _) ?_
  refine hK _ _ HC1.out ?_
  clear hK
  try (simp only [Act.put, List.setIfInBounds_toArray, List.set_cons_zero, List.set_cons_succ])
  refine wpT.done (by kernel_rfl) ?_
  have hcp2 := HCP2.out
  go_wp2_with fail
  go_ret
  exact HFIN.out

theorem if_two {α : Type} {A B : Prop} [Decidable A] [Decidable B] (h : A → ¬ B) (x y z : α) : (if A then x else if B then y else z) = if B then y else if A then x else z := by
  by_cases a : A
  · rw [if_pos a, if_neg (h a), if_pos a]
  · rw [if_neg a, if_neg a]
set_option maxRecDepth 100000 in
set_option maxHeartbeats 2000000 in
/-- Without room. -/
theorem insert_grow (w : World) (g o c i : Nat) (l : List Pt) (p : Pt) (h : Pts w (.slice (some ⟨g, o, none⟩) l.length c) l) (hl : l.length ≤ 1000000) (hi : i < l.length) (hc : c < l.length + 1) :
    Calls Try.prog 92 #[.slice (some ⟨g, o, none⟩) l.length c, .int .i64 i, .slice (some ⟨w.heap.size, 0, none⟩) 1 1] (w.alloc (.cells #[.int .i64 p.tk, .int .i64 p.val] 32)) fun e w' => InsOut w (.slice (some ⟨g, o, none⟩) l.length c) (insP l i p) e w' := by
  obtain ⟨n, hn⟩ : ∃ n, n = l.length := ⟨_, rfl⟩
  have HN := Lib.hid hn
  have h0 := h
  unfold Pts at h0
  rw [← hn] at hl h0 hi hc ⊢
  have hcl := h0.1
  obtain ⟨g', o', hv, hnc, hg, hcs⟩ := reads_some h0 (by omega)
  simp only [Option.some.injEq, Addr.mk.injEq, and_true] at hv
  obtain ⟨rfl, rfl⟩ := hv
  clear h h0
  obtain ⟨W, hW⟩ : ∃ W, W = w.alloc (.cells #[.int .i64 p.tk, .int .i64 p.val] 32) := ⟨_, rfl⟩
  have cW : Chg (fun _ => False) w W := by rw [hW]; exact (Chg.refl _ w).alloc _
  have hWs : W.heap.size = w.heap.size + 1 := by rw [hW]; simp
  have hpc : ∀ j v, [Value.int .i64 p.tk, .int .i64 p.val][j]? = some v → W.cell? ⟨w.heap.size, j, none⟩ = some v := fun j v hj => by
    rw [hW, World.cell?_alloc_new]; simpa using hj
  have hcsW : ∀ j u, (l.flatMap Pt.cells)[j]? = some u → W.cell? ⟨g, o + j, none⟩ = some u := fun j u hj => cW.cell (hcs j u hj) (fun h => h)
  have hdl : ((l.flatMap Pt.cells).drop (i * 2)).length = (n - i) * 2 := by rw [List.length_drop, hcl]; omega
  have htl : ((l.flatMap Pt.cells).take (i * 2)).length = i * 2 := by rw [List.length_take, hcl]; omega
  have hsz : (Try.prog.info? 32).map (·.size) = some 2 := by kernel_rfl
  obtain ⟨i0, hi0, hz0, hz1, hz2⟩ := info_parts infoPt
  have hold : (Builtin.firstCells i0.size i (.slice (some ⟨g, o, none⟩) i c)).run Try.prog W.drew = .ok ((l.flatMap Pt.cells).take (i * 2)).toArray W.drew := by
    rw [hz1]
    exact run_firstCells_some W.drew 2 i ⟨g, o, none⟩ i c _ htl (fun j v hj => by
      rw [Addr.add_lit]
      rw [List.getElem?_take] at hj
      split at hj
      · exact hcsW j v hj
      · cases hj)
  obtain ⟨G, hG⟩ : ∃ G, G = grownCap W (n + 1) c 32 := ⟨_, rfl⟩
  obtain ⟨ROW, hROW⟩ : ∃ ROW : Array Value, ROW = ((l.flatMap Pt.cells).take (i * 2)).toArray ++ Builtin.zeroCells (Value.agg #[.int .i64 0, .int .i64 0]).cells (n + 1 - i) ++ Builtin.zeroCells (Value.agg #[.int .i64 0, .int .i64 0]).cells (G - (n + 1)) := ⟨_, rfl⟩
  have hrz : ∀ ty, (Builtin.append_ #[49, 3] ty #[.slice (some ⟨g, o, none⟩) i c, .int .i64 ((n + 1 - i : Nat) : Int)]).run Try.prog W = .ok (.slice (some ⟨W.heap.size, 0, none⟩) (n + 1) G) (W.drew.alloc (.cells ROW 32)) := fun ty => by
    have hik : i + (n + 1 - i) = n + 1 := by omega
    have h := Lib.run_append_grow_zeros W 49 3 ty 32 i0 _ .i64 .i64 Try.underlying49 Try.underlying3 hi0 hz0 (some ⟨g, o, none⟩) i c _ hold (n + 1 - i) (by omega) (by omega) (by omega) (by omega) (by rw [hz2]; omega) (by rw [hz2, hik]; exact growslice_fits hc (by omega))
    rw [hik] at h
    rw [hROW, hG]
    exact h
  have hGn : n + 1 ≤ G := by rw [hG]; exact grownCap_ge W _ _ _
  have hGm : G ≤ maxLen := by rw [hG]; exact grownCap_le_maxLen W _ _ _ (by simp only [maxLen]; omega)
  have hRs : ROW.size = G * 2 := by
    rw [hROW]
    simp only [Array.size_append, List.size_toArray, size_zeroCells, htl]
    simp [Value.cells]
    omega
  obtain ⟨W1, hW1⟩ : ∃ W1, W1 = W.drew.alloc (.cells ROW 32) := ⟨_, rfl⟩
  rw [← hW1] at hrz
  have hWd : W.drew.heap.size = W.heap.size := rfl
  have hN : ∀ k, W1.cell? ⟨W.heap.size, k, none⟩ = ROW[k]? := fun k => by
    rw [hW1, World.cell?_alloc_at (w := W.drew) ROW _ W.heap.size k rfl]
  have hroom : ∀ j, j < G * 2 → (W1.cell? ⟨W.heap.size, j, none⟩).isSome = true ∧ W1.frozen? ⟨W.heap.size, j, none⟩ = false := fun j hj => ⟨by
    rw [hN, Array.getElem?_eq_getElem (by omega)]; rfl, by rw [hW1]; exact World.frozen?_alloc_at (w := W.drew) ROW _ W.heap.size _ rfl⟩
  have hpre : ∀ j u, j < i * 2 → (l.flatMap Pt.cells)[j]? = some u → W1.cell? ⟨W.heap.size, j, none⟩ = some u := fun j u hj hu => by
    rw [hN, hROW, Array.append_assoc, Array.getElem?_append_left (by simp only [List.size_toArray]; omega)]
    rw [List.getElem?_toArray, List.getElem?_take_of_lt hj]
    exact hu
  have c1 : Chg (fun _ => False) w W1 := by rw [hW1]; exact cW.drew.alloc _
  have hOb : ∀ j u, (l.flatMap Pt.cells)[j]? = some u → W1.cell? ⟨g, o + j, none⟩ = some u := fun j u hj => c1.cell (hcs j u hj) (fun h => h)
  have hOv : ∀ j v, [Value.int .i64 p.tk, .int .i64 p.val][j]? = some v → W1.cell? ⟨w.heap.size, j, none⟩ = some v := fun j v hj => by
    rw [hW1]
    exact (((Chg.refl (fun _ => False) W).drew).alloc _).cell (hpc j v hj) (fun h => h)
  have hcp1 : ∀ ty dc, (Builtin.copy_ #[49, 49] ty #[.slice (some ⟨W.heap.size, i * 2, none⟩) (n + 1 - i) dc, .slice (some ⟨w.heap.size, 0, none⟩) 1 1]).run Try.prog W1 = .ok (goInt ((1 : Nat) : Int)) (W1.setCells W.heap.size (i * 2) [.int .i64 p.tk, .int .i64 p.val]) := fun ty dc =>
    run_copy_rows W1 _ _ ty 32 2 W.heap.size (i * 2) (n + 1 - i) dc ⟨w.heap.size, 0, none⟩ 1 1 1 _ Try.underlying49 hsz (by simp only [Nat.min_def]; split <;> omega) rfl
      (fun j v hj => by rw [Addr.add_lit, Nat.zero_add]; exact hOv j v hj)
      (fun j hj => by exact (hroom _ (by simp at hj; omega)).1) (fun j hj => by exact (hroom _ (by simp at hj; omega)).2) (by intro v hv; simp at hv; rcases hv with rfl | rfl <;> rfl)
  obtain ⟨W2, hW2⟩ : ∃ W2, W2 = W1.setCells W.heap.size (i * 2) [.int .i64 p.tk, .int .i64 p.val] := ⟨_, rfl⟩
  have hc2 : ∀ k, W2.cell? ⟨W.heap.size, k, none⟩ = if i * 2 ≤ k ∧ k < i * 2 + 2 then [Value.int .i64 p.tk, .int .i64 p.val][k - (i * 2)]? else W1.cell? ⟨W.heap.size, k, none⟩ := fun k => by
    rw [hW2, cell_setCells (w := W1) (fun j hj => by exact (hroom _ (by simp at hj; omega)).1) k]; rfl
  have hfr2 : ∀ x, W2.frozen? x = W1.frozen? x := fun x => by rw [hW2, World.frozen?_setCells]
  have hsp2 : ∀ k, k < G * 2 → (W2.cell? ⟨W.heap.size, k, none⟩).isSome = true := fun k hk => by
    rw [hc2]
    split
    · rw [List.getElem?_eq_getElem (by simp; omega)]; rfl
    · exact (hroom k hk).1
  have hgW : g ≠ W.heap.size := by omega
  have hcp2 : Hid (∀ ty dc sc, (Builtin.copy_ #[49, 49] ty #[.slice (some ⟨W.heap.size, (i + 1) * 2, none⟩) (n + 1 - (i + 1)) dc, .slice (some ⟨g, o + i * 2, none⟩) (n - i) sc]).run Try.prog W2.drew = .ok (goInt ((n - i : Nat) : Int)) (W2.drew.setCells W.heap.size ((i + 1) * 2) ((l.flatMap Pt.cells).drop (i * 2)))) := fun ty dc sc =>
    run_copy_rows W2.drew _ _ ty 32 2 W.heap.size ((i + 1) * 2) (n + 1 - (i + 1)) dc ⟨g, o + i * 2, none⟩ (n - i) sc (n - i) _ Try.underlying49 hsz (by simp only [Nat.min_def]; split <;> omega) hdl
      (fun j v hj => by
        rw [Addr.add_lit, Nat.add_assoc]
        have e : W2.drew.cell? ⟨g, o + (i * 2 + j), none⟩ = W1.cell? ⟨g, o + (i * 2 + j), none⟩ := by
          show W2.cell? _ = _
          rw [hW2, World.cell?_setCells_out W.heap.size _ _ W1 _ (fun h _ => absurd h hgW)]
        rw [e]
        exact hOb (i * 2 + j) v (by rwa [List.getElem?_drop] at hj))
      (fun j hj => by exact hsp2 _ (by rw [hdl] at hj; omega)) (fun j hj => by show W2.frozen? _ = false; rw [hfr2]; exact (hroom _ (by rw [hdl] at hj; omega)).2) (fun v hv => ptone l v (List.mem_of_mem_drop hv))
  obtain ⟨W3, hW3⟩ : ∃ W3, W3 = W2.drew.setCells W.heap.size ((i + 1) * 2) ((l.flatMap Pt.cells).drop (i * 2)) := ⟨_, rfl⟩
  have HC1 : Hid (Chg (fun k => k = W.heap.size) W2.drew W3) := by rw [hW3]; exact Chg.setCells _ _ _ _
  have HFIN : Hid (InsOut w (.slice (some ⟨g, o, none⟩) n c) (insP l i p) (.returned (.slice (some ⟨W.heap.size, 0, none⟩) (n + 1) G)) W3) := by
    refine ⟨_, rfl, ?_, fun k hk => .inr (by simp [Value.ownBlock] at hk; omega), ?_⟩
    · unfold OPts
      rw [insP_len (by rw [← HN.out]; omega), insP_cells, ← HN.out]
      refine owns_gap (w := W1) (i := i) (n := n) _ hGn hGm (by rw [hW1]; simp) (fun j hj => by rw [Nat.zero_add]; exact hroom j hj) hcl rfl (by omega) (fun j u hj hu => by rw [Nat.zero_add]; exact hpre j u hj hu) (by rw [hW3, size_setCells]; show W2.heap.size = _; rw [hW2, size_setCells]) (fun k => ?_) (fun k => by rw [hW3, World.frozen?_setCells]; exact hfr2 _)
      simp only [Nat.zero_add]
      rw [hW3, cell_setCells (w := W2.drew) (fun j hj => by exact hsp2 _ (by rw [hdl] at hj; omega)) k]
      show (if _ then _ else W2.cell? _) = _
      rw [hc2, if_two (by omega), show (i + 1) * 2 = i * 2 + 2 by omega]
      rfl
    · have c2 : Chg (fun _ => False) w W2 := by rw [hW2]; exact c1.new (Chg.setCells _ _ _ _) (fun k hk => by omega)
      exact (c2.drew.new HC1.out (fun k hk => by omega)).mono (fun _ _ h => h.elim)
  rw [← hW2] at hcp1
  rw [← hW3] at hcp2
  have hs1 : Hid (∀ X, (Instr.sliceAt 49 (.slice (some ⟨g, o, none⟩) n c) (some (.int .i64 i)) none none).run Try.prog X = .ok (.slice (some ⟨g, o + i * 2, none⟩) (n - i) (c - i)) X) := fun X => by rw [sl_lo X _ n c i (by omega), if_neg (by omega)]; simp [Addr.add_lit]
  have hs1' := hs1.out
  have hs2 := fun X => sl_hi X (some ⟨g, o, none⟩) n c i (by omega)
  have hs3 : ∀ X, (Instr.sliceAt 49 (.slice (some ⟨W.heap.size, 0, none⟩) (n + 1) G) (some (.int .i64 i)) none none).run Try.prog X = .ok (.slice (some ⟨W.heap.size, i * 2, none⟩) (n + 1 - i) (G - i)) X := fun X => by rw [sl_lo X _ (n + 1) G i (by omega), if_neg (by omega)]; simp [Addr.add_lit]
  have hs5 : Hid (∀ X, (Instr.sliceAt 49 (.slice (some ⟨W.heap.size, 0, none⟩) (n + 1) G) (some (.int .i64 ((i : Int) + 1))) none none).run Try.prog X = .ok (.slice (some ⟨W.heap.size, (i + 1) * 2, none⟩) (n + 1 - (i + 1)) (G - (i + 1))) X) := fun X => by
    rw [show (i : Int) + 1 = ((i + 1 : Nat) : Int) from rfl, sl_lo X _ (n + 1) G (i + 1) (by omega), if_neg (by omega)]; simp [Addr.add_lit]
  have e1 : IntKind.i64.wrap ((n : Int) + 1) = (n : Int) + 1 := IntWalk.i64_in _ (by omega)
  have e2 : IntKind.i64.wrap ((i : Int) + 1) = (i : Int) + 1 := IntWalk.i64_in _ (by omega)
  have e3 : IntKind.i64.wrap ((n : Int) + 1 - i) = ((n + 1 - i : Nat) : Int) := by rw [IntWalk.i64_in _ (by omega)]; omega
  have e4 : (n : Int) + 1 - i = ((n + 1 - i : Nat) : Int) := by omega
  have i1 : ¬ ((i : Int) = n) := by omega
  have i2 : (c : Int) < (n : Int) + 1 := by omega
  have HRZ := Lib.hid hrz
  have HCP1 := Lib.hid hcp1
  rw [← hW]
  clear hn hnc hg hcs hW cW hWs hpc hcsW hdl htl hsz hi0 hz0 hz1 hz2 hold hG hROW hrz hGn hGm hRs hW1 hWd hN hroom hpre c1 hOb hOv hcp1 hW2 hc2 hfr2 hsp2 hgW hW3 hcl
  go_enter Try.func92, Try.ntmps92
  go_wp2_with (at_builtin; go_loud (refine Lib.wpList_append_run _ rfl _ _ 49 3 rfl _ _ rfl (by first | rfl | exact congrArg _ e4) _ _ (HRZ.out _) ?_; refine Hid.out ?_))
  refine Lib.hid ?_
  clear e4
  have hcp1 := HCP1.out
  go_wp2_with fail
  refine wpT.begin (fun k => k = W.heap.size) 9 (by kernel_rfl) rfl ?_
  refine wpT.take 0 rfl (by kernel_rfl) (fun _ _ _ h => h) rfl (fun w' hw' => by go_simp <;> with_reducible rfl) ?_
  simp only [Act.put, List.setIfInBounds_toArray, List.set_cons_zero, List.set_cons_succ]
  refine wpT.take 1 rfl (by kernel_rfl) (fun _ _ _ h => h) rfl (fun w' hw' => by go_simp <;> with_reducible rfl) ?_
  simp only [Act.put, List.setIfInBounds_toArray, List.set_cons_zero, List.set_cons_succ]
  refine wpT.take 2 rfl (by kernel_rfl) (fun _ _ _ h => h) rfl (fun w' hw' => by go_simp <;> with_reducible rfl) ?_
  simp only [Act.put, List.setIfInBounds_toArray, List.set_cons_zero, List.set_cons_succ]
  refine wpT.take 3 rfl (by kernel_rfl) (fun _ _ _ h => h) rfl (fun w' hw' => by go_simp <;> with_reducible rfl) ?_
  simp only [Act.put, List.setIfInBounds_toArray, List.set_cons_zero, List.set_cons_succ]
  refine wpT.take (v := .slice (some ⟨W.heap.size, (i + 1) * 2, none⟩) (n + 1 - (i + 1)) (G - (i + 1))) 4 rfl (by kernel_rfl) (fun _ _ _ h => h) rfl (fun w' hw' => exec_sl _ _ _ _ _ rfl _ (hs5.out w')) ?_
  simp only [Act.put, List.setIfInBounds_toArray, List.set_cons_zero, List.set_cons_succ]
  refine wpT.take 5 rfl (by kernel_rfl) (fun _ _ _ h => h) rfl (fun w' hw' => by go_simp <;> with_reducible rfl) ?_
  simp only [Act.put, List.setIfInBounds_toArray, List.set_cons_zero, List.set_cons_succ]
  refine wpT.take 6 rfl (by kernel_rfl) (fun _ _ _ h => h) rfl (fun w' hw' => by go_simp <;> with_reducible rfl) ?_
  simp only [Act.put, List.setIfInBounds_toArray, List.set_cons_zero, List.set_cons_succ]
  refine wpT.take (v := .slice (some ⟨g, o + i * 2, none⟩) (n - i) (c - i)) 7 rfl (by kernel_rfl) (fun _ _ _ h => h) rfl (fun w' hw' => exec_sl _ _ _ _ _ rfl _ (hs1.out w')) ?_
  simp only [Act.put, List.setIfInBounds_toArray, List.set_cons_zero, List.set_cons_succ]
  refine wpT.call 8 rfl (by kernel_rfl) rfl (fun K hK => ?_)
  refine wp_copy _ _ 49 49 rfl _ _ _ _ rfl rfl (hcp2.out _ _ _) ?_
  refine hK _ _ HC1.out ?_
  clear hK
  try (simp only [Act.put, List.setIfInBounds_toArray, List.set_cons_zero, List.set_cons_succ])
  refine wpT.done (by kernel_rfl) ?_
  go_wp2_with fail
  go_ret
  exact HFIN.out
theorem insert_pts (w : World) (v : Value) (l : List Pt) (i : Nat) (p : Pt) (h : OPts w v l) (hl : l.length ≤ 1000000) (hi : i ≤ l.length) :
    Calls Try.prog 92 #[v, .int .i64 i, .slice (some ⟨w.heap.size, 0, none⟩) 1 1] (w.alloc (.cells #[.int .i64 p.tk, .int .i64 p.val] 32)) fun e w' => InsOut w v (insP l i p) e w' := by
  rcases Nat.lt_or_ge i l.length with h1 | h1
  · obtain ⟨a, c, rfl⟩ := h.form
    obtain ⟨g, o, rfl, hnc, _, _⟩ := reads_some h.reads (by omega)
    rcases Nat.lt_or_ge c (l.length + 1) with h2 | h2
    · exact insert_grow w g o c i l p h.reads hl h1 h2
    · exact insert_room w g o c i l p h hl h1 h2
  · obtain rfl : i = l.length := by omega
    exact insert_end w v l p h hl
end Go.Proofs.Ytmnnahkaenikkaa
