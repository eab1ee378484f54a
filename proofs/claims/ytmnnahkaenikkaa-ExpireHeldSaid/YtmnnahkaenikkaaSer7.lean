/- slices.Delete at points. -/
import Derived.Test.YtmnnahkaenikkaaSer6
namespace Go.Cat
open Go.RowKit
theorem run_app_in {P : Program} (w : World) (t ty e : TypeId) (i : TypeInfo) (size : Nat) (ht : P.underlying t = some (.slice e)) (hi : P.info? e = some i) (hsize : i.size = size)
    (g o n cap : Nat) (xs : List Value) (hown : Owns w size (.slice (some ⟨g, o, none⟩) n cap) n xs) (x : Value) (m : Nat) (news : List Value) (hx : Reads w size x m news) (h1 : ∀ u ∈ news, u.oneCell' = true) (hfit : n + m ≤ cap) :
    (Builtin.append_ #[t, t] ty #[.slice (some ⟨g, o, none⟩) n cap, x]).run P w = .ok (.slice (some ⟨g, o, none⟩) (n + m) cap) (w.setCells g (o + n * size) news) := by
  subst hsize
  rcases hown.2 with ⟨hv, _⟩ | ⟨g', o', cap', hv, hnc, hcm, hgl, hcells, hroom⟩
  · simp at hv
  simp only [Value.slice.injEq, Option.some.injEq, Addr.mk.injEq, true_and, and_true] at hv
  obtain ⟨⟨rfl, rfl⟩, rfl⟩ := hv
  have hf := run_firstCells_of (P := P) hx
  have hle : n * i.size + news.length ≤ cap * i.size := by rw [hx.1, ← Nat.add_mul]; exact Nat.mul_le_mul_right _ hfit
  have hst := run_storeCells_cells (P := P) g (o + n * i.size) news 0 w (fun j hj => by
      have := (hroom (n * i.size + j) (by omega)).1
      rwa [show o + n * i.size + 0 + j = o + (n * i.size + j) by omega]) (fun j hj => by
      have := (hroom (n * i.size + j) (by omega)).2
      rwa [show o + n * i.size + 0 + j = o + (n * i.size + j) by omega]) h1
  simp only [Nat.add_zero] at hst
  rcases hx.2 with ⟨rfl, rfl⟩ | ⟨g', o', c, rfl, _⟩
  · simp only [Nat.add_zero] at hfit ⊢
    simp [Builtin.append_, run_underlying ht, sizeOf, typeInfo, hi, Builtin.lenOf, hfit, hf, addr_add, hst]
  · simp [Builtin.append_, run_underlying ht, sizeOf, typeInfo, hi, Builtin.lenOf, hfit, hf, addr_add, hst]
theorem zero_mem {c : Array Value} {n : Nat} (h1 : ∀ v ∈ c, v.oneCell' = true) : ∀ v ∈ Builtin.zeroCells c n, v.oneCell' = true := fun v hv => by
  obtain ⟨j, hj, he⟩ := Array.mem_iff_getElem.1 hv
  have hj' : j < n * c.size := by simpa [Builtin.zeroCells] using hj
  have hs : 0 < c.size := by
    rcases Nat.eq_zero_or_pos c.size with h | h
    · rw [h, Nat.mul_zero] at hj'; omega
    · exact h
  simp only [Builtin.zeroCells, Array.getElem_map, Array.getElem_range] at he
  rw [getElem!_pos c _ (Nat.mod_lt _ hs)] at he
  exact h1 v (he ▸ Array.getElem_mem _)
theorem run_clear_rows {P : Program} (w : World) (t e ty : TypeId) (z : Value) (s : Nat) (ht : P.underlying t = some (.slice e)) (hv : ∀ w, (zeroValue e).run P w = .ok z w) (hz : z.cells.size = s) (h1 : ∀ v ∈ z.cells, v.oneCell' = true) (b o n c : Nat) (hn : 0 < n)
    (hc : ∀ j, j < n * s → (w.cell? ⟨b, o + j, none⟩).isSome = true) (hf : ∀ j, j < n * s → w.frozen? ⟨b, o + j, none⟩ = false) :
    (Builtin.clear_ #[t] ty #[.slice (some ⟨b, o, none⟩) n c]).run P w = .ok (.tuple #[]) (w.setCells b o (Builtin.zeroCells z.cells n).toList) := by
  have hl : (Builtin.zeroCells z.cells n).toList.length = n * s := by rw [Array.length_toList, size_zeroCells, hz]
  have hst := run_storeCells_cells (P := P) b o (Builtin.zeroCells z.cells n).toList 0 w (by rw [hl]; simpa using hc) (by rw [hl]; simpa using hf) (by
    intro v hv'
    have hv2 : v ∈ Builtin.zeroCells z.cells n := by simpa using hv'
    exact zero_mem h1 v hv2)
  simp only [Nat.add_zero] at hst
  obtain ⟨m, rfl⟩ : ∃ m, n = m + 1 := ⟨n - 1, by omega⟩
  simp [Builtin.clear_, run_underlying ht, hv, hst]
theorem owns_take {w : World} {s g o n c i : Nat} {xs : List Value} (h : Owns w s (.slice (some ⟨g, o, none⟩) n c) n xs) (hi : i ≤ n) : Owns w s (.slice (some ⟨g, o, none⟩) i c) i (xs.take (i * s)) := by
  have hin : i * s ≤ n * s := Nat.mul_le_mul_right _ hi
  rcases h.2 with ⟨hv, _⟩ | ⟨g', o', c', hv, h1, h2, h3, h4, h5⟩
  · simp at hv
  simp only [Value.slice.injEq, Option.some.injEq, Addr.mk.injEq, true_and, and_true] at hv
  obtain ⟨⟨rfl, rfl⟩, rfl⟩ := hv
  refine ⟨by rw [List.length_take, h.1]; omega, .inr ⟨g, o, c, rfl, by omega, h2, h3, fun j u hj => ?_, h5⟩⟩
  rw [List.getElem?_take] at hj
  split at hj
  · exact h4 j u hj
  · cases hj
theorem owns_past {w : World} {s g o n c : Nat} {xs zs : List Value} (h : Owns w s (.slice (some ⟨g, o, none⟩) n c) n xs) (hz : n * s + zs.length ≤ c * s) : Owns (w.setCells g (o + n * s) zs) s (.slice (some ⟨g, o, none⟩) n c) n xs := by
  rcases h.2 with ⟨hv, _⟩ | ⟨g', o', c', hv, h1, h2, h3, h4, h5⟩
  · simp at hv
  simp only [Value.slice.injEq, Option.some.injEq, Addr.mk.injEq, true_and, and_true] at hv
  obtain ⟨⟨rfl, rfl⟩, rfl⟩ := hv
  have hex : ∀ j, j < zs.length → (w.cell? ⟨g, o + n * s + j, none⟩).isSome = true := fun j hj => by rw [Nat.add_assoc]; exact (h5 _ (by omega)).1
  refine ⟨h.1, .inr ⟨g, o, c, rfl, h1, h2, by rw [size_setCells]; exact h3, fun j u hj => ?_, fun j hj => ⟨?_, by rw [World.frozen?_setCells]; exact (h5 j hj).2⟩⟩⟩
  · have := (List.getElem?_eq_some_iff.1 hj).1
    rw [cell_setCells hex, if_neg (by rw [h.1] at this; omega)]
    exact h4 j u hj
  · rw [cell_setCells hex]
    split
    · rw [List.getElem?_eq_getElem (by omega)]; rfl
    · exact (h5 j hj).1
end Go.Cat
namespace Go.Proofs.Ytmnnahkaenikkaa
open Go.RowKit Go.Cat
def cutP (l : List Pt) (i k : Nat) : List Pt := l.take i ++ l.drop k
theorem cutP_cells (l : List Pt) (i k : Nat) : (cutP l i k).flatMap Pt.cells = (l.flatMap Pt.cells).take (i * 2) ++ (l.flatMap Pt.cells).drop (k * 2) := by
  unfold cutP
  rw [List.flatMap_append, rows_take l (s := 2) (f := Pt.cells) (fun _ _ => rfl), rows_drop l (s := 2) (f := Pt.cells) (fun _ _ => rfl)]
set_option maxRecDepth 100000 in
set_option maxHeartbeats 2000000 in
theorem delete_pts (w : World) (v : Value) (l : List Pt) (i k : Nat) (h : OPts w v l) (hl : l.length ≤ 1000000) (hik : i < k) (hk : k ≤ l.length) :
    Calls Try.prog 81 #[v, .int .i64 i, .int .i64 k] w fun e w' => InsOut w v (cutP l i k) e w' := by
  obtain ⟨a, c, rfl⟩ := h.form
  obtain ⟨g, o, rfl, hnc, hg, hcs⟩ := reads_some h.reads (by omega)
  obtain ⟨n, hn⟩ : ∃ n, n = l.length := ⟨_, rfl⟩
  have HN := Lib.hid hn
  have h0 := h
  unfold OPts at h0
  rw [← hn] at hl h0 hk hnc ⊢
  have hcl := h0.1
  have hcm : c ≤ maxLen := by
    rcases h0.2 with ⟨hv, _⟩ | ⟨g', o', c', hv, _, h2, _⟩
    · simp at hv
    · simp only [Value.slice.injEq, true_and] at hv; omega
  obtain ⟨i0, hi0, hz0, hz1, hz2⟩ := info_parts infoPt
  -- the append in place
  have hO := owns_take (i := i) h0.drew (by omega)
  obtain ⟨ya, hya⟩ : ∃ ya, ya = (if c = k then some (⟨g, o, none⟩ : Addr) else (some (⟨g, o, none⟩ : Addr)).map (·.add (k * 2))) := ⟨_, rfl⟩
  have hR : Reads w.drew 2 (.slice ya (n - k) (c - k)) (n - k) ((l.flatMap Pt.cells).drop (k * 2)) := by
    have := Reads.drop h0.drew.reads (lo := k) hk hnc
    rw [← hya] at this
    exact this
  have hrn : ∀ ty, (Builtin.append_ #[49, 49] ty #[.slice (some ⟨g, o, none⟩) i c, .slice ya (n - k) (c - k)]).run Try.prog w.drew = .ok (.slice (some ⟨g, o, none⟩) (i + (n - k)) c) (w.drew.setCells g (o + i * 2) ((l.flatMap Pt.cells).drop (k * 2))) := fun ty =>
    run_app_in w.drew 49 ty 32 i0 2 Try.underlying49 hi0 hz1 g o i c _ hO _ (n - k) _ hR (fun u hu => ptone l u (List.mem_of_mem_drop hu)) (by omega)
  obtain ⟨W1, hW1⟩ : ∃ W1, W1 = w.drew.setCells g (o + i * 2) ((l.flatMap Pt.cells).drop (k * 2)) := ⟨_, rfl⟩
  have hO1 : Owns W1 2 (.slice (some ⟨g, o, none⟩) (i + (n - k)) c) (i + (n - k)) ((l.flatMap Pt.cells).take (i * 2) ++ (l.flatMap Pt.cells).drop (k * 2)) := by
    obtain ⟨v', w', hr, h2, _⟩ := run_app (P := Try.prog) w.drew 49 49 32 i0 _ 2 16 Try.underlying49 hi0 hz0 hz1 hz2 rfl _ i _ hO _ (n - k) _ hR (fun u hu => ptone l u (List.mem_of_mem_drop hu)) (by simp only [maxLen]; omega) (by omega)
    rw [hrn] at hr
    injection hr with e1 e2
    rw [← e1, ← e2, ← hW1] at h2
    exact h2
  obtain ⟨m, hm⟩ : ∃ m, m = i + (n - k) := ⟨_, rfl⟩
  rw [← hm] at hrn hO1
  have hlz : (Builtin.zeroCells (Value.agg #[.int .i64 0, .int .i64 0]).cells (k - i)).toList.length = (k - i) * 2 := by rw [Array.length_toList, size_zeroCells]; rfl
  have hroom1 : ∀ j, j < c * 2 → (W1.cell? ⟨g, o + j, none⟩).isSome = true ∧ W1.frozen? ⟨g, o + j, none⟩ = false := by
    rcases hO1.2 with ⟨hv, _⟩ | ⟨g', o', c', hv, _, _, _, _, h5⟩
    · simp at hv
    · simp only [Value.slice.injEq, Option.some.injEq, Addr.mk.injEq, true_and, and_true] at hv
      obtain ⟨⟨rfl, rfl⟩, rfl⟩ := hv
      exact h5
  have hcr : ∀ ty, (Builtin.clear_ #[49] ty #[.slice (some ⟨g, o + m * 2, none⟩) (k - i) (c - m)]).run Try.prog W1 = .ok (.tuple #[]) (W1.setCells g (o + m * 2) (Builtin.zeroCells (Value.agg #[.int .i64 0, .int .i64 0]).cells (k - i)).toList) := fun ty =>
    run_clear_rows W1 49 32 ty _ 2 Try.underlying49 (fun w => by simp [zeroValue, typeInfo, hi0, hz0]) rfl (by intro v hv; simp [Value.cells] at hv; rcases hv with rfl | rfl <;> rfl) g (o + m * 2) (k - i) (c - m) (by omega) (fun j hj => by rw [Nat.add_assoc]; exact (hroom1 _ (by omega)).1) (fun j hj => by rw [Nat.add_assoc]; exact (hroom1 _ (by omega)).2)
  have hO2 := owns_past (zs := (Builtin.zeroCells (Value.agg #[.int .i64 0, .int .i64 0]).cells (k - i)).toList) hO1 (by rw [hlz]; omega)
  obtain ⟨W2, hW2⟩ : ∃ W2, W2 = W1.setCells g (o + m * 2) (Builtin.zeroCells (Value.agg #[.int .i64 0, .int .i64 0]).cells (k - i)).toList := ⟨_, rfl⟩
  rw [← hW2] at hcr hO2
  rw [← hW1] at hrn
  have HC1 : Hid (Chg (fun q => q = g) w.drew W1) := by rw [hW1]; exact Chg.setCells _ _ _ _
  have HFIN : Hid (InsOut w (.slice (some ⟨g, o, none⟩) n c) (cutP l i k) (.returned (.slice (some ⟨g, o, none⟩) m c)) W2) := by
    refine ⟨_, rfl, ?_, fun k hk => .inl hk, ?_⟩
    · unfold OPts
      rw [cutP_cells, show (cutP l i k).length = m by unfold cutP; rw [List.length_append, List.length_take, List.length_drop, ← HN.out]; omega]
      exact hO2
    · have c1 : Chg (fun q => q = g) w W2 := by rw [hW2]; exact (((Chg.refl (fun q => q = g) w).drew).trans HC1.out).trans (Chg.setCells _ _ _ _)
      exact c1.mono (fun k _ hk => by rw [hk]; rfl)
  have hs1 : ∀ X, (Instr.sliceAt 49 (.slice (some ⟨g, o, none⟩) n c) (some (.int .i64 i)) (some (.int .i64 k)) (some (.int .i64 n))).run Try.prog X = .ok (.slice (if n = i then some ⟨g, o, none⟩ else (some (⟨g, o, none⟩ : Addr)).map (·.add (i * 2))) (k - i) (n - i)) X := fun X => by
    have h4 : (i : Int) ≤ k := by omega
    have h5 : (k : Int) ≤ n := by omega
    have h6 : (n : Int) ≤ c := by omega
    have h7 : ¬ k < i := by omega
    have h8 : ¬ n < k := by omega
    have h9 : i ≤ k := by omega
    simp [go_sem, Instr.sliceAt, Instr.slice, Instr.sliceBounds, h4, h5, h6, h7, h8, h9, hk]
  generalize (if n = i then some ⟨g, o, none⟩ else (some (⟨g, o, none⟩ : Addr)).map (·.add (i * 2))) = junk at hs1
  have hs2 : Hid (∀ X, (Instr.sliceAt 49 (.slice (some ⟨g, o, none⟩) n c) none (some (.int .i64 i)) none).run Try.prog X = .ok (.slice (some ⟨g, o, none⟩) i c) X) := fun X => sl_hi X _ n c i (by omega)
  have hs3 : Hid (∀ X, (Instr.sliceAt 49 (.slice (some ⟨g, o, none⟩) n c) (some (.int .i64 k)) none none).run Try.prog X = .ok (.slice ya (n - k) (c - k)) X) := fun X => by rw [sl_lo X _ n c k hk, hya]
  have hs4 : ∀ X, (Instr.sliceAt 49 (.slice (some ⟨g, o, none⟩) m c) (some (.int .i64 m)) (some (.int .i64 n)) none).run Try.prog X = .ok (.slice (some ⟨g, o + m * 2, none⟩) (k - i) (c - m)) X := fun X => by
    rw [sl_both X _ m c m n (by omega) hnc, if_neg (by omega), show n - m = k - i by omega]; simp [Addr.add_lit]
  have i1 : ¬ ((i : Int) = k) := by omega
  have HRN := Lib.hid hrn
  clear hm hn hya hcs hcl hcm hi0 hz0 hz1 hz2 hO hR hrn hW1 hO1 hlz hroom1 hO2 hW2 h0 h hnc hg
  go_enter Try.func81, Try.ntmps81
  go_wp2_with fail
  refine wpT.begin (fun q => q = g) 8 (by kernel_rfl) rfl ?_
  refine wpT.take 0 rfl (by kernel_rfl) (fun _ _ _ h => h) rfl (fun w' hw' => by go_simp <;> with_reducible rfl) ?_
  simp only [Act.put, List.setIfInBounds_toArray, List.set_cons_zero, List.set_cons_succ]
  refine wpT.take 1 rfl (by kernel_rfl) (fun _ _ _ h => h) rfl (fun w' hw' => by go_simp <;> with_reducible rfl) ?_
  simp only [Act.put, List.setIfInBounds_toArray, List.set_cons_zero, List.set_cons_succ]
  refine wpT.take (v := .slice (some ⟨g, o, none⟩) i c) 2 rfl (by kernel_rfl) (fun _ _ _ h => h) rfl (fun w' hw' => exec_sl _ _ _ _ _ rfl _ (hs2.out w')) ?_
  simp only [Act.put, List.setIfInBounds_toArray, List.set_cons_zero, List.set_cons_succ]
  refine wpT.take 3 rfl (by kernel_rfl) (fun _ _ _ h => h) rfl (fun w' hw' => by go_simp <;> with_reducible rfl) ?_
  simp only [Act.put, List.setIfInBounds_toArray, List.set_cons_zero, List.set_cons_succ]
  refine wpT.take 4 rfl (by kernel_rfl) (fun _ _ _ h => h) rfl (fun w' hw' => by go_simp <;> with_reducible rfl) ?_
  simp only [Act.put, List.setIfInBounds_toArray, List.set_cons_zero, List.set_cons_succ]
  refine wpT.take (v := .slice ya (n - k) (c - k)) 5 rfl (by kernel_rfl) (fun _ _ _ h => h) rfl (fun w' hw' => exec_sl _ _ _ _ _ rfl _ (hs3.out w')) ?_
  simp only [Act.put, List.setIfInBounds_toArray, List.set_cons_zero, List.set_cons_succ]
  refine wpT.call 6 rfl (by kernel_rfl) rfl (fun K hK => ?_)
  refine Lib.wp_append_run _ _ _ 49 49 rfl _ _ rfl rfl _ _ (HRN.out _) ?_
  refine hK _ _ HC1.out ?_
  clear hK
  try (simp only [Act.put, List.setIfInBounds_toArray, List.set_cons_zero, List.set_cons_succ])
  refine wpT.take 7 rfl (by kernel_rfl) (fun _ _ _ h => h) rfl (fun w' hw' => by go_simp <;> with_reducible rfl) ?_
  simp only [Act.put, List.setIfInBounds_toArray, List.set_cons_zero, List.set_cons_succ]
  refine wpT.done (by kernel_rfl) ?_
  go_wp2_with fail
  go_ret
  exact HFIN.out
end Go.Proofs.Ytmnnahkaenikkaa
