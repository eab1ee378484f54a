/- slices.Clone, slices.Insert at points. -/
import Derived.Test.YtmnnahkaenikkaaSer1
import Derived.Lib.AppendZerosOnto
import Derived.Lib.Overlaps
import Derived.Laws.IdiomCopy
namespace Go.Cat
open Go.RowKit
/-- copy of elements of any size: all is read before anything is written. -/
theorem run_copy_rows {P : Program} (w : World) (dT sT ty elem : TypeId) (s b o dLen dCap : Nat) (a : Addr) (sLen sCap n : Nat) (cs : List Value)
    (hu : P.underlying dT = some (.slice elem)) (hs : (P.info? elem).map (·.size) = some s) (hn : n = Nat.min sLen dLen) (hl : cs.length = n * s)
    (hsrc : ∀ j v, cs[j]? = some v → w.cell? (a.add j) = some v) (hc : ∀ j, j < cs.length → (w.cell? ⟨b, o + j, none⟩).isSome = true) (hf : ∀ j, j < cs.length → w.frozen? ⟨b, o + j, none⟩ = false) (h1 : ∀ v ∈ cs, v.oneCell' = true) :
    (Builtin.copy_ #[dT, sT] ty #[.slice (some ⟨b, o, none⟩) dLen dCap, .slice (some a) sLen sCap]).run P w = .ok (goInt n) (w.setCells b o cs) := by
  have hld := run_loadCells_list (P := P) w a cs hsrc
  have hst := run_storeCells_cells (P := P) b o cs 0 w (by simpa using hc) (by simpa using hf) h1
  cases hq : P.info? elem with
  | none => simp [hq] at hs
  | some i =>
    have hi : i.size = s := by simpa [hq] using hs
    subst hi
    rw [hl] at hld
    simp [Builtin.copy_, run_underlying hu, Builtin.lenOf, Builtin.firstCells, sizeOf, typeInfo, hq, ← hn, hld, hst]
theorem cell_setCells {w : World} {g o : Nat} {vs : List Value} (h : ∀ j, j < vs.length → (w.cell? ⟨g, o + j, none⟩).isSome = true) (k : Nat) :
    (w.setCells g o vs).cell? ⟨g, k, none⟩ = if o ≤ k ∧ k < o + vs.length then vs[k - o]? else w.cell? ⟨g, k, none⟩ := by
  by_cases hin : o ≤ k ∧ k < o + vs.length
  · rw [if_pos hin]
    have h1 := World.cell?_setCells_in g vs o w h (k - o) (by omega)
    rw [show o + (k - o) = k by omega] at h1
    rw [h1, List.getElem?_eq_getElem (by omega)]
  · rw [if_neg hin]
    exact World.cell?_setCells_out g vs o w ⟨g, k, none⟩ (fun _ _ => by simp only; omega)
/-- Two writings side by side. -/
theorem owns_gap {w : World} {g o cap n i s : Nat} {cs vs : List Value} (w2 : World) (hcap : n + 1 ≤ cap) (hm : cap ≤ maxLen) (hg : g < w.heap.size)
    (room : ∀ j, j < cap * s → (w.cell? ⟨g, o + j, none⟩).isSome = true ∧ w.frozen? ⟨g, o + j, none⟩ = false) (hcl : cs.length = n * s) (hvl : vs.length = s) (hi : i ≤ n)
    (hpre : ∀ j u, j < i * s → cs[j]? = some u → w.cell? ⟨g, o + j, none⟩ = some u)
    (hsz : w2.heap.size = w.heap.size) (hcell : ∀ k, w2.cell? ⟨g, k, none⟩ = if o + i * s ≤ k ∧ k < o + i * s + s then vs[k - (o + i * s)]? else if o + (i * s + s) ≤ k ∧ k < o + (i * s + s) + (cs.drop (i * s)).length then (cs.drop (i * s))[k - (o + (i * s + s))]? else w.cell? ⟨g, k, none⟩)
    (hfro : ∀ k, w2.frozen? ⟨g, k, none⟩ = w.frozen? ⟨g, k, none⟩) :
    Owns w2 s (.slice (some ⟨g, o, none⟩) (n + 1) cap) (n + 1) (cs.take (i * s) ++ vs ++ cs.drop (i * s)) := by
  have hin : i * s ≤ n * s := Nat.mul_le_mul_right _ hi
  have hdl : (cs.drop (i * s)).length = n * s - i * s := by rw [List.length_drop, hcl]
  have htl : (cs.take (i * s)).length = i * s := by rw [List.length_take, hcl]; omega
  have hns : (n + 1) * s = n * s + s := by rw [Nat.add_mul, Nat.one_mul]
  have hcs : (n + 1) * s ≤ cap * s := Nat.mul_le_mul_right _ hcap
  refine ⟨by rw [List.length_append, List.length_append, htl, hdl, hvl]; omega, .inr ⟨g, o, cap, rfl, hcap, hm, by omega, fun j u hj => ?_, fun j hj => ⟨?_, by rw [hfro]; exact (room j hj).2⟩⟩⟩
  · rw [hcell]
    rcases Nat.lt_or_ge j (i * s) with h | h
    · rw [if_neg (by omega), if_neg (by omega)]
      rw [List.append_assoc, List.getElem?_append_left (by omega), List.getElem?_take_of_lt h] at hj
      exact hpre j u h hj
    · rcases Nat.lt_or_ge j (i * s + s) with h2 | h2
      · rw [if_pos (by omega), show o + j - (o + i * s) = j - i * s by omega]
        rw [List.getElem?_append_left (by rw [List.length_append]; omega), List.getElem?_append_right (by omega), htl] at hj
        exact hj
      · rw [List.getElem?_append_right (by rw [List.length_append]; omega), List.length_append, htl, hvl] at hj
        have hj2 := (List.getElem?_eq_some_iff.1 hj).1
        rw [if_neg (by omega), if_pos (by omega), show o + j - (o + (i * s + s)) = j - (i * s + s) by omega]
        exact hj
  · rw [hcell]
    split
    · rw [List.getElem?_eq_getElem (by omega)]; rfl
    · split
      · rw [List.getElem?_eq_getElem (by omega)]; rfl
      · exact (room j hj).1
end Go.Cat
namespace Go.Proofs.Ytmnnahkaenikkaa
open Go.RowKit Go.Cat
theorem sl_lo (w : World) (a : Option Addr) (n c lo : Nat) (h1 : lo ≤ n) :
    (Instr.sliceAt 49 (.slice a n c) (some (.int .i64 lo)) none none).run Try.prog w = .ok (.slice (if c = lo then a else a.map (·.add (lo * 2))) (n - lo) (c - lo)) w := by
  have h4 : (lo : Int) ≤ n := by omega
  simp [go_sem, Instr.sliceAt, Instr.slice, Instr.sliceBounds, h4]
theorem sl_hi (w : World) (a : Option Addr) (n c hi : Nat) (h1 : hi ≤ c) :
    (Instr.sliceAt 49 (.slice a n c) none (some (.int .i64 hi)) none).run Try.prog w = .ok (.slice a hi c) w := by
  have h4 : (hi : Int) ≤ c := by omega
  cases a <;> simp [go_sem, Instr.sliceAt, Instr.slice, Instr.sliceBounds, h4]
theorem sl_both (w : World) (a : Option Addr) (n c lo hi : Nat) (h1 : lo ≤ hi) (h2 : hi ≤ c) :
    (Instr.sliceAt 49 (.slice a n c) (some (.int .i64 lo)) (some (.int .i64 hi)) none).run Try.prog w = .ok (.slice (if c = lo then a else a.map (·.add (lo * 2))) (hi - lo) (c - lo)) w := by
  have h4 : (lo : Int) ≤ hi := by omega
  have h5 : (hi : Int) ≤ c := by omega
  have h6 : ¬ hi < lo := by omega
  simp [go_sem, Instr.sliceAt, Instr.slice, Instr.sliceBounds, h4, h5, h6]
theorem infoPt : (Try.prog.info? 32).map (fun i => (i.zero, i.size, i.bytes)) = some (some (.agg #[.int .i64 0, .int .i64 0]), 2, 16) := by kernel_rfl
theorem ptone : ∀ (l : List Pt), ∀ u ∈ l.flatMap Pt.cells, u.oneCell' = true := fun l u hu => by
  obtain ⟨p, _, hp⟩ := List.mem_flatMap.1 hu
  simp [Pt.cells] at hp
  rcases hp with rfl | rfl <;> rfl
theorem eqn_pts (w : World) (a : Option Addr) (n c : Nat) : (binOp .eql 49 (.slice a n c) (.slice none 0 0)).run Try.prog w = .ok (.bool a.isNone) w := Lib.run_eql_slice_nil w _ 32 a n c 0 0 Try.underlying49
def Pts (w : World) (v : Value) (l : List Pt) : Prop := Reads w 2 v l.length (l.flatMap Pt.cells)
def OPts (w : World) (v : Value) (l : List Pt) : Prop := Owns w 2 v l.length (l.flatMap Pt.cells)
theorem ptlen (l : List Pt) : (l.flatMap Pt.cells).length = l.length * 2 := rows_len l (fun _ _ => rfl)
set_option maxRecDepth 100000 in
set_option maxHeartbeats 1000000 in
theorem clone_pts (w : World) (v : Value) (l : List Pt) (h : Pts w v l) (hl : l.length ≤ 1000000) :
    Calls Try.prog 65 #[v] w fun e w' => ∃ v', e = .returned v' ∧ OPts w' v' l ∧ (∀ k, v'.ownBlock = some k → w.heap.size ≤ k) ∧ Chg (fun _ => False) w w' := by
  obtain ⟨a, c, rfl⟩ := h.form
  have eqs := fun w => eqn_pts w a l.length c
  cases a with
  | none =>
    have h0 : l.length = 0 ∧ c = 0 := by
      rcases h.2 with ⟨hv, h0⟩ | ⟨g, o, c', hv, _⟩
      · simp at hv; exact ⟨h0, hv.2⟩
      · simp at hv
    obtain rfl : l = [] := List.eq_nil_of_length_eq_zero h0.1
    obtain ⟨-, rfl⟩ := h0
    clear h
    rw [List.length_nil] at eqs ⊢
    go_enter Try.func65, Try.ntmps65
    go_wp2_with fail
    go_ret
    exact ⟨_, rfl, Owns.nil _ _, by simp [Value.ownBlock], Chg.refl _ _⟩
  | some p =>
    have H := Lib.hid h
    have H1 := Lib.hid (ptone l)
    obtain ⟨n, hn⟩ : ∃ n, n = l.length := ⟨_, rfl⟩
    have HN := Lib.hid hn
    have h2 : Reads (w.alloc (.cells #[] 32)) 2 (.slice (some p) n c) n (l.flatMap Pt.cells) := by rw [hn]; exact h.kept ((Chg.refl (fun _ => False) w).alloc _) (fun _ _ h => h)
    have hemp := Owns.empty w 32 2
    rw [← hn] at hl eqs ⊢
    clear h hn
    obtain ⟨i, hi, hz0, hz1, hz2⟩ := info_parts infoPt
    go_enter Try.func65, Try.ntmps65
    go_wp2_with (at_builtin; go_loud (refine wpList_app rfl _ _ 49 rfl 32 i (.agg #[.int .i64 0, .int .i64 0]) 2 16 Try.underlying49 hi hz0 hz1 hz2 rfl (.slice (some ⟨w.heap.size, 0, none⟩) 0 0) 0 [] rfl hemp (.slice (some p) n c) n (l.flatMap Pt.cells) rfl h2 H1.out (by simp only [maxLen]; omega) (by omega) ?_; intro v' w' own' c' in' nn'; refine Hid.out ?_))
    refine Lib.hid ?_
    go_wp2_with fail
    go_ret
    refine ⟨v', rfl, ?_, fun k hk => ?_, ((Chg.refl (fun _ => False) w).alloc _).new c' (fun k hk => by simp [Value.ownBlock] at hk; omega)⟩
    · show Owns _ 2 _ l.length _
      rw [← HN.out]
      simpa using own'
    · rcases in' k hk with h | h
      · simp [Value.ownBlock] at h; omega
      · rw [h]; simp
end Go.Proofs.Ytmnnahkaenikkaa
