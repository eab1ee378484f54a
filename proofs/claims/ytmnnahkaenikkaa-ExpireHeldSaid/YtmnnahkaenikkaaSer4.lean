/- series.with, joined. -/
import Derived.Test.YtmnnahkaenikkaaSer3
namespace Go.Proofs.Ytmnnahkaenikkaa
open Go.RowKit Go.Cat
def above (l : List Pt) (a : Int) : List Pt := l.filter fun p => decide (a < p.tk)
/-- Points, and one more. -/
def putP (l : List Pt) (p : Pt) : List Pt := below l p.tk ++ p :: above l p.tk
def putAll (l : List Pt) (m : List Pt) : List Pt := m.foldl putP l
theorem sorted_put {l : List Pt} (h : Sorted l) (p : Pt) : Sorted (putP l p) := by
  unfold putP Sorted
  rw [List.pairwise_append]
  refine ⟨List.Pairwise.filter _ h, List.pairwise_cons.2 ⟨fun q hq => ?_, List.Pairwise.filter _ h⟩, fun a ha b hb => ?_⟩
  · have := (List.mem_filter.1 hq).2; simpa using this
  · have h1 := (List.mem_filter.1 ha).2
    simp at h1
    rcases List.mem_cons.1 hb with rfl | hb
    · exact h1
    · have h2 := (List.mem_filter.1 hb).2
      simp at h2; omega
theorem upon_new {l : List Pt} {a : Int} (h : has l a = false) : upon l a = above l a := by
  unfold upon above
  refine List.filter_congr fun p hp => ?_
  have : ¬ p.tk = a := fun e => by
    have : has l a = true := List.any_eq_true.2 ⟨p, hp, decide_eq_true e⟩
    rw [h] at this; cases this
  simp; omega
theorem put_new {l : List Pt} (hs : Sorted l) {p : Pt} (h : has l p.tk = false) : insP l (lb l p.tk) p = putP l p := by
  unfold insP putP
  rw [take_lb hs, drop_lb hs, upon_new h]
theorem put_old {l : List Pt} (hs : Sorted l) {p q : Pt} (hq : l[lb l p.tk]? = some q) (he : q.tk = p.tk) : l.set (lb l p.tk) p = putP l p := by
  have h1 := take_lb hs p.tk
  have h2 := drop_lb hs p.tk
  have hi := (List.getElem?_eq_some_iff.1 hq).1
  rw [List.set_eq_take_append_cons_drop, if_pos hi, h1]
  unfold putP
  congr 2
  have h3 : l.drop (lb l p.tk) = q :: l.drop (lb l p.tk + 1) := by
    rw [List.drop_eq_getElem_cons hi, (List.getElem?_eq_some_iff.1 hq).2]
  have h4 : Sorted (q :: l.drop (lb l p.tk + 1)) := by rw [← h3]; exact List.Pairwise.sublist (List.drop_sublist _ _) hs
  have h5 : above l p.tk = (upon l p.tk).filter fun x => decide (p.tk < x.tk) := by
    unfold above upon
    rw [List.filter_filter]
    refine List.filter_congr fun x _ => ?_
    by_cases hx : p.tk < x.tk
    · have : p.tk ≤ x.tk := by omega
      simp [hx, this]
    · simp [hx]
  rw [h5, ← h2, h3, List.filter_cons, if_neg (by simp; omega)]
  refine (List.filter_eq_self.2 fun x hx => ?_).symm
  have := (List.pairwise_cons.1 h4).1 x hx
  simp; omega
theorem put_len (l : List Pt) (p : Pt) : (putP l p).length ≤ l.length + 1 := by
  unfold putP below above
  rw [List.length_append, List.length_cons]
  have h1 : (l.filter fun q => decide (q.tk < p.tk)).length + (l.filter fun q => decide (p.tk < q.tk)).length ≤ l.length := by
    induction l with
    | nil => simp
    | cons x r ih =>
      simp only [List.filter_cons, List.length_cons]
      by_cases h1 : x.tk < p.tk
      · have h2 : ¬ p.tk < x.tk := by omega
        simp only [h1, h2, decide_true, decide_false, if_true, Bool.false_eq_true, if_false, List.length_cons]; omega
      · by_cases h2 : p.tk < x.tk
        · simp only [h1, h2, decide_true, decide_false, if_true, Bool.false_eq_true, if_false, List.length_cons]; omega
        · simp only [h1, h2, decide_false, Bool.false_eq_true, if_false]; omega
  omega
set_option maxRecDepth 100000 in
set_option maxHeartbeats 1000000 in
theorem with_c (w : World) (v : Value) (l : List Pt) (p : Pt) (h : OPts w v l) (hs : Sorted l) (hl : l.length ≤ 900000) :
    Calls Try.prog 86 #[v, .agg #[.int .i64 p.tk, .int .i64 p.val]] w fun e w' => InsOut w v (putP l p) e w' := by
  obtain ⟨a, c, rfl⟩ := h.form
  obtain ⟨W, hW⟩ : ∃ W, W = w.alloc (.cells #[.int .i64 p.tk, .int .i64 p.val] 32) := ⟨_, rfl⟩
  have cW : Chg (fun _ => False) w W := by rw [hW]; exact (Chg.refl _ w).alloc _
  have hb : W.heap[w.heap.size]? = some (.cells #[.int .i64 p.tk, .int .i64 p.val] 32 (0, 0)) := by rw [hW]; exact heap_at_new _ _ _ rfl
  have q0 : W.cell? ⟨w.heap.size, 0, none⟩ = some (.int .i64 p.tk) := by rw [cell_of_heap hb]; rfl
  have h2 : OPts W (.slice a l.length c) l := h.kept cW (fun _ _ h => h)
  have FD := Lib.hid (find_c W _ l p.tk h2.reads hs (by omega))
  have H2 := Lib.hid h2
  have HS := Lib.hid hs
  have HB := Lib.hid hb
  have CW := Lib.hid cW
  have hlt : ∀ k, (Value.slice a l.length c).ownBlock = some k → k < w.heap.size := h.lt
  have HLT := Lib.hid hlt
  have hWs : W.heap.size = w.heap.size + 1 := by rw [hW]; simp
  obtain ⟨n, hn⟩ : ∃ n, n = l.length := ⟨_, rfl⟩
  have HN := Lib.hid hn
  obtain ⟨i, hi⟩ : ∃ i, i = lb l p.tk := ⟨_, rfl⟩
  have HI := Lib.hid hi
  have hin : i ≤ n := by rw [hi, hn]; exact lb_le _ _
  have HW := Lib.hid hW
  cases hh : has l p.tk with
  | true =>
    rw [hh] at FD
    have HH := Lib.hid hh
    rw [← hn] at FD H2 HLT hl ⊢
    rw [← hi] at FD
    have hin2 : i < n := by
      rcases Nat.lt_or_ge i n with h | h
      · exact h
      · exfalso
        have := has_end HS.out (a := p.tk) (by rw [← HI.out, ← HN.out]; omega)
        rw [hh] at this; cases this
    obtain ⟨g, o, rfl, hnc, hg, hcs⟩ := reads_some (n := n) (by have := H2.out.reads; rw [← HN.out] at this; exact this) (by omega)
    obtain ⟨q, hq⟩ := at_lt (show i < l.length by rw [← HN.out]; exact hin2)
    have hqe : q.tk = p.tk := by
      have := has_at HS.out (a := p.tk) (p := q) (by rw [← HI.out]; exact hq)
      rw [hh] at this
      exact of_decide_eq_true this.symm
    clear h h2 hs hb hW cW hlt hn hi hh hcs
    go_enter Try.func86, Try.ntmps86
    go_wp2_with fail
    rw [← HW.out]
    refine FD.out.mono ?_
    rintro e w2 ⟨rfl, c2⟩
    have q0 : w2.cell? ⟨w.heap.size, 0, none⟩ = some (.int .i64 p.tk) := c2.cell q0 (fun h => h)
    have q1 : w2.cell? ⟨w.heap.size, 1, none⟩ = some (.int .i64 p.val) := c2.cell (by rw [cell_of_heap HB.out]; rfl) (fun h => h)
    have h4 : Owns w2 2 (.slice (some ⟨g, o, none⟩) n c) n (l.flatMap Pt.cells) := by
      have := H2.out.kept c2 (fun _ _ h => h)
      rw [← HN.out] at this
      exact this
    obtain ⟨_, e1, e2⟩ := h4.elem (fun _ _ => rfl) i q hq
    have hst := run_storeAt_agg (P := Try.prog) w2 32 g (o + i * 2) [.int .i64 p.tk, .int .i64 p.val] (by kernel_rfl) e1 e2 (by intro u hu; simp at hu; rcases hu with rfl | rfl <;> rfl)
    have h5 := h4.put (fun _ _ => rfl) HN.out.symm i 0 q p [.int .i64 p.tk, .int .i64 p.val] hq (by simp) rfl
    rw [Nat.add_zero] at h5
    have C2 := Lib.hid c2
    have H5 := Lib.hid h5
    have HQ := Lib.hid hq
    have HQE := Lib.hid hqe
    have c6 : Chg (fun k => k = g) w2 (w2.setCells g (o + i * 2) [.int .i64 p.tk, .int .i64 p.val]) := Chg.setCells _ _ _ _
    obtain ⟨W3, hW3⟩ : ∃ W3, W3 = w2.setCells g (o + i * 2) [.int .i64 p.tk, .int .i64 p.val] := ⟨_, rfl⟩
    rw [← hW3] at hst h5 H5 c6
    have C6 := Lib.hid c6
    clear hW3 c6 h5 e1 e2 h4 c2 hq hqe
    go_wp2_with (first | refine wpList_store rfl 32 _ _ rfl _ _ _ rfl rfl hst ?_)
    go_ret
    refine ⟨_, rfl, ?_, fun k hk => .inl hk, ?_⟩
    · unfold OPts
      have he := put_old HS.out (p := p) (by rw [← HI.out]; exact HQ.out) HQE.out
      rw [← HI.out] at he
      rw [← he, List.length_set, ← HN.out]
      exact H5.out
    · exact ((CW.out.trans C2.out).mono (fun _ _ h => h.elim)).trans (C6.out.mono (fun k _ hk => by rw [hk]; rfl))
  | false =>
    rw [hh] at FD
    have HH := Lib.hid hh
    rw [← hn] at FD H2 HLT hl ⊢
    rw [← hi] at FD
    clear h h2 hs hb hW cW hlt hn hi hh
    go_enter Try.func86, Try.ntmps86
    go_wp2_with fail
    rw [← HW.out]
    refine FD.out.mono ?_
    rintro e w2 ⟨rfl, c2⟩
    have q0 : w2.cell? ⟨w.heap.size, 0, none⟩ = some (.int .i64 p.tk) := c2.cell q0 (fun h => h)
    have q1 : w2.cell? ⟨w.heap.size, 1, none⟩ = some (.int .i64 p.val) := c2.cell (by rw [cell_of_heap HB.out]; rfl) (fun h => h)
    have IN := Lib.hid (insert_pts w2 (.slice a n c) l i p (by
      have h := H2.out.kept c2 (fun _ _ h => h)
      exact h) (by rw [← HN.out]; omega) (by rw [← HN.out]; exact hin))
    have C2 := Lib.hid c2
    clear c2
    go_wp2_with fail
    refine IN.out.mono ?_
    rintro e w3 ⟨v', rfl, o3, f3, c3⟩
    have O3 := Lib.hid o3
    have F3 := Lib.hid f3
    have C3 := Lib.hid c3
    clear o3 f3 c3 q0 q1
    go_wp2_with fail
    go_ret
    refine ⟨_, rfl, ?_, fun k hk => ?_, ((CW.out.trans C2.out).mono (fun _ _ h => h.elim)).trans C3.out⟩
    · have he := put_new HS.out (p := p) HH.out
      rw [← HI.out] at he
      rw [← he]
      exact O3.out
    · rcases F3.out k hk with h | h
      · exact .inl h
      · have := C2.out.size; exact .inr (by omega)
end Go.Proofs.Ytmnnahkaenikkaa
