/- series.Put, span, Get, Cut, Copy. -/
import Derived.Test.YtmnnahkaenikkaaSer7
namespace Go.Proofs.Ytmnnahkaenikkaa
open Go.RowKit Go.Cat
def badT (m : List Pt) : Bool := m.any fun p => decide (p.tk < 0 ∨ 1099511627776 < p.tk)
/-- What Put answers, and what is there behind it. -/
def sput (l m : List Pt) : Int × Int × List Pt :=
  if badT m = true then (0, 3, l) else if 256 < (putAll l m).length then (0, 6, l) else (((putAll l m).length : Int) - l.length, 0, putAll l m)
def SerOut (w : World) (R : Nat) (v : Value) (l : List Pt) (w' : World) : Prop :=
  ∃ v', Ser w' R v' l ∧ (∀ k, v'.ownBlock = some k → v.ownBlock = some k ∨ w.heap.size ≤ k) ∧ Chg (fun k => k = R) w w'
theorem SerOut.stay {w w' : World} {R : Nat} {v : Value} {l : List Pt} (h : Ser w R v l) (c : Chg (fun _ => False) w w') : SerOut w R v l w' :=
  ⟨v, h.kept c (fun h => h) (fun _ _ h => h), fun _ hk => .inl hk, c.mono (fun _ _ h => h.elim)⟩
set_option maxRecDepth 100000 in
set_option maxHeartbeats 1000000 in
theorem sput_c (w : World) (R : Nat) (v mv : Value) (l m : List Pt) (h : Ser w R v l) (hm : Pts w mv m) (hml : m.length ≤ 1000) :
    Calls Try.prog 53 #[.pointer (some ⟨R, 0, none⟩), mv] w fun e w' => e = .returned (.tuple #[.int .i64 (sput l m).1, .int .i64 (sput l m).2.1]) ∧ SerOut w R v (sput l m).2.2 w' := by
  have CT := Lib.hid (contains_put w mv m hm (by omega) _ (fun W p _ => putf_c W p))
  have q0 := h.at_.cell
  have H := Lib.hid h
  have HM := Lib.hid hm
  have ML := Lib.hid hml
  clear h hm hml
  cases hb : badT m with
  | true =>
    have e0 : sput l m = (0, 3, l) := by unfold sput; rw [if_pos hb]
    have HE := Lib.hid e0
    unfold badT at hb
    rw [hb] at CT
    rw [e0]
    clear hb e0
    go_enter Try.func53, Try.ntmps53
    go_wp2_with fail
    refine CT.out.mono ?_
    rintro e w1 ⟨rfl, c1⟩
    have C1 := Lib.hid c1
    clear c1 q0
    go_wp2_with fail
    go_ret2
    exact ⟨rfl, SerOut.stay H.out C1.out⟩
  | false =>
    have hb' := hb
    unfold badT at hb'
    rw [hb'] at CT
    by_cases hf : 256 < (putAll l m).length
    · have e0 : sput l m = (0, 6, l) := by unfold sput; rw [hb, if_neg (by simp), if_pos hf]
      rw [e0]
      have i1 : (256 : Int) < (putAll l m).length := by omega
      clear hb hb' e0
      go_enter Try.func53, Try.ntmps53
      go_wp2_with fail
      refine CT.out.mono ?_
      rintro e w1 ⟨rfl, c1⟩
      have JN := Lib.hid (joined_c w1 R v mv l m (H.out.at_.kept c1 (fun h => h)) (Reads.kept H.out.pts c1 (fun _ _ h => h)) H.out.srt (Reads.kept HM.out c1 (fun _ _ h => h)) (by have := H.out.few; omega) (by have := ML.out; omega))
      have C1 := Lib.hid c1
      clear c1
      go_wp2_with fail
      refine JN.out.mono ?_
      rintro e w2 ⟨v2, rfl, o2, f2, c2⟩
      obtain ⟨a2, k2, rfl⟩ := o2.form
      have C2 := Lib.hid (C1.out.trans c2)
      clear o2 f2 c2 JN q0
      go_wp2_with fail
      go_ret2
      exact ⟨rfl, SerOut.stay H.out C2.out⟩
    · have e0 : sput l m = (((putAll l m).length : Int) - l.length, 0, putAll l m) := by unfold sput; rw [hb, if_neg (by simp), if_neg hf]
      rw [e0]
      have i1 : ¬ (256 : Int) < (putAll l m).length := by omega
      have hfw := H.out.few
      have ew : IntKind.i64.wrap (((putAll l m).length : Int) - l.length) = ((putAll l m).length : Int) - l.length := IntWalk.i64_in _ (by omega)
      have HSP := Lib.hid (sorted_putAll H.out.srt m)
      have HPL : Hid ((putAll l m).length ≤ 256) := by show _ ≤ _; omega
      clear hb hb' e0 hf
      go_enter Try.func53, Try.ntmps53
      go_wp2_with fail
      refine CT.out.mono ?_
      rintro e w1 ⟨rfl, c1⟩
      have JN := Lib.hid (joined_c w1 R v mv l m (H.out.at_.kept c1 (fun h => h)) (Reads.kept H.out.pts c1 (fun _ _ h => h)) H.out.srt (Reads.kept HM.out c1 (fun _ _ h => h)) (by have := H.out.few; omega) (by have := ML.out; omega))
      have C1 := Lib.hid c1
      clear c1
      go_wp2_with fail
      refine JN.out.mono ?_
      rintro e w2 ⟨v2, rfl, o2, f2, c2⟩
      obtain ⟨a2, k2, rfl⟩ := o2.form
      have c12 := C1.out.trans c2
      have C2 := Lib.hid c12
      have q2 : w2.cell? ⟨R, 0, none⟩ = some v := c12.cell q0 (fun h => h)
      obtain ⟨va, vc, hv⟩ := Reads.form H.out.pts
      subst hv
      obtain ⟨TR, hbR⟩ := H.out.at_.kept c12 (fun h => h)
      have fR := frozen_of_heap hbR
      have HBR := Lib.hid hbR
      have O2 := Lib.hid o2
      have F2 := Lib.hid f2
      have hR := H.out.lt.1
      have c1s := C1.out.size
      have HRL := Lib.hid hR
      have H1S := Lib.hid c1s
      clear o2 f2 c2 JN q0 c12 hbR hR c1s
      go_wp2_with fail
      go_ret2
      have c3 : Chg (fun k => k = R) w2 (w2.setCell ⟨R, 0, none⟩ (.slice a2 (putAll l m).length k2)) := (Chg.refl (fun k => k = R) w2).setCell (p := ⟨R, 0, none⟩) (fun _ => rfl) _
      have hap : ¬ (Value.slice a2 (putAll l m).length k2).ownBlock = some R := fun h => by have := F2.out R h; have := HRL.out; have := H1S.out; omega
      refine ⟨rfl, _, ⟨⟨TR, Cat.heap_setCell_same HBR.out 0 _⟩, Reads.kept O2.out.reads c3 (fun k hk h => hap (by rw [← h]; exact hk)), HSP.out, HPL.out, hap⟩, fun k hk => .inr (by have := F2.out k hk; have := H1S.out; omega), (C2.out.mono (fun _ _ h => h.elim)).trans c3⟩
/-- Those of a range; those without it. -/
def inR (l : List Pt) (a b : Int) : List Pt := l.filter fun p => decide (a ≤ p.tk ∧ p.tk < b)
def outR (l : List Pt) (a b : Int) : List Pt := l.filter fun p => !decide (a ≤ p.tk ∧ p.tk < b)
def spanI (l : List Pt) (a b : Int) : Nat := if b ≤ a then 0 else lb l a
def spanK (l : List Pt) (a b : Int) : Nat := if b ≤ a then 0 else lb l b
theorem lb_mono {l : List Pt} {a b : Int} (h : a ≤ b) : lb l a ≤ lb l b := by
  unfold lb below
  rw [← List.countP_eq_length_filter, ← List.countP_eq_length_filter]
  exact List.countP_mono_left fun p _ hp => by simp at hp ⊢; omega
theorem span_le (l : List Pt) (a b : Int) : spanI l a b ≤ spanK l a b ∧ spanK l a b ≤ l.length := by
  unfold spanI spanK
  split
  · exact ⟨Nat.le_refl _, Nat.zero_le _⟩
  · exact ⟨lb_mono (by omega), lb_le l b⟩
theorem inR_span {l : List Pt} (h : Sorted l) (a b : Int) : (l.take (spanK l a b)).drop (spanI l a b) = inR l a b := by
  unfold spanI spanK
  by_cases hb : b ≤ a
  · rw [if_pos hb, if_pos hb]
    refine (List.filter_eq_nil_iff.2 fun p _ => ?_).symm
    simp; omega
  · rw [if_neg hb, if_neg hb, take_lb h]
    have hs : Sorted (below l b) := List.Pairwise.filter _ h
    have e : below (below l b) a = below l a := by
      unfold below
      rw [List.filter_filter]
      refine List.filter_congr fun p _ => ?_
      by_cases hp : p.tk < a
      · have : p.tk < b := by omega
        simp [hp, this]
      · simp [hp]
    have e2 : lb l a = lb (below l b) a := by unfold lb; rw [e]
    rw [e2, drop_lb hs]
    unfold upon below inR
    rw [List.filter_filter]
    refine List.filter_congr fun p _ => ?_
    simp
theorem outR_span {l : List Pt} (h : Sorted l) (a b : Int) : cutP l (spanI l a b) (spanK l a b) = outR l a b := by
  unfold spanI spanK cutP
  by_cases hb : b ≤ a
  · rw [if_pos hb, if_pos hb, List.take_zero, List.drop_zero, List.nil_append]
    refine (List.filter_eq_self.2 fun p _ => ?_).symm
    simp; omega
  · rw [if_neg hb, if_neg hb, take_lb h, drop_lb h]
    conv => rhs; rw [sorted_split h b]
    unfold outR
    rw [List.filter_append]
    congr 1
    · unfold below
      rw [List.filter_filter]
      refine List.filter_congr fun p _ => ?_
      by_cases hp : p.tk < a
      · have : ¬ a ≤ p.tk := by omega
        have h2 : p.tk < b := by omega
        simp [hp, this, h2]
      · have h3 : a ≤ p.tk := by omega
        simp [hp, h3]
    · refine (List.filter_eq_self.2 fun p hp => ?_).symm
      have := (List.mem_filter.1 hp).2
      simp at this ⊢; omega
theorem inR_len {l : List Pt} (h : Sorted l) (a b : Int) : (inR l a b).length = spanK l a b - spanI l a b := by
  have := span_le l a b
  rw [← inR_span h, List.length_drop, List.length_take]; omega
set_option maxRecDepth 100000 in
set_option maxHeartbeats 1000000 in
theorem span_c (w : World) (R : Nat) (v : Value) (l : List Pt) (a b : Int) (h : Ser w R v l) :
    Calls Try.prog 64 #[.pointer (some ⟨R, 0, none⟩), .agg #[.int .i64 a, .int .i64 b]] w fun e w' => e = .returned (.tuple #[.int .i64 (spanI l a b), .int .i64 (spanK l a b)]) ∧ Chg (fun _ => False) w w' := by
  obtain ⟨W, hW⟩ : ∃ W, W = w.alloc (.cells #[.int .i64 a, .int .i64 b] 24) := ⟨_, rfl⟩
  have cW : Chg (fun _ => False) w W := by rw [hW]; exact (Chg.refl _ w).alloc _
  have hb : W.heap[w.heap.size]? = some (.cells #[.int .i64 a, .int .i64 b] 24 (0, 0)) := by rw [hW]; exact heap_at_new _ _ _ rfl
  have q0 : W.cell? ⟨w.heap.size, 0, none⟩ = some (.int .i64 a) := by rw [cell_of_heap hb]; rfl
  have q1 : W.cell? ⟨w.heap.size, 1, none⟩ = some (.int .i64 b) := by rw [cell_of_heap hb]; rfl
  have hq : Hid (W.drew.cell? ⟨R, 0, none⟩ = some v) := cW.drew.cell h.at_.cell (fun h => h)
  have hf0 : Hid (W.drew.cell? ⟨w.heap.size, 0, none⟩ = some (.int .i64 a)) := q0
  have CW := Lib.hid cW
  have HW := Lib.hid hW
  have HB := Lib.hid hb
  have H := Lib.hid h
  have FA : Hid (∀ X, Chg (fun _ => False) w X → Calls Try.prog 83 #[v, .int .i64 a] X fun e w' => e = .returned (.tuple #[.int .i64 (lb l a), .bool (has l a)]) ∧ Chg (fun _ => False) X w') := fun X c => find_c X v l a (Reads.kept H.out.pts c (fun _ _ h => h)) H.out.srt (by have := H.out.few; omega)
  have FB : Hid (∀ X, Chg (fun _ => False) w X → Calls Try.prog 83 #[v, .int .i64 b] X fun e w' => e = .returned (.tuple #[.int .i64 (lb l b), .bool (has l b)]) ∧ Chg (fun _ => False) X w') := fun X c => find_c X v l b (Reads.kept H.out.pts c (fun _ _ h => h)) H.out.srt (by have := H.out.few; omega)
  clear cW hb h
  by_cases hab : b ≤ a
  · have e1 : spanI l a b = 0 := by unfold spanI; rw [if_pos hab]
    have e2 : spanK l a b = 0 := by unfold spanK; rw [if_pos hab]
    rw [e1, e2]
    rw [hW] at q0 q1
    clear e1 e2 hW hq hf0
    go_enter Try.func64, Try.ntmps64
    go_wp2_with fail
    go_ret2
    exact ⟨rfl, by rw [← HW.out]; exact CW.out⟩
  · have e1 : spanI l a b = lb l a := by unfold spanI; rw [if_neg hab]
    have e2 : spanK l a b = lb l b := by unfold spanK; rw [if_neg hab]
    rw [e1, e2]
    rw [hW] at q0 q1
    clear e1 e2 hW
    go_enter Try.func64, Try.ntmps64
    go_wp2_with fail
    rw [← HW.out]
    rw [← HW.out] at q0 q1
    clear q0 q1
    refine wpT.begin (fun _ => False) 12 (by kernel_rfl) rfl ?_
    refine wpT.take 0 rfl (by kernel_rfl) (fun _ _ _ h => h) rfl (fun w' hw' => by go_simp <;> with_reducible rfl) ?_
    simp only [Act.put, List.setIfInBounds_toArray, List.set_cons_zero, List.set_cons_succ]
    refine wpT.take 1 rfl (by kernel_rfl) (fun _ _ _ h => h) rfl (fun w' hw' => by go_simp <;> with_reducible rfl) ?_
    simp only [Act.put, List.setIfInBounds_toArray, List.set_cons_zero, List.set_cons_succ]
    refine wpT.take 2 rfl (by kernel_rfl) (fun _ _ _ h => h) rfl (fun w' hw' => by go_simp <;> with_reducible rfl) ?_
    simp only [Act.put, List.setIfInBounds_toArray, List.set_cons_zero, List.set_cons_succ]
    refine wpT.ld 3 rfl (by kernel_rfl) (fun _ _ _ _ h => h) rfl _ _ rfl (by kernel_rfl) ⟨R, 0, none⟩ rfl _ (hq.out) (fun h => h) ?_
    simp only [Act.put, List.setIfInBounds_toArray, List.set_cons_zero, List.set_cons_succ]
    refine wpT.take 4 rfl (by kernel_rfl) (fun _ _ _ h => h) rfl (fun w' hw' => by go_simp <;> with_reducible rfl) ?_
    simp only [Act.put, List.setIfInBounds_toArray, List.set_cons_zero, List.set_cons_succ]
    refine wpT.ld 5 rfl (by kernel_rfl) (fun _ _ _ _ h => h) rfl _ _ rfl (by kernel_rfl) ⟨w.heap.size, 0, none⟩ rfl _ (hf0.out) (fun h => h) ?_
    simp only [Act.put, List.setIfInBounds_toArray, List.set_cons_zero, List.set_cons_succ]
    refine wpT.call 6 rfl (by kernel_rfl) rfl (fun K hK => ?_)
    go_wp2_with fail
    refine (FA.out _ (by first | exact CW.out.drew | exact C1.out.drew)).mono ?_
    rintro e w1 ⟨rfl, c1⟩
    refine hK _ _ c1 ?_
    clear hK
    try (simp only [Act.put, List.setIfInBounds_toArray, List.set_cons_zero, List.set_cons_succ])
    refine wpT.take 7 rfl (by kernel_rfl) (fun _ _ _ h => h) rfl (fun w' hw' => by go_simp <;> with_reducible rfl) ?_
    simp only [Act.put, List.setIfInBounds_toArray, List.set_cons_zero, List.set_cons_succ]
    refine wpT.take 8 rfl (by kernel_rfl) (fun _ _ _ h => h) rfl (fun w' hw' => by go_simp <;> with_reducible rfl) ?_
    simp only [Act.put, List.setIfInBounds_toArray, List.set_cons_zero, List.set_cons_succ]
    refine wpT.take 9 rfl (by kernel_rfl) (fun _ _ _ h => h) rfl (fun w' hw' => by go_simp <;> with_reducible rfl) ?_
    simp only [Act.put, List.setIfInBounds_toArray, List.set_cons_zero, List.set_cons_succ]
    refine wpT.take 10 rfl (by kernel_rfl) (fun _ _ _ h => h) rfl (fun w' hw' => by go_simp <;> with_reducible rfl) ?_
    simp only [Act.put, List.setIfInBounds_toArray, List.set_cons_zero, List.set_cons_succ]
    refine wpT.take 11 rfl (by kernel_rfl) (fun _ _ _ h => h) rfl (fun w' hw' => by go_simp <;> with_reducible rfl) ?_
    simp only [Act.put, List.setIfInBounds_toArray, List.set_cons_zero, List.set_cons_succ]
    refine wpT.done (by kernel_rfl) ?_
    have C1 := Lib.hid (CW.out.drew.trans c1)
    have hq : Hid (w1.drew.cell? ⟨R, 0, none⟩ = some v) := C1.out.drew.cell H.out.at_.cell (fun h => h)
    have hf1 : Hid (w1.drew.cell? ⟨w.heap.size, 1, none⟩ = some (.int .i64 b)) := by
      have := c1.drew.heap (w := W.drew) HB.out (fun h => h)
      show w1.drew.cell? _ = _
      rw [cell_of_heap this]; rfl
    clear c1
    go_wp2_with fail
    refine wpT.begin (fun _ => False) 12 (by kernel_rfl) rfl ?_
    refine wpT.take 0 rfl (by kernel_rfl) (fun _ _ _ h => h) rfl (fun w' hw' => by go_simp <;> with_reducible rfl) ?_
    simp only [Act.put, List.setIfInBounds_toArray, List.set_cons_zero, List.set_cons_succ]
    refine wpT.take 1 rfl (by kernel_rfl) (fun _ _ _ h => h) rfl (fun w' hw' => by go_simp <;> with_reducible rfl) ?_
    simp only [Act.put, List.setIfInBounds_toArray, List.set_cons_zero, List.set_cons_succ]
    refine wpT.take 2 rfl (by kernel_rfl) (fun _ _ _ h => h) rfl (fun w' hw' => by go_simp <;> with_reducible rfl) ?_
    simp only [Act.put, List.setIfInBounds_toArray, List.set_cons_zero, List.set_cons_succ]
    refine wpT.ld 3 rfl (by kernel_rfl) (fun _ _ _ _ h => h) rfl _ _ rfl (by kernel_rfl) ⟨R, 0, none⟩ rfl _ (hq.out) (fun h => h) ?_
    simp only [Act.put, List.setIfInBounds_toArray, List.set_cons_zero, List.set_cons_succ]
    refine wpT.take 4 rfl (by kernel_rfl) (fun _ _ _ h => h) rfl (fun w' hw' => by go_simp <;> with_reducible rfl) ?_
    simp only [Act.put, List.setIfInBounds_toArray, List.set_cons_zero, List.set_cons_succ]
    refine wpT.ld 5 rfl (by kernel_rfl) (fun _ _ _ _ h => h) rfl _ _ rfl (by kernel_rfl) ⟨w.heap.size, 1, none⟩ rfl _ (hf1.out) (fun h => h) ?_
    simp only [Act.put, List.setIfInBounds_toArray, List.set_cons_zero, List.set_cons_succ]
    refine wpT.call 6 rfl (by kernel_rfl) rfl (fun K hK => ?_)
    go_wp2_with fail
    refine (FB.out _ (by first | exact CW.out.drew | exact C1.out.drew)).mono ?_
    rintro e w2 ⟨rfl, c2⟩
    refine hK _ _ c2 ?_
    clear hK
    try (simp only [Act.put, List.setIfInBounds_toArray, List.set_cons_zero, List.set_cons_succ])
    refine wpT.take 7 rfl (by kernel_rfl) (fun _ _ _ h => h) rfl (fun w' hw' => by go_simp <;> with_reducible rfl) ?_
    simp only [Act.put, List.setIfInBounds_toArray, List.set_cons_zero, List.set_cons_succ]
    refine wpT.take 8 rfl (by kernel_rfl) (fun _ _ _ h => h) rfl (fun w' hw' => by go_simp <;> with_reducible rfl) ?_
    simp only [Act.put, List.setIfInBounds_toArray, List.set_cons_zero, List.set_cons_succ]
    refine wpT.take 9 rfl (by kernel_rfl) (fun _ _ _ h => h) rfl (fun w' hw' => by go_simp <;> with_reducible rfl) ?_
    simp only [Act.put, List.setIfInBounds_toArray, List.set_cons_zero, List.set_cons_succ]
    refine wpT.take 10 rfl (by kernel_rfl) (fun _ _ _ h => h) rfl (fun w' hw' => by go_simp <;> with_reducible rfl) ?_
    simp only [Act.put, List.setIfInBounds_toArray, List.set_cons_zero, List.set_cons_succ]
    refine wpT.take 11 rfl (by kernel_rfl) (fun _ _ _ h => h) rfl (fun w' hw' => by go_simp <;> with_reducible rfl) ?_
    simp only [Act.put, List.setIfInBounds_toArray, List.set_cons_zero, List.set_cons_succ]
    refine wpT.done (by kernel_rfl) ?_
    have C2 := Lib.hid (C1.out.drew.trans c2)
    clear c2
    go_wp2_with fail
    go_ret2
    exact ⟨rfl, C2.out⟩
end Go.Proofs.Ytmnnahkaenikkaa
