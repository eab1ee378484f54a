/- series.Get, Cut, Copy. -/
import Derived.Test.YtmnnahkaenikkaaSer8
namespace Go.Proofs.Ytmnnahkaenikkaa
open Go.RowKit Go.Cat
theorem pts_piece {w : World} {a : Option Addr} {c i k : Nat} {l : List Pt} (h : Pts w (.slice a l.length c) l) (h1 : i ≤ k) (h2 : k ≤ l.length) (h3 : l.length ≤ c) : Pts w (.slice (if c = i then a else a.map (·.add (i * 2))) (k - i) (c - i)) ((l.take k).drop i) := by
  have hp := Reads.piece h h1 h2 (Nat.le_trans h2 h3) (Nat.le_refl c)
  unfold Pts
  have e : ((l.take k).drop i).flatMap Pt.cells = ((l.flatMap Pt.cells).drop (i * 2)).take ((k - i) * 2) := by
    rw [rows_drop l (s := 2) (f := Pt.cells) (fun _ _ => rfl), rows_take (l.drop i) (s := 2) (f := Pt.cells) (fun _ _ => rfl), List.drop_take]
  have e2 : ((l.take k).drop i).length = k - i := by rw [List.length_drop, List.length_take]; omega
  rw [e, e2]
  exact hp
theorem reads_cap {w : World} {s n c : Nat} {a : Option Addr} {xs : List Value} (h : Reads w s (.slice a n c) n xs) : n ≤ c := by
  rcases h.2 with ⟨hv, h0⟩ | ⟨g, o, c', hv, h1, _⟩
  · omega
  · simp only [Value.slice.injEq] at hv; omega
set_option maxRecDepth 100000 in
set_option maxHeartbeats 1000000 in
theorem get_c (w : World) (R : Nat) (v : Value) (l : List Pt) (a b : Int) (h : Ser w R v l) :
    Calls Try.prog 35 #[.pointer (some ⟨R, 0, none⟩), .agg #[.int .i64 a, .int .i64 b]] w fun e w' => ∃ v', e = .returned v' ∧ OPts w' v' (inR l a b) ∧ (∀ k, v'.ownBlock = some k → w.heap.size ≤ k) ∧ Chg (fun _ => False) w w' := by
  obtain ⟨va, vc, hv⟩ := Reads.form h.pts
  subst hv
  obtain ⟨W, hW⟩ : ∃ W, W = w.alloc (.cells #[.int .i64 a, .int .i64 b] 24) := ⟨_, rfl⟩
  have cW : Chg (fun _ => False) w W := by rw [hW]; exact (Chg.refl _ w).alloc _
  have hb : W.heap[w.heap.size]? = some (.cells #[.int .i64 a, .int .i64 b] 24 (0, 0)) := by rw [hW]; exact heap_at_new _ _ _ rfl
  have q0 : W.cell? ⟨w.heap.size, 0, none⟩ = some (.int .i64 a) := by rw [cell_of_heap hb]; rfl
  have q1 : W.cell? ⟨w.heap.size, 1, none⟩ = some (.int .i64 b) := by rw [cell_of_heap hb]; rfl
  have SP := Lib.hid (span_c W R _ l a b (h.kept cW (fun h => h) (fun _ _ h => h)))
  have H := Lib.hid h
  have hil := inR_len h.srt a b
  obtain ⟨hik, hkl⟩ := span_le l a b
  have hsp := inR_span h.srt a b
  obtain ⟨n, hn⟩ : ∃ n, n = l.length := ⟨_, rfl⟩
  have HN := Lib.hid hn
  obtain ⟨i, hi⟩ : ∃ i, i = spanI l a b := ⟨_, rfl⟩
  obtain ⟨k, hk⟩ : ∃ k, k = spanK l a b := ⟨_, rfl⟩
  rw [← hi] at SP hil hik hsp
  rw [← hk] at SP hil hik hkl hsp
  rw [← hn] at hkl H
  have hnc : n ≤ vc := by have := reads_cap h.pts; omega
  have CW := Lib.hid cW
  have HW := Lib.hid hW
  have HSP := Lib.hid hsp
  have HIL := Lib.hid hil
  rw [hW] at q0 q1
  clear hb h hsp hil hn hi hk hW cW
  by_cases hike : i = k
  · subst hike
    have e0 : inR l a b = [] := List.eq_nil_of_length_eq_zero (by rw [HIL.out]; omega)
    have E0 := Lib.hid e0
    clear e0
    go_enter Try.func35, Try.ntmps35
    go_wp2_with fail
    rw [← HW.out]
    refine SP.out.mono ?_
    rintro e w1 ⟨rfl, c1⟩
    have C1 := Lib.hid (CW.out.trans c1)
    clear c1 q0 q1
    go_wp2_with fail
    go_ret
    exact ⟨_, rfl, by rw [E0.out]; exact Owns.nil _ _, by simp [Value.ownBlock], C1.out⟩
  · have i1 : ¬ ((i : Int) = k) := by omega
    have hsl := fun X => sl_both X va n vc i k hik (by omega)
    obtain ⟨sv, hsv⟩ : ∃ sv, sv = (Value.slice (if vc = i then va else va.map (·.add (i * 2))) (k - i) (vc - i)) := ⟨_, rfl⟩
    have HSV := Lib.hid hsv
    rw [← hsv] at hsl
    clear hsv
    go_enter Try.func35, Try.ntmps35
    go_wp2_with fail
    rw [← HW.out]
    refine SP.out.mono ?_
    rintro e w1 ⟨rfl, c1⟩
    have c01 := CW.out.trans c1
    have C1 := Lib.hid c01
    have q5 := c01.cell H.out.at_.cell (fun h => h)
    have hpp : Pts w1 sv (inR l a b) := by
      rw [HSV.out, ← HSP.out]
      have hp := Reads.kept H.out.pts c01 (fun _ _ h => h)
      rw [HN.out] at hp hkl hnc
      exact pts_piece hp hik hkl hnc
    have CL := Lib.hid (clone_pts w1 sv _ hpp (by rw [HIL.out]; have := H.out.few; have := HN.out; omega))
    clear c1 q0 q1 c01 hpp
    go_wp2_with fail
    refine CL.out.mono ?_
    rintro e w2 ⟨v2, rfl, o2, f2, c2⟩
    have O2 := Lib.hid o2
    have F2 := Lib.hid f2
    have C2 := Lib.hid c2
    clear o2 f2 c2 q5 hsl
    go_wp2_with fail
    go_ret
    exact ⟨_, rfl, O2.out, fun q hq => by have := F2.out q hq; have := C1.out.size; omega, C1.out.trans C2.out⟩
set_option maxRecDepth 100000 in
set_option maxHeartbeats 1000000 in
theorem cut_c (w : World) (R : Nat) (v : Value) (l : List Pt) (a b : Int) (h : Ser w R v l) :
    Calls Try.prog 58 #[.pointer (some ⟨R, 0, none⟩), .agg #[.int .i64 a, .int .i64 b]] w fun e w' => e = .returned (.int .i64 ((inR l a b).length : Nat)) ∧ SerOut w R v (outR l a b) w' := by
  obtain ⟨W, hW⟩ : ∃ W, W = w.alloc (.cells #[.int .i64 a, .int .i64 b] 24) := ⟨_, rfl⟩
  have cW : Chg (fun _ => False) w W := by rw [hW]; exact (Chg.refl _ w).alloc _
  have hb : W.heap[w.heap.size]? = some (.cells #[.int .i64 a, .int .i64 b] 24 (0, 0)) := by rw [hW]; exact heap_at_new _ _ _ rfl
  have q0 : W.cell? ⟨w.heap.size, 0, none⟩ = some (.int .i64 a) := by rw [cell_of_heap hb]; rfl
  have q1 : W.cell? ⟨w.heap.size, 1, none⟩ = some (.int .i64 b) := by rw [cell_of_heap hb]; rfl
  have SP := Lib.hid (span_c W R _ l a b (h.kept cW (fun h => h) (fun _ _ h => h)))
  have H := Lib.hid h
  obtain ⟨hik, hkl⟩ := span_le l a b
  have hil := inR_len h.srt a b
  have hou := outR_span h.srt a b
  obtain ⟨i, hi⟩ : ∃ i, i = spanI l a b := ⟨_, rfl⟩
  obtain ⟨k, hk⟩ : ∃ k, k = spanK l a b := ⟨_, rfl⟩
  obtain ⟨nn, hnn⟩ : ∃ nn, nn = (inR l a b).length := ⟨_, rfl⟩
  rw [← hnn] at hil ⊢
  rw [← hi] at SP hil hik hou
  rw [← hk] at SP hil hik hkl hou
  have hf := h.few
  have CW := Lib.hid cW
  have HW := Lib.hid hW
  have HOU := Lib.hid hou
  have ew : IntKind.i64.wrap ((k : Int) - i) = (nn : Int) := by rw [IntWalk.i64_in _ (by omega)]; omega
  have ew2 : wrap64 ((k : Int) - i) = (nn : Int) := by unfold wrap64; omega
  rw [hW] at q0 q1
  clear hil hb h hou hi hk hW cW hnn
  by_cases hike : i < k
  · have i1 : (i : Int) < k := by omega
    go_enter Try.func58, Try.ntmps58
    go_wp2_with fail
    rw [← HW.out]
    refine SP.out.mono ?_
    rintro e w1 ⟨rfl, c1⟩
    have c01 := CW.out.trans c1
    have C1 := Lib.hid c01
    have q5 := c01.cell H.out.at_.cell (fun h => h)
    have CL := Lib.hid (clone_pts w1 v l (Reads.kept H.out.pts c01 (fun _ _ h => h)) (by omega))
    clear c1 q0 q1
    go_wp2_with fail
    refine CL.out.mono ?_
    rintro e w2 ⟨v2, rfl, o2, f2, c2⟩
    have DL := Lib.hid (delete_pts w2 v2 l i k o2 (by omega) hike hkl)
    have F2 := Lib.hid f2
    have C2 := Lib.hid (c01.trans c2)
    have S1 := Lib.hid c01.size
    clear o2 f2 c2 q5 c01
    go_wp2_with fail
    refine DL.out.mono ?_
    rintro e w3 ⟨v3, rfl, o3, f3, c3⟩
    have c03 : Chg (fun _ => False) w w3 := C2.out.new c3 (fun q hq => by have := F2.out q hq; have := S1.out; omega)
    have C3 := Lib.hid c03
    obtain ⟨va, vc, hv⟩ := Reads.form H.out.pts
    obtain ⟨TR, hbR⟩ := H.out.at_.kept c03 (fun h => h)
    have q6 : w3.cell? ⟨R, 0, none⟩ = some v := by rw [cell_of_heap hbR]; rfl
    rw [hv] at q6
    have fR := frozen_of_heap hbR
    have HBR := Lib.hid hbR
    rw [HOU.out] at o3
    have O3 := Lib.hid o3
    obtain ⟨a3, k3, rfl⟩ := o3.form
    have F3 : Hid (∀ q, (Value.slice a3 (outR l a b).length k3).ownBlock = some q → w.heap.size ≤ q) := fun q hq => by
      have s1 := S1.out
      have s2 := C2.out.size
      rcases f3 q hq with h | h
      · have := F2.out q h; omega
      · omega
    have HV := Lib.hid hv
    clear o3 f3 c3 c03 hbR hv
    go_wp2_with fail
    go_ret
    have c4 : Chg (fun k => k = R) w3 (w3.setCell ⟨R, 0, none⟩ (.slice a3 (outR l a b).length k3)) := (Chg.refl (fun k => k = R) w3).setCell (p := ⟨R, 0, none⟩) (fun _ => rfl) _
    have hap : ¬ (Value.slice a3 (outR l a b).length k3).ownBlock = some R := fun h => by have := F3.out R h; have := H.out.lt.1; omega
    refine ⟨rfl, _, ⟨⟨TR, Cat.heap_setCell_same HBR.out 0 _⟩, Reads.kept O3.out.reads c4 (fun k hk h => hap (by rw [← h]; exact hk)), List.Pairwise.filter _ H.out.srt, Nat.le_trans (List.length_filter_le _ _) H.out.few, hap⟩, fun k hk => .inr (F3.out k hk), (C3.out.mono (fun _ _ h => h.elim)).trans c4⟩
  · have i1 : ¬ (i : Int) < k := by omega
    go_enter Try.func58, Try.ntmps58
    go_wp2_with fail
    rw [← HW.out]
    refine SP.out.mono ?_
    rintro e w1 ⟨rfl, c1⟩
    have C1 := Lib.hid (CW.out.trans c1)
    clear c1 q0 q1
    go_wp2_with fail
    go_ret
    refine ⟨rfl, ?_⟩
    have e0 : outR l a b = l := by
      rw [← HOU.out]
      unfold cutP
      rw [show k = i by omega, List.take_append_drop]
    rw [e0]
    exact SerOut.stay H.out C1.out
set_option maxRecDepth 100000 in
set_option maxHeartbeats 1000000 in
theorem sercopy_c (w : World) (R : Nat) (v : Value) (l : List Pt) (h : Ser w R v l) :
    Calls Try.prog 75 #[.pointer (some ⟨R, 0, none⟩)] w fun e w' => ∃ R' v', e = .returned (.pointer (some ⟨R', 0, none⟩)) ∧ Ser w' R' v' l ∧ w.heap.size ≤ R' ∧ (∀ k, v'.ownBlock = some k → w.heap.size ≤ k) ∧ Chg (fun _ => False) w w' := by
  have q0 := h.at_.cell
  have CL := Lib.hid (clone_pts w v l h.pts (by have := h.few; omega))
  have H := Lib.hid h
  clear h
  go_enter Try.func75, Try.ntmps75
  go_wp2_with fail
  refine CL.out.mono ?_
  rintro e w2 ⟨v2, rfl, o2, f2, c2⟩
  obtain ⟨a2, k2, rfl⟩ := o2.form
  have O2 := Lib.hid o2
  have F2 := Lib.hid f2
  have C2 := Lib.hid c2
  clear o2 f2 c2 q0
  go_wp2_with fail
  go_ret
  have hb := heap_at_new w2 (.cells #[.slice a2 l.length k2] 114) _ rfl
  refine ⟨_, _, rfl, ⟨⟨_, hb⟩, Reads.kept O2.out.reads ((Chg.refl (fun _ => False) w2).alloc _) (fun _ _ h => h), H.out.srt, H.out.few, fun h => by have := O2.out.lt _ h; omega⟩, C2.out.size, F2.out, C2.out.alloc _⟩
end Go.Proofs.Ytmnnahkaenikkaa
