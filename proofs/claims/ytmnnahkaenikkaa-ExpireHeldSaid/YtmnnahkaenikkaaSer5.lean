/- series.joined, New, Len, Put; span, Get, Cut, Copy. -/
import Derived.Test.YtmnnahkaenikkaaSer4
namespace Go.Proofs.Ytmnnahkaenikkaa
open Go.RowKit Go.Cat
def CellAt (w : World) (R : Nat) (v : Value) : Prop := ∃ T, w.heap[R]? = some (.cells #[v] T (0, 0))
theorem CellAt.cell {w : World} {R : Nat} {v : Value} (h : CellAt w R v) : w.cell? ⟨R, 0, none⟩ = some v := by
  obtain ⟨T, hb⟩ := h
  rw [cell_of_heap hb]; rfl
theorem CellAt.kept {w w' : World} {R : Nat} {v : Value} (h : CellAt w R v) {S : Nat → Prop} (c : Chg S w w') (hs : ¬ S R) : CellAt w' R v := by
  obtain ⟨T, hb⟩ := h
  exact ⟨T, c.heap hb hs⟩
theorem CellAt.lt {w : World} {R : Nat} {v : Value} (h : CellAt w R v) : R < w.heap.size := by
  obtain ⟨T, hb⟩ := h
  exact (Array.getElem?_eq_some_iff.1 hb).1
theorem putAll_len (l m : List Pt) : (putAll l m).length ≤ l.length + m.length := by
  induction m generalizing l with
  | nil => simp [putAll]
  | cons p r ih =>
    have h1 := ih (putP l p)
    have h2 := put_len l p
    simp only [putAll, List.foldl_cons, List.length_cons] at h1 ⊢
    omega
theorem sorted_putAll {l : List Pt} (h : Sorted l) (m : List Pt) : Sorted (putAll l m) := by
  induction m generalizing l with
  | nil => exact h
  | cons p r ih => exact ih (sorted_put h p)
theorem putAll_snoc (l m : List Pt) (p : Pt) : putAll l (m ++ [p]) = putP (putAll l m) p := by simp [putAll, List.foldl_append]
set_option maxRecDepth 100000 in
set_option maxHeartbeats 1000000 in
theorem joined_c (w : World) (R : Nat) (v mv : Value) (l m : List Pt) (hR : CellAt w R v) (h : Pts w v l) (hs : Sorted l) (hm : Pts w mv m) (hl : l.length ≤ 10000) (hml : m.length ≤ 10000) :
    Calls Try.prog 78 #[.pointer (some ⟨R, 0, none⟩), mv] w fun e w' => ∃ v', e = .returned v' ∧ OPts w' v' (putAll l m) ∧ (∀ k, v'.ownBlock = some k → w.heap.size ≤ k) ∧ Chg (fun _ => False) w w' := by
  obtain ⟨ma, mc, rfl⟩ := hm.form
  have q0 := hR.cell
  have CL := Lib.hid (clone_pts w v l h (by omega))
  have HS := Lib.hid hs
  have HM := Lib.hid hm
  obtain ⟨n, hn⟩ : ∃ n, n = m.length := ⟨_, rfl⟩
  have HN := Lib.hid hn
  have HL := Lib.hid hl
  rw [← hn] at HM hml ⊢
  clear hR h hs hm hn hl
  go_enter Try.func78, Try.ntmps78
  go_wp2_with fail
  refine CL.out.mono ?_
  rintro e w1 ⟨v1, rfl, o1, f1, c1⟩
  have O1 := Lib.hid o1
  have F1 := Lib.hid f1
  have C1 := Lib.hid c1
  clear o1 f1 c1 q0 CL
  go_wp2_with fail
  go_loopw [5, 15] (fun ov ci wr => ∃ k : Nat, k ≤ n ∧ ci = .int .i64 k ∧ Hid (OPts wr ov (putAll l (m.take k))) ∧ Hid (∀ q, ov.ownBlock = some q → w.heap.size ≤ q) ∧ Hid (Chg (fun _ => False) w wr)) (fun _ ci _ => n - (intOf ci).toNat)
  case atStart => exact ⟨0, by omega, rfl, O1.out, F1.out, C1.out⟩
  case round =>
    obtain ⟨k, hk, rfl, hO, hF, hC⟩ := hrel
    by_cases hlt : k < n
    · obtain ⟨p, hp⟩ := at_lt (show k < m.length by rw [← HN.out]; exact hlt)
      obtain ⟨g, o, rfl, h1, h2, h3⟩ := reads_some (n := n) (by have := HM.out; unfold Pts at this; rw [← HN.out] at this; exact this) (by omega)
      have hld := load_pt wr (fun j u hj => hC.out.cell (h3 j u hj) (fun h => h)) hp
      have e1 : putAll l (m.take (k + 1)) = putP (putAll l (m.take k)) p := by rw [List.take_add_one, hp]; exact putAll_snoc l (m.take k) p
      have E1 := Lib.hid e1
      obtain ⟨W, hW⟩ : ∃ W, W = wr.alloc (.cells #[.int .i64 p.tk, .int .i64 p.val] 32) := ⟨_, rfl⟩
      have cW : Chg (fun _ => False) wr W := by rw [hW]; exact (Chg.refl _ wr).alloc _
      have WI := Lib.hid (with_c W _ _ p (hO.out.kept cW (fun _ _ h => h)) (sorted_putAll HS.out _) (by have := putAll_len l (m.take k); have := List.length_take_le k m; have := HL.out; omega))
      have CW := Lib.hid cW
      have HW := Lib.hid hW
      clear e1 h1 h2 h3 hp cW hW
      go_wp2_with (first | refine wpList_load rfl 32 _ rfl _ _ rfl hld ?_)
      rw [← HW.out]
      refine WI.out.mono ?_
      rintro e w2 ⟨v2, rfl, o2, f2, c2⟩
      rw [← E1.out] at o2
      have O2 := Lib.hid o2
      have C3 : Hid (Chg (fun _ => False) w w2) := (hC.out.trans CW.out).new c2 (fun q hq => hF.out q hq)
      have F2 : Hid (∀ q, v2.ownBlock = some q → w.heap.size ≤ q) := fun q hq => by
        rcases f2 q hq with h | h
        · exact hF.out q h
        · have := (hC.out.trans CW.out).size; omega
      clear o2 f2 c2 hld hO hF hC WI
      go_wp2_with fail
      exact ⟨⟨k + 1, by omega, rfl, O2.out, F2.out, C3.out⟩, by simp only [intOf]; omega⟩
    · obtain rfl : k = n := by omega
      have hO : Hid (OPts wr u5 (putAll l m)) := by have h := hO.out; rw [HN.out, List.take_length] at h; exact h
      go_wp2_with fail
      go_ret
      exact ⟨_, rfl, hO.out, hF.out, hC.out⟩
/-- A series: its points. -/
structure Ser (w : World) (R : Nat) (v : Value) (l : List Pt) : Prop where
  at_ : CellAt w R v
  pts : Pts w v l
  srt : Sorted l
  few : l.length ≤ 256
  ap : ¬ v.ownBlock = some R
theorem Ser.kept {w w' : World} {R : Nat} {v : Value} {l : List Pt} (h : Ser w R v l) {S : Nat → Prop} (c : Chg S w w') (h1 : ¬ S R) (h2 : ∀ k, v.ownBlock = some k → ¬ S k) : Ser w' R v l :=
  ⟨h.at_.kept c h1, Reads.kept h.pts c h2, h.srt, h.few, h.ap⟩
theorem Ser.lt {w : World} {R : Nat} {v : Value} {l : List Pt} (h : Ser w R v l) : R < w.heap.size ∧ ∀ k, v.ownBlock = some k → k < w.heap.size := ⟨h.at_.lt, Reads.lt h.pts⟩
set_option maxRecDepth 100000 in
theorem newser_c (w : World) : Calls Try.prog 50 #[] w fun e w' => e = .returned (.pointer (some ⟨w.heap.size, 0, none⟩)) ∧ Ser w' w.heap.size (.slice none 0 0) [] ∧ Chg (fun _ => False) w w' := by
  have hb := heap_at_new w (.cells #[.slice none 0 0] 114) _ rfl
  have HB := Lib.hid hb
  clear hb
  go_enter Try.func50, Try.ntmps50
  go_wp2_with fail
  go_ret
  exact ⟨rfl, ⟨⟨_, HB.out⟩, Reads.nil _ _, List.Pairwise.nil, by simp, by simp [Value.ownBlock]⟩, (Chg.refl _ w).alloc _⟩
set_option maxRecDepth 100000 in
theorem serlen_c (w : World) (R : Nat) (v : Value) (l : List Pt) (h : Ser w R v l) : Calls Try.prog 55 #[.pointer (some ⟨R, 0, none⟩)] w fun e w' => e = .returned (.int .i64 l.length) ∧ w = w' := by
  have q0 := h.at_.cell
  obtain ⟨a, c, rfl⟩ := Reads.form h.pts
  clear h
  go_enter Try.func55, Try.ntmps55
  go_wp2_with fail
  go_ret
  exact ⟨rfl, rfl⟩
end Go.Proofs.Ytmnnahkaenikkaa
