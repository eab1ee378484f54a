/- Policy, Policy2, merged. -/
import Derived.Test.YtmnnahkaenikkaaPurge2
/- Package policy: all, less, Of, Bound, Gone, Right; package expire: rolled, right. -/
namespace Go.Proofs.Ytmnnahkaenikkaa
open Go.RowKit Go.Cat
structure Pol where
  a : Int
  b : Int
  c : Int
def Pol.v (p : Pol) : Value := .agg #[.int .i64 p.a, .int .i64 p.b, .int .i64 p.c]
def Pol.of (p : Pol) (t : Nat) : Int := if t = 0 then p.a else if t = 1 then p.b else p.c
def lessP (a b : Int) : Bool := decide (a ≠ 0 ∧ (b = 0 ∨ a < b))
def okP (n : Int) : Bool := decide (0 ≤ n ∧ n ≤ 1099511627776)
def Pol.right (p : Pol) : Bool := okP p.a && okP p.b && !lessP p.b p.a && okP p.c && !lessP p.c p.b
def Pol.gone (p : Pol) (t : Nat) (q now : Int) : Bool := decide (0 < p.of t ∧ p.of t ≤ now ∧ q ≤ now - p.of t)
theorem pol_new (w : World) (p : Pol) (T : TypeId) : (w.alloc (.cells #[.int .i64 p.a, .int .i64 p.b, .int .i64 p.c] T)).cell? ⟨w.heap.size, 0, none⟩ = some (.int .i64 p.a) ∧ (w.alloc (.cells #[.int .i64 p.a, .int .i64 p.b, .int .i64 p.c] T)).cell? ⟨w.heap.size, 1, none⟩ = some (.int .i64 p.b) ∧ (w.alloc (.cells #[.int .i64 p.a, .int .i64 p.b, .int .i64 p.c] T)).cell? ⟨w.heap.size, 2, none⟩ = some (.int .i64 p.c) := by
  refine ⟨?_, ?_, ?_⟩ <;> (rw [World.cell?_alloc_new]; rfl)
set_option maxRecDepth 100000 in
theorem pall3_c (w : World) (p : Pol) : Calls Try.prog 74 #[.agg #[.int .i64 p.a, .int .i64 p.b, .int .i64 p.c]] w fun e w' => e = .returned (.agg #[.int .i64 p.a, .int .i64 p.b, .int .i64 p.c]) ∧ Chg (fun _ => False) w w' := by
  obtain ⟨x3, hx3⟩ : ∃ x, x = (w.alloc (.cells #[.int .i64 p.a, .int .i64 p.b, .int .i64 p.c] 41)).alloc (.cells #[.int .i64 0, .int .i64 0, .int .i64 0] 84) := ⟨_, rfl⟩
  have hp3 : x3.heap[w.heap.size]? = some (.cells #[.int .i64 p.a, .int .i64 p.b, .int .i64 p.c] 41 (0, 0)) := by rw [hx3]; exact ((Chg.refl (fun _ => False) _).alloc _).heap (heap_at_new w _ _ rfl) (fun h => h)
  have hr3 : x3.heap[w.heap.size + 1]? = some (.cells #[.int .i64 0, .int .i64 0, .int .i64 0] 84 (0, 0)) := by rw [hx3]; exact heap_at_new _ _ _ (by simp)
  have c3 : Chg (fun _ => False) w x3 := by rw [hx3]; exact ((Chg.refl _ w).alloc _).alloc _
  have q0 : x3.cell? ⟨w.heap.size, 0, none⟩ = some (.int .i64 p.a) := by rw [cell_of_heap hp3]; rfl
  have q1 : x3.cell? ⟨w.heap.size, 1, none⟩ = some (.int .i64 p.b) := by rw [cell_of_heap hp3]; rfl
  have q2 : x3.cell? ⟨w.heap.size, 2, none⟩ = some (.int .i64 p.c) := by rw [cell_of_heap hp3]; rfl
  have hst := run_storeAt_agg (P := Try.prog) x3 84 (w.heap.size + 1) 0 [.int .i64 p.a, .int .i64 p.b, .int .i64 p.c] (by kernel_rfl) (fun j hj => row_some hr3 j hj) (fun j _ => frozen_of_heap hr3 _) (by intro u hu; simp at hu; rcases hu with rfl | rfl | rfl <;> rfl)
  have hr8 : (x3.setCells (w.heap.size + 1) 0 [.int .i64 p.a, .int .i64 p.b, .int .i64 p.c]).heap[w.heap.size + 1]? = some (.cells #[.int .i64 p.a, .int .i64 p.b, .int .i64 p.c] 84 (0, 0)) := Cat.heap_setCell_same (Cat.heap_setCell_same (Cat.heap_setCell_same hr3 0 _) 1 _) 2 _
  obtain ⟨x8, hx8⟩ : ∃ x8, x8 = x3.setCells (w.heap.size + 1) 0 [.int .i64 p.a, .int .i64 p.b, .int .i64 p.c] := ⟨_, rfl⟩
  have c8 : Chg (fun _ => False) w x8 := by rw [hx8]; exact c3.new (Chg.setCells _ (w.heap.size + 1) _ _) (fun q hq => by omega)
  rw [← hx8] at hst hr8
  rw [hx3] at hst q0 q1 q2
  have HR8 := Lib.hid hr8
  have C8 := Lib.hid c8
  clear hp3 hr3 c3 hr8 hx8 c8 hx3
  go_enter Try.func74, Try.ntmps74
  go_wp2_with (first | refine wpList_store rfl 84 _ _ rfl _ _ _ rfl rfl hst ?_)
  exact bodyPost_ret (v := .agg #[.int .i64 p.a, .int .i64 p.b, .int .i64 p.c]) (results_cell_row (fn := Try.f74) (p := 2) (ty := 84) rfl _ _ (w.heap.size + 1) _ _ (0, 0) _ rfl HR8.out Try.underlying84 rfl (by kernel_rfl)) rfl ⟨rfl, C8.out⟩
set_option maxRecDepth 100000 in
theorem less_c (w : World) (a b : Int) : Calls Try.prog 84 #[.int .i64 a, .int .i64 b] w fun e w' => e = .returned (.bool (lessP a b)) ∧ w = w' := by
  by_cases ha : a = 0
  · have e : lessP a b = false := decide_eq_false (fun h => h.1 ha)
    rw [e]
    have i0 : (a != 0) = false := by simp [ha]
    clear e
    go_enter Try.func84, Try.ntmps84
    go_wp2_with fail
    go_ret
    exact ⟨rfl, rfl⟩
  · have i0 : (a != 0) = true := by simp [ha]
    by_cases hb : b = 0
    · have e : lessP a b = true := decide_eq_true ⟨ha, .inl hb⟩
      rw [e]
      have i1 : (b == 0) = true := by simp [hb]
      clear e
      go_enter Try.func84, Try.ntmps84
      go_wp2_with fail
      go_ret
      exact ⟨rfl, rfl⟩
    · have i1 : (b == 0) = false := by simp [hb]
      have HL : Hid (decide (a < b) = lessP a b) := by
        show _ = _
        unfold lessP
        by_cases h : a < b
        · rw [decide_eq_true h, decide_eq_true ⟨ha, .inr h⟩]
        · rw [decide_eq_false h, decide_eq_false (fun h' => by rcases h'.2 with h' | h'; exact hb h'; exact h h')]
      go_enter Try.func84, Try.ntmps84
      go_wp2_with fail
      go_ret
      exact ⟨by rw [← HL.out]; rfl, rfl⟩
set_option maxRecDepth 100000 in
theorem idx3 (W : World) (x0 x1 x2 : Value) : (Instr.index 84 (.agg #[x0, x1, x2]) (.int .i64 0)).run Try.prog W = .ok x0 W ∧ (Instr.index 84 (.agg #[x0, x1, x2]) (.int .i64 1)).run Try.prog W = .ok x1 W ∧ (Instr.index 84 (.agg #[x0, x1, x2]) (.int .i64 2)).run Try.prog W = .ok x2 W := by
  refine ⟨?_, ?_, ?_⟩
  · kernel_rfl
  · kernel_rfl
  · kernel_rfl
set_option maxRecDepth 100000 in
theorem polof_c (w : World) (p : Pol) (t : Nat) (ht : t = 0 ∨ t = 1 ∨ t = 2) : Calls Try.prog 46 #[.agg #[.int .i64 p.a, .int .i64 p.b, .int .i64 p.c], .int .i64 t] w fun e w' => e = .returned (.int .i64 (p.of t)) ∧ Chg (fun _ => False) w w' := by
  obtain ⟨q0, q1, q2⟩ := pol_new w p 41
  have AC := Lib.hid (fun w => pall3_c w p)
  have C0 : Hid (Chg (fun _ => False) w (w.alloc (.cells #[.int .i64 p.a, .int .i64 p.b, .int .i64 p.c] 41))) := (Chg.refl _ w).alloc _
  rcases ht with rfl | rfl | rfl
  · go_enter Try.func46, Try.ntmps46
    go_wp2_with fail
    refine (AC.out _).mono ?_
    rintro e w1 ⟨rfl, c1⟩
    have C1 := Lib.hid (C0.out.trans c1)
    clear c1
    obtain ⟨ix0, ix1, ix2⟩ := idx3 w1 (.int .i64 p.a) (.int .i64 p.b) (.int .i64 p.c)
    go_wp2_with fail
    go_ret
    exact ⟨rfl, C1.out⟩
  · go_enter Try.func46, Try.ntmps46
    go_wp2_with fail
    refine (AC.out _).mono ?_
    rintro e w1 ⟨rfl, c1⟩
    have C1 := Lib.hid (C0.out.trans c1)
    clear c1
    obtain ⟨ix0, ix1, ix2⟩ := idx3 w1 (.int .i64 p.a) (.int .i64 p.b) (.int .i64 p.c)
    go_wp2_with fail
    go_ret
    exact ⟨rfl, C1.out⟩
  · go_enter Try.func46, Try.ntmps46
    go_wp2_with fail
    refine (AC.out _).mono ?_
    rintro e w1 ⟨rfl, c1⟩
    have C1 := Lib.hid (C0.out.trans c1)
    clear c1
    obtain ⟨ix0, ix1, ix2⟩ := idx3 w1 (.int .i64 p.a) (.int .i64 p.b) (.int .i64 p.c)
    go_wp2_with fail
    go_ret
    exact ⟨rfl, C1.out⟩
set_option maxRecDepth 100000 in
theorem bound_c (w : World) (p : Pol) (t : Nat) (now : Int) (ht : t = 0 ∨ t = 1 ∨ t = 2) (h0 : 0 ≤ now) (h1 : now ≤ 1099511627776) : Calls Try.prog 72 #[.agg #[.int .i64 p.a, .int .i64 p.b, .int .i64 p.c], .int .i64 t, .int .i64 now] w fun e w' => e = .returned (if 0 < p.of t ∧ p.of t ≤ now then .tuple #[.int .i64 (now - p.of t), .bool true] else .tuple #[.int .i64 0, .bool false]) ∧ Chg (fun _ => False) w w' := by
  obtain ⟨q0, q1, q2⟩ := pol_new w p 41
  have OC := Lib.hid (fun w => polof_c w p t ht)
  have C0 : Hid (Chg (fun _ => False) w (w.alloc (.cells #[.int .i64 p.a, .int .i64 p.b, .int .i64 p.c] 41))) := (Chg.refl _ w).alloc _
  obtain ⟨n, hn⟩ : ∃ n, n = p.of t := ⟨_, rfl⟩
  rw [← hn] at OC ⊢
  clear hn ht
  by_cases i1 : n ≤ 0
  · rw [if_neg (fun h => by have := h.1; omega)]
    go_enter Try.func72, Try.ntmps72
    go_wp2_with fail
    refine (OC.out _).mono ?_
    rintro e w1 ⟨rfl, c1⟩
    have C1 := Lib.hid (C0.out.trans c1)
    clear c1
    go_wp2_with fail
    go_ret2
    exact ⟨rfl, C1.out⟩
  · by_cases i2 : now < n
    · rw [if_neg (fun h => by have := h.2; omega)]
      go_enter Try.func72, Try.ntmps72
      go_wp2_with fail
      refine (OC.out _).mono ?_
      rintro e w1 ⟨rfl, c1⟩
      have C1 := Lib.hid (C0.out.trans c1)
      clear c1
      go_wp2_with fail
      go_ret2
      exact ⟨rfl, C1.out⟩
    · rw [if_pos ⟨by omega, by omega⟩]
      have hw2 : wrap64 (now - n) = now - n := by unfold wrap64; omega
      go_enter Try.func72, Try.ntmps72
      go_wp2_with fail
      refine (OC.out _).mono ?_
      rintro e w1 ⟨rfl, c1⟩
      have C1 := Lib.hid (C0.out.trans c1)
      clear c1
      go_wp2_with fail
      go_ret2
      exact ⟨rfl, C1.out⟩
set_option maxRecDepth 100000 in
set_option maxHeartbeats 1000000 in
theorem gone_c (w : World) (p : Pol) (t : Nat) (x y now : Int) (ht : t = 0 ∨ t = 1 ∨ t = 2) (h0 : 0 ≤ now) (h1 : now ≤ 1099511627776) : Calls Try.prog 43 #[.agg #[.int .i64 p.a, .int .i64 p.b, .int .i64 p.c], .int .i64 t, .agg #[.int .i64 x, .int .i64 y], .int .i64 now] w fun e w' => e = .returned (.bool (p.gone t y now)) ∧ Chg (fun _ => False) w w' := by
  obtain ⟨W, hW⟩ : ∃ W, W = (w.alloc (.cells #[.int .i64 p.a, .int .i64 p.b, .int .i64 p.c] 41)).alloc (.cells #[.int .i64 x, .int .i64 y] 24) := ⟨_, rfl⟩
  have cW : Chg (fun _ => False) w W := by rw [hW]; exact ((Chg.refl _ w).alloc _).alloc _
  have hp : W.heap[w.heap.size]? = some (.cells #[.int .i64 p.a, .int .i64 p.b, .int .i64 p.c] 41 (0, 0)) := by rw [hW]; exact ((Chg.refl (fun _ => False) _).alloc _).heap (heap_at_new w _ _ rfl) (fun h => h)
  have hr : W.heap[w.heap.size + 1]? = some (.cells #[.int .i64 x, .int .i64 y] 24 (0, 0)) := by rw [hW]; exact heap_at_new _ _ _ (by simp)
  have q0 : W.cell? ⟨w.heap.size, 0, none⟩ = some (.int .i64 p.a) := by rw [cell_of_heap hp]; rfl
  have q1 : W.cell? ⟨w.heap.size, 1, none⟩ = some (.int .i64 p.b) := by rw [cell_of_heap hp]; rfl
  have q2 : W.cell? ⟨w.heap.size, 2, none⟩ = some (.int .i64 p.c) := by rw [cell_of_heap hp]; rfl
  have q3 : Hid (W.cell? ⟨w.heap.size + 1, 1, none⟩ = some (.int .i64 y)) := by show _ = _; rw [cell_of_heap hr]; rfl
  have BC := bound_c W p t now ht h0 h1
  obtain ⟨n, hn⟩ : ∃ n, n = p.of t := ⟨_, rfl⟩
  have hg : p.gone t y now = decide (0 < n ∧ n ≤ now ∧ y ≤ now - n) := by rw [hn]; rfl
  rw [hg]
  rw [← hn] at BC
  have CW := Lib.hid cW
  have HW := Lib.hid hW
  rw [hW] at q0 q1 q2
  clear hp hr cW hW hn hg ht
  by_cases hb : 0 < n ∧ n ≤ now
  · rw [if_pos hb] at BC
    have BC := Lib.hid BC
    have HD : Hid (decide (y ≤ now - n) = decide (0 < n ∧ n ≤ now ∧ y ≤ now - n)) := by
      show _ = _
      congr 1
      exact propext ⟨fun h => ⟨hb.1, hb.2, h⟩, fun h => h.2.2⟩
    obtain ⟨m, hm⟩ : ∃ m, m = now - n := ⟨_, rfl⟩
    rw [← hm] at BC HD ⊢
    clear hb hm
    go_enter Try.func43, Try.ntmps43
    go_wp2_with fail
    rw [← HW.out]
    refine BC.out.mono ?_
    rintro e w1 ⟨rfl, c1⟩
    have q4 := c1.cell q3.out (fun h => h)
    have C1 := Lib.hid (CW.out.trans c1)
    clear c1 q0 q1 q2
    go_wp2_with fail
    go_ret
    exact ⟨by rw [← HD.out]; rfl, C1.out⟩
  · rw [if_neg hb] at BC
    have BC := Lib.hid BC
    have e0 : decide (0 < n ∧ n ≤ now ∧ y ≤ now - n) = false := decide_eq_false (fun h => hb ⟨h.1, h.2.1⟩)
    rw [e0]
    clear hb e0
    go_enter Try.func43, Try.ntmps43
    go_wp2_with fail
    rw [← HW.out]
    refine BC.out.mono ?_
    rintro e w1 ⟨rfl, c1⟩
    have C1 := Lib.hid (CW.out.trans c1)
    clear c1 q0 q1 q2
    go_wp2_with fail
    go_ret
    exact ⟨rfl, C1.out⟩
end Go.Proofs.Ytmnnahkaenikkaa

/- policy.Right; package expire: rolled, right. -/
namespace Go.Proofs.Ytmnnahkaenikkaa
open Go.RowKit Go.Cat
def okI (p : Pol) (k : Nat) : Bool := if k = 0 then okP p.a else if k = 1 then okP p.b && !lessP p.b p.a else okP p.c && !lessP p.c p.b
theorem right_of {p : Pol} (h0 : okI p 0 = true) (h1 : okI p 1 = true) (h2 : okI p 2 = true) : p.right = true := by
  have e0 : okI p 0 = okP p.a := rfl
  have e1 : okI p 1 = (okP p.b && !lessP p.b p.a) := rfl
  have e2 : okI p 2 = (okP p.c && !lessP p.c p.b) := rfl
  rw [e0] at h0
  rw [e1, Bool.and_eq_true] at h1
  rw [e2, Bool.and_eq_true] at h2
  unfold Pol.right
  rw [h0, h1.1, h1.2, h2.1, h2.2]; rfl
theorem not_right {p : Pol} {k : Nat} (hk : k < 3) (h : okI p k = false) : p.right = false := by
  unfold Pol.right
  match k, hk with
  | 0, _ =>
    have e0 : okI p 0 = okP p.a := rfl
    rw [e0] at h
    rw [h]; rfl
  | 1, _ =>
    have e1 : okI p 1 = (okP p.b && !lessP p.b p.a) := rfl
    rw [e1] at h
    rw [Bool.and_assoc (okP p.a), h]; simp
  | 2, _ =>
    have e2 : okI p 2 = (okP p.c && !lessP p.c p.b) := rfl
    rw [e2] at h
    rw [Bool.and_assoc _ (okP p.c), h]; simp
set_option maxRecDepth 100000 in
set_option maxHeartbeats 2000000 in
theorem polright_c (w : World) (p : Pol) : Calls Try.prog 68 #[.agg #[.int .i64 p.a, .int .i64 p.b, .int .i64 p.c]] w fun e w' => e = .returned (.bool p.right) ∧ Chg (fun _ => False) w w' := by
  obtain ⟨q0, q1, q2⟩ := pol_new w p 41
  have AC := Lib.hid (fun w => pall3_c w p)
  have C0 : Hid (Chg (fun _ => False) w (w.alloc (.cells #[.int .i64 p.a, .int .i64 p.b, .int .i64 p.c] 41))) := (Chg.refl _ w).alloc _
  have NR := Lib.hid (fun (k : Nat) (hk : k < 3) (h : okI p k = false) => not_right hk h)
  have RO := Lib.hid (fun h0 h1 h2 => right_of (p := p) h0 h1 h2)
  obtain ⟨r, hr⟩ : ∃ r, r = p.right := ⟨_, rfl⟩
  rw [← hr] at NR RO ⊢
  have OK0 : Hid (okI p 0 = okP p.a) := rfl
  have OK1 : Hid (okI p 1 = (okP p.b && !lessP p.b p.a)) := rfl
  have OK2 : Hid (okI p 2 = (okP p.c && !lessP p.c p.b)) := rfl
  obtain ⟨a, b, c⟩ := p
  clear hr
  go_enter Try.func68, Try.ntmps68
  go_wp2_with fail
  refine (AC.out _).mono ?_
  rintro e w1 ⟨rfl, c1⟩
  obtain ⟨w2, hw2⟩ : ∃ w2, w2 = w1.alloc (.cells #[.int .i64 a, .int .i64 b, .int .i64 c] 84) := ⟨_, rfl⟩
  have hb2 : Hid (w2.heap[w1.heap.size]? = some (.cells #[.int .i64 a, .int .i64 b, .int .i64 c] 84 (0, 0))) := by show _ = _; rw [hw2]; exact heap_at_new _ _ _ rfl
  have C2 : Hid (Chg (fun _ => False) w w2) := by show Chg _ _ _; rw [hw2]; exact (C0.out.trans c1).alloc _
  have HW2 := Lib.hid hw2
  clear c1 q0 q1 q2 hw2
  go_wp2_with fail
  rw [← HW2.out]
  go_loopw [9] (fun ci wr => ∃ k : Nat, k ≤ 3 ∧ ci = .int .i64 k ∧ Hid (∀ j, j < k → okI ⟨a, b, c⟩ j = true) ∧ Hid (Chg (fun _ => False) w wr) ∧ Hid (wr.heap[w1.heap.size]? = some (.cells #[.int .i64 a, .int .i64 b, .int .i64 c] 84 (0, 0)))) (fun ci _ => 3 - (intOf ci).toNat)
  case atStart => exact ⟨0, by omega, rfl, fun j hj => absurd hj (by omega), C2.out, hb2.out⟩
  case round =>
    obtain ⟨k, hk, rfl, hA, hC, hB⟩ := hrel
    clear hb2 C2
    obtain ⟨ix0, ix1, ix2⟩ := idx3 wr (.int .i64 a) (.int .i64 b) (.int .i64 c)
    have q0 : wr.cell? ⟨w1.heap.size, 0, none⟩ = some (.int .i64 a) := by rw [cell_of_heap hB.out]; rfl
    have q1 : wr.cell? ⟨w1.heap.size, 1, none⟩ = some (.int .i64 b) := by rw [cell_of_heap hB.out]; rfl
    have ST : Hid (okI ⟨a, b, c⟩ k = true → ∀ j, j < k + 1 → okI ⟨a, b, c⟩ j = true) := fun h j hj => by
      rcases Nat.lt_or_ge j k with h' | h'
      · exact hA.out j h'
      · obtain rfl : j = k := by omega
        exact h
    obtain hk0 | hk1 | hk2 | hk3 : k = 0 ∨ k = 1 ∨ k = 2 ∨ k = 3 := by omega
    · subst hk0
      by_cases i1 : a < 0
      · have HF := Lib.hid (NR.out 0 (by omega) (by rw [OK0.out]; unfold okP; rw [decide_eq_false (fun h => by have := h.1; omega)]))
        clear ST
        go_wp2_with fail
        go_ret
        exact ⟨by rw [HF.out]; rfl, hC.out⟩
      · by_cases i2 : 1099511627776 < a
        · have HF := Lib.hid (NR.out 0 (by omega) (by rw [OK0.out]; unfold okP; rw [decide_eq_false (fun h => by have := h.2; omega)]))
          clear ST
          go_wp2_with fail
          go_ret
          exact ⟨by rw [HF.out]; rfl, hC.out⟩
        · have hok : okP a = true := decide_eq_true ⟨by omega, by omega⟩
          have HT := Lib.hid (ST.out (by rw [OK0.out]; exact hok))
          clear ST hok
          go_wp2_with fail
          exact ⟨⟨1, by omega, rfl, HT.out, hC.out, hB.out⟩, by simp only [intOf]; omega⟩
    · subst hk1
      by_cases i1 : b < 0
      · have HF := Lib.hid (NR.out 1 (by omega) (by rw [OK1.out]; unfold okP; rw [decide_eq_false (fun h => by have := h.1; omega)]; rfl))
        clear ST
        go_wp2_with fail
        go_ret
        exact ⟨by rw [HF.out]; rfl, hC.out⟩
      · by_cases i2 : 1099511627776 < b
        · have HF := Lib.hid (NR.out 1 (by omega) (by rw [OK1.out]; unfold okP; rw [decide_eq_false (fun h => by have := h.2; omega)]; rfl))
          clear ST
          go_wp2_with fail
          go_ret
          exact ⟨by rw [HF.out]; rfl, hC.out⟩
        · have hok : okP b = true := decide_eq_true ⟨by omega, by omega⟩
          cases hl : lessP b a with
          | true =>
            have HF := Lib.hid (NR.out 1 (by omega) (by rw [OK1.out]; show (okP b && !lessP b a) = false; rw [hl]; simp))
            have LC := less_c wr b a
            rw [hl] at LC
            have LC := Lib.hid LC
            clear ST hok hl
            go_wp2_with fail
            refine LC.out.mono ?_
            rintro e w3 ⟨rfl, rfl⟩
            go_wp2_with fail
            go_ret
            exact ⟨by rw [HF.out]; rfl, hC.out⟩
          | false =>
            have HT := Lib.hid (ST.out (by rw [OK1.out]; show (okP b && !lessP b a) = true; rw [hok, hl]; rfl))
            have LC := less_c wr b a
            rw [hl] at LC
            have LC := Lib.hid LC
            clear ST hok hl
            go_wp2_with fail
            refine LC.out.mono ?_
            rintro e w3 ⟨rfl, rfl⟩
            go_wp2_with fail
            exact ⟨⟨2, by omega, rfl, HT.out, hC.out, hB.out⟩, by simp only [intOf]; omega⟩
    · subst hk2
      by_cases i1 : c < 0
      · have HF := Lib.hid (NR.out 2 (by omega) (by rw [OK2.out]; unfold okP; rw [decide_eq_false (fun h => by have := h.1; omega)]; rfl))
        clear ST
        go_wp2_with fail
        go_ret
        exact ⟨by rw [HF.out]; rfl, hC.out⟩
      · by_cases i2 : 1099511627776 < c
        · have HF := Lib.hid (NR.out 2 (by omega) (by rw [OK2.out]; unfold okP; rw [decide_eq_false (fun h => by have := h.2; omega)]; rfl))
          clear ST
          go_wp2_with fail
          go_ret
          exact ⟨by rw [HF.out]; rfl, hC.out⟩
        · have hok : okP c = true := decide_eq_true ⟨by omega, by omega⟩
          cases hl : lessP c b with
          | true =>
            have HF := Lib.hid (NR.out 2 (by omega) (by rw [OK2.out]; show (okP c && !lessP c b) = false; rw [hl]; simp))
            have LC := less_c wr c b
            rw [hl] at LC
            have LC := Lib.hid LC
            clear ST hok hl
            go_wp2_with fail
            refine LC.out.mono ?_
            rintro e w3 ⟨rfl, rfl⟩
            go_wp2_with fail
            go_ret
            exact ⟨by rw [HF.out]; rfl, hC.out⟩
          | false =>
            have HT := Lib.hid (ST.out (by rw [OK2.out]; show (okP c && !lessP c b) = true; rw [hok, hl]; rfl))
            have LC := less_c wr c b
            rw [hl] at LC
            have LC := Lib.hid LC
            clear ST hok hl
            go_wp2_with fail
            refine LC.out.mono ?_
            rintro e w3 ⟨rfl, rfl⟩
            go_wp2_with fail
            exact ⟨⟨3, by omega, rfl, HT.out, hC.out, hB.out⟩, by simp only [intOf]; omega⟩
    · subst hk3
      have HT := Lib.hid (RO.out (hA.out 0 (by omega)) (hA.out 1 (by omega)) (hA.out 2 (by omega)))
      clear ix0 ix1 ix2 q0 q1 ST
      go_wp2_with fail
      go_ret
      exact ⟨by rw [HT.out]; rfl, hC.out⟩
set_option maxRecDepth 100000 in
theorem exrolled_c (w : World) (F : Nat → Prop) (R : Nat) (s : St) (t : Nat) (ht : t = 0 ∨ t = 1 ∨ t = 2) (h : StIs w F R s) : Calls Try.prog 40 #[.pointer (some ⟨R, 0, none⟩), .int .i64 t] w fun e w' => e = .returned (.int .i64 (if t = 0 then s.m1 else if t = 1 then s.m2 else 1099511631376)) ∧ w = w' := by
  have M1 := Lib.hid (mark_c w F R s 1 (.inl rfl) h)
  have M2 := Lib.hid (mark_c w F R s 2 (.inr rfl) h)
  have WC := Lib.hid (width_c w 2 (by omega))
  clear h
  rcases ht with rfl | rfl | rfl
  · go_enter Try.func40, Try.ntmps40
    go_wp2_with fail
    refine M1.out.mono ?_
    rintro e w1 ⟨rfl, rfl⟩
    go_wp2_with fail
    go_ret
    exact ⟨rfl, rfl⟩
  · go_enter Try.func40, Try.ntmps40
    go_wp2_with fail
    refine M2.out.mono ?_
    rintro e w1 ⟨rfl, rfl⟩
    go_wp2_with fail
    go_ret
    exact ⟨rfl, rfl⟩
  · rw [show wid 2 = 3600 from rfl] at WC
    go_enter Try.func40, Try.ntmps40
    go_wp2_with fail
    refine WC.out.mono ?_
    rintro e w1 ⟨rfl, rfl⟩
    go_wp2_with fail
    go_ret
    exact ⟨rfl, rfl⟩
def rightE (p : Pol) (now : Int) : Bool := p.right && decide (0 ≤ now ∧ now ≤ 1099511627776)
set_option maxRecDepth 100000 in
theorem exright_c (w : World) (R : Nat) (p : Pol) (now : Int) : Calls Try.prog 39 #[.pointer (some ⟨R, 0, none⟩), .agg #[.int .i64 p.a, .int .i64 p.b, .int .i64 p.c], .int .i64 now] w fun e w' => e = .returned (.bool (rightE p now)) ∧ Chg (fun _ => False) w w' := by
  obtain ⟨q0, q1, q2⟩ := pol_new w p 41
  have RC := Lib.hid (fun w => polright_c w p)
  have C0 : Hid (Chg (fun _ => False) w (w.alloc (.cells #[.int .i64 p.a, .int .i64 p.b, .int .i64 p.c] 41))) := (Chg.refl _ w).alloc _
  have hx : rightE p now = (p.right && decide (0 ≤ now ∧ now ≤ 1099511627776)) := rfl
  rw [hx]
  obtain ⟨r, hr⟩ : ∃ r, r = p.right := ⟨_, rfl⟩
  rw [← hr] at RC ⊢
  clear hr hx
  cases r with
  | false =>
    go_enter Try.func39, Try.ntmps39
    go_wp2_with fail
    refine (RC.out _).mono ?_
    rintro e w1 ⟨rfl, c1⟩
    have C1 := Lib.hid (C0.out.trans c1)
    clear c1
    go_wp2_with fail
    go_ret
    exact ⟨rfl, C1.out⟩
  | true =>
    by_cases h0 : 0 ≤ now
    · have HD : Hid (decide (now ≤ 1099511627776) = (true && decide (0 ≤ now ∧ now ≤ 1099511627776))) := by
        show _ = _
        rw [Bool.true_and]
        congr 1
        exact propext ⟨fun h => ⟨h0, h⟩, fun h => h.2⟩
      go_enter Try.func39, Try.ntmps39
      go_wp2_with fail
      refine (RC.out _).mono ?_
      rintro e w1 ⟨rfl, c1⟩
      have C1 := Lib.hid (C0.out.trans c1)
      clear c1
      go_wp2_with fail
      go_ret
      exact ⟨by rw [← HD.out]; rfl, C1.out⟩
    · rw [decide_eq_false (show ¬ (0 ≤ now ∧ now ≤ 1099511627776) from fun h => h0 h.1)]
      go_enter Try.func39, Try.ntmps39
      go_wp2_with fail
      refine (RC.out _).mono ?_
      rintro e w1 ⟨rfl, c1⟩
      have C1 := Lib.hid (C0.out.trans c1)
      clear c1
      go_wp2_with fail
      go_ret
      exact ⟨rfl, C1.out⟩
end Go.Proofs.Ytmnnahkaenikkaa
