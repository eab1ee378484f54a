/- Contracts of package journal: whether a device has the sectors, New, Cost, Room, Next, Turn. -/
import Derived.Test.YtjhkhdockiocgaaDevUp
import Derived.Test.YtjhkhdockiocgaaT
namespace Go.Proofs.Ytjhkhdockiocgaa
open Go.RowKit Go.Cat

set_option maxRecDepth 100000 in
theorem len_any (w : World) (D : Nat) (lv wv : Value) (d : Dev) (h : DevIs w D lv wv d) :
    Calls Try.prog 109 #[.pointer (some ⟨D, 0, none⟩)] w fun e w' => e = .returned (.int .i64 d.l.length) ∧ w = w' := by
  obtain ⟨T, hb⟩ := h.heap
  obtain ⟨la, lc, rfl⟩ := h.ownL.form
  have hc := cell_of_heap hb 0
  simp only [List.getElem?_toArray, List.getElem?_cons_zero, List.getElem?_cons_succ] at hc
  clear hb h
  go_enter Try.func109, Try.ntmps109
  go_wp2_with fail
  go_ret
  exact ⟨rfl, rfl⟩

/-- Are the sectors of a device of N ones? -/
def inB (N : Nat) (lo n : Int) : Bool := decide (0 ≤ lo ∧ 1 ≤ n ∧ lo ≤ N ∧ n ≤ N - lo)

set_option maxRecDepth 100000 in
set_option maxHeartbeats 1000000 in
theorem lies_any (w : World) (D : Nat) (lv wv : Value) (d : Dev) (h : DevIs w D lv wv d) (lo n : Int) (hlo : lo < 9223372036854775808) :
    Calls Try.prog 75 #[.pointer (some ⟨D, 0, none⟩), .int .i64 lo, .int .i64 n] w fun e w' => e = .returned (.bool (inB d.l.length lo n)) ∧ w = w' := by
  have HL := Lib.hid (len_any w D lv wv d h)
  have hN := h.many
  obtain ⟨N, hNe⟩ : ∃ N, N = d.l.length := ⟨_, rfl⟩
  rw [← hNe] at HL hN ⊢
  clear hNe h
  have hI : Hid (inB N lo n = decide (0 ≤ lo ∧ 1 ≤ n ∧ lo ≤ N ∧ n ≤ N - lo)) := rfl
  by_cases h1 : 0 ≤ lo
  · by_cases h2 : 1 ≤ n
    · by_cases h3 : lo ≤ N
      · by_cases h4 : n ≤ N - lo
        all_goals
          go_enter Try.func75, Try.ntmps75
          go_wp2_with (first | (go_at_call 109; refine HL.out.mono ?_; rintro e w' ⟨rfl, rfl⟩))
          go_ret
          exact ⟨by rw [hI.out]; simp [h1, h2, h3, h4] <;> omega, rfl⟩
      · go_enter Try.func75, Try.ntmps75
        go_wp2_with (first | (go_at_call 109; refine HL.out.mono ?_; rintro e w' ⟨rfl, rfl⟩))
        go_ret
        exact ⟨by rw [hI.out]; simp [h1, h2, h3] <;> omega, rfl⟩
    · go_enter Try.func75, Try.ntmps75
      go_wp2_with (first | (go_at_call 109; refine HL.out.mono ?_; rintro e w' ⟨rfl, rfl⟩))
      go_ret
      exact ⟨by rw [hI.out]; simp [h1, h2] <;> omega, rfl⟩
  · go_enter Try.func75, Try.ntmps75
    go_wp2_with (first | (go_at_call 109; refine HL.out.mono ?_; rintro e w' ⟨rfl, rfl⟩))
    go_ret
    exact ⟨by rw [hI.out]; simp [h1] <;> omega, rfl⟩

/-- A journal as it lies in memory. -/
structure JIs (w : World) (J D : Nat) (lo n turn next : Nat) : Prop where
  heap : ∃ T, w.heap[J]? = some (.cells #[.pointer (some ⟨D, 0, none⟩), .int .i64 lo, .int .i64 n, .int .u32 turn, .int .i64 next] T (0, 0))
theorem JIs.kept {w w' : World} {J D lo n turn next : Nat} (h : JIs w J D lo n turn next) {S : Nat → Prop} (c : Chg S w w') (hs : ¬ S J) : JIs w' J D lo n turn next := by
  obtain ⟨T, hb⟩ := h.heap
  exact ⟨T, c.heap hb hs⟩
theorem JIs.lt {w : World} {J D lo n turn next : Nat} (h : JIs w J D lo n turn next) : J < w.heap.size := by
  obtain ⟨T, hb⟩ := h.heap
  exact (Array.getElem?_eq_some_iff.1 hb).1

set_option maxRecDepth 100000 in
set_option maxHeartbeats 1000000 in
theorem newj_in (w : World) (D : Nat) (lv wv : Value) (d : Dev) (h : DevIs w D lv wv d) (lo n turn : Nat) (ht : turn ≠ 0) (h1 : 1 ≤ n) (h2 : lo + n ≤ d.l.length) :
    Calls Try.prog 25 #[.pointer (some ⟨D, 0, none⟩), .int .i64 lo, .int .i64 n, .int .u32 turn] w fun e w' => e = .returned (.tuple #[.pointer (some ⟨w.heap.size, 0, none⟩), .int .i64 0]) ∧ JIs w' w.heap.size D lo n turn 0 ∧ Chg (fun _ => False) w w' := by
  have hm := h.many
  have HL := lies_any w D lv wv d h lo n (by omega)
  rw [show inB d.l.length lo n = true from decide_eq_true (by omega)] at HL
  have H := Lib.hid HL
  have ht1 : ((turn : Int) == 0) = false := by simp; omega
  clear HL h
  go_enter Try.func25, Try.ntmps25
  go_wp2_with (first | (go_at_call 75; refine H.out.mono ?_; rintro e w' ⟨rfl, rfl⟩))
  go_ret2
  exact ⟨rfl, ⟨_, heap_at_new _ _ _ rfl⟩, (Chg.refl _ w).alloc _⟩
set_option maxRecDepth 100000 in
set_option maxHeartbeats 1000000 in
theorem newj_no (w : World) (D : Nat) (lv wv : Value) (d : Dev) (h : DevIs w D lv wv d) (lo n turn : Int) (hlo : lo < 9223372036854775808) (hno : inB d.l.length lo n = false ∨ turn = 0) :
    Calls Try.prog 25 #[.pointer (some ⟨D, 0, none⟩), .int .i64 lo, .int .i64 n, .int .u32 turn] w fun e w' => e = .returned (.tuple #[.pointer none, .int .i64 1]) ∧ w = w' := by
  have H := Lib.hid (lies_any w D lv wv d h lo n hlo)
  clear h
  cases hb : inB d.l.length lo n
  · rw [hb] at H
    clear hno hb
    go_enter Try.func25, Try.ntmps25
    go_wp2_with (first | (go_at_call 75; refine H.out.mono ?_; rintro e w' ⟨rfl, rfl⟩))
    go_ret2
    exact ⟨rfl, rfl⟩
  · rw [hb] at H
    obtain rfl : turn = 0 := by
      rcases hno with h | h
      · rw [hb] at h; cases h
      · exact h
    clear hno hb
    go_enter Try.func25, Try.ntmps25
    go_wp2_with (first | (go_at_call 75; refine H.out.mono ?_; rintro e w' ⟨rfl, rfl⟩))
    go_ret2
    exact ⟨rfl, rfl⟩

def costN (n : Nat) : Nat := max ((n + 46) / 47) 1
set_option maxRecDepth 100000 in
set_option maxHeartbeats 1000000 in
theorem cost_any (n : Nat) (w : World) (hn : n ≤ 4611686018427387904) :
    Calls Try.prog 37 #[.int .i64 n] w fun e w' => e = .returned (.int .i64 (costN n)) ∧ w = w' := by
  have hm : (if (n : Int) < 0 then (0 : Int) else n) = n := by rw [if_neg (by omega)]
  have hC : Hid (costN n = max ((n + 46) / 47) 1) := rfl
  by_cases hr : 0 < (n : Int) % 47
  · have h1 : (if (n : Int) / 47 + 1 < 1 then (1 : Int) else (n : Int) / 47 + 1) = (costN n : Nat) := by rw [hC.out]; split <;> omega
    go_enter Try.func37, Try.ntmps37
    go_wp2_with fail
    go_ret
    exact ⟨congrArg (fun z => Ending.returned (.int .i64 z)) (show (n : Int) / 47 + 1 = (costN n : Nat) by rw [hC.out]; omega), rfl⟩
  · have h1 : (if (n : Int) / 47 < 1 then (1 : Int) else (n : Int) / 47) = (costN n : Nat) := by rw [hC.out]; split <;> omega
    go_enter Try.func37, Try.ntmps37
    go_wp2_with fail
    go_ret
    exact ⟨congrArg (fun z => Ending.returned (.int .i64 z)) (show _ = ((costN n : Nat) : Int) by rw [hC.out]), rfl⟩
set_option maxRecDepth 100000 in
set_option maxHeartbeats 1000000 in
theorem cost_neg (n : Int) (w : World) (hn : n ≤ 0) :
    Calls Try.prog 37 #[.int .i64 n] w fun e w' => e = .returned (.int .i64 1) ∧ w = w' := by
  have hm : (if (n : Int) < 0 then (0 : Int) else n) = 0 := by split <;> omega
  go_enter Try.func37, Try.ntmps37
  go_wp2_with fail
  go_ret
  exact ⟨rfl, rfl⟩

set_option maxRecDepth 100000 in
set_option maxHeartbeats 1000000 in
theorem nextj (w : World) (J D lo n turn next : Nat) (h : JIs w J D lo n turn next) :
    Calls Try.prog 33 #[.pointer (some ⟨J, 0, none⟩)] w fun e w' => e = .returned (.int .i64 next) ∧ w = w' := by
  obtain ⟨T, hb⟩ := h.heap
  have hc := cell_of_heap hb 4
  simp only [List.getElem?_toArray, List.getElem?_cons_zero, List.getElem?_cons_succ] at hc
  clear hb h
  go_enter Try.func33, Try.ntmps33
  go_wp2_with fail
  go_ret
  exact ⟨rfl, rfl⟩
set_option maxRecDepth 100000 in
set_option maxHeartbeats 1000000 in
theorem turnj (w : World) (J D lo n turn next : Nat) (h : JIs w J D lo n turn next) :
    Calls Try.prog 34 #[.pointer (some ⟨J, 0, none⟩)] w fun e w' => e = .returned (.int .u32 turn) ∧ w = w' := by
  obtain ⟨T, hb⟩ := h.heap
  have hc := cell_of_heap hb 3
  simp only [List.getElem?_toArray, List.getElem?_cons_zero, List.getElem?_cons_succ] at hc
  clear hb h
  go_enter Try.func34, Try.ntmps34
  go_wp2_with fail
  go_ret
  exact ⟨rfl, rfl⟩
set_option maxRecDepth 100000 in
set_option maxHeartbeats 1000000 in
theorem roomj (w : World) (J D lo n turn next : Nat) (h : JIs w J D lo n turn next) (h1 : next ≤ n) (h2 : n ≤ 8192) :
    Calls Try.prog 35 #[.pointer (some ⟨J, 0, none⟩)] w fun e w' => ∃ q, e = .returned (.int .i64 (((n - next) * 47 : Nat) : Int)) ∧ w' = w.drewN q := by
  obtain ⟨T, hb⟩ := h.heap
  have hc := cell_of_heap hb 4
  have hc2 := cell_of_heap hb 2
  simp only [List.getElem?_toArray, List.getElem?_cons_zero, List.getElem?_cons_succ] at hc hc2
  clear hb h
  have e1 : IntKind.i64.wrap ((n : Int) - next) = (n : Int) - next := IntWalk.i64_in _ (by omega)
  have e2 : IntKind.i64.wrap (((n : Int) - next) * 47) = ((n : Int) - next) * 47 := IntWalk.i64_in _ (by omega)
  have e3 : ((((n - next) * 47 : Nat)) : Int) = ((n : Int) - next) * 47 := by omega
  have E3 := Lib.hid e3
  clear e3
  go_enter Try.func35, Try.ntmps35
  go_wp2_with fail
  go_quiet (fail)
  go_wp2_with fail
  go_ret
  exact ⟨nq, congrArg (fun z => Ending.returned (.int .i64 z)) E3.out.symm, rfl⟩
set_option maxRecDepth 100000 in
theorem none_next (w : World) : Calls Try.prog 33 #[.pointer none] w fun e w' => e = .returned (.int .i64 0) ∧ w = w' := by
  go_enter Try.func33, Try.ntmps33
  go_wp2_with fail
  go_ret
  exact ⟨rfl, rfl⟩
set_option maxRecDepth 100000 in
theorem none_turn (w : World) : Calls Try.prog 34 #[.pointer none] w fun e w' => e = .returned (.int .u32 0) ∧ w = w' := by
  go_enter Try.func34, Try.ntmps34
  go_wp2_with fail
  go_ret
  exact ⟨rfl, rfl⟩
set_option maxRecDepth 100000 in
theorem none_room (w : World) : Calls Try.prog 35 #[.pointer none] w fun e w' => e = .returned (.int .i64 0) ∧ w = w' := by
  go_enter Try.func35, Try.ntmps35
  go_wp2_with fail
  go_ret
  exact ⟨rfl, rfl⟩
set_option maxRecDepth 100000 in
theorem none_write (v : Value) (w : World) : Calls Try.prog 27 #[.pointer none, v] w fun e w' => e = .returned (.int .i64 1) ∧ w = w' := by
  go_enter Try.func27, Try.ntmps27
  go_wp2_with fail
  go_ret
  exact ⟨rfl, rfl⟩
set_option maxRecDepth 100000 in
theorem none_commit (v : Value) (w : World) : Calls Try.prog 26 #[.pointer none, v] w fun e w' => e = .returned (.int .i64 1) ∧ w = w' := by
  go_enter Try.func26, Try.ntmps26
  go_wp2_with (refine (none_write _ _).mono ?_; rintro e w' ⟨rfl, rfl⟩)
  go_ret
  exact ⟨rfl, rfl⟩
end Go.Proofs.Ytjhkhdockiocgaa
