/- Sectors that do not join: no program. -/
import Derived.Test.YtncgeeaifacapaaStamp
namespace Go.Proofs.Ytncgeeaifacapaa
open Go.RowKit Go.Cat

theorem flat_take (ss : List Sec) (k : Nat) : flat (ss.take k) = (flat ss).take (k * 4) := by
  induction ss generalizing k with
  | nil => simp [flat]
  | cons s ss ih =>
    cases k with
    | zero => simp [flat]
    | succ k =>
      have := ih k
      simp only [flat, List.take_succ_cons, List.flatMap_cons] at *
      rw [this, List.take_append, List.take_of_length_le (l := s.cells) (by rw [Sec.cells_length]; omega), Sec.cells_length]
      congr 2; omega
theorem flat_drop (ss : List Sec) (k : Nat) : flat (ss.drop k) = (flat ss).drop (k * 4) := by
  induction ss generalizing k with
  | nil => simp [flat]
  | cons s ss ih =>
    cases k with
    | zero => simp [flat]
    | succ k =>
      have := ih k
      simp only [flat, List.drop_succ_cons, List.flatMap_cons] at *
      rw [this, List.drop_append, List.drop_eq_nil_of_le (show s.cells.length ≤ (k + 1) * 4 by rw [Sec.cells_length]; omega), List.nil_append, Sec.cells_length]
      congr 1; omega
theorem flat_append (a b : List Sec) : flat (a ++ b) = flat a ++ flat b := by simp [flat]
/-- One sector is another one. -/
theorem flat_set (ss : List Sec) (q : Nat) (s' : Sec) (hq : q < ss.length) : flat (ss.set q s') = (flat ss).take (q * 4) ++ s'.cells ++ (flat ss).drop (q * 4 + 4) := by
  rw [List.set_eq_take_append_cons_drop, if_pos hq, flat_append, flat_take, List.append_assoc]
  congr 1
  have := flat_drop ss (q + 1)
  rw [show (q + 1) * 4 = q * 4 + 4 by omega] at this
  rw [← this]
  simp [flat]
/-- One cell of one sector is another one. -/
theorem flat_cell (ss : List Sec) (q c : Nat) (s s' : Sec) (u : Value) (hs : ss[q]? = some s) (hc : c < 4) (h : s'.cells = s.cells.set c u) : (flat ss).take (q * 4 + c) ++ [u] ++ (flat ss).drop (q * 4 + c + [u].length) = flat (ss.set q s') := by
  have hq := (List.getElem?_eq_some_iff.1 hs).1
  have hfl := flat_length ss
  rw [flat_set ss q s' hq, h]
  have e1 : (flat ss) = (flat ss).take (q * 4) ++ s.cells ++ (flat ss).drop (q * 4 + 4) := by
    have := flat_set ss q s hq
    rw [← this]
    congr 1
    rw [List.set_eq_take_append_cons_drop, if_pos hq]
    obtain ⟨_, he⟩ := List.getElem?_eq_some_iff.1 hs
    rw [← he]
    simp
  generalize hA : (flat ss).take (q * 4) = A at *
  generalize hB : (flat ss).drop (q * 4 + 4) = B at *
  have hAl : A.length = q * 4 := by rw [← hA]; simp; omega
  rw [e1]
  have hcl : s.cells.length = 4 := rfl
  rw [List.append_assoc A, List.take_append, List.take_of_length_le (by omega), hAl, List.drop_append, List.drop_eq_nil_of_le (by simp; omega), hAl]
  simp only [Nat.add_sub_cancel_left, List.length_cons, List.length_nil, Nat.zero_add, List.nil_append]
  rw [show q * 4 + c + 1 - q * 4 = c + 1 by omega, List.take_append_of_le_length (by omega), List.drop_append_of_le_length (by omega)]
  rw [List.set_eq_take_append_cons_drop, if_pos (by omega)]
  simp

section
variable {turn place n : Nat} {l : List UInt8} {ss : List Sec}
theorem bad_left (h : Splits turn place l n n ss) (q : Nat) (hq : q < n) (h1 : 0 < q ∨ n = 1) (_ : place + n ≤ 4294967296) : ¬ Joins (ss.take q ++ ss.drop (q + 1)) := by
  have hl := h.1
  intro hj
  rcases h1 with h1 | h1
  · by_cases hq' : q + 1 = n
    · obtain ⟨_, _, s, hs, hla⟩ := hj
      rw [List.drop_eq_nil_of_le (by omega), List.append_nil] at hs
      simp only [List.length_take] at hs
      rw [show min q ss.length - 1 = q - 1 by omega, List.getElem?_take, if_pos (by omega)] at hs
      obtain ⟨_, _, h3, _⟩ := h.2 _ _ hs
      rw [h3] at hla; simp at hla; omega
    · obtain ⟨s, s0, e1, e2, _, e3⟩ := hj.2.1 q (by simp; omega)
      obtain ⟨p, e4, e5, _⟩ := e3 h1
      rw [List.getElem?_append_right (by simp; omega), List.getElem?_drop] at e1
      simp only [List.length_take] at e1
      rw [show q + 1 + (q - min q ss.length) = q + 1 by omega] at e1
      rw [List.getElem?_append_left (by simp; omega), List.getElem?_take, if_pos (by omega)] at e4
      obtain ⟨_, g1, _⟩ := h.2 _ _ e1
      obtain ⟨_, g2, _⟩ := h.2 _ _ e4
      omega
  · obtain rfl : q = 0 := by omega
    exact hj.1 (by rw [List.take_zero, List.nil_append]; exact List.drop_eq_nil_of_le (by omega))
theorem bad_swap (h : Splits turn place l n n ss) (q : Nat) (hq : q < n) (h1 : 0 < q) (_ : place + n ≤ 4294967296) (s p : Sec) (hs : ss[q]? = some s) (hpp : ss[q - 1]? = some p) : ¬ Joins ((ss.set q p).set (q - 1) s) := by
  have hl := h.1
  intro hj
  obtain ⟨a, s0, e1, e2, _, e3⟩ := hj.2.1 q (by simp; omega)
  obtain ⟨b, e4, e5, _⟩ := e3 h1
  rw [List.getElem?_set_ne (by omega), List.getElem?_set_self (by omega)] at e1
  rw [List.getElem?_set_self (by simp; omega)] at e4
  cases e1; cases e4
  obtain ⟨_, g1, _⟩ := h.2 _ _ hs
  obtain ⟨_, g2, _⟩ := h.2 _ _ hpp
  omega
theorem bad_turn (h : Splits turn place l n n ss) (q : Nat) (hq : q < n) (h1 : 0 < q) (_ : turn < 4294967296) (s : Sec) : ¬ Joins (ss.set q { s with turn := (turn + 1) % 4294967296 }) := by
  have hl := h.1
  intro hj
  obtain ⟨a, s0, e1, e2, e3, _⟩ := hj.2.1 q (by simp; omega)
  rw [List.getElem?_set_self (by omega)] at e1
  rw [List.getElem?_set_ne (by omega)] at e2
  cases e1
  obtain ⟨g1, _⟩ := h.2 _ _ e2
  simp only [g1] at e3
  omega
theorem bad_last (h : Splits turn place l n n ss) (hn : 0 < n) (s : Sec) (hs : ss[0]? = some s) : ¬ Joins (ss.set 0 { s with last := !s.last }) := by
  have hl := h.1
  obtain ⟨_, _, g3, _⟩ := h.2 _ _ hs
  intro hj
  by_cases h1 : n = 1
  · obtain ⟨_, _, t, ht, hla⟩ := hj
    simp only [List.length_set] at ht
    rw [show ss.length - 1 = 0 by omega, List.getElem?_set_self (by omega)] at ht
    cases ht
    rw [g3] at hla; simp at hla; omega
  · obtain ⟨a, s0, e1, e2, _, e3⟩ := hj.2.1 1 (by simp; omega)
    obtain ⟨p, e4, _, _, e5⟩ := e3 (by omega)
    rw [List.getElem?_set_self (by omega)] at e4
    cases e4
    rw [g3] at e5; simp at e5; omega
end
end Go.Proofs.Ytncgeeaifacapaa
