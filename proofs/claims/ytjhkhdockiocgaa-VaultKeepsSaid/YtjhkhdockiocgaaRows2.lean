/- Parts of a row of byte slices (the same as in XL10o, for texts that don't import that one). -/
import Derived.Test.YtjhkhdockiocgaaRow
import Derived.Test.YtjhkhdockiocgaaOctet
namespace Go.Cat
open Go.RowKit
theorem RBs.take {w : World} {a : Option Addr} {n c : Nat} {ls : List (List UInt8)} (h : RBs w (.slice a n c) ls) {j : Nat} (hj : j ≤ n) : RBs w (.slice a j c) (ls.take j) := by
  obtain ⟨vs, h1, h2⟩ := h
  have hvl := h1.1
  rcases h1.2 with ⟨hv, h0⟩ | ⟨g, o, cap, hv, k1, k2, k3, k4⟩
  · simp only [Value.slice.injEq] at hv
    obtain ⟨rfl, rfl, rfl⟩ := hv
    obtain rfl : j = 0 := by omega
    exact ⟨[], by rw [List.take_zero]; exact Reads.nil w 1, by simp⟩
  · simp only [Value.slice.injEq] at hv
    obtain ⟨rfl, rfl, rfl⟩ := hv
    have hlj : (ls.take j).length = j := by rw [List.length_take]; omega
    refine ⟨vs.take j, ⟨by rw [hlj, List.length_take]; omega, .inr ⟨g, o, c, by rw [hlj], by omega, k2, k3, fun i u hu => ?_⟩⟩, fun i u l hu hl => ?_⟩
    · rw [List.getElem?_take] at hu
      split at hu
      · exact k4 i u hu
      · cases hu
    · rw [List.getElem?_take] at hu hl
      split at hu
      · rename_i hi; rw [if_pos hi] at hl; exact h2 i u l hu hl
      · cases hu
theorem RBs.drop {w : World} {a : Option Addr} {n c : Nat} {ls : List (List UInt8)} (h : RBs w (.slice a n c) ls) {j : Nat} (hj : j ≤ n) : RBs w (.slice (if c = j then a else a.map (·.add (j * 1))) (n - j) (c - j)) (ls.drop j) := by
  obtain ⟨vs, h1, h2⟩ := h
  have hvl := h1.1
  rcases h1.2 with ⟨hv, h0⟩ | ⟨g, o, cap, hv, k1, k2, k3, k4⟩
  · simp only [Value.slice.injEq] at hv
    obtain ⟨rfl, rfl, rfl⟩ := hv
    obtain rfl : j = 0 := by omega
    obtain rfl : ls = [] := List.eq_nil_of_length_eq_zero h0
    exact ⟨[], by simpa using Reads.nil w 1, by simp⟩
  · simp only [Value.slice.injEq] at hv
    obtain ⟨rfl, rfl, rfl⟩ := hv
    have hlj : (ls.drop j).length = ls.length - j := List.length_drop
    refine ⟨vs.drop j, ⟨by rw [hlj, List.length_drop]; omega, ?_⟩, fun i u l hu hl => ?_⟩
    · by_cases hc : c = j
      · rw [if_pos hc]
        refine .inr ⟨g, o, c - j, by rw [hlj], by omega, by omega, k3, fun i u hu => ?_⟩
        have := (List.getElem?_eq_some_iff.1 hu).1
        rw [List.length_drop] at this; omega
      · rw [if_neg hc]
        refine .inr ⟨g, o + j, c - j, by rw [hlj]; simp [addr_add], by omega, by omega, k3, fun i u hu => ?_⟩
        rw [List.getElem?_drop] at hu
        rw [Nat.add_assoc]
        exact k4 (j + i) u hu
    · rw [List.getElem?_drop] at hu hl
      exact h2 (j + i) u l hu hl
end Go.Cat
namespace Go.Proofs.Ytjhkhdockiocgaa
open Go.RowKit Go.Cat
theorem slice_hi43 (w : World) (a : Option Addr) (n c hi : Nat) (h : hi ≤ c) : (Instr.sliceAt 43 (.slice a n c) none (some (.int .i64 hi)) none).run Try.prog w = .ok (.slice a hi c) w := by
  have h4 : (hi : Int) ≤ c := by omega
  simp [go_sem, Instr.sliceAt, Instr.slice, Instr.sliceBounds, h4]
theorem slice_lo43 (w : World) (a : Option Addr) (n c lo : Nat) (h : lo ≤ n) : (Instr.sliceAt 43 (.slice a n c) (some (.int .i64 lo)) none none).run Try.prog w = .ok (.slice (if c = lo then a else a.map (·.add (lo * 1))) (n - lo) (c - lo)) w := by
  have h4 : (lo : Int) ≤ n := by omega
  simp [go_sem, Instr.sliceAt, Instr.slice, Instr.sliceBounds, h4]
end Go.Proofs.Ytjhkhdockiocgaa
