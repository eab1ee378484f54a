/- What a row's proof opens a policy, and ticks, by. -/
import Derived.Test.YtmnnahkaenikkaaRowAct16
import Derived.Test.YtmnnahkaenikkaaExL
import Derived.Deep.Strs
namespace Go.Proofs.Ytmnnahkaenikkaa
open Go.ChangeShapes Go.WideShapes Go.ChangeAt Go.RowKit Go.Cat

set_option maxRecDepth 100000 in
theorem open_pol {H : Type} {enc : TypeId × Value → H} {w : World} {base : Nat} {held : Bool} {v : Value} {d : DataW H} {ps : List MemPlace}
    (hok : Value.okWide Try.prog w .any base 41 v) (h : DataW.Trod enc Try.prog w 0 (fun _ => true) held 41 v d ps) :
    ∃ p : Pol, v = .agg #[.int .i64 p.a, .int .i64 p.b, .int .i64 p.c] := by
  obtain ⟨cs, rfl, hsz, hrow⟩ := okWide_rowB Try.underlying41 hok
  have hc2 : Try.prog.cellsOf 41 = 3 := by kernel_rfl
  have hu1 : Try.prog.cellsOf 2 = 1 := by kernel_rfl
  rw [hc2] at hsz
  obtain ⟨c0, c1, c2, rfl⟩ : ∃ c0 c1 c2, cs = #[c0, c1, c2] := by
    obtain ⟨l⟩ := cs
    match l, hsz with
    | [a, b, c], _ => exact ⟨a, b, c, rfl⟩
  obtain ⟨fuel, hf⟩ := h
  obtain ⟨z0, z1, z2, m, hz, _, k0, k1, k2⟩ := Deep.trod_struct3 Try.underlying41 hf
  simp only [hu1, Value.cells, List.drop_zero, List.take_succ_cons, List.take_zero, List.drop_succ_cons] at k0 k1 k2
  obtain ⟨T, e0, _, b0⟩ := DataW.trod_int Try.underlying2 k0
  obtain ⟨P, e1, _, b1⟩ := DataW.trod_int Try.underlying2 k1
  obtain ⟨Q, e2, _, b2⟩ := DataW.trod_int Try.underlying2 k2
  simp only [List.cons.injEq, and_true] at e0 e1 e2
  subst e0 e1 e2
  exact ⟨⟨T, P, Q⟩, rfl⟩
set_option maxRecDepth 100000 in
theorem open_ticks {H : Type} {enc : TypeId × Value → H} {w : World} {base : Nat} {held : Bool} {v : Value} {d : DataW H} {ps : List MemPlace}
    (hok : Value.okWide Try.prog w .any base 42 v) (h : DataW.Trod enc Try.prog w 0 (fun _ => true) held 42 v d ps) :
    ∃ l : List Int, TicksZ w v l ∧ l.length ≤ 9223372036854775807 := by
  obtain ⟨a, len, cap, rfl⟩ := WideShapes.okWide_slice Try.underlying42 hok
  obtain ⟨fuel, hf⟩ := h
  have hi64 : Try.prog.cellsOf 2 = 1 := by kernel_rfl
  rcases Deep.open_slice Try.underlying42 hf with ⟨hcs, _⟩ | ⟨x, l, c, m, n, D, Pl, hcs, _, hl, hm, hmm, _, hrow⟩
  · simp [Value.cells] at hcs
    obtain ⟨rfl, rfl, rfl⟩ := hcs
    exact ⟨[], .inl (Reads.nil w 1), by simp⟩
  · simp [Value.cells] at hcs
    obtain ⟨rfl, rfl, rfl⟩ := hcs
    have hml : len ≤ m := by rw [hmm]; split <;> omega
    obtain ⟨b, o, rfl, hlt⟩ := slice_addrB Try.underlying42 hok
    have hex : ∀ i, ∃ it : Int, i < len → w.cells? 0 ((⟨b, o, none⟩ : Addr).add (i * 1)) 1 = some [.int .i64 it] := by
      intro i
      by_cases hi : i < len
      · obtain ⟨cs, h1, h2⟩ := hrow i (by omega)
        rw [hi64] at h1
        obtain ⟨n2, e2, _, b2⟩ := DataW.trod_int Try.underlying2 h2
        subst e2
        exact ⟨n2, fun _ => h1⟩
      · exact ⟨0, fun h => absurd h hi⟩
    obtain ⟨f, hfx⟩ := Classical.skolem.1 hex
    refine ⟨(List.range len).map f, .inl ⟨by simp, .inr ⟨b, o, cap, by simp, by simp; omega, by have := hm; simp only [maxLen] at *; omega, hlt, fun j u hj => ?_⟩⟩, by simp; simp only [maxLen] at *; omega⟩
    have hjl := (List.getElem?_eq_some_iff.1 hj).1
    simp only [List.length_map, List.length_range] at hjl
    have h2 := (World.cells?_some (hfx j hjl)).2.2 0 (by omega)
    rw [addr_add, addr_add, Nat.mul_one, Nat.add_zero] at h2
    rw [h2, ← hj]
    simp [hjl]
end Go.Proofs.Ytmnnahkaenikkaa
