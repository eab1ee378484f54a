/- What a row's proof opens the acts of layer 17 by. -/
import Derived.Test.YtjhkhdockiocgaaRowHold
import Derived.Test.YtjhkhdockiocgaaRowAct
import Derived.Test.YtjhkhdockiocgaaL17q
namespace Go.Proofs.Ytjhkhdockiocgaa
open Go.ChangeShapes Go.WideShapes Go.ChangeAt Go.RowKit Go.Cat

set_option maxRecDepth 100000 in
theorem open_acts17 {H : Type} {enc : TypeId × Value → H} {w : World} {base : Nat} {held : Bool} {v : Value} {d : DataW H} {ps : List MemPlace}
    (hok : Value.okWide Try.prog w .any base 86 v) (h : DataW.Trod enc Try.prog w 0 (fun _ => true) held 86 v d ps) :
    ∃ L : List Act17, Reads w 5 v L.length (L.flatMap Act17.cells) := by
  obtain ⟨a, len, cap, rfl⟩ := WideShapes.okWide_slice Try.underlying86 hok
  obtain ⟨fuel, hf⟩ := h
  have hc5 : Try.prog.cellsOf 91 = 5 := by kernel_rfl
  have hc4 : Try.prog.cellsOf 28 = 4 := by kernel_rfl
  have hr2 : Try.prog.cellsOf 24 = 2 := by kernel_rfl
  have hi64 : Try.prog.cellsOf 2 = 1 := by kernel_rfl
  have hint : Try.prog.cellsOf 3 = 1 := by kernel_rfl
  have hstr : Try.prog.cellsOf 9 = 1 := by kernel_rfl
  rcases Deep.open_slice Try.underlying86 hf with ⟨hcs, _⟩ | ⟨x, l, c, m, n, D, Pl, hcs, _, hl, hm, hmm, _, hrow⟩
  · simp [Value.cells] at hcs
    obtain ⟨rfl, rfl, rfl⟩ := hcs
    exact ⟨[], Reads.nil w 5⟩
  · simp [Value.cells] at hcs
    obtain ⟨rfl, rfl, rfl⟩ := hcs
    have hml : len ≤ m := by rw [hmm]; split <;> omega
    obtain ⟨b, o, rfl, hlt⟩ := slice_addrA Try.underlying86 hok
    have hex : ∀ i, ∃ it : Act17, i < len → w.cells? 0 ((⟨b, o, none⟩ : Addr).add (i * 5)) 5 = some it.cells := by
      intro i
      by_cases hi : i < len
      · obtain ⟨cs, h1, h2⟩ := hrow i (by omega)
        rw [hc5] at h1
        obtain ⟨n', hl5, hn⟩ := trod_fieldA Try.underlying91 h2
        obtain ⟨y0, k0⟩ := hn 0 _ rfl
        obtain ⟨y1, k1⟩ := hn 1 _ rfl
        clear hn
        rw [hc5] at hl5
        match cs, hl5 with
        | [c0, c1, c2, c3, c4], _ =>
          simp only [List.getElem_toArray, List.getElem_cons_zero, List.getElem_cons_succ, hint, hc4, List.drop_zero, List.take_succ_cons, List.take_zero, List.drop_succ_cons] at k0 k1
          obtain ⟨z0, z1, z2, n2, _, hl4, j0, j1, j2⟩ := Deep.trod_struct3 Try.underlying28 k1
          simp only [hr2, hstr, List.drop_zero, List.take_succ_cons, List.take_zero, List.drop_succ_cons] at j0 j1 j2
          obtain ⟨x0, x1, m', _, _, l0, l1⟩ := trod_struct2 Try.underlying24 j2
          simp only [hi64, List.drop_zero, List.take_succ_cons, List.take_zero, List.drop_succ_cons] at l0 l1
          obtain ⟨n0, e0, _, _⟩ := DataW.trod_int Try.underlying3 k0
          obtain ⟨ba, e1, _, _⟩ := DataW.trod_string Try.underlying9 j0
          obtain ⟨bb, e2, _, _⟩ := DataW.trod_string Try.underlying9 j1
          obtain ⟨n3, e3, _, _⟩ := DataW.trod_int Try.underlying2 l0
          obtain ⟨n4, e4, _, _⟩ := DataW.trod_int Try.underlying2 l1
          simp only [List.cons.injEq, and_true] at e0 e1 e2 e3 e4
          subst e0 e1 e2 e3 e4
          exact ⟨⟨n0, ba.data.toList, bb.data.toList, n3, n4⟩, fun _ => h1⟩
      · exact ⟨⟨0, [], [], 0, 0⟩, fun h => absurd h hi⟩
    obtain ⟨f, hfx⟩ := Classical.skolem.1 hex
    refine ⟨(List.range len).map f, ⟨rows_len _ (fun _ _ => rfl), .inr ⟨b, o, cap, by simp, by simp; omega, hm, hlt, fun j u hj => ?_⟩⟩⟩
    have hjl := (List.getElem?_eq_some_iff.1 hj).1
    rw [rows_len (s := 5) _ (fun _ _ => rfl)] at hjl
    simp only [List.length_map, List.length_range] at hjl
    have hi : j / 5 < len := by omega
    have hx : ((List.range len).map f)[j / 5]? = some (f (j / 5)) := by simp [hi]
    have h1 := rows_at ((List.range len).map f) (s := 5) (f := Act17.cells) (fun _ _ => rfl) (j / 5) (j % 5) (f (j / 5)) hx (by omega)
    rw [show j / 5 * 5 + j % 5 = j by omega, hj] at h1
    have h2 := (World.cells?_some (hfx (j / 5) hi)).2.2 (j % 5) (by omega)
    rw [addr_add, addr_add, show o + j / 5 * 5 + j % 5 = o + j by omega] at h2
    rw [h2, ← h1]
end Go.Proofs.Ytjhkhdockiocgaa
