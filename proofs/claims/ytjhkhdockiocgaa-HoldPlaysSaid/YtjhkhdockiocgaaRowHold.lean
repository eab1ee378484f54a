/- What a row's proof opens rows of holds by. -/
import Derived.Test.YtjhkhdockiocgaaRow
import Derived.Test.YtjhkhdockiocgaaHold1
import Derived.Lib.SmallJoins
import Derived.Deep.Strs
namespace Go.Proofs.Ytjhkhdockiocgaa
open Go.ChangeShapes Go.WideShapes Go.ChangeAt Go.RowKit Go.Cat

theorem slice_addrh {P : Program} {w : World} {base : Nat} {t e : TypeId} {x : Addr} {len cap : Nat} (ht : P.underlying t = some (.slice e)) (hok : Value.okWide P w .any base t (.slice (some x) len cap)) : ∃ b o, x = ⟨b, o, none⟩ ∧ b < w.heap.size := by
  simp only [Value.okWide, ht, Cell.okWide, Cell.ok, World.has] at hok
  obtain ⟨_, _, _, hs, row, cells, hsh, _⟩ := hok
  obtain ⟨b, o, s⟩ := x
  simp only at hs; subst hs
  refine ⟨b, o, rfl, ?_⟩
  simp only [World.shape?] at hsh
  cases hg : w.heap[b]? with
  | none => rw [hg] at hsh; cases hsh
  | some ob => exact (Array.getElem?_eq_some_iff.1 hg).1

set_option maxRecDepth 100000 in
theorem open_holds {H : Type} {enc : TypeId × Value → H} {w : World} {base : Nat} {held : Bool} {v : Value} {d : DataW H} {ps : List MemPlace}
    (hok : Value.okWide Try.prog w .any base 89 v) (h : DataW.Trod enc Try.prog w 0 (fun _ => true) held 89 v d ps) :
    ∃ L : List Hld, Reads w 4 v L.length (L.flatMap Hld.cells) := by
  obtain ⟨a, len, cap, rfl⟩ := WideShapes.okWide_slice Try.underlying89 hok
  obtain ⟨fuel, hf⟩ := h
  have hc4 : Try.prog.cellsOf 28 = 4 := by kernel_rfl
  have hr2 : Try.prog.cellsOf 24 = 2 := by kernel_rfl
  have hi64 : Try.prog.cellsOf 2 = 1 := by kernel_rfl
  have hstr : Try.prog.cellsOf 9 = 1 := by kernel_rfl
  rcases Deep.open_slice Try.underlying89 hf with ⟨hcs, _⟩ | ⟨x, l, c, m, n, D, Pl, hcs, _, hl, hm, hmm, _, hrow⟩
  · simp [Value.cells] at hcs
    obtain ⟨rfl, rfl, rfl⟩ := hcs
    exact ⟨[], Reads.nil w 4⟩
  · simp [Value.cells] at hcs
    obtain ⟨rfl, rfl, rfl⟩ := hcs
    have hml : len ≤ m := by rw [hmm]; split <;> omega
    obtain ⟨b, o, rfl, hlt⟩ := slice_addrh Try.underlying89 hok
    have hex : ∀ i, ∃ it : Hld, i < len → w.cells? 0 ((⟨b, o, none⟩ : Addr).add (i * 4)) 4 = some it.cells := by
      intro i
      by_cases hi : i < len
      · obtain ⟨cs, h1, h2⟩ := hrow i (by omega)
        rw [hc4] at h1
        obtain ⟨y0, y1, y2, n', _, hl4, k0, k1, k2⟩ := Deep.trod_struct3 Try.underlying28 h2
        rw [hc4] at hl4
        match cs, hl4 with
        | [c0, c1, c2, c3], _ =>
          simp only [hr2, hstr, List.drop_zero, List.take_succ_cons, List.take_zero, List.drop_succ_cons] at k0 k1 k2
          obtain ⟨z0, z1, m', _, _, l0, l1⟩ := trod_struct2 Try.underlying24 k2
          simp only [hi64, List.drop_zero, List.take_succ_cons, List.take_zero, List.drop_succ_cons] at l0 l1
          obtain ⟨ba, e0, _, _⟩ := DataW.trod_string Try.underlying9 k0
          obtain ⟨bb, e1, _, _⟩ := DataW.trod_string Try.underlying9 k1
          obtain ⟨n2, e2, _, _⟩ := DataW.trod_int Try.underlying2 l0
          obtain ⟨n3, e3, _, _⟩ := DataW.trod_int Try.underlying2 l1
          simp only [List.cons.injEq, and_true] at e0 e1 e2 e3
          subst e0 e1 e2 e3
          exact ⟨⟨ba.data.toList, bb.data.toList, n2, n3⟩, fun _ => h1⟩
      · exact ⟨⟨[], [], 0, 0⟩, fun h => absurd h hi⟩
    obtain ⟨f, hfx⟩ := Classical.skolem.1 hex
    refine ⟨(List.range len).map f, ⟨rows_len _ (fun _ _ => rfl), .inr ⟨b, o, cap, by simp, by simp; omega, hm, hlt, fun j u hj => ?_⟩⟩⟩
    · have hjl := (List.getElem?_eq_some_iff.1 hj).1
      rw [rows_len (s := 4) _ (fun _ _ => rfl)] at hjl
      simp only [List.length_map, List.length_range] at hjl
      have hi : j / 4 < len := by omega
      have hx : ((List.range len).map f)[j / 4]? = some (f (j / 4)) := by simp [hi]
      have h1 := rows_at ((List.range len).map f) (s := 4) (f := Hld.cells) (fun _ _ => rfl) (j / 4) (j % 4) (f (j / 4)) hx (by omega)
      rw [show j / 4 * 4 + j % 4 = j by omega, hj] at h1
      have h2 := (World.cells?_some (hfx (j / 4) hi)).2.2 (j % 4) (by omega)
      rw [addr_add, addr_add, show o + j / 4 * 4 + j % 4 = o + j by omega] at h2
      rw [h2, ← h1]
end Go.Proofs.Ytjhkhdockiocgaa
