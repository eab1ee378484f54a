/- The law OctetWrites: its argument, rows of items. -/
import Derived.Test.YtncgeeaifacapaaRow
import Derived.Test.YtncgeeaifacapaaL03w
import Derived.Lib.SmallJoins
namespace Go.Proofs.Ytncgeeaifacapaa
open Go.ChangeShapes Go.WideShapes Go.ChangeAt Go.RowKit Go.Cat

structure Itm where
  kind : Nat
  x : Nat
  width : Int
  s : List UInt8
def Itm.cells (i : Itm) : List Value := [.int .u8 i.kind, .int .u64 i.x, .int .i64 i.width, .string ⟨i.s.toArray⟩]
@[simp] theorem Itm.cells_length (i : Itm) : i.cells.length = 4 := rfl
def Itm.fits (i : Itm) : Prop := i.kind < 256 ∧ i.x < 18446744073709551616 ∧ -9223372036854775808 ≤ i.width ∧ i.width ≤ 9223372036854775807

theorem slice_addr {P : Program} {w : World} {base : Nat} {t e : TypeId} {x : Addr} {len cap : Nat} (ht : P.underlying t = some (.slice e)) (hok : Value.okWide P w .any base t (.slice (some x) len cap)) : ∃ b o, x = ⟨b, o, none⟩ ∧ b < w.heap.size := by
  simp only [Value.okWide, ht, Cell.okWide, Cell.ok, World.has] at hok
  obtain ⟨_, _, _, hs, row, cells, hsh, _⟩ := hok
  obtain ⟨b, o, s⟩ := x
  simp only at hs; subst hs
  refine ⟨b, o, rfl, ?_⟩
  simp only [World.shape?] at hsh
  cases hg : w.heap[b]? with
  | none => rw [hg] at hsh; cases hsh
  | some ob => exact (Array.getElem?_eq_some_iff.1 hg).1

set_option maxRecDepth 100000 in
theorem open_items {H : Type} {enc : TypeId × Value → H} {w : World} {base : Nat} {held : Bool} {v : Value} {d : DataW H} {ps : List MemPlace}
    (hok : Value.okWide Try.prog w .any base 71 v) (h : DataW.Trod enc Try.prog w 0 (fun _ => true) held 71 v d ps) :
    ∃ L : List Itm, Reads w 4 v L.length (L.flatMap Itm.cells) ∧ ∀ i ∈ L, i.fits := by
  obtain ⟨a, len, cap, rfl⟩ := WideShapes.okWide_slice Try.underlying71 hok
  obtain ⟨fuel, hf⟩ := h
  have hc4 : Try.prog.cellsOf 73 = 4 := by kernel_rfl
  have hu8 : Try.prog.cellsOf 5 = 1 := by kernel_rfl
  have hu64 : Try.prog.cellsOf 22 = 1 := by kernel_rfl
  have hi64 : Try.prog.cellsOf 3 = 1 := by kernel_rfl
  have hstr : Try.prog.cellsOf 9 = 1 := by kernel_rfl
  rcases Deep.open_slice Try.underlying71 hf with ⟨hcs, _⟩ | ⟨x, l, c, m, n, D, Pl, hcs, _, hl, hm, hmm, _, hrow⟩
  · simp [Value.cells] at hcs
    obtain ⟨rfl, rfl, rfl⟩ := hcs
    exact ⟨[], Reads.nil w 4, by simp⟩
  · simp [Value.cells] at hcs
    obtain ⟨rfl, rfl, rfl⟩ := hcs
    have hml : len ≤ m := by rw [hmm]; split <;> omega
    obtain ⟨b, o, rfl, hlt⟩ := slice_addr Try.underlying71 hok
    have hex : ∀ i, ∃ it : Itm, i < len → w.cells? 0 ((⟨b, o, none⟩ : Addr).add (i * 4)) 4 = some it.cells ∧ it.fits := by
      intro i
      by_cases hi : i < len
      · obtain ⟨cs, h1, h2⟩ := hrow i (by omega)
        rw [hc4] at h1
        obtain ⟨y0, y1, y2, y3, n', _, hl4, k0, k1, k2, k3⟩ := Go.Joins.trod_struct4 Try.underlying73 h2
        rw [hc4] at hl4
        match cs, hl4 with
        | [c0, c1, c2, c3], _ =>
          simp only [hu8, hu64, hi64, hstr, List.drop_zero, List.take_succ_cons, List.take_zero, List.drop_succ_cons] at k0 k1 k2 k3
          obtain ⟨n0, e0, _, b0⟩ := DataW.trod_int Try.underlying5 k0
          obtain ⟨n1, e1, _, b1⟩ := DataW.trod_int Try.underlying22 k1
          obtain ⟨n2, e2, _, b2⟩ := DataW.trod_int Try.underlying3 k2
          obtain ⟨ba, e3, _, _⟩ := DataW.trod_string Try.underlying9 k3
          simp only [List.cons.injEq, and_true] at e0 e1 e2 e3
          subst e0 e1 e2 e3
          have q0 := bnd_u8 b0
          have q1 := bnd_u64 b1
          have q2 := bnd_i64 b2
          obtain ⟨m0, rfl⟩ := Int.eq_ofNat_of_zero_le q0.1
          obtain ⟨m1, rfl⟩ := Int.eq_ofNat_of_zero_le q1.1
          exact ⟨⟨m0, m1, n2, ba.data.toList⟩, fun _ => ⟨h1, by show m0 < _; omega, by show m1 < _; omega, q2.1, q2.2⟩⟩
      · exact ⟨⟨0, 0, 0, []⟩, fun h => absurd h hi⟩
    obtain ⟨f, hfx⟩ := Classical.skolem.1 hex
    refine ⟨(List.range len).map f, ⟨rows_len _ (fun _ _ => rfl), .inr ⟨b, o, cap, by simp, by simp; omega, hm, hlt, fun j u hj => ?_⟩⟩, fun it hit => ?_⟩
    · have hjl := (List.getElem?_eq_some_iff.1 hj).1
      rw [rows_len (s := 4) _ (fun _ _ => rfl)] at hjl
      simp only [List.length_map, List.length_range] at hjl
      have hi : j / 4 < len := by omega
      have hx : ((List.range len).map f)[j / 4]? = some (f (j / 4)) := by simp [hi]
      have h1 := rows_at ((List.range len).map f) (s := 4) (f := Itm.cells) (fun _ _ => rfl) (j / 4) (j % 4) (f (j / 4)) hx (by omega)
      rw [show j / 4 * 4 + j % 4 = j by omega, hj] at h1
      have h2 := (World.cells?_some (hfx (j / 4) hi).1).2.2 (j % 4) (by omega)
      rw [addr_add, addr_add, show o + j / 4 * 4 + j % 4 = o + j by omega] at h2
      rw [h2, ← h1]
    · obtain ⟨i, hi, rfl⟩ := List.mem_map.1 hit
      exact (hfx i (List.mem_range.1 hi)).2
end Go.Proofs.Ytncgeeaifacapaa
