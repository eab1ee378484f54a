/- What a row's proof opens the acts of layer 11 by. -/
import Derived.Test.YtjhkhdockiocgaaRowAct
namespace Go.Proofs.Ytjhkhdockiocgaa
open Go.ChangeShapes Go.WideShapes Go.ChangeAt Go.RowKit Go.Cat
structure Act11 where
  kind : Int
  n : Int
  dv : Value
  data : List UInt8
  keep : Nat
  torn : Int
  bytes : Int
def Act11.cells (a : Act11) : List Value := [.int .i64 a.kind, .int .i64 a.n, a.dv, .int .u64 a.keep, .int .i64 a.torn, .int .i64 a.bytes]
@[simp] theorem Act11.cells_length (a : Act11) : a.cells.length = 6 := rfl
set_option maxRecDepth 100000 in
theorem open_acts11 {H : Type} {enc : TypeId × Value → H} {w : World} {base : Nat} {held : Bool} {v : Value} {d : DataW H} {ps : List MemPlace}
    (hok : Value.okWide Try.prog w .any base 76 v) (h : DataW.Trod enc Try.prog w 0 (fun _ => true) held 76 v d ps) :
    ∃ L : List Act11, Reads w 6 v L.length (L.flatMap Act11.cells) ∧ ∀ a ∈ L, RBz w a.dv a.data ∧ -9223372036854775808 ≤ a.n ∧ a.n ≤ 9223372036854775807 := by
  obtain ⟨a, len, cap, rfl⟩ := WideShapes.okWide_slice Try.underlying76 hok
  obtain ⟨fuel, hf⟩ := h
  have hc5 : Try.prog.cellsOf 78 = 6 := by kernel_rfl
  have hu8 : Try.prog.cellsOf 5 = 1 := by kernel_rfl
  have hu64 : Try.prog.cellsOf 44 = 1 := by kernel_rfl
  have hi64 : Try.prog.cellsOf 3 = 1 := by kernel_rfl
  have hsl : Try.prog.cellsOf 33 = 1 := by kernel_rfl
  rcases Deep.open_slice Try.underlying76 hf with ⟨hcs, _⟩ | ⟨x, l, c, m, n, D, Pl, hcs, _, hl, hm, hmm, _, hrow⟩
  · simp [Value.cells] at hcs
    obtain ⟨rfl, rfl, rfl⟩ := hcs
    exact ⟨[], Reads.nil w 6, by simp⟩
  · simp [Value.cells] at hcs
    obtain ⟨rfl, rfl, rfl⟩ := hcs
    have hml : len ≤ m := by rw [hmm]; split <;> omega
    obtain ⟨b, o, rfl, hlt⟩ := slice_addrA Try.underlying76 hok
    have hex : ∀ i, ∃ it : Act11, i < len → w.cells? 0 ((⟨b, o, none⟩ : Addr).add (i * 6)) 6 = some it.cells ∧ RBz w it.dv it.data ∧ -9223372036854775808 ≤ it.n ∧ it.n ≤ 9223372036854775807 := by
      intro i
      by_cases hi : i < len
      · obtain ⟨cs, h1, h2⟩ := hrow i (by omega)
        rw [hc5] at h1
        obtain ⟨n', hl5, hn⟩ := trod_fieldA Try.underlying78 h2
        obtain ⟨y0, k0⟩ := hn 0 _ rfl
        obtain ⟨y1, k1⟩ := hn 1 _ rfl
        obtain ⟨y2, k2⟩ := hn 2 _ rfl
        obtain ⟨y3, k3⟩ := hn 3 _ rfl
        obtain ⟨y4, k4⟩ := hn 4 _ rfl
        obtain ⟨y5, k5⟩ := hn 5 _ rfl
        clear hn
        rw [hc5] at hl5
        match cs, hl5 with
        | [c0, c1, c2, c3, c4, c5], _ =>
          simp only [List.getElem_toArray, List.getElem_cons_zero, List.getElem_cons_succ, hu8, hu64, hi64, hsl, List.drop_zero, List.take_succ_cons, List.take_zero, List.drop_succ_cons] at k0 k1 k2 k3 k4 k5
          obtain ⟨n0, e0, _, b0⟩ := DataW.trod_int Try.underlying3 k0
          obtain ⟨n1, e1, _, b1⟩ := DataW.trod_int Try.underlying3 k1
          obtain ⟨n3, e3, _, b3⟩ := DataW.trod_int Try.underlying44 k3
          obtain ⟨n4, e4, _, b4⟩ := DataW.trod_int Try.underlying3 k4
          obtain ⟨n5, e5, _, b5⟩ := DataW.trod_int Try.underlying3 k5
          simp only [List.cons.injEq, and_true] at e0 e1 e3 e4 e5
          subst e0 e1 e3 e4 e5
          obtain ⟨l, hl⟩ := trod_rbz Try.underlying33 Try.underlying5 hu8 k2
          have q3 := bnd_u64 b3
          obtain ⟨m3, rfl⟩ := Int.eq_ofNat_of_zero_le q3.1
          have w1 := bnd_i64 b1
          exact ⟨⟨n0, n1, c2, l, m3, n4, n5⟩, fun _ => ⟨h1, hl, w1⟩⟩
      · exact ⟨⟨0, 0, undef, [], 0, 0, 0⟩, fun h => absurd h hi⟩
    obtain ⟨f, hfx⟩ := Classical.skolem.1 hex
    refine ⟨(List.range len).map f, ⟨rows_len _ (fun _ _ => rfl), .inr ⟨b, o, cap, by simp, by simp; omega, hm, hlt, fun j u hj => ?_⟩⟩, fun it hit => ?_⟩
    · have hjl := (List.getElem?_eq_some_iff.1 hj).1
      rw [rows_len (s := 6) _ (fun _ _ => rfl)] at hjl
      simp only [List.length_map, List.length_range] at hjl
      have hi : j / 6 < len := by omega
      have hx : ((List.range len).map f)[j / 6]? = some (f (j / 6)) := by simp [hi]
      have h1 := rows_at ((List.range len).map f) (s := 6) (f := Act11.cells) (fun _ _ => rfl) (j / 6) (j % 6) (f (j / 6)) hx (by omega)
      rw [show j / 6 * 6 + j % 6 = j by omega, hj] at h1
      have h2 := (World.cells?_some (hfx (j / 6) hi).1).2.2 (j % 6) (by omega)
      rw [addr_add, addr_add, show o + j / 6 * 6 + j % 6 = o + j by omega] at h2
      rw [h2, ← h1]
    · obtain ⟨i, hi, rfl⟩ := List.mem_map.1 hit
      exact (hfx i (List.mem_range.1 hi)).2
end Go.Proofs.Ytjhkhdockiocgaa
