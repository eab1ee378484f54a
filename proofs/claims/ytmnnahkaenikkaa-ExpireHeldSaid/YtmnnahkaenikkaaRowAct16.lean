/- What a row's proof opens the acts of layer 16 by. -/
import Derived.Test.YtmnnahkaenikkaaRow
import Derived.Lib.SmallJoins
import Derived.Test.YtmnnahkaenikkaaAct16
namespace Go.Proofs.Ytmnnahkaenikkaa
open Go.ChangeShapes Go.WideShapes Go.ChangeAt Go.RowKit Go.Cat

theorem trod_fieldB {H : Type} {enc : TypeId × Value → H} {P : Program} {w : World} {base : Nat} {spare : Nat → Bool} {held : Bool} {fuel : Nat} {t : TypeId} {fs : Array Field} {cs : List Value} {x : DataW H × List MemPlace} (ht : P.underlying t = some (.struct fs)) (h : DataW.trod enc P w base spare held fuel t cs = some x) :
    ∃ n, cs.length = P.cellsOf t ∧ ∀ (i : Nat) (f : Field), fs[i]? = some f → ∃ y, DataW.trod enc P w base spare held n f.type ((cs.drop f.offset).take (P.cellsOf f.type)) = some y := by
  obtain ⟨xs, n, _, _, hl, hlen, hf⟩ := DataW.trod_struct ht h
  refine ⟨n, hl, fun i f hi => ?_⟩
  have hl := (Array.getElem?_eq_some_iff.1 hi).1
  exact ⟨xs[i]'(by omega), by rw [hf i f hi]; exact List.getElem?_eq_getElem (by omega)⟩
theorem slice_addrB {P : Program} {w : World} {base : Nat} {t e : TypeId} {x : Addr} {len cap : Nat} (ht : P.underlying t = some (.slice e)) (hok : Value.okWide P w .any base t (.slice (some x) len cap)) : ∃ b o, x = ⟨b, o, none⟩ ∧ b < w.heap.size := by
  simp only [Value.okWide, ht, Cell.okWide, Cell.ok, World.has] at hok
  obtain ⟨_, _, _, hs, row, cells, hsh, _⟩ := hok
  obtain ⟨b, o, s⟩ := x
  simp only at hs; subst hs
  refine ⟨b, o, rfl, ?_⟩
  simp only [World.shape?] at hsh
  cases hg : w.heap[b]? with
  | none => rw [hg] at hsh; cases hsh
  | some ob => exact (Array.getElem?_eq_some_iff.1 hg).1

set_option maxRecDepth 100000 in
theorem trod_ptsz {H : Type} {enc : TypeId × Value → H} {w : World} {held : Bool} {fuel : Nat} {c : Value} {x : DataW H × List MemPlace}
    (hf : DataW.trod enc Try.prog w 0 (fun _ => true) held fuel 49 [c] = some x) : ∃ l, PtsZ w c l ∧ ∀ p ∈ l, in64 p.val := by
  have hc2 : Try.prog.cellsOf 32 = 2 := by kernel_rfl
  have hi64 : Try.prog.cellsOf 2 = 1 := by kernel_rfl
  rcases Deep.open_slice Try.underlying49 hf with ⟨hcs, _⟩ | ⟨x, len, cap, m, n, D, Pl, hcs, _, hl, hm, hmm, _, hrow⟩
  · simp at hcs
    subst hcs
    exact ⟨[], .inl (Reads.nil w 2), by simp⟩
  · simp at hcs
    subst hcs
    have hml : len ≤ m := by rw [hmm]; split <;> omega
    rcases Nat.eq_zero_or_pos len with h0 | h0
    · subst h0
      exact ⟨[], .inr ⟨rfl, _, _, rfl⟩, by simp⟩
    · obtain ⟨b, o, s⟩ := x
      obtain ⟨cs0, h1, h2⟩ := hrow 0 (by omega)
      rw [hc2] at h1
      obtain ⟨_, _, _, _, hlz, _, _⟩ := trod_struct2 Try.underlying32 h2
      rw [hc2] at hlz
      obtain ⟨u0, u1, rfl⟩ : ∃ u0 u1, cs0 = [u0, u1] := by
        match cs0, hlz with
        | [a, b], _ => exact ⟨a, b, rfl⟩
      have hc0 : w.cell? (((⟨b, o, s⟩ : Addr).add (0 * 2)).add 0) = some u0 := (World.cells?_some h1).2.2 0 (by omega)
      have hspot : s = none := by
        have := World.cell?_spot hc0
        simpa [Addr.add] using this
      subst hspot
      have hlt : b < w.heap.size := by
        have := World.block_lt_of_cell? w _ hc0
        simpa [addr_add] using this
      have hex : ∀ i, ∃ it : Pt, in64 it.val ∧ (i < len → w.cells? 0 ((⟨b, o, none⟩ : Addr).add (i * 2)) 2 = some it.cells) := by
        intro i
        by_cases hi : i < len
        · obtain ⟨cs, h1, h2⟩ := hrow i (by omega)
          rw [hc2] at h1
          obtain ⟨z0, z1, m', _, hl2, l0, l1⟩ := trod_struct2 Try.underlying32 h2
          rw [hc2] at hl2
          match cs, hl2 with
          | [c0, c1], _ =>
            simp only [hi64, List.drop_zero, List.take_succ_cons, List.take_zero, List.drop_succ_cons] at l0 l1
            obtain ⟨n2, e2, _, b2⟩ := DataW.trod_int Try.underlying2 l0
            obtain ⟨n3, e3, _, b3⟩ := DataW.trod_int Try.underlying2 l1
            simp only [List.cons.injEq, and_true] at e2 e3
            subst e2 e3
            exact ⟨⟨n2, n3⟩, bnd_i64 b3, fun _ => h1⟩
        · exact ⟨⟨0, 0⟩, c0_64, fun h => absurd h hi⟩
      obtain ⟨f, hfx⟩ := Classical.skolem.1 hex
      refine ⟨(List.range len).map f, .inl ⟨rows_len _ (fun _ _ => rfl), .inr ⟨b, o, cap, by simp, by simp; omega, hm, hlt, fun j u hj => ?_⟩⟩, fun p hp => ?_⟩
      · have hjl := (List.getElem?_eq_some_iff.1 hj).1
        rw [rows_len (s := 2) _ (fun _ _ => rfl)] at hjl
        simp only [List.length_map, List.length_range] at hjl
        have hi : j / 2 < len := by omega
        have hx : ((List.range len).map f)[j / 2]? = some (f (j / 2)) := by simp [hi]
        have h1 := rows_at ((List.range len).map f) (s := 2) (f := Pt.cells) (fun _ _ => rfl) (j / 2) (j % 2) (f (j / 2)) hx (by omega)
        rw [show j / 2 * 2 + j % 2 = j by omega, hj] at h1
        have h2 := (World.cells?_some ((hfx (j / 2)).2 hi)).2.2 (j % 2) (by omega)
        rw [addr_add, addr_add, show o + j / 2 * 2 + j % 2 = o + j by omega] at h2
        rw [h2, ← h1]
      · obtain ⟨i, _, rfl⟩ := List.mem_map.1 hp
        exact (hfx i).1
set_option maxRecDepth 100000 in
theorem open_acts16 {H : Type} {enc : TypeId × Value → H} {w : World} {base : Nat} {held : Bool} {v : Value} {d : DataW H} {ps : List MemPlace}
    (hok : Value.okWide Try.prog w .any base 22 v) (h : DataW.Trod enc Try.prog w 0 (fun _ => true) held 22 v d ps) :
    ∃ L : List Act16, Acts16 w v L ∧ L.length ≤ 9223372036854775807 := by
  obtain ⟨a, len, cap, rfl⟩ := WideShapes.okWide_slice Try.underlying22 hok
  obtain ⟨fuel, hf⟩ := h
  have hc5 : Try.prog.cellsOf 72 = 5 := by kernel_rfl
  have hint : Try.prog.cellsOf 3 = 1 := by kernel_rfl
  have hi64 : Try.prog.cellsOf 2 = 1 := by kernel_rfl
  have hsl : Try.prog.cellsOf 49 = 1 := by kernel_rfl
  have hr2 : Try.prog.cellsOf 24 = 2 := by kernel_rfl
  rcases Deep.open_slice Try.underlying22 hf with ⟨hcs, _⟩ | ⟨x, l, c, m, n, D, Pl, hcs, _, hl, hm, hmm, _, hrow⟩
  · simp [Value.cells] at hcs
    obtain ⟨rfl, rfl, rfl⟩ := hcs
    exact ⟨[], ⟨Reads.nil w 5, by simp, by simp, by simp⟩, by simp⟩
  · simp [Value.cells] at hcs
    obtain ⟨rfl, rfl, rfl⟩ := hcs
    have hml : len ≤ m := by rw [hmm]; split <;> omega
    obtain ⟨b, o, rfl, hlt⟩ := slice_addrB Try.underlying22 hok
    have hex : ∀ i, ∃ it : Act16, i < len → w.cells? 0 ((⟨b, o, none⟩ : Addr).add (i * 5)) 5 = some it.cells ∧ PtsZ w it.lv it.l ∧ in64 it.at_ ∧ ∀ p ∈ it.l, in64 p.val := by
      intro i
      by_cases hi : i < len
      · obtain ⟨cs, h1, h2⟩ := hrow i (by omega)
        rw [hc5] at h1
        obtain ⟨n', hl5, hn⟩ := trod_fieldB Try.underlying72 h2
        obtain ⟨y0, k0⟩ := hn 0 _ rfl
        obtain ⟨y1, k1⟩ := hn 1 _ rfl
        obtain ⟨y2, k2⟩ := hn 2 _ rfl
        obtain ⟨y3, k3⟩ := hn 3 _ rfl
        clear hn
        rw [hc5] at hl5
        match cs, hl5 with
        | [c0, c1, c2, c3, c4], _ =>
          simp only [List.getElem_toArray, List.getElem_cons_zero, List.getElem_cons_succ, hint, hi64, hsl, hr2, List.drop_zero, List.take_succ_cons, List.take_zero, List.drop_succ_cons] at k0 k1 k2 k3
          obtain ⟨n0, e0, _, _⟩ := DataW.trod_int Try.underlying3 k0
          obtain ⟨n1, e1, _, b1⟩ := DataW.trod_int Try.underlying2 k1
          obtain ⟨z0, z1, m', _, _, l0, l1⟩ := trod_struct2 Try.underlying24 k3
          simp only [hi64, List.drop_zero, List.take_succ_cons, List.take_zero, List.drop_succ_cons] at l0 l1
          obtain ⟨n3, e3, _, _⟩ := DataW.trod_int Try.underlying2 l0
          obtain ⟨n4, e4, _, _⟩ := DataW.trod_int Try.underlying2 l1
          simp only [List.cons.injEq, and_true] at e0 e1 e3 e4
          subst e0 e1 e3 e4
          obtain ⟨l, hl, hv⟩ := trod_ptsz k2
          exact ⟨⟨n0, n1, c2, l, n3, n4⟩, fun _ => ⟨h1, hl, bnd_i64 b1, hv⟩⟩
      · exact ⟨⟨0, 0, undef, [], 0, 0⟩, fun h => absurd h hi⟩
    obtain ⟨f, hfx⟩ := Classical.skolem.1 hex
    refine ⟨(List.range len).map f, ⟨⟨rows_len _ (fun _ _ => rfl), .inr ⟨b, o, cap, by simp, by simp; omega, hm, hlt, fun j u hj => ?_⟩⟩, ?_, ?_, ?_⟩, by simp; simp only [maxLen] at hm; omega⟩
    · have hjl := (List.getElem?_eq_some_iff.1 hj).1
      rw [rows_len (s := 5) _ (fun _ _ => rfl)] at hjl
      simp only [List.length_map, List.length_range] at hjl
      have hi : j / 5 < len := by omega
      have hx : ((List.range len).map f)[j / 5]? = some (f (j / 5)) := by simp [hi]
      have h1 := rows_at ((List.range len).map f) (s := 5) (f := Act16.cells) (fun _ _ => rfl) (j / 5) (j % 5) (f (j / 5)) hx (by omega)
      rw [show j / 5 * 5 + j % 5 = j by omega, hj] at h1
      have h2 := (World.cells?_some (hfx (j / 5) hi).1).2.2 (j % 5) (by omega)
      rw [addr_add, addr_add, show o + j / 5 * 5 + j % 5 = o + j by omega] at h2
      rw [h2, ← h1]
    · intro it hit
      obtain ⟨i, hi, rfl⟩ := List.mem_map.1 hit
      exact (hfx i (List.mem_range.1 hi)).2.1
    · intro it hit
      obtain ⟨i, hi, rfl⟩ := List.mem_map.1 hit
      exact (hfx i (List.mem_range.1 hi)).2.2.1
    · intro it hit
      obtain ⟨i, hi, rfl⟩ := List.mem_map.1 hit
      exact (hfx i (List.mem_range.1 hi)).2.2.2
theorem okWide_rowB {P : Program} {w : World} {r : Reach} {base : Nat} {t : TypeId} {fs : Array Field} {v : Value} (hs : P.underlying t = some (.struct fs)) (hv : Value.okWide P w r base t v) : ∃ cs, v = .agg cs ∧ cs.size = P.cellsOf t ∧ Row.okWide P w r base t cs := by
  unfold Value.okWide at hv
  rw [hs] at hv
  exact hv
set_option maxRecDepth 100000 in
theorem open_rng {H : Type} {enc : TypeId × Value → H} {w : World} {base : Nat} {held : Bool} {v : Value} {d : DataW H} {ps : List MemPlace}
    (hok : Value.okWide Try.prog w .any base 24 v) (h : DataW.Trod enc Try.prog w 0 (fun _ => true) held 24 v d ps) :
    ∃ lo hi : Int, v = .agg #[.int .i64 lo, .int .i64 hi] ∧ (-9223372036854775808 ≤ lo ∧ lo ≤ 9223372036854775807) ∧ (-9223372036854775808 ≤ hi ∧ hi ≤ 9223372036854775807) := by
  obtain ⟨cs, rfl, hsz, hrow⟩ := okWide_rowB Try.underlying24 hok
  have hc2 : Try.prog.cellsOf 24 = 2 := by kernel_rfl
  have hu1 : Try.prog.cellsOf 2 = 1 := by kernel_rfl
  rw [hc2] at hsz
  obtain ⟨c0, c1, rfl⟩ : ∃ c0 c1, cs = #[c0, c1] := by
    obtain ⟨l⟩ := cs
    match l, hsz with
    | [a, b], _ => exact ⟨a, b, rfl⟩
  obtain ⟨fuel, hf⟩ := h
  obtain ⟨z0, z1, m, hz, _, k0, k1⟩ := trod_struct2 Try.underlying24 hf
  simp only [hu1, Value.cells, List.drop_zero, List.take_succ_cons, List.take_zero, List.drop_succ_cons] at k0 k1
  obtain ⟨T, e0, _, b0⟩ := DataW.trod_int Try.underlying2 k0
  obtain ⟨P, e1, _, b1⟩ := DataW.trod_int Try.underlying2 k1
  simp only [List.cons.injEq, and_true] at e0 e1
  subst e0 e1
  exact ⟨T, P, rfl, bnd_i64 b0, bnd_i64 b1⟩
end Go.Proofs.Ytmnnahkaenikkaa
