/- What a row's proof opens the acts of layer 10 by. -/
import Derived.Test.YtjhkhdockiocgaaRow
import Derived.Lib.SmallJoins
import Derived.Test.YtjhkhdockiocgaaOctet
namespace Go.Proofs.Ytjhkhdockiocgaa
open Go.ChangeShapes Go.WideShapes Go.ChangeAt Go.RowKit Go.Cat

theorem trod_fieldA {H : Type} {enc : TypeId × Value → H} {P : Program} {w : World} {base : Nat} {spare : Nat → Bool} {held : Bool} {fuel : Nat} {t : TypeId} {fs : Array Field} {cs : List Value} {x : DataW H × List MemPlace} (ht : P.underlying t = some (.struct fs)) (h : DataW.trod enc P w base spare held fuel t cs = some x) :
    ∃ n, cs.length = P.cellsOf t ∧ ∀ (i : Nat) (f : Field), fs[i]? = some f → ∃ y, DataW.trod enc P w base spare held n f.type ((cs.drop f.offset).take (P.cellsOf f.type)) = some y := by
  obtain ⟨xs, n, _, _, hl, hlen, hf⟩ := DataW.trod_struct ht h
  refine ⟨n, hl, fun i f hi => ?_⟩
  have hl := (Array.getElem?_eq_some_iff.1 hi).1
  exact ⟨xs[i]'(by omega), by rw [hf i f hi]; exact List.getElem?_eq_getElem (by omega)⟩
theorem slice_addrA {P : Program} {w : World} {base : Nat} {t e : TypeId} {x : Addr} {len cap : Nat} (ht : P.underlying t = some (.slice e)) (hok : Value.okWide P w .any base t (.slice (some x) len cap)) : ∃ b o, x = ⟨b, o, none⟩ ∧ b < w.heap.size := by
  simp only [Value.okWide, ht, Cell.okWide, Cell.ok, World.has] at hok
  obtain ⟨_, _, _, hs, row, cells, hsh, _⟩ := hok
  obtain ⟨b, o, s⟩ := x
  simp only at hs; subst hs
  refine ⟨b, o, rfl, ?_⟩
  simp only [World.shape?] at hsh
  cases hg : w.heap[b]? with
  | none => rw [hg] at hsh; cases hsh
  | some ob => exact (Array.getElem?_eq_some_iff.1 hg).1
/-- A slice of bytes inside an argument. -/
theorem trod_rbz {H : Type} {enc : TypeId × Value → H} {P : Program} {w : World} {held : Bool} {fuel : Nat} {t e : TypeId} {c : Value} {x : DataW H × List MemPlace} (ht : P.underlying t = some (.slice e)) (he : P.underlying e = some (.int .u8)) (hc : P.cellsOf e = 1)
    (hf : DataW.trod enc P w 0 (fun _ => true) held fuel t [c] = some x) : ∃ l, RBz w c l := by
  rcases ChangeShapes.open_ints ht he hc hf with ⟨hcs, _⟩ | ⟨x, len, cap, zs, hcs, _, hl, hm, hz, _, hcell, hwz⟩
  · simp at hcs
    subst hcs
    exact ⟨[], .inl (RB.nil w)⟩
  · simp at hcs
    subst hcs
    rcases Nat.eq_zero_or_pos cap with h0 | h0
    · subst h0
      obtain rfl : len = 0 := by omega
      exact ⟨[], .inr ⟨rfl, _, rfl⟩⟩
    · have hz' : zs.length = cap := by simpa using hz
      obtain ⟨b, o, s⟩ := x
      have hc0 := hcell 0 (by omega)
      have hspot : s = none := by simpa [Addr.add] using World.cell?_spot hc0
      subst hspot
      have hc0' := hc0
      rw [addr_add] at hc0'
      have hll : ((zs.take len).map fun n => UInt8.ofNat n.toNat).length = len := by simp; omega
      refine ⟨(zs.take len).map fun n => UInt8.ofNat n.toNat, .inl ⟨by simp, .inr ⟨b, o, cap, by rw [hll], by omega, hm, World.block_lt_of_cell? w _ hc0', ?_⟩⟩⟩
      intro j u hj
      have hj' : j < len := by
        have := (List.getElem?_eq_some_iff.1 hj).1
        simp only [bs_length] at this; omega
      have h1 := hcell j (by omega)
      rw [addr_add] at h1
      rw [h1]
      have hb := bnd_u8 (hwz (zs[j]'(by omega)) (List.getElem_mem _))
      rw [← hj, bs_get _ j (by omega)]
      simp only [List.getElem_map, List.getElem_take, List.getD_eq_getElem?_getD, List.getElem?_eq_getElem (show j < zs.length by omega), Option.getD_some]
      congr 2
      rw [UInt8.toNat_ofNat']
      omega
structure Act10 where
  kind : Int
  dv : Value
  data : List UInt8
  keep : Nat
  torn : Int
  bytes : Int
def Act10.cells (a : Act10) : List Value := [.int .i64 a.kind, a.dv, .int .u64 a.keep, .int .i64 a.torn, .int .i64 a.bytes]
@[simp] theorem Act10.cells_length (a : Act10) : a.cells.length = 5 := rfl
set_option maxRecDepth 100000 in
theorem open_acts10 {H : Type} {enc : TypeId × Value → H} {w : World} {base : Nat} {held : Bool} {v : Value} {d : DataW H} {ps : List MemPlace}
    (hok : Value.okWide Try.prog w .any base 61 v) (h : DataW.Trod enc Try.prog w 0 (fun _ => true) held 61 v d ps) :
    ∃ L : List Act10, Reads w 5 v L.length (L.flatMap Act10.cells) ∧ ∀ a ∈ L, RBz w a.dv a.data := by
  obtain ⟨a, len, cap, rfl⟩ := WideShapes.okWide_slice Try.underlying61 hok
  obtain ⟨fuel, hf⟩ := h
  have hc5 : Try.prog.cellsOf 63 = 5 := by kernel_rfl
  have hu8 : Try.prog.cellsOf 5 = 1 := by kernel_rfl
  have hu64 : Try.prog.cellsOf 44 = 1 := by kernel_rfl
  have hi64 : Try.prog.cellsOf 3 = 1 := by kernel_rfl
  have hsl : Try.prog.cellsOf 33 = 1 := by kernel_rfl
  rcases Deep.open_slice Try.underlying61 hf with ⟨hcs, _⟩ | ⟨x, l, c, m, n, D, Pl, hcs, _, hl, hm, hmm, _, hrow⟩
  · simp [Value.cells] at hcs
    obtain ⟨rfl, rfl, rfl⟩ := hcs
    exact ⟨[], Reads.nil w 5, by simp⟩
  · simp [Value.cells] at hcs
    obtain ⟨rfl, rfl, rfl⟩ := hcs
    have hml : len ≤ m := by rw [hmm]; split <;> omega
    obtain ⟨b, o, rfl, hlt⟩ := slice_addrA Try.underlying61 hok
    have hex : ∀ i, ∃ it : Act10, i < len → w.cells? 0 ((⟨b, o, none⟩ : Addr).add (i * 5)) 5 = some it.cells ∧ RBz w it.dv it.data := by
      intro i
      by_cases hi : i < len
      · obtain ⟨cs, h1, h2⟩ := hrow i (by omega)
        rw [hc5] at h1
        obtain ⟨n', hl5, hn⟩ := trod_fieldA Try.underlying63 h2
        obtain ⟨y0, k0⟩ := hn 0 _ rfl
        obtain ⟨y1, k1⟩ := hn 1 _ rfl
        obtain ⟨y2, k2⟩ := hn 2 _ rfl
        obtain ⟨y3, k3⟩ := hn 3 _ rfl
        obtain ⟨y4, k4⟩ := hn 4 _ rfl
        clear hn
        rw [hc5] at hl5
        match cs, hl5 with
        | [c0, c1, c2, c3, c4], _ =>
          simp only [List.getElem_toArray, List.getElem_cons_zero, List.getElem_cons_succ, hu8, hu64, hi64, hsl, List.drop_zero, List.take_succ_cons, List.take_zero, List.drop_succ_cons] at k0 k1 k2 k3 k4
          obtain ⟨n0, e0, _, b0⟩ := DataW.trod_int Try.underlying3 k0
          obtain ⟨n2, e2, _, b2⟩ := DataW.trod_int Try.underlying44 k2
          obtain ⟨n3, e3, _, b3⟩ := DataW.trod_int Try.underlying3 k3
          obtain ⟨n4, e4, _, b4⟩ := DataW.trod_int Try.underlying3 k4
          simp only [List.cons.injEq, and_true] at e0 e2 e3 e4
          subst e0 e2 e3 e4
          obtain ⟨l, hl⟩ := trod_rbz Try.underlying33 Try.underlying5 hu8 k1
          have q2 := bnd_u64 b2
          obtain ⟨m2, rfl⟩ := Int.eq_ofNat_of_zero_le q2.1
          exact ⟨⟨n0, c1, l, m2, n3, n4⟩, fun _ => ⟨h1, hl⟩⟩
      · exact ⟨⟨0, undef, [], 0, 0, 0⟩, fun h => absurd h hi⟩
    obtain ⟨f, hfx⟩ := Classical.skolem.1 hex
    refine ⟨(List.range len).map f, ⟨rows_len _ (fun _ _ => rfl), .inr ⟨b, o, cap, by simp, by simp; omega, hm, hlt, fun j u hj => ?_⟩⟩, fun it hit => ?_⟩
    · have hjl := (List.getElem?_eq_some_iff.1 hj).1
      rw [rows_len (s := 5) _ (fun _ _ => rfl)] at hjl
      simp only [List.length_map, List.length_range] at hjl
      have hi : j / 5 < len := by omega
      have hx : ((List.range len).map f)[j / 5]? = some (f (j / 5)) := by simp [hi]
      have h1 := rows_at ((List.range len).map f) (s := 5) (f := Act10.cells) (fun _ _ => rfl) (j / 5) (j % 5) (f (j / 5)) hx (by omega)
      rw [show j / 5 * 5 + j % 5 = j by omega, hj] at h1
      have h2 := (World.cells?_some (hfx (j / 5) hi).1).2.2 (j % 5) (by omega)
      rw [addr_add, addr_add, show o + j / 5 * 5 + j % 5 = o + j by omega] at h2
      rw [h2, ← h1]
    · obtain ⟨i, hi, rfl⟩ := List.mem_map.1 hit
      exact (hfx i (List.mem_range.1 hi)).2
end Go.Proofs.Ytjhkhdockiocgaa
