/- What a row's proof opens its arguments by. No program is named. -/
import Derived.Test.YtmnnahkaenikkaaArr
import Derived.Deep.Matrix
import Derived.ProofKit
import Derived.OpenShut
import Derived.ShutString
import Derived.ChangeOld
namespace Go.Cat
open Go.RowKit
theorem bnd_u64 {n : Int} (h : (Lit.int .u64 n).wf = true) : 0 ≤ n ∧ n < 18446744073709551616 := by
  have e1 : IntKind.u64.min = 0 := by decide
  have e2 : IntKind.u64.max = 18446744073709551615 := by decide
  have h' : IntKind.u64.min ≤ n ∧ n ≤ IntKind.u64.max := by simpa [Lit.wf] using h
  omega
theorem bnd_u32 {n : Int} (h : (Lit.int .u32 n).wf = true) : 0 ≤ n ∧ n < 4294967296 := by
  have e1 : IntKind.u32.min = 0 := by decide
  have e2 : IntKind.u32.max = 4294967295 := by decide
  have h' : IntKind.u32.min ≤ n ∧ n ≤ IntKind.u32.max := by simpa [Lit.wf] using h
  omega
theorem bnd_u16 {n : Int} (h : (Lit.int .u16 n).wf = true) : 0 ≤ n ∧ n < 65536 := by
  have e1 : IntKind.u16.min = 0 := by decide
  have e2 : IntKind.u16.max = 65535 := by decide
  have h' : IntKind.u16.min ≤ n ∧ n ≤ IntKind.u16.max := by simpa [Lit.wf] using h
  omega
theorem bnd_u8 {n : Int} (h : (Lit.int .u8 n).wf = true) : 0 ≤ n ∧ n < 256 := by
  have e1 : IntKind.u8.min = 0 := by decide
  have e2 : IntKind.u8.max = 255 := by decide
  have h' : IntKind.u8.min ≤ n ∧ n ≤ IntKind.u8.max := by simpa [Lit.wf] using h
  omega
theorem bnd_i64 {n : Int} (h : (Lit.int .i64 n).wf = true) : -9223372036854775808 ≤ n ∧ n ≤ 9223372036854775807 := by
  have e1 : IntKind.i64.min = -9223372036854775808 := by decide
  have e2 : IntKind.i64.max = 9223372036854775807 := by decide
  have h' : IntKind.i64.min ≤ n ∧ n ≤ IntKind.i64.max := by simpa [Lit.wf] using h
  omega
/-- A slice of bytes that came in can be read. -/
theorem open_rb {H : Type} {enc : TypeId × Value → H} {P : Program} {w : World} {base : Nat} {held : Bool} {t e : TypeId} {v : Value} {d : DataW H} {ps : List MemPlace}
    (ht : P.underlying t = some (.slice e)) (he : P.underlying e = some (.int .u8)) (hc : P.cellsOf e = 1)
    (hok : Value.okWide P w .any base t v) (h : DataW.Trod enc P w 0 (fun _ => true) held t v d ps) : ∃ l, RB w v l := by
  obtain ⟨a, len, cap, rfl⟩ := WideShapes.okWide_slice ht hok
  obtain ⟨fuel, hf⟩ := h
  rcases ChangeShapes.open_ints ht he hc hf with ⟨hcs, _⟩ | ⟨x, l, c, zs, hcs, _, hl, hm, hz, _, hcell, hwz⟩
  · simp [Value.cells] at hcs
    obtain ⟨rfl, rfl, rfl⟩ := hcs
    exact ⟨[], RB.nil w⟩
  · simp [Value.cells] at hcs
    obtain ⟨rfl, rfl, rfl⟩ := hcs
    simp only [Value.okWide, ht, Cell.okWide, Cell.ok, World.has] at hok
    obtain ⟨_, _, _, hs, row, cells, hsh, _⟩ := hok
    obtain ⟨b, o, s⟩ := x
    simp only at hs; subst hs
    have hlt : b < w.heap.size := by
      simp only [World.shape?] at hsh
      cases hg : w.heap[b]? with
      | none => rw [hg] at hsh; cases hsh
      | some ob => exact (Array.getElem?_eq_some_iff.1 hg).1
    have hz' : zs.length = cap := by simpa using hz
    have hll : ((zs.take len).map fun n => UInt8.ofNat n.toNat).length = len := by simp; omega
    refine ⟨(zs.take len).map fun n => UInt8.ofNat n.toNat, by simp, .inr ⟨b, o, cap, by rw [hll], by omega, hm, hlt, ?_⟩⟩
    intro j u hj
    have hj' : j < len := by
      have := (List.getElem?_eq_some_iff.1 hj).1
      simp only [bs_length] at this; omega
    have h1 := hcell j (by omega)
    rw [addr_add] at h1
    rw [h1]
    have hb := bnd_u8 (hwz (zs[j]'(by omega)) (List.getElem_mem _))
    rw [← hj, bs_get _ j (by omega)]
    simp only [List.getElem_map, List.getElem_take, List.getD_eq_getElem?_getD, List.getElem?_eq_getElem (show j < zs.length by omega), Option.getD_some]
    congr 2
    rw [UInt8.toNat_ofNat']
    omega
/-- A row of texts that can be read. -/
def RBs (w : World) (v : Value) (ls : List (List UInt8)) : Prop :=
  ∃ vs : List Value, Reads w 1 v ls.length vs ∧ ∀ (i : Nat) (u : Value) (l : List UInt8), vs[i]? = some u → ls[i]? = some l → RBz w u l
theorem RBs.same {w w' : World} {v : Value} {ls : List (List UInt8)} (h : RBs w v ls) (c : Chg (fun _ => False) w w') : RBs w' v ls := by
  obtain ⟨vs, h1, h2⟩ := h
  exact ⟨vs, h1.kept c (fun _ _ hf => hf), fun i u l hu hl => (h2 i u l hu hl).same c⟩
theorem RBs.form {w : World} {v : Value} {ls : List (List UInt8)} (h : RBs w v ls) : ∃ a c, v = .slice a ls.length c := by
  obtain ⟨vs, h, _⟩ := h
  exact Reads.form h
/-- A text out of the row. -/
theorem RBs.at_ {w : World} {a : Option Addr} {n c : Nat} {ls : List (List UInt8)} (h : RBs w (.slice a n c) ls) (k : Nat) (l : List UInt8) (hl : ls[k]? = some l) :
    ∃ g o u uc, a = some ⟨g, o, none⟩ ∧ w.cell? ⟨g, o + k, none⟩ = some (.slice u l.length uc) ∧ RBz w (.slice u l.length uc) l := by
  obtain ⟨vs, h1, h2⟩ := h
  have hk := (List.getElem?_eq_some_iff.1 hl).1
  rcases h1.2 with ⟨_, h0⟩ | ⟨g, o, c', hv, _, _, _, hc⟩
  · omega
  · simp only [Value.slice.injEq] at hv
    obtain ⟨x, hx⟩ : ∃ x, vs[k]? = some x := ⟨_, List.getElem?_eq_getElem (by have := h1.1; omega)⟩
    have h3 := h2 k x l hx hl
    obtain ⟨u, uc, rfl⟩ := h3.form
    exact ⟨g, o, u, uc, hv.1, hc k _ hx, h3⟩

theorem open_rbs {H : Type} {enc : TypeId × Value → H} {P : Program} {w : World} {base : Nat} {held : Bool} {t e q : TypeId} {v : Value} {d : DataW H} {ps : List MemPlace}
    (ht : P.underlying t = some (.slice e)) (he : P.underlying e = some (.slice q)) (hq : P.underlying q = some (.int .u8)) (hc : P.cellsOf e = 1) (hc1 : P.cellsOf q = 1)
    (hok : Value.okWide P w .any base t v) (h : DataW.Trod enc P w 0 (fun _ => true) held t v d ps) : ∃ ls, RBs w v ls := by
  obtain ⟨a, len, cap, rfl⟩ := WideShapes.okWide_slice ht hok
  obtain ⟨fuel, hf⟩ := h
  rcases Deep.open_int_rows ht he hq hc hc1 hf with ⟨hcs, _⟩ | ⟨x, l, c, A, L, C, Z, hcs, _, hl, hm, _, hrow⟩
  · simp [Value.cells] at hcs
    obtain ⟨rfl, rfl, rfl⟩ := hcs
    exact ⟨[], [], Reads.nil w 1, by simp⟩
  · simp [Value.cells] at hcs
    obtain ⟨rfl, rfl, rfl⟩ := hcs
    simp only [Value.okWide, ht, Cell.okWide, Cell.ok, World.has] at hok
    obtain ⟨_, _, _, hs, row, cells, hsh, _⟩ := hok
    obtain ⟨b, o, s⟩ := x
    simp only at hs; subst hs
    have hlt : b < w.heap.size := by
      simp only [World.shape?] at hsh
      cases hg : w.heap[b]? with
      | none => rw [hg] at hsh; cases hsh
      | some ob => exact (Array.getElem?_eq_some_iff.1 hg).1
    let bytesOf : Nat → List UInt8 := fun r => ((Z r).take (L r)).map fun n => UInt8.ofNat n.toNat
    refine ⟨(List.range len).map bytesOf, (List.range len).map fun r => .slice (A r) (L r) (C r), ⟨by simp, .inr ⟨b, o, cap, by simp, by simp; omega, hm, hlt, fun j u hj => ?_⟩⟩, fun i u l hu hl' => ?_⟩
    · have hjl := (List.getElem?_eq_some_iff.1 hj).1
      simp at hjl
      have h1 := (hrow j (by omega)).1
      rw [addr_add] at h1
      rw [h1, ← hj]
      simp [hjl]
    · have hil := (List.getElem?_eq_some_iff.1 hu).1
      simp at hil
      obtain ⟨_, r1, r2, r3, r4, r5, r6⟩ := hrow i (by omega)
      simp [hil] at hu hl'
      subst hu hl'
      have hbl : (bytesOf i).length = L i := by simp [bytesOf]; omega
      rcases Nat.eq_zero_or_pos (C i) with h0 | h0
      · refine .inr ⟨List.eq_nil_of_length_eq_zero (by omega), A i, ?_⟩
        rw [h0, show L i = 0 by omega]
      · obtain ⟨a', ha'⟩ : ∃ a', A i = some a' := by
          cases hA : A i with
          | none => rw [r5 hA] at h0; omega
          | some a' => exact ⟨a', rfl⟩
        obtain ⟨_, hcell⟩ := r6 a' ha'
        have hc0 := hcell 0 (by omega)
        obtain ⟨g, o', sp⟩ := a'
        have hspot : sp = none := by simpa [Addr.add] using World.cell?_spot hc0
        subst hspot
        rw [addr_add] at hc0
        left
        refine ⟨by simp, .inr ⟨g, o', C i, by rw [ha', hbl], by omega, r2, World.block_lt_of_cell? w _ hc0, fun j u hj => ?_⟩⟩
        have hjl := (List.getElem?_eq_some_iff.1 hj).1
        rw [bs_length, hbl] at hjl
        have h1 := hcell j (by omega)
        rw [addr_add] at h1
        rw [h1, ← hj, bs_get _ j (by omega)]
        have hb := bnd_u8 (r4 ((Z i)[j]'(by omega)) (List.getElem_mem _))
        simp only [bytesOf, List.getElem_map, List.getElem_take, List.getD_eq_getElem?_getD, List.getElem?_eq_getElem (show j < (Z i).length by omega), Option.getD_some]
        congr 2
        rw [UInt8.toNat_ofNat']
        omega
end Go.Cat
