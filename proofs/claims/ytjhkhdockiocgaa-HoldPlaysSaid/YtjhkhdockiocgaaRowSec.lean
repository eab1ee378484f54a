/- What a row's proof opens a sector by. -/
import Derived.Test.YtjhkhdockiocgaaRow
import Derived.Test.YtjhkhdockiocgaaStamp
import Derived.Deep.Strs
import Derived.Lib.SmallJoins
namespace Go.Proofs.Ytjhkhdockiocgaa
open Go.ChangeShapes Go.WideShapes Go.ChangeAt Go.RowKit Go.Cat

theorem row_cell {P : Program} {w : World} {r : Reach} {base : Nat} {t : TypeId} {cs : Array Value} {ts : List TypeId} (h : Row.okWide P w r base t cs) (hts : P.cellTypes P.depth t = some ts) (i : Nat) (v : Value) (hi : cs[i]? = some v) (u : TypeId) (hu : ts[i % ts.length]? = some u) : Cell.okWide P w r base u v := by
  obtain ⟨ts', h1, _, h3⟩ := h
  rw [hts] at h1
  cases h1
  obtain ⟨u', h4, h5⟩ := h3 i v hi
  rw [hu] at h4
  cases h4
  exact h5

theorem okWide_row {P : Program} {w : World} {r : Reach} {base : Nat} {t : TypeId} {fs : Array Field} {v : Value} (hs : P.underlying t = some (.struct fs)) (hv : Value.okWide P w r base t v) : ∃ cs, v = .agg cs ∧ cs.size = P.cellsOf t ∧ Row.okWide P w r base t cs := by
  unfold Value.okWide at hv
  rw [hs] at hv
  exact hv
theorem okWide_cell {P : Program} {w : World} {r : Reach} {base : Nat} {t e : TypeId} {v : Value} (hs : P.underlying t = some (.slice e)) (hv : Cell.okWide P w r base t v) : Value.okWide P w r base t v := by
  unfold Value.okWide
  rw [hs]
  exact hv

set_option maxRecDepth 100000 in
theorem open_sector {H : Type} {enc : TypeId × Value → H} {w : World} {base : Nat} {held : Bool} {v : Value} {d : DataW H} {ps : List MemPlace}
    (hok : Value.okWide Try.prog w .any base 138 v) (h : DataW.Trod enc Try.prog w 0 (fun _ => true) held 138 v d ps) :
    ∃ (T P : Nat) (L : Bool) (dv : Value) (l : List UInt8), v = .agg #[.int .u32 T, .int .u32 P, .bool L, dv] ∧ T < 4294967296 ∧ P < 4294967296 ∧ RB w dv l := by
  obtain ⟨cs, rfl, hsz, hrow⟩ := okWide_row Try.underlying138 hok
  have hc4 : Try.prog.cellsOf 138 = 4 := by kernel_rfl
  have hc2 : Try.prog.cellsOf 136 = 2 := by kernel_rfl
  have hb1 : Try.prog.cellsOf 4 = 1 := by kernel_rfl
  have hs1 : Try.prog.cellsOf 33 = 1 := by kernel_rfl
  have hu1 : Try.prog.cellsOf 51 = 1 := by kernel_rfl
  have hu8 : Try.prog.cellsOf 5 = 1 := by kernel_rfl
  rw [hc4] at hsz
  obtain ⟨c0, c1, c2, c3, rfl⟩ := Go.Joins.array4 hsz
  obtain ⟨fuel, hf⟩ := h
  obtain ⟨y0, y1, y2, n, hx, hl, h0, h1, h2⟩ := Deep.trod_struct3 Try.underlying138 hf
  simp only [hc2, hb1, hs1, Value.cells, List.drop_zero, List.take_succ_cons, List.take_zero, List.drop_succ_cons] at h0 h1 h2
  obtain ⟨z0, z1, m, hz, _, k0, k1⟩ := trod_struct2 Try.underlying136 h0
  simp only [hu1, List.drop_zero, List.take_succ_cons, List.take_zero, List.drop_succ_cons] at k0 k1
  obtain ⟨T, e0, _, b0⟩ := DataW.trod_int Try.underlying51 k0
  obtain ⟨P, e1, _, b1⟩ := DataW.trod_int Try.underlying51 k1
  obtain ⟨L, e2, _⟩ := DataW.trod_bool Try.underlying4 h1
  simp only [List.cons.injEq, and_true] at e0 e1 e2
  subst e0 e1 e2
  have c3ok := row_cell hrow (ts := [51, 51, 4, 33]) (by kernel_rfl) 3 c3 rfl 33 rfl
  have c3v := okWide_cell Try.underlying33 c3ok
  obtain ⟨sa, sl, sc, hsf⟩ := Go.Joins.slice_form Try.underlying33 h2
  simp only [List.cons.injEq, and_true] at hsf
  subst hsf
  obtain ⟨l, hlb⟩ := open_rb (d := y2.1) (ps := y2.2) Try.underlying33 Try.underlying5 hu8 c3v ⟨n, h2⟩
  have q0 := bnd_u32 b0
  have q1 := bnd_u32 b1
  obtain ⟨T', rfl⟩ := Int.eq_ofNat_of_zero_le q0.1
  obtain ⟨P', rfl⟩ := Int.eq_ofNat_of_zero_le q1.1
  exact ⟨T', P', L, _, l, rfl, by omega, by omega, hlb⟩
end Go.Proofs.Ytjhkhdockiocgaa
