/- What a row's proof opens a range by. -/
import Derived.Test.YtjhkhdockiocgaaRowSec
namespace Go.Proofs.Ytjhkhdockiocgaa
open Go.ChangeShapes Go.WideShapes Go.ChangeAt Go.RowKit Go.Cat

set_option maxRecDepth 100000 in
theorem open_range {H : Type} {enc : TypeId × Value → H} {w : World} {base : Nat} {held : Bool} {v : Value} {d : DataW H} {ps : List MemPlace}
    (hok : Value.okWide Try.prog w .any base 24 v) (h : DataW.Trod enc Try.prog w 0 (fun _ => true) held 24 v d ps) :
    ∃ lo hi : Int, v = .agg #[.int .i64 lo, .int .i64 hi] ∧ (-9223372036854775808 ≤ lo ∧ lo ≤ 9223372036854775807) ∧ (-9223372036854775808 ≤ hi ∧ hi ≤ 9223372036854775807) := by
  obtain ⟨cs, rfl, hsz, hrow⟩ := okWide_row Try.underlying24 hok
  have hc2 : Try.prog.cellsOf 24 = 2 := by kernel_rfl
  have hu1 : Try.prog.cellsOf 2 = 1 := by kernel_rfl
  rw [hc2] at hsz
  obtain ⟨c0, c1, rfl⟩ : ∃ c0 c1, cs = #[c0, c1] := by
    obtain ⟨l⟩ := cs
    match l, hsz with
    | [a, b], _ => exact ⟨a, b, rfl⟩
  obtain ⟨fuel, hf⟩ := h
  obtain ⟨z0, z1, m, hz, _, k0, k1⟩ := trod_struct2 Try.underlying24 hf
  simp only [hu1, Value.cells, List.drop_zero, List.take_succ_cons, List.take_zero, List.drop_succ_cons] at k0 k1
  obtain ⟨T, e0, _, b0⟩ := DataW.trod_int Try.underlying2 k0
  obtain ⟨P, e1, _, b1⟩ := DataW.trod_int Try.underlying2 k1
  simp only [List.cons.injEq, and_true] at e0 e1
  subst e0 e1
  exact ⟨T, P, rfl, bnd_i64 b0, bnd_i64 b1⟩
end Go.Proofs.Ytjhkhdockiocgaa
