/- Contracts of package hold, of a table that isn't there: Add, Release, Covers, Meets, Any, Len, Copy, All. -/
import Derived.Test.YtjhkhdockiocgaaHold4
namespace Go.Proofs.Ytjhkhdockiocgaa
open Go.RowKit Go.Cat

set_option maxRecDepth 100000 in
theorem nadd (h : Hld) (w : World) : Calls Try.prog 56 #[.pointer none, .agg #[.string ⟨h.name.toArray⟩, .string ⟨h.series.toArray⟩, .int .i64 h.lo, .int .i64 h.hi]] w fun e w' => e = .returned (.int .i64 1) ∧ Chg (fun _ => False) w w' := by
  go_enter Try.func56, Try.ntmps56
  go_wp2_with fail
  go_ret
  exact ⟨rfl, (Chg.refl _ w).alloc _⟩
set_option maxRecDepth 100000 in
theorem nrelease (s : List UInt8) (w : World) : Calls Try.prog 57 #[.pointer none, .string ⟨s.toArray⟩] w fun e w' => e = .returned (.int .i64 1) ∧ w = w' := by
  go_enter Try.func57, Try.ntmps57
  go_wp2_with fail
  go_ret
  exact ⟨rfl, rfl⟩
set_option maxRecDepth 100000 in
theorem ncovers (s : List UInt8) (x : Int) (w : World) : Calls Try.prog 60 #[.pointer none, .string ⟨s.toArray⟩, .int .i64 x] w fun e w' => e = .returned (.bool false) ∧ w = w' := by
  go_enter Try.func60, Try.ntmps60
  go_wp2_with fail
  go_ret
  exact ⟨rfl, rfl⟩
set_option maxRecDepth 100000 in
theorem nmeets (s : List UInt8) (x y : Int) (w : World) : Calls Try.prog 61 #[.pointer none, .string ⟨s.toArray⟩, .agg #[.int .i64 x, .int .i64 y]] w fun e w' => e = .returned (.bool false) ∧ Chg (fun _ => False) w w' := by
  go_enter Try.func61, Try.ntmps61
  go_wp2_with fail
  go_ret
  exact ⟨rfl, by first | exact (Chg.refl _ w).alloc _ | exact Chg.refl _ w⟩
set_option maxRecDepth 100000 in
theorem nany (s : List UInt8) (w : World) : Calls Try.prog 62 #[.pointer none, .string ⟨s.toArray⟩] w fun e w' => e = .returned (.bool false) ∧ w = w' := by
  go_enter Try.func62, Try.ntmps62
  go_wp2_with fail
  go_ret
  exact ⟨rfl, rfl⟩
set_option maxRecDepth 100000 in
theorem nlen (w : World) : Calls Try.prog 59 #[.pointer none] w fun e w' => e = .returned (.int .i64 0) ∧ w = w' := by
  go_enter Try.func59, Try.ntmps59
  go_wp2_with fail
  go_ret
  exact ⟨rfl, rfl⟩
set_option maxRecDepth 100000 in
theorem ncopy (w : World) : Calls Try.prog 58 #[.pointer none] w fun e w' => e = .returned (.pointer none) ∧ w = w' := by
  go_enter Try.func58, Try.ntmps58
  go_wp2_with fail
  go_ret
  exact ⟨rfl, rfl⟩
set_option maxRecDepth 100000 in
theorem nall (p : Option Addr) (w : World) : Calls Try.prog 63 #[.pointer p] w fun e w' => e = .returned (.func (.func 95) #[] #[.pointer (some ⟨w.heap.size, 0, none⟩)]) ∧ w' = w.alloc (.cells #[.pointer p] 87) := by
  go_enter Try.func63, Try.ntmps63
  go_wp2_with fail
  go_ret
  exact ⟨rfl, rfl⟩
end Go.Proofs.Ytjhkhdockiocgaa
