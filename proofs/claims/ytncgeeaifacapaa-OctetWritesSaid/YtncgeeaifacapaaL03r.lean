/- The law OctetWrites, its walk: more items than are looked at; all. -/
import Derived.Test.YtncgeeaifacapaaL03o
namespace Go.Proofs.Ytncgeeaifacapaa
open Go.RowKit Go.Cat

set_option maxRecDepth 100000 in
set_option maxHeartbeats 1000000 in
theorem writes_long (a : Option Addr) (n c : Nat) (w : World) (hl : 40 < n) :
    Calls Try.prog 9 #[.slice a n c] w fun e w' => e = .returned (.bool true) ∧ Chg (fun _ => False) w w' := by
  have g1 : (40 : Int) < n := by omega
  go_enter Try.func9, Try.ntmps9
  go_wp2_with fail
  refine (lives03 w).mono ?_
  rintro e w1 ⟨rfl, c1⟩
  go_wp2_with fail
  refine (lives03 w1).mono ?_
  rintro e w2 ⟨rfl, c2⟩
  go_wp2_with fail
  go_ret
  exact ⟨rfl, c1.trans c2⟩
theorem writes_any (v : Value) (L : List Itm) (w : World) (hv : Reads w 4 v L.length (L.flatMap Itm.cells)) (hf : ∀ i ∈ L, i.fits) :
    Calls Try.prog 9 #[v] w fun e w' => e = .returned (.bool true) ∧ Chg (fun _ => False) w w' := by
  by_cases hl : L.length ≤ 40
  · exact writes_go v L w hv hf hl
  · obtain ⟨a, c, rfl⟩ := hv.form
    exact writes_long a _ c w (by omega)
end Go.Proofs.Ytncgeeaifacapaa
