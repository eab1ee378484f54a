/- For a seat without package octet: what the texts of holds want of it. (To be laid as <Name>Octet.) -/
import Derived.Test.YtmnnahkaenikkaaSer1
namespace Go.Proofs.Ytmnnahkaenikkaa
open Go.RowKit Go.Cat
theorem ret_int {k : IntKind} {a b : Int} (h : a = b) : Ending.returned (.int k a) = .returned (.int k b) := by rw [h]
end Go.Proofs.Ytmnnahkaenikkaa
