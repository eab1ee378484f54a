/-
  No cell of these rows narrows 'for every input' (looked for: loops, veiled, ifaces, maps, wideKeys, modest, calm, conditions, laid).
  DERIVED. THE GIVEN ROWS OF THIS SEAT. 3 by the template 'for every input the law returns true; each argument reads behind the call as it read before'; 0 by the template 'total and deterministic' (their statements: YtmnnahkaenikkaaTotals.lean).
  GIVEN WITH THE SEED: the statements are not yours to turn. If you find one false, say at which input.
  Laid BY PROGRAM, IN A SANDBOX (cutbox-rows.mjs): the forced cells as the released guide's own fill.sh prints them over the translation 8b46104e553097bb… (all of the seat's roots in one cut). By AI agents, Wed Nov 11 2026. No macro, syntax, notation, axiom, sorry.
-/
import Derived.Test.YtmnnahkaenikkaaChecked
import GoSem.Claim
import GoSem.ClaimJoined
import GoSem.ClaimMapViews
import Derived.JoinedTies
import Derived.KernelRfl
namespace Go.Proofs.Ytmnnahkaenikkaa
/- THE CELL 'sum', in the pinned program and in every row, IS THE sha256 OF THE DUMP (.gsa) THAT YtmnnahkaenikkaaProg.lean LOADS. Nothing in Lean hashes anything: it is a label: what it is worth is what the hold of that sum in a sandbox is worth. -/
noncomputable def Try.pinned : Pinned := { name := "ytmnnahkaenikkaa", sum := "8b46104e553097bb81ac532d0318b3a226059d82f9b0506f239f78acf4f1347a", checked := Try.checked }
namespace Rows
def none {H : Type} : Left H := { results := [], args := [] }

/-- 'catacomblaw20.PurgeForgets': WHATEVER THE INPUT: true; the input reads as it did. -/
def purgeForgetsSpec : ChangeSpec := { name := "purgeForgets", fn := fun _ => fun
  | [d1, d2, d3] => { results := [.lit (.bool true)], args := [d1, d2, d3] }
  | _ => none }
def purgeForgetsRow : OpenClaim := { program := "ytmnnahkaenikkaa", sum := "8b46104e553097bb81ac532d0318b3a226059d82f9b0506f239f78acf4f1347a", func := "catacomb/catacomblaw20.PurgeForgets", spec := "purgeForgets", inPlace := ["slices.overlaps[catacomb/api.Point]"], unfollowed := true, recurses := true, plainKeys := false, apart := false }
def PurgeForgetsSaid : Prop := purgeForgetsRow.holds Try.pinned (OpenSpec.ofChange purgeForgetsSpec)

/-- ITS FALSE NEIGHBOUR: 'it returns false'. Refute it at one input. -/
def purgeForgetsWrong : ChangeSpec := { name := "purgeForgets", fn := fun _ => fun
  | [d1, d2, d3] => { results := [.lit (.bool false)], args := [d1, d2, d3] }
  | _ => none }
def PurgeForgetsWrongFalsely : Prop := purgeForgetsRow.holds Try.pinned (OpenSpec.ofChange purgeForgetsWrong)

/-- 'catacomblaw19.ExpireHeld': WHATEVER THE INPUT: true; the input reads as it did. -/
def expireHeldSpec : ChangeSpec := { name := "expireHeld", fn := fun _ => fun
  | [d1, d2, d3, d4] => { results := [.lit (.bool true)], args := [d1, d2, d3, d4] }
  | _ => none }
def expireHeldRow : OpenClaim := { program := "ytmnnahkaenikkaa", sum := "8b46104e553097bb81ac532d0318b3a226059d82f9b0506f239f78acf4f1347a", func := "catacomb/catacomblaw19.ExpireHeld", spec := "expireHeld", inPlace := ["slices.overlaps[catacomb/api.Point]"], unfollowed := true, recurses := true, plainKeys := false, apart := false }
def ExpireHeldSaid : Prop := expireHeldRow.holds Try.pinned (OpenSpec.ofChange expireHeldSpec)

/-- ITS FALSE NEIGHBOUR: 'it returns false'. Refute it at one input. -/
def expireHeldWrong : ChangeSpec := { name := "expireHeld", fn := fun _ => fun
  | [d1, d2, d3, d4] => { results := [.lit (.bool false)], args := [d1, d2, d3, d4] }
  | _ => none }
def ExpireHeldWrongFalsely : Prop := expireHeldRow.holds Try.pinned (OpenSpec.ofChange expireHeldWrong)

/-- 'catacomblaw19.ExpireNext': WHATEVER THE INPUT: true; the input reads as it did. -/
def expireNextSpec : ChangeSpec := { name := "expireNext", fn := fun _ => fun
  | [d1, d2] => { results := [.lit (.bool true)], args := [d1, d2] }
  | _ => none }
def expireNextRow : OpenClaim := { program := "ytmnnahkaenikkaa", sum := "8b46104e553097bb81ac532d0318b3a226059d82f9b0506f239f78acf4f1347a", func := "catacomb/catacomblaw19.ExpireNext", spec := "expireNext", inPlace := ["slices.overlaps[catacomb/api.Point]"], unfollowed := true, recurses := true, plainKeys := false, apart := false }
def ExpireNextSaid : Prop := expireNextRow.holds Try.pinned (OpenSpec.ofChange expireNextSpec)

/-- ITS FALSE NEIGHBOUR: 'it returns false'. Refute it at one input. -/
def expireNextWrong : ChangeSpec := { name := "expireNext", fn := fun _ => fun
  | [d1, d2] => { results := [.lit (.bool false)], args := [d1, d2] }
  | _ => none }
def ExpireNextWrongFalsely : Prop := expireNextRow.holds Try.pinned (OpenSpec.ofChange expireNextWrong)

/- THE SECOND FORM. 'bulk': how many values and letters a reading holds, each counted each time it is reached (what is shared counts as often as it is met; a slice's spare places count too). A statement '..UptoSaid' is the law's where the arguments, and the package variables that the reading takes, are together of bulk at most 1048576: NARROWER than '..Said'. Prove '..Said' where nothing that the law and all that it calls make is longer than what came in: it says more and counts as full. Else prove '..UptoSaid'. A law counts once. -/
mutual
def uptoBulk {H : Type} : DataW H → Nat
  | .lit (.string bytes) => bytes.length + 1
  | .lit _ => 1
  | .nil => 1
  | .ptr d => uptoBulk d + 1
  | .slice elems spare => uptoBulkAll elems + uptoBulkAll spare + 1
  | .agg parts => uptoBulkAll parts + 1
  | .iface _ d => uptoBulk d + 1
  | .map entries => uptoBulkEntries entries + 1
  | .held _ => 1
def uptoBulkAll {H : Type} : List (DataW H) → Nat
  | [] => 0
  | d :: r => uptoBulk d + uptoBulkAll r
def uptoBulkEntries {H : Type} : List (Lit × DataW H) → Nat
  | [] => 0
  | x :: r => uptoBulkEntry x + uptoBulkEntries r
def uptoBulkEntry {H : Type} : Lit × DataW H → Nat
  | (.string bytes, d) => bytes.length + uptoBulk d + 1
  | (_, d) => uptoBulk d + 1
 end
def uptoSmall : (H : Type) → List (DataW H) → Bool := fun _ ds => decide (uptoBulkAll ds ≤ 1048576)
def OpenSpec.upto (s : _root_.Go.ChangeSpec) : _root_.Go.OpenSpec := { _root_.Go.OpenSpec.ofChange s with cond := some uptoSmall }

/-- 'catacomblaw20.PurgeForgets', WHERE WHAT IT READS IS OF BULK AT MOST 1048576: true; the input reads as it did. -/
def purgeForgetsUptoRow : OpenClaim := { program := "ytmnnahkaenikkaa", sum := "8b46104e553097bb81ac532d0318b3a226059d82f9b0506f239f78acf4f1347a", func := "catacomb/catacomblaw20.PurgeForgets", spec := "purgeForgets", inPlace := ["slices.overlaps[catacomb/api.Point]"], unfollowed := true, recurses := true, plainKeys := false, apart := false, narrowed := true }
def PurgeForgetsUptoSaid : Prop := purgeForgetsUptoRow.holds Try.pinned (OpenSpec.upto purgeForgetsSpec)

/-- 'catacomblaw19.ExpireHeld', WHERE WHAT IT READS IS OF BULK AT MOST 1048576: true; the input reads as it did. -/
def expireHeldUptoRow : OpenClaim := { program := "ytmnnahkaenikkaa", sum := "8b46104e553097bb81ac532d0318b3a226059d82f9b0506f239f78acf4f1347a", func := "catacomb/catacomblaw19.ExpireHeld", spec := "expireHeld", inPlace := ["slices.overlaps[catacomb/api.Point]"], unfollowed := true, recurses := true, plainKeys := false, apart := false, narrowed := true }
def ExpireHeldUptoSaid : Prop := expireHeldUptoRow.holds Try.pinned (OpenSpec.upto expireHeldSpec)

/-- 'catacomblaw19.ExpireNext', WHERE WHAT IT READS IS OF BULK AT MOST 1048576: true; the input reads as it did. -/
def expireNextUptoRow : OpenClaim := { program := "ytmnnahkaenikkaa", sum := "8b46104e553097bb81ac532d0318b3a226059d82f9b0506f239f78acf4f1347a", func := "catacomb/catacomblaw19.ExpireNext", spec := "expireNext", inPlace := ["slices.overlaps[catacomb/api.Point]"], unfollowed := true, recurses := true, plainKeys := false, apart := false, narrowed := true }
def ExpireNextUptoSaid : Prop := expireNextUptoRow.holds Try.pinned (OpenSpec.upto expireNextSpec)

end Rows
end Go.Proofs.Ytmnnahkaenikkaa
