/-
  No cell of these rows narrows 'for every input' (looked for: loops, veiled, ifaces, maps, wideKeys, modest, calm, conditions, laid).
  DERIVED. THE GIVEN ROWS OF THIS SEAT. 11 by the template 'for every input the law returns true; each argument reads behind the call as it read before'; 0 by the template 'total and deterministic' (their statements: YtjhkhdockiocgaaTotals.lean).
  GIVEN WITH THE SEED: the statements are not yours to turn. If you find one false, say at which input.
  Laid BY PROGRAM, IN A SANDBOX (cutbox-rows.mjs): the forced cells as the released guide's own fill.sh prints them over the translation 0e18667786745236… (all of the seat's roots in one cut). By AI agents, Wed Nov 11 2026. No macro, syntax, notation, axiom, sorry.
-/
import Derived.Test.YtjhkhdockiocgaaChecked
import GoSem.Claim
import GoSem.ClaimJoined
import GoSem.ClaimMapViews
import Derived.JoinedTies
import Derived.KernelRfl
namespace Go.Proofs.Ytjhkhdockiocgaa
/- THE CELL 'sum', in the pinned program and in every row, IS THE sha256 OF THE DUMP (.gsa) THAT YtjhkhdockiocgaaProg.lean LOADS. Nothing in Lean hashes anything: it is a label: what it is worth is what the hold of that sum in a sandbox is worth. -/
noncomputable def Try.pinned : Pinned := { name := "ytjhkhdockiocgaa", sum := "0e186677867452362e8b230218c4a3f2b73637b8af788af2c25669770e202fdd", checked := Try.checked }
namespace Rows
def none {H : Type} : Left H := { results := [], args := [] }

/-- 'catacomblaw26.CommandUnlike': WHATEVER THE INPUT: true; the input reads as it did. -/
def commandUnlikeSpec : ChangeSpec := { name := "commandUnlike", fn := fun _ => fun
  | [d1, d2] => { results := [.lit (.bool true)], args := [d1, d2] }
  | _ => none }
def commandUnlikeRow : OpenClaim := { program := "ytjhkhdockiocgaa", sum := "0e186677867452362e8b230218c4a3f2b73637b8af788af2c25669770e202fdd", func := "catacomb/catacomblaw26.CommandUnlike", spec := "commandUnlike", unfollowed := true, recurses := true, apart := false }
def CommandUnlikeSaid : Prop := commandUnlikeRow.holds Try.pinned (OpenSpec.ofChange commandUnlikeSpec)

/-- ITS FALSE NEIGHBOUR: 'it returns false'. Refute it at one input. -/
def commandUnlikeWrong : ChangeSpec := { name := "commandUnlike", fn := fun _ => fun
  | [d1, d2] => { results := [.lit (.bool false)], args := [d1, d2] }
  | _ => none }
def CommandUnlikeWrongFalsely : Prop := commandUnlikeRow.holds Try.pinned (OpenSpec.ofChange commandUnlikeWrong)

/-- 'catacomblaw26.CommandReads': WHATEVER THE INPUT: true; the input reads as it did. -/
def commandReadsSpec : ChangeSpec := { name := "commandReads", fn := fun _ => fun
  | [d] => { results := [.lit (.bool true)], args := [d] }
  | _ => none }
def commandReadsRow : OpenClaim := { program := "ytjhkhdockiocgaa", sum := "0e186677867452362e8b230218c4a3f2b73637b8af788af2c25669770e202fdd", func := "catacomb/catacomblaw26.CommandReads", spec := "commandReads", unfollowed := true, recurses := true, apart := false }
def CommandReadsSaid : Prop := commandReadsRow.holds Try.pinned (OpenSpec.ofChange commandReadsSpec)

/-- ITS FALSE NEIGHBOUR: 'it returns false'. Refute it at one input. -/
def commandReadsWrong : ChangeSpec := { name := "commandReads", fn := fun _ => fun
  | [d] => { results := [.lit (.bool false)], args := [d] }
  | _ => none }
def CommandReadsWrongFalsely : Prop := commandReadsRow.holds Try.pinned (OpenSpec.ofChange commandReadsWrong)

/-- 'catacomblaw26.CommandBytes': WHATEVER THE INPUT: true; the input reads as it did. -/
def commandBytesSpec : ChangeSpec := { name := "commandBytes", fn := fun _ => fun
  | [d] => { results := [.lit (.bool true)], args := [d] }
  | _ => none }
def commandBytesRow : OpenClaim := { program := "ytjhkhdockiocgaa", sum := "0e186677867452362e8b230218c4a3f2b73637b8af788af2c25669770e202fdd", func := "catacomb/catacomblaw26.CommandBytes", spec := "commandBytes", unfollowed := true, recurses := true, apart := false }
def CommandBytesSaid : Prop := commandBytesRow.holds Try.pinned (OpenSpec.ofChange commandBytesSpec)

/-- ITS FALSE NEIGHBOUR: 'it returns false'. Refute it at one input. -/
def commandBytesWrong : ChangeSpec := { name := "commandBytes", fn := fun _ => fun
  | [d] => { results := [.lit (.bool false)], args := [d] }
  | _ => none }
def CommandBytesWrongFalsely : Prop := commandBytesRow.holds Try.pinned (OpenSpec.ofChange commandBytesWrong)

/-- 'catacomblaw10.JournalOver': WHATEVER THE INPUT: true; the input reads as it did. -/
def journalOverSpec : ChangeSpec := { name := "journalOver", fn := fun _ => fun
  | [d1, d2, d3, d4, d5] => { results := [.lit (.bool true)], args := [d1, d2, d3, d4, d5] }
  | _ => none }
def journalOverRow : OpenClaim := { program := "ytjhkhdockiocgaa", sum := "0e186677867452362e8b230218c4a3f2b73637b8af788af2c25669770e202fdd", func := "catacomb/catacomblaw10.JournalOver", spec := "journalOver", unfollowed := true, recurses := true, apart := false }
def JournalOverSaid : Prop := journalOverRow.holds Try.pinned (OpenSpec.ofChange journalOverSpec)

/-- ITS FALSE NEIGHBOUR: 'it returns false'. Refute it at one input. -/
def journalOverWrong : ChangeSpec := { name := "journalOver", fn := fun _ => fun
  | [d1, d2, d3, d4, d5] => { results := [.lit (.bool false)], args := [d1, d2, d3, d4, d5] }
  | _ => none }
def JournalOverWrongFalsely : Prop := journalOverRow.holds Try.pinned (OpenSpec.ofChange journalOverWrong)

/-- 'catacomblaw10.JournalWhole': WHATEVER THE INPUT: true; the input reads as it did. -/
def journalWholeSpec : ChangeSpec := { name := "journalWhole", fn := fun _ => fun
  | [d1, d2] => { results := [.lit (.bool true)], args := [d1, d2] }
  | _ => none }
def journalWholeRow : OpenClaim := { program := "ytjhkhdockiocgaa", sum := "0e186677867452362e8b230218c4a3f2b73637b8af788af2c25669770e202fdd", func := "catacomb/catacomblaw10.JournalWhole", spec := "journalWhole", unfollowed := true, recurses := true, apart := false }
def JournalWholeSaid : Prop := journalWholeRow.holds Try.pinned (OpenSpec.ofChange journalWholeSpec)

/-- ITS FALSE NEIGHBOUR: 'it returns false'. Refute it at one input. -/
def journalWholeWrong : ChangeSpec := { name := "journalWhole", fn := fun _ => fun
  | [d1, d2] => { results := [.lit (.bool false)], args := [d1, d2] }
  | _ => none }
def JournalWholeWrongFalsely : Prop := journalWholeRow.holds Try.pinned (OpenSpec.ofChange journalWholeWrong)

/-- 'catacomblaw10.JournalKeeps': WHATEVER THE INPUT: true; the input reads as it did. -/
def journalKeepsSpec : ChangeSpec := { name := "journalKeeps", fn := fun _ => fun
  | [d] => { results := [.lit (.bool true)], args := [d] }
  | _ => none }
def journalKeepsRow : OpenClaim := { program := "ytjhkhdockiocgaa", sum := "0e186677867452362e8b230218c4a3f2b73637b8af788af2c25669770e202fdd", func := "catacomb/catacomblaw10.JournalKeeps", spec := "journalKeeps", unfollowed := true, recurses := true, apart := false }
def JournalKeepsSaid : Prop := journalKeepsRow.holds Try.pinned (OpenSpec.ofChange journalKeepsSpec)

/-- ITS FALSE NEIGHBOUR: 'it returns false'. Refute it at one input. -/
def journalKeepsWrong : ChangeSpec := { name := "journalKeeps", fn := fun _ => fun
  | [d] => { results := [.lit (.bool false)], args := [d] }
  | _ => none }
def JournalKeepsWrongFalsely : Prop := journalKeepsRow.holds Try.pinned (OpenSpec.ofChange journalKeepsWrong)

/-- 'catacomblaw10.JournalArgs': WHATEVER THE INPUT: true; the input reads as it did. -/
def journalArgsSpec : ChangeSpec := { name := "journalArgs", fn := fun _ => fun
  | [d1, d2, d3, d4, d5] => { results := [.lit (.bool true)], args := [d1, d2, d3, d4, d5] }
  | _ => none }
def journalArgsRow : OpenClaim := { program := "ytjhkhdockiocgaa", sum := "0e186677867452362e8b230218c4a3f2b73637b8af788af2c25669770e202fdd", func := "catacomb/catacomblaw10.JournalArgs", spec := "journalArgs", unfollowed := true, recurses := true, apart := false }
def JournalArgsSaid : Prop := journalArgsRow.holds Try.pinned (OpenSpec.ofChange journalArgsSpec)

/-- ITS FALSE NEIGHBOUR: 'it returns false'. Refute it at one input. -/
def journalArgsWrong : ChangeSpec := { name := "journalArgs", fn := fun _ => fun
  | [d1, d2, d3, d4, d5] => { results := [.lit (.bool false)], args := [d1, d2, d3, d4, d5] }
  | _ => none }
def JournalArgsWrongFalsely : Prop := journalArgsRow.holds Try.pinned (OpenSpec.ofChange journalArgsWrong)

/-- 'catacomblaw11.VaultForgets': WHATEVER THE INPUT: true; the input reads as it did. -/
def vaultForgetsSpec : ChangeSpec := { name := "vaultForgets", fn := fun _ => fun
  | [d1, d2, d3, d4] => { results := [.lit (.bool true)], args := [d1, d2, d3, d4] }
  | _ => none }
def vaultForgetsRow : OpenClaim := { program := "ytjhkhdockiocgaa", sum := "0e186677867452362e8b230218c4a3f2b73637b8af788af2c25669770e202fdd", func := "catacomb/catacomblaw11.VaultForgets", spec := "vaultForgets", unfollowed := true, recurses := true, apart := false }
def VaultForgetsSaid : Prop := vaultForgetsRow.holds Try.pinned (OpenSpec.ofChange vaultForgetsSpec)

/-- ITS FALSE NEIGHBOUR: 'it returns false'. Refute it at one input. -/
def vaultForgetsWrong : ChangeSpec := { name := "vaultForgets", fn := fun _ => fun
  | [d1, d2, d3, d4] => { results := [.lit (.bool false)], args := [d1, d2, d3, d4] }
  | _ => none }
def VaultForgetsWrongFalsely : Prop := vaultForgetsRow.holds Try.pinned (OpenSpec.ofChange vaultForgetsWrong)

/-- 'catacomblaw11.VaultKeeps': WHATEVER THE INPUT: true; the input reads as it did. -/
def vaultKeepsSpec : ChangeSpec := { name := "vaultKeeps", fn := fun _ => fun
  | [d] => { results := [.lit (.bool true)], args := [d] }
  | _ => none }
def vaultKeepsRow : OpenClaim := { program := "ytjhkhdockiocgaa", sum := "0e186677867452362e8b230218c4a3f2b73637b8af788af2c25669770e202fdd", func := "catacomb/catacomblaw11.VaultKeeps", spec := "vaultKeeps", unfollowed := true, recurses := true, apart := false }
def VaultKeepsSaid : Prop := vaultKeepsRow.holds Try.pinned (OpenSpec.ofChange vaultKeepsSpec)

/-- ITS FALSE NEIGHBOUR: 'it returns false'. Refute it at one input. -/
def vaultKeepsWrong : ChangeSpec := { name := "vaultKeeps", fn := fun _ => fun
  | [d] => { results := [.lit (.bool false)], args := [d] }
  | _ => none }
def VaultKeepsWrongFalsely : Prop := vaultKeepsRow.holds Try.pinned (OpenSpec.ofChange vaultKeepsWrong)

/-- 'catacomblaw17.HoldPlays': WHATEVER THE INPUT: true; the input reads as it did. -/
def holdPlaysSpec : ChangeSpec := { name := "holdPlays", fn := fun _ => fun
  | [d1, d2, d3, d4] => { results := [.lit (.bool true)], args := [d1, d2, d3, d4] }
  | _ => none }
def holdPlaysRow : OpenClaim := { program := "ytjhkhdockiocgaa", sum := "0e186677867452362e8b230218c4a3f2b73637b8af788af2c25669770e202fdd", func := "catacomb/catacomblaw17.HoldPlays", spec := "holdPlays", inPlace := ["maps.clone"], unfollowed := true, recurses := true, apart := false }
def HoldPlaysSaid : Prop := holdPlaysRow.holds Try.pinned (OpenSpec.ofChange holdPlaysSpec)

/-- ITS FALSE NEIGHBOUR: 'it returns false'. Refute it at one input. -/
def holdPlaysWrong : ChangeSpec := { name := "holdPlays", fn := fun _ => fun
  | [d1, d2, d3, d4] => { results := [.lit (.bool false)], args := [d1, d2, d3, d4] }
  | _ => none }
def HoldPlaysWrongFalsely : Prop := holdPlaysRow.holds Try.pinned (OpenSpec.ofChange holdPlaysWrong)

/-- 'catacomblaw17.HoldNone': WHATEVER THE INPUT: true; the input reads as it did. -/
def holdNoneSpec : ChangeSpec := { name := "holdNone", fn := fun _ => fun
  | [d1, d2, d3] => { results := [.lit (.bool true)], args := [d1, d2, d3] }
  | _ => none }
def holdNoneRow : OpenClaim := { program := "ytjhkhdockiocgaa", sum := "0e186677867452362e8b230218c4a3f2b73637b8af788af2c25669770e202fdd", func := "catacomb/catacomblaw17.HoldNone", spec := "holdNone", inPlace := ["maps.clone"], unfollowed := true, recurses := true, apart := false }
def HoldNoneSaid : Prop := holdNoneRow.holds Try.pinned (OpenSpec.ofChange holdNoneSpec)

/-- ITS FALSE NEIGHBOUR: 'it returns false'. Refute it at one input. -/
def holdNoneWrong : ChangeSpec := { name := "holdNone", fn := fun _ => fun
  | [d1, d2, d3] => { results := [.lit (.bool false)], args := [d1, d2, d3] }
  | _ => none }
def HoldNoneWrongFalsely : Prop := holdNoneRow.holds Try.pinned (OpenSpec.ofChange holdNoneWrong)

/- THE SECOND FORM. 'bulk': how many values and letters a reading holds, each counted each time it is reached (what is shared counts as often as it is met; a slice's spare places count too). A statement '..UptoSaid' is the law's where the arguments, and the package variables that the reading takes, are together of bulk at most 1048576: NARROWER than '..Said'. Prove '..Said' where nothing that the law and all that it calls make is longer than what came in: it says more and counts as full. Else prove '..UptoSaid'. A law counts once. -/
mutual
def uptoBulk {H : Type} : DataW H → Nat
  | .lit (.string bytes) => bytes.length + 1
  | .lit _ => 1
  | .nil => 1
  | .ptr d => uptoBulk d + 1
  | .slice elems spare => uptoBulkAll elems + uptoBulkAll spare + 1
  | .agg parts => uptoBulkAll parts + 1
  | .iface _ d => uptoBulk d + 1
  | .map entries => uptoBulkEntries entries + 1
  | .held _ => 1
def uptoBulkAll {H : Type} : List (DataW H) → Nat
  | [] => 0
  | d :: r => uptoBulk d + uptoBulkAll r
def uptoBulkEntries {H : Type} : List (Lit × DataW H) → Nat
  | [] => 0
  | x :: r => uptoBulkEntry x + uptoBulkEntries r
def uptoBulkEntry {H : Type} : Lit × DataW H → Nat
  | (.string bytes, d) => bytes.length + uptoBulk d + 1
  | (_, d) => uptoBulk d + 1
 end
def uptoSmall : (H : Type) → List (DataW H) → Bool := fun _ ds => decide (uptoBulkAll ds ≤ 1048576)
def OpenSpec.upto (s : _root_.Go.ChangeSpec) : _root_.Go.OpenSpec := { _root_.Go.OpenSpec.ofChange s with cond := some uptoSmall }

/-- 'catacomblaw26.CommandUnlike', WHERE WHAT IT READS IS OF BULK AT MOST 1048576: true; the input reads as it did. -/
def commandUnlikeUptoRow : OpenClaim := { program := "ytjhkhdockiocgaa", sum := "0e186677867452362e8b230218c4a3f2b73637b8af788af2c25669770e202fdd", func := "catacomb/catacomblaw26.CommandUnlike", spec := "commandUnlike", unfollowed := true, recurses := true, apart := false, narrowed := true }
def CommandUnlikeUptoSaid : Prop := commandUnlikeUptoRow.holds Try.pinned (OpenSpec.upto commandUnlikeSpec)

/-- 'catacomblaw26.CommandReads', WHERE WHAT IT READS IS OF BULK AT MOST 1048576: true; the input reads as it did. -/
def commandReadsUptoRow : OpenClaim := { program := "ytjhkhdockiocgaa", sum := "0e186677867452362e8b230218c4a3f2b73637b8af788af2c25669770e202fdd", func := "catacomb/catacomblaw26.CommandReads", spec := "commandReads", unfollowed := true, recurses := true, apart := false, narrowed := true }
def CommandReadsUptoSaid : Prop := commandReadsUptoRow.holds Try.pinned (OpenSpec.upto commandReadsSpec)

/-- 'catacomblaw26.CommandBytes', WHERE WHAT IT READS IS OF BULK AT MOST 1048576: true; the input reads as it did. -/
def commandBytesUptoRow : OpenClaim := { program := "ytjhkhdockiocgaa", sum := "0e186677867452362e8b230218c4a3f2b73637b8af788af2c25669770e202fdd", func := "catacomb/catacomblaw26.CommandBytes", spec := "commandBytes", unfollowed := true, recurses := true, apart := false, narrowed := true }
def CommandBytesUptoSaid : Prop := commandBytesUptoRow.holds Try.pinned (OpenSpec.upto commandBytesSpec)

/-- 'catacomblaw10.JournalOver', WHERE WHAT IT READS IS OF BULK AT MOST 1048576: true; the input reads as it did. -/
def journalOverUptoRow : OpenClaim := { program := "ytjhkhdockiocgaa", sum := "0e186677867452362e8b230218c4a3f2b73637b8af788af2c25669770e202fdd", func := "catacomb/catacomblaw10.JournalOver", spec := "journalOver", unfollowed := true, recurses := true, apart := false, narrowed := true }
def JournalOverUptoSaid : Prop := journalOverUptoRow.holds Try.pinned (OpenSpec.upto journalOverSpec)

/-- 'catacomblaw10.JournalWhole', WHERE WHAT IT READS IS OF BULK AT MOST 1048576: true; the input reads as it did. -/
def journalWholeUptoRow : OpenClaim := { program := "ytjhkhdockiocgaa", sum := "0e186677867452362e8b230218c4a3f2b73637b8af788af2c25669770e202fdd", func := "catacomb/catacomblaw10.JournalWhole", spec := "journalWhole", unfollowed := true, recurses := true, apart := false, narrowed := true }
def JournalWholeUptoSaid : Prop := journalWholeUptoRow.holds Try.pinned (OpenSpec.upto journalWholeSpec)

/-- 'catacomblaw10.JournalKeeps', WHERE WHAT IT READS IS OF BULK AT MOST 1048576: true; the input reads as it did. -/
def journalKeepsUptoRow : OpenClaim := { program := "ytjhkhdockiocgaa", sum := "0e186677867452362e8b230218c4a3f2b73637b8af788af2c25669770e202fdd", func := "catacomb/catacomblaw10.JournalKeeps", spec := "journalKeeps", unfollowed := true, recurses := true, apart := false, narrowed := true }
def JournalKeepsUptoSaid : Prop := journalKeepsUptoRow.holds Try.pinned (OpenSpec.upto journalKeepsSpec)

/-- 'catacomblaw10.JournalArgs', WHERE WHAT IT READS IS OF BULK AT MOST 1048576: true; the input reads as it did. -/
def journalArgsUptoRow : OpenClaim := { program := "ytjhkhdockiocgaa", sum := "0e186677867452362e8b230218c4a3f2b73637b8af788af2c25669770e202fdd", func := "catacomb/catacomblaw10.JournalArgs", spec := "journalArgs", unfollowed := true, recurses := true, apart := false, narrowed := true }
def JournalArgsUptoSaid : Prop := journalArgsUptoRow.holds Try.pinned (OpenSpec.upto journalArgsSpec)

/-- 'catacomblaw11.VaultForgets', WHERE WHAT IT READS IS OF BULK AT MOST 1048576: true; the input reads as it did. -/
def vaultForgetsUptoRow : OpenClaim := { program := "ytjhkhdockiocgaa", sum := "0e186677867452362e8b230218c4a3f2b73637b8af788af2c25669770e202fdd", func := "catacomb/catacomblaw11.VaultForgets", spec := "vaultForgets", unfollowed := true, recurses := true, apart := false, narrowed := true }
def VaultForgetsUptoSaid : Prop := vaultForgetsUptoRow.holds Try.pinned (OpenSpec.upto vaultForgetsSpec)

/-- 'catacomblaw11.VaultKeeps', WHERE WHAT IT READS IS OF BULK AT MOST 1048576: true; the input reads as it did. -/
def vaultKeepsUptoRow : OpenClaim := { program := "ytjhkhdockiocgaa", sum := "0e186677867452362e8b230218c4a3f2b73637b8af788af2c25669770e202fdd", func := "catacomb/catacomblaw11.VaultKeeps", spec := "vaultKeeps", unfollowed := true, recurses := true, apart := false, narrowed := true }
def VaultKeepsUptoSaid : Prop := vaultKeepsUptoRow.holds Try.pinned (OpenSpec.upto vaultKeepsSpec)

/-- 'catacomblaw17.HoldPlays', WHERE WHAT IT READS IS OF BULK AT MOST 1048576: true; the input reads as it did. -/
def holdPlaysUptoRow : OpenClaim := { program := "ytjhkhdockiocgaa", sum := "0e186677867452362e8b230218c4a3f2b73637b8af788af2c25669770e202fdd", func := "catacomb/catacomblaw17.HoldPlays", spec := "holdPlays", inPlace := ["maps.clone"], unfollowed := true, recurses := true, apart := false, narrowed := true }
def HoldPlaysUptoSaid : Prop := holdPlaysUptoRow.holds Try.pinned (OpenSpec.upto holdPlaysSpec)

/-- 'catacomblaw17.HoldNone', WHERE WHAT IT READS IS OF BULK AT MOST 1048576: true; the input reads as it did. -/
def holdNoneUptoRow : OpenClaim := { program := "ytjhkhdockiocgaa", sum := "0e186677867452362e8b230218c4a3f2b73637b8af788af2c25669770e202fdd", func := "catacomb/catacomblaw17.HoldNone", spec := "holdNone", inPlace := ["maps.clone"], unfollowed := true, recurses := true, apart := false, narrowed := true }
def HoldNoneUptoSaid : Prop := holdNoneUptoRow.holds Try.pinned (OpenSpec.upto holdNoneSpec)

end Rows
end Go.Proofs.Ytjhkhdockiocgaa
