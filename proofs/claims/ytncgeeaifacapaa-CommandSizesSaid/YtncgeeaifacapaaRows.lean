/-
  No cell of these rows narrows 'for every input' (looked for: loops, veiled, ifaces, maps, wideKeys, modest, calm, conditions, laid).
  DERIVED. THE GIVEN ROWS OF THIS SEAT. 12 by the template 'for every input the law returns true; each argument reads behind the call as it read before'; 0 by the template 'total and deterministic' (their statements: YtncgeeaifacapaaTotals.lean).
  GIVEN WITH THE SEED: the statements are not yours to turn. If you find one false, say at which input.
  Laid BY PROGRAM, IN A SANDBOX (cutbox-rows.mjs): the forced cells as the released guide's own fill.sh prints them over the translation 37e894984aec6a5d… (all of the seat's roots in one cut). By AI agents, Wed Nov 11 2026. No macro, syntax, notation, axiom, sorry.
-/
import Derived.Test.YtncgeeaifacapaaChecked
import GoSem.Claim
import GoSem.ClaimJoined
import GoSem.ClaimMapViews
import Derived.JoinedTies
import Derived.KernelRfl
namespace Go.Proofs.Ytncgeeaifacapaa
/- THE CELL 'sum', in the pinned program and in every row, IS THE sha256 OF THE DUMP (.gsa) THAT YtncgeeaifacapaaProg.lean LOADS. Nothing in Lean hashes anything: it is a label: what it is worth is what the hold of that sum in a sandbox is worth. -/
noncomputable def Try.pinned : Pinned := { name := "ytncgeeaifacapaa", sum := "37e894984aec6a5d48141fbe4c62fbc3a66de249071d87f2e84d16392fb7d4a6", checked := Try.checked }
namespace Rows
def none {H : Type} : Left H := { results := [], args := [] }

/-- 'catacomblaw03.OctetOrders': WHATEVER THE INPUT: true; the input reads as it did. -/
def octetOrdersSpec : ChangeSpec := { name := "octetOrders", fn := fun _ => fun
  | [d1, d2, d3] => { results := [.lit (.bool true)], args := [d1, d2, d3] }
  | _ => none }
def octetOrdersRow : OpenClaim := { program := "ytncgeeaifacapaa", sum := "37e894984aec6a5d48141fbe4c62fbc3a66de249071d87f2e84d16392fb7d4a6", func := "catacomb/catacomblaw03.OctetOrders", spec := "octetOrders", apart := false }
def OctetOrdersSaid : Prop := octetOrdersRow.holds Try.pinned (OpenSpec.ofChange octetOrdersSpec)

/-- ITS FALSE NEIGHBOUR: 'it returns false'. Refute it at one input. -/
def octetOrdersWrong : ChangeSpec := { name := "octetOrders", fn := fun _ => fun
  | [d1, d2, d3] => { results := [.lit (.bool false)], args := [d1, d2, d3] }
  | _ => none }
def OctetOrdersWrongFalsely : Prop := octetOrdersRow.holds Try.pinned (OpenSpec.ofChange octetOrdersWrong)

/-- 'catacomblaw09.StampJoins': WHATEVER THE INPUT: true; the input reads as it did. -/
def stampJoinsSpec : ChangeSpec := { name := "stampJoins", fn := fun _ => fun
  | [d1, d2, d3, d4, d5] => { results := [.lit (.bool true)], args := [d1, d2, d3, d4, d5] }
  | _ => none }
def stampJoinsRow : OpenClaim := { program := "ytncgeeaifacapaa", sum := "37e894984aec6a5d48141fbe4c62fbc3a66de249071d87f2e84d16392fb7d4a6", func := "catacomb/catacomblaw09.StampJoins", spec := "stampJoins", apart := false }
def StampJoinsSaid : Prop := stampJoinsRow.holds Try.pinned (OpenSpec.ofChange stampJoinsSpec)

/-- ITS FALSE NEIGHBOUR: 'it returns false'. Refute it at one input. -/
def stampJoinsWrong : ChangeSpec := { name := "stampJoins", fn := fun _ => fun
  | [d1, d2, d3, d4, d5] => { results := [.lit (.bool false)], args := [d1, d2, d3, d4, d5] }
  | _ => none }
def StampJoinsWrongFalsely : Prop := stampJoinsRow.holds Try.pinned (OpenSpec.ofChange stampJoinsWrong)

/-- 'catacomblaw17.HoldCovers': WHATEVER THE INPUT: true; the input reads as it did. -/
def holdCoversSpec : ChangeSpec := { name := "holdCovers", fn := fun _ => fun
  | [d1, d2, d3, d4] => { results := [.lit (.bool true)], args := [d1, d2, d3, d4] }
  | _ => none }
def holdCoversRow : OpenClaim := { program := "ytncgeeaifacapaa", sum := "37e894984aec6a5d48141fbe4c62fbc3a66de249071d87f2e84d16392fb7d4a6", func := "catacomb/catacomblaw17.HoldCovers", spec := "holdCovers", apart := false }
def HoldCoversSaid : Prop := holdCoversRow.holds Try.pinned (OpenSpec.ofChange holdCoversSpec)

/-- ITS FALSE NEIGHBOUR: 'it returns false'. Refute it at one input. -/
def holdCoversWrong : ChangeSpec := { name := "holdCovers", fn := fun _ => fun
  | [d1, d2, d3, d4] => { results := [.lit (.bool false)], args := [d1, d2, d3, d4] }
  | _ => none }
def HoldCoversWrongFalsely : Prop := holdCoversRow.holds Try.pinned (OpenSpec.ofChange holdCoversWrong)

/-- 'catacomblaw08.DeviceTorn': WHATEVER THE INPUT: true; the input reads as it did. -/
def deviceTornSpec : ChangeSpec := { name := "deviceTorn", fn := fun _ => fun
  | [d1, d2, d3, d4] => { results := [.lit (.bool true)], args := [d1, d2, d3, d4] }
  | _ => none }
def deviceTornRow : OpenClaim := { program := "ytncgeeaifacapaa", sum := "37e894984aec6a5d48141fbe4c62fbc3a66de249071d87f2e84d16392fb7d4a6", func := "catacomb/catacomblaw08.DeviceTorn", spec := "deviceTorn", apart := false }
def DeviceTornSaid : Prop := deviceTornRow.holds Try.pinned (OpenSpec.ofChange deviceTornSpec)

/-- ITS FALSE NEIGHBOUR: 'it returns false'. Refute it at one input. -/
def deviceTornWrong : ChangeSpec := { name := "deviceTorn", fn := fun _ => fun
  | [d1, d2, d3, d4] => { results := [.lit (.bool false)], args := [d1, d2, d3, d4] }
  | _ => none }
def DeviceTornWrongFalsely : Prop := deviceTornRow.holds Try.pinned (OpenSpec.ofChange deviceTornWrong)

/-- 'catacomblaw08.DeviceFlushes': WHATEVER THE INPUT: true; the input reads as it did. -/
def deviceFlushesSpec : ChangeSpec := { name := "deviceFlushes", fn := fun _ => fun
  | [d1, d2, d3] => { results := [.lit (.bool true)], args := [d1, d2, d3] }
  | _ => none }
def deviceFlushesRow : OpenClaim := { program := "ytncgeeaifacapaa", sum := "37e894984aec6a5d48141fbe4c62fbc3a66de249071d87f2e84d16392fb7d4a6", func := "catacomb/catacomblaw08.DeviceFlushes", spec := "deviceFlushes", apart := false }
def DeviceFlushesSaid : Prop := deviceFlushesRow.holds Try.pinned (OpenSpec.ofChange deviceFlushesSpec)

/-- ITS FALSE NEIGHBOUR: 'it returns false'. Refute it at one input. -/
def deviceFlushesWrong : ChangeSpec := { name := "deviceFlushes", fn := fun _ => fun
  | [d1, d2, d3] => { results := [.lit (.bool false)], args := [d1, d2, d3] }
  | _ => none }
def DeviceFlushesWrongFalsely : Prop := deviceFlushesRow.holds Try.pinned (OpenSpec.ofChange deviceFlushesWrong)

/-- 'catacomblaw09.StampTorn': WHATEVER THE INPUT: true; the input reads as it did. -/
def stampTornSpec : ChangeSpec := { name := "stampTorn", fn := fun _ => fun
  | [d1, d2, d3, d4] => { results := [.lit (.bool true)], args := [d1, d2, d3, d4] }
  | _ => none }
def stampTornRow : OpenClaim := { program := "ytncgeeaifacapaa", sum := "37e894984aec6a5d48141fbe4c62fbc3a66de249071d87f2e84d16392fb7d4a6", func := "catacomb/catacomblaw09.StampTorn", spec := "stampTorn", unfollowed := true, recurses := true, apart := false }
def StampTornSaid : Prop := stampTornRow.holds Try.pinned (OpenSpec.ofChange stampTornSpec)

/-- ITS FALSE NEIGHBOUR: 'it returns false'. Refute it at one input. -/
def stampTornWrong : ChangeSpec := { name := "stampTorn", fn := fun _ => fun
  | [d1, d2, d3, d4] => { results := [.lit (.bool false)], args := [d1, d2, d3, d4] }
  | _ => none }
def StampTornWrongFalsely : Prop := stampTornRow.holds Try.pinned (OpenSpec.ofChange stampTornWrong)

/-- 'catacomblaw03.OctetWrites': WHATEVER THE INPUT: true; the input reads as it did. -/
def octetWritesSpec : ChangeSpec := { name := "octetWrites", fn := fun _ => fun
  | [d] => { results := [.lit (.bool true)], args := [d] }
  | _ => none }
def octetWritesRow : OpenClaim := { program := "ytncgeeaifacapaa", sum := "37e894984aec6a5d48141fbe4c62fbc3a66de249071d87f2e84d16392fb7d4a6", func := "catacomb/catacomblaw03.OctetWrites", spec := "octetWrites", apart := false }
def OctetWritesSaid : Prop := octetWritesRow.holds Try.pinned (OpenSpec.ofChange octetWritesSpec)

/-- ITS FALSE NEIGHBOUR: 'it returns false'. Refute it at one input. -/
def octetWritesWrong : ChangeSpec := { name := "octetWrites", fn := fun _ => fun
  | [d] => { results := [.lit (.bool false)], args := [d] }
  | _ => none }
def OctetWritesWrongFalsely : Prop := octetWritesRow.holds Try.pinned (OpenSpec.ofChange octetWritesWrong)

/-- 'catacomblaw08.DeviceNone': WHATEVER THE INPUT: true; the input reads as it did. -/
def deviceNoneSpec : ChangeSpec := { name := "deviceNone", fn := fun _ => fun
  | [d1, d2] => { results := [.lit (.bool true)], args := [d1, d2] }
  | _ => none }
def deviceNoneRow : OpenClaim := { program := "ytncgeeaifacapaa", sum := "37e894984aec6a5d48141fbe4c62fbc3a66de249071d87f2e84d16392fb7d4a6", func := "catacomb/catacomblaw08.DeviceNone", spec := "deviceNone", unfollowed := true, recurses := true, apart := false }
def DeviceNoneSaid : Prop := deviceNoneRow.holds Try.pinned (OpenSpec.ofChange deviceNoneSpec)

/-- ITS FALSE NEIGHBOUR: 'it returns false'. Refute it at one input. -/
def deviceNoneWrong : ChangeSpec := { name := "deviceNone", fn := fun _ => fun
  | [d1, d2] => { results := [.lit (.bool false)], args := [d1, d2] }
  | _ => none }
def DeviceNoneWrongFalsely : Prop := deviceNoneRow.holds Try.pinned (OpenSpec.ofChange deviceNoneWrong)

/-- 'catacomblaw09.StampPacks': WHATEVER THE INPUT: true; the input reads as it did. -/
def stampPacksSpec : ChangeSpec := { name := "stampPacks", fn := fun _ => fun
  | [d] => { results := [.lit (.bool true)], args := [d] }
  | _ => none }
def stampPacksRow : OpenClaim := { program := "ytncgeeaifacapaa", sum := "37e894984aec6a5d48141fbe4c62fbc3a66de249071d87f2e84d16392fb7d4a6", func := "catacomb/catacomblaw09.StampPacks", spec := "stampPacks", unfollowed := true, recurses := true, apart := false }
def StampPacksSaid : Prop := stampPacksRow.holds Try.pinned (OpenSpec.ofChange stampPacksSpec)

/-- ITS FALSE NEIGHBOUR: 'it returns false'. Refute it at one input. -/
def stampPacksWrong : ChangeSpec := { name := "stampPacks", fn := fun _ => fun
  | [d] => { results := [.lit (.bool false)], args := [d] }
  | _ => none }
def StampPacksWrongFalsely : Prop := stampPacksRow.holds Try.pinned (OpenSpec.ofChange stampPacksWrong)

/-- 'catacomblaw38.WipeTraces': WHATEVER THE INPUT: true; the input reads as it did. -/
def wipeTracesSpec : ChangeSpec := { name := "wipeTraces", fn := fun _ => fun
  | [d1, d2, d3] => { results := [.lit (.bool true)], args := [d1, d2, d3] }
  | _ => none }
def wipeTracesRow : OpenClaim := { program := "ytncgeeaifacapaa", sum := "37e894984aec6a5d48141fbe4c62fbc3a66de249071d87f2e84d16392fb7d4a6", func := "catacomb/catacomblaw38.WipeTraces", spec := "wipeTraces", inPlace := ["internal/bytealg.IndexByte", "internal/bytealg.Index"], named := ["internal/bytealg.MaxLen"], apart := false }
def WipeTracesSaid : Prop := wipeTracesRow.holds Try.pinned (OpenSpec.ofChange wipeTracesSpec)

/-- ITS FALSE NEIGHBOUR: 'it returns false'. Refute it at one input. -/
def wipeTracesWrong : ChangeSpec := { name := "wipeTraces", fn := fun _ => fun
  | [d1, d2, d3] => { results := [.lit (.bool false)], args := [d1, d2, d3] }
  | _ => none }
def WipeTracesWrongFalsely : Prop := wipeTracesRow.holds Try.pinned (OpenSpec.ofChange wipeTracesWrong)

/-- 'catacomblaw26.CommandSizes': WHATEVER THE INPUT: true; the input reads as it did. -/
def commandSizesSpec : ChangeSpec := { name := "commandSizes", fn := fun _ => fun
  | [d1, d2, d3] => { results := [.lit (.bool true)], args := [d1, d2, d3] }
  | _ => none }
def commandSizesRow : OpenClaim := { program := "ytncgeeaifacapaa", sum := "37e894984aec6a5d48141fbe4c62fbc3a66de249071d87f2e84d16392fb7d4a6", func := "catacomb/catacomblaw26.CommandSizes", spec := "commandSizes", unfollowed := true, recurses := true, apart := false }
def CommandSizesSaid : Prop := commandSizesRow.holds Try.pinned (OpenSpec.ofChange commandSizesSpec)

/-- ITS FALSE NEIGHBOUR: 'it returns false'. Refute it at one input. -/
def commandSizesWrong : ChangeSpec := { name := "commandSizes", fn := fun _ => fun
  | [d1, d2, d3] => { results := [.lit (.bool false)], args := [d1, d2, d3] }
  | _ => none }
def CommandSizesWrongFalsely : Prop := commandSizesRow.holds Try.pinned (OpenSpec.ofChange commandSizesWrong)

/-- 'catacomblaw26.CommandUnlike': WHATEVER THE INPUT: true; the input reads as it did. -/
def commandUnlikeSpec : ChangeSpec := { name := "commandUnlike", fn := fun _ => fun
  | [d1, d2] => { results := [.lit (.bool true)], args := [d1, d2] }
  | _ => none }
def commandUnlikeRow : OpenClaim := { program := "ytncgeeaifacapaa", sum := "37e894984aec6a5d48141fbe4c62fbc3a66de249071d87f2e84d16392fb7d4a6", func := "catacomb/catacomblaw26.CommandUnlike", spec := "commandUnlike", unfollowed := true, recurses := true, apart := false }
def CommandUnlikeSaid : Prop := commandUnlikeRow.holds Try.pinned (OpenSpec.ofChange commandUnlikeSpec)

/-- ITS FALSE NEIGHBOUR: 'it returns false'. Refute it at one input. -/
def commandUnlikeWrong : ChangeSpec := { name := "commandUnlike", fn := fun _ => fun
  | [d1, d2] => { results := [.lit (.bool false)], args := [d1, d2] }
  | _ => none }
def CommandUnlikeWrongFalsely : Prop := commandUnlikeRow.holds Try.pinned (OpenSpec.ofChange commandUnlikeWrong)

/- THE SECOND FORM. 'bulk': how many values and letters a reading holds, each counted each time it is reached (what is shared counts as often as it is met; a slice's spare places count too). A statement '..UptoSaid' is the law's where the arguments, and the package variables that the reading takes, are together of bulk at most 1048576: NARROWER than '..Said'. Prove '..Said' where nothing that the law and all that it calls make is longer than what came in: it says more and counts as full. Else prove '..UptoSaid'. A law counts once. -/
mutual
def uptoBulk {H : Type} : DataW H → Nat
  | .lit (.string bytes) => bytes.length + 1
  | .lit _ => 1
  | .nil => 1
  | .ptr d => uptoBulk d + 1
  | .slice elems spare => uptoBulkAll elems + uptoBulkAll spare + 1
  | .agg parts => uptoBulkAll parts + 1
  | .iface _ d => uptoBulk d + 1
  | .map entries => uptoBulkEntries entries + 1
  | .held _ => 1
def uptoBulkAll {H : Type} : List (DataW H) → Nat
  | [] => 0
  | d :: r => uptoBulk d + uptoBulkAll r
def uptoBulkEntries {H : Type} : List (Lit × DataW H) → Nat
  | [] => 0
  | x :: r => uptoBulkEntry x + uptoBulkEntries r
def uptoBulkEntry {H : Type} : Lit × DataW H → Nat
  | (.string bytes, d) => bytes.length + uptoBulk d + 1
  | (_, d) => uptoBulk d + 1
 end
def uptoSmall : (H : Type) → List (DataW H) → Bool := fun _ ds => decide (uptoBulkAll ds ≤ 1048576)
def OpenSpec.upto (s : _root_.Go.ChangeSpec) : _root_.Go.OpenSpec := { _root_.Go.OpenSpec.ofChange s with cond := some uptoSmall }

/-- 'catacomblaw03.OctetOrders', WHERE WHAT IT READS IS OF BULK AT MOST 1048576: true; the input reads as it did. -/
def octetOrdersUptoRow : OpenClaim := { program := "ytncgeeaifacapaa", sum := "37e894984aec6a5d48141fbe4c62fbc3a66de249071d87f2e84d16392fb7d4a6", func := "catacomb/catacomblaw03.OctetOrders", spec := "octetOrders", apart := false, narrowed := true }
def OctetOrdersUptoSaid : Prop := octetOrdersUptoRow.holds Try.pinned (OpenSpec.upto octetOrdersSpec)

/-- 'catacomblaw09.StampJoins', WHERE WHAT IT READS IS OF BULK AT MOST 1048576: true; the input reads as it did. -/
def stampJoinsUptoRow : OpenClaim := { program := "ytncgeeaifacapaa", sum := "37e894984aec6a5d48141fbe4c62fbc3a66de249071d87f2e84d16392fb7d4a6", func := "catacomb/catacomblaw09.StampJoins", spec := "stampJoins", apart := false, narrowed := true }
def StampJoinsUptoSaid : Prop := stampJoinsUptoRow.holds Try.pinned (OpenSpec.upto stampJoinsSpec)

/-- 'catacomblaw17.HoldCovers', WHERE WHAT IT READS IS OF BULK AT MOST 1048576: true; the input reads as it did. -/
def holdCoversUptoRow : OpenClaim := { program := "ytncgeeaifacapaa", sum := "37e894984aec6a5d48141fbe4c62fbc3a66de249071d87f2e84d16392fb7d4a6", func := "catacomb/catacomblaw17.HoldCovers", spec := "holdCovers", apart := false, narrowed := true }
def HoldCoversUptoSaid : Prop := holdCoversUptoRow.holds Try.pinned (OpenSpec.upto holdCoversSpec)

/-- 'catacomblaw08.DeviceTorn', WHERE WHAT IT READS IS OF BULK AT MOST 1048576: true; the input reads as it did. -/
def deviceTornUptoRow : OpenClaim := { program := "ytncgeeaifacapaa", sum := "37e894984aec6a5d48141fbe4c62fbc3a66de249071d87f2e84d16392fb7d4a6", func := "catacomb/catacomblaw08.DeviceTorn", spec := "deviceTorn", apart := false, narrowed := true }
def DeviceTornUptoSaid : Prop := deviceTornUptoRow.holds Try.pinned (OpenSpec.upto deviceTornSpec)

/-- 'catacomblaw08.DeviceFlushes', WHERE WHAT IT READS IS OF BULK AT MOST 1048576: true; the input reads as it did. -/
def deviceFlushesUptoRow : OpenClaim := { program := "ytncgeeaifacapaa", sum := "37e894984aec6a5d48141fbe4c62fbc3a66de249071d87f2e84d16392fb7d4a6", func := "catacomb/catacomblaw08.DeviceFlushes", spec := "deviceFlushes", apart := false, narrowed := true }
def DeviceFlushesUptoSaid : Prop := deviceFlushesUptoRow.holds Try.pinned (OpenSpec.upto deviceFlushesSpec)

/-- 'catacomblaw09.StampTorn', WHERE WHAT IT READS IS OF BULK AT MOST 1048576: true; the input reads as it did. -/
def stampTornUptoRow : OpenClaim := { program := "ytncgeeaifacapaa", sum := "37e894984aec6a5d48141fbe4c62fbc3a66de249071d87f2e84d16392fb7d4a6", func := "catacomb/catacomblaw09.StampTorn", spec := "stampTorn", unfollowed := true, recurses := true, apart := false, narrowed := true }
def StampTornUptoSaid : Prop := stampTornUptoRow.holds Try.pinned (OpenSpec.upto stampTornSpec)

/-- 'catacomblaw03.OctetWrites', WHERE WHAT IT READS IS OF BULK AT MOST 1048576: true; the input reads as it did. -/
def octetWritesUptoRow : OpenClaim := { program := "ytncgeeaifacapaa", sum := "37e894984aec6a5d48141fbe4c62fbc3a66de249071d87f2e84d16392fb7d4a6", func := "catacomb/catacomblaw03.OctetWrites", spec := "octetWrites", apart := false, narrowed := true }
def OctetWritesUptoSaid : Prop := octetWritesUptoRow.holds Try.pinned (OpenSpec.upto octetWritesSpec)

/-- 'catacomblaw08.DeviceNone', WHERE WHAT IT READS IS OF BULK AT MOST 1048576: true; the input reads as it did. -/
def deviceNoneUptoRow : OpenClaim := { program := "ytncgeeaifacapaa", sum := "37e894984aec6a5d48141fbe4c62fbc3a66de249071d87f2e84d16392fb7d4a6", func := "catacomb/catacomblaw08.DeviceNone", spec := "deviceNone", unfollowed := true, recurses := true, apart := false, narrowed := true }
def DeviceNoneUptoSaid : Prop := deviceNoneUptoRow.holds Try.pinned (OpenSpec.upto deviceNoneSpec)

/-- 'catacomblaw09.StampPacks', WHERE WHAT IT READS IS OF BULK AT MOST 1048576: true; the input reads as it did. -/
def stampPacksUptoRow : OpenClaim := { program := "ytncgeeaifacapaa", sum := "37e894984aec6a5d48141fbe4c62fbc3a66de249071d87f2e84d16392fb7d4a6", func := "catacomb/catacomblaw09.StampPacks", spec := "stampPacks", unfollowed := true, recurses := true, apart := false, narrowed := true }
def StampPacksUptoSaid : Prop := stampPacksUptoRow.holds Try.pinned (OpenSpec.upto stampPacksSpec)

/-- 'catacomblaw38.WipeTraces', WHERE WHAT IT READS IS OF BULK AT MOST 1048576: true; the input reads as it did. -/
def wipeTracesUptoRow : OpenClaim := { program := "ytncgeeaifacapaa", sum := "37e894984aec6a5d48141fbe4c62fbc3a66de249071d87f2e84d16392fb7d4a6", func := "catacomb/catacomblaw38.WipeTraces", spec := "wipeTraces", inPlace := ["internal/bytealg.IndexByte", "internal/bytealg.Index"], named := ["internal/bytealg.MaxLen"], apart := false, narrowed := true }
def WipeTracesUptoSaid : Prop := wipeTracesUptoRow.holds Try.pinned (OpenSpec.upto wipeTracesSpec)

/-- 'catacomblaw26.CommandSizes', WHERE WHAT IT READS IS OF BULK AT MOST 1048576: true; the input reads as it did. -/
def commandSizesUptoRow : OpenClaim := { program := "ytncgeeaifacapaa", sum := "37e894984aec6a5d48141fbe4c62fbc3a66de249071d87f2e84d16392fb7d4a6", func := "catacomb/catacomblaw26.CommandSizes", spec := "commandSizes", unfollowed := true, recurses := true, apart := false, narrowed := true }
def CommandSizesUptoSaid : Prop := commandSizesUptoRow.holds Try.pinned (OpenSpec.upto commandSizesSpec)

/-- 'catacomblaw26.CommandUnlike', WHERE WHAT IT READS IS OF BULK AT MOST 1048576: true; the input reads as it did. -/
def commandUnlikeUptoRow : OpenClaim := { program := "ytncgeeaifacapaa", sum := "37e894984aec6a5d48141fbe4c62fbc3a66de249071d87f2e84d16392fb7d4a6", func := "catacomb/catacomblaw26.CommandUnlike", spec := "commandUnlike", unfollowed := true, recurses := true, apart := false, narrowed := true }
def CommandUnlikeUptoSaid : Prop := commandUnlikeUptoRow.holds Try.pinned (OpenSpec.upto commandUnlikeSpec)

end Rows
end Go.Proofs.Ytncgeeaifacapaa
