/- Commands whose numbers are of 64 bits. -/
import Derived.Test.YtjhkhdockiocgaaCmd4
namespace Go.Proofs.Ytjhkhdockiocgaa
def I64 (x : Int) : Prop := -9223372036854775808 ≤ x ∧ x ≤ 9223372036854775807
structure Cmd.Ok (x : Cmd) (ps : List Pnt) : Prop where
  kind : I64 x.kind
  rlo : I64 x.rlo
  rhi : I64 x.rhi
  praw : I64 x.praw
  pmid : I64 x.pmid
  plong : I64 x.plong
  hlo : I64 x.hlo
  hhi : I64 x.hhi
  bytes : I64 x.bytes
  count : I64 x.count
  at_ : I64 x.at_
  pts : ∀ p ∈ ps, I64 p.at_ ∧ I64 p.val
end Go.Proofs.Ytjhkhdockiocgaa
