import Derived.ChangeSame
import Derived.Deep.Fields
import Derived.Deep.Slices
import Derived.ProofKit
import Derived.Test.YtechnoogjhohfaaGreatRows
import Derived.WalkKit
set_option maxRecDepth 100000
set_option maxHeartbeats 6400000
set_option linter.unusedVariables false
set_option linter.unusedSimpArgs false
namespace Go.Proofs.YtechnoogjhohfaaGreat
open Go.RowKit Go.ChangeShapes Go.WideShapes Go.Deep
section
section
variable {H:Type} {enc:TypeId × Value->H} {P:Program} {w:World} {base:Nat} {spare:Nat->Bool} {held:Bool}
theorem Below.stays {t:TypeId} (E:laidOutB P=true) (O:P.readableRec t=true) (R:t<P.types.size) {W z:World} {D:Nat->Bool} {v:Value} {d:DataW H} {u:List MemPlace}
  (h:DataW.Trod enc P W 0 (fun _=>true) true t v d u) (hb:Below W.heap.size W z) (L:∀ x∈u,x.block<W.heap.size) (U:∀ x∈u,D x.block=true) :
  DataW.Trod enc P z 0 D true t v d u :=
 WideElems.Trod_stays E O R h (fun x X=>hb.same (L x X)) U
end
end
end Go.Proofs.YtechnoogjhohfaaGreat
