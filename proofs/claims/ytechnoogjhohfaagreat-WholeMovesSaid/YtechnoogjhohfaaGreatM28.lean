import Derived.Test.YtechnoogjhohfaaGreatM27
import Derived.StringKeys
set_option maxRecDepth 100000
set_option maxHeartbeats 6400000
set_option linter.unusedVariables false
set_option linter.unusedSimpArgs false
namespace Go.Proofs.YtechnoogjhohfaaGreat
open Go.RowKit Go.Lib Go.Maps
open YtechnoogjhohfaaGreatW
section
section
variable {bz:Nat->Prop} {H D r boots ct G:Nat} {ep nx hd tn:Int} {its its' its2:List It} {rw:Rw} {w:World}
end
end
def RowsIn (w:World) (A:Option Addr) (n:Nat):Prop:=n=0∨∃ g off,A=some ⟨g,off,none⟩/\g<w.heap.size/\∀ i,i<n->∃ (t:Int) (k v:ByteArray),w.cell? ⟨g,off+i*3,none⟩=some (.int .i64 t)/\w.cell? ⟨g,off+i*3+1,none⟩=some (.string k)/\w.cell? ⟨g,off+i*3+2,none⟩=some (.string v)
def zjs (w:World) (A:Option Addr) (n:Nat):Prop:=n=0∨∃ g off,A=some ⟨g,off,none⟩/\g<w.heap.size/\∀ i,i<n->∃ x:Int,w.cell? ⟨g,off+i,none⟩=some (.int .u64 x)
end Go.Proofs.YtechnoogjhohfaaGreat
