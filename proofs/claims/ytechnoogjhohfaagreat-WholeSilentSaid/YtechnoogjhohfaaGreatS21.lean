import Derived.BigQuiet
import Derived.BigRegion
import Derived.Deep.AppendLies
import Derived.Deep.DeepCutAuto
import Derived.Deep.QuietTactic
import Derived.Deep.RegionHeld3
import Derived.Laws.BytesArg
import Derived.Laws.CopyOwn
import Derived.OwnWalk
import Derived.ProofKit
import Derived.Test.YtechnoogjhohfaaGreatRows
import Derived.WalkKit
import Derived.WalkSmall
set_option maxRecDepth 100000
set_option maxHeartbeats 6400000
set_option linter.unusedVariables false
set_option linter.unusedSimpArgs false
namespace Go.Proofs.YtechnoogjhohfaaGreat.Rs
open Go.RowKit
def Hid (p:Prop):Prop:=p
theorem Hid.o {p:Prop} (h:Hid p):p:=h
theorem Hid.out {p:Prop} (h:Hid p):p:=h
theorem hid {p:Prop} (h:p):Hid p:=h
theorem zi2 {a b:Prop} (A:a) (B:b):Hid a/\Hid b:=⟨A,B⟩
theorem zi3 {a b c:Prop} (A:a) (B:b) (C:c):Hid a/\Hid b/\Hid c:=⟨A,B,C⟩
theorem zi4 {a b c d:Prop} (A:a) (B:b) (C:c) (D:d):Hid a/\Hid b/\Hid c/\Hid d:=⟨A,B,C,D⟩
theorem zi5 {a b c d e:Prop} (A:a) (B:b) (C:c) (D:d) (E:e):Hid a/\Hid b/\Hid c/\Hid d/\Hid e:=⟨A,B,C,D,E⟩
theorem zi6 {a b c d e f:Prop} (A:a) (B:b) (C:c) (D:d) (E:e) (F:f):Hid a/\Hid b/\Hid c/\Hid d/\Hid e/\Hid f:=⟨A,B,C,D,E,F⟩
theorem zi7 {a b c d e f g:Prop} (A:a) (B:b) (C:c) (D:d) (E:e) (F:f) (G:g):Hid a/\Hid b/\Hid c/\Hid d/\Hid e/\Hid f/\Hid g:=⟨A,B,C,D,E,F,G⟩
theorem zi8 {a b c d e f g h:Prop} (A:a) (B:b) (C:c) (D:d) (E:e) (F:f) (G:g) (H:h):Hid a/\Hid b/\Hid c/\Hid d/\Hid e/\Hid f/\Hid g/\Hid h:=⟨A,B,C,D,E,F,G,H⟩
theorem zi9 {a b c d e f g h i:Prop} (A:a) (B:b) (C:c) (D:d) (E:e) (F:f) (G:g) (H:h) (I:i):Hid a/\Hid b/\Hid c/\Hid d/\Hid e/\Hid f/\Hid g/\Hid h/\Hid i:=⟨A,B,C,D,E,F,G,H,I⟩
def iok (x:Int):Prop:=(Lit.int .i64 x).wf=true
end Go.Proofs.YtechnoogjhohfaaGreat.Rs
