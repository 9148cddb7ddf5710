import Derived.Below
import Derived.Deep.AppendLies
import Derived.Deep.DeepCutAuto
import Derived.Deep.Draws
import Derived.Deep.QuietTactic
import Derived.Deep.RegionHeld3
import Derived.Laws.OwnMore
import Derived.Maps.AppendAt
import Derived.OwnWalk
import Derived.ProofKit
import Derived.RegionTactic
import Derived.Test.YtechnoogjhohfaaGreatRows
import Derived.WalkKit
import Derived.WalkSmall
set_option maxRecDepth 100000
set_option maxHeartbeats 6400000
set_option linter.unusedVariables false
set_option linter.unusedSimpArgs false
namespace Go.Proofs.YtechnoogjhohfaaGreat
open Go.RowKit
section
theorem Qv (a:Addr) (n:Nat):(a.add n).block=a.block:=by unfold Addr.add;split<;>rfl
theorem zjG (a:Addr) (i j:Nat):(a.add i).add j=a.add (i+j):=by unfold Addr.add;by_cases h:i=0<;>by_cases u:j=0<;>simp [h,u,Nat.add_assoc]
def zL (w:World) (B size:Nat) (A:Option Addr) (n:Nat) (xs:List Value):Prop :=
 xs.length=n*size/\(0<n->∃ ad,A=some ad/\ad.block<B/\∀ j u,xs[j]?=some u->w.cell? (ad.add j)=some u)
section
variable {w w':World} {B B' size n:Nat} {A:Option Addr} {xs:List Value}
theorem zL.cz:zL w B size A 0 []:=⟨by simp,fun h=>absurd h (by omega)⟩
theorem zL.cb {k:Nat} (h:zL w B 1 A n xs) (E:k<n):∃ ad u,A=some ad/\ad.block<B/\xs[k]?=some u/\w.cell? (ad.add k)=some u:=by
 obtain ⟨ad,e,hb,D⟩:=h.2 (by omega);have z:k<xs.length:=by have:=h.1;omega
 exact ⟨ad,xs[k],e,hb,List.getElem?_eq_getElem z,D k _ (List.getElem?_eq_getElem z)⟩
theorem zL.ac (h:zL w B size A n xs) (D:∀ p:Addr,p.block<B->w'.cell? p=w.cell? p):zL w' B size A n xs :=
 ⟨h.1,fun E=>by
  obtain ⟨ad,e,hb,z⟩:=h.2 E;exact ⟨ad,e,hb,fun j u L=>(D _ (by rw [Qv];exact hb)).trans (z j u L)⟩⟩
theorem zL.bp (h:zL w B size A n xs) (D:B<=B'):zL w B' size A n xs :=
 ⟨h.1,fun z=>by
  obtain ⟨ad,e,hb,u⟩:=h.2 z;exact ⟨ad,e,by omega,u⟩⟩
theorem zL.below (h:zL w B size A n xs) (hb:Below B w w'):zL w' B size A n xs:=h.ac fun _ u=>hb.cell u
theorem zL.alloc (h:zL w B size A n xs) (u:B<=w.heap.size) (o:Obj):zL (w.alloc o) B size A n xs:=h.ac fun p z=>World.cell?_alloc_lt w o p (by omega)
theorem zL.setCell (h:zL w B size A n xs) {p:Addr} (z:B<=p.block) (u:Value):zL (w.setCell p u) B size A n xs :=
 h.ac fun q D=>World.cell?_setCell_other w p q u (fun e=>by subst e;omega)
theorem zL.grown (h:zL w B size A n xs) {row:Option Nat} (u:w.grownBy w' row) (D:B<=w.heap.size) (z:∀ g,row=some g->B<=g):zL w' B size A n xs :=
 h.ac fun p E=>World.cell?_of_block (u.block p.block (by omega) (fun e=>by have:=z _ e.symm;omega))
theorem zL.cut (h:zL w B size A n xs) {k cap:Nat} (L:k<=n) (E:n<=cap) :
  zL w B size (if cap=k then A else A.map (·.add (k*size))) (n-k) (xs.drop (k*size)):=by
 refine ⟨by rw [List.length_drop,h.1,Nat.sub_mul],fun O=>?_⟩;obtain ⟨ad,rfl,hb,z⟩:=h.2 (by omega);rw [if_neg (by omega)];refine ⟨ad.add (k*size),rfl,by rw [Qv];exact hb,fun j u D=>?_⟩;rw [zjG];exact z _ u (by rw [<- D,List.getElem?_drop])
theorem zL.aj {base:Nat} {e:TypeId} {c:Nat} (h:w.ownsRow base e size (.slice A n c) n xs):zL w w.heap.size size A n xs:=by
 refine ⟨h.1,fun D=>?_⟩;obtain ⟨g,cap,E,_,z⟩:=h.form D;have u:A=some ⟨g,0,none⟩:=by injection E
 subst u;exact ⟨_,rfl,z,h.cells (g:=g) rfl⟩
end
section
variable {P:Program} (w:World)
theorem zcG (base:Nat) (t ty e:TypeId) (i:TypeInfo) (size:Nat) (u:P.underlying t=some (.slice e)) (h:P.info? e=some i)
  (v:Value) (n:Nat) (xs:List Value) (D:w.ownsRow base e size v n xs) (c:Nat):(Builtin.append_ #[t,t] ty #[v,.slice none 0 c]).run P w=.ok v w:=by
 rcases D.2 with ⟨rfl,rfl⟩ | ⟨g,cap,cur,rfl,_,_,z,_⟩
 ·simp [Builtin.append_,run_underlying u,sizeOf,typeInfo,h,Builtin.lenOf,Builtin.firstCells]
 ·simp [Builtin.append_,run_underlying u,sizeOf,typeInfo,h,Builtin.lenOf,Builtin.firstCells,z,storeCells]
theorem zan (base:Nat) (t ty e:TypeId) (i:TypeInfo) (z:Value) (size L:Nat) (X:P.underlying t=some (.slice e)) (U:P.info? e=some i) (hz:i.zero=some z)
  (a7:i.size=size) (a3:i.bytes=L) (a9:z.cells.size=size) (a8:0<size)
  (v:Value) (n:Nat) (xs:List Value) (R:w.ownsRow base e size v n xs)
  (B:Nat) (A:Option Addr) (m c:Nat) (D:List Value) (E:zL w B size A m D) (Z:∀ u∈D,u.oneCell'=true)
  (a0:n+m<=maxLen) (a4:(n+m)*L<=140737488355328) (a1:base<=w.heap.size) :
  ∃ v' w',(Builtin.append_ #[t,t] ty #[v,.slice A m c]).run P w=.ok v' w'/\w'.ownsRow base e size v' (n+m) (xs++D)/\w.grownBy w' v.ownBlock /\
   (v'.ownBlock=v.ownBlock∨v'.ownBlock=some w.heap.size):=by
 rcases A with _ | ad
 ·have hm:m=0:=by
   rcases Nat.eq_zero_or_pos m with h0 | h0
   ·exact h0
   ·obtain ⟨ad,h,_⟩:=E.2 h0;cases h
  subst hm;have O:D=[]:=List.eq_nil_of_length_eq_zero (by simpa using E.1);subst O;exact ⟨v,w,zcG w base t ty e i size X U v n xs R c,by simpa using R,World.grownBy.refl w _,.inl rfl⟩
 ·have a5:∀ j u,D[j]?=some u->w.cell? (ad.add j)=some u:=by
   intro j u Y;rcases Nat.eq_zero_or_pos m with h0 | h0
   ·subst h0;have O:D=[]:=List.eq_nil_of_length_eq_zero (by simpa using E.1);subst O;simp at Y
   ·obtain ⟨b9,h,_,hc⟩:=E.2 h0;injection h with h;subst h;exact hc j u Y
  obtain ⟨v',w',a6,h2,h3,_,h5⟩:=run_append_own_at (P:=P) w base t ty e i z size L X U hz a7 a3 a9 a8 v n xs R ad m c D E.1 a5 Z a0 a4 a1;exact ⟨v',w',a6,h2,h3,h5⟩
theorem zbq {o:Oper} {a:Act} {K:Act->World->Prop} {Q:Exit->Act->World->Prop} (s x:Operand) (t:TypeId)
  (ho:o.op=.call { callee:=.builtin .append,args:=#[s,x],argTypes:=#[t,t] })
  (base:Nat) (e:TypeId) (i:TypeInfo) (z:Value) (size D:Nat) (ht:P.underlying t=some (.slice e)) (hi:P.info? e=some i) (hz:i.zero=some z)
  (a3:i.size=size) (Y:i.bytes=D) (a5:z.cells.size=size) (a4:0<size)
  (v:Value) (n:Nat) (xs:List Value) (hs:a.eval s=v) (a0:w.ownsRow base e size v n xs)
  (B:Nat) (A:Option Addr) (m c:Nat) (u:List Value) (hx:a.eval x=.slice A m c) (hr:zL w B size A m u) (E:∀ a6∈u,a6.oneCell'=true)
  (U:n+m<=maxLen) (Z:(n+m)*D<=140737488355328) (X:base<=w.heap.size)
  (h:∀ v' w',w'.ownsRow base e size v' (n+m) (xs++u)->w.grownBy w' v.ownBlock->(v'.ownBlock=v.ownBlock∨v'.ownBlock=some w.heap.size)->K (a.put o.dst v') w'):o.wp P a w K Q:=by
 obtain ⟨v',w',a1,L,O,R⟩:=zan (P:=P) w base t o.type e i z size D ht hi hz a3 Y a5 a4 v n xs a0 B A m c u hr E U Z X;unfold Oper.wp execOp;simp only [ho,resolve,invoke,builtin,Sem.run_bind,Sem.run_pure,Result.andThen_ok,List.map_toArray,List.map_cons,List.map_nil,hs,hx,a1];exact h v' w' L O R
theorem uK {ops:Array Oper} {rest:List Oper} {o:Oper} {a:Act} {Q:Exit->Act->World->Prop} (a1:o.guard=none) (s x:Operand) (t:TypeId)
  (ho:o.op=.call { callee:=.builtin .append,args:=#[s,x],argTypes:=#[t,t] })
  (base:Nat) (e:TypeId) (i:TypeInfo) (z:Value) (size D:Nat) (ht:P.underlying t=some (.slice e)) (hi:P.info? e=some i) (hz:i.zero=some z)
  (a4:i.size=size) (Z:i.bytes=D) (a6:z.cells.size=size) (a5:0<size)
  (v:Value) (n:Nat) (xs:List Value) (hs:a.eval s=v) (a3:w.ownsRow base e size v n xs)
  (B:Nat) (A:Option Addr) (m c:Nat) (u:List Value) (hx:a.eval x=.slice A m c) (hr:zL w B size A m u) (E:∀ a7∈u,a7.oneCell'=true)
  (U:n+m<=maxLen) (a0:(n+m)*D<=140737488355328) (Y:base<=w.heap.size)
  (h:∀ v' w',w'.ownsRow base e size v' (n+m) (xs++u)->w.grownBy w' v.ownBlock->(v'.ownBlock=v.ownBlock∨v'.ownBlock=some w.heap.size)->wpList P ops Q rest (a.put o.dst v') w'):wpList P ops Q (o::rest) a w :=
 wpList_plain a1 fun _ X=>zbq w s x t ho base e i z size D ht hi hz a4 Z a6 a5 v n xs hs a3 B A m c u hx hr E U a0 Y fun v' w' L O R=>X _ _ (h v' w' L O R)
end
end
def Hid (p:Prop):Prop:=p
theorem Hid.o {p:Prop} (h:Hid p):p:=h
theorem Hid.out {p:Prop} (h:Hid p):p:=h
abbrev zr:=@List.getElem?_eq_some_iff
abbrev zl:=@List.length_append
abbrev zC:=@List.mem_of_getElem?
abbrev zX:=@List.getElem?_eq_getElem
abbrev qu:=@Array.getElem?_eq_some_iff
abbrev zz:=@Nat.le_trans
abbrev qw:=@List.getElem?_set_self
abbrev qg:=@Nat.lt_of_lt_of_le
abbrev qf:=@List.length_take
abbrev qp:=@Int.toNat_natCast
abbrev qc:=@List.length_cons
abbrev zO:=@List.mem_cons
abbrev qi:=@List.take_length
abbrev qk:=@Option.map_some
abbrev yd:=@List.eq_nil_of_length_eq_zero
abbrev qY:=@List.getElem?_set_ne
abbrev qC:=@List.flatMap_cons
abbrev qH:=@List.size_toArray
abbrev zT:=@Nat.zero_le
abbrev yH:=@List.take_succ_eq_append_getElem
abbrev jh:=@List.mem_cons_of_mem
abbrev qI:=@List.length_drop
abbrev jG:=@List.take_of_length_le
abbrev ji:=@List.mem_cons_self
abbrev jd:=@Option.some.injEq
abbrev qZ:=@List.not_mem_nil
abbrev ja:=@List.mem_append
abbrev jq:=@List.append_assoc
abbrev za:=@Nat.le_refl
abbrev qy:=@Nat.zero_add
abbrev vf:=@List.mem_or_eq_of_mem_set
abbrev vg:=@List.getElem?_append_right
abbrev jr:=@List.length_nil
abbrev vZ:=@List.getElem?_append_left
abbrev jM:=@List.foldl_cons
abbrev zd (w W:World):Prop:=Below w.heap.size w W
theorem hid {p:Prop} (h:p):Hid p:=h
theorem zi2 {a b:Prop} (A:a) (B:b):Hid a/\Hid b:=⟨A,B⟩
theorem zi3 {a b c:Prop} (A:a) (B:b) (C:c):Hid a/\Hid b/\Hid c:=⟨A,B,C⟩
theorem zi4 {a b c d:Prop} (A:a) (B:b) (C:c) (D:d):Hid a/\Hid b/\Hid c/\Hid d:=⟨A,B,C,D⟩
theorem zi5 {a b c d e:Prop} (A:a) (B:b) (C:c) (D:d) (E:e):Hid a/\Hid b/\Hid c/\Hid d/\Hid e:=⟨A,B,C,D,E⟩
theorem zi6 {a b c d e f:Prop} (A:a) (B:b) (C:c) (D:d) (E:e) (F:f):Hid a/\Hid b/\Hid c/\Hid d/\Hid e/\Hid f:=⟨A,B,C,D,E,F⟩
theorem zi7 {a b c d e f g:Prop} (A:a) (B:b) (C:c) (D:d) (E:e) (F:f) (G:g):Hid a/\Hid b/\Hid c/\Hid d/\Hid e/\Hid f/\Hid g:=⟨A,B,C,D,E,F,G⟩
theorem zi8 {a b c d e f g h:Prop} (A:a) (B:b) (C:c) (D:d) (E:e) (F:f) (G:g) (H:h):Hid a/\Hid b/\Hid c/\Hid d/\Hid e/\Hid f/\Hid g/\Hid h:=⟨A,B,C,D,E,F,G,H⟩
theorem zi9 {a b c d e f g h i:Prop} (A:a) (B:b) (C:c) (D:d) (E:e) (F:f) (G:g) (H:h) (I:i):Hid a/\Hid b/\Hid c/\Hid d/\Hid e/\Hid f/\Hid g/\Hid h/\Hid i:=⟨A,B,C,D,E,F,G,H,I⟩
theorem QU:(Tryz.prog.info? 5).map (fun i=>(i.zero,i.size,i.bytes))=some (some (.int .u8 0),1,1):=by kernel_rfl
def be (n:Nat) (x:Int) (j:Nat):List Value:=(List.range j).map fun i=>.int .u8 (x / 2 ^ (8*(n-1-i)) % 256)
theorem zoG (n:Nat) (x:Int) (j:Nat):be n x (j+1)=be n x j++[.int .u8 (x / 2 ^ (8*(n-1-j)) % 256)]:=by unfold be;rw [List.range_succ,List.map_append];rfl
theorem zpk (A:Option Addr) (len cap:Nat) (xs:List Value) (n:Nat) (x:Int) (w:World) (hr:zL w w.heap.size 1 A len xs) (E:∀ u∈xs,u.oneCell'=true) (hn:n<=8) (hl:len<=1000000) :
  Calls Tryz.prog 59 #[.slice A len cap,.int .i64 n,.int .u64 x] w fun r w'=>∃ v,r=.returned v/\w'.ownsRow w.heap.size 5 1 v (len+n) (xs++be n x n)/\zd w w':=by
 obtain ⟨X,z,O,R,U⟩:=info_parts QU;have Y:=hid E;clear E;go_enter Tryz.func59,Tryz.ntmps59;go_wp2_with (at_builtin;refine uK _ rfl _ _ _ rfl w.heap.size 5 X _ 1 1 Tryz.underlying29 z O R U rfl (by omega) (.slice none 0 0) 0 [] rfl (World.ownsRow_nil _ _ _ _) w.heap.size A len cap xs rfl hr Y.o (by unfold maxLen;omega) (by omega) (za _) ?_;intro v1 w1 L a1 a7);have Z:zd w w1:=(Below.refl _ _).grown a1 (za _) (by simp [Value.ownBlock]);rw [qy,List.nil_append] at L;go_loopw [7,8] (fun v u wr=>∃ j:Nat,j<=n/\u=.int .i64 ((n:Int)-1-j)/\wr.ownsRow w.heap.size 5 1 v (len+j) (xs++be n x j)/\zd w wr) (fun _ u _=>(intOf u+1).toNat)
 case atStart=>exact ⟨0,by omega,by go_num,by simpa [be] using L,Z⟩
 case round =>
  obtain ⟨j,hj,rfl,D,h⟩:=hrel;by_cases a8:j<n
  ·have hd:decide ((0:Int)<=(n:Int)-1-j)=true:=by simp;omega
   go_wp2_with (at_builtin;refine wpList_append_lies _ rfl _ _ 29 (by rfl) w.heap.size 5 X _ 1 1 Tryz.underlying29 z O R U rfl (by omega) u7 (len+j) (xs++be n x j) (by rfl) (D.alloc _) ⟨wr.heap.size,0,none⟩ 1 1 [.int .u8 (x / 2 ^ (8*(n-1-j)) % 256)] (by rfl) (by rfl) (World.news_of_block (heap_alloc_new wr _)) (by simp [Value.oneCell']) (by omega) (by unfold maxLen;omega) (by omega) (zz h.size (by simp)) _ rfl ?_;intro gg a5 w2 a4 a3 a6 a9);have a0:zd w w2:=(h.alloc h.size (.cells #[.int .u8 (x / 2 ^ (8*(n-1-j)) % 256)] 5)).grown a3 (h.alloc h.size (.cells #[.int .u8 (x / 2 ^ (8*(n-1-j)) % 256)] 5)).size fun i z=>(D.lt i z).1;refine ⟨⟨j+1,by omega,by go_num,?_,a0⟩,?_⟩
   ·rw [zoG,<- jq];exact a4
   ·simp [intOf];omega
  ·obtain rfl:j=n:=by omega
   have hd:decide ((0:Int)<=(j:Int)-1-j)=false:=by simp;omega
   go_wp2_with fail;go_ret;exact ⟨_,rfl,D,h⟩
end Go.Proofs.YtechnoogjhohfaaGreat
