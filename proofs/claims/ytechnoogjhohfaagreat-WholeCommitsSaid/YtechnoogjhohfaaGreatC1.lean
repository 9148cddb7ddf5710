/-
  Joined by a program from texts written one by one: part 1 of the walk through the program and of the law behind it.
-/
import Derived.Below
import Derived.Deep.AppendLies
import Derived.Deep.DeepCutAuto
import Derived.Deep.Draws
import Derived.Deep.QuietTactic
import Derived.Deep.RegionHeld3
import Derived.Laws.OwnMore
import Derived.Maps.AppendAt
import Derived.OwnWalk
import Derived.ProofKit
import Derived.RegionTactic
import Derived.Test.YtechnoogjhohfaaGreatRows
import Derived.WalkKit
import Derived.WalkSmall
set_option maxRecDepth 100000
set_option maxHeartbeats 6400000
set_option linter.unusedVariables false
set_option linter.unusedSimpArgs false
namespace Go.Proofs.YtechnoogjhohfaaGreat
open Go.RowKit
section
theorem Zt (a:Addr) (n:Nat):(a.add n).block=a.block:=by unfold Addr.add;split<;>rfl
theorem zeN (a:Addr) (i j:Nat):(a.add i).add j=a.add (i+j):=by
 unfold Addr.add
 by_cases hi:i=0<;>by_cases hj:j=0<;>simp [hi,hj,Nat.add_assoc]
def zx (w:World) (B size:Nat) (A:Option Addr) (n:Nat) (xs:List Value):Prop :=
 xs.length=n*size/\(0<n->∃ ad,A=some ad/\ad.block<B/\∀ j u,xs[j]?=some u->w.cell? (ad.add j)=some u)
section
variable {w w':World} {B B' size n:Nat} {A:Option Addr} {xs:List Value}
theorem zx.none_:zx w B size A 0 []:=⟨by simp,fun h=>absurd h (by omega)⟩
theorem zx.at_ {k:Nat} (h:zx w B 1 A n xs) (hk:k<n):∃ ad u,A=some ad/\ad.block<B/\xs[k]?=some u/\w.cell? (ad.add k)=some u:=by
 obtain ⟨ad,e,hb,hc⟩:=h.2 (by omega)
 have hl:k<xs.length:=by have:=h.1;omega
 exact ⟨ad,xs[k],e,hb,List.getElem?_eq_getElem hl,hc k _ (List.getElem?_eq_getElem hl)⟩
theorem zx.keep (h:zx w B size A n xs) (hk:∀ p:Addr,p.block<B->w'.cell? p=w.cell? p):zx w' B size A n xs :=
 ⟨h.1,fun hn=>by
  obtain ⟨ad,e,hb,hc⟩:=h.2 hn
  exact ⟨ad,e,hb,fun j u hu=>(hk _ (by rw [Zt];exact hb)).trans (hc j u hu)⟩⟩
theorem zx.more (h:zx w B size A n xs) (hB:B<=B'):zx w B' size A n xs :=
 ⟨h.1,fun hn=>by
  obtain ⟨ad,e,hb,hc⟩:=h.2 hn
  exact ⟨ad,e,by omega,hc⟩⟩
theorem zx.below (h:zx w B size A n xs) (hb:Below B w w'):zx w' B size A n xs:=h.keep fun _ hp=>hb.cell hp
theorem zx.alloc (h:zx w B size A n xs) (hB:B<=w.heap.size) (o:Obj):zx (w.alloc o) B size A n xs:=h.keep fun p hp=>World.cell?_alloc_lt w o p (by omega)
theorem zx.setCell (h:zx w B size A n xs) {p:Addr} (hB:B<=p.block) (u:Value):zx (w.setCell p u) B size A n xs :=
 h.keep fun q hq=>World.cell?_setCell_other w p q u (fun e=>by subst e;omega)
theorem zx.grown (h:zx w B size A n xs) {row:Option Nat} (hg:w.grownBy w' row) (hB:B<=w.heap.size) (hr:∀ g,row=some g->B<=g):zx w' B size A n xs :=
 h.keep fun p hp=>World.cell?_of_block (hg.block p.block (by omega) (fun e=>by have:=hr _ e.symm;omega))
theorem zx.cut (h:zx w B size A n xs) {k cap:Nat} (hk:k<=n) (hc:n<=cap) :
  zx w B size (if cap=k then A else A.map (·.add (k*size))) (n-k) (xs.drop (k*size)):=by
 refine ⟨by rw [List.length_drop,h.1,Nat.sub_mul],fun hn=>?_⟩
 obtain ⟨ad,rfl,hb,hcell⟩:=h.2 (by omega)
 rw [if_neg (by omega)]
 refine ⟨ad.add (k*size),rfl,by rw [Zt];exact hb,fun j u hu=>?_⟩
 rw [zeN]
 exact hcell _ u (by rw [<- hu,List.getElem?_drop])
theorem zx.of_own {base:Nat} {e:TypeId} {c:Nat} (h:w.ownsRow base e size (.slice A n c) n xs):zx w w.heap.size size A n xs:=by
 refine ⟨h.1,fun hn=>?_⟩
 obtain ⟨g,cap,hv,_,hlt⟩:=h.form hn
 have hA:A=some ⟨g,0,none⟩:=by injection hv
 subst hA
 exact ⟨_,rfl,hlt,h.cells (g:=g) rfl⟩
end
section
variable {P:Program} (w:World)
theorem Gl (base:Nat) (t ty e:TypeId) (i:TypeInfo) (size:Nat) (ht:P.underlying t=some (.slice e)) (hi:P.info? e=some i)
  (v:Value) (n:Nat) (xs:List Value) (hown:w.ownsRow base e size v n xs) (c:Nat):(Builtin.append_ #[t,t] ty #[v,.slice none 0 c]).run P w=.ok v w:=by
 rcases hown.2 with ⟨rfl,rfl⟩ | ⟨g,cap,cur,rfl,_,_,hnc,_⟩
 ·simp [Builtin.append_,run_underlying ht,sizeOf,typeInfo,hi,Builtin.lenOf,Builtin.firstCells]
 ·simp [Builtin.append_,run_underlying ht,sizeOf,typeInfo,hi,Builtin.lenOf,Builtin.firstCells,hnc,storeCells]
theorem Yr (base:Nat) (t ty e:TypeId) (i:TypeInfo) (z:Value) (size bytes:Nat) (ht:P.underlying t=some (.slice e)) (hi:P.info? e=some i) (hz:i.zero=some z)
  (hsize:i.size=size) (hby:i.bytes=bytes) (hzs:z.cells.size=size) (hsz:0<size)
  (v:Value) (n:Nat) (xs:List Value) (hown:w.ownsRow base e size v n xs)
  (B:Nat) (A:Option Addr) (m c:Nat) (news:List Value) (hr:zx w B size A m news) (h1:∀ u∈news,u.oneCell'=true)
  (h63:n+m<=maxLen) (hbytes:(n+m)*bytes<=140737488355328) (hbase:base<=w.heap.size) :
  ∃ v' w',(Builtin.append_ #[t,t] ty #[v,.slice A m c]).run P w=.ok v' w'/\w'.ownsRow base e size v' (n+m) (xs++news)/\w.grownBy w' v.ownBlock /\
   (v'.ownBlock=v.ownBlock∨v'.ownBlock=some w.heap.size):=by
 rcases A with _ | ad
 ·have hm:m=0:=by
   rcases Nat.eq_zero_or_pos m with h0 | h0
   ·exact h0
   ·obtain ⟨ad,h,_⟩:=hr.2 h0
    cases h
  subst hm
  have hn:news=[]:=List.eq_nil_of_length_eq_zero (by simpa using hr.1)
  subst hn
  exact ⟨v,w,Gl w base t ty e i size ht hi v n xs hown c,by simpa using hown,World.grownBy.refl w _,.inl rfl⟩
 ·have hcells:∀ j u,news[j]?=some u->w.cell? (ad.add j)=some u:=by
   intro j u hu
   rcases Nat.eq_zero_or_pos m with h0 | h0
   ·subst h0
    have hn:news=[]:=List.eq_nil_of_length_eq_zero (by simpa using hr.1)
    subst hn
    simp at hu
   ·obtain ⟨ad',h,_,hc⟩:=hr.2 h0
    injection h with h
    subst h
    exact hc j u hu
  obtain ⟨v',w',hrun,h2,h3,_,h5⟩:=run_append_own_at (P:=P) w base t ty e i z size bytes ht hi hz hsize hby hzs hsz v n xs hown ad m c news hr.1 hcells h1 h63 hbytes hbase
  exact ⟨v',w',hrun,h2,h3,h5⟩
theorem Kk {o:Oper} {a:Act} {K:Act->World->Prop} {Q:Exit->Act->World->Prop} (s x:Operand) (t:TypeId)
  (ho:o.op=.call { callee:=.builtin .append,args:=#[s,x],argTypes:=#[t,t] })
  (base:Nat) (e:TypeId) (i:TypeInfo) (z:Value) (size bytes:Nat) (ht:P.underlying t=some (.slice e)) (hi:P.info? e=some i) (hz:i.zero=some z)
  (hsize:i.size=size) (hby:i.bytes=bytes) (hzs:z.cells.size=size) (hsz:0<size)
  (v:Value) (n:Nat) (xs:List Value) (hs:a.eval s=v) (hown:w.ownsRow base e size v n xs)
  (B:Nat) (A:Option Addr) (m c:Nat) (news:List Value) (hx:a.eval x=.slice A m c) (hr:zx w B size A m news) (h1:∀ u∈news,u.oneCell'=true)
  (h63:n+m<=maxLen) (hbytes:(n+m)*bytes<=140737488355328) (hbase:base<=w.heap.size)
  (h:∀ v' w',w'.ownsRow base e size v' (n+m) (xs++news)->w.grownBy w' v.ownBlock->(v'.ownBlock=v.ownBlock∨v'.ownBlock=some w.heap.size)->K (a.put o.dst v') w'):o.wp P a w K Q:=by
 obtain ⟨v',w',hrun,h2,h3,h4⟩:=Yr (P:=P) w base t o.type e i z size bytes ht hi hz hsize hby hzs hsz v n xs hown B A m c news hr h1 h63 hbytes hbase
 unfold Oper.wp execOp
 simp only [ho,resolve,invoke,builtin,Sem.run_bind,Sem.run_pure,Result.andThen_ok,List.map_toArray,List.map_cons,List.map_nil,hs,hx,hrun]
 exact h v' w' h2 h3 h4
theorem yT {ops:Array Oper} {rest:List Oper} {o:Oper} {a:Act} {Q:Exit->Act->World->Prop} (hgd:o.guard=none) (s x:Operand) (t:TypeId)
  (ho:o.op=.call { callee:=.builtin .append,args:=#[s,x],argTypes:=#[t,t] })
  (base:Nat) (e:TypeId) (i:TypeInfo) (z:Value) (size bytes:Nat) (ht:P.underlying t=some (.slice e)) (hi:P.info? e=some i) (hz:i.zero=some z)
  (hsize:i.size=size) (hby:i.bytes=bytes) (hzs:z.cells.size=size) (hsz:0<size)
  (v:Value) (n:Nat) (xs:List Value) (hs:a.eval s=v) (hown:w.ownsRow base e size v n xs)
  (B:Nat) (A:Option Addr) (m c:Nat) (news:List Value) (hx:a.eval x=.slice A m c) (hr:zx w B size A m news) (h1:∀ u∈news,u.oneCell'=true)
  (h63:n+m<=maxLen) (hbytes:(n+m)*bytes<=140737488355328) (hbase:base<=w.heap.size)
  (h:∀ v' w',w'.ownsRow base e size v' (n+m) (xs++news)->w.grownBy w' v.ownBlock->(v'.ownBlock=v.ownBlock∨v'.ownBlock=some w.heap.size)->wpList P ops Q rest (a.put o.dst v') w'):wpList P ops Q (o::rest) a w :=
 wpList_plain hgd fun _ hK=>Kk w s x t ho base e i z size bytes ht hi hz hsize hby hzs hsz v n xs hs hown B A m c news hx hr h1 h63 hbytes hbase fun v' w' h2 h3 h4=>hK _ _ (h v' w' h2 h3 h4)
end
end
theorem hid {p:Prop} (h:p):Hid p:=h
theorem zi2 {a b:Prop} (A:a) (B:b):Hid a/\Hid b:=⟨A,B⟩
theorem zi3 {a b c:Prop} (A:a) (B:b) (C:c):Hid a/\Hid b/\Hid c:=⟨A,B,C⟩
theorem zi4 {a b c d:Prop} (A:a) (B:b) (C:c) (D:d):Hid a/\Hid b/\Hid c/\Hid d:=⟨A,B,C,D⟩
theorem zi5 {a b c d e:Prop} (A:a) (B:b) (C:c) (D:d) (E:e):Hid a/\Hid b/\Hid c/\Hid d/\Hid e:=⟨A,B,C,D,E⟩
theorem zi6 {a b c d e f:Prop} (A:a) (B:b) (C:c) (D:d) (E:e) (F:f):Hid a/\Hid b/\Hid c/\Hid d/\Hid e/\Hid f:=⟨A,B,C,D,E,F⟩
theorem zi7 {a b c d e f g:Prop} (A:a) (B:b) (C:c) (D:d) (E:e) (F:f) (G:g):Hid a/\Hid b/\Hid c/\Hid d/\Hid e/\Hid f/\Hid g:=⟨A,B,C,D,E,F,G⟩
theorem zi8 {a b c d e f g h:Prop} (A:a) (B:b) (C:c) (D:d) (E:e) (F:f) (G:g) (H:h):Hid a/\Hid b/\Hid c/\Hid d/\Hid e/\Hid f/\Hid g/\Hid h:=⟨A,B,C,D,E,F,G,H⟩
theorem zi9 {a b c d e f g h i:Prop} (A:a) (B:b) (C:c) (D:d) (E:e) (F:f) (G:g) (H:h) (I:i):Hid a/\Hid b/\Hid c/\Hid d/\Hid e/\Hid f/\Hid g/\Hid h/\Hid i:=⟨A,B,C,D,E,F,G,H,I⟩
theorem uE:(Tryz.prog.info? 5).map (fun i=>(i.zero,i.size,i.bytes))=some (some (.int .u8 0),1,1):=by kernel_rfl
def be (n:Nat) (x:Int) (j:Nat):List Value:=(List.range j).map fun i=>.int .u8 (x / 2 ^ (8*(n-1-i)) % 256)
theorem zjx (n:Nat) (x:Int) (j:Nat):be n x (j+1)=be n x j++[.int .u8 (x / 2 ^ (8*(n-1-j)) % 256)]:=by
 unfold be;rw [List.range_succ,List.map_append];rfl
theorem zjU (A:Option Addr) (len cap:Nat) (xs:List Value) (n:Nat) (x:Int) (w:World) (hr:zx w w.heap.size 1 A len xs) (h1:∀ u∈xs,u.oneCell'=true) (hn:n<=8) (hl:len<=1000000) :
  Calls Tryz.prog 59 #[.slice A len cap,.int .i64 n,.int .u64 x] w fun r w'=>∃ v,r=.returned v/\w'.ownsRow w.heap.size 5 1 v (len+n) (xs++be n x n)/\Below w.heap.size w w':=by
 obtain ⟨i0,hi,hz0,hz1,hz2⟩:=info_parts uE
 have H1:=hid h1
 clear h1
 go_enter Tryz.func59,Tryz.ntmps59
 go_wp2_with (at_builtin;refine yT _ rfl _ _ _ rfl w.heap.size 5 i0 _ 1 1 Tryz.underlying29 hi hz0 hz1 hz2 rfl (by omega) (.slice none 0 0) 0 [] rfl (World.ownsRow_nil _ _ _ _) w.heap.size A len cap xs rfl hr H1.out (by unfold maxLen;omega) (by omega) (Nat.le_refl _) ?_;intro v1 w1 hown1 hg1 hat1)
 have hb1:Below w.heap.size w w1:=(Below.refl _ _).grown hg1 (Nat.le_refl _) (by simp [Value.ownBlock])
 rw [Nat.zero_add,List.nil_append] at hown1
 go_loopw [7,8] (fun v u wr=>∃ j:Nat,j<=n/\u=.int .i64 ((n:Int)-1-j)/\wr.ownsRow w.heap.size 5 1 v (len+j) (xs++be n x j)/\Below w.heap.size w wr) (fun _ u _=>(intOf u+1).toNat)
 case atStart=>exact ⟨0,by omega,by go_num,by simpa [be] using hown1,hb1⟩
 case round =>
  obtain ⟨j,hj,rfl,hown,hbl⟩:=hrel
  by_cases hlt:j<n
  ·have hd:decide ((0:Int)<=(n:Int)-1-j)=true:=by simp;omega
   go_wp2_with (at_builtin;refine wpList_append_lies _ rfl _ _ 29 (by rfl) w.heap.size 5 i0 _ 1 1 Tryz.underlying29 hi hz0 hz1 hz2 rfl (by omega) u7 (len+j) (xs++be n x j) (by rfl) (hown.alloc _) ⟨wr.heap.size,0,none⟩ 1 1 [.int .u8 (x / 2 ^ (8*(n-1-j)) % 256)] (by rfl) (by rfl) (World.news_of_block (heap_alloc_new wr _)) (by simp [Value.oneCell']) (by omega) (by unfold maxLen;omega) (by omega) (Nat.le_trans hbl.size (by simp)) _ rfl ?_;intro gg cap1 w2 hown2 hgrow hat hlt2)
   have hb2:Below w.heap.size w w2:=(hbl.alloc hbl.size (.cells #[.int .u8 (x / 2 ^ (8*(n-1-j)) % 256)] 5)).grown hgrow (hbl.alloc hbl.size (.cells #[.int .u8 (x / 2 ^ (8*(n-1-j)) % 256)] 5)).size fun i hi=>(hown.lt i hi).1
   refine ⟨⟨j+1,by omega,by go_num,?_,hb2⟩,?_⟩
   ·rw [zjx,<- List.append_assoc];exact hown2
   ·simp [intOf];omega
  ·obtain rfl:j=n:=by omega
   have hd:decide ((0:Int)<=(j:Int)-1-j)=false:=by simp;omega
   go_wp2_with fail
   go_ret
   exact ⟨_,rfl,hown,hbl⟩
end Go.Proofs.YtechnoogjhohfaaGreat
