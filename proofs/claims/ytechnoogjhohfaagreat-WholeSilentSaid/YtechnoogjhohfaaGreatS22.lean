import Derived.Test.YtechnoogjhohfaaGreatS21
import Derived.Test.YtechnoogjhohfaaGreatS8
set_option maxRecDepth 100000
set_option maxHeartbeats 6400000
set_option linter.unusedVariables false
set_option linter.unusedSimpArgs false
namespace Go.Proofs.YtechnoogjhohfaaGreat.Rs
open Go.RowKit
structure Ent where
 pl:Int
 kd:Int
 tx:Int
 pg:Int
 sl:Int
 bf:ByteArray
 af:ByteArray
 im:ByteArray
 dv:Value
 dl:List Int
def Ent.cells (e:Ent):List Value:=[.int .u64 e.pl,.int .i64 e.kd,.int .i64 e.tx,.int .i64 e.pg,.int .i64 e.sl,.string e.bf,.string e.af,.string e.im,e.dv]
def Ent.val (e:Ent):Value:=.agg #[.int .u64 e.pl,.int .i64 e.kd,.int .i64 e.tx,.int .i64 e.pg,.int .i64 e.sl,.string e.bf,.string e.af,.string e.im,e.dv]
def DirtyAt (w:World) (e:Ent):Prop :=
 (e.dv=.slice none 0 0/\e.dl=[])∨∃ g off cap cs t,e.dv=.slice (some ⟨g,off,none⟩) e.dl.length cap/\t≠144/\t≠167/\t≠150/\w.heap[g]?=some (.cells cs t (0,0))/\e.dl.length<=maxLen/\∀ i,i<e.dl.length->cs[off+i]?=some (.int .u64 (e.dl.getD i 0))
theorem DirtyAt.below {w w':World} {e:Ent} (h:DirtyAt w e) (b:zd w w'):DirtyAt w' e:=by
 rcases h with h | ⟨g,off,cap,cs,t,z,h0,D,E,u,L⟩
 ·exact .inl h
 ·exact .inr ⟨g,off,cap,cs,t,z,h0,D,E,(b.block g (qu.1 u).1).trans u,L⟩
def leastOf (a:Int) (l:List Int):Int:=l.foldl (fun a d=>if 0<d then (if d<a then d else a) else a) a
theorem zhq (a:Int) (l:List Int) (i:Nat) (h:i<l.length):leastOf a (l.take (i+1))=if 0<l.getD i 0 then (if l.getD i 0<leastOf a (l.take i) then l.getD i 0 else leastOf a (l.take i)) else leastOf a (l.take i):=by
 have e:l.take (i+1)=l.take i++[l.getD i 0]:=by rw [List.take_add_one,List.getD,zX h];rfl
 unfold leastOf;rw [e,List.foldl_append];rfl
theorem zmw (e:Ent) (w:World) (hd:DirtyAt w e):zc 120 #[e.val] w fun r w'=>r=.returned (.int .u64 (leastOf e.pl e.dl))/\zd w w':=by
 obtain ⟨pl,kd,tx,pg,sl,bf,af,im,dv,u⟩:=e;unfold Ent.val;rcases hd with ⟨z,O⟩ | ⟨g,off,cap,cs,t,z,h0,O,h3,R,U,X⟩
 ·simp only at z O;subst z O;simp only;go_enter Tryz.func120,Tryz.ntmps120;go_wp2;refine wp_loop_rounds 1 ?_;rw [rounds_succ];go_wp2;go_ret;exact ⟨rfl,(zf _ _).alloc (za _) _⟩
 ·simp only at z U X;subst z;simp only;have a4:=(qu.1 R).1;have Z:=hid X;clear X;go_enter Tryz.func120,Tryz.ntmps120;go_wp2;generalize hW:w.alloc _=W;have hb:zd w W:=by rw [<- hW];exact (zf _ _).alloc (za _) _
  have a1:W.heap[g]?=some (.cells cs t (0,0)):=(hb.block g a4).trans R;clear hW R;obtain ⟨n,D⟩:=ex u.length;have a6:n<=9223372036854775807:=by rw [D];exact U
  have HN:=hid D;rw [<- D] at Z ⊢;clear D U;go_loopw [3,12] (fun a5 v wr=>∃ k:Nat,k<=n/\a5=.int .u64 (leastOf pl (u.take k))/\v=.int .i64 k/\wr=W) (fun _ v _=>((n:Int)-intOf v).toNat)
  case atStart=>exact ⟨0,by omega,rfl,rfl,rfl⟩
  case round =>
   obtain ⟨i,hi,rfl,rfl,rfl⟩:=hrel;by_cases a0:i<n
   ·obtain ⟨d,Y⟩:=ex (u.getD i 0);have hc:wr.cell? ⟨g,off+i,none⟩=some (.int .u64 d):=by rw [ze wr g (off+i) _ _ _ a1,Z.o i a0,Y]
    have h:=zhq pl u i (by rw [<- HN.o];exact a0);rw [<- Y] at h;clear Y;by_cases E:0<d
    ·have a3:decide (0<d)=true:=by simpa using E
     rw [if_pos E] at h;have L:=hid h;clear h;go_wp2;go_roundw
     case rel=>exact ⟨i+1,by omega,by rw [L.o],by go_num,by trivial⟩
     case measure=>simp [intOf];omega
    ·have a3:decide (0<d)=false:=by simpa using E
     rw [if_neg E] at h;have L:=hid h;clear h;go_wp2;go_roundw
     case rel=>exact ⟨i+1,by omega,by rw [L.o],by go_num,by trivial⟩
     case measure=>simp [intOf];omega
   ·obtain rfl:i=n:=by omega
    go_wp2;go_ret;have:u.take i=u:=by rw [HN.o,qi]
    rw [this];exact ⟨rfl,hb⟩
def againB (fr:Int) (e:Ent) (mark:Int) (h:Bool):Bool :=
 (decide (e.kd=3) || decide (e.kd=4)) && decide (fr<=e.pl) && (if h=true then !e.im.toList.isEmpty else decide (mark<e.pl))
theorem again_any (fr:Int) (v0 v1 v2 v3:Value) (U X Y Z:Bool) (e:Ent) (mark:Int) (u:Bool) (w:World) :
  zc 122 #[.agg #[.int .u64 fr,v0,v1,v2,v3,.bool U,.bool X,.bool Y,.bool Z],e.val,.int .u64 mark,.bool u] w fun r w'=>r=.returned (.bool (againB fr e mark u))/\zd w w':=by
 obtain ⟨pl,kd,tx,pg,sl,E,D,R,O,L⟩:=e;obtain ⟨B,h⟩:∃ B,againB fr ⟨pl,kd,tx,pg,sl,E,D,R,O,L⟩ mark u=B:=⟨_,rfl⟩;rw [h];have z:=hid h;clear h;unfold Ent.val;simp only;go_enter Tryz.func122,Tryz.ntmps122;go_wp2
 all_goals
  go_ret;refine ⟨?_,((zf _ _).alloc (za _) _).alloc (by simp) _⟩;have hb:=z.o;unfold againB at hb;rw [<- hb];clear hb z;congr 2
  first
   | (simp;omega)
   | (simp [*];done)
   | (simp [*];omega)
end Go.Proofs.YtechnoogjhohfaaGreat.Rs
namespace Go.Proofs.YtechnoogjhohfaaGreat.Rs
open Go.RowKit
theorem B_alloc {a w:World} (h:zd a w) (o:Obj):zd a (w.alloc o):=h.alloc h.size o
theorem B_set {a w:World} (h:zd a w) {p:Addr} (z:a.heap.size<=p.block) (u:Value):zd a (w.setCell p u):=h.setCell z u
theorem B_call {a w w':World} (h:zd a w) (k:zd w w'):zd a w':=h.trans (k.mono h.size)
theorem jC {w:World} {o:Obj} {p:Addr} {v:Value} (h:w.cell? p=some v):(w.alloc o).cell? p=some v:=by rw [World.cell?_alloc_lt _ _ _ (World.block_lt_of_cell? _ _ h)];exact h
theorem zdi {w w':World} {k:Nat} {o:Obj} (b:zd w w') (h:w.heap[k]?=some o):w'.heap[k]?=some o:=(b.block k (qu.1 h).1).trans h
theorem uM {w w':World} {p:Addr} {v:Value} (b:zd w w') (h:w.cell? p=some v):w'.cell? p=some v:=(b.cell (World.block_lt_of_cell? _ _ h)).trans h
theorem yJ {w:World} {b o z o':Nat} {u v:Value} (D:b≠z) (h:w.cell? ⟨z,o',none⟩=some v):(w.setCell ⟨b,o,none⟩ u).cell? ⟨z,o',none⟩=some v:=(World.cell?_setCell_far w _ _ u D).trans h
theorem zlh {w:World} {k:Nat} {o o':Obj} (h:w.heap[k]?=some o):(w.alloc o').heap[k]?=some o:=(qb w o' k (qu.1 h).1).trans h
theorem Yk {w:World} {k:Nat} {o o':Obj} (h:w.heap[k]?=some o):(w.alloc o').drew.heap[k]?=some o:=zlh h
theorem DirtyAt.slice {w:World} {e:Ent} (h:DirtyAt w e):∃ A n c,e.dv=.slice A n c:=by
 rcases h with h | ⟨_,_,_,_,_,h,_⟩
 ·exact ⟨_,_,_,h.1⟩
 ·exact ⟨_,_,_,h⟩
def rowOf (es:List Ent):List Value:=es.flatMap Ent.cells
theorem zqs (w:World) (u h:Obj):((w.alloc u).alloc h).heap[w.heap.size+1]?=some h:=by have:=heap_alloc_new (w.alloc u) h;rwa [World.size_alloc] at this
theorem zlX {w w':World} {B:Nat} {e:TypeId} {k:Nat} {v:Value} {n:Nat} {xs:List Value} (h:w.ownsRow B e k v n xs) (hb:zd w w'):w'.ownsRow B e k v n xs :=
 h.kept (row:=none) ⟨hb.os,hb.tape,hb.output,hb.size,fun j u _=>hb.block j u⟩ (by cases z:v.ownBlock<;>simp)
end Go.Proofs.YtechnoogjhohfaaGreat.Rs
namespace Go.Proofs.YtechnoogjhohfaaGreat.Rs
open Go.RowKit
structure Chg where
 pg:Int
 sl:Int
 bf:ByteArray
deriving DecidableEq
def Chg.cells (c:Chg):List Value:=[.int .i64 c.pg,.int .i64 c.sl,.string c.bf]
def Ent.al (e:Ent):Chg:=⟨e.pg,e.sl,e.bf⟩
structure One where
 l:List Chg
 o:Bool
def One.step (s:One) (e:Ent):One :=
 if e.kd=2∨e.kd=3 then ⟨s.l++[e.al],true⟩ else if e.kd=4 then ⟨s.l.dropLast,s.o⟩ else if e.kd=5∨e.kd=6 then ⟨[],false⟩ else s
def slotOf (t:Int):Nat:=if t<1∨3<t then 0 else t.toNat
structure Pln where
 fr:Int
 s:Nat->One
def Pln.step (p:Pln) (e:Ent):Pln :=
 if e.kd=7 then ⟨leastOf e.pl e.dl,p.s⟩ else ⟨p.fr,fun n=>if n=slotOf e.tx then (p.s n).step e else p.s n⟩
def zkh:Pln:=⟨0,fun _=>⟨[],false⟩⟩
def planOf (es:List Ent):Pln:=es.foldl Pln.step zkh
end Go.Proofs.YtechnoogjhohfaaGreat.Rs
namespace Go.Proofs.YtechnoogjhohfaaGreat.Rs
open Go.RowKit
def chgs (l:List Chg):List Value:=l.flatMap Chg.cells
def planCells (p:Pln) (V:Nat->Value):Array Value:=#[.int .u64 p.fr,V 0,V 1,V 2,V 3,.bool (p.s 0).o,.bool (p.s 1).o,.bool (p.s 2).o,.bool (p.s 3).o]
structure jB (B:Nat) (w:World) (g:Nat) (V:Nat->Value) (p:Pln):Prop where
 U:w.heap[g]?=some (.cells (planCells p V) 164 (0,0))
 ba:∀ i,i<4->w.ownsRow B 150 3 (V i) (p.s i).l.length (chgs (p.s i).l)
 apart:∀ i j,i<4->j<4->i≠j->(V i).ownBlock=none∨(V i).ownBlock≠(V j).ownBlock
theorem own_ne {w:World} {B:Nat} {v:Value} {n:Nat} {xs:List Value} {e:TypeId} {s:Nat} (h:w.ownsRow B e s v n xs) {g:Nat} {cs:Array Value} {t:TypeId} (D:w.heap[g]?=some (.cells cs t (0,0))) (E:t≠e):v.ownBlock≠some g:=by
 intro hb;rcases h.2 with ⟨rfl,_⟩ | ⟨z,cap,cur,rfl,_,u,_⟩
 ·simp [Value.ownBlock] at hb
 ·have:z=g:=by simpa [Value.ownBlock] using hb
  subst this;rw [D] at u;injection u with u;injection u with _ u;exact E u
theorem zcz {w:World} {B:Nat} {v:Value} {n:Nat} {xs:List Value} {e:TypeId} {s:Nat} (h:w.ownsRow B e s v n xs) {g:Nat} {cs:Array Value} {t:TypeId} (z:w.heap[g]?=some (.cells cs t (0,0))) (E:t≠e) (o:Nat) (u:Value):(w.setCell ⟨g,o,none⟩ u).ownsRow B e s v n xs :=
 h.kept (row:=some g) ⟨rfl,rfl,rfl,by simp,fun k _ D=>zt w ⟨g,o,none⟩ k u (fun e=>D (by simp [e]))⟩ (.inr (own_ne h z E))
theorem own_slice {w:World} {B:Nat} {v:Value} {n:Nat} {xs:List Value} {e:TypeId} {s:Nat} (h:w.ownsRow B e s v n xs):∃ A c,v=.slice A n c:=by
 rcases h.2 with ⟨rfl,rfl⟩ | ⟨u,cap,cur,rfl,_⟩
 ·exact ⟨_,_,rfl⟩
 ·exact ⟨_,_,rfl⟩
section
variable {B:Nat} {w w':World} {g:Nat} {V:Nat->Value} {p:Pln}
theorem jB.lt (h:jB B w g V p):g<w.heap.size:=(qu.1 h.U).1
theorem jB.ne (h:jB B w g V p) {i:Nat} (u:i<4):(V i).ownBlock≠some g:=own_ne (h.ba i u) h.U (by decide)
theorem jB.below (h:jB B w g V p) (b:zd w w'):jB B w' g V p :=
 ⟨zdi b h.U,fun i u=>zlX (h.ba i u) b,h.apart⟩
theorem jB.cell (h:jB B w g V p) {i:Nat} (u:i<4):w.cell? ⟨g,1+i,none⟩=some (V i):=by
 rw [ze w g _ _ _ _ h.U]
 match i,u with
 | 0,_=>rfl
 | 1,_=>rfl
 | 2,_=>rfl
 | 3,_=>rfl
theorem jB.h7 (h:jB B w g V p) {i:Nat} (u:i<4):w.cell? ⟨g,5+i,none⟩=some (.bool (p.s i).o):=by
 rw [ze w g _ _ _ _ h.U]
 match i,u with
 | 0,_=>rfl
 | 1,_=>rfl
 | 2,_=>rfl
 | 3,_=>rfl
theorem jB.ip (h:jB B w g V p):w.cell? ⟨g,0,none⟩=some (.int .u64 p.fr):=ze w g _ _ _ _ h.U
theorem jB.ca (h:jB B w g V p) (i:Nat):w.frozen? ⟨g,i,none⟩=false:=zI w g i _ _ h.U
theorem jB.congr {E:Nat->Value} {D:Pln} (h:jB B w g V p) (hV:∀ i,i<4->E i=V i) (O:D.fr=p.fr) (z:∀ i,i<4->D.s i=p.s i):jB B w g E D:=by
 refine ⟨?_,?_,?_⟩
 ·rw [h.U];unfold planCells;rw [O,hV 0 (by omega),hV 1 (by omega),hV 2 (by omega),hV 3 (by omega),z 0 (by omega),z 1 (by omega),z 2 (by omega),z 3 (by omega)]
 ·intro i u;rw [hV i u,z i u];exact h.ba i u
 ·intro i j u L R;rw [hV i u,hV j L];exact h.apart i j u L R
theorem jB.hy (h:jB B w g V p) {k:Nat} (O:k<4) {v:Value} {l:List Chg} (U:w.grownBy w' (V k).ownBlock) (hv:w'.ownsRow B 150 3 v l.length (chgs l))
  (D:v.ownBlock=none∨v.ownBlock=(V k).ownBlock∨∃ L,v.ownBlock=some L/\w.heap.size<=L) :
  jB B (w'.setCell ⟨g,1+k,none⟩ v) g (fun i=>if i=k then v else V i) ⟨p.fr,fun i=>if i=k then ⟨l,(p.s k).o⟩ else p.s i⟩:=by
 have hb:w'.heap[g]?=some (.cells (planCells p V) 164 (0,0)):=(U.block g h.lt (Ne.symm (h.ne O))).trans h.U;have Z:∀ i,i<4->i≠k->v.ownBlock=none∨v.ownBlock≠(V i).ownBlock:=by
  intro i z a0;rcases D with D | D | ⟨L,D,a3⟩
  ·exact .inl D
  ·rw [D];exact h.apart k i O z (Ne.symm a0)
  ·right;rw [D];intro e;have:=(h.ba i z).lt L e.symm;omega
 refine ⟨?_,?_,?_⟩
 ·rw [zB w' g _ _ _ _ hb]
  match k,O with
  | 0,_=>rfl
  | 1,_=>rfl
  | 2,_=>rfl
  | 3,_=>rfl
 ·intro i z;try dsimp only
  by_cases u:i=k
  ·rw [if_pos u,if_pos u];exact zcz hv hb (by decide) _ _
  ·rw [if_neg u,if_neg u];refine zcz ((h.ba i z).kept U ?_) hb (by decide) _ _;exact h.apart i k z O u
 ·intro i j z Y X;try dsimp only
  by_cases u:i=k
  ·have E:j≠k:=fun e=>X (u.trans e.symm);rw [if_pos u,if_neg E];exact Z j Y E
  ·rw [if_neg u];by_cases E:j=k
   ·rw [if_pos E];rcases Z i z u with R | R
    ·rw [R];cases a1:(V i).ownBlock with
     | none=>exact .inl rfl
     | some x=>exact .inr (by simp)
    ·exact .inr (Ne.symm R)
   ·rw [if_neg E];exact h.apart i j z Y X
theorem jB.io (h:jB B w g V p) {k:Nat} (D:k<4) (o:Bool) :
  jB B (w.setCell ⟨g,5+k,none⟩ (.bool o)) g V ⟨p.fr,fun i=>if i=k then ⟨(p.s k).l,o⟩ else p.s i⟩:=by
 refine ⟨?_,?_,h.apart⟩
 ·rw [zB w g _ _ _ _ h.U]
  match k,D with
  | 0,_=>rfl
  | 1,_=>rfl
  | 2,_=>rfl
  | 3,_=>rfl
 ·intro i z;have:=zcz (h.ba i z) h.U (by decide) (5+k) (.bool o);by_cases u:i=k
  ·subst u;simpa using this
  ·simpa [if_neg u] using this
theorem jB.ir (h:jB B w g V p) (x:Int):jB B (w.setCell ⟨g,0,none⟩ (.int .u64 x)) g V ⟨x,p.s⟩:=by refine ⟨?_,fun i u=>zcz (h.ba i u) h.U (by decide) _ _,h.apart⟩;rw [zB w g _ _ _ _ h.U];rfl
theorem jB.put (h:jB B w g V p) {k:Nat} (z:k<4) {v:Value} {l:List Chg} (o:Bool) (E:w.grownBy w' (V k).ownBlock) (O:w'.ownsRow B 150 3 v l.length (chgs l))
  (D:v.ownBlock=none∨v.ownBlock=(V k).ownBlock∨∃ u,v.ownBlock=some u/\w.heap.size<=u) :
  jB B ((w'.setCell ⟨g,1+k,none⟩ v).setCell ⟨g,5+k,none⟩ (.bool o)) g (fun i=>if i=k then v else V i) ⟨p.fr,fun i=>if i=k then ⟨l,o⟩ else p.s i⟩:=by
 refine ((h.hy z E O D).io z o).congr (fun _ _=>rfl) rfl fun i _=>?_;by_cases L:i=k<;>simp [L]
end
theorem planOf_snoc (es:List Ent) (e:Ent):planOf (es++[e])=(planOf es).step e:=by unfold planOf;rw [List.foldl_append];rfl
theorem ziK (es:List Ent) (i:Nat) (h:i<es.length):planOf (es.take (i+1))=(planOf (es.take i)).step es[i]:=by rw [<- planOf_snoc,List.take_add_one,zX h];rfl
theorem One.g2 (s:One) (e:Ent):(s.step e).l.length<=s.l.length+1:=by
 unfold One.step;split
 ·simp
 ·split
  ·simp;omega
  ·split
   ·simp
   ·omega
theorem zkg (es:List Ent) (k:Nat):((planOf es).s k).l.length<=es.length:=by
 obtain ⟨n,u⟩:=ex es.length;induction n generalizing es with
 | zero =>obtain rfl:es=[]:=yd u.symm;simp [planOf,zkh]
 | succ n ih =>
  have hd:=List.dropLast_concat_getLast (l:=es) (by intro h;subst h;simp at u);rw [<- hd,planOf_snoc];have:=ih es.dropLast (by simp;omega);have z:(es.dropLast++[es.getLast (by intro h;subst h;simp at u)]).length=es.dropLast.length+1:=by simp
  rw [z];unfold Pln.step;split
  ·dsimp only;omega
  ·dsimp only;split
   ·exact zz (One.g2 _ _) (by omega)
   ·omega
def zgH (w:World) (b o:Nat) (e:Ent):Prop :=
 w.cell? ⟨b,o,none⟩=some (.int .u64 e.pl)/\w.cell? ⟨b,o+1,none⟩=some (.int .i64 e.kd)/\w.cell? ⟨b,o+2,none⟩=some (.int .i64 e.tx)/\w.cell? ⟨b,o+3,none⟩=some (.int .i64 e.pg)/\w.cell? ⟨b,o+4,none⟩=some (.int .i64 e.sl) /\
 w.cell? ⟨b,o+5,none⟩=some (.string e.bf)/\w.cell? ⟨b,o+6,none⟩=some (.string e.af)/\w.cell? ⟨b,o+7,none⟩=some (.string e.im)/\w.cell? ⟨b,o+8,none⟩=some e.dv
theorem zgH.below {w w':World} {b o:Nat} {e:Ent} (h:zgH w b o e) (k:zd w w'):zgH w' b o e:=by obtain ⟨h0,u,z,D,E,L,O,R,U⟩:=h;exact ⟨uM k h0,uM k u,uM k z,uM k D,uM k E,uM k L,uM k O,uM k R,uM k U⟩
def RowsAt (w:World) (A:Option Addr) (es:List Ent):Prop:=∀ i (h:i<es.length),∃ b off,A=some ⟨b,off,none⟩/\zgH w b (off+i*9) es[i]/\DirtyAt w es[i]
theorem znW (es:List Ent):∀ (i:Nat) (h:i<es.length) (j:Nat),j<9->(rowOf es)[i*9+j]?=(es[i]).cells[j]?:=by
 induction es with
 | nil=>intro i h;simp at h
 | cons e es ih =>
  intro i h j u;show (Ent.cells e++rowOf es)[_]?=_;cases i with
  | zero=>rw [vZ (by simp [Ent.cells];omega)];simp
  | succ i =>rw [vg (by simp [Ent.cells];omega)];have:=ih i (by simpa using h) j u;rw [show (i+1)*9+j-(Ent.cells e).length=i*9+j by simp [Ent.cells];omega,this];rfl
theorem RowsAt.aj {w:World} {B n c:Nat} {A:Option Addr} {es:List Ent} (h:w.ownsRow B 167 9 (.slice A n c) n (rowOf es)) (L:es.length=n) (hd:∀ e∈es,DirtyAt w e):RowsAt w A es:=by
 subst L;intro i u;rcases h.2 with ⟨_,h0⟩ | ⟨g,cap,cur,O,_⟩
 ·omega
 ·injection O with z _ D;subst z D;have:=fun j (E:j<9)=>(h.cellAt (i*9+j) (by omega)).trans (znW es i u j E);refine ⟨g,0,rfl,?_,hd _ (List.getElem_mem u)⟩;rw [qy];exact ⟨this 0 (by omega),this 1 (by omega),this 2 (by omega),this 3 (by omega),this 4 (by omega),this 5 (by omega),this 6 (by omega),this 7 (by omega),this 8 (by omega)⟩
end Go.Proofs.YtechnoogjhohfaaGreat.Rs
namespace Go.Proofs.YtechnoogjhohfaaGreat.Rs
open Go.RowKit
theorem zqf:(Tryz.prog.info? 150).map (fun i=>(i.zero,i.size,i.bytes))=some (some (.agg #[.int .i64 0,.int .i64 0,.string ByteArray.empty]),3,32):=by kernel_rfl
theorem zmz (t:Int):slotOf t<4:=by unfold slotOf;split<;>omega
theorem zmy {t:Int} (h:1<=t) (u:t<=3):t=(slotOf t:Int):=by unfold slotOf;rw [if_neg (by omega)];omega
theorem zkK {t:Int} (h:t<1∨3<t):slotOf t=0:=by unfold slotOf;rw [if_pos h]
def zei:Array Value:=planCells zkh (fun _=>.slice none 0 0)
theorem zlC {w:World} {X:Nat} {t:TypeId} {a0 a1 a2 L E D z u h b0 b1 b2 b3 b4 b5 b6 b7 b8:Value} (a3:w.heap[X]?=some (.cells #[a0,a1,a2,L,E,D,z,u,h] t (0,0))) :
  (((((((((w.setCell ⟨X,0,none⟩ b0).setCell ⟨X,1,none⟩ b1).setCell ⟨X,2,none⟩ b2).setCell ⟨X,3,none⟩ b3).setCell ⟨X,4,none⟩ b4).setCell ⟨X,5,none⟩ b5).setCell ⟨X,6,none⟩ b6).setCell ⟨X,7,none⟩ b7).setCell ⟨X,8,none⟩ b8).heap[X]?=some (.cells #[b0,b1,b2,b3,b4,b5,b6,b7,b8] t (0,0)):=by
 have h0:(w.setCell ⟨X,0,none⟩ b0).heap[X]?=some (.cells #[b0,a1,a2,L,E,D,z,u,h] t (0,0)):=by have:=zB w X 0 _ t b0 a3;simpa using this
 generalize w.setCell ⟨X,0,none⟩ b0=w1 at h0 ⊢;have h1:(w1.setCell ⟨X,1,none⟩ b1).heap[X]?=some (.cells #[b0,b1,a2,L,E,D,z,u,h] t (0,0)):=by have:=zB w1 X 1 _ t b1 h0;simpa using this
 generalize w1.setCell ⟨X,1,none⟩ b1=O at h1 ⊢;have h2:(O.setCell ⟨X,2,none⟩ b2).heap[X]?=some (.cells #[b0,b1,b2,L,E,D,z,u,h] t (0,0)):=by have:=zB O X 2 _ t b2 h1;simpa using this
 generalize O.setCell ⟨X,2,none⟩ b2=R at h2 ⊢;have h3:(R.setCell ⟨X,3,none⟩ b3).heap[X]?=some (.cells #[b0,b1,b2,b3,E,D,z,u,h] t (0,0)):=by have:=zB R X 3 _ t b3 h2;simpa using this
 generalize R.setCell ⟨X,3,none⟩ b3=w4 at h3 ⊢;have h4:(w4.setCell ⟨X,4,none⟩ b4).heap[X]?=some (.cells #[b0,b1,b2,b3,b4,D,z,u,h] t (0,0)):=by have:=zB w4 X 4 _ t b4 h3;simpa using this
 generalize w4.setCell ⟨X,4,none⟩ b4=U at h4 ⊢;have h5:(U.setCell ⟨X,5,none⟩ b5).heap[X]?=some (.cells #[b0,b1,b2,b3,b4,b5,z,u,h] t (0,0)):=by have:=zB U X 5 _ t b5 h4;simpa using this
 generalize U.setCell ⟨X,5,none⟩ b5=Y at h5 ⊢;have h6:(Y.setCell ⟨X,6,none⟩ b6).heap[X]?=some (.cells #[b0,b1,b2,b3,b4,b5,b6,u,h] t (0,0)):=by have:=zB Y X 6 _ t b6 h5;simpa using this
 generalize Y.setCell ⟨X,6,none⟩ b6=w7 at h6 ⊢;have h7:(w7.setCell ⟨X,7,none⟩ b7).heap[X]?=some (.cells #[b0,b1,b2,b3,b4,b5,b6,b7,h] t (0,0)):=by have:=zB w7 X 7 _ t b7 h6;simpa using this
 generalize w7.setCell ⟨X,7,none⟩ b7=Z at h7 ⊢;have h8:(Z.setCell ⟨X,8,none⟩ b8).heap[X]?=some (.cells #[b0,b1,b2,b3,b4,b5,b6,b7,b8] t (0,0)):=by have:=zB Z X 8 _ t b8 h7;simpa using this
 generalize Z.setCell ⟨X,8,none⟩ b8=w9 at h8 ⊢;exact h8
theorem own_set1 {w:World} {B X:Nat} {v:Value} {n:Nat} {xs:List Value} {e:TypeId} {s:Nat} (h:w.ownsRow B e s v n xs) (D:v.ownBlock≠some X) (o:Nat) (u:Value):(w.setCell ⟨X,o,none⟩ u).ownsRow B e s v n xs :=
 h.kept (row:=some X) ⟨rfl,rfl,rfl,by simp,fun k _ z=>zt w ⟨X,o,none⟩ k u (fun e=>z (by simp [e]))⟩ (.inr D)
theorem zma {w:World} {B X:Nat} {v:Value} {n:Nat} {xs:List Value} {e:TypeId} {s:Nat} (h:w.ownsRow B e s v n xs) (u:v.ownBlock≠some X) (b0 b1 b2 b3 b4 b5 b6 b7 b8:Value) :
  (((((((((w.setCell ⟨X,0,none⟩ b0).setCell ⟨X,1,none⟩ b1).setCell ⟨X,2,none⟩ b2).setCell ⟨X,3,none⟩ b3).setCell ⟨X,4,none⟩ b4).setCell ⟨X,5,none⟩ b5).setCell ⟨X,6,none⟩ b6).setCell ⟨X,7,none⟩ b7).setCell ⟨X,8,none⟩ b8).ownsRow B e s v n xs:=own_set1 (own_set1 (own_set1 (own_set1 (own_set1 (own_set1 (own_set1 (own_set1 (own_set1 h u _ _) u _ _) u _ _) u _ _) u _ _) u _ _) u _ _) u _ _) u _ _
theorem zqG:(Tryz.prog.info? 164).map (·.size)=some 9:=by kernel_rfl
theorem Pln.cv (p:Pln) (e:Ent) (h:e.kd≠7):p.step e=⟨p.fr,fun n=>if n=slotOf e.tx then (p.s n).step e else p.s n⟩:=by unfold Pln.step;rw [if_neg h]
theorem zoe (h kd O pg L:Int) (z u E:ByteArray) (A:Option Addr) (n c:Nat) (D:List Int) (w:World) (hd:DirtyAt w ⟨h,kd,O,pg,L,z,u,E,.slice A n c,D⟩) :
  zc 120 #[.agg #[.int .u64 h,.int .i64 kd,.int .i64 O,.int .i64 pg,.int .i64 L,.string z,.string u,.string E,.slice A n c]] w fun r w'=>r=.returned (.int .u64 (leastOf h D))/\zd w w' :=
 zmw ⟨h,kd,O,pg,L,z,u,E,.slice A n c,D⟩ w hd
theorem Pln.fd (p:Pln) (e:Ent) (h:e.kd=7):p.step e=⟨leastOf e.pl e.dl,p.s⟩:=if_pos h
theorem zdW (w:World) (r:Option Nat):w.grownBy w r:=⟨rfl,rfl,rfl,za _,fun _ _ _=>rfl⟩
theorem One.g8 {s:One} {e:Ent} (h:e.kd=5∨e.kd=6):s.step e=⟨[],false⟩:=by unfold One.step;rw [if_neg (by omega),if_neg (by omega),if_pos h]
theorem One.e9 {s:One} {e:Ent} (h:e.kd=4):s.step e=⟨s.l.dropLast,s.o⟩:=by unfold One.step;rw [if_neg (by omega),if_pos h]
theorem One.e8 {s:One} {e:Ent} (h:e.kd=2∨e.kd=3):s.step e=⟨s.l++[e.al],true⟩:=if_pos h
theorem One.gl {s:One} {e:Ent} (h:¬ (e.kd=2∨e.kd=3)) (u:e.kd≠4) (z:¬ (e.kd=5∨e.kd=6)):s.step e=s:=by unfold One.step;rw [if_neg h,if_neg u,if_neg z]
theorem chgs_snoc (l:List Chg) (c:Chg):chgs (l++[c])=chgs l++c.cells:=by unfold chgs;rw [List.flatMap_append];simp
theorem zik (l:List Chg):(chgs l).length=l.length*3:=by
 induction l with
 | nil=>rfl
 | cons c l ih =>show (Chg.cells c++chgs l).length=_;rw [zl,ih];simp [Chg.cells];omega
theorem zfW {w wc w1:World} {V:Nat->Value} {p:Pln} {k h O u cap:Nat} {E:Option Addr} {pg sl:Int} {Y:ByteArray} {xs:List Value} {o:Obj} (L:jB w.heap.size wc (w.heap.size+1) V p) (a0:k<4)
  (hV:V k=.slice E h O) (hn:h=(p.s k).l.length) (a6:xs=chgs (p.s k).l) (HB:zd w wc) (X:wc.heap[w.heap.size]?=some (.cells zei 164 (0,0)))
  (z:(wc.alloc o).drew.grownBy w1 (Value.slice E h O).ownBlock)
  (a5:w1.ownsRow w.heap.size 150 3 (.slice (some ⟨u,0,none⟩) (h+1) cap) (h+1) (xs++[.int .i64 pg,.int .i64 sl,.string Y])) (D:(Value.slice E h O).ownBlock=some u∨u=wc.heap.size+1) :
  jB w.heap.size ((w1.setCell ⟨w.heap.size+1,1+k,none⟩ (.slice (some ⟨u,0,none⟩) (h+1) cap)).setCell ⟨w.heap.size+1,5+k,none⟩ (.bool true)) (w.heap.size+1)
   (fun i=>if i=k then .slice (some ⟨u,0,none⟩) (h+1) cap else V i) ⟨p.fr,fun i=>if i=k then ⟨(p.s k).l++[⟨pg,sl,Y⟩],true⟩ else p.s i⟩ /\
  zd w ((w1.setCell ⟨w.heap.size+1,1+k,none⟩ (.slice (some ⟨u,0,none⟩) (h+1) cap)).setCell ⟨w.heap.size+1,5+k,none⟩ (.bool true)) /\
  ((w1.setCell ⟨w.heap.size+1,1+k,none⟩ (.slice (some ⟨u,0,none⟩) (h+1) cap)).setCell ⟨w.heap.size+1,5+k,none⟩ (.bool true)).heap[w.heap.size]?=some (.cells zei 164 (0,0)):=by
 have a7:=L.lt;have U:=L.ba k a0;rw [hV,<- hn] at U;have a3:wc.grownBy w1 (V k).ownBlock:=by rw [hV];exact ⟨z.os,z.tape,z.output,zz (by simp) z.size,fun j R a4=>(z.block j (by simp;omega) a4).trans (qb wc o j R)⟩
 have Z:zd w (wc.alloc o).drew:=(B_alloc HB o).drew;have a1:zd w w1:=Z.grown z Z.size fun j R=>(U.lt j R).1;refine ⟨L.put a0 true a3 ?_ ?_,B_set (B_set a1 (Nat.le_succ _) _) (Nat.le_succ _) _,?_⟩
 ·rw [zl,<- hn,chgs_snoc,<- a6];exact a5
 ·rcases D with D | D
  ·exact .inr (.inl (by rw [hV];exact D.symm))
  ·exact .inr (.inr ⟨u,rfl,by omega⟩)
 ·exact (Below.heap_setCell _ _ _ _ (by show _≠w.heap.size+1;omega)).trans ((Below.heap_setCell _ _ _ _ (by show _≠w.heap.size+1;omega)).trans
   ((z.block _ (by simp;omega) (Ne.symm (own_ne U X (by decide)))).trans (Yk X)))
theorem analyse_any (A:Option Addr) (n cap:Nat) (es:List Ent) (w:World) (hn:es.length=n) (hlen:n<=2000) (g9:RowsAt w A es) :
  zc 81 #[.slice A n cap] w fun r w'=>(∃ V:Nat->Value,r=.returned (.agg (planCells ⟨(planOf es).fr,fun i=>if i=0 then ⟨[],false⟩ else (planOf es).s i⟩ (fun i=>if i=0 then .slice none 0 0 else V i))) /\
   (∀ i,1<=i->i<4->w'.ownsRow w.heap.size 150 3 (V i) ((planOf es).s i).l.length (chgs ((planOf es).s i).l)))/\zd w w':=by
 obtain ⟨i0,hi,h3,h5,h6⟩:=info_parts zqf;obtain ⟨HN,i1⟩:=zi2 hn g9;clear hn g9;go_enter Tryz.func81,Tryz.ntmps81;go_wp2;generalize hW:(w.alloc _).alloc _=W;have hb:zd w W:=by rw [<- hW];exact B_alloc (B_alloc (zf _ _) _) _
 have c3:W.heap[w.heap.size]?=some (.cells zei 164 (0,0)):=by rw [<- hW,qb _ _ _ (by simp),heap_alloc_new];rfl
 have i9:jB w.heap.size W (w.heap.size+1) (fun _=>.slice none 0 0) zkh:=by refine ⟨?_,fun i _=>ql _ _ _ _,fun _ _ _ _ _=>.inl rfl⟩;rw [<- hW];exact zqs _ _ _
 clear hW;go_loopw [10] (fun e5 wr=>∃ (k:Nat) (V:Nat->Value),k<=n/\e5=.int .i64 k/\jB w.heap.size wr (w.heap.size+1) V (planOf (es.take k))/\zd w wr/\wr.heap[w.heap.size]?=some (.cells zei 164 (0,0))) (fun e5 _=>((n:Int)-intOf e5).toNat)
 case atStart=>exact ⟨0,_,by omega,rfl,i9,hb,c3⟩
 case round =>
  obtain ⟨i,V,j6,rfl,hP,c1,c3⟩:=hrel;by_cases c6:i<n
  ·obtain ⟨b,off,hA,hE,hD⟩:=i1.o i (by rw [HN.o];exact c6);subst hA;have g2:=hE.below c1;have c8:=hD.below c1;have e3:=ziK es i (by rw [HN.o];exact c6);have e2:=fun k=>zkg (es.take i) k;rw [qf,HN.o,Nat.min_eq_left (by omega)] at e2;clear hE hD;obtain ⟨e,he⟩:=ex (es[i]'(by rw [HN.o];exact c6));rw [<- he] at g2 c8 e3;clear he;obtain ⟨A1,n1,c4,g5⟩:=c8.slice;obtain ⟨e9,f0,a2,f1,f2,f3,f4,f5,f6⟩:=g2;obtain ⟨pl,kd,R,pg,sl,bf,af,im,dv,dl⟩:=e;simp only at g5 e9 f0 a2 f1 f2 f3 f4 f5 f6;subst g5;obtain ⟨a9,HL⟩:=zi2 e3 e2;clear e3 e2;go_upto_region 6 with fail;have c0:Below wr.heap.size wr (wr.alloc (.cells #[.int .u64 pl,.int .i64 kd,.int .i64 R,.int .i64 pg,.int .i64 sl,.string bf,.string af,.string im,.slice A1 n1 c4] 167)):=B_alloc (zf _ _) _;have Y:=heap_alloc_new wr (.cells #[.int .u64 pl,.int .i64 kd,.int .i64 R,.int .i64 pg,.int .i64 sl,.string bf,.string af,.string im,.slice A1 n1 c4] 167);generalize wr.alloc (.cells #[.int .u64 pl,.int .i64 kd,.int .i64 R,.int .i64 pg,.int .i64 sl,.string bf,.string af,.string im,.slice A1 n1 c4] 167)=u at c0 Y ⊢;have hP:=hP.below c0;have hD:=c8.below c0;have g4:=B_call c1 c0;have g8:=zdi c0 c3;obtain ⟨E,g0⟩:=ex wr.heap.size;rw [<- g0] at Y ⊢;clear g0 c0 c8 e9 f0 a2 f1 f2 f3 f4 f5 f6 c3 c1;obtain ⟨O,HD,HB,HR⟩:=zi4 hP hD g4 g8;clear hP hD g4 g8;go_cut [22] (fun s wx=>s=.bool (decide (R<1∨3<R))/\wx=u)
   case first =>
    by_cases h1:R<1
    ·have d4:decide (R<1)=true:=by simpa using h1
     go_wp2_with fail;go_meet;exact ⟨by simp [h1],rfl⟩
    ·have d4:decide (R<1)=false:=by simpa using h1
     by_cases h2:3<R
     ·have i2:decide (3<R)=true:=by simpa using h2
      go_wp2_with fail;go_meet;exact ⟨by simp [h2],rfl⟩
     ·have i2:decide (3<R)=false:=by simpa using h2
      go_wp2_with fail;go_meet;exact ⟨by simp [h1,h2],rfl⟩
   case rest =>
    obtain ⟨rfl,rfl⟩:=hcut;obtain ⟨k,hk⟩:=ex (slotOf R);have a4:k<4:=by rw [hk];exact zmz R
    go_upto_if 22 with fail;go_cut [6] (fun s wx=>s=.int .i64 (k:Int)/\wx=wc)
    case first =>
     by_cases h:R<1∨3<R
     ·have d4:decide (R<1∨3<R)=true:=by simpa using h
      go_wp2_with fail;go_meet;exact ⟨by rw [hk,zkK h];rfl,rfl⟩
     ·have d4:decide (R<1∨3<R)=false:=by simpa using h
      go_wp2_with fail;go_meet;exact ⟨by rw [hk,<- zmy (by omega) (by omega)],rfl⟩
    case rest =>
     obtain ⟨rfl,rfl⟩:=hcut;have x1:wc.cell? ⟨E,1,none⟩=some (.int .i64 kd):=ze wc _ 1 _ _ _ Y;have ck:=O.o.cell a4;have fk:=O.o.ca (1+k);obtain ⟨Ak,a6,d0⟩:=own_slice (O.o.ba k a4);obtain ⟨nk,d1⟩:=ex (((planOf (es.take i)).s k).l.length);rw [<- d1] at d0;have k4:nk<=i:=by rw [d1];exact HL.o k
     obtain ⟨HK,b9,a8⟩:=zi3 hk d0 d1;rw [d0] at ck;clear hk d0 d1;by_cases h7:kd=7
     ·subst h7;have x0:wc.cell? ⟨E,0,none⟩=some (.int .u64 pl):=ze wc _ 0 _ _ _ Y;have x2:wc.cell? ⟨E,2,none⟩=some (.int .i64 R):=ze wc _ 2 _ _ _ Y;have x3:wc.cell? ⟨E,3,none⟩=some (.int .i64 pg):=ze wc _ 3 _ _ _ Y;have x4:wc.cell? ⟨E,4,none⟩=some (.int .i64 sl):=ze wc _ 4 _ _ _ Y;have x5:wc.cell? ⟨E,5,none⟩=some (.string bf):=ze wc _ 5 _ _ _ Y;have x6:wc.cell? ⟨E,6,none⟩=some (.string af):=ze wc _ 6 _ _ _ Y;have x7:wc.cell? ⟨E,7,none⟩=some (.string im):=ze wc _ 7 _ _ _ Y;have x8:wc.cell? ⟨E,8,none⟩=some (.slice A1 n1 c4):=ze wc _ 8 _ _ _ Y;go_wp2_with (go_at_call 120;(with_reducible refine (zoe pl 7 R pg sl bf af im A1 n1 c4 dl _ HD.o).mono ?_);rintro r w1 ⟨rfl,a7⟩;have d5:=O.o.below a7;have j3:=d5.ip;have j2:=d5.ca 0);go_roundw
      case rel =>
       refine ⟨i+1,V,by omega,by go_num,?_,?_,?_⟩
       ·rw [a9.o,Pln.fd _ _ rfl];exact d5.ir _
       ·exact B_set (B_call HB.o a7) (Nat.le_succ _) _
       ·exact (Below.heap_setCell _ _ _ _ (by show _≠w.heap.size+1;omega)).trans (zdi a7 HR.o)
      case measure=>simp [intOf];omega
     ·by_cases f9:kd=5∨kd=6
      ·have d3:=O.o.h7 a4;have i5:=O.o.ca (5+k);have i8:(k:Int)<4:=by omega
       have g6:=O.o.put a4 (v:=.slice none 0 0) (l:=[]) false (zdW _ _) (ql _ _ _ _) (.inl rfl);have HF:=hid g6;clear g6;rcases f9 with rfl | rfl
       all_goals
        go_wp2_with fail;go_roundw
        case rel =>
         refine ⟨i+1,fun j=>if j=k then .slice none 0 0 else V j,by omega,by go_num,?_,?_,?_⟩
         ·rw [a9.o,Pln.cv _ _ h7];refine HF.o.congr (fun _ _=>rfl) rfl fun j _=>?_;dsimp only;rw [HK.o];split
          ·rw [One.g8 (by simp)]
          ·rfl
         ·exact B_set (B_set HB.o (Nat.le_succ _) _) (Nat.le_succ _) _
         ·exact (Below.heap_setCell _ _ _ _ (by show _≠w.heap.size+1;omega)).trans ((Below.heap_setCell _ _ _ _ (by show _≠w.heap.size+1;omega)).trans HR.o)
        case measure=>simp [intOf];omega
      ·by_cases h4:kd=4
       ·subst h4;by_cases hz:nk=0
        ·subst hz;go_wp2_with fail;go_roundw
         case rel =>
          refine ⟨i+1,V,by omega,by go_num,?_,HB.o,HR.o⟩;rw [a9.o,Pln.cv _ _ h7];refine O.o.congr (fun _ _=>rfl) rfl fun j _=>?_;dsimp only;split
          ·rename_i hj;rw [One.e9 rfl,hj,<- HK.o];have h0:=a8.o;rw [show ((planOf (es.take i)).s k).l.dropLast=((planOf (es.take i)).s k).l by rw [yd h0.symm];rfl]
          ·rfl
         case measure=>simp [intOf];omega
        ·obtain ⟨m,rfl⟩:∃ m,nk=m+1:=⟨nk-1,by omega⟩;have Z:=O.o.ba k a4;rw [<- a8.o,b9.o] at Z;obtain ⟨gk,j0,hf,_,_⟩:=Z.form (by omega);have i6:m+1<=a6:=by
          rcases Z.2 with ⟨_,h0⟩ | ⟨_,_,_,hv,_,_,k0,_⟩
          ·omega
          ·injection hv with _ _ hv;omega
         injection hf with hf _ i7;subst hf i7;have a5:((planOf (es.take i)).s k).l≠[]:=by intro h0;have:=a8.o;rw [h0] at this;simp at this
         have e1:((planOf (es.take i)).s k).l.dropLast.length=m:=by rw [List.length_dropLast,<- a8.o,Nat.add_sub_cancel]
         have g7:wc.ownsRow w.heap.size 150 3 (.slice (some ⟨gk,0,none⟩) m a6) ((planOf (es.take i)).s k).l.dropLast.length (chgs ((planOf (es.take i)).s k).l.dropLast):=by rw [e1];rw [<- List.dropLast_concat_getLast a5,chgs_snoc] at Z;exact ownsRow_pop (by rw [zik,e1]) Z
         have h9:=hid g7;clear Z g7 a5 e1;have HC:=hid i6;have j5:decide ((0:Int)<((m+1:Nat):Int))=true:=by simp
         go_wp2_with fail;refine ⟨⟨i+1,fun j=>if j=k then .slice (some ⟨gk,0,none⟩) m a6 else V j,by omega,by go_num,?_,?_,?_⟩,?_⟩
         ·rw [a9.o,Pln.cv _ _ h7];refine (O.o.hy a4 (zdW _ _) h9.o (.inr (.inl (by rw [b9.o];rfl)))).congr (fun _ _=>rfl) rfl fun j _=>?_;dsimp only;rw [HK.o];split
          ·rename_i hj;rw [One.e9 rfl,hj]
          ·rfl
         ·exact B_set HB.o (Nat.le_succ _) _
         ·exact (Below.heap_setCell _ _ _ _ (by show _≠w.heap.size+1;omega)).trans HR.o
         ·simp [intOf];omega
       ·by_cases f8:kd=2∨kd=3
        ·have d3:=O.o.h7 a4;have i5:=O.o.ca (5+k);have x3:wc.cell? ⟨E,3,none⟩=some (.int .i64 pg):=ze wc _ 3 _ _ _ Y;have x4:wc.cell? ⟨E,4,none⟩=some (.int .i64 sl):=ze wc _ 4 _ _ _ Y;have x5:wc.cell? ⟨E,5,none⟩=some (.string bf):=ze wc _ 5 _ _ _ Y;have Z:=O.o.ba k a4;rw [<- a8.o,b9.o] at Z;obtain ⟨xs,e4⟩:=ex (chgs ((planOf (es.take i)).s k).l);rw [<- e4] at Z;have e8:=hid e4;clear e4;have i8:(0:Int)<=(k:Int):=by omega
         have j7:(k:Int)<4:=by omega
         have a5:=O.o.ne a4;rw [b9.o] at a5;have j9:=O.o.lt;have j8:=World.block_lt_of_cell? _ _ x1;have c2:(Value.slice Ak nk a6).ownBlock≠some E:=own_ne Z Y (by decide);have j4:=HB.o.size;have j1:(wc.alloc (.cells #[.int .i64 pg,.int .i64 sl,.string bf] 150)).cell? ⟨w.heap.size+1,1+k,none⟩=some (.slice Ak nk a6):=jC ck;have U:w.heap.size+1≠E:=by intro h;have:=O.o.U;rw [h,Y] at this;injection this with this;injection this with _ this;exact absurd this (by decide)
         rcases f8 with rfl | rfl
         all_goals
          go_wp2_with fail;refine wp_region_noPanic ?_;refine wp_region_held_drew (S:=(fun w'=>w'.cell? ⟨E,3,none⟩=some (.int .i64 pg)/\w'.cell? ⟨E,4,none⟩=some (.int .i64 sl)/\w'.cell? ⟨E,5,none⟩=some (.string bf))) (by kernel_rfl) ⟨x3,x4,x5⟩ (fun a0=>?_);refine wpAnyH_take (i:=0) (oi:=_) (v:=?_) rfl (by kernel_rfl) (by kernel_rfl) (by kernel_rfl) (fun _ _ _ h=>h) (Or.inl ⟨by rfl,?_⟩) (by assumption) ?_;rotate_left
          ·(intro w z;(try dsimp only at z);go_simp;try with_reducible rfl)
          try simp only [pS]
          refine wpAnyH_take (i:=1) (oi:=_) (v:=?_) rfl (by kernel_rfl) (by kernel_rfl) (by kernel_rfl) (fun _ _ _ h=>h) (Or.inl ⟨by rfl,?_⟩) (by assumption) ?_;rotate_left
          ·(intro w z;(try dsimp only at z);go_simp;try with_reducible rfl)
          try simp only [pS]
          refine wpAnyH_take (i:=2) (oi:=_) (v:=?_) rfl (by kernel_rfl) (by kernel_rfl) (by kernel_rfl) (fun _ _ _ h=>h) (Or.inl ⟨by rfl,?_⟩) (by assumption) ?_;rotate_left
          ·(intro w z;(try dsimp only at z);go_simp;try with_reducible rfl)
          try simp only [pS]
          refine wpAnyH_take (i:=3) (oi:=_) (v:=?_) rfl (by kernel_rfl) (by kernel_rfl) (by kernel_rfl) (fun _ _ _ h=>h) (Or.inl ⟨by rfl,?_⟩) (by assumption) ?_;rotate_left
          ·(intro w z;(try dsimp only at z);go_simp;try with_reducible rfl)
          try simp only [pS]
          refine wpAnyH_take (i:=4) (oi:=_) (v:=?_) rfl (by kernel_rfl) (by kernel_rfl) (by kernel_rfl) (fun _ _ _ h=>h) (Or.inl ⟨by rfl,?_⟩) (by assumption) ?_;rotate_left
          ·(intro w z;(try dsimp only at z);go_simp;try with_reducible rfl)
          try simp only [pS]
          refine wpAnyH_take (i:=6) (oi:=_) (v:=?_) rfl (by kernel_rfl) (by kernel_rfl) (by kernel_rfl) (fun _ _ _ h=>h) (Or.inl ⟨by rfl,?_⟩) (by assumption) ?_;rotate_left
          ·(intro w z;(try dsimp only at z);go_simp;try with_reducible rfl)
          try simp only [pS]
          refine wpAnyH_take (i:=7) (oi:=_) (v:=?_) rfl (by kernel_rfl) (by kernel_rfl) (by kernel_rfl) (fun _ _ _ h=>h) (Or.inl ⟨by rfl,?_⟩) (by assumption) ?_;rotate_left
          ·(intro w z;(try dsimp only at z);go_simp;try with_reducible rfl)
          try simp only [pS]
          refine wpAnyH_take (i:=8) (oi:=_) (v:=?_) rfl (by kernel_rfl) (by kernel_rfl) (by kernel_rfl) (fun _ _ _ h=>h) (Or.inl ⟨by rfl,?_⟩) (by assumption) ?_;rotate_left
          ·(intro w z;(try dsimp only at z);go_simp;try with_reducible rfl)
          try simp only [pS]
          refine wpAnyH_take (i:=9) (oi:=_) (v:=?_) rfl (by kernel_rfl) (by kernel_rfl) (by kernel_rfl) (fun _ _ _ h=>h) (Or.inl ⟨by rfl,?_⟩) (by assumption) ?_;rotate_left
          ·(intro w z;(try dsimp only at z);go_simp;try with_reducible rfl)
          try simp only [pS]
          refine wpAnyH_take (i:=10) (oi:=_) (v:=?_) rfl (by kernel_rfl) (by kernel_rfl) (by kernel_rfl) (fun _ _ _ h=>h) (Or.inl ⟨by rfl,?_⟩) (by assumption) ?_;rotate_left
          ·(intro w z;(try dsimp only at z);go_simp;try with_reducible rfl)
          try simp only [pS]
          refine wpAnyH_take (i:=11) (oi:=_) (v:=?_) rfl (by kernel_rfl) (by kernel_rfl) (by kernel_rfl) (fun _ _ _ h=>h) (Or.inl ⟨by rfl,?_⟩) (by assumption) ?_;rotate_left
          ·(intro w z;(try dsimp only at z);go_simp;try with_reducible rfl)
          try simp only [pS]
          refine wpAnyH_take (i:=12) (oi:=_) (v:=?_) rfl (by kernel_rfl) (by kernel_rfl) (by kernel_rfl) (fun _ _ _ h=>h) (Or.inl ⟨by rfl,?_⟩) (by assumption) ?_;rotate_left
          ·(intro w z;(try dsimp only at z);go_simp;try with_reducible rfl)
          try simp only [pS]
          refine wpAnyH_take (i:=13) (oi:=_) (v:=?_) rfl (by kernel_rfl) (by kernel_rfl) (by kernel_rfl) (fun _ _ _ h=>h) (Or.inl ⟨by rfl,?_⟩) (by assumption) ?_;rotate_left
          ·(intro w z;(try dsimp only at z);go_simp;try with_reducible rfl)
          try simp only [pS]
          refine wpAnyH_take (i:=14) (oi:=_) (v:=?_) rfl (by kernel_rfl) (by kernel_rfl) (by kernel_rfl) (fun _ _ _ h=>h) (Or.inl ⟨by rfl,?_⟩) (by assumption) ?_;rotate_left
          ·(intro w z;(try dsimp only at z);go_simp;try with_reducible rfl)
          try simp only [pS]
          refine wpAnyH_take (i:=15) (oi:=_) (v:=?_) rfl (by kernel_rfl) (by kernel_rfl) (by kernel_rfl) (fun _ _ _ h=>h) (Or.inl ⟨by rfl,?_⟩) (by assumption) ?_;rotate_left
          ·(intro w z;(try dsimp only at z);go_simp;try with_reducible rfl)
          try simp only [pS]
          refine wpAnyH_take (i:=18) (oi:=_) (v:=?_) rfl (by kernel_rfl) (by kernel_rfl) (by kernel_rfl) (fun _ _ _ h=>h) (Or.inl ⟨by rfl,?_⟩) (by assumption) ?_;rotate_left
          ·(intro w z;(try dsimp only at z);go_simp;try with_reducible rfl)
          try simp only [pS]
          refine wpAnyH_take (i:=21) (oi:=_) (v:=?_) rfl (by kernel_rfl) (by kernel_rfl) (by kernel_rfl) (fun _ _ _ h=>h) (Or.inl ⟨by rfl,?_⟩) (by assumption) ?_;rotate_left
          ·(intro w z;(try dsimp only at z);go_simp;try with_reducible rfl)
          try simp only [pS]
          refine wpAnyH_ready (rs:=[5,16]) (by kernel_rfl) (by simp) ?_;refine AllReadyH.cons (o:=_) rfl (fun K D=>?_) ?_
          ·go_simp;refine D.out _ _ ⟨x3,x4,x5⟩ (fun a0=>?_);clear D K;try simp only [pS]
           refine wpAnyH_ready (rs:=[16]) (by kernel_rfl) (by simp) ?_;refine AllReadyH.cons (o:=_) rfl (fun K D=>?_) AllReadyH.nil;go_simp;refine D.out _ _ ⟨jC x3,jC x4,jC x5⟩ (fun a0=>?_);clear D K;try simp only [pS]
           refine wpAnyH_ready (rs:=[17]) (by kernel_rfl) (by simp) ?_;refine AllReadyH.cons (o:=_) rfl (fun K D=>?_) AllReadyH.nil;refine step_append_lies _ (by rfl) _ _ _ (by rfl) w.heap.size 150 i0 _ 3 32 Tryz.underlying147 hi h3 h5 h6 rfl (by omega) (.slice Ak nk a6) nk xs (by rfl) ((Z.alloc _).drew)
            ⟨wc.heap.size,0,none⟩ 1 1 [.int .i64 pg,.int .i64 sl,.string bf] (by rfl) (by rfl) (World.news_of_block (cs:=#[.int .i64 pg,.int .i64 sl,.string bf]) (t:=150) (fr:=(0,0)) (heap_alloc_new wc _)) (by simp [Value.oneCell'])
            (by omega) (by unfold maxLen;omega) (by omega) (by simp;omega) (wc.heap.size+1) (by simp) ?_
           intro gg cap w1 c7 X c5 c6;have a7:w1.heap[w.heap.size+1]?=some (.cells (planCells (planOf (es.take i)) V) 164 (0,0)):=(X.block _ (by simp;omega) (Ne.symm a5)).trans (Yk O.o.U);have z1:w1.cell? ⟨w.heap.size+1,1+k,none⟩=some (.slice Ak nk a6):=by rw [X.cell_far _ (by simp;omega) (Ne.symm a5)];exact jC ck
           have z2:w1.cell? ⟨w.heap.size+1,5+k,none⟩=some (.bool ((planOf (es.take i)).s k).o):=by rw [X.cell_far _ (by simp;omega) (Ne.symm a5)];exact jC d3
           have y3:w1.cell? ⟨E,3,none⟩=some (.int .i64 pg):=by rw [X.cell_far _ (by simp;omega) (Ne.symm c2)];exact jC x3
           have y4:w1.cell? ⟨E,4,none⟩=some (.int .i64 sl):=by rw [X.cell_far _ (by simp;omega) (Ne.symm c2)];exact jC x4
           have y5:w1.cell? ⟨E,5,none⟩=some (.string bf):=by rw [X.cell_far _ (by simp;omega) (Ne.symm c2)];exact jC x5
           have z3:=zI w1 _ (1+k) _ _ a7;have z4:=zI w1 _ (5+k) _ _ a7;refine D.out _ _ ⟨y3,y4,y5⟩ (fun a0=>?_);clear D K;try simp only [pS]
           refine wpAnyH_take (i:=19) (oi:=_) (v:=?_) rfl (by kernel_rfl) (by kernel_rfl) (by kernel_rfl) (fun _ _ _ h=>h) (Or.inl ⟨by rfl,?_⟩) (by assumption) ?_;rotate_left
           ·(intro w z;(try dsimp only at z);go_simp;try with_reducible rfl)
           try simp only [pS]
           refine wpAnyH_ready (rs:=[20]) (by kernel_rfl) (by simp) ?_;refine AllReadyH.cons (o:=_) rfl (fun K D=>?_) AllReadyH.nil;go_simp;refine D.out _ _ ⟨yJ U y3,yJ U y4,yJ U y5⟩ (fun a0=>?_);clear D K;try simp only [pS]
           refine wpAnyH_take (i:=22) (oi:=_) (v:=?_) rfl (by kernel_rfl) (by kernel_rfl) (by kernel_rfl) (fun _ _ _ h=>h) (Or.inl ⟨by rfl,?_⟩) (by assumption) ?_;rotate_left
           ·(intro w z;(try dsimp only at z);go_simp;try with_reducible rfl)
           try simp only [pS]
           refine wpAnyH_ready (rs:=[23]) (by kernel_rfl) (by simp) ?_;refine AllReadyH.cons (o:=_) rfl (fun K D=>?_) AllReadyH.nil;go_simp;refine D.out _ _ ⟨yJ U (yJ U y3),yJ U (yJ U y4),yJ U (yJ U y5)⟩ (fun a0=>?_);clear D K;try simp only [pS]
           refine wpAnyH_done (by kernel_rfl) ?_ _;refine NoPanic.normal ?_;have HM:=hid (zfW O.o a4 b9.o a8.o e8.o HB.o HR.o X c7 c5);clear X c7 c5 a0;go_wp2_with fail;refine ⟨⟨i+1,fun j=>if j=k then .slice (some ⟨gg,0,none⟩) (nk+1) cap else V j,by omega,by go_num,?_,HM.o.2⟩,?_⟩
           ·rw [a9.o,Pln.cv _ _ h7];refine HM.o.1.congr (fun _ _=>rfl) rfl fun j _=>?_;dsimp only;rw [HK.o];split
            ·rename_i hj;rw [One.e8 (by simp),hj];rfl
            ·rfl
           ·simp [intOf];omega
          ·refine AllReadyH.cons (o:=_) rfl (fun K D=>?_) AllReadyH.nil;go_simp;refine D.out _ _ ⟨jC x3,jC x4,jC x5⟩ (fun a0=>?_);clear D K;try simp only [pS]
           refine wpAnyH_ready (rs:=[5]) (by kernel_rfl) (by simp) ?_;refine AllReadyH.cons (o:=_) rfl (fun K D=>?_) AllReadyH.nil;go_simp;refine D.out _ _ ⟨jC x3,jC x4,jC x5⟩ (fun a0=>?_);clear D K;try simp only [pS]
           refine wpAnyH_ready (rs:=[17]) (by kernel_rfl) (by simp) ?_;refine AllReadyH.cons (o:=_) rfl (fun K D=>?_) AllReadyH.nil;refine step_append_lies _ (by rfl) _ _ _ (by rfl) w.heap.size 150 i0 _ 3 32 Tryz.underlying147 hi h3 h5 h6 rfl (by omega) (.slice Ak nk a6) nk xs (by rfl) ((Z.alloc _).drew)
            ⟨wc.heap.size,0,none⟩ 1 1 [.int .i64 pg,.int .i64 sl,.string bf] (by rfl) (by rfl) (World.news_of_block (cs:=#[.int .i64 pg,.int .i64 sl,.string bf]) (t:=150) (fr:=(0,0)) (heap_alloc_new wc _)) (by simp [Value.oneCell'])
            (by omega) (by unfold maxLen;omega) (by omega) (by simp;omega) (wc.heap.size+1) (by simp) ?_
           intro gg cap w1 c7 X c5 c6;have a7:w1.heap[w.heap.size+1]?=some (.cells (planCells (planOf (es.take i)) V) 164 (0,0)):=(X.block _ (by simp;omega) (Ne.symm a5)).trans (Yk O.o.U);have z1:w1.cell? ⟨w.heap.size+1,1+k,none⟩=some (.slice Ak nk a6):=by rw [X.cell_far _ (by simp;omega) (Ne.symm a5)];exact jC ck
           have z2:w1.cell? ⟨w.heap.size+1,5+k,none⟩=some (.bool ((planOf (es.take i)).s k).o):=by rw [X.cell_far _ (by simp;omega) (Ne.symm a5)];exact jC d3
           have y3:w1.cell? ⟨E,3,none⟩=some (.int .i64 pg):=by rw [X.cell_far _ (by simp;omega) (Ne.symm c2)];exact jC x3
           have y4:w1.cell? ⟨E,4,none⟩=some (.int .i64 sl):=by rw [X.cell_far _ (by simp;omega) (Ne.symm c2)];exact jC x4
           have y5:w1.cell? ⟨E,5,none⟩=some (.string bf):=by rw [X.cell_far _ (by simp;omega) (Ne.symm c2)];exact jC x5
           have z3:=zI w1 _ (1+k) _ _ a7;have z4:=zI w1 _ (5+k) _ _ a7;refine D.out _ _ ⟨y3,y4,y5⟩ (fun a0=>?_);clear D K;try simp only [pS]
           refine wpAnyH_take (i:=19) (oi:=_) (v:=?_) rfl (by kernel_rfl) (by kernel_rfl) (by kernel_rfl) (fun _ _ _ h=>h) (Or.inl ⟨by rfl,?_⟩) (by assumption) ?_;rotate_left
           ·(intro w z;(try dsimp only at z);go_simp;try with_reducible rfl)
           try simp only [pS]
           refine wpAnyH_ready (rs:=[20]) (by kernel_rfl) (by simp) ?_;refine AllReadyH.cons (o:=_) rfl (fun K D=>?_) AllReadyH.nil;go_simp;refine D.out _ _ ⟨yJ U y3,yJ U y4,yJ U y5⟩ (fun a0=>?_);clear D K;try simp only [pS]
           refine wpAnyH_take (i:=22) (oi:=_) (v:=?_) rfl (by kernel_rfl) (by kernel_rfl) (by kernel_rfl) (fun _ _ _ h=>h) (Or.inl ⟨by rfl,?_⟩) (by assumption) ?_;rotate_left
           ·(intro w z;(try dsimp only at z);go_simp;try with_reducible rfl)
           try simp only [pS]
           refine wpAnyH_ready (rs:=[23]) (by kernel_rfl) (by simp) ?_;refine AllReadyH.cons (o:=_) rfl (fun K D=>?_) AllReadyH.nil;go_simp;refine D.out _ _ ⟨yJ U (yJ U y3),yJ U (yJ U y4),yJ U (yJ U y5)⟩ (fun a0=>?_);clear D K;try simp only [pS]
           refine wpAnyH_done (by kernel_rfl) ?_ _;refine NoPanic.normal ?_;have HM:=hid (zfW O.o a4 b9.o a8.o e8.o HB.o HR.o X c7 c5);clear X c7 c5 a0;go_wp2_with fail;refine ⟨⟨i+1,fun j=>if j=k then .slice (some ⟨gg,0,none⟩) (nk+1) cap else V j,by omega,by go_num,?_,HM.o.2⟩,?_⟩
           ·rw [a9.o,Pln.cv _ _ h7];refine HM.o.1.congr (fun _ _=>rfl) rfl fun j _=>?_;dsimp only;rw [HK.o];split
            ·rename_i hj;rw [One.e8 (by simp),hj];rfl
            ·rfl
           ·simp [intOf];omega
        ·have n2:(kd == 2)=false:=by simp;omega
         have n3:(kd == 3)=false:=by simp;omega
         have n4:(kd == 4)=false:=by simp;omega
         have n5:(kd == 5)=false:=by simp;omega
         have n6:(kd == 6)=false:=by simp;omega
         have n7:(kd == 7)=false:=by simp;omega
         go_wp2_with fail;go_roundw
         case rel =>refine ⟨i+1,V,by omega,by go_num,?_,HB.o,HR.o⟩;rw [a9.o,Pln.cv _ _ h7];refine O.o.congr (fun _ _=>rfl) rfl fun j _=>?_;dsimp only;rw [One.gl f8 h4 f9];split<;>rfl
         case measure=>simp [intOf];omega
  ·obtain rfl:i=n:=by omega
   have d2:=hP.cell (i:=0) (by omega);have i3:=hP.ca 1;have f7:=hP.h7 (i:=0) (by omega);have i4:=hP.ca 5;have a1:=hP.put (k:=0) (w':=wr) (v:=.slice none 0 0) (l:=[]) (by omega) false ⟨rfl,rfl,rfl,za _,fun _ _ _=>rfl⟩ (ql _ _ _ _) (.inl rfl);simp only [Nat.add_zero] at d2 f7 a1;obtain ⟨A0,n0,g3⟩:=own_slice (hP.ba 0 (by omega));rw [g3] at d2;clear g3;have e7:=hid a1;clear a1;go_upto_region 23 with fail;have a1:=e7.o;have d9:zd w ((wr.setCell ⟨w.heap.size+1,1,none⟩ (.slice none 0 0)).setCell ⟨w.heap.size+1,5,none⟩ (.bool false)):=B_set (B_set c1 (Nat.le_succ _) _) (Nat.le_succ _) _;have L:((wr.setCell ⟨w.heap.size+1,1,none⟩ (.slice none 0 0)).setCell ⟨w.heap.size+1,5,none⟩ (.bool false)).heap[w.heap.size]?=some (.cells zei 164 (0,0)) :=
    (Below.heap_setCell _ _ _ _ (by show _≠w.heap.size+1;omega)).trans ((Below.heap_setCell _ _ _ _ (by show _≠w.heap.size+1;omega)).trans c3)
   have hT:es.take i=es:=by rw [<- HN.o,qi]
   rw [hT] at a1;generalize ((wr.setCell ⟨w.heap.size+1,1,none⟩ (.slice none 0 0)).setCell ⟨w.heap.size+1,5,none⟩ (.bool false))=u at a1 d9 L ⊢;clear e7 hP d2 i3 f7 i4 c3 hT c1;obtain ⟨A1,k1,d6⟩:=own_slice (a1.ba 1 (by omega));obtain ⟨A2,k2,d7⟩:=own_slice (a1.ba 2 (by omega));obtain ⟨A3,k3,d8⟩:=own_slice (a1.ba 3 (by omega));have Z:∀ i,1<=i->i<4->u.ownsRow w.heap.size 150 3 (V i) ((planOf es).s i).l.length (chgs ((planOf es).s i).l):=by intro i h1 h4;have:=a1.ba i h4;simpa only [if_neg (show i≠0 by omega)] using this
   simp only [if_neg (show (1:Nat)≠0 by omega),if_neg (show (2:Nat)≠0 by omega),if_neg (show (3:Nat)≠0 by omega)] at d6 d7 d8;have a3:=a1.U;have e0:planCells ⟨(planOf es).fr,fun i=>if i=0 then ⟨[],false⟩ else (planOf es).s i⟩ (fun i=>if i=0 then .slice none 0 0 else V i)=#[.int .u64 (planOf es).fr,.slice none 0 0,.slice A1 ((planOf es).s 1).l.length k1,.slice A2 ((planOf es).s 2).l.length k2,.slice A3 ((planOf es).s 3).l.length k3,.bool false,.bool ((planOf es).s 1).o,.bool ((planOf es).s 2).o,.bool ((planOf es).s 3).o]:=by unfold planCells;simp [d6,d7,d8]
   rw [e0] at a3;obtain ⟨h8,e6⟩:=zi2 e0 Z;clear e0 Z d6 d7 d8 a1;have x0:u.cell? ⟨w.heap.size+1,0,none⟩=some (.int .u64 (planOf es).fr):=ze u _ 0 _ _ _ a3;have r0:u.cell? ⟨w.heap.size,0,none⟩=some (.int .u64 0):=ze u _ 0 _ _ _ L;have q0:u.frozen? ⟨w.heap.size,0,none⟩=false:=zI u _ 0 _ _ L;have x1:u.cell? ⟨w.heap.size+1,1,none⟩=some (.slice none 0 0):=ze u _ 1 _ _ _ a3;have r1:u.cell? ⟨w.heap.size,1,none⟩=some (.slice none 0 0):=ze u _ 1 _ _ _ L;have q1:u.frozen? ⟨w.heap.size,1,none⟩=false:=zI u _ 1 _ _ L;have x2:u.cell? ⟨w.heap.size+1,2,none⟩=some (.slice A1 ((planOf es).s 1).l.length k1):=ze u _ 2 _ _ _ a3;have r2:u.cell? ⟨w.heap.size,2,none⟩=some (.slice none 0 0):=ze u _ 2 _ _ _ L;have q2:u.frozen? ⟨w.heap.size,2,none⟩=false:=zI u _ 2 _ _ L;have x3:u.cell? ⟨w.heap.size+1,3,none⟩=some (.slice A2 ((planOf es).s 2).l.length k2):=ze u _ 3 _ _ _ a3;have r3:u.cell? ⟨w.heap.size,3,none⟩=some (.slice none 0 0):=ze u _ 3 _ _ _ L;have q3:u.frozen? ⟨w.heap.size,3,none⟩=false:=zI u _ 3 _ _ L;have x4:u.cell? ⟨w.heap.size+1,4,none⟩=some (.slice A3 ((planOf es).s 3).l.length k3):=ze u _ 4 _ _ _ a3;have r4:u.cell? ⟨w.heap.size,4,none⟩=some (.slice none 0 0):=ze u _ 4 _ _ _ L;have q4:u.frozen? ⟨w.heap.size,4,none⟩=false:=zI u _ 4 _ _ L;have x5:u.cell? ⟨w.heap.size+1,5,none⟩=some (.bool false):=ze u _ 5 _ _ _ a3;have r5:u.cell? ⟨w.heap.size,5,none⟩=some (.bool false):=ze u _ 5 _ _ _ L;have q5:u.frozen? ⟨w.heap.size,5,none⟩=false:=zI u _ 5 _ _ L;have x6:u.cell? ⟨w.heap.size+1,6,none⟩=some (.bool ((planOf es).s 1).o):=ze u _ 6 _ _ _ a3;have r6:u.cell? ⟨w.heap.size,6,none⟩=some (.bool false):=ze u _ 6 _ _ _ L;have q6:u.frozen? ⟨w.heap.size,6,none⟩=false:=zI u _ 6 _ _ L;have x7:u.cell? ⟨w.heap.size+1,7,none⟩=some (.bool ((planOf es).s 2).o):=ze u _ 7 _ _ _ a3;have r7:u.cell? ⟨w.heap.size,7,none⟩=some (.bool false):=ze u _ 7 _ _ _ L;have q7:u.frozen? ⟨w.heap.size,7,none⟩=false:=zI u _ 7 _ _ L;have x8:u.cell? ⟨w.heap.size+1,8,none⟩=some (.bool ((planOf es).s 3).o):=ze u _ 8 _ _ _ a3;have r8:u.cell? ⟨w.heap.size,8,none⟩=some (.bool false):=ze u _ 8 _ _ _ L;have q8:u.frozen? ⟨w.heap.size,8,none⟩=false:=zI u _ 8 _ _ L;have HH:=hid (zlC (b0:=(.int .u64 (planOf es).fr)) (b1:=(.slice none 0 0)) (b2:=(.slice A1 ((planOf es).s 1).l.length k1)) (b3:=(.slice A2 ((planOf es).s 2).l.length k2)) (b4:=(.slice A3 ((planOf es).s 3).l.length k3)) (b5:=(.bool false)) (b6:=(.bool ((planOf es).s 1).o)) (b7:=(.bool ((planOf es).s 2).o)) (b8:=(.bool ((planOf es).s 3).o)) L);obtain ⟨HB,HR⟩:=zi2 d9 L;clear a3 L d9;go_wp2_with fail;refine bodyPost_ret (results_cell_row rfl _ _ w.heap.size 164 _ _ _ rfl HH.o Tryz.underlying164 rfl zqG) rfl ?_;refine ⟨⟨V,by rw [h8.o],fun i h1 h4=>?_⟩,?_⟩
   ·exact zma (e6.o i h1 h4) (own_ne (e6.o i h1 h4) HR.o (by decide)) _ _ _ _ _ _ _ _ _
   ·exact B_set (B_set (B_set (B_set (B_set (B_set (B_set (B_set (B_set HB.o (za _) _) (za _) _) (za _) _) (za _) _) (za _) _) (za _) _) (za _) _) (za _) _) (za _) _
end Go.Proofs.YtechnoogjhohfaaGreat.Rs
namespace Go.Proofs.YtechnoogjhohfaaGreat.Rs
open Go.RowKit
def anal (es:List Ent):Pln:=⟨(planOf es).fr,fun i=>if i=0 then ⟨[],false⟩ else (planOf es).s i⟩
theorem chgs_at (l:List Chg):∀ (i:Nat) (h:i<l.length) (j:Nat),j<3->(chgs l)[i*3+j]?=(l[i]).cells[j]?:=by
 induction l with
 | nil=>intro i h;simp at h
 | cons e es ih =>
  intro i h j u;show (Chg.cells e++chgs es)[_]?=_;cases i with
  | zero=>rw [vZ (by simp [Chg.cells];omega)];simp
  | succ i =>rw [vg (by simp [Chg.cells];omega)];have:=ih i (by simpa using h) j u;rw [show (i+1)*3+j-(Chg.cells e).length=i*3+j by simp [Chg.cells];omega,this];rfl
theorem four {P:Nat->Option Addr->Nat->Prop} (h:∀ i,i<4->∃ A c,P i A c):∃ (A:Nat->Option Addr) (c:Nat->Nat),∀ i,i<4->P i (A i) (c i):=by
 obtain ⟨u,L,h0⟩:=h 0 (by omega);obtain ⟨z,O,X⟩:=h 1 (by omega);obtain ⟨D,R,Y⟩:=h 2 (by omega);obtain ⟨E,U,Z⟩:=h 3 (by omega);refine ⟨fun i=>match i with | 0=>u | 1=>z | 2=>D | _=>E,fun i=>match i with | 0=>L | 1=>O | 2=>R | _=>U,fun i hi=>?_⟩
 match i,hi with
 | 0,_=>exact h0
 | 1,_=>exact X
 | 2,_=>exact Y
 | 3,_=>exact Z
end Go.Proofs.YtechnoogjhohfaaGreat.Rs
