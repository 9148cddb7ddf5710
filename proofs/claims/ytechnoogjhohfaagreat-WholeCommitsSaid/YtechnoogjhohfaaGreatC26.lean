/-
  Joined by a program from texts written one by one: part 26 of the walk through the program and of the law behind it.
-/
import Derived.Test.YtechnoogjhohfaaGreatC25
import Derived.StringKeys
set_option maxRecDepth 100000
set_option maxHeartbeats 6400000
set_option linter.unusedVariables false
set_option linter.unusedSimpArgs false
namespace Go.Proofs.YtechnoogjhohfaaGreat
open Go.RowKit Go.Lib Go.Maps
open YtechnoogjhohfaaGreatW
section
theorem HS.free {bz bz':Nat->Prop} {w w':World} {H D boots:Nat} {A:Nat->jG} (h:HS bz w H D boots A) (hs:∀ x,x<w.heap.size->¬ bz x->w'.heap[x]?=w.heap[x]?) (hz:w.heap.size<=w'.heap.size) (hb:∀ x,x<w.heap.size->bz' x->bz x) (hb2:∀ x,bz' x->x<w'.heap.size):HS bz' w' H D boots A:=by
 obtain ⟨F,cur,ts,h,hA⟩:=h
 have hF:∀ x,F x->w'.heap[x]?=w.heap[x]?:=fun x hx=>hs x (h.disk.lt x hx) (h.base.2.1 x hx)
 refine ⟨F,cur,ts,⟨(hs H (zd h.blk) h.base.1).trans h.blk,zv.same h.disk hF hz,h.line,h.bnd,h.cells,fun i l' hi hl=>?_,h.gone,h.apart,fun hx=>h.base.1 (hb H (zd h.blk) hx),fun x hx hy=>h.base.2.1 x hx (hb x (h.disk.lt x hx) hy),fun r l hr hl x hx hy=>h.base.2.2.1 r l hr hl x hx (hb x ((h.live r l hr hl).1.tags x hx).2 hy),hb2⟩,hA⟩
 obtain ⟨h1,h2⟩:=h.live i l' hi hl
 have hs':∀ x,QF l' x->w'.heap[x]?=w.heap[x]?:=fun x hx=>hs x (h1.tags x hx).2 (h.base.2.2.1 i l' hi hl x hx)
 refine ⟨⟨h1.sto.same (fun x hx=>?_) hz,h1.hD,h1.hr,h1.hF,h1.dk.same (hs' _ (.inr (.inl rfl))) (hs' _ (.inr (.inr rfl))),h1.km⟩,h2⟩
 rcases Qt h1 hx with hx | hx
 ·exact hs' x hx
 ·exact hF x hx
theorem HS.lts {bz:Nat->Prop} {w:World} {H D boots:Nat} {A:Nat->jG} (h:HS bz w H D boots A):∀ x,bz x->x<w.heap.size:=by
 obtain ⟨F,cur,ts,h,hA⟩:=h
 exact h.base.2.2.2
theorem HS.guard {bz:Nat->Prop} {w w':World} {H D boots:Nat} {A:Nat->jG} (h:HS bz w H D boots A) (hb:Below w.heap.size w w') (hz:w.heap.size<w'.heap.size):HS (fun x=>bz x∨x=w.heap.size) w' H D boots A :=
 h.free (fun x hx _=>hb.block x hx) hb.size (fun x hx h1=>by rcases h1 with h1 | rfl;exact h1;omega) fun x h1=>by
  rcases h1 with h1 | rfl
  ·have:=h.lts x h1;omega
  ·exact hz
theorem HS.turns {bz S:Nat->Prop} {w w':World} {H D boots:Nat} {A:Nat->jG} (h:HS bz w H D boots A) (ht:zn S w w') (hS:∀ x,S x->bz x):HS bz w' H D boots A :=
 h.free (fun x hx hn=>ht.block x hx fun hs=>hn (hS x hs)) ht.size (fun _ _ h=>h) fun x hx=>Nat.lt_of_lt_of_le (h.lts x hx) ht.size
theorem HS.weak {bz bz':Nat->Prop} {w:World} {H D boots:Nat} {A:Nat->jG} (h:HS bz w H D boots A) (hb:∀ x,bz' x->bz x):HS bz' w H D boots A :=
 h.free (fun _ _ _=>rfl) (Nat.le_refl _) (fun x _=>hb x) fun x hx=>h.lts x (hb x hx)
theorem zj.turns {bz:Nat->Prop} {w w':World} (h:zj bz w w'):zn (fun x=>¬ bz x) w w':=⟨h.os,h.tape,h.output,h.size,fun x hx hn=>h.old x (Classical.not_not.1 hn) hx⟩
theorem zj.lower {bz:Nat->Prop} {w w' w'':World} {B:Nat} (h:zj bz w' w'') (hb:Below B w w') (hB:B<=w.heap.size) (hz:∀ x,x<B->bz x):Below B w w'' :=
 hb.trans (h.turns.below (Nat.le_trans hB hb.size) fun x hx hn=>hn (hz x hx))
def KQ (k:ByteArray):Value:=.string k
def KR (k:ByteArray):Prop:=k.size<=maxLen
theorem zkW:Zq Tryz.prog 9 KQ KR:=⟨string_keyed Tryz.underlying9,fun x hx=>⟨_,Go.WideMaps.keyOf_string_mk Tryz.underlying9 hx⟩,fun x y h=>by unfold KQ at h;injection h⟩
def zaX (r:Rw):ByteArray:=za (UInt8.ofNat r.t::r.k)
theorem zkk {r:Rw} (h:r.ok):KR (zaX r):=by
 unfold KR zaX
 rw [qt,List.length_cons]
 have:=h.2.1
 unfold maxLen
 omega
def Kn (M:List (ByteArray × Rw)) (its:List It):Prop:=∀ p,p∈M->p.2.ok/\p.1=zaX p.2/\∃ x,x∈its/\x.rw=p.2
theorem Kn.nil (its:List It):Kn [] its:=fun p h=>by cases h
theorem zgB {K V:Type} [DecidableEq K] {l:List (K × V)} {x:K} {v:V} {p:K × V} (h:p∈aput l x v):p=(x,v)∨(p∈l/\p.1≠x):=by
 unfold aput at h
 split at h
 ·obtain ⟨q,hq,he⟩:=List.mem_map.1 h
  split at he
  ·exact .inl he.symm
  ·subst he;exact .inr ⟨hq,by assumption⟩
 ·rename_i hn
  rcases List.mem_append.1 h with h | h
  ·exact .inr ⟨h,jB.1 (by simpa using hn) p h⟩
  ·simp at h;exact .inl h
theorem Kn.put {M:List (ByteArray × Rw)} {its its':List It} {rw:Rw} (h:Kn M its) (hok:rw.ok) (hp:YA its its' rw):Kn (aput M (zaX rw) rw) its':=by
 obtain ⟨⟨n,i,he⟩,_,hso,_⟩:=hp
 intro p hpm
 rcases zgB hpm with rfl | ⟨h1,h2⟩
 ·refine ⟨hok,rfl,⟨rw,n,i⟩,?_,rfl⟩
  rw [he]
  exact (Qp hso ⟨rw,n,i⟩ _).2 (.inl rfl)
 ·obtain ⟨a,b,x,hx,hr⟩:=h p h1
  refine ⟨a,b,x,?_,hr⟩
  rw [he]
  refine (Qp hso ⟨rw,n,i⟩ x).2 (.inr ⟨hx,fun hs=>h2 ?_⟩)
  rw [b]
  rw [hr] at hs
  unfold zaX
  rw [hs.1,hs.2]
theorem YA.len {its its':List It} {rw:Rw} (h:YA its its' rw):its'.length<=its.length+1:=by
 obtain ⟨⟨n,i,he⟩,_⟩:=h
 rw [he]
 unfold yZ yX
 split
 ·rw [List.length_set];omega
 ·simp only [List.length_append,List.length_cons,List.length_take,List.length_drop];omega
section
variable {bz:Nat->Prop} {H D r boots ct G:Nat} {ep nx hd tn:Int} {its its' its2:List It} {rw:Rw} {w:World} {A:Nat->jG}
theorem zlp {k:Int} (h:HS bz w H D boots A) (hr:r<4) (htn:tn=r) (ha:A r=.live ct ep nx [(hd,1)] (.did its rw its') G) (hk:(k=11/\its2=its')∨(k=12/\its2=its)) (hhd:iok hd) :
  Calls Tryz.prog 9 #[.pointer (some ⟨H,0,none⟩),.agg (JD k tn hd 0 { data:=#[] } { data:=#[] } 0)] w fun e W=>∃ A',e=.returned (.agg (ve 0 0))/\zj bz w W/\HS1 bz W H D boots A r (.live ct ep nx [(hd,0)] (.idle its2) G) A':=by
 rcases hk with ⟨rfl,rfl⟩ | ⟨rfl,rfl⟩
 ·exact zhG h hr htn ha (.inr ⟨its,rw,rfl⟩) hhd
 ·exact zeK h hr htn ha (.inr ⟨rw,its',rfl⟩) hhd
end
end
def RowsIn (w:World) (A:Option Addr) (n:Nat):Prop:=n=0∨∃ g off,A=some ⟨g,off,none⟩/\g<w.heap.size/\∀ i,i<n->∃ (t:Int) (k v:ByteArray),w.cell? ⟨g,off+i*3,none⟩=some (.int .i64 t)/\w.cell? ⟨g,off+i*3+1,none⟩=some (.string k)/\w.cell? ⟨g,off+i*3+2,none⟩=some (.string v)
def zej (w:World) (A:Option Addr) (n:Nat):Prop:=n=0∨∃ g off,A=some ⟨g,off,none⟩/\g<w.heap.size/\∀ i,i<n->∃ x:Int,w.cell? ⟨g,off+i,none⟩=some (.int .u64 x)
def zei (w:World) (A:Option Addr) (n:Nat):Prop:=n=0∨∃ g off,A=some ⟨g,off,none⟩/\g<w.heap.size/\∀ i,i<n->∃ x:Bool,w.cell? ⟨g,off+i,none⟩=some (.bool x)
theorem zlb:∀ t:Nat,t<4->(UInt8.ofNat t).toNat=t:=by decide
structure Cm (w:World) (B H D mb i:Nat) (wr:World) (boots:Nat) (A:Nat->jG) (ep nx:Int) (G:Nat) (its:List It) (M:List (ByteArray × Rw)):Prop where
 hs:HS (fun x=>x<B∨x=mb) wr H D boots A
 a0:A 0=.live 1 ep nx [] (.idle its) G
 aj:∀ j,j≠0->j<4->A j=.gone 0
 ep:JM ep
 nx:0<=nx/\nx<=2*i
 g:G<=1+2*i
 b:boots<=1+i
 len:its.length<=i
 m:zU wr KQ KR ui mb M
 want:Kn M its
 kept:Below w.heap.size w wr
def zhI (w:World) (B H D mb i:Nat) (wr:World):Prop:=∃ boots A ep nx G its M,Cm w B H D mb i wr boots A ep nx G its M
theorem zhZ (er hd:Int) (W:World):(Instr.field 31 (.agg (ve er hd)) 0).run Tryz.prog W=.ok (.int .i64 er) W:=by kernel_rfl
theorem zjf {bz:Nat->Prop} {H D r boots ct G:Nat} {ep nx hd tn rt:Int} {its:List It} {rk rv:ByteArray} {rw:Rw} {w:World} {A:Nat->jG} (h:HS bz w H D boots A) (hr:r<4) (htn:tn=r) (ha:A r=.live ct ep nx [(hd,1)] (.began its) G) (hhd:iok hd) (hok:rw.ok) (hG:G<=1000000) (e1:rt=rw.t) (e2:rk=za rw.k) (e3:rv=za rw.v) (hl:its.length<30) :
  Calls Tryz.prog 9 #[.pointer (some ⟨H,0,none⟩),.agg (JD 6 tn hd rt rk rv 0)] w fun e W=>∃ (A':Nat->jG) (its':List It),e=.returned (.agg (ve 0 0))/\zj bz w W/\HS1 bz W H D boots A r (.live ct ep nx [(hd,1)] (.did its rw its') (G+1)) A'/\YA its its' rw:=by
 refine (zjr h hr htn ha hhd hok hG e1 e2 e3).mono ?_
 rintro e W ⟨A',hk,⟨_,_,h30,_⟩ | ⟨rfl,its',hs,hp⟩⟩
 ·omega
 ·exact ⟨A',its',rfl,hk,hs,hp⟩
theorem commits_any (A0 A1 A2:Option Addr) (n c0 m c1 k c2:Nat) (w:World) (h0:RowsIn w A0 n) (h1:zej w A1 m) (h2:zei w A2 k) :
  Calls Tryz.prog 3 #[.slice A0 n c0,.slice A1 m c1,.slice A2 k c2] w fun e W=>e=.returned (.bool true)/\Below w.heap.size w W:=by
 have HSO:=hid (zhu w)
 have hmm:=@run_makeMap Tryz.prog
 by_cases hbig:30<n∨60<m
 ·by_cases h30:30<n
  ·have d1:decide ((30:Int)<(n:Int))=true:=by simp;omega
   go_enter Tryz.func3,Tryz.ntmps3
   go_wp2_with (go_at_call 7;(with_reducible refine HSO.out.mono ?_);rintro e1 w1 ⟨rfl,hk1⟩)
   go_ret
   exact ⟨rfl,hk1.fin⟩
  ·have d1:decide ((30:Int)<(n:Int))=false:=by simp;omega
   have d2:decide ((60:Int)<(m:Int))=true:=by simp;omega
   go_enter Tryz.func3,Tryz.ntmps3
   go_wp2_with (go_at_call 7;(with_reducible refine HSO.out.mono ?_);rintro e1 w1 ⟨rfl,hk1⟩)
   go_ret
   exact ⟨rfl,hk1.fin⟩
 have d1:decide ((30:Int)<(n:Int))=false:=by simp;omega
 have d2:decide ((60:Int)<(m:Int))=false:=by simp;omega
 go_enter Tryz.func3,Tryz.ntmps3
 go_upto_region 5 with (go_at_call 7;(with_reducible refine HSO.out.mono ?_);rintro e1 w1 ⟨rfl,hk1⟩)
 have HNEW:=hid (zgF w1)
 have HK1:=hid hk1
 clear hk1 HSO
 go_upto_region 6 with (go_at_call 8;(with_reducible refine HNEW.out.mono ?_);rintro e2 w2 ⟨H,D,A2',rfl,hs2,ha2,hk2⟩)
 have h3:=hid (zds (r:=0) (tn:=0) hs2 (by omega) rfl (ha2 0) (by omega) (by omega))
 have HA2:=hid ha2
 have HK2:=hid (hk2.up HK1.out.size)
 clear hs2 ha2 hk2 HNEW
 go_upto_region 7 with (go_at_call 9;(with_reducible refine h3.out.mono ?_);rintro e3 w3 ⟨ep,A3,rfl,hk3,hep,hs3⟩)
 obtain ⟨w4,hw4⟩:∃ w4,w4=w3.alloc (.map #[] 0):=⟨_,rfl⟩
 have hb4:Below w3.heap.size w3 w4:=by rw [hw4];exact B_alloc (Below.refl _ _) _
 have hm4:zU w4 KQ KR ui w3.heap.size ([]:List (ByteArray × Rw)):=by rw [hw4];exact zU.made w3 KQ KR ui
 have hz4:w4.heap.size=w3.heap.size+1:=by rw [hw4];simp
 have hs4:=hs3.1.guard hb4 (by omega)
 have hk4:Below w.heap.size w w4:=((HK1.out.trans (HK2.out.trans (hk3.up HK1.out.size))).trans (zj.below hb4)).fin
 have hB:w.heap.size<=w1.heap.size:=HK1.out.size
 obtain ⟨mb,hmb⟩:∃ mb,mb=w3.heap.size:=⟨_,rfl⟩
 have hbm:w1.heap.size<=mb:=by rw [hmb];exact Nat.le_trans HK2.out.size hk3.size
 obtain ⟨B,hBe⟩:∃ B,B=w1.heap.size:=⟨_,rfl⟩
 rw [<- hmb] at hm4 hs4
 rw [<- hBe] at hB hbm hs4
 have hC0:zhI w B H D mb 0 w4:=⟨1,A3,ep,0,1,[],[],hs4,hs3.2.1,fun j hj _=>(hs3.2.2 j hj).trans (HA2.out j),hep,by omega,by omega,by omega,Nat.le_refl _,hm4,Kn.nil _,hk4⟩
 obtain ⟨HC0,HB,HBM⟩:=zi3 hC0 hB hbm
 have HW4:=hid hw4.symm
 have HMB:=hid hmb.symm
 clear hC0 hB hbm hw4 hmb hm4 hs4 hk4 hz4 hb4 hs3 hep hk3 HK2 HK1 HA2 hBe h3 d1 d2
 go_upto_region 8 with fail
 rw [HW4.out,HMB.out]
 clear HW4 HMB hmm
 go_upto_region 9 with fail
 go_loopw [34] (fun u wr=>∃ i:Nat,i<=n/\u=.int .i64 i/\zhI w B H D mb i wr) (fun u _=>((n:Int)-jl u).toNat)
 case atStart=>exact ⟨0,Nat.zero_le _,rfl,HC0.out⟩
 case round =>
  clear HC0
  obtain ⟨i,hi,rfl,boots,A,ep,nx,G,its,M,hC⟩:=hrel
  by_cases hlt:i<n
  ·rcases h0 with rfl | ⟨g,off,rfl,hg,hrows⟩
   ·omega
   obtain ⟨t,kk,vv,a0,a1,a2⟩:=hrows i hlt
   replace a0:=(World.cell?_of_block (w:=w) (hC.kept.block g hg)).trans a0
   replace a1:=(World.cell?_of_block (w:=w) (hC.kept.block g hg)).trans a1
   replace a2:=(World.cell?_of_block (w:=w) (hC.kept.block g hg)).trans a2
   have q1:(i:Int)<(n:Int):=by omega
   obtain ⟨HC,HRO⟩:=zi2 hC hrows
   clear hC hrows
   go_upto_region 11 with fail
   have hb5:Below wr.heap.size wr (wr.alloc (.cells #[.int .i64 t,.string kk,.string vv] 34)):=B_alloc (Below.refl _ _) _
   have hX5:=zk wr (.cells #[.int .i64 t,.string kk,.string vv] 34) rfl
   generalize wr.alloc (.cells #[.int .i64 t,.string kk,.string vv] 34)=w5 at hb5 hX5 ⊢
   obtain ⟨X,hX⟩:∃ X,X=wr.heap.size:=⟨_,rfl⟩
   rw [<- hX] at hX5 ⊢
   clear a0 a1 a2 hX
   have y0:=(cell_of_row w5 X 0 _ _ _ hX5).trans (show _=some (Value.int .i64 t) from rfl)
   have y1:=(cell_of_row w5 X 1 _ _ _ hX5).trans (show _=some (Value.string kk) from rfl)
   have y2:=(cell_of_row w5 X 2 _ _ _ hX5).trans (show _=some (Value.string vv) from rfl)
   obtain ⟨t3,ht3,hand⟩:=zju t 3 (by omega)
   have hand':bits .and .i64 t 3=(t3:Int):=hand
   have HC5:=hid (B_call HC.out.kept hb5)
   clear hand
   obtain ⟨s1,hs1e⟩:∃ s1,IntKind.i64.wrap ((kk.size:Int)+(vv.size:Int))=s1:=⟨_,rfl⟩
   by_cases hs1:(100:Int)<s1
   ·have z1:decide ((100:Int)<s1)=true:=by simpa using hs1
    go_wp2_with fail
    go_ret
    exact ⟨rfl,HC5.out⟩
   have z1:decide ((100:Int)<s1)=false:=by simpa using hs1
   by_cases hs2:¬ (t3:Int)=t
   ·have z2:((t3:Int) != t)=true:=by simpa using hs2
    go_wp2_with fail
    go_ret
    exact ⟨rfl,HC5.out⟩
   replace hs2:=Classical.not_not.1 hs2
   have z2:((t3:Int) != t)=false:=by simpa using hs2
   by_cases hs3:15<kk.size
   ·have z3:decide ((15:Int)<(kk.size:Int))=true:=by simp;omega
    go_wp2_with fail
    go_ret
    exact ⟨rfl,HC5.out⟩
   have z3:decide ((15:Int)<(kk.size:Int))=false:=by simp;omega
   by_cases hs4:21<vv.size
   ·have z4:decide ((21:Int)<(vv.size:Int))=true:=by simp;omega
    go_wp2_with fail
    go_ret
    exact ⟨rfl,HC5.out⟩
   have z4:decide ((21:Int)<(vv.size:Int))=false:=by simp;omega
   go_upto_region 13 with fail
   clear y0 y1 y2 z1 z2 z3 z4 hand' hs1 hs1e
   subst hs2
   obtain ⟨rw,hrt,hrk,hrv⟩:∃ rw:Rw,rw.t=t3/\kk=za rw.k/\vv=za rw.v:=⟨⟨t3,kk.data.toList,vv.data.toList⟩,rfl,rfl,rfl⟩
   have hok:rw.ok:=by
    refine ⟨by omega,?_,?_⟩
    ·rw [hrk,qt] at hs3;omega
    ·rw [hrv,qt] at hs4;omega
   subst hrt hrk hrv
   have HOK:=hid hok
   have HS5:=hid (HC.out.hs.below hb5)
   have HM5:=hid (HC.out.m.below hb5 HC.out.m.lt)
   have HX5:=hid hX5
   clear hs3 hs4 hok hb5 hX5 ht3
   have hnx:=HC.out.nx
   have hfd:=zia
   have hfe:=zhZ
   have h6:=hid (zdt (r:=0) (tn:=0) HS5.out (by omega) rfl HC.out.a0 HC.out.ep (by omega))
   go_upto_region 14 with (go_at_call 9;(with_reducible refine h6.out.mono ?_);rintro e6 w6 ⟨hd,A6,rfl,hd0,hdk,hk6,hs6⟩)
   have hX6:=hk6 _ _ _ (by decide) HX5.out
   have HM6:=hid (HM5.out.turns hk6.turns (fun h=>h (.inr rfl)))
   have HK6:=hid (hk6.lower HC5.out (Nat.le_refl _) (fun x hx=>.inl (Nat.lt_of_lt_of_le hx HB.out)))
   have h7:=hid (zba (r:=0) (tn:=0) hs6.1 (by omega) rfl hs6.2.1 hdk)
   have HJ6:=hid fun j hj (h4:j<4)=>(hs6.2.2 j hj).trans (HC.out.aj j hj h4)
   have HX6:=hid hX6
   clear hk6 hs6 hX6 hd0 h6
   go_upto_region 15 with (go_at_call 9;(with_reducible refine h7.out.mono ?_);rintro e7 w7 ⟨A7,rfl,hk7,hs7⟩)
   have hX7:=hk7 _ _ _ (by decide) HX6.out
   have HM7:=hid (HM6.out.turns hk7.turns (fun h=>h (.inr rfl)))
   have HK7:=hid (hk7.lower HK6.out (Nat.le_refl _) (fun x hx=>.inl (Nat.lt_of_lt_of_le hx HB.out)))
   have h8:=hid (zjf (r:=0) (tn:=0) (rt:=rw.t) (rk:=za rw.k) (rv:=za rw.v) hs7.1 (by omega) rfl hs7.2.1 hdk HOK.out (by have:=HC.out.g;omega) rfl rfl rfl (by have:=HC.out.len;omega))
   have HJ7:=hid fun j hj (h4:j<4)=>(hs7.2.2 j hj).trans (HJ6.out j hj h4)
   have HX7:=hid hX7
   clear hk7 hs7 h7 hX7
   go_upto_region 17 with (first
    | (show wpList _ _ _ (⟨some 77,_,_,_,_,_⟩::_) _ _;refine wpList_load_row rfl 34 (.tmp 10) rfl X (by rfl) 34 _ (0,0) _ HX7.out Tryz.underlying34 rfl (by kernel_rfl) ?_)
    | (go_at_call 9;(with_reducible refine h8.out.mono ?_);rintro e8 w8 ⟨A8,its',rfl,hk8,hs8,hput⟩))
   have hX8:=hk8 _ _ _ (by decide) HX7.out
   have HM8:=hid (HM7.out.turns hk8.turns (fun h=>h (.inr rfl)))
   have HK8:=hid (hk8.lower HK7.out (Nat.le_refl _) (fun x hx=>.inl (Nat.lt_of_lt_of_le hx HB.out)))
   have HS8:=hid hs8
   have HJ8:=hid fun j hj (h4:j<4)=>(hs8.2.2 j hj).trans (HJ7.out j hj h4)
   obtain ⟨HX8,HPUT⟩:=zi2 hX8 hput
   clear hk8 hs8 h8 hX8 hput
   go_upto_region 18 with fail
   go_cut [91] from 36 to 162 (fun s91 wc=>(∃ b,s91=.bool b)/\w8=wc)
   case first =>
    by_cases hik:i<k
    ·rcases h2 with rfl | ⟨g2,off2,rfl,hg2,hbs⟩
     ·omega
     obtain ⟨bb,hbb⟩:=hbs i hik
     have hbb8:w8.cell? ⟨g2,off2+i,none⟩=some (.bool bb):=(World.cell?_of_block (w:=w) (HK8.out.block g2 hg2)).trans hbb
     have z1:decide ((i:Int)<(k:Int))=true:=by simpa using hik
     go_wp2_with fail
     go_meet
     case rel=>exact ⟨⟨bb,rfl⟩,rfl⟩
    ·have z1:decide ((i:Int)<(k:Int))=false:=by simp;omega
     go_wp2_with fail
     go_meet
     case rel=>exact ⟨⟨false,rfl⟩,rfl⟩
   case rest =>
   obtain ⟨⟨bb,rfl⟩,hwc⟩:=hcut
   cases hwc
   go_upto_if 91 with fail
   go_cut [12] from 91 to 91 (fun s12 wc=>(∃ k:Int,s12=.int .i64 k/\(k=11∨k=12))/\w8=wc)
   case first =>
    cases bb with
    | true =>
     go_wp2_with fail
     go_meet
     case rel=>exact ⟨⟨12,rfl,.inr rfl⟩,rfl⟩
    | false =>
     go_wp2_with fail
     go_meet
     case rel=>exact ⟨⟨11,rfl,.inl rfl⟩,rfl⟩
   case rest =>
   obtain ⟨⟨ek,rfl,hek⟩,hwc⟩:=hcut
   cases hwc
   obtain ⟨its2,hend⟩:∃ its2,(ek=11/\its2=its')∨(ek=12/\its2=its):=by
    rcases hek with rfl | rfl
    ·exact ⟨its',.inl ⟨rfl,rfl⟩⟩
    ·exact ⟨its,.inr ⟨rfl,rfl⟩⟩
   have h9:=hid (zlp (r:=0) (tn:=0) HS8.out.1 (by omega) rfl HS8.out.2.1 hend hdk)
   go_upto_region 22 with (go_at_call 9;(with_reducible refine h9.out.mono ?_);rintro e9 w9 ⟨A9,rfl,hk9,hs9⟩)
   have hX9:=hk9 _ _ _ (by decide) HX8.out
   have HM9:=hid (HM8.out.turns hk9.turns (fun h=>h (.inr rfl)))
   have HK9:=hid (hk9.lower HK8.out (Nat.le_refl _) (fun x hx=>.inl (Nat.lt_of_lt_of_le hx HB.out)))
   have HJ9:=hid fun j hj (h4:j<4)=>(hs9.2.2 j hj).trans (HJ8.out j hj h4)
   obtain ⟨HS9,HX9⟩:=zi2 hs9 hX9
   clear hk9 hs9 h9 hX9 hek
   go_upto_if 100 with fail
   go_cut [12] from 92 to 100 (fun _ wc=>∃ M2,HS (fun x=>x<B∨x=mb) wc H D boots A9/\zU wc KQ KR ui mb M2/\Kn M2 its2/\Below w.heap.size w wc)
   case first =>
    rcases hend with ⟨rfl,rfl⟩ | ⟨rfl,rfl⟩
    ·have x4:IntKind.u8.wrap (rw.t:Int)=(rw.t:Int):=Yu rw.t (by have:=HOK.out.1;omega)
     obtain ⟨w10,hw10⟩:∃ w10,w10=w9.alloc (.cells #[.int .u8 (rw.t:Int)] 5):=⟨_,rfl⟩
     have hb10:Below w9.heap.size w9 w10:=by rw [hw10];exact B_alloc (Below.refl _ _) _
     have hin10:ze w10 (.slice (some ⟨w9.heap.size,0,none⟩) 1 1) [UInt8.ofNat rw.t]:=by
      refine ze.of_own (B:=w9.heap.size) rfl ?_
      have h1:=zaO (w:=w9) (xs:=[Value.int .u8 (rw.t:Int)]) (e:=5) (s:=1) (n:=1) rfl (by unfold maxLen;omega)
      have h2:zo [UInt8.ofNat rw.t]=[Value.int .u8 (rw.t:Int)]:=by
       simp only [zo,List.map_cons,List.map_nil,List.cons.injEq,and_true]
       rw [zlb _ HOK.out.1]
      rw [h2,hw10]
      exact h1
     have y0:=(cell_of_row w9 X 0 _ _ _ HX9.out).trans (show _=some (Value.int .i64 (rw.t:Int)) from rfl)
     have hz1:(za [UInt8.ofNat rw.t]).size+(za rw.k).size<=16:=by rw [qt,qt];have:=HOK.out.2.1;simp;omega
     have hX10:=zb HX9.out hb10 (zd HX9.out)
     have y1:=(cell_of_row w10 X 1 _ _ _ hX10).trans (show _=some (Value.string (za rw.k)) from rfl)
     have HM10:=hid (HM9.out.below hb10 HM9.out.lt)
     obtain ⟨HIN10,HX10,HW10⟩:=zi3 hin10 hX10 hw10
     have HK10:=hid (B_call HK9.out hb10)
     have HS10:=hid (HS9.out.1.below hb10)
     clear hw10 hb10 hin10 hX10
     go_wp2_with (first
      | (show wpList _ _ _ (⟨some 106,_,_,_,_,_⟩::_) _ _;rw [<- HW10.out];refine wpList_plain rfl fun K hK=>vR 29 9 (.tmp 105) rfl (.slice (some ⟨w9.heap.size,0,none⟩) 1 1) (.string (za [UInt8.ofNat rw.t])) (by rfl) (vp HIN10.out) (hK _ _ ?_))
      | (show wpList _ _ _ (⟨some 110,_,_,_,_,_⟩::_) _ _;refine wpList_load_row rfl 34 (.tmp 10) rfl X (by rfl) 34 _ (0,0) _ HX10.out Tryz.underlying34 rfl (by kernel_rfl) ?_)
      | (at_mapUpdate;refine yu _ rfl _ _ _ 38 34 rfl zkW Tryz.underlying38 rfl HM10.out (zaX rw) rfl (zkk HOK.out) rw rfl ?_;intro w11 h11 t11))
     have hs11:=HS10.out.turns (Yk t11) (fun x e=>.inr e)
     have hb11:=HK10.out.trans ((Yk t11).below HK10.out.size fun x hx e=>by have:=HB.out;have:=HBM.out;omega)
     go_meet
     case rel=>exact ⟨_,hs11,h11,HC.out.want.put HOK.out HPUT.out,hb11⟩
    ·go_wp2_with fail
     go_meet
     case rel=>exact ⟨_,HS9.out.1,HM9.out,HC.out.want,HK9.out⟩
   case rest =>
   obtain ⟨M2,hs10,hm10,hw10,hk10⟩:=hcut
   have hl10:its2.length<=i+1:=by
    have h1:=HC.out.len
    have h2:=HPUT.out.len
    rcases hend with ⟨_,rfl⟩ | ⟨_,rfl⟩<;>omega
   obtain ⟨HS10,HM10,HW10,HK10,HL10⟩:=zi5 hs10 hm10 hw10 hk10 hl10
   have HNX:=hid HC.out.nx
   have HG:=hid HC.out.g
   have HBO:=hid HC.out.b
   have HEP:=hid HC.out.ep
   have HA9:=hid HS9.out.2.1
   clear hs10 hm10 hw10 hk10 hl10 hend HX9 HM9 HK9 HS9 HPUT HX8 HM8 HK8 HJ8 HS8 HJ7 HX7 HM7 HK7 HX6 HM6 HK6 HJ6 HX5 HM5 HS5 HC5 HOK hnx
   go_upto_if 114 with fail
   go_cut [12] from 111 to 114 (fun _ wc=>∃ boots' A' ep' nx' G',Cm w B H D mb (i+1) wc boots' A' ep' nx' G' its2 M2/\nx'<=2*i+1)
   case first =>
    by_cases him:i<m
    ·rcases h1 with rfl | ⟨g1,off1,rfl,hg1,hms⟩
     ·omega
     obtain ⟨mk,hmk⟩:=hms i him
     have hmk10:wc.cell? ⟨g1,off1+i,none⟩=some (.int .u64 mk):=(World.cell?_of_block (w:=w) (HK10.out.block g1 hg1)).trans hmk
     have z1:decide ((i:Int)<(m:Int))=true:=by simpa using him
     have hcr:=hid (zeL (mask:=mk) HS10.out (by have:=HBO.out;omega) (by
      intro r hr
      by_cases e:r=0
      ·rw [e,HA9.out];show G+1<=1000000;have:=HG.out;omega
      ·rw [HJ9.out r e hr];exact trivial))
     go_wp2_with (go_at_call 9;(with_reducible refine hcr.out.mono ?_);rintro e11 w11 ⟨A11,rfl,hk11,hs11,hc11⟩)
     have hc0:=hc11 0 (by omega)
     rw [HA9.out] at hc0
     obtain ⟨ep2,hep2,hc0⟩:=hc0
     go_meet
     case rel =>
      refine ⟨boots+1,A11,ep2,0,G+1+1,⟨hs11,hc0,fun j hj h4=>?_,hep2,by omega,by have:=HG.out;omega,by have:=HBO.out;omega,HL10.out,HM10.out.turns hk11.turns (fun h=>h (.inr rfl)),HW10.out,hk11.lower HK10.out (Nat.le_refl _) (fun x hx=>.inl (Nat.lt_of_lt_of_le hx HB.out))⟩,by omega⟩
      have:=hc11 j h4
      rw [HJ9.out j hj h4] at this
      exact this
    ·have z1:decide ((i:Int)<(m:Int))=false:=by simp;omega
     have hsh:=hid (zhH (r:=0) (tn:=0) HS10.out (by omega) rfl HA9.out hdk)
     go_wp2_with (go_at_call 9;(with_reducible refine hsh.out.mono ?_);rintro e11 w11 ⟨A11,rfl,hk11,hs11⟩)
     go_meet
     case rel=>exact ⟨boots,A11,ep,nx+1,G+1,⟨hs11.1,hs11.2.1,fun j hj h4=>(hs11.2.2 j hj).trans (HJ9.out j hj h4),HEP.out,by have:=HNX.out;omega,by have:=HG.out;omega,by have:=HBO.out;omega,HL10.out,HM10.out.turns hk11.turns (fun h=>h (.inr rfl)),HW10.out,hk11.lower HK10.out (Nat.le_refl _) (fun x hx=>.inl (Nat.lt_of_lt_of_le hx HB.out))⟩,by have:=HNX.out;omega⟩
   case rest =>
   clear HS10 HM10 HW10 HK10 HL10 HNX HG HBO HEP HA9 HJ9 hdk HC
   obtain ⟨boots',A',ep',nx',G',hC',hnx'⟩:=hcut
   have hnx:=hC'.nx
   have HC:=hid hC'
   have HNX:=hid hnx'
   have h6:=hid (zdt (r:=0) (tn:=0) HC.out.hs (by omega) rfl HC.out.a0 HC.out.ep (by omega))
   clear hC' hnx' hnx
   go_upto_region 28 with (go_at_call 9;(with_reducible refine h6.out.mono ?_);rintro e6 w6 ⟨hd,A6,rfl,hd0,hdk,hk6,hs6⟩)
   have HM6:=hid (HC.out.m.turns hk6.turns (fun h=>h (.inr rfl)))
   have HK6:=hid (hk6.lower HC.out.kept (Nat.le_refl _) (fun x hx=>.inl (Nat.lt_of_lt_of_le hx HB.out)))
   have h7:=hid (zba (r:=0) (tn:=0) hs6.1 (by omega) rfl hs6.2.1 hdk)
   have HJ6:=hid fun j hj (h4:j<4)=>(hs6.2.2 j hj).trans (HC.out.aj j hj h4)
   clear hk6 hs6 hd0 h6
   go_upto_region 29 with (go_at_call 9;(with_reducible refine h7.out.mono ?_);rintro e7 w7 ⟨A7,rfl,hk7,hs7⟩)
   have HM7:=hid (HM6.out.turns hk7.turns (fun h=>h (.inr rfl)))
   have HK7:=hid (hk7.lower HK6.out (Nat.le_refl _) (fun x hx=>.inl (Nat.lt_of_lt_of_le hx HB.out)))
   have HS7:=hid hs7
   have HJ7:=hid fun j hj (h4:j<4)=>(hs7.2.2 j hj).trans (HJ6.out j hj h4)
   clear hk7 hs7 h7 HM6 HK6 HJ6
   go_upto_region 30 with (at_range;refine ZG _ rfl _ 38 34 rfl Tryz.underlying38 rfl HM7.out ?_;intro w8 hr8 t8 s8)
   have hb8:Below w7.heap.size w7 w8:=t8.below (Nat.le_refl _) (fun _ _ h=>h)
   have hs8:=HS7.out.1.guard hb8 (by omega)
   have hk8:=B_call HK7.out hb8
   obtain ⟨rg,hrg⟩:∃ rg,rg=w7.heap.size:=⟨_,rfl⟩
   rw [<- hrg] at hr8 hs8 ⊢
   have hrgl:w.heap.size<=rg:=by rw [hrg];exact HK7.out.size
   have HA7:=hid HS7.out.2.1
   obtain ⟨R,hR⟩:∃ R:World->Prop,R=fun wr=>∃ left A,HS (fun x=>(x<B∨x=mb)∨x=rg) wr H D boots' A/\A 0=.live 1 ep' (nx'+1) [(hd,1)] (.began its2) G'/\(∀ j,j≠0->j<4->A j=.gone 0)/\qV wr KQ KR ui mb rg M2 left/\Below w.heap.size w wr:=⟨_,rfl⟩
   have hR0:R w8:=by rw [hR];exact ⟨M2,A7,hs8,HA7.out,HJ7.out,hr8,hk8⟩
   obtain ⟨HR,HR0,HRG⟩:=zi3 hR hR0 hrgl
   clear hr8 t8 s8 hb8 hs8 hk8 hrg hrgl hR hR0 HM7 HK7 HS7 HJ7 HA7
   try go_frame
   go_loopw [15] (fun _ wr=>R wr) (fun _ wr=>wr.rangeLeft mb rg)
   case atStart=>exact HR0.out
   case round =>
    clear HR0
    rw [HR.out] at hrel
    obtain ⟨left,A9,hs9,ha9,hj9,hrg9,hk9⟩:=hrel
    obtain ⟨HS9,HA9,HJ9,HRN,HK9⟩:=zi5 hs9 ha9 hj9 hrg9 hk9
    clear hs9 ha9 hj9 hrg9 hk9
    go_wp2_with (at_next;refine Yw _ rfl _ rfl zkW.inj rfl HRN.out ?_ ?_)
    ·intro _
     have h10:=hid (zeK (r:=0) (tn:=0) HS9.out (by omega) rfl HA9.out (.inl rfl) hdk)
     have HM9:=hid HRN.out.map
     have hnx2:=HC.out.nx
     clear HRN
     go_upto_region 36 with (go_at_call 9;(with_reducible refine h10.out.mono ?_);rintro e10 w10 ⟨A10,rfl,hk10,hs10⟩)
     have HM10:=hid (HM9.out.turns hk10.turns (fun h=>h (.inl (.inr rfl))))
     have HK10:=hid (hk10.lower HK9.out (Nat.le_refl _) (fun x hx=>.inl (.inl (Nat.lt_of_lt_of_le hx HB.out))))
     have h11:=hid (zhH (r:=0) (tn:=0) hs10.1 (by omega) rfl hs10.2.1 hdk)
     have HJ10:=hid fun j hj (h4:j<4)=>(hs10.2.2 j hj).trans (HJ9.out j hj h4)
     clear hk10 hs10 h10 HM9 HK9 HJ9 HS9 HA9
     have hfin:∀ W A11,zj (fun x=>(x<B∨x=mb)∨x=rg) w10 W->HS1 (fun x=>(x<B∨x=mb)∨x=rg) W H D boots' A10 0 (.live 1 ep' (nx'+1) [] (.idle its2) G') A11->zhI w B H D mb (i+1) W:=fun W A11 hk11 hs11 =>
      ⟨boots',A11,ep',nx'+1,G',its2,M2,⟨hs11.1.weak (fun x h=>.inl h),hs11.2.1,fun j hj h4=>(hs11.2.2 j hj).trans (HJ10.out j hj h4),HC.out.ep,by have:=HNX.out;omega,HC.out.g,HC.out.b,HC.out.len,HM10.out.turns hk11.turns (fun h=>h (.inl (.inr rfl))),HC.out.want,hk11.lower HK10.out (Nat.le_refl _) (fun x hx=>.inl (.inl (Nat.lt_of_lt_of_le hx HB.out)))⟩⟩
     have x2:IntKind.i64.wrap ((i:Int)+1)=(i:Int)+1:=by rw [IntKind.wrap_i64];omega
     have HFIN:=hid hfin
     clear hfin HM10 HK10 HJ10 hnx2 HC HNX
     go_wp2_with (go_at_call 9;(with_reducible refine h11.out.mono ?_);rintro e11 w11 ⟨A11,rfl,hk11,hs11⟩)
     go_roundw
     case rel=>exact ⟨i+1,by omega,by simp,HFIN.out _ _ hk11 hs11⟩
     case measure=>simp [jl];omega
    ·intro kv vv w6 hst
     obtain ⟨⟨kx,p⟩,hp,rfl,rfl,hr6,t6,s6,hen⟩:=hst
     obtain ⟨hpok,_,x,hx,rfl⟩:=HC.out.want _ (HRN.out.sub.subset hp)
     have hmeas:(adel left kx).length<left.length:=ZS (p:=(kx,x.rw)) hp
     have hm9:=HRN.out.left_eq
     obtain ⟨HX,HPOK,HMEAS,HM9⟩:=zi4 hx hpok hmeas hm9
     have HS6:=hid (HS9.out.turns t6 (fun x e=>.inr e))
     have HK6:=hid (HK9.out.trans (t6.below HK9.out.size fun x hx e=>by have:=HRG.out;omega))
     have HR6:=hid hr6
     clear hp hpok hx hmeas hm9 t6 s6 hr6 HRN HS9 HK9
     unfold KQ ui at hen ⊢
     simp only at hen ⊢
     go_upto_region 32 with fail
     have hb7:Below w6.heap.size w6 (w6.alloc (.cells #[.int .i64 (x.rw.t:Int),.string (za x.rw.k),.string (za x.rw.v)] 34)):=B_alloc (Below.refl _ _) _
     have hX7:=zk w6 (.cells #[.int .i64 (x.rw.t:Int),.string (za x.rw.k),.string (za x.rw.v)] 34) rfl
     generalize w6.alloc (.cells #[.int .i64 (x.rw.t:Int),.string (za x.rw.k),.string (za x.rw.v)] 34)=w7 at hb7 hX7 ⊢
     obtain ⟨Y,hY⟩:∃ Y,Y=w6.heap.size:=⟨_,rfl⟩
     rw [<- hY] at hX7 ⊢
     have HX7:=hid hX7
     have HS7:=hid (HS6.out.below hb7)
     have HR7:=hid (HR6.out.turns (zn.of_below (S:=fun _=>False) hb7) (fun h=>h) (fun h=>h))
     have HK7:=hid (B_call HK6.out hb7)
     have h10:=hid (zlq (r:=0) (tn:=0) (rw:=x.rw) (x:=x) HS7.out (by omega) rfl HA9.out hdk HPOK.out HX.out ⟨rfl,rfl⟩ rfl rfl rfl)
     clear hb7 hX7 hY HS6 HR6 HK6 hen
     go_upto_region 33 with (first
      | (show wpList _ _ _ (⟨some 142,_,_,_,_,_⟩::_) _ _;refine wpList_load_row rfl 34 (.tmp 15) rfl Y (by rfl) 34 _ (0,0) _ HX7.out Tryz.underlying34 rfl (by kernel_rfl) ?_)
      | (go_at_call 9;(with_reducible refine h10.out.mono ?_);rintro e10 w10 ⟨A10,rfl,hk10,hs10⟩))
     have hX10:=hk10 _ _ _ (by decide) HX7.out
     have hb11:Below w10.heap.size w10 (w10.alloc (.cells #[.int .i64 0,.int .i64 0,.string (za x.rw.v),.slice none 0 0,.slice none 0 0] 31)):=B_alloc (Below.refl _ _) _
     have hZ11:=zk w10 (.cells #[.int .i64 0,.int .i64 0,.string (za x.rw.v),.slice none 0 0,.slice none 0 0] 31) rfl
     generalize w10.alloc (.cells #[.int .i64 0,.int .i64 0,.string (za x.rw.v),.slice none 0 0,.slice none 0 0] 31)=w11 at hb11 hZ11 ⊢
     obtain ⟨Z,hZ⟩:∃ Z,Z=w10.heap.size:=⟨_,rfl⟩
     have hY11:=zb hX10 hb11 (zd hX10)
     have hr11:=(HR7.out.turns hk10.turns (fun h=>h (.inl (.inr rfl))) (fun h=>h (.inr rfl))).turns (zn.of_below (S:=fun _=>False) hb11) (fun h=>h) (fun h=>h)
     have hR11:R w11:=by
      rw [HR.out]
      exact ⟨_,A10,hs10.1.below hb11,hs10.2.1,fun j hj h4=>(hs10.2.2 j hj).trans (HJ9.out j hj h4),hr11,B_call (hk10.lower HK7.out (Nat.le_refl _) (fun x hx=>.inl (.inl (Nat.lt_of_lt_of_le hx HB.out)))) hb11⟩
     have hl11:=hr11.left_eq
     rw [<- hZ] at hZ11 ⊢
     have y0:=(cell_of_row w11 Z 0 _ _ _ hZ11).trans (show _=some (Value.int .i64 0) from rfl)
     have y1:=(cell_of_row w11 Z 2 _ _ _ hZ11).trans (show _=some (Value.string (za x.rw.v)) from rfl)
     have y2:=(cell_of_row w11 Y 2 _ _ _ hY11).trans (show _=some (Value.string (za x.rw.v)) from rfl)
     obtain ⟨HR11,HL11⟩:=zi2 hR11 hl11
     clear hX10 hb11 hZ11 hY11 hr11 hR11 hl11 hs10 hk10 hZ HX7 HS7 HR7 HK7 HJ9 HX HPOK
     go_wp2_with fail
     go_roundw
     case rel=>exact HR11.out
     case measure =>
      simp only [HL11.out,HM9.out]
      exact HMEAS.out
  ·have z1:decide ((i:Int)<(n:Int))=false:=by simp;omega
   have HK:=hid hC.kept
   clear hC
   go_wp2_with fail
   go_ret
   exact ⟨rfl,HK.out⟩
end Go.Proofs.YtechnoogjhohfaaGreat
