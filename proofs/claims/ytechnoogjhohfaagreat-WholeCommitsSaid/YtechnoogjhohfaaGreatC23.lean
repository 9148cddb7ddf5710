/-
  Joined by a program from texts written one by one: part 23 of the walk through the program and of the law behind it.
-/
import Derived.Test.YtechnoogjhohfaaGreatC22
import Derived.Lib.SlBytesConst
set_option maxRecDepth 100000
set_option maxHeartbeats 6400000
set_option linter.unusedVariables false
set_option linter.unusedSimpArgs false
namespace Go.Proofs.YtechnoogjhohfaaGreat
open Go.RowKit Go.Lib
open YtechnoogjhohfaaGreatW
def uz (r:Rw):List UInt8:=zz 1 r.t++zz 1 r.k.length++r.k++zz 1 r.v.length++r.v
def vI (n:Nat):List UInt8:=[84,78,77,49]++zz 2 n
def YK (l:List Rw):List UInt8:=vI l.length++l.flatMap uz
def jQ (l:List Rw):List UInt8:=YK l++zz 4 (QK (YK l))
theorem zke (l:List Rw):(jU l).length=l.length*3:=by
 induction l with
 | nil=>rfl
 | cons e l ih=>show (ja e++jU l).length=_;rw [List.length_append,ih];simp [ja];omega
theorem zhe:∀ (l:List Rw) (k:Nat) (x:Rw) (j:Nat),l[k]?=some x->j<3->(jU l)[k*3+j]?=(ja x)[j]?
 | [],k,x,j,h,_=>by simp at h
 | e::l,0,x,j,h,hj=>by
  simp at h;subst h
  show (ja e++jU l)[_]?=_
  rw [List.getElem?_append_left (by simp [ja];omega)];simp
 | e::l,k+1,x,j,h,hj=>by
  have ih:=zhe l k x j (by simpa using h) hj
  show (ja e++jU l)[_]?=_
  rw [List.getElem?_append_right (by simp [ja];omega),<- ih]
  congr 1
  simp [ja];omega
theorem zhf {w:World} {B:Nat} {A:Option Addr} {n c:Nat} {l:List Rw} (h:w.ownsRow B 34 3 (.slice A n c) n (jU l)) {k:Nat} {x:Rw} (hx:l[k]?=some x):∃ g,A=some ⟨g,0,none⟩/\g<w.heap.size/\n<=c/\w.rangeAt g (k*3) (ja x):=by
 have hl:=(List.getElem?_eq_some_iff.1 hx).1
 obtain ⟨h0,h⟩:=h
 rw [zke] at h0
 rcases h with ⟨_,hn⟩ | ⟨g,cap,cur,hv,_,hh,h1,_,h3,h4⟩
 ·omega
 ·injection hv with e1 e2 e3
  subst e1 e3
  refine ⟨g,rfl,zd hh,h1,fun j v hj=>?_⟩
  have hj5:j<3:=by have:=(List.getElem?_eq_some_iff.1 hj).1;simpa [ja] using this
  rw [cell_of_row w g _ cur 34 (0,0) hh]
  have h9:=(zhe l k x j hx hj5).trans hj
  rw [<- h4,List.getElem?_take_of_lt (by omega)] at h9
  rw [<- Array.getElem?_toList];exact h9
theorem zdh (r:Rw):(uz r).length=3+r.k.length+r.v.length:=by simp [uz,zA];omega
theorem zaU:∀ (l:List Rw),(∀ r,r∈l->r.k.length<=15/\r.v.length<=21)->(l.flatMap uz).length<=l.length*39
 | [],_=>by simp
 | r::l,h=>by
  have h1:=zaU l (fun x hx=>h x (by simp [hx]))
  have h2:=h r (by simp)
  have h3:=zdh r
  rw [List.flatMap_cons,List.length_append,List.length_cons]
  omega
theorem zhb {l:List Rw} {k:Nat} {x:Rw} (h:l[k]?=some x):(l.take (k+1)).flatMap uz=(l.take k).flatMap uz++uz x:=by
 obtain ⟨hl,hx⟩:=List.getElem?_eq_some_iff.1 h
 rw [List.take_succ_eq_append_getElem hl,hx];simp
theorem zdz (l:List Rw) (A:Option Addr) (c B:Nat) (w:World) (h:w.ownsRow B 34 3 (.slice A l.length c) l.length (jU l)) (hl:l.length<=1000) (hr:∀ r,r∈l->r.t<=255/\r.k.length<=15/\r.v.length<=21) :
  Calls Tryz.prog 32 #[.slice A l.length c] w fun e w'=>∃ v',e=.returned v'/\w'.ownsRow w.heap.size 5 1 v' (jQ l).length (zo (jQ l))/\Below w.heap.size w w':=by
 obtain ⟨H,HR⟩:=zi2 h hr
 clear h hr
 have m1:IntKind.u64.wrap (l.length:Int)=l.length:=jW _ (by omega)
 have kc:=fun (w:World) (C:Array Value) (n c:Nat)=>Lib.run_convert_bytes_const (P:=Tryz.prog) w 29 5 C n c Tryz.underlying29 Tryz.underlying5
 obtain ⟨w1,hw1⟩:∃ w1,w1=w.alloc (.cells #[.int .u8 84,.int .u8 78,.int .u8 77,.int .u8 49] 5 (4,5)):=⟨_,rfl⟩
 have hb1:Below w.heap.size w w1:=by rw [hw1];exact B_alloc (Below.refl _ _) _
 have hY:ze w1 (.slice (some ⟨w.heap.size,0,none⟩) 4 4) [84,78,77,49]:=by
  have hx:w1.heap[w.heap.size]?=some (.cells (zo [84,78,77,49]).toArray 5 (4,5)):=by rw [hw1];exact zk _ _ rfl
  exact ⟨_,4,rfl,zx.of_list hx rfl,Nat.le_refl _,by unfold maxLen;simp⟩
 obtain ⟨HW1,HB1,HY⟩:=zi3 hw1 hb1 hY
 clear hw1 hb1 hY
 go_enter Tryz.func32,Tryz.ntmps32
 go_upto_region 2 with (go_at_call 59;rw [<- HW1.out];(with_reducible refine (yF _ [84,78,77,49] 2 l.length w1 HY.out (by omega) (by omega) (by simp)).mono ?_);rintro e2 w2 ⟨v2,rfl,hown2,hb2⟩)
 have hin2:ze w2 v2 (vI l.length):=ze.of_own (by simp [vI,zA]) hown2
 obtain ⟨R,hR⟩:∃ R:Nat->Value->World->Prop,R=fun k v wr=>ze wr v (vI l.length++(l.take k).flatMap uz)/\Below w.heap.size w wr:=⟨_,rfl⟩
 have hR0:R 0 v2 w2:=by rw [hR];exact ⟨by simpa using hin2,B_call HB1.out hb2⟩
 obtain ⟨HRL,HR0⟩:=zi2 hR hR0
 have hph:(vI l.length).length=6:=by simp [vI,zA]
 have HPH:=hid hph
 clear hR hR0 hin2 hown2 hb2 hph kc
 go_upto_region 3 with fail
 go_loopw [3,14] (fun v u wr=>∃ k:Nat,k<=l.length/\u=.int .i64 k/\R k v wr) (fun _ u _=>(l.length-jl u).toNat)
 case atStart=>exact ⟨0,Nat.zero_le _,rfl,HR0.out⟩
 case round =>
  obtain ⟨k,hk,rfl,hrk⟩:=hrel
  rw [HRL.out] at hrk
  obtain ⟨hin,hbw⟩:=hrk
  by_cases hlt:k<l.length
  ·obtain ⟨x,hx⟩:∃ x,l[k]?=some x:=⟨_,List.getElem?_eq_getElem hlt⟩
   obtain ⟨xt,xk,xv⟩:=HR.out x (List.mem_of_getElem? hx)
   have hOj:wr.ownsRow B 34 3 (.slice A l.length c) l.length (jU l):=zi H.out fun q hq=>hbw.block q (H.out.lt q hq).2
   obtain ⟨g,rfl,hgl,hgc,hrng⟩:=zhf hOj hx
   have hle:(vI l.length++(l.take k).flatMap uz).length<=50000:=by
    have h1:=zaU (l.take k) (fun r hr=>(HR.out r (List.mem_of_mem_take hr)).2)
    have h2:(l.take k).length<=k:=by rw [List.length_take];omega
    rw [List.length_append,HPH.out];omega
   obtain ⟨bs,hbs⟩:∃ bs,bs=vI l.length++(l.take k).flatMap uz:=⟨_,rfl⟩
   rw [<- hbs] at hin hle
   have q0:(0:Int)<=(k:Int):=by omega
   have q1:(k:Int)<(l.length:Int):=by omega
   have x2:IntKind.i64.wrap ((k:Int)+1)=(k:Int)+1:=by rw [IntKind.wrap_i64];omega
   have m2:IntKind.u64.wrap (x.t:Int)=x.t:=jW _ (by omega)
   obtain ⟨w3,hw3⟩:∃ w3,w3=wr.alloc (.cells #[.int .i64 x.t,.string (za x.k),.string (za x.v)] 34):=⟨_,rfl⟩
   have hb3:Below wr.heap.size wr w3:=by rw [hw3];exact B_alloc (Below.refl _ _) _
   have hx3:w3.heap[wr.heap.size]?=some (.cells #[.int .i64 x.t,.string (za x.k),.string (za x.v)] 34 (0,0)):=by rw [hw3];exact zk _ _ rfl
   have hin3:=(hin.below hb3).drew
   obtain ⟨HRNG,HX,HBS,HW3⟩:=zi4 hrng hx hbs hw3
   have HB3:=hid (B_call hbw hb3)
   have HIN3:=hid hin3
   have hS:w3.drew.heap[wr.heap.size]?=some (.cells #[.int .i64 x.t,.string (za x.k),.string (za x.v)] 34 (0,0)):=hx3
   clear hx hOj hrng hbs hw3 hb3 hx3 hin3 hin hbw
   go_upto_region 5 with (first
    | (show wpList _ _ _ (⟨some 17,_,_,_,_,_⟩::_) _ _;refine zZ rfl _ _ (qy 34 (.tmp 16) rfl g (k*3) (by rfl) (ja x) _ HRNG.out Tryz.underlying34 rfl (by kernel_rfl)) ?_)
    | (show wpList _ _ _ (⟨none,.store 34 _ _,_,_,_,_⟩::_) _ _;refine zN rfl 34 (.tmp 5) (.tmp 17) rfl wr.heap.size rfl _ (ja x).toArray (by rfl) (by rfl) (by kernel_rfl) (by rfl) (by simp [ja,Value.oneCell']) ?_))
   rw [show wr.alloc (.cells (ja x).toArray 34)=w3 from HW3.out.symm]
   refine wp_region_noPanic ?_
   refine PrintLast.start_ (n:=12) (S:=(fun w'=>w'.heap[wr.heap.size]?=some (.cells #[.int .i64 x.t,.string (za x.k),.string (za x.v)] 34 (0,0)))) (ds:=[10]) (bA 12 0) (by kernel_rfl) rfl (by kernel_rfl) hS (fun hHeld=>?_)
   refine pu 0 18 12 1 rfl rfl ?_
   refine pu 1 19 12 3 rfl rfl ?_
   refine tk 2 20 12 7 rfl rfl (Or.inl ⟨by rfl,fun _ h=>(by have k0:=(cell_of_row _ wr.heap.size 0 _ _ _ h).trans (show _=some (Value.int .i64 x.t) from rfl);go_simp;with_reducible rfl)⟩) ?_
   refine tk 3 21 12 15 rfl rfl (Or.inl ⟨by rfl,fun _ h=>(by go_simp;with_reducible rfl)⟩) ?_
   refine pu 5 23 12 47 rfl rfl ?_
   refine tk 6 24 12 111 rfl rfl (Or.inl ⟨by rfl,fun _ h=>(by have k0:=(cell_of_row _ wr.heap.size 1 _ _ _ h).trans (show _=some (Value.string (za x.k)) from rfl);go_simp;with_reducible rfl)⟩) ?_
   refine pu 8 26 12 367 rfl rfl ?_
   refine tk 9 27 12 879 rfl rfl (Or.inl ⟨by rfl,fun _ h=>(by have k0:=(cell_of_row _ wr.heap.size 2 _ _ _ h).trans (show _=some (Value.string (za x.v)) from rfl);go_simp;with_reducible rfl)⟩) ?_
   refine on 4 12 895 (some 22) rfl rfl (fun K hK=>?_)
   show Oper.wp _ ⟨some 22,_,_,_,_,_⟩ _ _ _ _
   refine zq 59 _ _ [_,.int .i64 1,.int .u64 x.t] rfl (by kernel_rfl) (by rfl) ((yF _ bs 1 x.t _ HIN3.out (by omega) (by omega) (by omega)).mono ?_)
   rintro e4 w4 ⟨v4,rfl,hown4,hb4⟩
   refine ⟨_,rfl,?_⟩
   refine hK.out _ _ (zb hHeld hb4 (zd hHeld)) (fun hHeld=>?_)
   clear hK K
   try simp only [pS]
   refine on 7 12 1023 (some 25) rfl rfl (fun K hK=>?_)
   show Oper.wp _ ⟨some 25,_,_,_,_,_⟩ _ _ _ _
   refine zq 60 _ _ [_,.string (za x.k)] rfl (by kernel_rfl) (by rfl) ((QT _ _ (za x.k) _ (ze.of_own ?len hown4) ?le (by rw [qt];omega)).mono ?_)
   case len=>simp [zA]
   case le=>simp [zA];omega
   rintro e5 w5 ⟨v5,rfl,hown5,hb5⟩
   refine ⟨_,rfl,?_⟩
   refine hK.out _ _ (zb hHeld hb5 (zd hHeld)) (fun hHeld=>?_)
   clear hK K
   try simp only [pS]
   refine la 10 12 2047 (some 28) rfl rfl (fun K hK=>?_)
   show Oper.wp _ ⟨some 28,_,_,_,_,_⟩ _ _ _ _
   refine zq 60 _ _ [_,.string (za x.v)] rfl (by kernel_rfl) (by rfl) ((QT _ _ (za x.v) _ (ze.of_own ?len2 hown5) ?le2 (by rw [qt];omega)).mono ?_)
   case len2=>simp [zA,qt];omega
   case le2=>simp [zA,qt];omega
   rintro e6 w6 ⟨v6,rfl,hown6,hb6⟩
   refine ⟨_,rfl,?_⟩
   refine hK.out _ _ ?_
   clear hK K
   try simp only [pS]
   refine pu 11 3 12 4095 rfl rfl ?_
   refine PrintLast.done_ (by kernel_rfl) ?_
   refine NoPanic.normal ?_
   have hin6:ze w6 v6 (bs++uz x):=by
    have e:bs++zz (1:Int).toNat x.t++zz 1 (za x.k).size++(za x.k).data.toList++zz 1 (za x.v).size++(za x.v).data.toList=bs++uz x:=by
     rw [qt,qt];simp only [uz,List.append_assoc];rfl
    rw [e] at hown6
    refine ze.of_own ?_ hown6
    rw [show (bs++uz x).length=bs.length+(uz x).length from List.length_append,zdh];simp [zA,qt];omega
   have hb36:Below w.heap.size w w6:=B_call (B_call (B_call HB3.out.drew hb4) hb5) hb6
   have hR6:R (k+1) v6 w6:=by
    rw [HRL.out]
    show ze w6 v6 (vI l.length++(l.take (k+1)).flatMap uz)/\_
    rw [zhb HX.out,<- List.append_assoc,<- HBS.out]
    exact ⟨hin6,hb36⟩
   have HR6:=hid hR6
   clear hin6 hb36 hR6 hown4 hown5 hown6 hb4 hb5 hb6 hHeld hS
   go_wp2_with fail
   go_roundw
   case rel=>exact ⟨k+1,by omega,by simp,HR6.out⟩
   case measure=>simp [jl];omega
  ·have hke:k=l.length:=by omega
   subst hke
   rw [List.take_length] at hin
   obtain ⟨pb,hpb⟩:∃ pb,pb=YK l:=⟨_,rfl⟩
   rw [show vI l.length++l.flatMap uz=pb from hpb.symm] at hin
   have hle:pb.length<=50000:=by
    have h1:=zaU l (fun r hr=>(HR.out r hr).2)
    rw [hpb];unfold YK;rw [List.length_append,HPH.out];omega
   have hcr:QK pb<4294967296:=by
    unfold QK
    have:=Yb pb 4294967295 (by omega)
    exact Nat.xor_lt_two_pow (n:=32) (by omega) (by omega)
   obtain ⟨cr,hcre⟩:∃ cr,cr=QK pb:=⟨_,rfl⟩
   rw [<- hcre] at hcr
   have m3:IntKind.u64.wrap (cr:Int)=cr:=jW _ (by omega)
   obtain ⟨A3,c3,hu3,_⟩:=id hin
   subst hu3
   obtain ⟨w3,hw3⟩:∃ w3,w3=wr.alloc (.cells #[.slice A3 pb.length c3] 29):=⟨_,rfl⟩
   have hb3:Below wr.heap.size wr w3:=by rw [hw3];exact B_alloc (Below.refl _ _) _
   have hc3:w3.cell? ⟨wr.heap.size,0,none⟩=some (.slice A3 pb.length c3):=(cell_of_row w3 wr.heap.size 0 _ _ _ (by rw [hw3];exact zk _ _ rfl)).trans rfl
   have hsm:=zkj wr.heap.size 0 1 (.slice A3 pb.length c3) pb w3 hc3 (hin.below hb3) (by omega)
   rw [<- hcre] at hsm
   have HSM:=hid hsm
   have HIN:=hid (hin.below hb3)
   have HBW:=hid (B_call hbw hb3)
   obtain ⟨HPB,HCR,HW3⟩:=zi3 hpb hcre hw3
   clear hsm hin hbw hpb hcre hw3 hb3 hc3
   go_wp2_with (first
    | (go_at_call 53;rw [<- HW3.out];(with_reducible refine HSM.out.mono ?_);rintro e7 w7 ⟨rfl,hw7⟩;subst w7)
    | (go_at_call 59;(with_reducible refine (yF _ pb 4 cr _ HIN.out (by omega) (by omega) (by omega)).mono ?_);rintro e8 w8 ⟨v8,rfl,hown8,hb8⟩))
   go_ret
   have e:pb++zz (4:Int).toNat cr=jQ l:=by rw [HCR.out,HPB.out];rfl
   rw [e] at hown8
   have e2:pb.length+(4:Int).toNat=(jQ l).length:=by rw [<- e,List.length_append,zA]
   rw [e2] at hown8
   exact ⟨_,rfl,qT hown8 HBW.out.size,B_call HBW.out hb8⟩
section
variable {bz:Nat->Prop}
structure T5 where
 p:Value
 k:Value
 s:Value
 c:Value
 d:Value
def hC (D:Nat) (c:Nat->T5) (b:Nat):Array Value:=#[.pointer (some ⟨D,0,none⟩),(c 0).p,(c 0).k,(c 0).s,(c 0).c,(c 0).d,(c 1).p,(c 1).k,(c 1).s,(c 1).c,(c 1).d,(c 2).p,(c 2).k,(c 2).s,(c 2).c,(c 2).d,(c 3).p,(c 3).k,(c 3).s,(c 3).c,(c 3).d,.int .i64 b]
structure Tl where
 a:Va
 b:Vb
 s:St
 kb:Nat
 km:Nat
 ep:Int
 nx:Int
 hs:List (Int × Int)
structure Tn where
 st:Nat
 ct:Nat
 live:Option Tl
def Tn.t5 (t:Tn):T5:=match t.live with
 | some l=>⟨.pointer (some ⟨l.a.S,0,none⟩),.pointer (some ⟨l.kb,0,none⟩),.int .i64 t.st,.int .u64 t.ct,.bool false⟩
 | none=>⟨.pointer none,.pointer none,.int .i64 t.st,.int .u64 t.ct,.bool false⟩
structure ZI (w:World) (D:Nat) (F:Nat->Prop) (cur:Nat->Nat->List UInt8) (r:Nat) (l:Tl):Prop where
 sto:zg w l.a l.b cur l.s
 hD:l.a.D=D
 hr:l.a.r=r
 hF:l.b.F=F
 dk:Dk.DeskAt w l.kb l.km l.ep l.nx l.hs
 km:¬ zS l.a l.b l.s l.km
def QF (l:Tl) (x:Nat):Prop:=KF l.a l.b l.s x∨x=l.kb∨x=l.km
structure zO (bz:Nat->Prop) (w:World) (H D:Nat) (F:Nat->Prop) (cur:Nat->Nat->List UInt8) (c:Nat->T5) (ts:Nat->Tn) (boots k:Nat):Prop where
 blk:w.heap[H]?=some (.cells (hC D c boots) 73 (0,0))
 disk:qr w D F cur
 line:∀ r,r<4->cur r 0=jc (yw (ts r).st (ts r).ct)
 bnd:∀ r,r<4->(ts r).st<=1/\(ts r).ct<1000000
 cells:∀ r,r<k->c r=(ts r).t5
 live:∀ r l,r<k->(ts r).live=some l->ZI w D F cur r l/\(ts r).st=1
 gone:∀ r,r<k->(ts r).live=none->(ts r).st=0/\∀ q,1<=q->q<538->cur r q=zs 64
 apart:∀ r r' l l',r<k->r'<k->r≠r'->(ts r).live=some l->(ts r').live=some l'->∀ x,QF l x->¬ QF l' x
 base:¬ bz H/\(∀ x,F x->¬ bz x)/\(∀ r l,r<k->(ts r).live=some l->∀ x,QF l x->¬ bz x)/\∀ x,bz x->x<w.heap.size
def zP (bz:Nat->Prop) (w:World) (H D:Nat) (F:Nat->Prop) (cur:Nat->Nat->List UInt8) (ts:Nat->Tn) (boots:Nat):Prop:=zO bz w H D F cur (fun r=>(ts r).t5) ts boots 4
theorem zcG (D:Nat) (c:Nat->T5) (b:Nat):(hC D c b)[0]?=some (.pointer (some ⟨D,0,none⟩)):=rfl
theorem zkw (D:Nat) (c:Nat->T5) (b:Nat):(hC D c b)[21]?=some (.int .i64 b):=rfl
theorem Jw (D:Nat) (c:Nat->T5) (b r:Nat) (hr:r<4):(hC D c b)[1+r*5]?=some (c r).p/\(hC D c b)[1+r*5+1]?=some (c r).k/\(hC D c b)[1+r*5+2]?=some (c r).s/\(hC D c b)[1+r*5+3]?=some (c r).c/\(hC D c b)[1+r*5+4]?=some (c r).d:=by
 obtain rfl | rfl | rfl | rfl:r=0∨r=1∨r=2∨r=3:=by omega
 all_goals exact ⟨rfl,rfl,rfl,rfl,rfl⟩
theorem Yh (D:Nat) (c:Nat->T5) (b:Nat):(hC D c b).size=22:=rfl
theorem zgo (D:Nat) (c:Nat->T5) (b r:Nat) (hr:r<4) (t:T5):((hC D c b).toList.take (1+r*5)++[t.p,t.k,t.s,t.c,t.d]++(hC D c b).toList.drop (1+r*5+5)).toArray=hC D (zE c r t) b:=by
 obtain rfl | rfl | rfl | rfl:r=0∨r=1∨r=2∨r=3:=by omega
 all_goals rfl
theorem zlw (D:Nat) (c:Nat->T5) (b r:Nat) (hr:r<4) (v:Value):(hC D c b).setIfInBounds (1+r*5) v=hC D (zE c r { c r with p:=v }) b:=by
 obtain rfl | rfl | rfl | rfl:r=0∨r=1∨r=2∨r=3:=by omega
 all_goals rfl
theorem zlv (D:Nat) (c:Nat->T5) (b r:Nat) (hr:r<4) (v:Value):(hC D c b).setIfInBounds (1+r*5+1) v=hC D (zE c r { c r with k:=v }) b:=by
 obtain rfl | rfl | rfl | rfl:r=0∨r=1∨r=2∨r=3:=by omega
 all_goals rfl
theorem zjH (D:Nat) (c:Nat->T5) (b r:Nat) (hr:r<4) (u v:Value):((hC D c b).toList.take (1+r*5+2)++[u,v]++(hC D c b).toList.drop (1+r*5+2+2)).toArray=hC D (zE c r { c r with s:=u,c:=v }) b:=by
 obtain rfl | rfl | rfl | rfl:r=0∨r=1∨r=2∨r=3:=by omega
 all_goals rfl
theorem zig (D:Nat) (c:Nat->T5) (b b':Nat):(hC D c b).setIfInBounds 21 (.int .i64 b')=hC D c b':=rfl
theorem DeskAt.tags {w:World} {kb km:Nat} {ep nx:Int} {hs:List (Int × Int)} (h:Dk.DeskAt w kb km ep nx hs):qp w kb=139/\qp w km=100001/\kb<w.heap.size/\km<w.heap.size:=by
 refine ⟨zc h.blk,?_,zd h.blk,h.map.lt⟩
 obtain ⟨es,cl,h1,_⟩:=h.map
 simp [qp,h1]
section
variable {w w':World} {H D:Nat} {F F':Nat->Prop} {cur cur':Nat->Nat->List UInt8} {c:Nat->T5} {ts:Nat->Tn} {boots k r:Nat} {l:Tl}
theorem zg.notF {a:Va} {b:Vb} {s:St} (h:zg w a b cur s) {x:Nat} (hx:KF a b s x):¬ b.F x:=fun hf=>by
 have h1:=h.sto.disk.tags hf
 obtain ⟨t1,t2,t3,t4,t5,t6⟩:=h.tags
 simp only [List.mem_cons,List.not_mem_nil,or_false] at h1 t5
 rcases hx with rfl | rfl | hx | hx | ⟨i,hx⟩ | hx | hx
 ·omega
 ·omega
 ·have:=t3 x hx;omega
 ·have:=t4 x hx;omega
 ·have:=t5 i x hx;omega
 ·have:=h.sto.lane.tag x hx;simp at this;omega
 ·have:=h.sto.pool.tag hx;simp at this;omega
theorem zg.other {a:Va} {b:Vb} {s:St} (h:zg w a b cur s) (hs:∀ x,KF a b s x->w'.heap[x]?=w.heap[x]?) (hz:w.heap.size<=w'.heap.size) (hD:qr w' a.D F' cur') (ho:∀ q,cur' a.r q=cur a.r q):zg w' a { b with F:=F' } cur' s:=by
 refine ⟨(hs _ (.inl rfl)).trans h.row,?_,zi h.its fun x hx=>hs x (.inr (.inr (.inr (.inl hx)))),h.tab.same (hs _ (.inl rfl)) (fun i x hx=>hs x (.inr (.inr (.inr (.inr (.inl ⟨i,hx⟩)))))) hz,h.lk.same (hs _ (.inr (.inl rfl))) (fun x hx=>hs x (.inr (.inr (.inl hx)))) hz,h.lkM⟩
 have hon:cur' a.r=cur a.r:=funext ho
 refine ⟨h.sto.pool.same fun x hx=>hs x (.inr (.inr (.inr (.inr (.inr (.inr hx)))))),h.sto.lane.same (fun x hx=>hs x (.inr (.inr (.inr (.inr (.inr (.inl hx))))))) hz,hD,?_,?_,h.sto.r4,h.sto.bank1,h.sto.gen32,h.sto.len,h.sto.sure_,h.sto.dpok,h.sto.fok⟩
 ·rw [hon];exact h.sto.on
 ·intro n hn;rw [hon];exact h.sto.pgs n hn
theorem ZI.tags (h:ZI w D F cur r l):∀ x,QF l x->qp w x∈[103,222,100001,136,208,150,3,200,204,194,5,139]/\x<w.heap.size:=by
 obtain ⟨d1,d2,d3,d4⟩:=DeskAt.tags h.dk
 obtain ⟨t1,t2,t3,t4,t5,t6⟩:=h.sto.tags
 intro x hx
 rcases hx with hx | rfl | rfl
 ·refine ⟨?_,h.sto.lt (.inl hx)⟩
  rcases hx with rfl | rfl | hx | hx | ⟨i,hx⟩ | hx | hx
  ·rw [t1];decide
  ·rw [t2];decide
  ·rw [t3 x hx];decide
  ·rw [t4 x hx];decide
  ·have:=t5 i x hx;simp only [List.mem_cons,List.not_mem_nil,or_false] at this ⊢;omega
  ·have:=h.sto.sto.lane.tag x hx;simp only [List.mem_cons,List.not_mem_nil,or_false] at this ⊢;omega
  ·have:=h.sto.sto.pool.tag hx;simp only [List.mem_cons,List.not_mem_nil,or_false] at this ⊢;omega
 ·rw [d1];exact ⟨by decide,d3⟩
 ·rw [d2];exact ⟨by decide,d4⟩
theorem zO.notH (h:zO bz w H D F cur c ts boots k) (hr:r<k) (hl:(ts r).live=some l) {x:Nat} (hx:QF l x∨F x):x≠H:=fun e=>by
 subst e
 have ht:=zc h.blk
 rcases hx with hx | hx
 ·have:=((h.live r l hr hl).1.tags x hx).1;simp only [List.mem_cons,List.not_mem_nil,or_false] at this;omega
 ·have:=h.disk.tags hx;simp only [List.mem_cons,List.not_mem_nil,or_false] at this;omega
theorem ZI.notF (h:ZI w D F cur r l) {x:Nat} (hx:QF l x):¬ F x:=fun hf=>by
 have h1:=(h.tags x hx).1
 have h2:qr w l.a.D l.b.F cur:=h.sto.sto.disk
 rw [h.hF] at h2
 have h3:=h2.tags hf
 simp only [List.mem_cons,List.not_mem_nil,or_false] at h1 h3
 omega
theorem Qt (h:ZI w D F cur r l) {x:Nat} (hx:zS l.a l.b l.s x):QF l x∨F x:=by
 rcases hx with hx | hx
 ·exact .inl (.inl hx)
 ·rw [h.hF] at hx;exact .inr hx
theorem ZI.other (h:ZI w D F cur r l) (hs:∀ x,QF l x->w'.heap[x]?=w.heap[x]?) (hz:w.heap.size<=w'.heap.size) (hD:qr w' D F' cur') (ho:∀ q,cur' r q=cur r q):ZI w' D F' cur' r { l with b:={ l.b with F:=F' } }:=by
 obtain ⟨d1,d2,d3,d4⟩:=DeskAt.tags h.dk
 refine ⟨h.sto.other (fun x hx=>hs x (.inl hx)) hz (by rw [h.hD];exact hD) (fun q=>by rw [h.hr];exact ho q),h.hD,h.hr,rfl,⟨(hs _ (.inr (.inl rfl))).trans h.dk.blk,h.dk.map.of_block (hs _ (.inr (.inr rfl)))⟩,?_⟩
 rintro (hx | hx)
 ·exact h.km (.inl hx)
 ·have h1:qp w' l.km=100001:=by rw [jm (hs _ (.inr (.inr rfl)))];exact d2
  have h2:=hD.tags hx
  rw [h1] at h2
  simp at h2
end
end
section
variable {bz:Nat->Prop}
def Tl.reF (l:Tl) (F:Nat->Prop):Tl:={ l with b:={ l.b with F:=F } }
def Tn.reF (t:Tn) (F:Nat->Prop):Tn:={ t with live:=t.live.map fun l=>l.reF F }
theorem Tn.reF_t5 (t:Tn) (F:Nat->Prop):(t.reF F).t5=t.t5:=by
 unfold Tn.t5 Tn.reF
 cases t.live with
 | none=>rfl
 | some l=>rfl
def yo (ts:Nat->Tn) (F:Nat->Prop) (r:Nat) (t:Tn):Nat->Tn:=zE (fun i=>(ts i).reF F) r t
theorem qO (ts:Nat->Tn) (F:Nat->Prop) (r:Nat) (t:Tn):yo ts F r t r=t:=zf _ _ _
theorem yt (ts:Nat->Tn) (F:Nat->Prop) {r i:Nat} (t:Tn) (h:i≠r):yo ts F r t i=(ts i).reF F:=zm _ _ h
section
variable {w w':World} {H D:Nat} {F F':Nat->Prop} {cur cur':Nat->Nat->List UInt8} {c:Nat->T5} {ts:Nat->Tn} {boots boots' k k' r:Nat} {l:Tl}
theorem zO.step (h:zO bz w H D F cur c ts boots k) (t:Tn) (hr4:r<4) (hk:∀ i,i<k'->i≠r->i<k)
  (hblk:w'.heap[H]?=some (.cells (hC D (zE c r t.t5) boots') 73 (0,0))) (hD:qr w' D F' cur') (hline:cur' r 0=jc (yw t.st t.ct)) (hbnd:t.st<=1/\t.ct<1000000)
  (hlive:∀ l',t.live=some l'->ZI w' D F' cur' r l'/\t.st=1) (hgone:t.live=none->t.st=0/\∀ q,1<=q->q<538->cur' r q=zs 64)
  (hoth:∀ i l' x,i<k->i≠r->(ts i).live=some l'->QF l' x->w'.heap[x]?=w.heap[x]?) (hout:∀ i q,i≠r->cur' i q=cur i q) (hz:w.heap.size<=w'.heap.size)
  (hnew:∀ l' x,t.live=some l'->QF l' x->(∀ i l'',i<k->i≠r->(ts i).live=some l''->¬ QF l'' x))
  (hbF:∀ x,F' x->¬ bz x) (hbl:∀ l' x,t.live=some l'->QF l' x->¬ bz x) :
  zO bz w' H D F' cur' (zE c r t.t5) (yo ts F' r t) boots' k':=by
 have hts:∀ i l',i≠r->(yo ts F' r t i).live=some l'->∃ l'',(ts i).live=some l''/\l'=l''.reF F':=fun i l' hi hl=>by
  rw [yt _ _ _ hi] at hl
  unfold Tn.reF at hl
  simp only at hl
  cases hq:(ts i).live with
  | none=>rw [hq] at hl;cases hl
  | some l''=>rw [hq] at hl;injection hl with hl;exact ⟨l'',rfl,hl.symm⟩
 refine ⟨hblk,hD,?_,?_,?_,?_,?_,?_,h.base.1,hbF,?_,fun x hx=>Nat.lt_of_lt_of_le (h.base.2.2.2 x hx) hz⟩
 ·intro i hi
  by_cases e:i=r
  ·subst e;rw [qO];exact hline
  ·rw [yt _ _ _ e,hout i 0 e];exact h.line i hi
 ·intro i hi
  by_cases e:i=r
  ·subst e;rw [qO];exact hbnd
  ·rw [yt _ _ _ e];exact h.bnd i hi
 ·intro i hi
  by_cases e:i=r
  ·subst e;rw [qO,zf]
  ·rw [yt _ _ _ e,zm _ _ e,Tn.reF_t5];exact h.cells i (hk i hi e)
 ·intro i l' hi hl
  by_cases e:i=r
  ·subst e;rw [qO] at hl ⊢;exact hlive l' hl
  ·obtain ⟨l'',h1,rfl⟩:=hts i l' e hl
   have h2:=h.live i l'' (hk i hi e) h1
   refine ⟨h2.1.other (fun x hx=>hoth i l'' x (hk i hi e) e h1 hx) hz hD (fun q=>hout i q e),?_⟩
   rw [yt _ _ _ e];exact h2.2
 ·intro i hi hl
  by_cases e:i=r
  ·subst e;rw [qO] at hl ⊢;exact hgone hl
  ·rw [yt _ _ _ e] at hl ⊢
   have h0:(ts i).live=none:=by
    cases hq:(ts i).live with
    | none=>rfl
    | some l''=>simp [Tn.reF,hq] at hl
   have h2:=h.gone i (hk i hi e) h0
   exact ⟨h2.1,fun q h3 h4=>(hout i q e).trans (h2.2 q h3 h4)⟩
 ·intro i j l1 l2 hi hj hij h1 h2 x hx
  by_cases ei:i=r
  ·subst ei
   rw [qO] at h1
   obtain ⟨l'',h3,rfl⟩:=hts j l2 (Ne.symm hij) h2
   exact hnew l1 x h1 hx j l'' (hk j hj (Ne.symm hij)) (Ne.symm hij) h3
  ·obtain ⟨l'',h3,rfl⟩:=hts i l1 ei h1
   by_cases ej:j=r
   ·subst ej
    rw [qO] at h2
    exact fun hy=>hnew l2 x h2 hy i l'' (hk i hi ei) ei h3 hx
   ·obtain ⟨l4,h5,rfl⟩:=hts j l2 ej h2
    exact h.apart i j l'' l4 (hk i hi ei) (hk j hj ej) hij h3 h5 x hx
 ·intro i l' hi hl x hx
  by_cases e:i=r
  ·subst e;rw [qO] at hl;exact hbl l' x hl hx
  ·obtain ⟨l'',h3,rfl⟩:=hts i l' e hl
   exact h.base.2.2.1 i l'' (hk i hi e) h3 x hx
theorem JI {α:Type} (c:Nat->α) (r:Nat):zE c r (c r)=c:=by
 funext i
 by_cases e:i=r
 ·subst e;exact zf _ _ _
 ·exact zm _ _ e
theorem ZI.below (h:ZI w D F cur r l) (hb:Below w.heap.size w w'):ZI w' D F cur r l:=by
 obtain ⟨d1,d2,d3,d4⟩:=DeskAt.tags h.dk
 exact ⟨h.sto.below hb,h.hD,h.hr,h.hF,h.dk.below hb d3 d4,h.km⟩
theorem zO.below (h:zO bz w H D F cur c ts boots k) (hb:Below w.heap.size w w'):zO bz w' H D F cur c ts boots k :=
 ⟨zb h.blk hb (zd h.blk),h.disk.below hb,h.line,h.bnd,h.cells,fun r l hr hl=>⟨(h.live r l hr hl).1.below hb,(h.live r l hr hl).2⟩,h.gone,h.apart,h.base.1,h.base.2.1,h.base.2.2.1,fun x hx=>Nat.lt_of_lt_of_le (h.base.2.2.2 x hx) hb.size⟩
theorem zO.stb (h:zO bz w H D F cur c ts boots k) (hr:r<k) (hl:(ts r).live=some l):∀ x,zS l.a l.b l.s x->¬ bz x:=fun x hx=>by
 rcases Qt (h.live r l hr hl).1 hx with hx | hx
 ·exact h.base.2.2.1 r l hr hl x hx
 ·exact h.base.2.1 x hx
theorem zO.newb (h:zO bz w H D F cur c ts boots k) {x:Nat} (hx:w.heap.size<=x):¬ bz x:=fun hz=>by have:=h.base.2.2.2 x hz;omega
theorem zO.deskb (h:zO bz w H D F cur c ts boots k) (hr:r<k) (hl:(ts r).live=some l):¬ bz l.kb/\¬ bz l.km:=⟨h.base.2.2.1 r l hr hl _ (.inr (.inl rfl)),h.base.2.2.1 r l hr hl _ (.inr (.inr rfl))⟩
theorem zO.store (h:zO bz w H D F cur c ts boots k) (hk4:k<=4) (hr:r<k) (hl:(ts r).live=some l) {b':Vb} {s':St} (hs:zg w' l.a b' cur' s') (he:qa w w' (zS l.a l.b l.s) (zS l.a b' s') cur cur' r) :
  zO bz w' H D b'.F cur' c (yo ts b'.F r { ts r with live:=some { l with b:=b',s:=s' } }) boots k:=by
 obtain ⟨hT,hst⟩:=h.live r l hr hl
 obtain ⟨d1,d2,d3,d4⟩:=DeskAt.tags hT.dk
 have hnF:∀ x,zS l.a l.b l.s x->QF l x∨F x:=fun x hx=>Qt hT hx
 have ht5:({ ts r with live:=some { l with b:=b',s:=s' } }:Tn).t5=c r:=by
  rw [h.cells r hr];unfold Tn.t5;rw [hl]
 have hkb:¬ zS l.a l.b l.s l.kb:=hT.sto.notTag d1 (by decide)
 have h1:=zO.step (k':=k) (boots':=boots) (w':=w') (F':=b'.F) (cur':=cur') h { ts r with live:=some { l with b:=b',s:=s' } } (by omega) (fun i hi _=>hi) ?_ ?_ ?_ (h.bnd r (by omega)) ?_ (fun e=>by cases e) ?_ (fun i q hi=>he.out i q (.inl hi)) he.keep.size ?_ (fun x hx=>?_) ?_
 ·rw [ht5,JI] at h1;exact h1
 ·rw [ht5,JI]
  exact (he.keep.block H (zd h.blk) (fun hx=>h.notH hr hl (hnF H hx) rfl)).trans h.blk
 ·have:=hs.sto.disk;rw [hT.hD] at this;exact this
 ·rw [he.out r 0 (.inr rfl)];exact h.line r (by omega)
 ·intro l' e
  injection e with e
  subst e
  refine ⟨⟨hs,hT.hD,hT.hr,rfl,⟨(he.keep.block _ d3 hkb).trans hT.dk.blk,hT.dk.map.of_block (he.keep.block _ d4 hT.km)⟩,fun hx=>he.notIn hT.km d4 hx⟩,hst⟩
 ·intro i l' x hi hir hli hx
  obtain ⟨h2,_⟩:=h.live i l' hi hli
  refine he.keep.block x (h2.tags x hx).2 (fun hy=>?_)
  rcases hnF x hy with hy | hy
  ·exact h.apart r i l l' hr hi (Ne.symm hir) hl hli x hy hx
  ·exact h2.notF hx hy
 ·intro l' x e hx i l'' hi hir hli hy
  injection e with e
  subst e
  obtain ⟨h2,_⟩:=h.live i l'' hi hli
  have hsz:=(h2.tags x hy).2
  rcases hx with hx | hx
  ·rcases he.new x (.inl hx) with h3 | h3
   ·rcases hnF x h3 with h3 | h3
    ·exact h.apart r i l l'' hr hi (Ne.symm hir) hl hli x h3 hy
    ·exact h2.notF hy h3
   ·omega
  ·exact h.apart r i l l'' hr hi (Ne.symm hir) hl hli x (.inr hx) hy
 ·rcases he.new x (.inr hx) with h3 | h3
  ·exact h.stb hr hl x h3
  ·exact h.newb h3
 ·intro l' x e hx
  injection e with e
  subst e
  rcases hx with hx | hx
  ·rcases he.new x (.inl hx) with h3 | h3
   ·exact h.stb hr hl x h3
   ·exact h.newb h3
  ·exact h.base.2.2.1 r l hr hl x (.inr hx)
theorem zO.desk (h:zO bz w H D F cur c ts boots k) (hk4:k<=4) (hr:r<k) (hl:(ts r).live=some l) {nx:Int} {hs:List (Int × Int)} (hd:Dk.DeskAt w' l.kb l.km l.ep nx hs) (ht:zn (fun i=>i=l.kb∨i=l.km) w w') :
  zO bz w' H D F cur c (yo ts F r { ts r with live:=some { l with nx:=nx,hs:=hs } }) boots k:=by
 obtain ⟨hT,hst⟩:=h.live r l hr hl
 obtain ⟨d1,d2,d3,d4⟩:=DeskAt.tags hT.dk
 have ht5:({ ts r with live:=some { l with nx:=nx,hs:=hs } }:Tn).t5=c r:=by
  rw [h.cells r hr];unfold Tn.t5;rw [hl]
 have hkb:¬ zS l.a l.b l.s l.kb:=hT.sto.notTag d1 (by decide)
 have hF:∀ x,F x->w'.heap[x]?=w.heap[x]?:=fun x hx=>ht.block x (h.disk.lt x hx) (fun e=>by
  have h1:=h.disk.tags hx
  simp only [List.mem_cons,List.not_mem_nil,or_false] at h1
  rcases e with rfl | rfl<;>omega)
 have h1:=zO.step (k':=k) (boots':=boots) (w':=w') (F':=F) (cur':=cur) h { ts r with live:=some { l with nx:=nx,hs:=hs } } (by omega) (fun i hi _=>hi) ?_ (zv.same h.disk hF ht.size) (h.line r (by omega)) (h.bnd r (by omega)) ?_ (fun e=>by cases e) ?_ (fun i q hi=>rfl) ht.size ?_ h.base.2.1 (fun l' x e hx=>by injection e with e;subst e;exact h.base.2.2.1 r l hr hl x hx)
 ·rw [ht5,JI] at h1;exact h1
 ·rw [ht5,JI]
  exact (ht.block H (zd h.blk) (fun e=>h.notH hr hl (x:=H) (.inl (.inr e)) rfl)).trans h.blk
 ·intro l' e
  injection e with e
  subst e
  refine ⟨⟨hT.sto.same (fun x hx=>ht.block x (hT.sto.lt hx) (fun e=>?_)) ht.size,hT.hD,hT.hr,hT.hF,hd,hT.km⟩,hst⟩
  rcases e with rfl | rfl
  ·exact hkb hx
  ·exact hT.km hx
 ·intro i l' x hi hir hli hx
  obtain ⟨h2,_⟩:=h.live i l' hi hli
  exact ht.block x (h2.tags x hx).2 (fun e=>h.apart r i l l' hr hi (Ne.symm hir) hl hli x (.inr e) hx)
 ·intro l' x e hx i l'' hi hir hli hy
  injection e with e
  subst e
  exact h.apart r i l l'' hr hi (Ne.symm hir) hl hli x hx hy
end
end
section
variable {bz:Nat->Prop}
structure Rq where
 kd:Int
 tn:Int
 hd:Int
 rt:Int
 rk:ByteArray
 rv:ByteArray
 tt:ByteArray
 n:Int
 mask:Int
 dA:Option Addr
 dn:Nat
 dc:Nat
def zL (q:Rq):List Value:=[.int .i64 q.kd,.int .i64 q.tn,.int .i64 q.hd,.int .i64 q.rt,.string q.rk,.string q.rv,.string q.tt,.int .i64 q.n,.int .u64 q.mask,.slice q.dA q.dn q.dc]
structure An where
 er:Int
 hd:Int
 vl:ByteArray
 rA:Option Addr
 rn:Nat
 rc:Nat
 dA:Option Addr
 dn:Nat
 dc:Nat
def zG (a:An):List Value:=[.int .i64 a.er,.int .i64 a.hd,.string a.vl,.slice a.rA a.rn a.rc,.slice a.dA a.dn a.dc]
def qn (er:Int):An:=⟨er,0,{ data:=#[] },none,0,0,none,0,0⟩
theorem zhM (a:An):(zG a).toArray.all (·.oneCell')=true:=by simp [zG,Value.oneCell']
def Qa (W W':World):Prop:=∀ (x t:Nat) (C:Array Value),t ∉ [103,222,100001,136,208,150,3,200,204,194,5,81,118,86,120,139,73]->W.heap[x]?=some (.cells C t (0,0))->W'.heap[x]?=some (.cells C t (0,0))
structure zj (bz:Nat->Prop) (W W':World):Prop where
 t:Qa W W'
 os:W'.os=W.os
 tape:W'.tape=W.tape
 output:W'.output=W.output
 size:W.heap.size<=W'.heap.size
 old:∀ x,bz x->x<W.heap.size->W'.heap[x]?=W.heap[x]?
instance {bz:Nat->Prop} {W W':World}:CoeFun (zj bz W W') (fun _=>∀ (x t:Nat) (C:Array Value),t ∉ [103,222,100001,136,208,150,3,200,204,194,5,81,118,86,120,139,73]->W.heap[x]?=some (.cells C t (0,0))->W'.heap[x]?=some (.cells C t (0,0))):=⟨fun h=>h.t⟩
theorem zj.trans {A B C:World} (h:zj bz A B) (k:zj bz B C):zj bz A C:=⟨fun x t c ht hx=>k.t x t c ht (h.t x t c ht hx),k.os.trans h.os,k.tape.trans h.tape,k.output.trans h.output,Nat.le_trans h.size k.size,fun x h1 h2=>(k.old x h1 (Nat.lt_of_lt_of_le h2 h.size)).trans (h.old x h1 h2)⟩
theorem zj.below {A B:World} (h:Below A.heap.size A B):zj bz A B:=⟨fun x t c _ hx=>zb hx h (zd hx),h.os,h.tape,h.output,h.size,fun x _ hx=>h.block x hx⟩
theorem zj.of_drew {A B:World} (h:zj bz A.drew B):zj bz A B:=⟨h.t,h.os,h.tape,h.output,h.size,h.old⟩
theorem Qa.store {w w':World} {a:Va} {b:Vb} {s:St} {cur cur':Nat->Nat->List UInt8} {M:Nat->Prop} {r:Nat} (h:zg w a b cur s) (he:qa w w' (zS a b s) M cur cur' r):Qa w w':=fun x t c ht hx =>
 he.blk (h.notT hx (fun hm=>ht (by simp only [List.mem_cons,List.not_mem_nil,or_false] at hm ⊢;omega))) hx
theorem zj.store {w w':World} {a:Va} {b:Vb} {s:St} {cur cur':Nat->Nat->List UInt8} {M:Nat->Prop} {r:Nat} (hb:∀ x,zS a b s x->¬ bz x) (h:zg w a b cur s) (he:qa w w' (zS a b s) M cur cur' r):zj bz w w' :=
 ⟨Qa.store h he,he.keep.os,he.keep.tape,he.keep.output,he.keep.size,fun x h1 h2=>he.keep.block x h2 (fun hm=>hb x hm h1)⟩
theorem Qa.desk {w w':World} {kb km:Nat} {ep nx:Int} {hs:List (Int × Int)} (h:Dk.DeskAt w kb km ep nx hs) (ht:zn (fun i=>i=kb∨i=km) w w'):Qa w w':=fun x t c hn hx=>by
 obtain ⟨d1,d2,d3,d4⟩:=DeskAt.tags h
 refine (ht.block x (zd hx) (fun e=>?_)).trans hx
 have:=zc hx
 simp only [List.mem_cons,List.not_mem_nil,or_false,not_or] at hn
 rcases e with rfl | rfl<;>omega
theorem zj.desk {w w':World} {kb km:Nat} {ep nx:Int} {hs:List (Int × Int)} (hb:¬ bz kb/\¬ bz km) (h:Dk.DeskAt w kb km ep nx hs) (ht:zn (fun i=>i=kb∨i=km) w w'):zj bz w w' :=
 ⟨Qa.desk h ht,ht.os,ht.tape,ht.output,ht.size,fun x h1 h2=>ht.block x h2 (fun e=>by rcases e with rfl | rfl;exact hb.1 h1;exact hb.2 h1)⟩
theorem zj.keep {w w':World} {M:Nat->Prop} (hb:∀ x,M x->¬ bz x) (ht:Qa w w') (hk:zr M w w'):zj bz w w' :=
 ⟨ht,hk.os,hk.tape,hk.output,hk.size,fun x h1 h2=>hk.block x h2 (fun hm=>hb x hm h1)⟩
structure qQ (W W':World):Prop where
 os:W'.os=W.os
 tape:W'.tape=W.tape
 output:W'.output=W.output
 size:W.heap.size<=W'.heap.size
 block:∀ x,x<W.heap.size->qp W x≠31->W'.heap[x]?=W.heap[x]?
theorem qQ.below {W W':World} (h:Below W.heap.size W W'):qQ W W':=⟨h.os,h.tape,h.output,h.size,fun x hx _=>h.block x hx⟩
theorem qQ.setRow {W:World} {g:Nat} {C:Array Value} (h:W.heap[g]?=some (.cells C 31 (0,0))) (C':Array Value):qQ W (W.setRow g C') :=
 ⟨rfl,rfl,rfl,by simp,fun x _ ht=>setRow_other W g x C' (fun e=>ht (by rw [e];exact zc h))⟩
theorem qQ.trans {A B C:World} (h:qQ A B) (k:qQ B C):qQ A C :=
 ⟨k.os.trans h.os,k.tape.trans h.tape,k.output.trans h.output,Nat.le_trans h.size k.size,fun x hx ht=>(k.block x (Nat.lt_of_lt_of_le hx h.size) (by rw [jm (h.block x hx ht)];exact ht)).trans (h.block x hx ht)⟩
end
section
variable {bz:Nat->Prop}
def uO (w:World) (q:Rq):World:=(w.alloc (.cells (zL q).toArray 37)).alloc (.cells #[.int .i64 0,.int .i64 0,.string { data:=#[] },.slice none 0 0,.slice none 0 0] 31)
theorem jE (w:World) (q:Rq):Below w.heap.size w (uO w q):=B_alloc (B_alloc (Below.refl _ _) _) _
theorem vP (w:World) (q:Rq):(uO w q).heap[w.heap.size]?=some (.cells (zL q).toArray 37 (0,0)):=zy (zk _ _ rfl) _
theorem vO (w:World) (q:Rq):(uO w q).heap[w.heap.size+1]?=some (.cells #[.int .i64 0,.int .i64 0,.string { data:=#[] },.slice none 0 0,.slice none 0 0] 31 (0,0)):=zk _ _ (by simp)
theorem zO.tcell {w:World} {H D:Nat} {F:Nat->Prop} {cur:Nat->Nat->List UInt8} {c:Nat->T5} {ts:Nat->Tn} {boots k r:Nat} {l:Tl} (h:zO bz w H D F cur c ts boots k) (hk:k<=4) (hr:r<k) (hl:(ts r).live=some l) :
  w.cell? ⟨H,1+r*5,none⟩=some (.pointer (some ⟨l.a.S,0,none⟩))/\w.cell? ⟨H,1+r*5+1,none⟩=some (.pointer (some ⟨l.kb,0,none⟩))/\w.cell? ⟨H,1+r*5+2,none⟩=some (.int .i64 1)/\w.cell? ⟨H,1+r*5+3,none⟩=some (.int .u64 (ts r).ct)/\w.cell? ⟨H,1+r*5+4,none⟩=some (.bool false):=by
 have hc:=Jw D c boots r (by omega)
 have h5:=h.cells r hr
 have h1:=(h.live r l hr hl).2
 have e:c r=⟨.pointer (some ⟨l.a.S,0,none⟩),.pointer (some ⟨l.kb,0,none⟩),.int .i64 1,.int .u64 (ts r).ct,.bool false⟩:=by
  rw [h5];unfold Tn.t5;rw [hl];simp only [h1];rfl
 rw [e] at hc
 refine ⟨?_,?_,?_,?_,?_⟩
 ·rw [cell_of_row w H _ _ _ _ h.blk];exact hc.1
 ·rw [cell_of_row w H _ _ _ _ h.blk];exact hc.2.1
 ·rw [cell_of_row w H _ _ _ _ h.blk];exact hc.2.2.1
 ·rw [cell_of_row w H _ _ _ _ h.blk];exact hc.2.2.2.1
 ·rw [cell_of_row w H _ _ _ _ h.blk];exact hc.2.2.2.2
theorem zj.setRow {A B:World} (h:zj bz A B) {g:Nat} (hg:A.heap.size<=g) (C:Array Value):zj bz A (B.setRow g C) :=
 ⟨fun x t c ht hx=>(setRow_other B g x C (fun e=>by have:=zd hx;omega)).trans (h.t x t c ht hx),h.os,h.tape,h.output,by have:=h.size;simp;omega,fun x h1 h2=>(setRow_other B g x C (by omega)).trans (h.old x h1 h2)⟩
theorem ju {fn:Func} {R:Ending->World->Prop} {a:Act} {w2:World} {g:Nat} {X C:Array Value} {an:An} (p:Tmp) (h:fn.results=#[.cell p 31]) (hd:a.defers=[]) (hp:a.tmps.getD p undef=.pointer (some ⟨g,0,none⟩)) (hg:w2.heap[g]?=some (.cells C 31 (0,0))) (hX:X=(zG an).toArray)
  (hR:R (.returned (.agg (zG an).toArray)) (w2.setRow g (zG an).toArray)):bodyPost Tryz.prog fn R .ret a (w2.setRow g X):=by
 subst hX
 exact zaS p 31 h hd g 31 (zG an).toArray (0,0) _ hp (setRow_heap w2 g _ _ 31 _ hg) Tryz.underlying31 rfl (by kernel_rfl) hR
theorem uJ (H D r:Nat) (F:Nat->Prop) (cur:Nat->Nat->List UInt8) (ts:Nat->Tn) (boots:Nat) (l:Tl) (q:Rq) (w:World) (P:An->World->Prop) (h:zP bz w H D F cur ts boots) (hr:r<4) (hl:(ts r).live=some l)
  (hk3:3<=q.kd) (hk12:q.kd<=12) (hhd:iok q.hd) (hP:∀ a W W',P a W->qQ W W'->P a W')
  (hno:qb l.hs q.hd=false->∀ W,Below w.heap.size w W->P (qn 2) W)
  (hsess:qb l.hs q.hd=true->∀ W,Below w.heap.size w W->Calls Tryz.prog 39 #[.pointer (some ⟨H,0,none⟩),.pointer (some ⟨H,1+r*5,none⟩),.agg (zL q).toArray] W fun e W'=>∃ a,e=.returned (.agg (zG a).toArray)/\a.er≠10/\zj bz W W'/\P a W') :
  Calls Tryz.prog 23 #[.pointer (some ⟨H,0,none⟩),.pointer (some ⟨H,1+r*5,none⟩),.agg (zL q).toArray] w fun e W'=>∃ a,e=.returned (.agg (zG a).toArray)/\a.er≠10/\zj bz w W'/\P a W':=by
 have d0:(q.kd == 0)=false:=by simp;omega
 have d1:(q.kd == 14)=false:=by simp;omega
 have d2:(q.kd == 1)=false:=by simp;omega
 have d3:(q.kd == 13)=false:=by simp;omega
 have d4:(q.kd == 2)=false:=by simp;omega
 have d5:(q.kd == 15)=false:=by simp;omega
 have d6:(q.kd == 16)=false:=by simp;omega
 have d7:(q.kd == 17)=false:=by simp;omega
 obtain ⟨w1,hw1⟩:∃ w1,w1=uO w q:=⟨_,rfl⟩
 have hB1:Below w.heap.size w w1:=by rw [hw1];exact jE w q
 have hX5:w1.heap[w.heap.size]?=some (.cells (zL q).toArray 37 (0,0)):=by rw [hw1];exact vP w q
 have hX6:w1.heap[w.heap.size+1]?=some (.cells #[.int .i64 0,.int .i64 0,.string { data:=#[] },.slice none 0 0,.slice none 0 0] 31 (0,0)):=by rw [hw1];exact vO w q
 have k0:=(cell_of_row w1 w.heap.size 0 _ _ _ hX5).trans (show _=some (Value.int .i64 q.kd) from rfl)
 have hh1:=h.below hB1
 obtain ⟨c0,c1,c2,c3,c4⟩:=hh1.tcell (by omega) hr hl
 have hdk:=(hh1.live r l hr hl).1.dk
 have hhas:=Dk.has_any l.kb l.km l.ep l.nx l.hs q.hd hhd w1.drew (hdk.below (Below.refl _ _).drew (DeskAt.tags hdk).2.2.1 (DeskAt.tags hdk).2.2.2)
 have hw1u:(w.alloc (.cells (zL q).toArray 37)).alloc (.cells #[.int .i64 0,.int .i64 0,.string { data:=#[] },.slice none 0 0,.slice none 0 0] 31)=w1:=hw1.symm
 obtain ⟨has,hhs⟩:∃ b,b=qb l.hs q.hd:=⟨_,rfl⟩
 rw [<- hhs] at hhas hno hsess
 have hS:w1.drew.cell? ⟨H,1+r*5+1,none⟩=some (.pointer (some ⟨l.kb,0,none⟩))/\w1.drew.heap[w.heap.size]?=some (.cells (zL q).toArray 37 (0,0)):=⟨c1,hX5⟩
 obtain ⟨HH,HB1,HX5,HX6,HP,HNO,HSE,HW1⟩:=zi8 hhas hB1 hX5 hX6 hP hno hsess hw1u
 clear hw1 hw1u hB1 hX5 hX6 hP hno hsess hhas hh1 hdk hhs h hl c0 c3 c4
 go_enter Tryz.func23,Tryz.ntmps23
 go_upto_region 1 with fail
 rw [HW1.out]
 go_upto_region 32 with fail
 refine wp_region_noPanic ?_
 refine PrintLast.start_ (n:=8) (S:=(fun w'=>w'.cell? ⟨H,1+r*5+1,none⟩=some (.pointer (some ⟨l.kb,0,none⟩))/\w'.heap[w.heap.size]?=some (.cells (zL q).toArray 37 (0,0)))) (ds:=[6]) (bA 8 0) (by kernel_rfl) rfl (by kernel_rfl) hS (fun hHeld=>?_)
 refine pu 0 112 8 1 rfl rfl ?_
 refine pu 1 113 8 3 rfl rfl ?_
 refine pu 2 114 8 7 rfl rfl ?_
 refine tk 3 115 8 15 rfl rfl (Or.inl ⟨by rfl,fun _ h=>(by have k0:=h.1;go_simp;with_reducible rfl)⟩) ?_
 refine pu 4 116 8 31 rfl rfl ?_
 refine tk 5 117 8 63 rfl rfl (Or.inl ⟨by rfl,fun _ h=>(by have k0:=(cell_of_row _ w.heap.size 2 _ _ _ h.2).trans (show _=some (Value.int .i64 q.hd) from rfl);go_simp;with_reducible rfl)⟩) ?_
 refine la 6 8 127 (some 118) rfl rfl (fun K hK=>?_)
 show Oper.wp _ ⟨some 118,_,_,_,_,_⟩ _ _ _ _
 refine zq 38 _ _ [.pointer (some ⟨l.kb,0,none⟩),.int .i64 q.hd] rfl (by kernel_rfl) (by rfl) (HH.out.mono ?_)
 rintro e2 w2 ⟨rfl,hw2⟩
 subst hw2
 refine ⟨_,rfl,?_⟩
 refine hK.out _ _ ?_
 clear hK K
 try simp only [pS]
 refine pu 7 119 8 255 rfl rfl ?_
 refine PrintLast.done_ (by kernel_rfl) ?_
 refine NoPanic.normal ?_
 have HX5':Hid (w1.drew.heap[w.heap.size]?=some (.cells (zL q).toArray 37 (0,0))):=HX5
 clear hHeld hS c1 c2
 cases has with
 | false =>
  go_wp2_with (show wpList _ _ _ (⟨none,.store 31 (.tmp 6) _,_,_,_,_⟩::_) _ _;refine zB rfl 31 (.tmp 6) (.tmp 120) rfl (w.heap.size+1) 0 31 _ (zG (qn 2)).toArray (by rfl) (by rfl) (show w1.drew.heap[_]?=_ from HX6.out) (by simp [zG]) (by kernel_rfl) (by simp [zG,Value.oneCell']) ?_)
  refine ju (an:=qn 2) 6 rfl rfl rfl (show w1.drew.heap[_]?=_ from HX6.out) rfl ⟨qn 2,rfl,by decide,(zj.below HB1.out.drew).setRow (by omega) _,?_⟩
  exact HP.out _ _ _ (HNO.out (by trivial) w1.drew HB1.out.drew) (qQ.setRow (show w1.drew.heap[_]?=_ from HX6.out) _)
 | true =>
  go_wp2_with (first
   | (show wpList _ _ _ (⟨some 123,_,_,_,_,_⟩::_) _ _;refine wpList_load_row rfl 37 (.tmp 5) rfl w.heap.size (by rfl) 37 _ (0,0) _ HX5'.out Tryz.underlying37 rfl (by kernel_rfl) ?_)
   | (go_at_call 39;(with_reducible refine (HSE.out rfl w1.drew HB1.out.drew).mono ?_);rintro e3 w3 ⟨an,rfl,hne,hkl,hp3⟩)
   | (show wpList _ _ _ (⟨none,.store 31 (.tmp 6) _,_,_,_,_⟩::_) _ _;refine zB rfl 31 (.tmp 6) (.tmp 124) rfl (w.heap.size+1) 0 31 _ (zG an).toArray (by rfl) (by rfl) (hkl _ _ _ (by decide) (show w1.drew.heap[_]?=_ from HX6.out)) (by simp [zG]) (by kernel_rfl) (by simp [zG,Value.oneCell']) ?_))
  have hx6:=hkl _ _ _ (by decide) (show w1.drew.heap[_]?=_ from HX6.out)
  refine ju (an:=an) 6 rfl rfl rfl hx6 rfl ⟨an,rfl,hne,((zj.below HB1.out.drew).trans hkl).setRow (by omega) _,?_⟩
  exact HP.out _ _ _ hp3 (qQ.setRow hx6 _)
end
section
variable {bz:Nat->Prop}
theorem JH (H D r:Nat) (F:Nat->Prop) (cur:Nat->Nat->List UInt8) (ts:Nat->Tn) (boots:Nat) (l:Tl) (q:Rq) (w:World) (P:An->World->Prop) (h:zP bz w H D F cur ts boots) (hr:r<4) (hl:(ts r).live=some l)
  (hk3:5<=q.kd) (hk12:q.kd<=12) (hhd:iok q.hd) (hP:∀ a W W',P a W->qQ W W'->P a W')
  (hno:(zF l.hs q.hd).getD 0=0->∀ W,Below w.heap.size w W->P (qn 4) W)
  (hsess:(zF l.hs q.hd).getD 0≠0->∀ W,Below w.heap.size w W->Calls Tryz.prog 75 #[.pointer (some ⟨H,0,none⟩),.pointer (some ⟨H,1+r*5,none⟩),.agg (zL q).toArray,.int .i64 ((zF l.hs q.hd).getD 0)] W fun e W'=>∃ a,e=.returned (.agg (zG a).toArray)/\a.er≠10/\zj bz W W'/\P a W') :
  Calls Tryz.prog 39 #[.pointer (some ⟨H,0,none⟩),.pointer (some ⟨H,1+r*5,none⟩),.agg (zL q).toArray] w fun e W'=>∃ a,e=.returned (.agg (zG a).toArray)/\a.er≠10/\zj bz w W'/\P a W':=by
 have d0:(q.kd == 3)=false:=by simp;omega
 have d1:(q.kd == 4)=false:=by simp;omega
 obtain ⟨w1,hw1⟩:∃ w1,w1=uO w q:=⟨_,rfl⟩
 have hB1:Below w.heap.size w w1:=by rw [hw1];exact jE w q
 have hX5:w1.heap[w.heap.size]?=some (.cells (zL q).toArray 37 (0,0)):=by rw [hw1];exact vP w q
 have hX6:w1.heap[w.heap.size+1]?=some (.cells #[.int .i64 0,.int .i64 0,.string { data:=#[] },.slice none 0 0,.slice none 0 0] 31 (0,0)):=by rw [hw1];exact vO w q
 have k0:=(cell_of_row w1 w.heap.size 0 _ _ _ hX5).trans (show _=some (Value.int .i64 q.kd) from rfl)
 have hh1:=h.below hB1
 obtain ⟨c0,c1,c2,c3,c4⟩:=hh1.tcell (by omega) hr hl
 have hdk:=(hh1.live r l hr hl).1.dk
 have hhas:=Dk.txn_any l.kb l.km l.ep l.nx l.hs q.hd hhd w1.drew (hdk.below (Below.refl _ _).drew (DeskAt.tags hdk).2.2.1 (DeskAt.tags hdk).2.2.2)
 have hw1u:(w.alloc (.cells (zL q).toArray 37)).alloc (.cells #[.int .i64 0,.int .i64 0,.string { data:=#[] },.slice none 0 0,.slice none 0 0] 31)=w1:=hw1.symm
 obtain ⟨txn,hhs⟩:∃ b,b=(zF l.hs q.hd).getD 0:=⟨_,rfl⟩
 rw [<- hhs] at hhas hno hsess
 have hS:w1.drew.cell? ⟨H,1+r*5+1,none⟩=some (.pointer (some ⟨l.kb,0,none⟩))/\w1.drew.heap[w.heap.size]?=some (.cells (zL q).toArray 37 (0,0)):=⟨c1,hX5⟩
 obtain ⟨HH,HB1,HX5,HX6,HP,HNO,HSE,HW1⟩:=zi8 hhas hB1 hX5 hX6 hP hno hsess hw1u
 clear hw1 hw1u hB1 hX5 hX6 hP hno hsess hhas hh1 hdk hhs h hl c0 c3 c4
 go_enter Tryz.func39,Tryz.ntmps39
 go_upto_region 1 with fail
 rw [HW1.out]
 go_upto_region 1 with fail
 refine wp_region_noPanic ?_
 refine PrintLast.start_ (n:=8) (S:=(fun w'=>w'.cell? ⟨H,1+r*5+1,none⟩=some (.pointer (some ⟨l.kb,0,none⟩))/\w'.heap[w.heap.size]?=some (.cells (zL q).toArray 37 (0,0)))) (ds:=[6]) (bA 8 0) (by kernel_rfl) rfl (by kernel_rfl) hS (fun hHeld=>?_)
 refine pu 0 9 8 1 rfl rfl ?_
 refine pu 1 10 8 3 rfl rfl ?_
 refine pu 2 11 8 7 rfl rfl ?_
 refine tk 3 12 8 15 rfl rfl (Or.inl ⟨by rfl,fun _ h=>(by have k0:=h.1;go_simp;with_reducible rfl)⟩) ?_
 refine pu 4 13 8 31 rfl rfl ?_
 refine tk 5 14 8 63 rfl rfl (Or.inl ⟨by rfl,fun _ h=>(by have k0:=(cell_of_row _ w.heap.size 2 _ _ _ h.2).trans (show _=some (Value.int .i64 q.hd) from rfl);go_simp;with_reducible rfl)⟩) ?_
 refine la 6 8 127 (some 15) rfl rfl (fun K hK=>?_)
 show Oper.wp _ ⟨some 15,_,_,_,_,_⟩ _ _ _ _
 refine zq 71 _ _ [.pointer (some ⟨l.kb,0,none⟩),.int .i64 q.hd] rfl (by kernel_rfl) (by rfl) (HH.out.mono ?_)
 rintro e2 w2 ⟨rfl,hw2⟩
 subst hw2
 refine ⟨_,rfl,?_⟩
 refine hK.out _ _ ?_
 clear hK K
 try simp only [pS]
 refine pu 7 7 8 255 rfl rfl ?_
 refine PrintLast.done_ (by kernel_rfl) ?_
 refine NoPanic.normal ?_
 have HX5':Hid (w1.drew.heap[w.heap.size]?=some (.cells (zL q).toArray 37 (0,0))):=HX5
 clear hHeld hS c1 c2
 by_cases ht0:txn=0
 ·subst ht0
  go_wp2_with (show wpList _ _ _ (⟨none,.store 31 (.tmp 6) _,_,_,_,_⟩::_) _ _;refine zB rfl 31 (.tmp 6) (.tmp 56) rfl (w.heap.size+1) 0 31 _ (zG (qn 4)).toArray (by rfl) (by rfl) (show w1.drew.heap[_]?=_ from HX6.out) (by simp [zG]) (by kernel_rfl) (by simp [zG,Value.oneCell']) ?_)
  refine ju (an:=qn 4) 6 rfl rfl rfl (show w1.drew.heap[_]?=_ from HX6.out) rfl ⟨qn 4,rfl,by decide,(zj.below HB1.out.drew).setRow (by omega) _,?_⟩
  exact HP.out _ _ _ (HNO.out (by trivial) w1.drew HB1.out.drew) (qQ.setRow (show w1.drew.heap[_]?=_ from HX6.out) _)
 ·have dt:(txn == 0)=false:=by simpa using ht0
  have HT0:=hid ht0
  clear ht0
  go_wp2_with (first
   | (show wpList _ _ _ (⟨some 59,_,_,_,_,_⟩::_) _ _;refine wpList_load_row rfl 37 (.tmp 5) rfl w.heap.size (by rfl) 37 _ (0,0) _ HX5'.out Tryz.underlying37 rfl (by kernel_rfl) ?_)
   | (go_at_call 75;(with_reducible refine (HSE.out HT0.out w1.drew HB1.out.drew).mono ?_);rintro e3 w3 ⟨an,rfl,hne,hkl,hp3⟩)
   | (show wpList _ _ _ (⟨none,.store 31 (.tmp 6) _,_,_,_,_⟩::_) _ _;refine zB rfl 31 (.tmp 6) (.tmp 61) rfl (w.heap.size+1) 0 31 _ (zG an).toArray (by rfl) (by rfl) (hkl _ _ _ (by decide) (show w1.drew.heap[_]?=_ from HX6.out)) (by simp [zG]) (by kernel_rfl) (by simp [zG,Value.oneCell']) ?_))
  have hx6:=hkl _ _ _ (by decide) (show w1.drew.heap[_]?=_ from HX6.out)
  refine ju (an:=an) 6 rfl rfl rfl hx6 rfl ⟨an,rfl,hne,((zj.below HB1.out.drew).trans hkl).setRow (by omega) _,?_⟩
  exact HP.out _ _ _ hp3 (qQ.setRow hx6 _)
end
section
variable {bz:Nat->Prop}
end
end Go.Proofs.YtechnoogjhohfaaGreat
namespace Go.Proofs.YtechnoogjhohfaaGreat
structure qi (s:zl):Prop where
 three:s.fs.length=3
 hand:s.hand<3
 uniq:∀ i j n:Nat,(s.fs[i]?.bind zu.num)=some n->(s.fs[j]?.bind zu.num)=some n->i=j
 clean:∀ (i:Nat) (f:zu) b n p,s.fs[i]?=some f->f.pg=some (b,n,p)->f.since=0->p=s.dp n
 sure:s.sure<=s.log.length
theorem zgH {f:zu} {b n:Nat} {p:Pg} (h:f.pg=some (b,n,p)):f.num=some n:=by simp [zu.num,h]
theorem zkL {f:zu} {n:Nat} (h:f.num=some n):∃ b p,f.pg=some (b,n,p):=by
 unfold zu.num at h
 cases e:f.pg with
 | none=>rw [e] at h;cases h
 | some x =>
  obtain ⟨b,m,p⟩:=x
  rw [e] at h
  injection h with h
  subst h
  exact ⟨b,p,rfl⟩
theorem ZM {fs:List zu} {i n:Nat} (h:(fs[i]?.bind zu.num)=some n):∃ f b p,fs[i]?=some f/\f.pg=some (b,n,p):=by
 cases e:fs[i]? with
 | none=>rw [e] at h;cases h
 | some f =>
  rw [e] at h
  obtain ⟨b,p,hp⟩:=zkL h
  exact ⟨f,b,p,rfl,hp⟩
theorem uy {fs:List zu} {i b n:Nat} {f:zu} {p:Pg} (h:fs[i]?=some f) (hp:f.pg=some (b,n,p)):(fs[i]?.bind zu.num)=some n:=by rw [h];exact zgH hp
theorem qi.find {s:zl} (h:qi s) {i n:Nat} (hi:(s.fs[i]?.bind zu.num)=some n):qU s.fs n=some i:=by
 obtain ⟨f,b,p,h1,h2⟩:=ZM hi
 have hl:=(List.getElem?_eq_some_iff.1 h1).1
 refine JN hi (Nat.zero_le _) (by have:=h.three;omega) (fun l _ hl h'=>?_)
 have:=h.uniq l i n h' hi
 omega
theorem qi.page {s:zl} (h:qi s) {i b n:Nat} {f:zu} {p:Pg} (hf:s.fs[i]?=some f) (hp:f.pg=some (b,n,p)):s.page n=p:=by
 unfold zl.page
 rw [h.find (uy hf hp)]
 simp only [Option.bind_some,hf,hp]
theorem yl {s:zl} {n:Nat} (h:∀ i:Nat,¬ (s.fs[i]?.bind zu.num)=some n):s.page n=s.dp n:=by
 unfold zl.page
 cases e:qU s.fs n with
 | none=>rfl
 | some k =>
  obtain ⟨f,b,p,h1,h2⟩:=vX e
  exact absurd (uy h1 h2) (h k)
theorem Zy {s:zl} (h:qi s) (n:Nat):(∃ (i:Nat) (f:zu) (b:Nat),s.fs[i]?=some f/\f.pg=some (b,n,s.page n))∨((∀ i:Nat,¬ (s.fs[i]?.bind zu.num)=some n)/\s.page n=s.dp n):=by
 by_cases e:∃ i:Nat,(s.fs[i]?.bind zu.num)=some n
 ·obtain ⟨i,hi⟩:=e
  obtain ⟨f,b,p,h1,h2⟩:=ZM hi
  exact .inl ⟨i,f,b,h1,by rw [h.page h1 h2];exact h2⟩
 ·have h2:∀ i:Nat,¬ (s.fs[i]?.bind zu.num)=some n:=fun i hi=>e ⟨i,hi⟩
  exact .inr ⟨h2,yl h2⟩
structure vG (s s':zl):Prop where
 ok:qi s'
 page:∀ n,s'.page n=s.page n
 log:s'.log=s.log
 gen:s'.gen=s.gen
 bank:s'.bank=s.bank
 dur:(s'.sure=s.sure/\s'.dp=s.dp)∨(s'.sure=s.log.length/\∀ n,s'.dp n=s.dp n∨s'.dp n=s.page n)
theorem vG.refl {s:zl} (h:qi s):vG s s:=⟨h,fun _=>rfl,rfl,rfl,rfl,.inl ⟨rfl,rfl⟩⟩
theorem vG.trans {a b c:zl} (h:vG a b) (k:vG b c):vG a c:=by
 refine ⟨k.ok,fun n=>(k.page n).trans (h.page n),k.log.trans h.log,k.gen.trans h.gen,k.bank.trans h.bank,?_⟩
 rcases h.dur with ⟨h1,h2⟩ | ⟨h1,h2⟩<;>rcases k.dur with ⟨k1,k2⟩ | ⟨k1,k2⟩
 ·exact .inl ⟨k1.trans h1,k2.trans h2⟩
 ·refine .inr ⟨by rw [k1,h.log],fun n=>?_⟩
  rcases k2 n with e | e
  ·exact .inl (by rw [e,h2])
  ·exact .inr (e.trans (h.page n))
 ·exact .inr ⟨k1.trans h1,fun n=>by rw [k2];exact h2 n⟩
 ·refine .inr ⟨by rw [k1,h.log],fun n=>?_⟩
  rcases k2 n with e | e
  ·rw [e];exact h2 n
  ·exact .inr (e.trans (h.page n))
theorem yS {fs:List zu} {k i:Nat} {f' g:zu} (h:(fs.set k f')[i]?=some g):(i=k/\g=f')∨(i≠k/\fs[i]?=some g):=by
 by_cases e:i=k
 ·subst e
  have hl:i<fs.length:=by have:=(List.getElem?_eq_some_iff.1 h).1;simpa using this
  rw [List.getElem?_set_self hl] at h
  injection h with h
  exact .inl ⟨rfl,h.symm⟩
 ·rw [List.getElem?_set_ne (Ne.symm e)] at h
  exact .inr ⟨e,h⟩
theorem zbN {s:zl} (h:qi s) {k:Nat} {f:zu} (hf:s.fs[k]?=some f) (a:Bool) (hd:Nat) (hh:hd<3):vG s { s with fs:=s.fs.set k { f with again:=a },hand:=hd }:=by
 have hnum:∀ i:Nat,((s.fs.set k { f with again:=a })[i]?.bind zu.num)=(s.fs[i]?.bind zu.num):=Yl hf rfl
 have hok:qi { s with fs:=s.fs.set k { f with again:=a },hand:=hd }:=by
  refine ⟨by simp [h.three],hh,fun i j n hi hj=>h.uniq i j n ((hnum i).symm.trans hi) ((hnum j).symm.trans hj),fun i g b n p hg hp hs=>?_,h.sure⟩
  rcases yS hg with ⟨rfl,rfl⟩ | ⟨_,hg⟩
  ·exact h.clean i f b n p hf hp hs
  ·exact h.clean i g b n p hg hp hs
 refine ⟨hok,fun n=>?_,rfl,rfl,rfl,.inl ⟨rfl,rfl⟩⟩
 rcases Zy h n with ⟨i,g,b,h1,h2⟩ | ⟨h1,h2⟩
 ·by_cases e:i=k
  ·subst e
   rw [hf] at h1
   injection h1 with h1
   subst h1
   exact hok.page (i:=i) (f:={ f with again:=a }) (by simp only;rw [List.getElem?_set_self (List.getElem?_eq_some_iff.1 hf).1]) h2
  ·exact hok.page (i:=i) (f:=g) (by simp only;rw [List.getElem?_set_ne (Ne.symm e)];exact h1) h2
 ·rw [h2];exact yl fun i hi=>h1 i ((hnum i).symm.trans hi)
theorem zhp {s:zl} (h:qi s) (hd:Nat) (hh:hd<3):vG s { s with hand:=hd } :=
 ⟨⟨h.three,hh,h.uniq,h.clean,h.sure⟩,fun _=>rfl,rfl,rfl,rfl,.inl ⟨rfl,rfl⟩⟩
theorem zaw {s:zl} (h:qi s) (k:Nat):vG s (s.write k):=by
 unfold zl.write
 split
 ·exact .refl h
 ·rename_i f hf
  split
  ·exact .refl h
  ·rename_i b n p hp
   split
   ·exact .refl h
   ·have hpg:=h.page hf hp
    have hnum:∀ i:Nat,((s.fs.set k { f with since:=0 })[i]?.bind zu.num)=(s.fs[i]?.bind zu.num):=Yl hf rfl
    have hdp:∀ m,zE s.dp n p m=s.dp m∨zE s.dp n p m=s.page m:=fun m=>by
     by_cases e:m=n
     ·subst e;rw [zf];exact .inr hpg.symm
     ·rw [zm _ _ e];exact .inl rfl
    have hok:qi { s with fs:=s.fs.set k { f with since:=0 },sure:=s.log.length,dp:=zE s.dp n p }:=by
     refine ⟨by simp [h.three],h.hand,fun i j n hi hj=>h.uniq i j n ((hnum i).symm.trans hi) ((hnum j).symm.trans hj),fun i g b' n' p' hg hp' hs=>?_,Nat.le_refl _⟩
     rcases yS hg with ⟨rfl,rfl⟩ | ⟨hne,hg⟩
     ·simp only at hp'
      rw [hp] at hp'
      injection hp' with hp'
      cases hp'
      simp only [zf]
     ·have hi2:=uy hg hp'
      have hk2:=uy hf hp
      have hn:n'≠n:=fun e=>hne (h.uniq i k n' hi2 (by rw [e];exact hk2))
      simp only [zm _ _ hn]
      exact h.clean i g b' n' p' hg hp' hs
    refine ⟨hok,fun m=>?_,rfl,rfl,rfl,.inr ⟨rfl,hdp⟩⟩
    rcases Zy h m with ⟨i,g,b',h1,h2⟩ | ⟨h1,h2⟩
    ·by_cases e:i=k
     ·subst e
      rw [hf] at h1
      injection h1 with h1
      subst h1
      exact hok.page (i:=i) (f:={ f with since:=0 }) (by simp only;rw [List.getElem?_set_self (List.getElem?_eq_some_iff.1 hf).1]) h2
     ·exact hok.page (i:=i) (f:=g) (by simp only;rw [List.getElem?_set_ne (Ne.symm e)];exact h1) h2
    ·have hmn:m≠n:=fun e=>by subst e;exact h1 k (uy hf hp)
     rw [h2,yl fun i hi=>h1 i ((hnum i).symm.trans hi)]
     exact zm _ _ hmn
theorem zeg {s:zl} (k:Nat) {f:zu} (hf:s.fs[k]?=some f):∃ g,(s.write k).fs[k]?=some g/\g.pg=f.pg/\(g.since=0∨f.pg=none):=by
 have hl:=(List.getElem?_eq_some_iff.1 hf).1
 unfold zl.write
 simp only [hf]
 split
 ·rename_i e;exact ⟨f,hf,rfl,.inr e⟩
 ·split
  ·rename_i e;exact ⟨f,hf,rfl,.inl e⟩
  ·exact ⟨{ f with since:=0 },by simp only;rw [List.getElem?_set_self hl],rfl,.inl rfl⟩
theorem zhq {s:zl} (h:qi s) {k:Nat} {f:zu} (hf:s.fs[k]?=some f) (hc:f.since=0∨f.pg=none):vG s { s with fs:=s.fs.set k zu.none }:=by
 have hl:=(List.getElem?_eq_some_iff.1 hf).1
 have hnum:∀ i n:Nat,((s.fs.set k zu.none)[i]?.bind zu.num)=some n->i≠k/\(s.fs[i]?.bind zu.num)=some n:=fun i n hi=>by
  by_cases e:i=k
  ·subst e;rw [List.getElem?_set_self hl] at hi;cases hi
  ·rw [List.getElem?_set_ne (Ne.symm e)] at hi;exact ⟨e,hi⟩
 have hok:qi { s with fs:=s.fs.set k zu.none }:=by
  refine ⟨by simp [h.three],h.hand,fun i j n hi hj=>h.uniq i j n (hnum i n hi).2 (hnum j n hj).2,fun i g b n p hg hp hs=>?_,h.sure⟩
  rcases yS hg with ⟨rfl,rfl⟩ | ⟨_,hg⟩
  ·cases hp
  ·exact h.clean i g b n p hg hp hs
 refine ⟨hok,fun n=>?_,rfl,rfl,rfl,.inl ⟨rfl,rfl⟩⟩
 rcases Zy h n with ⟨i,g,b,h1,h2⟩ | ⟨h1,h2⟩
 ·by_cases e:i=k
  ·subst e
   rw [hf] at h1
   injection h1 with h1
   subst h1
   rw [h2] at hc
   have hs:f.since=0:=hc.elim id (fun e=>by cases e)
   rw [yl (s:={ s with fs:=s.fs.set i zu.none }) fun j hj=>?_]
   ·exact (h.clean i f b n _ hf h2 hs).symm
   ·obtain ⟨h3,h4⟩:=hnum j n hj
    exact h3 (h.uniq j i n h4 (uy hf h2))
  ·exact hok.page (i:=i) (f:=g) (by simp only;rw [List.getElem?_set_ne (Ne.symm e)];exact h1) h2
 ·rw [h2];exact yl fun i hi=>h1 i (hnum i n hi).2
theorem zav:∀ (g:Nat) {s:zl},qi s->vG s (s.clock g).2
 | 0,s,h=>.refl h
 | g+1,s,h=>by
  have hl:s.hand<s.fs.length:=by rw [h.three];exact h.hand
  have hf:s.fs[s.hand]?=some s.fs[s.hand]:=List.getElem?_eq_getElem hl
  have hm:(s.hand+1) % 3<3:=Nat.mod_lt _ (by omega)
  unfold zl.clock
  simp only [hf]
  split
  ·have h1:=zbN h hf false _ hm
   exact h1.trans (zav g h1.ok)
  ·have h1:=zhp h _ hm
   have h2:=zaw h1.ok s.hand
   obtain ⟨f2,e1,e2,e3⟩:=zeg (s:={ s with hand:=(s.hand+1) % 3 }) s.hand hf
   exact h1.trans (h2.trans (zhq h2.ok e1 (e3.imp id fun e=>by rw [e2,e])))
theorem Gs:∀ (g:Nat) {s:zl},s.fs.length=3->s.hand<3->Ks s.fs<g->∃ f,(s.clock g).2.fs[(s.clock g).1]?=some f/\f.pg=none
 | 0,s,_,_,h=>by omega
 | g+1,s,h3,hh,h=>by
  have hl:s.hand<s.fs.length:=by omega
  have hf:s.fs[s.hand]?=some s.fs[s.hand]:=List.getElem?_eq_getElem hl
  unfold zl.clock
  simp only [hf]
  split
  ·rename_i ha
   exact Gs g (by simp [h3]) (Nat.mod_lt _ (by omega)) (by have:=zct hf ha;simp only;omega)
  ·refine ⟨zu.none,?_,rfl⟩
   simp only
   rw [List.getElem?_set_self]
   have:=(yv.write ({ s with hand:=(s.hand+1) % 3 }:zl) s.hand).len
   simp only at this
   omega
theorem Kt {fs:List zu}:∀ {g i k:Nat},jx fs g i=some k->(fs[k]?.bind zu.num)=none
 | 0,i,k,h=>by simp [jx] at h
 | g+1,i,k,h=>by
  unfold jx at h
  split at h
  ·rename_i e;injection h with h;subst h;exact e
  ·exact Kt h
theorem zhr {s:zl} (h:qi s):vG s s.room.2/\∃ f,s.room.2.fs[s.room.1]?=some f/\f.pg=none:=by
 have hlt:=zl.room_lt h.three h.hand
 unfold zl.room at hlt ⊢
 split
 ·rename_i k hk
  rw [hk] at hlt
  simp only at hlt
  refine ⟨.refl h,s.fs[k]'(by rw [h.three];exact hlt),List.getElem?_eq_getElem _,?_⟩
  have:=Kt hk
  rw [List.getElem?_eq_getElem (by rw [h.three];exact hlt)] at this
  simp only [Option.bind_some] at this
  cases e:(s.fs[k]'(by rw [h.three];exact hlt)).pg with
  | none=>rfl
  | some x=>unfold zu.num at this;rw [e] at this;cases this
 ·exact ⟨zav 4 h,Gs 4 h.three h.hand (by have:Ks s.fs<=s.fs.length:=List.countP_le_length;have:=h.three;omega)⟩
theorem YP {s:zl} (h:qi s) (nb n:Nat):vG s (s.get nb n):=by
 unfold zl.get
 cases hf:qU s.fs n with
 | some k =>
  obtain ⟨f,b,p,h1,h2⟩:=vX hf
  simp only [h1]
  exact zbN h h1 true s.hand h.hand
 | none =>
  obtain ⟨h1,f,h2,h3⟩:=zhr h
  have hl:=(List.getElem?_eq_some_iff.1 h2).1
  have hfew:=yv.room s
  have hnf:∀ i:Nat,¬ (s.fs[i]?.bind zu.num)=some n:=fun i hi=>by rw [h.find hi] at hf;cases hf
  have hnr:∀ i:Nat,¬ (s.room.2.fs[i]?.bind zu.num)=some n:=fun i hi=>hnf i (hfew.num i n hi)
  have hdpn:s.room.2.dp n=s.dp n:=by
   have e1:=h1.page n
   rw [yl hnr,yl hnf] at e1
   exact e1
  simp only [zl.put,zl.setPg,h2]
  have hnum:∀ i m:Nat,((s.room.2.fs.set s.room.1 ⟨some (nb,n,s.dp n),f.since,true⟩)[i]?.bind zu.num)=some m->(i=s.room.1/\m=n)∨(i≠s.room.1/\(s.room.2.fs[i]?.bind zu.num)=some m):=fun i m hi=>by
   by_cases e:i=s.room.1
   ·subst e;rw [List.getElem?_set_self hl] at hi;injection hi with hi;exact .inl ⟨rfl,hi.symm⟩
   ·rw [List.getElem?_set_ne (Ne.symm e)] at hi;exact .inr ⟨e,hi⟩
  have hok:qi { s.room.2 with fs:=s.room.2.fs.set s.room.1 ⟨some (nb,n,s.dp n),f.since,true⟩ }:=by
   refine ⟨by simp [h1.ok.three],h1.ok.hand,fun i j m hi hj=>?_,fun i g b m p hg hp hs=>?_,h1.ok.sure⟩
   ·rcases hnum i m hi with ⟨e1,e2⟩ | ⟨e1,e2⟩<;>rcases hnum j m hj with ⟨e3,e4⟩ | ⟨e3,e4⟩
    ·rw [e1,e3]
    ·subst e2;exact absurd e4 (hnr j)
    ·subst e4;exact absurd e2 (hnr i)
    ·exact h1.ok.uniq i j m e2 e4
   ·rcases yS hg with ⟨rfl,rfl⟩ | ⟨_,hg⟩
    ·injection hp with hp;cases hp;exact hdpn.symm
    ·exact h1.ok.clean i g b m p hg hp hs
  refine ⟨hok,fun m=>?_,h1.log,h1.gen,h1.bank,h1.dur⟩
  by_cases e:m=n
  ·subst e
   rw [hok.page (i:=s.room.1) (f:=⟨some (nb,m,s.dp m),f.since,true⟩) (by simp only;rw [List.getElem?_set_self hl]) rfl]
   exact (yl hnf).symm
  ·rw [<- h1.page m]
   rcases Zy h1.ok m with ⟨i,g,b,e1,e2⟩ | ⟨e1,e2⟩
   ·have hik:i≠s.room.1:=fun e3=>by subst e3;rw [h2] at e1;injection e1 with e1;subst e1;rw [h3] at e2;cases e2
    exact hok.page (i:=i) (f:=g) (by simp only;rw [List.getElem?_set_ne (Ne.symm hik)];exact e1) e2
   ·rw [e2];exact yl fun i hi=>by
     rcases hnum i m hi with ⟨_,e4⟩ | ⟨_,e4⟩
     ·exact e e4
     ·exact e1 i e4
structure zko (s s':zl) (n slot:Nat) (o:Option Rw) (m:Nat):Prop where
 ok:qi s'
 page:s'.page n={ (s.page n).set slot o with mark:=m }
 other:∀ n',n'≠n->s'.page n'=s.page n'
 log:s'.log=s.log
 gen:s'.gen=s.gen
 bank:s'.bank=s.bank
 sure:s'.sure=s.sure
 dp:s'.dp=s.dp
 here:qU s'.fs n≠none
theorem GB {s:zl} (h:qi s) {k n slot m b:Nat} {o:Option Rw} {f:zu} {p:Pg} (hf:s.fs[k]?=some f) (hp:f.pg=some (b,n,p)) (hm:m≠0):zko s (s.setRow n slot o m) n slot o m:=by
 have hl:=(List.getElem?_eq_some_iff.1 hf).1
 have hfd:=h.find (uy hf hp)
 have hpg:=h.page hf hp
 have hS:s.setRow n slot o m={ s with fs:=s.fs.set k ⟨some (b,n,{ p.set slot o with mark:=m }),if f.since=0 then m else f.since,f.again⟩ }:=by
  simp only [zl.setRow,hfd,hf,hp]
 rw [hS]
 have hnum:∀ i:Nat,((s.fs.set k ⟨some (b,n,{ p.set slot o with mark:=m }),if f.since=0 then m else f.since,f.again⟩)[i]?.bind zu.num)=(s.fs[i]?.bind zu.num):=Yl hf (by rw [zgH hp];rfl)
 have hok:qi { s with fs:=s.fs.set k ⟨some (b,n,{ p.set slot o with mark:=m }),if f.since=0 then m else f.since,f.again⟩ }:=by
  refine ⟨by simp [h.three],h.hand,fun i j n hi hj=>h.uniq i j n ((hnum i).symm.trans hi) ((hnum j).symm.trans hj),fun i g b' n' p' hg hp' hs=>?_,h.sure⟩
  rcases yS hg with ⟨rfl,rfl⟩ | ⟨_,hg⟩
  ·simp only at hs
   split at hs
   ·exact absurd hs hm
   ·rename_i hne;exact absurd hs hne
  ·exact h.clean i g b' n' p' hg hp' hs
 refine ⟨hok,?_,fun n' hn=>?_,rfl,rfl,rfl,rfl,rfl,?_⟩
 ·rw [hpg]
  exact hok.page (i:=k) (f:=⟨some (b,n,{ p.set slot o with mark:=m }),if f.since=0 then m else f.since,f.again⟩) (by simp only;rw [List.getElem?_set_self hl]) rfl
 ·rcases Zy h n' with ⟨i,g,b',h1,h2⟩ | ⟨h1,h2⟩
  ·have hik:i≠k:=fun e=>by
    subst e;rw [hf] at h1;injection h1 with h1;subst h1;rw [hp] at h2;injection h2 with h2
    exact hn (congrArg (fun x=>x.2.1) h2).symm
   exact hok.page (i:=i) (f:=g) (by simp only;rw [List.getElem?_set_ne (Ne.symm hik)];exact h1) h2
  ·rw [h2];exact yl fun i hi=>h1 i ((hnum i).symm.trans hi)
 ·rw [hok.find (i:=k) (n:=n) (by simp only;rw [hnum k];exact uy hf hp)];simp
theorem zcF {s:zl} (nb n:Nat) (h:qU s.fs n≠none):(s.get nb n).sure=s.sure/\(s.get nb n).dp=s.dp:=by
 unfold zl.get
 cases hf:qU s.fs n with
 | none=>exact absurd hf h
 | some k =>
  obtain ⟨f,b,p,h1,h2⟩:=vX hf
  simp only [h1]
  exact ⟨trivial,trivial⟩
structure zji (s s1 s':zl) (n slot:Nat) (o:Option Rw) (x:zI):Prop where
 soft:vG s s1
 ok:qi s'
 page:s'.page n={ (s.page n).set slot o with mark:=qD s.gen s.log.length }
 other:∀ n',n'≠n->s'.page n'=s.page n'
 log:s'.log=s.log++qu x
 gen:s'.gen=s.gen
 bank:s'.bank=s.bank
 sure:s'.sure=s1.sure
 dp:s'.dp=s1.dp
 here:qU s'.fs n≠none
theorem GH {s:zl} (h:qi s) (r nb kind txn n slot:Nat) (o:Option Rw):zji s (s.get nb n) (s.chg r nb kind txn n slot o) n slot o (jH r kind txn n slot (s.get nb n) (s.page n) o):=by
 have h1:=YP h nb n
 obtain ⟨k,f,hfd,hf,hp⟩:=ZQ nb n h.three h.hand
 have h2:qi ((s.get nb n).logged (jH r kind txn n slot (s.get nb n) (s.page n) o)):=⟨h1.ok.three,h1.ok.hand,h1.ok.uniq,h1.ok.clean,by
  have:=h1.ok.sure
  simp only [zl.logged,List.length_append]
  omega⟩
 have h3:=GB h2 (k:=k) (slot:=slot) (m:=qD s.gen s.log.length) (o:=o) hf hp (by unfold qD;omega)
 have hpg:∀ m,((s.get nb n).logged (jH r kind txn n slot (s.get nb n) (s.page n) o)).page m=s.page m:=h1.page
 refine ⟨h1,h3.ok,by have:=h3.page;rw [hpg] at this;exact this,fun n' hn=>(h3.other n' hn).trans (hpg n'),h3.log.trans ?_,h3.gen.trans h1.gen,h3.bank.trans h1.bank,h3.sure,h3.dp,h3.here⟩
 simp only [zl.logged,h1.log]
theorem zhQ {s:zl} (h:qi s) (r nb kind txn n slot:Nat) (o:Option Rw) (hh:qU s.fs n≠none):(s.chg r nb kind txn n slot o).sure=s.sure/\(s.chg r nb kind txn n slot o).dp=s.dp:=by
 have h1:=GH h r nb kind txn n slot o
 have h2:=zcF nb n hh
 exact ⟨h1.sure.trans h2.1,h1.dp.trans h2.2⟩
theorem zfH {s:zl} (h:qi s) (n:Nat):vG s (s.flush n)/\(s.flush n).dp n=s.page n/\∀ m,(s.flush n).dp m=s.dp m∨(s.flush n).dp m=s.page m:=by
 unfold zl.flush
 split
 ·rename_i hf
  refine ⟨.refl h,?_,fun m=>.inl rfl⟩
  unfold zl.page
  rw [hf]
  rfl
 ·rename_i k hf
  obtain ⟨f,b,p,h1,h2⟩:=vX hf
  have hs:=zaw h k
  have hpg:=h.page h1 h2
  have hd:∀ m,(s.write k).dp m=s.dp m∨(s.write k).dp m=s.page m:=fun m=>by
   rcases hs.dur with ⟨_,e⟩ | ⟨_,e⟩
   ·exact .inl (by rw [e])
   ·exact e m
  refine ⟨hs,?_,hd⟩
  unfold zl.write
  simp only [h1,h2]
  split
  ·rename_i e;rw [hpg];exact (h.clean k f b n p h1 h2 e).symm
  ·simp only [zf];exact hpg.symm
theorem KS {s:zl} (h:qi s):∀ k,vG s (s.flushTo k)/\∀ n,n<k->(s.flushTo k).dp n=s.page n
 | 0=>⟨.refl h,fun n hn=>absurd hn (Nat.not_lt_zero n)⟩
 | k+1=>by
  obtain ⟨h1,h2⟩:=KS h k
  obtain ⟨h3,h4,h5⟩:=zfH h1.ok k
  rw [zl.flushTo_step]
  refine ⟨h1.trans h3,fun n hn=>?_⟩
  by_cases e:n=k
  ·subst e;exact h4.trans (h1.page n)
  ·rcases h5 n with e2 | e2
   ·exact e2.trans (h2 n (by omega))
   ·exact e2.trans (h1.page n)
structure zkn (s s':zl) (rs:List zI):Prop where
 ok:qi s'
 page:∀ n,s'.page n=s.page n
 dp:∀ n,n<6->s'.dp n=s.page n
 log:s'.log=zp rs
 sure:s'.sure=(zp rs).length
 gen:s'.gen=s.gen+1
theorem zby {s:zl} (h:qi s) (ts:qL):zkn s (s.pack ts) (qY ts):=by
 obtain ⟨h1,h2⟩:=KS h 6
 refine ⟨⟨h1.ok.three,h1.ok.hand,h1.ok.uniq,h1.ok.clean,Nat.le_refl _⟩,h1.page,h2,rfl,rfl,rfl⟩
def uM (n:Nat) (p:Pg) (e:Nat × zI):Pg:=if (e.2.kind=3∨e.2.kind=4)/\e.2.page=n/\p.mark<e.1 then { p.set e.2.slot e.2.after with mark:=e.1 } else p
def rp (es:List (Nat × zI)) (n:Nat) (p:Pg):Pg:=es.foldl (uM n) p
theorem zhc (a b:List (Nat × zI)) (n:Nat) (p:Pg):rp (a++b) n p=rp b n (rp a n p):=by simp [rp]
theorem ziP (n:Nat) (p:Pg) (e:Nat × zI):p.mark<=(uM n p e).mark/\((e.2.kind=3∨e.2.kind=4)->e.2.page=n->e.1<=(uM n p e).mark):=by
 unfold uM
 split
 ·rename_i h;exact ⟨Nat.le_of_lt h.2.2,fun _ _=>Nat.le_refl _⟩
 ·rename_i h;exact ⟨Nat.le_refl _,fun h1 h2=>Nat.le_of_not_lt fun h3=>h ⟨h1,h2,h3⟩⟩
theorem zaV:∀ (es:List (Nat × zI)) (n:Nat) (p:Pg),p.mark<=(rp es n p).mark/\∀ e,e∈es->(e.2.kind=3∨e.2.kind=4)->e.2.page=n->e.1<=(rp es n p).mark
 | [],n,p=>⟨Nat.le_refl _,fun e he=>by cases he⟩
 | e::es,n,p=>by
  have h1:=ziP n p e
  have h2:=zaV es n (uM n p e)
  show p.mark<=(rp es n (uM n p e)).mark/\∀ e',e'∈e::es->_
  refine ⟨Nat.le_trans h1.1 h2.1,fun e' he h3 h4=>?_⟩
  rcases List.mem_cons.1 he with rfl | he
  ·exact Nat.le_trans (h1.2 h3 h4) h2.1
  ·exact h2.2 e' he h3 h4
theorem zeA:∀ (es:List (Nat × zI)) (n:Nat) (p:Pg),(∀ e,e∈es->(e.2.kind=3∨e.2.kind=4)->e.2.page=n->e.1<=p.mark)->rp es n p=p
 | [],n,p,_=>rfl
 | e::es,n,p,h=>by
  have h1:uM n p e=p:=by
   unfold uM
   rw [if_neg]
   rintro ⟨h1,h2,h3⟩
   have:=h e (List.mem_cons_self ..) h1 h2
   omega
  show rp es n (uM n p e)=p
  rw [h1]
  exact zeA es n p fun e' he=>h e' (List.mem_cons_of_mem _ he)
theorem zdi {N:Nat}:∀ (es:List (Nat × zI)) (n:Nat) (p:Pg),p.mark<N->(∀ e,e∈es->e.1<N)->(rp es n p).mark<N
 | [],n,p,h,_=>h
 | e::es,n,p,h,he=>by
  show (rp es n (uM n p e)).mark<N
  refine zdi es n _ ?_ fun e' h'=>he e' (List.mem_cons_of_mem _ h')
  unfold uM
  split
  ·exact he e (List.mem_cons_self ..)
  ·exact h
theorem zep (gen:Nat):∀ (rs:List zI) (n:Nat),∀ e,e∈qx gen n rs->e.1<qD gen (n+(zp rs).length)
 | [],n,e,h=>by cases h
 | x::rs,n,e,h=>by
  have hl:(zp (x::rs)).length=(qu x).length+(zp rs).length:=by simp [zp]
  rcases List.mem_cons.1 h with rfl | h
  ·have:=Jj x;simp only [qD,hl];omega
  ·have:=zep gen rs _ e h
   rw [hl]
   simp only [qD] at this ⊢
   omega
theorem zbG (a b:List zI):zp (a++b)=zp a++zp b:=by simp [zp]
theorem Qr (x:zI):zp [x]=qu x:=by simp [zp]
structure un (s:zl) (rs:List zI) (m:Nat) (C:Nat->List (Option Rw)):Prop where
 log:s.log=zp rs
 pos:0<m
 mle:m<=rs.length
 sure:s.sure=(zp (rs.take m)).length
 full:∀ n,n<6->rp (qx s.gen 0 rs) n (s.dp n)=s.page n
 part:∀ n,n<6->(rp (qx s.gen 0 (rs.take m)) n (s.dp n)).slots=C n
 mark:∀ n,n<6->(s.page n).mark<qD s.gen s.log.length
def QU (s:zl) (C:Nat->List (Option Rw)):Prop:=∀ n,n<6->(s.page n).slots=C n
theorem un.soft {s s':zl} {rs:List zI} {m:Nat} {C:Nat->List (Option Rw)} (h:un s rs m C) (hs:vG s s') (hc:QU s C):∃ m',(m'=m∨m'=rs.length)/\un s' rs m' C:=by
 have hfull:(∀ n,s'.dp n=s.dp n∨s'.dp n=s.page n)->∀ n,n<6->rp (qx s'.gen 0 rs) n (s'.dp n)=s'.page n:=fun hd n hn=>by
  rw [hs.gen,hs.page n]
  rcases hd n with e | e
  ·rw [e];exact h.full n hn
  ·rw [e]
   refine zeA _ n _ fun e' he h1 h2=>?_
   rw [<- h.full n hn]
   exact (zaV _ n _).2 e' he h1 h2
 have hmark:∀ n,n<6->(s'.page n).mark<qD s'.gen s'.log.length:=fun n hn=>by rw [hs.page n,hs.gen,hs.log];exact h.mark n hn
 rcases hs.dur with ⟨h1,h2⟩ | ⟨h1,h2⟩
 ·refine ⟨m,.inl rfl,hs.log.trans h.log,h.pos,h.mle,h1.trans h.sure,hfull fun n=>.inl (by rw [h2]),fun n hn=>?_,hmark⟩
  rw [hs.gen,h2];exact h.part n hn
 ·refine ⟨rs.length,.inr rfl,hs.log.trans h.log,Nat.lt_of_lt_of_le h.pos h.mle,Nat.le_refl _,by rw [h1,List.take_length,h.log],hfull h2,fun n hn=>?_,hmark⟩
  rw [List.take_length,hfull h2 n hn,hs.page n]
  exact hc n hn
theorem un.more {s s':zl} {rs:List zI} {m:Nat} {C:Nat->List (Option Rw)} (h:un s rs m C) (x:zI) (hlog:s'.log=s.log++qu x) (hgen:s'.gen=s.gen) (hsure:s'.sure=s.sure) (hdp:s'.dp=s.dp)
  (hp:∀ n,n<6->s'.page n=uM n (s.page n) (qD s.gen s.log.length,x)):un s' (rs++[x]) m C:=by
 have ht:(rs++[x]).take m=rs.take m:=List.take_append_of_le_length h.mle
 have hl:s'.log.length=s.log.length+(qu x).length:=by rw [hlog,List.length_append]
 have hpos:=Jj x
 refine ⟨by rw [hlog,h.log,zbG,Qr],h.pos,by rw [List.length_append];have:=h.mle;omega,by rw [ht,hsure];exact h.sure,fun n hn=>?_,fun n hn=>?_,fun n hn=>?_⟩
 ·rw [hgen,JL,zhc,hdp,h.full n hn,Nat.zero_add,<- h.log]
  exact (hp n hn).symm
 ·rw [ht,hgen,hdp];exact h.part n hn
 ·rw [hp n hn,hgen,hl]
  have:=h.mark n hn
  unfold uM
  split
  ·simp only [qD];omega
  ·simp only [qD] at this ⊢;omega
theorem Gi {n pl:Nat} {p:Pg} {x:zI} (h:x.kind≠3/\x.kind≠4):uM n p (pl,x)=p:=by
 unfold uM
 rw [if_neg]
 rintro ⟨h1 | h1,_⟩
 ·exact h.1 h1
 ·exact h.2 h1
theorem un.chg {s s1 s':zl} {rs:List zI} {m n slot:Nat} {C:Nat->List (Option Rw)} {o:Option Rw} {x:zI} (h:un s1 rs m C) (hc:zji s s1 s' n slot o x) (hk:x.kind=3∨x.kind=4) (hxp:x.page=n) (hxs:x.slot=slot) (hxa:x.after=o) (hn6:n<6):un s' (rs++[x]) m C:=by
 refine h.more x (by rw [hc.log,hc.soft.log]) (hc.gen.trans hc.soft.gen.symm) hc.sure hc.dp fun n' hn=>?_
 by_cases e:n'=n
 ·subst e
  have hm:=h.mark n' hn
  rw [hc.page]
  unfold uM
  rw [if_pos ⟨hk,hxp,hm⟩,hxs,hxa,hc.soft.page,hc.soft.gen,hc.soft.log]
 ·rw [hc.other n' e,<- hc.soft.page n']
  unfold uM
  rw [if_neg]
  rintro ⟨_,h2,_⟩
  exact e (h2.symm.trans hxp)
theorem un.sync {s s':zl} {rs:List zI} {m:Nat} {C C':Nat->List (Option Rw)} (h:un s rs m C) (hlog:s'.log=s.log) (hgen:s'.gen=s.gen) (hsure:s'.sure=s.log.length) (hdp:s'.dp=s.dp) (hp:∀ n,s'.page n=s.page n) (hc:QU s C'):un s' rs rs.length C':=by
 refine ⟨hlog.trans h.log,Nat.lt_of_lt_of_le h.pos h.mle,Nat.le_refl _,by rw [List.take_length,hsure,h.log],fun n hn=>by rw [hgen,hdp,hp];exact h.full n hn,fun n hn=>?_,fun n hn=>by rw [hp,hgen,hlog];exact h.mark n hn⟩
 rw [List.take_length,hgen,hdp,h.full n hn]
 exact hc n hn
theorem un.fresh {s s':zl} {C:Nat->List (Option Rw)} {x:zI} (hx:x.kind≠3/\x.kind≠4) (hlog:s'.log=zp [x]) (hsure:s'.sure=(zp [x]).length) (hdp:∀ n,n<6->s'.dp n=s'.page n) (hm:∀ n,n<6->(s'.page n).mark<qD s'.gen s'.log.length) (hc:QU s' C):un s' [x] 1 C:=by
 have he:∀ n p,rp (qx s'.gen 0 [x]) n p=p:=fun n p=>by
  show uM n p _=p
  exact Gi hx
 refine ⟨hlog,Nat.one_pos,Nat.le_refl _,hsure,fun n hn=>by rw [he];exact hdp n hn,fun n hn=>?_,hm⟩
 show (rp (qx s'.gen 0 [x]) n (s'.dp n)).slots=C n
 rw [he,hdp n hn]
 exact hc n hn
def jh (a b:Rw):Prop:=a.t=b.t/\a.k=b.k
theorem zcJ {a b:Rw} (h:jD a b):¬ jh a b:=fun e=>vN b (Ja e h)
theorem zgu {a b:Rw} (h:jD b a):¬ jh a b:=fun e=>vN a (Ja ⟨e.1.symm,e.2.symm⟩ h)
theorem jh.symm {a b:Rw} (h:jh a b):jh b a:=⟨h.1.symm,h.2.symm⟩
theorem jh.trans {a b c:Rw} (h:jh a b) (k:jh b c):jh a c:=⟨h.1.trans k.1,h.2.trans k.2⟩
theorem uW:∀ {l:List It} {x y:It},zJ l->x∈l->y∈l->jh x.rw y.rw->x=y
 | [],x,y,_,h,_,_=>by cases h
 | z::l,x,y,hs,hx,hy,he=>by
  obtain ⟨h1,h2⟩:=List.pairwise_cons.1 hs
  rcases List.mem_cons.1 hx with h3 | h3<;>rcases List.mem_cons.1 hy with h4 | h4
  ·rw [h3,h4]
  ·subst h3;exact absurd he (zcJ (h1 y h4))
  ·subst h4;exact absurd he (zgu (h1 x h3))
  ·exact uW (show zJ l from h2) h3 h4 he
theorem zht {l:List It} (h:zJ l) {i j:Nat} {x y:It} (hi:l[i]?=some x) (hj:l[j]?=some y) (hlt:i<j):jD x.rw y.rw:=by
 obtain ⟨h1,h2⟩:=List.getElem?_eq_some_iff.1 hi
 obtain ⟨h3,h4⟩:=List.getElem?_eq_some_iff.1 hj
 have:=List.pairwise_iff_getElem.1 h i j h1 h3 hlt
 rw [h2,h4] at this
 exact this
theorem Zw {l:List It} (hs:zJ l) (r:Rw):(qv l (qF l r) r=true->∃ x,l[qF l r]?=some x/\jh x.rw r)/\(qv l (qF l r) r=false->∀ x,x∈l->¬ jh x.rw r)/\∀ k x,l[k]?=some x->jh x.rw r->k=qF l r:=by
 have hc:=Cut.of_sorted (r:=r) hs
 have hat:∀ k x,l[k]?=some x->jh x.rw r->k=qF l r/\qv l (qF l r) r=true:=fun k x hk hx=>by
  have h1:¬ k<qF l r:=fun hlt=>zcJ ((ZY _ _).1 (hc.lo k x hlt hk)) hx
  have h2:¬ qF l r<k:=fun hlt=>by
   obtain ⟨y,hy⟩:∃ y,l[qF l r]?=some y:=⟨_,List.getElem?_eq_getElem (by have:=(List.getElem?_eq_some_iff.1 hk).1;omega)⟩
   have h3:=zht hs hy hk hlt
   have h4:=hc.hi _ y (Nat.le_refl _) hy
   exact h4 ((ZY _ _).2 (zdJ hx h3))
  have h3:k=qF l r:=by omega
  refine ⟨h3,?_⟩
  unfold qv
  rw [<- h3,hk]
  simpa using (Jm _ _).2 hx
 refine ⟨fun h=>?_,fun h x hx hsm=>?_,fun k x hk hx=>(hat k x hk hx).1⟩
 ·unfold qv at h
  cases e:l[qF l r]? with
  | none=>rw [e] at h;cases h
  | some x =>
   rw [e] at h
   exact ⟨x,rfl,(Jm _ _).1 (by simpa using h)⟩
 ·obtain ⟨k,hk⟩:=List.getElem?_of_mem hx
  rw [(hat k x hk hsm).2] at h
  cases h
theorem zgC (l:List It) (m:Nat) (x y:It):y∈yX l m x↔y=x∨y∈l:=by
 unfold yX
 rw [List.mem_append,List.mem_cons]
 have:y∈l↔y∈l.take m∨y∈l.drop m:=by rw [<- List.mem_append,List.take_append_drop]
 rw [this]
 constructor
 ·rintro (h | h | h)
  ·exact .inr (.inl h)
  ·exact .inl h
  ·exact .inr (.inr h)
 ·rintro (h | h | h)
  ·exact .inr (.inl h)
  ·exact .inl h
  ·exact .inr (.inr h)
theorem zgE {l:List It} {m:Nat} {z:It} (hz:l[m]?=some z) (y:It):(y∈l.take m∨y∈l.drop (m+1))↔∃ k:Nat,k≠m/\l[k]?=some y:=by
 constructor
 ·rintro (h | h)
  ·obtain ⟨k,hk⟩:=List.getElem?_of_mem h
   rw [List.getElem?_take] at hk
   split at hk
   ·exact ⟨k,by omega,hk⟩
   ·cases hk
  ·obtain ⟨k,hk⟩:=List.getElem?_of_mem h
   rw [List.getElem?_drop] at hk
   exact ⟨m+1+k,by omega,hk⟩
 ·rintro ⟨k,h1,h2⟩
  have hl:=(List.getElem?_eq_some_iff.1 h2).1
  by_cases e:k<m
  ·exact .inl (List.mem_of_getElem? (i:=k) (by rw [List.getElem?_take,if_pos e];exact h2))
  ·exact .inr (List.mem_of_getElem? (i:=k-(m+1)) (by rw [List.getElem?_drop,show m+1+(k-(m+1))=k by omega];exact h2))
theorem zbJ {l:List It} (hs:zJ l) {r:Rw} {z:It} (hz:l[qF l r]?=some z) (y:It) (hzr:jh z.rw r):(y∈l.take (qF l r)∨y∈l.drop (qF l r+1))↔y∈l/\¬ jh y.rw r:=by
 rw [zgE hz]
 constructor
 ·rintro ⟨k,h1,h2⟩
  exact ⟨List.mem_of_getElem? h2,fun e=>h1 ((Zw hs r).2.2 k y h2 e)⟩
 ·rintro ⟨h1,h2⟩
  obtain ⟨k,hk⟩:=List.getElem?_of_mem h1
  refine ⟨k,fun e=>?_,hk⟩
  rw [e,hz] at hk
  injection hk with hk
  subst hk
  exact h2 hzr
theorem Qp {l:List It} (hs:zJ l) (x y:It):y∈yZ l (qF l x.rw) x↔y=x∨y∈l/\¬ jh y.rw x.rw:=by
 have hf:=Zw hs x.rw
 unfold yZ
 cases e:qv l (qF l x.rw) x.rw with
 | false =>
  rw [if_neg (by simp),zgC]
  constructor
  ·rintro (h | h)
   ·exact .inl h
   ·exact .inr ⟨h,hf.2.1 e y h⟩
  ·rintro (h | h)
   ·exact .inl h
   ·exact .inr h.1
 | true =>
  obtain ⟨z,hz,hzr⟩:=hf.1 e
  rw [if_pos rfl,List.set_eq_take_append_cons_drop,if_pos (List.getElem?_eq_some_iff.1 hz).1,List.mem_append,List.mem_cons,<- zbJ hs hz y hzr]
  constructor
  ·rintro (h | h | h)
   ·exact .inr (.inl h)
   ·exact .inl h
   ·exact .inr (.inr h)
  ·rintro (h | h | h)
   ·exact .inr (.inl h)
   ·exact .inl h
   ·exact .inr (.inr h)
theorem zgD {l:List It} (hs:zJ l) (r:Rw) (y:It):y∈uI l (qF l r) r↔y∈l/\¬ jh y.rw r:=by
 have hf:=Zw hs r
 unfold uI
 cases e:qv l (qF l r) r with
 | false =>
  rw [if_neg (by simp)]
  exact ⟨fun h=>⟨h,hf.2.1 e y h⟩,fun h=>h.1⟩
 | true =>
  obtain ⟨z,hz,hzr⟩:=hf.1 e
  rw [if_pos rfl,List.eraseIdx_eq_take_drop_succ,List.mem_append]
  exact zbJ hs hz y hzr
theorem zbY {l:List It} (hs:zJ l) (x:It) (h:∀ y,y∈l->¬ jh y.rw x.rw):(yZ l (qF l x.rw) x).length=l.length+1:=by
 have hf:=Zw hs x.rw
 unfold yZ
 cases e:qv l (qF l x.rw) x.rw with
 | false=>rw [if_neg (by simp)];exact Zm _ _ _
 | true =>
  obtain ⟨z,hz,hzr⟩:=hf.1 e
  exact absurd hzr (h z (List.mem_of_getElem? hz))
structure vj (its:List It) (C:Nat->List (Option Rw)):Prop where
 so:zJ its
 mem:∀ x,x∈its↔x.pg<6/\x.sl<5/\(C x.pg)[x.sl]?=some (some x.rw)
theorem vj.congr {its:List It} {C C':Nat->List (Option Rw)} (h:vj its C) (e:∀ n,n<6->C' n=C n):vj its C' :=
 ⟨h.so,fun x=>(h.mem x).trans ⟨fun ⟨h1,h2,h3⟩=>⟨h1,h2,by rw [e _ h1];exact h3⟩,fun ⟨h1,h2,h3⟩=>⟨h1,h2,by rw [<- e _ h1];exact h3⟩⟩⟩
theorem QQ:∀ {a b:List It},zJ a->zJ b->(∀ x,x∈a↔x∈b)->a=b
 | [],[],_,_,_=>rfl
 | [],y::b,_,_,h=>by have:=(h y).2 (List.mem_cons_self ..);cases this
 | x::a,[],_,_,h=>by have:=(h x).1 (List.mem_cons_self ..);cases this
 | x::a,y::b,ha,hb,h=>by
  obtain ⟨a1,a2⟩:=List.pairwise_cons.1 ha
  obtain ⟨b1,b2⟩:=List.pairwise_cons.1 hb
  have hxy:x=y:=by
   have h1:=(h x).1 (List.mem_cons_self ..)
   have h2:=(h y).2 (List.mem_cons_self ..)
   rcases List.mem_cons.1 h1 with e | h1
   ·exact e
   ·rcases List.mem_cons.1 h2 with e | h2
    ·exact e.symm
    ·exact absurd (JQ (a1 y h2) (b1 x h1)) (vN _)
  subst hxy
  congr 1
  refine QQ a2 b2 fun z=>⟨fun hz=>?_,fun hz=>?_⟩
  ·rcases List.mem_cons.1 ((h z).1 (List.mem_cons_of_mem _ hz)) with rfl | h3
   ·exact absurd (a1 z hz) (vN _)
   ·exact h3
  ·rcases List.mem_cons.1 ((h z).2 (List.mem_cons_of_mem _ hz)) with rfl | h3
   ·exact absurd (b1 z hz) (vN _)
   ·exact h3
theorem vj.chg {its:List It} {C:Nat->List (Option Rw)} (h:vj its C) {n i:Nat} {o:Option Rw} (hn:n<6) (hi:i<5) (hl:∀ k,k<6->(C k).length=5) (ho:∀ b,o=some b->∀ x,x∈its->jh x.rw b->x.pg=n/\x.sl=i):vj (yp (qR its (((C n)[i]?).getD none)) o n i) (zE C n ((C n).set i o)):=by
 have hso:=(Qo h.so (((C n)[i]?).getD none) o n i).1
 have hil:i<(C n).length:=by rw [hl n hn];exact hi
 have hout:zJ (qR its (((C n)[i]?).getD none))/\∀ x,x∈qR its (((C n)[i]?).getD none)↔x∈its/\¬ (x.pg=n/\x.sl=i):=by
  have hcn:(C n)[i]?=some (C n)[i]:=List.getElem?_eq_getElem hil
  rw [hcn]
  cases e:(C n)[i] with
  | none =>
   refine ⟨h.so,fun x=>⟨fun hx=>⟨hx,?_⟩,fun hx=>hx.1⟩⟩
   rintro ⟨h1,h2⟩
   have h3:=((h.mem x).1 hx).2.2
   rw [h1,h2,hcn,e] at h3
   cases h3
  | some b =>
   have hb:(⟨b,n,i⟩:It)∈its:=(h.mem _).2 ⟨hn,hi,by rw [hcn,e]⟩
   refine ⟨zJ.rem h.so,fun x=>?_⟩
   show x∈uI its (qF its ⟨b.t,b.k,[]⟩) ⟨b.t,b.k,[]⟩↔_
   rw [zgD h.so]
   refine and_congr_right fun hx=>not_congr ⟨fun hs=>?_,fun hs=>?_⟩
   ·have:=uW h.so hx hb ⟨hs.1,hs.2⟩
    rw [this];exact ⟨rfl,rfl⟩
   ·have h3:=((h.mem x).1 hx).2.2
    rw [hs.1,hs.2,hcn,e] at h3
    injection h3 with h3
    injection h3 with h3
    rw [<- h3];exact ⟨rfl,rfl⟩
 have hC:∀ x:It,x.pg<6->x.sl<5->((zE C n ((C n).set i o)) x.pg)[x.sl]?=if x.pg=n/\x.sl=i then some o else (C x.pg)[x.sl]?:=fun x h1 h2=>by
  by_cases e:x.pg=n
  ·rw [e,zf]
   by_cases e2:x.sl=i
   ·rw [e2,List.getElem?_set_self hil,if_pos ⟨rfl,rfl⟩]
   ·rw [List.getElem?_set_ne (Ne.symm e2),if_neg (fun h=>e2 h.2)]
  ·rw [zm _ _ e,if_neg (fun h=>e h.1)]
 refine ⟨hso,fun x=>?_⟩
 cases o with
 | none =>
  show x∈qR its _↔_
  rw [hout.2 x,h.mem x]
  constructor
  ·rintro ⟨⟨h1,h2,h3⟩,h4⟩
   exact ⟨h1,h2,by rw [hC x h1 h2,if_neg h4];exact h3⟩
  ·rintro ⟨h1,h2,h3⟩
   rw [hC x h1 h2] at h3
   split at h3
   ·cases h3
   ·rename_i h4;exact ⟨⟨h1,h2,h3⟩,h4⟩
 | some b =>
  show x∈yZ (qR its _) (qF (qR its _) b) ⟨b,n,i⟩↔_
  have hm:=Qp hout.1 ⟨b,n,i⟩ x
  rw [hm,hout.2 x]
  constructor
  ·rintro (rfl | ⟨⟨h1,h2⟩,h3⟩)
   ·refine ⟨hn,hi,?_⟩
    rw [hC _ hn hi,if_pos ⟨rfl,rfl⟩]
   ·obtain ⟨h4,h5,h6⟩:=(h.mem x).1 h1
    exact ⟨h4,h5,by rw [hC x h4 h5,if_neg h2];exact h6⟩
  ·rintro ⟨h1,h2,h3⟩
   rw [hC x h1 h2] at h3
   split at h3
   ·rename_i h4
    injection h3 with h3
    injection h3 with h3
    refine .inl ?_
    cases x
    simp only at h4 h3
    rw [h4.1,h4.2,h3]
   ·rename_i h4
    have h5:x∈its:=(h.mem x).2 ⟨h1,h2,h3⟩
    exact .inr ⟨⟨h5,h4⟩,fun hs=>h4 (ho b rfl x h5 hs)⟩
theorem zgX {s:zl} (h:qi s) (nb pl:Nat) (x:zI) (hk:x.kind=3∨x.kind=4):qi (s.redo nb 0 pl x)/\∀ n,(s.redo nb 0 pl x).page n=uM n (s.page n) (pl,x):=by
 have h1:=YP h nb x.page
 unfold zl.redo
 split
 ·rename_i hc
  obtain ⟨k,f,hfd,hf,hp⟩:=ZQ nb x.page h.three h.hand
  have h3:=GB h1.ok (k:=k) (slot:=x.slot) (m:=pl) (o:=x.after) hf hp (by omega)
  refine ⟨h3.ok,fun n=>?_⟩
  unfold uM
  by_cases e:n=x.page
  ·subst e
   rw [h3.page,h1.page,if_pos ⟨hk,rfl,hc.2⟩]
  ·rw [h3.other n e,h1.page,if_neg (fun h=>e h.2.1.symm)]
 ·rename_i hc
  refine ⟨h1.ok,fun n=>?_⟩
  rw [h1.page]
  unfold uM
  rw [if_neg]
  rintro ⟨_,h2,h3⟩
  subst h2
  exact hc ⟨Nat.zero_le _,h3⟩
theorem zjZ {s:St} (h:qi s.sto) (nb pl:Nat) (x:zI):qi (s.redo nb 0 pl x).sto/\∀ n,(s.redo nb 0 pl x).sto.page n=uM n (s.sto.page n) (pl,x):=by
 unfold St.redo
 split
 ·rename_i hk;exact zgX h nb pl x hk
 ·rename_i hk
  exact ⟨h,fun n=>(Gi (by omega)).symm⟩
theorem zbI {s:St} (h:qi s.sto) (nbs:Nat->Nat) (es:List (Nat × zI)):∀ j,j<=es.length->qi (jy nbs 0 es j s).sto/\∀ n,(jy nbs 0 es j s).sto.page n=rp (es.take j) n (s.sto.page n)
 | 0,_=>⟨h,fun n=>rfl⟩
 | j+1,hj=>by
  obtain ⟨h1,h2⟩:=zbI h nbs es j (by omega)
  have he:es[j]?=some es[j]:=List.getElem?_eq_getElem hj
  simp only [jy,he]
  obtain ⟨h3,h4⟩:=zjZ h1 (nbs j) es[j].1 es[j].2
  refine ⟨h3,fun n=>?_⟩
  rw [h4 n,h2 n,List.take_succ_eq_append_getElem hj,zhc]
  rfl
theorem YG {s:St} (h:qi s.sto) (nbs:Nat->Nat):∀ k,vG s.sto (qe nbs k s).sto
 | 0=>.refl h
 | k+1=>by
  have h1:=YG h nbs k
  exact h1.trans (YP h1.ok (nbs k) k)
theorem yD:∀ (l:List (Option Rw)) (i:Nat) (p:Nat × Rw),p∈ql l i↔i<=p.1/\l[p.1-i]?=some (some p.2)
 | [],i,p=>by simp [ql]
 | none::l,i,p=>by
  simp only [ql]
  rw [yD l (i+1) p]
  constructor
  ·rintro ⟨h1,h2⟩
   refine ⟨by omega,?_⟩
   rw [show p.1-i=(p.1-(i+1))+1 by omega]
   exact h2
  ·rintro ⟨h1,h2⟩
   by_cases e:p.1=i
   ·rw [e,Nat.sub_self] at h2;simp at h2
   ·refine ⟨by omega,?_⟩
    rw [show p.1-i=(p.1-(i+1))+1 by omega] at h2
    exact h2
 | some x::l,i,p=>by
  simp only [ql,List.mem_cons]
  rw [yD l (i+1) p]
  constructor
  ·rintro (rfl | ⟨h1,h2⟩)
   ·exact ⟨Nat.le_refl _,by simp⟩
   ·refine ⟨by omega,?_⟩
    rw [show p.1-i=(p.1-(i+1))+1 by omega]
    exact h2
  ·rintro ⟨h1,h2⟩
   by_cases e:p.1=i
   ·rw [e,Nat.sub_self] at h2
    simp only [List.getElem?_cons_zero,Option.some.injEq] at h2
    exact .inl (Prod.ext e h2.symm)
   ·refine .inr ⟨by omega,?_⟩
    rw [show p.1-i=(p.1-(i+1))+1 by omega] at h2
    exact h2
theorem JW:∀ (l:List (Option Rw)) (i:Nat),(ql l i).Pairwise fun p q=>p.1<q.1
 | [],_=>.nil
 | none::l,i=>JW l (i+1)
 | some x::l,i=>List.Pairwise.cons (fun q hq=>by have:=((yD l (i+1) q).1 hq).1;simp only;omega) (JW l (i+1))
theorem Kd (n:Nat):∀ (L:List (Nat × Rw)) {its:List It},zJ its->(∀ p,p∈L->∀ y,y∈its->¬ jh y.rw p.2)->(L.Pairwise fun p q=>¬ jh p.2 q.2)->zJ (je n L its)/\∀ y,y∈je n L its↔y∈its∨∃ p,p∈L/\y=⟨p.2,n,p.1⟩
 | [],its,h,_,_=>⟨h,fun y=>⟨.inl,fun h=>h.elim id fun ⟨p,hp,_⟩=>by cases hp⟩⟩
 | p::L,its,h,h1,h2=>by
  obtain ⟨h3,h4⟩:=List.pairwise_cons.1 h2
  have hs:=(zcH h p.2 n p.1).1
  have hm:∀ y,y∈yp its (some p.2) n p.1↔y=⟨p.2,n,p.1⟩∨y∈its:=fun y=>by
   show y∈yZ its (qF its p.2) ⟨p.2,n,p.1⟩↔_
   rw [Qp h ⟨p.2,n,p.1⟩ y]
   exact or_congr_right ⟨fun h=>h.1,fun hy=>⟨hy,h1 p (List.mem_cons_self ..) y hy⟩⟩
  obtain ⟨h5,h6⟩:=Kd n L hs (fun q hq y hy=>by
   rcases (hm y).1 hy with rfl | hy
   ·exact h3 q hq
   ·exact h1 q (List.mem_cons_of_mem _ hq) y hy) h4
  refine ⟨h5,fun y=>?_⟩
  show y∈je n L (yp its (some p.2) n p.1)↔_
  rw [h6 y,hm y]
  constructor
  ·rintro ((rfl | h) | ⟨q,hq,rfl⟩)
   ·exact .inr ⟨p,List.mem_cons_self ..,rfl⟩
   ·exact .inl h
   ·exact .inr ⟨q,List.mem_cons_of_mem _ hq,rfl⟩
  ·rintro (h | ⟨q,hq,rfl⟩)
   ·exact .inl (.inr h)
   ·rcases List.mem_cons.1 hq with rfl | hq
    ·exact .inl (.inl rfl)
    ·exact .inr ⟨q,hq,rfl⟩
structure zhJ (C:Nat->List (Option Rw)):Prop where
 len:∀ n,n<6->(C n).length=5
 apart:∀ (n i n' i':Nat) (a b:Rw),n<6->n'<6->(C n)[i]?=some (some a)->(C n')[i']?=some (some b)->jh a b->n=n'/\i=i'
theorem vj.keys {its:List It} {C:Nat->List (Option Rw)} (h:vj its C) (hl:∀ n,n<6->(C n).length=5):zhJ C:=by
 refine ⟨hl,fun n i n' i' a b hn hn' ha hb hs=>?_⟩
 have hi:i<5:=by have:=(List.getElem?_eq_some_iff.1 ha).1;rw [hl n hn] at this;exact this
 have hi':i'<5:=by have:=(List.getElem?_eq_some_iff.1 hb).1;rw [hl n' hn'] at this;exact this
 have:=uW h.so ((h.mem ⟨a,n,i⟩).2 ⟨hn,hi,ha⟩) ((h.mem ⟨b,n',i'⟩).2 ⟨hn',hi',hb⟩) hs
 injection this with h1 h2 h3
 exact ⟨h2,h3⟩
theorem Kx {s:St} (h:qi s.sto) (hi:s.its=[]) (nbs:Nat->Nat) {C:Nat->List (Option Rw)} (hC:QU s.sto C) (hk:zhJ C):∀ k,k<=6->zJ (qe nbs k s).its/\∀ x,x∈(qe nbs k s).its↔x.pg<k/\x.sl<5/\(C x.pg)[x.sl]?=some (some x.rw)
 | 0,_=>by
  show zJ s.its/\∀ x,x∈s.its↔_
  rw [hi]
  exact ⟨.nil,fun x=>⟨fun h=>(by cases h),fun h=>absurd h.1 (Nat.not_lt_zero _)⟩⟩
 | k+1,hk6=>by
  obtain ⟨h1,h2⟩:=Kx h hi nbs hC hk k (by omega)
  have hp:=(YG h nbs k).page k
  have hsl:yE ((qe nbs k s).sto.page k)=ql (C k) 0:=by unfold yE;rw [hp,hC k (by omega)]
  obtain ⟨h3,h4⟩:=Kd k (ql (C k) 0) h1 (fun p hp y hy hs=>by
   obtain ⟨h5,h6,h7⟩:=(h2 y).1 hy
   have h8:=((yD _ _ p).1 hp).2
   have:=(hk.apart _ _ _ _ _ _ (by omega) (by omega) h7 h8 hs).1
   omega) ((JW (C k) 0).imp_of_mem fun {p q} hp hq hlt hs=>by
   have h8:=((yD _ _ p).1 hp).2
   have h9:=((yD _ _ q).1 hq).2
   have:=(hk.apart _ _ _ _ _ _ (by omega) (by omega) h8 h9 hs).2
   omega)
  show zJ (je k (yE ((qe nbs k s).sto.page k)) (qe nbs k s).its)/\∀ x,x∈je k (yE ((qe nbs k s).sto.page k)) (qe nbs k s).its↔_
  rw [hsl]
  refine ⟨h3,fun x=>?_⟩
  rw [h4 x,h2 x]
  constructor
  ·rintro (⟨h5,h6,h7⟩ | ⟨p,hp,rfl⟩)
   ·exact ⟨by omega,h6,h7⟩
   ·have h8:=((yD _ _ p).1 hp).2
    have h9:=(List.getElem?_eq_some_iff.1 h8).1
    rw [hk.len k (by omega)] at h9
    exact ⟨Nat.lt_succ_self k,by simp only;omega,h8⟩
  ·rintro ⟨h5,h6,h7⟩
   by_cases e:x.pg=k
   ·refine .inr ⟨(x.sl,x.rw),(yD _ _ _).2 ⟨Nat.zero_le _,by rw [<- e];exact h7⟩,?_⟩
    rw [<- e]
   ·exact .inl ⟨by omega,h6,h7⟩
theorem Gx {r:Nat} {rs:List zI} {Ts:Nat->Nat} {nbs:Nat->Nat->Nat} (h:∀ i,(lsr rs i).o=false) (s:St):∀ k,jX r rs Ts nbs k s=s
 | 0=>rfl
 | k+1=>by
  simp only [jX]
  rw [Gx h s k]
  unfold zfc
  rw [h k]
  rfl
structure zjj (s:St) (rs:List zI) (m:Nat) (C:Nat->List (Option Rw)):Prop where
 pool:qi s.sto
 dur:un s.sto rs m C
 calm:QU s.sto C
 its:vj s.its C
theorem zbv {M g K L:Nat} (h:M<g*1048576+K+1) (hK:K<=14336):M<(g+1)*1048576+L+1:=Nat.lt_of_lt_of_le h (by clear h;rw [Nat.add_mul];omega)
theorem zcS {r gen bank:Nat} {rs:List zI} {dp:Nat->Pg} {nb1 nb2 Ts:Nat->Nat} {nb3:Nat->Nat->Nat} {C:Nat->List (Option Rw)} (hfr:vF (qx gen 0 rs)=0) (hlo:∀ i,(lsr rs i).o=false) (hC:∀ n,n<6->(rp (qx gen 0 rs) n (dp n)).slots=C n) (hk:zhJ C)
  (hm:∀ n,n<6->(dp n).mark<qD gen 14336) (hl:(zp rs).length<=14336) :
  zjj (yq r gen bank rs dp nb1 nb2 Ts nb3).packed [qo] 1 C/\(yq r gen bank rs dp nb1 nb2 Ts nb3).packed.ts=Qw/\(yq r gen bank rs dp nb1 nb2 Ts nb3).packed.lk=[]/\(yq r gen bank rs dp nb1 nb2 Ts nb3).packed.sto.gen=gen+1:=by
 have h0:qi (uX gen bank rs dp).sto:=by
  refine ⟨rfl,Nat.zero_lt_succ _,fun i j n hi hj=>?_,fun i f b n p hf hp hs=>?_,Nat.le_refl _⟩
  ·obtain ⟨f,b,p,h1,h2⟩:=ZM hi
   have:f∈jt:=List.mem_of_getElem? h1
   simp [jt,zu.none] at this
   subst this
   cases h2
  ·have:f∈jt:=List.mem_of_getElem? hf
   simp [jt,zu.none] at this
   subst this
   cases hp
 have hp0:∀ n,(uX gen bank rs dp).sto.page n=dp n:=fun n=>yl fun i hi=>by
  obtain ⟨f,b,p,h1,h2⟩:=ZM hi
  have:f∈jt:=List.mem_of_getElem? h1
  simp [jt,zu.none] at this
  subst this
  cases h2
 have hlen:=YE gen rs 0
 obtain ⟨h1,h2⟩:=zbI h0 nb1 (qx gen 0 rs) rs.length (by omega)
 have hi:=YN nb1 (vF (qx gen 0 rs)) (qx gen 0 rs) (uX gen bank rs dp) rs.length
 rw [hfr] at hi
 unfold yq
 rw [Gx hlo,hfr]
 generalize jy nb1 0 (qx gen 0 rs) rs.length (uX gen bank rs dp)=s1 at h1 h2 hi
 rw [<- hlen,List.take_length] at h2
 have hc1:QU s1.sto C:=fun n hn=>by rw [h2 n,hp0];exact hC n hn
 have h3:=YG h1 nb2 6
 have h4:=Kx h1 hi.1 nb2 hc1 hk 6 (Nat.le_refl _)
 have h5:=JR nb2 s1 6
 generalize qe nb2 6 s1=s2 at h3 h4 h5
 have hts:s2.ts=Qw:=h5.2.2.1.trans hi.2.1
 have h6:=zby h3.ok s2.ts
 have hpr:qY s2.ts=[qo]:=by rw [hts];rfl
 rw [hpr] at h6
 have hg:s2.sto.gen=gen:=h5.2.1.trans hi.2.2.2.1
 have hpg:∀ n,(s2.sto.pack s2.ts).page n=rp (qx gen 0 rs) n (dp n):=fun n=>by rw [h6.page,h3.page,h2,hp0]
 have hcalm:QU (s2.sto.pack s2.ts) C:=fun n hn=>by rw [hpg];exact hC n hn
 have hgen:(s2.sto.pack s2.ts).gen=gen+1:=by rw [h6.gen,hg]
 refine ⟨⟨h6.ok,un.fresh (s:=s2.sto) (by simp [qo]) h6.log h6.sure (fun n hn=>(h6.dp n hn).trans (h6.page n).symm) (fun n hn=>?_) hcalm,hcalm,h4.1,h4.2⟩,hts,h5.2.2.2.trans hi.2.2.2.2,hgen⟩
 show ((s2.sto.pack s2.ts).page n).mark<qD (s2.sto.pack s2.ts).gen (s2.sto.pack s2.ts).log.length
 rw [hgen,hpg]
 have:=zdi (N:=qD gen 14336) (qx gen 0 rs) n (dp n) (hm n hn) (fun e he=>by
  have h9:=zep gen rs 0 e he
  rw [Nat.zero_add] at h9
  exact Nat.lt_of_lt_of_le h9 (by unfold qD;exact Nat.add_le_add_right (Nat.add_le_add_left hl _) 1))
 exact zbv (K:=14336) this (Nat.le_refl _)
end Go.Proofs.YtechnoogjhohfaaGreat
namespace Go.Proofs.YtechnoogjhohfaaGreat
open Go.RowKit Go.Lib
open YtechnoogjhohfaaGreatW
section
variable {bz:Nat->Prop}
section
variable {w w':World} {H D:Nat} {F F':Nat->Prop} {cur cur':Nat->Nat->List UInt8} {ts:Nat->Tn} {boots r:Nat} {l:Tl}
theorem zP.of_c {c:Nat->T5} (h:zO bz w H D F cur c ts boots 4) (hc:c=fun i=>(ts i).t5):zP bz w H D F cur ts boots:=by
 unfold zP;rw [<- hc];exact h
theorem zeF (ts:Nat->Tn) (F:Nat->Prop) (r:Nat) (t:Tn) (h:t.t5=(ts r).t5):(fun i=>(ts i).t5)=fun i=>(yo ts F r t i).t5:=by
 funext i
 by_cases e:i=r
 ·subst e;rw [qO,h]
 ·rw [yt _ _ _ e,Tn.reF_t5]
theorem zP.store (h:zP bz w H D F cur ts boots) (hr:r<4) (hl:(ts r).live=some l) {b':Vb} {s':St} (hs:zg w' l.a b' cur' s') (he:qa w w' (zS l.a l.b l.s) (zS l.a b' s') cur cur' r) :
  zP bz w' H D b'.F cur' (yo ts b'.F r { ts r with live:=some { l with b:=b',s:=s' } }) boots :=
 zP.of_c (zO.store h (Nat.le_refl _) hr hl hs he) (zeF _ _ _ _ (by unfold Tn.t5;rw [hl]))
theorem zP.desk (h:zP bz w H D F cur ts boots) (hr:r<4) (hl:(ts r).live=some l) {nx:Int} {hs:List (Int × Int)} (hd:Dk.DeskAt w' l.kb l.km l.ep nx hs) (ht:zn (fun i=>i=l.kb∨i=l.km) w w') :
  zP bz w' H D F cur (yo ts F r { ts r with live:=some { l with nx:=nx,hs:=hs } }) boots :=
 zP.of_c (zO.desk h (Nat.le_refl _) hr hl hd ht) (zeF _ _ _ _ (by unfold Tn.t5;rw [hl]))
theorem zP.below (h:zP bz w H D F cur ts boots) (hb:Below w.heap.size w w'):zP bz w' H D F cur ts boots:=zO.below h hb
theorem Dk.DeskAt.same {kb km:Nat} {ep nx:Int} {hs:List (Int × Int)} (h:Dk.DeskAt w kb km ep nx hs) (h1:w'.heap[kb]?=w.heap[kb]?) (h2:w'.heap[km]?=w.heap[km]?):Dk.DeskAt w' kb km ep nx hs:=⟨h1.trans h.blk,h.map.of_block h2⟩
theorem zP.bar (h:zP bz w H D F cur ts boots) (hb:qQ w w'):zP bz w' H D F cur ts boots:=by
 have hF:∀ x,F x->w'.heap[x]?=w.heap[x]?:=fun x hx=>hb.block x (h.disk.lt x hx) (fun e=>by
  have h1:=h.disk.tags hx
  simp only [List.mem_cons,List.not_mem_nil,or_false] at h1
  omega)
 refine ⟨(hb.block H (zd h.blk) (by rw [zc h.blk];decide)).trans h.blk,zv.same h.disk hF hb.size,h.line,h.bnd,h.cells,fun i l' hi hl=>?_,h.gone,h.apart,h.base.1,h.base.2.1,h.base.2.2.1,fun x hx=>Nat.lt_of_lt_of_le (h.base.2.2.2 x hx) hb.size⟩
 obtain ⟨h1,h2⟩:=h.live i l' hi hl
 have hs:∀ x,QF l' x->w'.heap[x]?=w.heap[x]?:=fun x hx=>hb.block x (h1.tags x hx).2 (fun e=>by
  have h3:=(h1.tags x hx).1
  simp only [List.mem_cons,List.not_mem_nil,or_false] at h3
  omega)
 refine ⟨⟨h1.sto.same (fun x hx=>?_) hb.size,h1.hD,h1.hr,h1.hF,h1.dk.same (hs _ (.inr (.inl rfl))) (hs _ (.inr (.inr rfl))),h1.km⟩,h2⟩
 rcases Qt h1 hx with hx | hx
 ·exact hs x hx
 ·exact hF x hx
end
theorem QB {W:World} {g:Nat} {er:Int} (hg:W.heap[g]?=some (.cells #[.int .i64 0,.int .i64 0,.string { data:=#[] },.slice none 0 0,.slice none 0 0] 31 (0,0))) :
  (W.setCell ⟨g,0,none⟩ (.int .i64 er)).heap[g]?=some (.cells (zG (qn er)).toArray 31 (0,0)):=by
 rw [heap_setCell_same _ _ 0 _ _ _ hg];rfl
theorem qQ.setCell {W:World} {g o:Nat} {C:Array Value} (h:W.heap[g]?=some (.cells C 31 (0,0))) (v:Value):qQ W (W.setCell ⟨g,o,none⟩ v) :=
 ⟨rfl,rfl,rfl,by simp,fun x _ ht=>heap_setCell_other _ _ _ _ (fun e=>ht (by subst e;exact zc h))⟩
theorem zj.setCell {A B:World} (h:zj bz A B) {g o:Nat} (hg:A.heap.size<=g) (v:Value):zj bz A (B.setCell ⟨g,o,none⟩ v) :=
 ⟨fun x t c ht hx=>(heap_setCell_other _ _ _ _ (fun e=>by have:=zd hx;simp only at e;omega)).trans (h.t x t c ht hx),h.os,h.tape,h.output,by have:=h.size;simp;omega,fun x h1 h2=>(heap_setCell_other _ _ _ _ (by simp only;omega)).trans (h.old x h1 h2)⟩
theorem zkR (s:St) (r:Nat) (nbs:Nat->Nat) (nb txn ops:Nat) (rw:Rw):(s.put r nbs nb txn ops rw).1≠10:=by
 unfold St.put
 split
 ·(intro h;cases h)
 ·split
  ·(intro h;cases h)
  ·split
   ·(intro h;cases h)
   ·split<;>(intro h;cases h)
theorem zP.drew {w:World} {H D:Nat} {F:Nat->Prop} {cur:Nat->Nat->List UInt8} {ts:Nat->Tn} {boots:Nat} (h:zP bz w H D F cur ts boots):zP bz w.drew H D F cur ts boots:=h.below (Below.refl _ _).drew
theorem Gh {W:World} {g:Nat} {C:List Value} {a b c d e f g' h i j:Value} (hg:W.heap[g]?=some (.cells C.toArray 37 (0,0))) (hC:C=[a,b,c,d,e,f,g',h,i,j]):W.rangeAt g 3 [d,e,f]:=by
 subst hC
 intro n v hn
 have hn3:n<3:=(List.getElem?_eq_some_iff.1 hn).1
 rw [cell_of_row W g _ _ _ _ hg,<- hn]
 obtain rfl | rfl | rfl:n=0∨n=1∨n=2:=by omega
 all_goals rfl
theorem zjd (H D r:Nat) (F:Nat->Prop) (cur:Nat->Nat->List UInt8) (ts:Nat->Tn) (boots:Nat) (l:Tl) (q:Rq) (rw:Rw) (txn T:Nat) (x:Tx) (w:World) (P:An->World->Prop) (h:zP bz w H D F cur ts boots) (hr:r<4) (hl:(ts r).live=some l)
  (hkd:q.kd=6) (hrt:q.rt=rw.t) (hrk:q.rk=za rw.k) (hrv:q.rv=za rw.v) (hok:rw.ok) (htt:q.tt.size<=15) (hP:∀ a W W',P a W->qQ W W'->P a W')
  (ht1:1<=txn) (ht3:txn<=3) (htx:l.s.ts[txn]?=some (some (T,x))) (hW:WF l.s.lk) (hso:zJ l.s.its) (hil:l.s.its.length<=900) (hpos:∀ y,y∈l.s.its->y.pg<6/\y.sl<5) (hgen:l.s.sto.gen+1<4294967296)
  (hend:∀ nbs nb b' cur' W,zP bz W H D b'.F cur' (yo ts b'.F r { ts r with live:=some { l with b:=b',s:=(l.s.put r nbs nb txn x.ops rw).2 } }) boots->(l.s.put r nbs nb txn x.ops rw).1≠10->P (qn (l.s.put r nbs nb txn x.ops rw).1) W) :
  Calls Tryz.prog 75 #[.pointer (some ⟨H,0,none⟩),.pointer (some ⟨H,1+r*5,none⟩),.agg (zL q).toArray,.int .i64 txn] w fun e W'=>∃ a,e=.returned (.agg (zG a).toArray)/\a.er≠10/\zj bz w W'/\P a W':=by
 obtain ⟨w1,hw1⟩:∃ w1,w1=uO w q:=⟨_,rfl⟩
 have hB1:Below w.heap.size w w1:=by rw [hw1];exact jE w q
 have hX6:w1.heap[w.heap.size]?=some (.cells (zL q).toArray 37 (0,0)):=by rw [hw1];exact vP w q
 have hX8:w1.heap[w.heap.size+1]?=some (.cells #[.int .i64 0,.int .i64 0,.string { data:=#[] },.slice none 0 0,.slice none 0 0] 31 (0,0)):=by rw [hw1];exact vO w q
 have hw1u:(w.alloc (.cells (zL q).toArray 37)).alloc (.cells #[.int .i64 0,.int .i64 0,.string { data:=#[] },.slice none 0 0,.slice none 0 0] 31)=w1:=hw1.symm
 have hrow:w1.rangeAt w.heap.size 3 [.int .i64 rw.t,.string (za rw.k),.string (za rw.v)]:=by
  intro j v hj
  have hj3:j<3:=(List.getElem?_eq_some_iff.1 hj).1
  rw [cell_of_row w1 w.heap.size _ _ _ _ hX6,<- hj]
  unfold zL
  rw [hrt,hrk,hrv]
  obtain rfl | rfl | rfl:j=0∨j=1∨j=2:=by omega
  all_goals rfl
 have HRT:=hid (Yq hok w1)
 obtain ⟨HB1,HX6,HX8,HROW,HW1,HP,HEND,H0⟩:=zi8 hB1 hX6 hX8 hrow hw1u hP hend h
 clear hw1 hB1 hX6 hX8 hrow hw1u hP hend h
 have k6:=(cell_of_row w1 w.heap.size 6 _ _ _ HX6.out).trans (show _=some (Value.string q.tt) from rfl)
 have dtt:decide ((15:Int)<(q.tt.size:Int))=false:=by simp;omega
 unfold ui at HRT
 go_enter Tryz.func75,Tryz.ntmps75
 go_upto_region 1 with fail
 rw [HW1.out]
 go_upto_region 4 with (first
  | (show wpList _ _ _ (⟨some 11,_,_,_,_,_⟩::_) _ _;refine zZ rfl _ _ (qy 34 (.tmp 10) rfl w.heap.size 3 (by rfl) [.int .i64 rw.t,.string (za rw.k),.string (za rw.v)] _ HROW.out Tryz.underlying34 rfl (by kernel_rfl)) ?_)
  | (go_at_call 56;(with_reducible refine HRT.out.mono ?_);rintro e2 w2 ⟨rfl,hb2⟩;have k6':=qk k6 hb2 (uj k6)))
 obtain ⟨w3,hw3⟩:∃ w3,w3=w2.alloc (.cells #[.int .i64 0,.int .i64 0,.string { data:=#[] },.slice none 0 0,.slice none 0 0] 31):=⟨_,rfl⟩
 rw [<- hw3]
 have hb13:Below w1.heap.size w1 w3:=by rw [hw3];exact B_alloc hb2 _
 have hX9:w3.heap[w2.heap.size]?=some (.cells #[.int .i64 0,.int .i64 0,.string { data:=#[] },.slice none 0 0,.slice none 0 0] 31 (0,0)):=by rw [hw3];exact zk _ _ rfl
 have hX63:=zb HX6.out hb13 (zd HX6.out)
 have hX83:=zb HX8.out hb13 (zd HX8.out)
 have hb3:Below w.heap.size w w3:=B_call HB1.out hb13
 have hh3:=H0.out.below hb3
 have hlt9:w.heap.size+2<=w2.heap.size:=by
  have h1:=hb2.size
  have h2:w1.heap.size=w.heap.size+2:=by rw [<- HW1.out];simp
  omega
 obtain ⟨c0,c1,_,_,_⟩:=zO.tcell hh3 (Nat.le_refl _) hr hl
 have kk:=(cell_of_row w3 w.heap.size 0 _ _ _ hX63).trans (show _=some (Value.int .i64 q.kd) from rfl)
 rw [hkd] at kk
 have hrow3:w3.rangeAt w.heap.size 3 [.int .i64 rw.t,.string (za rw.k),.string (za rw.v)]:=uh HROW.out hb13 (zd HX6.out)
 obtain ⟨hT,hst⟩:=hh3.live r l hr hl
 have hps:=zkS l.a l.b cur l.s txn T x rw w3.drew hT.sto.drew ht1 ht3 htx hok hW hso hil hpos hgen
 rw [hT.hr] at hps
 obtain ⟨HPS,HH3,HT,HB3,HX9,HX83⟩:=zi6 hps hh3 hT hb3 hX9 hX83
 have hS:w3.drew.cell? ⟨H,1+r*5,none⟩=some (.pointer (some ⟨l.a.S,0,none⟩))/\w3.drew.heap[w.heap.size]?=some (.cells (zL q).toArray 37 (0,0)):=⟨c0,hX63⟩
 have hHn:¬ zS l.a l.b l.s H:=fun hx=>zO.notH hh3 hr hl (Qt hT hx) rfl
 have hHl:=zd hh3.blk
 obtain ⟨HHN,HHL⟩:=zi2 hHn hHl
 clear hw3 hb13 hb2 hX9 hX63 hX83 hb3 hh3 c1 hT hst hps hrow3 k6 k6' HRT hHn hHl
 go_upto_region 8 with fail
 have hreq:(zL q)=[.int .i64 q.kd,.int .i64 q.tn,.int .i64 q.hd,.int .i64 rw.t,.string (za rw.k),.string (za rw.v),.string q.tt,.int .i64 q.n,.int .u64 q.mask,.slice q.dA q.dn q.dc]:=by unfold zL;rw [hrt,hrk,hrv]
 have HREQ:=hid hreq
 clear hreq
 refine wp_region_noPanic ?_
 refine PrintLast.start_ (n:=10) (S:=(fun w'=>w'.cell? ⟨H,1+r*5,none⟩=some (.pointer (some ⟨l.a.S,0,none⟩))/\w'.heap[w.heap.size]?=some (.cells (zL q).toArray 37 (0,0)))) (ds:=[9]) (bA 10 0) (by kernel_rfl) rfl (by kernel_rfl) hS (fun hHeld=>?_)
 refine pu 0 45 10 1 rfl rfl ?_
 refine pu 1 46 10 3 rfl rfl ?_
 refine pu 2 47 10 7 rfl rfl ?_
 refine tk 3 48 10 15 rfl rfl (Or.inl ⟨by rfl,fun _ h=>(by have k0:=h.1;go_simp;with_reducible rfl)⟩) ?_
 refine pu 4 49 10 31 rfl rfl ?_
 refine pu 5 50 10 63 rfl rfl ?_
 refine tk 6 51 10 127 rfl rfl (Or.inl ⟨by rfl,fun w' h=>(qy 34 (.tmp 50) rfl w.heap.size 3 (by rfl) [.int .i64 rw.t,.string (za rw.k),.string (za rw.v)] _ (Gh h.2 HREQ.out) Tryz.underlying34 rfl (by kernel_rfl))⟩) ?_
 refine on 7 10 255 (some 52) rfl rfl (fun K hK=>?_)
 show Oper.wp _ ⟨some 52,_,_,_,_,_⟩ _ _ _ _
 refine zq 48 _ _ [.pointer (some ⟨l.a.S,0,none⟩),.int .i64 txn,.agg #[.int .i64 rw.t,.string (za rw.k),.string (za rw.v)]] rfl (by kernel_rfl) (by rfl) (HPS.out.mono ?_)
 rintro e4 w4 ⟨nbs,nb,b4,cur4,rfl,hA4,hE4⟩
 refine ⟨_,rfl,?_⟩
 refine hK.out _ _ ⟨(World.cell?_of_block (hE4.keep.block H HHL.out HHN.out)).trans hHeld.1,Qa.store HT.out.sto.drew hE4 _ _ _ (by decide) hHeld.2⟩ (fun hHeld=>?_)
 clear hK K
 try simp only [pS]
 refine pu 8 53 10 511 rfl rfl ?_
 refine la 9 10 1023 none rfl rfl (fun K hK=>?_)
 show Oper.wp _ ⟨none,_,_,_,_,_⟩ _ _ _ _
 have hx9:=Qa.store HT.out.sto.drew hE4 _ _ _ (by decide) (show w3.drew.heap[_]?=_ from HX9.out)
 refine jp 28 (.tmp 53) (.tmp 52) rfl w2.heap.size 0 _ 31 (.int .i64 (l.s.put r nbs nb txn x.ops rw).1) (by rfl) (by rfl) (by kernel_rfl) hx9 (by simp) rfl ?_
 refine hK.out _ _ ?_
 clear hK K
 try simp only [pS]
 refine PrintLast.done_ (by kernel_rfl) ?_
 refine NoPanic.normal ?_
 have hkl:=zj.store (zO.stb HH3.out hr hl) HT.out.sto.drew hE4
 have hx9:=hkl _ _ _ (by decide) (show w3.drew.heap[_]?=_ from HX9.out)
 have hx8:=hkl _ _ _ (by decide) (show w3.drew.heap[_]?=_ from HX83.out)
 obtain ⟨er,her⟩:∃ er:Nat,er=(l.s.put r nbs nb txn x.ops rw).1:=⟨_,rfl⟩
 have hne:er≠10:=by rw [her];exact zkR _ _ _ _ _ _ _
 have hh4:=HH3.out.drew.store hr hl hA4 hE4
 have hp4:=HEND.out nbs nb b4 cur4 w4 hh4 (by rw [<- her];exact hne)
 rw [<- her] at hp4 ⊢
 obtain ⟨w5,hw5⟩:∃ w5,w5=w4.setCell ⟨w2.heap.size,0,none⟩ (.int .i64 er):=⟨_,rfl⟩
 rw [<- hw5]
 have hx95:w5.heap[w2.heap.size]?=some (.cells (zG (qn er)).toArray 31 (0,0)):=by rw [hw5];exact QB hx9
 have hx85:w5.heap[w.heap.size+1]?=some (.cells #[.int .i64 0,.int .i64 0,.string { data:=#[] },.slice none 0 0,.slice none 0 0] 31 (0,0)):=by rw [hw5];exact (heap_setCell_other _ _ _ _ (by simp only;omega)).trans hx8
 have hp5:P (qn er) w5:=by rw [hw5];exact HP.out _ _ _ hp4 (qQ.setCell hx9 _)
 have hk5:zj bz w w5:=by rw [hw5];exact ((zj.below HB3.out.drew).trans hkl).setCell (by omega) _
 obtain ⟨HX95,HX85,HP5,HK5⟩:=zi4 hx95 hx85 hp5 hk5
 clear hw5 hx95 hx85 hp5 hk5 hp4 hh4 hA4 hE4 hkl hx9 hx8 hS hHeld kk c0 her
 go_wp2_with (first
  | (show wpList _ _ _ (⟨some 155,_,_,_,_,_⟩::_) _ _;refine wpList_load_row rfl 31 (.tmp 9) rfl w2.heap.size (by rfl) 31 _ (0,0) _ HX95.out Tryz.underlying31 rfl (by kernel_rfl) ?_)
  | (show wpList _ _ _ (⟨none,.store 31 (.tmp 8) _,_,_,_,_⟩::_) _ _;refine zB rfl 31 (.tmp 8) (.tmp 155) rfl (w.heap.size+1) 0 31 _ (zG (qn er)).toArray (by rfl) (by rfl) HX85.out (by simp [zG]) (by kernel_rfl) (by simp [zG,Value.oneCell']) ?_))
 refine ju (an:=qn er) 8 rfl rfl rfl HX85.out rfl ⟨qn er,rfl,by simp only [qn];omega,HK5.out.setRow (by omega) _,?_⟩
 exact HP.out _ _ _ HP5.out (qQ.setRow HX85.out _)
end
section
variable {bz:Nat->Prop}
theorem KT (ts:Nat->Tn) (F F':Nat->Prop) (r:Nat) (t t':Tn):yo (yo ts F r t) F' r t'=yo ts F' r t':=by
 funext i
 by_cases e:i=r
 ·subst e;rw [qO,qO]
 ·rw [yt _ _ _ e,yt _ _ _ e,yt _ _ _ e]
  unfold Tn.reF
  cases (ts i).live<;>rfl
theorem zhD (H D r:Nat) (F:Nat->Prop) (cur:Nat->Nat->List UInt8) (ts:Nat->Tn) (boots:Nat) (l:Tl) (q:Rq) (rw:Rw) (txn T:Nat) (x:Tx) (w:World) (P:An->World->Prop) (h:zP bz w H D F cur ts boots) (hr:r<4) (hl:(ts r).live=some l)
  (hkd:q.kd=11) (hrt:q.rt=rw.t) (hrk:q.rk=za rw.k) (hrv:q.rv=za rw.v) (hok:rw.ok) (htt:q.tt.size<=15) (hP:∀ a W W',P a W->qQ W W'->P a W')
  (ht1:1<=txn) (ht3:txn<=3) (htx:l.s.ts[txn]?=some (some (T,x))) (hfit:l.s.sto.log.length+395<=14336)
  (hhd:iok q.hd) (hhas:qb l.hs q.hd=true) (hend:∀ b' cur' W,zP bz W H D b'.F cur' (yo ts b'.F r { ts r with live:=some { l with b:=b',s:=l.s.commit txn x,hs:=aput l.hs q.hd 0 } }) boots->P (qn 0) W) :
  Calls Tryz.prog 75 #[.pointer (some ⟨H,0,none⟩),.pointer (some ⟨H,1+r*5,none⟩),.agg (zL q).toArray,.int .i64 txn] w fun e W'=>∃ a,e=.returned (.agg (zG a).toArray)/\a.er≠10/\zj bz w W'/\P a W':=by
 obtain ⟨w1,hw1⟩:∃ w1,w1=uO w q:=⟨_,rfl⟩
 have hB1:Below w.heap.size w w1:=by rw [hw1];exact jE w q
 have hX6:w1.heap[w.heap.size]?=some (.cells (zL q).toArray 37 (0,0)):=by rw [hw1];exact vP w q
 have hX8:w1.heap[w.heap.size+1]?=some (.cells #[.int .i64 0,.int .i64 0,.string { data:=#[] },.slice none 0 0,.slice none 0 0] 31 (0,0)):=by rw [hw1];exact vO w q
 have hw1u:(w.alloc (.cells (zL q).toArray 37)).alloc (.cells #[.int .i64 0,.int .i64 0,.string { data:=#[] },.slice none 0 0,.slice none 0 0] 31)=w1:=hw1.symm
 have hreq:(zL q)=[.int .i64 q.kd,.int .i64 q.tn,.int .i64 q.hd,.int .i64 rw.t,.string (za rw.k),.string (za rw.v),.string q.tt,.int .i64 q.n,.int .u64 q.mask,.slice q.dA q.dn q.dc]:=by unfold zL;rw [hrt,hrk,hrv]
 have HREQ:=hid hreq
 have HRT:=hid (Yq hok w1)
 obtain ⟨HB1,HX6,HX8⟩:=zi3 hB1 hX6 hX8
 have HROW:=hid (Gh hX6 hreq)
 obtain ⟨HW1,HP,HEND,H0⟩:=zi4 hw1u hP hend h
 clear hw1 hB1 hX6 hX8 hw1u hP hend h hreq
 have k6:=(cell_of_row w1 w.heap.size 6 _ _ _ HX6.out).trans (show _=some (Value.string q.tt) from rfl)
 have dtt:decide ((15:Int)<(q.tt.size:Int))=false:=by simp;omega
 unfold ui at HRT
 go_enter Tryz.func75,Tryz.ntmps75
 go_upto_region 1 with fail
 rw [HW1.out]
 go_upto_region 4 with (first
  | (show wpList _ _ _ (⟨some 11,_,_,_,_,_⟩::_) _ _;refine zZ rfl _ _ (qy 34 (.tmp 10) rfl w.heap.size 3 (by rfl) [.int .i64 rw.t,.string (za rw.k),.string (za rw.v)] _ HROW.out Tryz.underlying34 rfl (by kernel_rfl)) ?_)
  | (go_at_call 56;(with_reducible refine HRT.out.mono ?_);rintro e2 w2 ⟨rfl,hb2⟩;have k6':=qk k6 hb2 (uj k6)))
 obtain ⟨w3,hw3⟩:∃ w3,w3=w2.alloc (.cells #[.int .i64 0,.int .i64 0,.string { data:=#[] },.slice none 0 0,.slice none 0 0] 31):=⟨_,rfl⟩
 rw [<- hw3]
 have hb13:Below w1.heap.size w1 w3:=by rw [hw3];exact B_alloc hb2 _
 have hX9:w3.heap[w2.heap.size]?=some (.cells #[.int .i64 0,.int .i64 0,.string { data:=#[] },.slice none 0 0,.slice none 0 0] 31 (0,0)):=by rw [hw3];exact zk _ _ rfl
 have hX63:=zb HX6.out hb13 (zd HX6.out)
 have hX83:=zb HX8.out hb13 (zd HX8.out)
 have hb3:Below w.heap.size w w3:=B_call HB1.out hb13
 have hh3:=H0.out.below hb3
 have hlt9:w.heap.size+2<=w2.heap.size:=by
  have h1:=hb2.size
  have h2:w1.heap.size=w.heap.size+2:=by rw [<- HW1.out];simp
  omega
 obtain ⟨c0,c1,_,_,_⟩:=zO.tcell hh3 (Nat.le_refl _) hr hl
 have kk:=(cell_of_row w3 w.heap.size 0 _ _ _ hX63).trans (show _=some (Value.int .i64 q.kd) from rfl)
 rw [hkd] at kk
 obtain ⟨hT,hst⟩:=hh3.live r l hr hl
 have hTr:=hT.hr
 have hHn:¬ zS l.a l.b l.s H:=fun hx=>zO.notH hh3 hr hl (Qt hT hx) rfl
 have hHl:=zd hh3.blk
 obtain ⟨HHN,HHL,HH3,HT,HB3,HX9,HX63,HX83,HTR⟩:=zi9 hHn hHl hh3 hT hb3 hX9 hX63 hX83 hTr
 clear hw3 hb13 hb2 hX9 hX63 hX83 hb3 hh3 hT hst k6 k6' HRT hHn hHl hTr
 have HCM:=hid (zeO l.a l.b cur l.s txn T x w3 HT.out.sto ht1 ht3 htx hfit)
 go_upto_region 22 with (go_at_call 49;(with_reducible refine HCM.out.mono ?_);rintro e4 w4 ⟨rfl,b4,cur4,hA4,hE4⟩;have hkl:=zj.store (zO.stb HH3.out hr hl) HT.out.sto hE4;have hx9:=hkl _ _ _ (by decide) HX9.out;have f9:=frozen_of_row w4 w2.heap.size 0 _ _ hx9;have k9:=cell_of_row w4 w2.heap.size 0 _ _ _ hx9)
 have hx8:=hkl _ _ _ (by decide) HX83.out
 have hx6:=hkl _ _ _ (by decide) HX63.out
 have hh4:=HH3.out.store hr hl hA4 (by rw [HTR.out] at hE4;exact hE4)
 obtain ⟨w5,hw5⟩:∃ w5,w5=w4.setCell ⟨w2.heap.size,0,none⟩ (.int .i64 0):=⟨_,rfl⟩
 rw [<- hw5]
 have hx95:w5.heap[w2.heap.size]?=some (.cells (zG (qn 0)).toArray 31 (0,0)):=by rw [hw5];exact QB hx9
 have hx85:w5.heap[w.heap.size+1]?=some (.cells #[.int .i64 0,.int .i64 0,.string { data:=#[] },.slice none 0 0,.slice none 0 0] 31 (0,0)):=by rw [hw5];exact (heap_setCell_other _ _ _ _ (by simp only;omega)).trans hx8
 have hx65:w5.heap[w.heap.size]?=some (.cells (zL q).toArray 37 (0,0)):=by rw [hw5];exact (heap_setCell_other _ _ _ _ (by simp only;omega)).trans hx6
 have hh5:=hh4.bar (qQ.setCell (o:=0) hx9 (.int .i64 0))
 rw [<- hw5] at hh5
 have hk5:zj bz w w5:=by rw [hw5];exact ((zj.below HB3.out).trans hkl).setCell (by omega) _
 have hl5:(yo ts b4.F r { ts r with live:=some { l with b:=b4,s:=l.s.commit txn x } } r).live=some { l with b:=b4,s:=l.s.commit txn x }:=by rw [qO]
 obtain ⟨_,d1,_,_,_⟩:=zO.tcell hh5.drew (Nat.le_refl _) hr hl5
 have hdk:=(hh5.drew.live r _ hr hl5).1.dk
 have hset:=Dk.set_hit l.kb l.km l.ep l.nx l.hs q.hd 0 hhd w5.drew hdk hhas
 have hS:w5.drew.cell? ⟨H,1+r*5+1,none⟩=some (.pointer (some ⟨l.kb,0,none⟩))/\w5.drew.heap[w.heap.size]?=some (.cells (zL q).toArray 37 (0,0)):=⟨d1,hx65⟩
 obtain ⟨HSET,HH5,HX95,HX85,HK5,HDK,HL5⟩:=zi7 hset hh5 hx95 hx85 hk5 hdk hl5
 clear hw5 hx95 hx85 hx65 hk5 hh4 hh5 hA4 hE4 hkl hx9 hx8 hx6 c0 c1 f9 k9 d1 hset hdk hl5
 refine wp_region_noPanic ?_
 refine PrintLast.start_ (n:=7) (S:=(fun w'=>w'.cell? ⟨H,1+r*5+1,none⟩=some (.pointer (some ⟨l.kb,0,none⟩))/\w'.heap[w.heap.size]?=some (.cells (zL q).toArray 37 (0,0)))) (ds:=[6]) (bA 7 0) (by kernel_rfl) rfl (by kernel_rfl) hS (fun hHeld=>?_)
 refine pu 0 129 7 1 rfl rfl ?_
 refine pu 1 130 7 3 rfl rfl ?_
 refine pu 2 131 7 7 rfl rfl ?_
 refine tk 3 132 7 15 rfl rfl (Or.inl ⟨by rfl,fun _ h=>(by have k0:=h.1;go_simp;with_reducible rfl)⟩) ?_
 refine pu 4 133 7 31 rfl rfl ?_
 refine tk 5 134 7 63 rfl rfl (Or.inl ⟨by rfl,fun _ h=>(by have k0:=(cell_of_row _ w.heap.size 2 _ _ _ h.2).trans (show _=some (Value.int .i64 q.hd) from rfl);go_simp;with_reducible rfl)⟩) ?_
 refine la 6 7 127 (some 135) rfl rfl (fun K hK=>?_)
 show Oper.wp _ ⟨some 135,_,_,_,_,_⟩ _ _ _ _
 refine zq 74 _ _ [.pointer (some ⟨l.kb,0,none⟩),.int .i64 q.hd,.int .i64 0] rfl (by kernel_rfl) (by rfl) (HSET.out.mono ?_)
 rintro e6 w6 ⟨rfl,hdk6,ht6⟩
 refine ⟨_,rfl,?_⟩
 refine hK.out _ _ ?_
 clear hK K
 try simp only [pS]
 refine PrintLast.done_ (by kernel_rfl) ?_
 refine NoPanic.normal ?_
 have ht6':zn (fun i=>i=l.kb∨i=l.km) w5.drew w6:=ht6.mono (fun i _ e=>.inr e)
 have hkl6:=zj.desk (zO.deskb HH3.out hr hl) HDK.out ht6'
 have hh6:=HH5.out.drew.desk hr HL5.out hdk6 ht6'
 have hx96:=hkl6 _ _ _ (by decide) (show w5.drew.heap[_]?=_ from HX95.out)
 have hx86:=hkl6 _ _ _ (by decide) (show w5.drew.heap[_]?=_ from HX85.out)
 rw [KT,qO] at hh6
 have hp6:=HEND.out b4 cur4 w6 hh6
 obtain ⟨HX95,HX85,HP5⟩:=zi3 hx96 hx86 hp6
 have HK5:=hid (HK5.out.trans (zj.of_drew hkl6))
 clear hx96 hx86 hp6 hh6 hkl6 ht6 ht6' hdk6 hS hHeld
 go_wp2_with (first
  | (show wpList _ _ _ (⟨some 155,_,_,_,_,_⟩::_) _ _;refine wpList_load_row rfl 31 (.tmp 9) rfl w2.heap.size (by rfl) 31 _ (0,0) _ HX95.out Tryz.underlying31 rfl (by kernel_rfl) ?_)
  | (show wpList _ _ _ (⟨none,.store 31 (.tmp 8) _,_,_,_,_⟩::_) _ _;refine zB rfl 31 (.tmp 8) (.tmp 155) rfl (w.heap.size+1) 0 31 _ (zG (qn 0)).toArray (by rfl) (by rfl) HX85.out (by simp [zG]) (by kernel_rfl) (by simp [zG,Value.oneCell']) ?_))
 refine ju (an:=(qn 0)) 8 rfl rfl rfl HX85.out rfl ⟨(qn 0),rfl,by decide,HK5.out.setRow (by omega) _,?_⟩
 exact HP.out _ _ _ HP5.out (qQ.setRow HX85.out _)
end
section
variable {bz:Nat->Prop}
theorem Kb {ts:qL}:∀ {k i n:Nat},jC ts k i=some n->i<=n/\n<=3/\ts[n]?=some none
 | 0,_,_,h=>by simp [jC] at h
 | k+1,i,n,h=>by
  unfold jC at h
  split at h
  ·split at h
   ·rename_i h1 _ h2;injection h with h;subst h;exact ⟨Nat.le_refl _,h1,h2⟩
   ·have:=Kb h;exact ⟨by omega,this.2⟩
  ·cases h
def Zo:Tx:=⟨[],[],0⟩
def St.begin (s:St) (T:Nat):Nat × St:=match Yf s.ts with
 | none=>(0,s)
 | some i=>(i,{ s with ts:=s.ts.set i (some (T,Zo)) })
theorem zhO {w:World} {a:Va} {b:Vb} {cur:Nat->Nat->List UInt8} {s:St} (h:zg w a b cur s) :
  Calls Tryz.prog 73 #[.pointer (some ⟨a.S,1,none⟩)] w fun e w'=>∃ T b',e=.returned (.int .i64 (s.begin T).1)/\zg w' a b' cur (s.begin T).2/\qa w w' (zS a b s) (zS a b' (s.begin T).2) cur cur a.r:=by
 refine (zfY a.S s.ts w h.tab.row h.tab.len).mono ?_
 intro e w' hm
 cases hf:Yf s.ts with
 | none =>
  rw [hf] at hm
  obtain ⟨rfl,rfl⟩:=hm
  have e0:s.begin 0=(0,s):=by unfold St.begin;rw [hf]
  exact ⟨0,b,by rw [e0];rfl,by rw [e0];exact h,by rw [e0];exact qa.refl _ _ _ _⟩
 | some i =>
  rw [hf] at hm
  obtain ⟨rfl,rfl⟩:=hm
  obtain ⟨h1,h3,_⟩:=Kb hf
  have e0:s.begin w.heap.size=(i,{ s with ts:=s.ts.set i (some (w.heap.size,Zo)) }):=by unfold St.begin;rw [hf]
  have hb:Below w.heap.size w (w.alloc (.cells #[.slice none 0 0,.slice none 0 0,.int .i64 0] 208)):=B_alloc (Below.refl _ _) _
  obtain ⟨hA,hE⟩:=h.tabStep (o:=some (w.heap.size,Zo)) (G':=fun x=>x=w.heap.size) hb h1 h3 (fun x hx=>by omega) (fun c y e=>by
   injection e with e
   cases e
   refine ⟨⟨⟨.slice none 0 0,.slice none 0 0,zk _ _ rfl,World.ownsRow_nil _ _ _ _,World.ownsRow_nil _ _ _ _,fun k hk=>(by cases hk),fun k hk=>(by cases hk)⟩,rfl,fun k hk=>by subst hk;simp,fun k hk=>by subst hk;rw [zc (zk _ _ rfl)];decide⟩,⟨by simp [Zo],by simp [Zo],by simp [Zo],fun c hc=>by simp [Zo] at hc⟩⟩) (fun e=>by cases e)
  exact ⟨w.heap.size,_,by rw [e0],by rw [e0];exact hA,by rw [e0];exact hE⟩
theorem zfD (H D r:Nat) (F:Nat->Prop) (cur:Nat->Nat->List UInt8) (ts:Nat->Tn) (boots:Nat) (l:Tl) (q:Rq) (w:World) (P:An->World->Prop) (h:zP bz w H D F cur ts boots) (hr:r<4) (hl:(ts r).live=some l)
  (hkd:q.kd=4) (hhd:iok q.hd) (hhas:qb l.hs q.hd=true) (hpos:0<=(zF l.hs q.hd).getD 0) (hP:∀ a W W',P a W->qQ W W'->P a W')
  (hbusy:0<(zF l.hs q.hd).getD 0->∀ W,Below w.heap.size w W->P (qn 4) W)
  (hfull:∀ T,(zF l.hs q.hd).getD 0=0->(l.s.begin T).1=0->∀ b' W,zP bz W H D b'.F cur (yo ts b'.F r { ts r with live:=some { l with b:=b',s:=(l.s.begin T).2 } }) boots->P (qn 8) W)
  (hdone:∀ T,(zF l.hs q.hd).getD 0=0->(l.s.begin T).1≠0->∀ b' W,zP bz W H D b'.F cur (yo ts b'.F r { ts r with live:=some { l with b:=b',s:=(l.s.begin T).2,hs:=aput l.hs q.hd (l.s.begin T).1 } }) boots->P (qn 0) W) :
  Calls Tryz.prog 39 #[.pointer (some ⟨H,0,none⟩),.pointer (some ⟨H,1+r*5,none⟩),.agg (zL q).toArray] w fun e W'=>∃ a,e=.returned (.agg (zG a).toArray)/\a.er≠10/\zj bz w W'/\P a W':=by
 obtain ⟨w1,hw1⟩:∃ w1,w1=uO w q:=⟨_,rfl⟩
 have hB1:Below w.heap.size w w1:=by rw [hw1];exact jE w q
 have hX5:w1.heap[w.heap.size]?=some (.cells (zL q).toArray 37 (0,0)):=by rw [hw1];exact vP w q
 have hX6:w1.heap[w.heap.size+1]?=some (.cells #[.int .i64 0,.int .i64 0,.string { data:=#[] },.slice none 0 0,.slice none 0 0] 31 (0,0)):=by rw [hw1];exact vO w q
 have k0:=(cell_of_row w1 w.heap.size 0 _ _ _ hX5).trans (show _=some (Value.int .i64 q.kd) from rfl)
 rw [hkd] at k0
 have hh1:=h.below hB1
 obtain ⟨c0,c1,_,_,_⟩:=zO.tcell hh1 (by omega) hr hl
 obtain ⟨hT,hst⟩:=hh1.live r l hr hl
 have hdk:=hT.dk
 have hTr:=hT.hr
 have htxn:=Dk.txn_any l.kb l.km l.ep l.nx l.hs q.hd hhd w1.drew (hdk.below (Below.refl _ _).drew (DeskAt.tags hdk).2.2.1 (DeskAt.tags hdk).2.2.2)
 have hw1u:(w.alloc (.cells (zL q).toArray 37)).alloc (.cells #[.int .i64 0,.int .i64 0,.string { data:=#[] },.slice none 0 0,.slice none 0 0] 31)=w1:=hw1.symm
 obtain ⟨txn,hhs⟩:∃ b,b=(zF l.hs q.hd).getD 0:=⟨_,rfl⟩
 rw [<- hhs] at htxn hpos hbusy hfull hdone
 have hS:w1.drew.cell? ⟨H,1+r*5+1,none⟩=some (.pointer (some ⟨l.kb,0,none⟩))/\w1.drew.heap[w.heap.size]?=some (.cells (zL q).toArray 37 (0,0)):=⟨c1,hX5⟩
 have hbg:=zhO hT.sto.drew
 obtain ⟨HTX,HB1,HX5,HX6,HP,HBU,HFU,HDO,HW1⟩:=zi9 htxn hB1 hX5 hX6 hP hbusy hfull hdone hw1u
 obtain ⟨HH1,HT,HBG,HTR⟩:=zi4 hh1 hT hbg hTr
 clear hw1 hw1u hB1 hX5 hX6 hP hbusy hfull hdone htxn hh1 hdk hhs h hT hst hbg hTr
 go_enter Tryz.func39,Tryz.ntmps39
 go_upto_region 1 with fail
 rw [HW1.out]
 refine wp_region_noPanic ?_
 refine PrintLast.start_ (n:=8) (S:=(fun w'=>w'.cell? ⟨H,1+r*5+1,none⟩=some (.pointer (some ⟨l.kb,0,none⟩))/\w'.heap[w.heap.size]?=some (.cells (zL q).toArray 37 (0,0)))) (ds:=[6]) (bA 8 0) (by kernel_rfl) rfl (by kernel_rfl) hS (fun hHeld=>?_)
 refine pu 0 9 8 1 rfl rfl ?_
 refine pu 1 10 8 3 rfl rfl ?_
 refine pu 2 11 8 7 rfl rfl ?_
 refine tk 3 12 8 15 rfl rfl (Or.inl ⟨by rfl,fun _ h=>(by have k0:=h.1;go_simp;with_reducible rfl)⟩) ?_
 refine pu 4 13 8 31 rfl rfl ?_
 refine tk 5 14 8 63 rfl rfl (Or.inl ⟨by rfl,fun _ h=>(by have k0:=(cell_of_row _ w.heap.size 2 _ _ _ h.2).trans (show _=some (Value.int .i64 q.hd) from rfl);go_simp;with_reducible rfl)⟩) ?_
 refine la 6 8 127 (some 15) rfl rfl (fun K hK=>?_)
 show Oper.wp _ ⟨some 15,_,_,_,_,_⟩ _ _ _ _
 refine zq 71 _ _ [.pointer (some ⟨l.kb,0,none⟩),.int .i64 q.hd] rfl (by kernel_rfl) (by rfl) (HTX.out.mono ?_)
 rintro e2 w2 ⟨rfl,hw2⟩
 subst hw2
 refine ⟨_,rfl,?_⟩
 refine hK.out _ _ ?_
 clear hK K
 try simp only [pS]
 refine pu 7 7 8 255 rfl rfl ?_
 refine PrintLast.done_ (by kernel_rfl) ?_
 refine NoPanic.normal ?_
 have c0':w1.drew.cell? ⟨H,1+r*5,none⟩=some (.pointer (some ⟨l.a.S,0,none⟩)):=c0
 have k0':w1.drew.cell? ⟨w.heap.size,0,none⟩=some (.int .i64 4):=k0
 clear hHeld hS c1 c0 k0
 by_cases ht0:txn=0
 ·subst ht0
  go_upto_region 11 with (go_at_call 73;(with_reducible refine HBG.out.mono ?_);rintro e3 w3 ⟨T,b3,rfl,hA3,hE3⟩)
  have hkl:=zj.store (zO.stb HH1.out hr hl) HT.out.sto.drew hE3
  have hx5:=hkl _ _ _ (by decide) (show w1.drew.heap[_]?=_ from HX5.out)
  have hx6:=hkl _ _ _ (by decide) (show w1.drew.heap[_]?=_ from HX6.out)
  have hh3:=HH1.out.drew.store hr hl hA3 (by rw [HTR.out] at hE3;exact hE3)
  obtain ⟨n,hn⟩:∃ n,n=(l.s.begin T).1:=⟨_,rfl⟩
  rw [<- hn]
  by_cases hn0:n=0
  ·have hn1:((n:Int) == 0)=true:=by simp;omega
   have hp3:=HFU.out T (by trivial) (by rw [<- hn];exact hn0) b3 w3 hh3
   have HP3:=hid hp3
   have HX6':=hid hx6
   have HK:=hid ((zj.below HB1.out.drew).trans hkl)
   clear hp3 hx5 hx6 hkl hh3 hA3 hE3 hn hn0
   go_wp2_with (show wpList _ _ _ (⟨none,.store 31 (.tmp 6) _,_,_,_,_⟩::_) _ _;refine zB rfl 31 (.tmp 6) (.tmp 44) rfl (w.heap.size+1) 0 31 _ (zG (qn 8)).toArray (by rfl) (by rfl) HX6'.out (by simp [zG]) (by kernel_rfl) (by simp [zG,Value.oneCell']) ?_)
   refine ju (an:=qn 8) 6 rfl rfl rfl HX6'.out rfl ⟨qn 8,rfl,by decide,HK.out.setRow (by omega) _,?_⟩
   exact HP.out _ _ _ HP3.out (qQ.setRow HX6'.out _)
  ·have hn1:((n:Int) == 0)=false:=by simp;omega
   have hl3:(yo ts b3.F r { ts r with live:=some { l with b:=b3,s:=(l.s.begin T).2 } } r).live=some { l with b:=b3,s:=(l.s.begin T).2 }:=by rw [qO]
   obtain ⟨_,d1,_,_,_⟩:=zO.tcell hh3.drew (Nat.le_refl _) hr hl3
   have hdk:=(hh3.drew.live r _ hr hl3).1.dk
   have hset:=Dk.set_hit l.kb l.km l.ep l.nx l.hs q.hd n hhd w3.drew hdk hhas
   have hS:w3.drew.cell? ⟨H,1+r*5+1,none⟩=some (.pointer (some ⟨l.kb,0,none⟩))/\w3.drew.heap[w.heap.size]?=some (.cells (zL q).toArray 37 (0,0)):=⟨d1,hx5⟩
   obtain ⟨HSET,HH3,HL3,HDK⟩:=zi4 hset hh3 hl3 hdk
   have HX6':=hid hx6
   have HK:=hid ((zj.below HB1.out.drew).trans hkl)
   have HNE:=hid (show (l.s.begin T).1≠0 by rw [<- hn];exact hn0)
   have HN:=hid hn
   clear hx5 hx6 hkl hh3 hA3 hE3 hn hn0 hset hdk hl3 d1
   go_upto_region 13 with fail
   refine wp_region_noPanic ?_
   refine PrintLast.start_ (n:=8) (S:=(fun w'=>w'.cell? ⟨H,1+r*5+1,none⟩=some (.pointer (some ⟨l.kb,0,none⟩))/\w'.heap[w.heap.size]?=some (.cells (zL q).toArray 37 (0,0)))) (ds:=[7]) (bA 8 0) (by kernel_rfl) rfl (by kernel_rfl) hS (fun hHeld=>?_)
   refine pu 0 45 8 1 rfl rfl ?_
   refine pu 1 46 8 3 rfl rfl ?_
   refine pu 2 47 8 7 rfl rfl ?_
   refine tk 3 48 8 15 rfl rfl (Or.inl ⟨by rfl,fun _ h=>(by have k0:=h.1;go_simp;with_reducible rfl)⟩) ?_
   refine pu 4 49 8 31 rfl rfl ?_
   refine tk 5 50 8 63 rfl rfl (Or.inl ⟨by rfl,fun _ h=>(by have k0:=(cell_of_row _ w.heap.size 2 _ _ _ h.2).trans (show _=some (Value.int .i64 q.hd) from rfl);go_simp;with_reducible rfl)⟩) ?_
   refine pu 6 51 8 127 rfl rfl ?_
   refine la 7 8 255 (some 52) rfl rfl (fun K hK=>?_)
   show Oper.wp _ ⟨some 52,_,_,_,_,_⟩ _ _ _ _
   refine zq 74 _ _ [.pointer (some ⟨l.kb,0,none⟩),.int .i64 q.hd,.int .i64 n] rfl (by kernel_rfl) (by rfl) (HSET.out.mono ?_)
   rintro e6 w6 ⟨rfl,hdk6,ht6⟩
   refine ⟨_,rfl,?_⟩
   refine hK.out _ _ ?_
   clear hK K
   try simp only [pS]
   refine PrintLast.done_ (by kernel_rfl) ?_
   refine NoPanic.normal ?_
   have ht6':zn (fun i=>i=l.kb∨i=l.km) w3.drew w6:=ht6.mono (fun i _ e=>.inr e)
   have hkl6:=zj.desk (zO.deskb HH1.out hr hl) HDK.out ht6'
   have hh6:=HH3.out.drew.desk hr HL3.out hdk6 ht6'
   have hx66:=hkl6 _ _ _ (by decide) (show w3.drew.heap[_]?=_ from HX6'.out)
   rw [KT,qO,HN.out] at hh6
   have hp6:=HDO.out T (by trivial) HNE.out b3 w6 hh6
   obtain ⟨HX66,HP6⟩:=zi2 hx66 hp6
   have HK6:=hid (HK.out.trans (zj.of_drew hkl6))
   clear hx66 hp6 hh6 hkl6 ht6 ht6' hdk6 hS hHeld
   go_wp2_with (show wpList _ _ _ (⟨none,.store 31 (.tmp 6) _,_,_,_,_⟩::_) _ _;refine zB rfl 31 (.tmp 6) (.tmp 53) rfl (w.heap.size+1) 0 31 _ (zG (qn 0)).toArray (by rfl) (by rfl) HX66.out (by simp [zG]) (by kernel_rfl) (by simp [zG,Value.oneCell']) ?_)
   refine ju (an:=qn 0) 6 rfl rfl rfl HX66.out rfl ⟨qn 0,rfl,by decide,HK6.out.setRow (by omega) _,?_⟩
   exact HP.out _ _ _ HP6.out (qQ.setRow HX66.out _)
 ·have dt:decide ((0:Int)<txn)=true:=by simp;omega
  have HT0:=hid (show 0<txn by omega)
  clear ht0
  go_wp2_with (show wpList _ _ _ (⟨none,.store 31 (.tmp 6) _,_,_,_,_⟩::_) _ _;refine zB rfl 31 (.tmp 6) (.tmp 34) rfl (w.heap.size+1) 0 31 _ (zG (qn 4)).toArray (by rfl) (by rfl) (show w1.drew.heap[_]?=_ from HX6.out) (by simp [zG]) (by kernel_rfl) (by simp [zG,Value.oneCell']) ?_)
  refine ju (an:=qn 4) 6 rfl rfl rfl (show w1.drew.heap[_]?=_ from HX6.out) rfl ⟨qn 4,rfl,by decide,(zj.below HB1.out.drew).setRow (by omega) _,?_⟩
  exact HP.out _ _ _ (HBU.out HT0.out w1.drew HB1.out.drew) (qQ.setRow (show w1.drew.heap[_]?=_ from HX6.out) _)
end
section
variable {bz:Nat->Prop}
theorem zfC (H D r:Nat) (F:Nat->Prop) (cur:Nat->Nat->List UInt8) (ts:Nat->Tn) (boots:Nat) (l:Tl) (q:Rq) (w:World) (P:An->World->Prop) (h:zP bz w H D F cur ts boots) (hr:r<4) (hl:(ts r).live=some l)
  (hkd:q.kd=2) (hP:∀ a W W',P a W->qQ W W'->P a W') (hl6:l.hs.length<=6) (he:0<=l.ep/\l.ep<8796093022208) (hn:0<=l.nx/\l.nx<1048575)
  (hfull:l.hs.length=6->∀ W,Below w.heap.size w W->P (qn 8) W)
  (hdone:l.hs.length≠6->∀ W,zP bz W H D F cur (yo ts F r { ts r with live:=some { l with nx:=l.nx+1,hs:=aput l.hs (l.ep*1048576+(l.nx+1)) 0 } }) boots->P ⟨0,l.ep*1048576+(l.nx+1),{ data:=#[] },none,0,0,none,0,0⟩ W) :
  Calls Tryz.prog 23 #[.pointer (some ⟨H,0,none⟩),.pointer (some ⟨H,1+r*5,none⟩),.agg (zL q).toArray] w fun e W'=>∃ a,e=.returned (.agg (zG a).toArray)/\a.er≠10/\zj bz w W'/\P a W':=by
 obtain ⟨w1,hw1⟩:∃ w1,w1=uO w q:=⟨_,rfl⟩
 have hB1:Below w.heap.size w w1:=by rw [hw1];exact jE w q
 have hX5:w1.heap[w.heap.size]?=some (.cells (zL q).toArray 37 (0,0)):=by rw [hw1];exact vP w q
 have hX6:w1.heap[w.heap.size+1]?=some (.cells #[.int .i64 0,.int .i64 0,.string { data:=#[] },.slice none 0 0,.slice none 0 0] 31 (0,0)):=by rw [hw1];exact vO w q
 have k0:=(cell_of_row w1 w.heap.size 0 _ _ _ hX5).trans (show _=some (Value.int .i64 q.kd) from rfl)
 rw [hkd] at k0
 have hh1:=h.below hB1
 obtain ⟨c0,c1,c2,_,_⟩:=zO.tcell hh1 (by omega) hr hl
 obtain ⟨hT,hst⟩:=hh1.live r l hr hl
 have hw1u:(w.alloc (.cells (zL q).toArray 37)).alloc (.cells #[.int .i64 0,.int .i64 0,.string { data:=#[] },.slice none 0 0,.slice none 0 0] 31)=w1:=hw1.symm
 obtain ⟨HB1,HX5,HX6,HP,HW1,HH1,HT⟩:=zi7 hB1 hX5 hX6 hP hw1u hh1 hT
 clear hw1 hw1u hB1 hX5 hX6 hP hh1 h hT hst
 obtain ⟨HFU,HDO⟩:=zi2 hfull hdone
 clear hfull hdone c0
 go_enter Tryz.func23,Tryz.ntmps23
 go_upto_region 1 with fail
 rw [HW1.out]
 by_cases h6:l.hs.length=6
 ·have HOP:=hid (Dk.open_full l.kb l.km l.ep l.nx l.hs w1 HT.out.dk h6)
  have H6:=hid h6
  clear h6
  go_upto_region 24 with (go_at_call 34;(with_reducible refine HOP.out.mono ?_);rintro e2 w2 ⟨rfl,hw2⟩;subst hw2)
  go_wp2_with (show wpList _ _ _ (⟨none,.store 31 (.tmp 6) _,_,_,_,_⟩::_) _ _;refine zB rfl 31 (.tmp 6) (.tmp 83) rfl (w.heap.size+1) 0 31 _ (zG (qn 8)).toArray (by rfl) (by rfl) HX6.out (by simp [zG]) (by kernel_rfl) (by simp [zG,Value.oneCell']) ?_)
  refine ju (an:=qn 8) 6 rfl rfl rfl HX6.out rfl ⟨qn 8,rfl,by decide,(zj.below HB1.out).setRow (by omega) _,?_⟩
  exact HP.out _ _ _ (HFU.out H6.out _ HB1.out) (qQ.setRow HX6.out _)
 ·have HOP:=hid (Dk.open_more l.kb l.km l.ep l.nx l.hs w1 HT.out.dk (by omega) he hn)
  have H6:=hid h6
  clear h6
  obtain ⟨hd,hhd⟩:∃ hd,hd=l.ep*1048576+(l.nx+1):=⟨_,rfl⟩
  have hd0:(hd == 0)=false:=by simp;omega
  rw [<- hhd] at HOP HDO
  have HD:=hid hhd
  clear hhd
  go_upto_region 25 with (go_at_call 34;(with_reducible refine HOP.out.mono ?_);rintro e2 w2 ⟨rfl,hdk2,ht2⟩)
  have hkl:=zj.desk (zO.deskb HH1.out hr hl) HT.out.dk ht2
  have hx6:=hkl _ _ _ (by decide) HX6.out
  have hh2:=HH1.out.desk hr hl hdk2 ht2
  have hp2:=HDO.out H6.out w2 hh2
  obtain ⟨HX62,HP2⟩:=zi2 hx6 hp2
  have HK2:=hid ((zj.below HB1.out).trans hkl)
  clear hkl hx6 hh2 hp2 hdk2 ht2
  go_wp2_with (show wpList _ _ _ (⟨none,.store 31 (.tmp 6) _,_,_,_,_⟩::_) _ _;refine zB rfl 31 (.tmp 6) (.tmp 85) rfl (w.heap.size+1) 0 31 _ (zG ⟨0,hd,{ data:=#[] },none,0,0,none,0,0⟩).toArray (by rfl) (by rfl) HX62.out (by simp [zG]) (by kernel_rfl) (by simp [zG,Value.oneCell']) ?_)
  refine ju (an:=⟨0,hd,{ data:=#[] },none,0,0,none,0,0⟩) 6 rfl rfl rfl HX62.out rfl ⟨⟨0,hd,{ data:=#[] },none,0,0,none,0,0⟩,rfl,by simp,HK2.out.setRow (by omega) _,?_⟩
  exact HP.out _ _ _ HP2.out (qQ.setRow HX62.out _)
theorem zdl (H D r:Nat) (F:Nat->Prop) (cur:Nat->Nat->List UInt8) (ts:Nat->Tn) (boots:Nat) (l:Tl) (q:Rq) (w:World) (P:An->World->Prop) (h:zP bz w H D F cur ts boots) (hr:r<4) (hl:(ts r).live=some l)
  (hkd:q.kd=13) (hP:∀ a W W',P a W->qQ W W'->P a W') (hil:l.s.its.length<=900) (hrw:∀ y,y∈l.s.its->y.rw.t<=255/\y.rw.k.length<=15/\y.rw.v.length<=21)
  (hbusy:(zH l.s.ts).length≠0->∀ W,Below w.heap.size w W->P (qn 4) W)
  (hdone:(zH l.s.ts).length=0->∀ A c W,Below w.heap.size w W->W.ownsRow w.heap.size 5 1 (.slice A (jQ (l.s.its.map (·.rw))).length c) (jQ (l.s.its.map (·.rw))).length (zo (jQ (l.s.its.map (·.rw))))->P ⟨0,0,{ data:=#[] },none,0,0,A,(jQ (l.s.its.map (·.rw))).length,c⟩ W) :
  Calls Tryz.prog 23 #[.pointer (some ⟨H,0,none⟩),.pointer (some ⟨H,1+r*5,none⟩),.agg (zL q).toArray] w fun e W'=>∃ a,e=.returned (.agg (zG a).toArray)/\a.er≠10/\zj bz w W'/\P a W':=by
 obtain ⟨w1,hw1⟩:∃ w1,w1=uO w q:=⟨_,rfl⟩
 have hB1:Below w.heap.size w w1:=by rw [hw1];exact jE w q
 have hX5:w1.heap[w.heap.size]?=some (.cells (zL q).toArray 37 (0,0)):=by rw [hw1];exact vP w q
 have hX6:w1.heap[w.heap.size+1]?=some (.cells #[.int .i64 0,.int .i64 0,.string { data:=#[] },.slice none 0 0,.slice none 0 0] 31 (0,0)):=by rw [hw1];exact vO w q
 have k0:=(cell_of_row w1 w.heap.size 0 _ _ _ hX5).trans (show _=some (Value.int .i64 q.kd) from rfl)
 rw [hkd] at k0
 have hh1:=h.below hB1
 obtain ⟨c0,c1,c2,_,_⟩:=zO.tcell hh1 (by omega) hr hl
 obtain ⟨hT,hst⟩:=hh1.live r l hr hl
 have hw1u:(w.alloc (.cells (zL q).toArray 37)).alloc (.cells #[.int .i64 0,.int .i64 0,.string { data:=#[] },.slice none 0 0,.slice none 0 0] 31)=w1:=hw1.symm
 obtain ⟨HB1,HX5,HX6,HP,HW1,HH1,HT⟩:=zi7 hB1 hX5 hX6 hP hw1u hh1 hT
 clear hw1 hw1u hB1 hX5 hX6 hP hh1 h hT hst
 obtain ⟨HBU,HDO,HRW⟩:=zi3 hbusy hdone hrw
 have hot:=ziC l.a.S l.s.ts w1 HT.out.sto.tab.row HT.out.sto.tab.len
 have HOT:=hid hot
 clear hbusy hdone c1 hrw hot
 go_enter Tryz.func23,Tryz.ntmps23
 go_upto_region 1 with fail
 rw [HW1.out]
 obtain ⟨n,hn⟩:∃ n,n=(zH l.s.ts).length:=⟨_,rfl⟩
 rw [<- hn] at HOT HBU HDO
 clear hn
 obtain ⟨pb,hpb⟩:∃ pb,pb=jQ (l.s.its.map (·.rw)):=⟨_,rfl⟩
 rw [<- hpb] at HDO
 have HPB:=hid hpb
 clear hpb
 cases n with
 | zero =>
  have HOP:=hid (zkd l.a l.b cur l.s w1 HT.out.sto hil)
  go_upto_region 20 with (go_at_call 31;(with_reducible refine HOT.out.mono ?_);rintro e2 w2 ⟨rfl,hw2⟩;subst hw2)
  go_wp2_with (first
   | (go_at_call 33;(with_reducible refine HOP.out.mono ?_);rintro e3 w3 ⟨v3,rfl,hown3,hb3⟩;obtain ⟨A3,c3,rfl⟩:=own_slice hown3;have hml:(l.s.its.map (·.rw)).length=l.s.its.length:=(by simp);have henc:=zdz (l.s.its.map (·.rw)) A3 c3 _ w3 (by rw [hml];exact hown3) (by omega) (by intro y hy;obtain ⟨z,hz,rfl⟩:=List.mem_map.1 hy;exact HRW.out z hz);rw [hml,<- HPB.out] at henc;have HENC:=hid henc;clear henc hml)
   | (go_at_call 32;(with_reducible refine HENC.out.mono ?_);rintro e4 w4 ⟨v4,rfl,hown4,hb4⟩;obtain ⟨A4,c4,rfl⟩:=own_slice hown4;have hb14:=B_call hb3 hb4;have hx64:=zb HX6.out hb14 (zd HX6.out))
   | (show wpList _ _ _ (⟨none,.store 31 (.tmp 6) _,_,_,_,_⟩::_) _ _;refine zB rfl 31 (.tmp 6) (.tmp 73) rfl (w.heap.size+1) 0 31 _ (zG ⟨0,0,{ data:=#[] },none,0,0,A4,pb.length,c4⟩).toArray (by rfl) (by rfl) hx64 (by simp [zG]) (by kernel_rfl) (by simp [zG,Value.oneCell']) ?_))
  have hb4w:=B_call HB1.out hb14
  have hsz:=hb14.size
  have hwz:=HB1.out.size
  have hzz:=hb3.size
  refine ju (an:=⟨0,0,{ data:=#[] },none,0,0,A4,pb.length,c4⟩) 6 rfl rfl rfl hx64 rfl ⟨⟨0,0,{ data:=#[] },none,0,0,A4,pb.length,c4⟩,rfl,by simp,(zj.below hb4w).setRow (by omega) _,?_⟩
  exact HP.out _ _ _ (HDO.out (by trivial) A4 c4 w4 hb4w (qT hown4 (by omega))) (qQ.setRow hx64 _)
 | succ m =>
  have q1:(0:Int)<((m:Int)+1):=by omega
  go_upto_region 19 with (go_at_call 31;(with_reducible refine HOT.out.mono ?_);rintro e2 w2 ⟨rfl,hw2⟩;subst hw2)
  go_wp2_with (show wpList _ _ _ (⟨none,.store 31 (.tmp 6) _,_,_,_,_⟩::_) _ _;refine zB rfl 31 (.tmp 6) (.tmp 66) rfl (w.heap.size+1) 0 31 _ (zG (qn 4)).toArray (by rfl) (by rfl) HX6.out (by simp [zG]) (by kernel_rfl) (by simp [zG,Value.oneCell']) ?_)
  refine ju (an:=qn 4) 6 rfl rfl rfl HX6.out rfl ⟨qn 4,rfl,by decide,(zj.below HB1.out).setRow (by omega) _,?_⟩
  exact HP.out _ _ _ (HBU.out (by simp) _ HB1.out) (qQ.setRow HX6.out _)
end
section
variable {bz:Nat->Prop}
def yA (ct boots:Nat):Nat:=ct*1048576 ||| boots
theorem zgm {ct boots:Nat} (h1:ct<1000000) (h2:boots<1000000):yA ct boots<2199023255552:=by
 have:ct*1048576 ||| boots<2 ^ 40:=Nat.or_lt_two_pow (by omega) (by omega)
 unfold yA
 omega
theorem zbm (H D st ct boots:Nat) (c:Nat->T5) (w:World) (hb:w.heap[H]?=some (.cells (hC D c boots) 73 (0,0))) (h1:ct<1000000) (h2:boots<1000000) :
  Calls Tryz.prog 45 #[.pointer (some ⟨H,0,none⟩),.agg #[.int .i64 st,.int .u64 ct]] w fun e w'=>e=.returned (.int .i64 (yA ct boots))/\Below w.heap.size w w':=by
 obtain ⟨w1,hw1⟩:∃ w1,w1=w.alloc (.cells #[.int .i64 st,.int .u64 ct] 68):=⟨_,rfl⟩
 have hB1:Below w.heap.size w w1:=by rw [hw1];exact B_alloc (Below.refl _ _) _
 have hX:w1.heap[w.heap.size]?=some (.cells #[.int .i64 st,.int .u64 ct] 68 (0,0)):=by rw [hw1];exact zk _ _ rfl
 have hH1:=zb hb hB1 (zd hb)
 have hor:bits .or .i64 ((ct:Int)*1048576) (boots:Int)=((yA ct boots:Nat):Int):=by
  have:=Dk.i64_or_nat (ct*1048576) boots (by omega) (by omega)
  have e1:((ct*1048576:Nat):Int)=(ct:Int)*1048576:=by omega
  rw [e1] at this
  exact this
 have x1:IntKind.i64.wrap (ct:Int)=ct:=by rw [IntKind.wrap_i64];omega
 have x2:IntKind.i64.wrap ((ct:Int)*1048576)=(ct:Int)*1048576:=by rw [IntKind.wrap_i64];omega
 have hS:w1.drew.heap[H]?=some (.cells (hC D c boots) 73 (0,0))/\w1.drew.heap[w.heap.size]?=some (.cells #[.int .i64 st,.int .u64 ct] 68 (0,0)):=⟨hH1,hX⟩
 obtain ⟨HB1,HW1⟩:=zi2 hB1 hw1
 clear hB1 hX hH1 hw1 hb
 go_enter Tryz.func45,Tryz.ntmps45
 go_upto_region 1 with fail
 rw [<- HW1.out]
 refine wp_region_noPanic ?_
 refine PrintLast.start_ (n:=10) (S:=(fun w'=>w'.heap[H]?=some (.cells (hC D c boots) 73 (0,0))/\w'.heap[w.heap.size]?=some (.cells #[.int .i64 st,.int .u64 ct] 68 (0,0)))) (ds:=[]) (bA 10 0) (by kernel_rfl) rfl (by kernel_rfl) hS (fun hHeld=>?_)
 refine pu 0 5 10 1 rfl rfl ?_
 refine tk 1 6 10 3 rfl rfl (Or.inl ⟨by rfl,fun _ h=>(by have k0:=(cell_of_row _ w.heap.size 1 _ _ _ h.2).trans (show _=some (Value.int .u64 ct) from rfl);go_simp;with_reducible rfl)⟩) ?_
 refine tk 2 7 10 7 rfl rfl (Or.inl ⟨by rfl,fun _ h=>(by go_simp;with_reducible rfl)⟩) ?_
 refine pu 3 8 10 15 rfl rfl ?_
 refine pu 4 9 10 31 rfl rfl ?_
 refine pu 5 10 10 63 rfl rfl ?_
 refine pu 6 11 10 127 rfl rfl ?_
 refine tk 7 12 10 255 rfl rfl (Or.inl ⟨by rfl,fun _ h=>(by have k0:=(cell_of_row _ H 21 _ _ _ h.1).trans (zkw D c boots);go_simp;with_reducible rfl)⟩) ?_
 refine pu 8 13 10 511 rfl rfl ?_
 refine pu 9 4 10 1023 rfl rfl ?_
 refine PrintLast.done_ (by kernel_rfl) ?_
 refine NoPanic.normal ?_
 go_wp2_with fail
 go_ret
 exact ⟨by first | rfl | simp,HB1.out.drew⟩
end
end Go.Proofs.YtechnoogjhohfaaGreat
