import Derived.Test.YtechnoogjhohfaaGreatS9
import Derived.Test.YtechnoogjhohfaaGreatS8
import Derived.Deep.LoopGhost
import Derived.Laws.OwnMore
set_option maxRecDepth 100000
set_option maxHeartbeats 6400000
set_option linter.unusedVariables false
set_option linter.unusedSimpArgs false
namespace Go.Proofs.YtechnoogjhohfaaGreat
open Go.RowKit Go.Lib
open YtechnoogjhohfaaGreatW Go.Proofs.Tryz Go.Proofs.YtechnoogjhohfaaGreat.Tryz
def uO (l:List Nat):List Value:=l.map fun d:Nat=>Value.int .i64 (d:Int)
theorem zno (l:List Nat):(uO l).length=l.length:=by simp [uO]
def vD (l:List (Option Rw)) (h:List Nat):Nat->Nat->Option Nat
 | 0,_=>none
 | k+1,i=>if l[i]?=some none/\i ∉ h then some i else vD l h k (i+1)
def QA (p:Pg) (h:List Nat):Option Nat:=vD p.ap h 5 0
def znL:Option Nat->Int
 | none=>-1
 | some i=>i
theorem Ke {l:List (Option Rw)} {u:List Nat} {k i:Nat} (h:¬ (l[i]?=some none/\i ∉ u)):vD l u (k+1) i=vD l u k (i+1):=by rw [vD,if_neg h]
theorem zbg {l:List (Option Rw)} {u:List Nat} {k i:Nat} (h:l[i]?=some none) (z:i ∉ u):vD l u (k+1) i=some i:=by rw [vD,if_pos ⟨h,z⟩]
theorem znl (b t n:Nat) (p:Pg) (A:Option Addr) (c:Nat) (u:List Nat) (w:World) (h:qS w b t n p) (hp:p.ok) (hr:zL w w.heap.size 1 A u.length (uO u)) (hl:u.length<=10000) :
  zc 132 #[.pointer (some ⟨b,0,none⟩),.slice A u.length c] w fun e w'=>e=.returned (.int .i64 (znL (QA p u)))/\w'=w:=by
 obtain ⟨H,L,HR⟩:=zi3 h hp hr;have a1:=zi h;clear h hp hr;go_enter func132,ntmps132;go_wp2_with fail;go_step3;go_wp2_with fail;go_step3;go_wp2_with fail;go_loopg [5,10] 5 (fun g s5 a8 wr=>∃ k:Nat,k+g=5/\a8=.int .i64 k/\Aside (vD p.ap u g k=QA p u)/\wr=w)
 case atStart=>exact ⟨0,by omega,rfl,rfl,rfl⟩
 case round =>
  obtain ⟨k,c1,rfl,z,rfl⟩:=hrel;cases gk with
  | zero =>
   have a6:¬ ((k:Int)<5):=by omega
   have E:Aside (QA p u=none):=z.out.symm;go_wp2_with fail;go_ret;rw [E.out];exact ⟨rfl,rfl⟩
  | succ g =>
   have a6:(k:Int)<5:=by omega
   obtain ⟨o,D⟩:∃ o,p.ap[k]?=some o:=⟨_,zX (by have:=L.o.b5;omega)⟩;have HO:=hid D;have a3:=L.o.a7 o (zC D);have cS:=zhX b k o wr (qS.slot H.o L.o D) a3 a1 (by omega);clear D;by_cases hn:o=none
   ·subst hn;have a7:(zb (zM none)).toList.isEmpty=true:=by rw [ByteArray.toList_eq];rfl
    go_wp2_with (first|(go_at_call 134;refine cS.mono ?_;rintro e w' ⟨rfl,X⟩;rw [X]));go_loopg [7,19] u.length (fun O s7 a9 wy=>∃ j:Nat,j+O=u.length/\a9=.int .i64 j/\Aside (∀ i,i<j->u[i]?≠some k)/\wy=wr)
    case atStart=>exact ⟨0,by omega,rfl,fun i U=>by omega,rfl⟩
    case round =>
     obtain ⟨j,c0,rfl,Z,rfl⟩:=hrel;cases gk with
     | zero =>
      have a5:¬ ((j:Int)<(u.length:Int)):=by omega
      have E:Aside (QA p u=some k):=by
       rw [<- z.out];exact zbg HO.o (fun hm=>by
        obtain ⟨i,U,e⟩:=List.getElem_of_mem hm;exact Z.out i (by omega) (by rw [zX U,e]))
      go_wp2_with fail;go_ret;rw [E.out];exact ⟨rfl,rfl⟩
     | succ O =>
      have a5:(j:Int)<(u.length:Int):=by omega
      obtain ⟨x,Y⟩:∃ x,u[j]?=some x:=⟨_,zX (by omega)⟩;obtain ⟨ad,rfl,hc⟩:=HR.o.ev (by rw [zno];omega);have b9:wr.cell? (ad.add j)=some (.int .i64 x):=hc j _ (by rw [uO,List.getElem?_map,Y];rfl);have HX:=hid Y;clear Y hc;by_cases a0:x=k
      ·subst a0;go_wp2_with fail;go_roundg g
       case measure=>omega
       case rel=>exact ⟨x+1,by omega,rfl,by show _=_;rw [<- z.out,Ke (fun R=>R.2 (zC HX.o))],rfl⟩
      ·have c2:¬ ((x:Int)=(k:Int)):=by omega
       go_wp2_with fail;go_roundg O
       case measure=>omega
       case rel=>exact ⟨j+1,by omega,rfl,fun i U=>by
        by_cases a4:i=j
        ·subst a4;rw [HX.o];simpa using a0
        ·exact Z.out i (by omega),rfl⟩
   ·obtain ⟨r,rfl⟩:=Option.ne_none_iff_exists'.1 hn;have a7:(zb (zM (some r))).toList.isEmpty=false:=by rw [ByteArray.toList_eq];simp [zb,zM,yZ,Jj]
    go_wp2_with (first|(go_at_call 134;refine cS.mono ?_;rintro e w' ⟨rfl,X⟩;rw [X]));go_roundg g
    case measure=>omega
    case rel=>exact ⟨k+1,by omega,rfl,by show _=_;rw [<- z.out,Ke (fun R=>by have:=HO.o.symm.trans R.1;cases this)],rfl⟩
def yo (t n:Nat) (p:Pg):List UInt8:=zR 2 t++zR 2 n++uu p++zs 20
def vW (t n:Nat) (p:Pg) (k:Nat):List UInt8:=(List.range k).flatMap fun i=>zR 8 p.mark++qO (yo t n p) i
def jD (t n:Nat) (p:Pg):List UInt8:=if p.mark=0 then zs 256 else vW t n p 4
theorem ZU {t n:Nat} {p:Pg} (h:p.ok):(yo t n p).length=224:=by simp [yo,zG,zs,Ku h]
theorem zbW (t n:Nat) (p:Pg) (k:Nat):vW t n p (k+1)=vW t n p k++zR 8 p.mark++qO (yo t n p) k:=by simp [vW,List.range_succ]
theorem vP {t n:Nat} {p:Pg} (h:p.ok):∀ k,k<=4->(vW t n p k).length=64*k
 | 0,_=>rfl
 | k+1,hk=>by rw [zbW,zl,zl,vP h k (by omega),zG,YT,ZU h];omega
theorem vJ {t n:Nat} {p:Pg} (h:p.ok):(jD t n p).length=256:=by
 unfold jD;split
 ·exact List.length_replicate
 ·exact vP h 4 (by omega)
theorem zkP (p:Pg) (k:Nat) (o:Option Rw) (h:p.ap[k]?=some o):(p.ap.take (k+1)).flatMap jV=(p.ap.take k).flatMap jV++jV o:=by rw [List.take_add_one,h];simp
theorem zhB {w:World} {B e s n c:Nat} {A:Option Addr} {xs:List Value} (h:w.ownsRow B e s (.slice A n c) n xs):∀ x,A=some x->B<=x.block:=by
 intro x z;rcases h.2 with ⟨u,_⟩ | ⟨g,cap,cur,u,D,_⟩
 ·injection u with u;rw [u] at z;cases z
 ·injection u with u;rw [u] at z;injection z with z;rw [<- z];exact D
theorem zj.nil (w:World):zj w (.slice none 0 0) []:=⟨none,0,rfl,(zL.cz:zL w w.heap.size 1 none 0 []),za _,by unfold maxLen;omega⟩
theorem Gt (t n:Nat) (p:Pg) (w:World) (hp:p.ok) (ht:t<65536) (hn:n<65536) :
  zc 136 #[.agg (qj t n p).toArray] w fun e w'=>∃ A c,e=.returned (.slice (some A) 256 c)/\w.heap.size<=A.block/\zj w' (.slice (some A) 256 c) (jD t n p)/\zd w w':=by
 have z:=hid hp;obtain ⟨w1,a0⟩:=ex (w.alloc (.cells (qj t n p).toArray 204));have R:w1.heap[w.heap.size]?=some (.cells (qj t n p).toArray 204 (0,0)):=by rw [a0];exact zo _ _ rfl
 have hB:zd w w1:=by rw [a0];exact B_alloc (zf _ _) _
 obtain ⟨HX,HB⟩:=zi2 R hB;have Z:w.heap.size<w1.heap.size:=zi R;have c0:=xV (.int .u64 p.mark) 0 R;have c8:=xV (.int .i64 t) 1 R;have d0:=xV (.int .i64 n) 2 R;have u1:IntKind.u64.wrap (t:Int)=(t:Int):=vG _ (by omega);have u2:IntKind.u64.wrap (n:Int)=(n:Int):=vG _ (by omega);clear R hB;by_cases hm:p.mark=0
 ·have d4:(p.mark:Int)=0:=by omega
  obtain ⟨W,d9,hz,hb⟩:=Kn w1 256 (by omega);have d9:(Instr.makeSlice 29 (.int .i64 256) (.int .i64 256)).run prog w1=.ok (.slice (some ⟨w1.heap.size,0,none⟩) 256 256) W:=d9;have HZ:=hid hz;have e2:=hid (B_call HB.o hb);clear hz hb;go_enter func136,ntmps136;go_upto_region 1 with fail;rw [<- a0];clear a0;go_wp2_with fail;go_ret;refine ⟨_,_,rfl,by exact HB.o.size,?_,e2.o⟩;rw [jD,if_pos hm];exact HZ.o
 ·have e8:=hid hm;have d4:¬ ((p.mark:Int)=0):=by omega
  go_enter func136,ntmps136;go_upto_region 1 with fail;rw [<- a0];clear a0;go_upto_region 3 with fail;refine sV [] 9 (fun w'=>zH w' w.heap.size 1 (.int .i64 t)/\zH w' w.heap.size 2 (.int .i64 n)) ⟨c8,d0⟩ fun E=>?_;refine pV 0 ?_;refine tV 1 ?_;refine tV 2 ?_;refine pV 4 ?_;refine tV 5 ?_;refine tV 6 ?_;refine oC 3 (ur _ [] 2 t _ (zj.nil _) (by omega) (by omega) (by simp)) ?_;rintro e1 w2 ⟨v2,rfl,d7,X⟩;refine eV ⟨qU E.1 X Z,qU E.2 X Z⟩ fun E=>?_;refine oC 7 (ur _ ([]++zR 2 t) 2 n _ (zj.aj ?len d7) (by omega) (by omega) (by simp [zG])) ?_
  case len=>simp [zG]
  rintro e1 w3 ⟨v3,rfl,d8,a5⟩;refine eV ⟨qU E.1 a5 (qg Z X.size),qU E.2 a5 (qg Z X.size)⟩ fun E=>?_;refine pV 8 ?_;refine dV ?_;have f8:((p.mark:Int) == 0)=false:=by simpa using d4
  rw [f8];have d1:zd w1 w3:=uE (B_call X a5);have h:w3.ownsRow w1.heap.size 5 1 v3 4 (zD (zR 2 t++zR 2 n)):=by have:=jK d8 (show w1.heap.size<=w2.heap.size from X.size);simpa [zG] using this
  obtain ⟨HO,e4⟩:=zi2 h d1;clear d1 h d8 X a5 d7 E c0 c8 d0 u1 u2;go_upto_region 5 with fail;go_loopw [3,4,19] (fun v _ u wr=>∃ k:Nat,k<=5/\u=.int .i64 k/\wr.ownsRow w1.heap.size 5 1 v (4+40*k) (zD (zR 2 t++zR 2 n++(p.ap.take k).flatMap jV))/\zd w1 wr) (fun _ _ u _=>(5-intOf u).toNat)
  case atStart=>exact ⟨0,by omega,rfl,by simpa using HO.o,e4.o⟩
  case round =>
   obtain ⟨k,hk,rfl,h,D⟩:=hrel;by_cases g3:k<5
   ·have f7:(k:Int)<5:=by omega
    obtain ⟨o,ho⟩:∃ o,p.ap[k]?=some o:=⟨_,zX (by have:=z.o.b5;omega)⟩;have c6:=hid (zg HX.o D Z);have hr:zL wr wr.heap.size 1 (some ⟨w.heap.size,3+k*40,none⟩) 40 (zD (jV o)):=zj.cn (zj.cd (n:=40) (qS.slot c6.o z.o ho) (zi c6.o) (yS (z.o.a7 o (zC ho))).symm (by rw [yS (z.o.a7 o (zC ho))];omega)) (yS (z.o.a7 o (zC ho))).symm;have HR:=hid hr;obtain ⟨A4,c4,rfl⟩:=own_slice h;obtain ⟨O,L,HK⟩:=zi3 h D ho;clear hr h D ho;go_wp2_with (at_builtin;refine jX rfl (.tmp 22) (.tmp 26) 29 5 1 1 rfl underlying29 QS (by omega) _ _ _ w1.heap.size (by rfl) O.o _ 40 40 _ _ (by rfl) HR.o (yp _) (by omega) (by omega) L.o.size ?_;intro v4 w4 f9 f4 _);go_roundw
    case rel =>
     refine ⟨k+1,by omega,by simp,?_,?_⟩
     ·rw [zkP p k _ HK.o,<- jq,show 4+40*(k+1)=4+40*k+40 by omega,yV];exact f9
     ·exact vn L.o O.o f4
    case measure=>simp [intOf];omega
   ·have f6:k=5:=by omega
    subst f6;obtain ⟨l4,c1⟩:=ex (zR 2 t++zR 2 n++uu p);have h:wr.ownsRow w1.heap.size 5 1 u3 204 (zD l4):=by rw [c1];rw [jG (by rw [z.o.b5];omega)] at h;exact h
    obtain ⟨A4,c4,rfl⟩:=own_slice h;obtain ⟨v5,w5,e0,c2,d2⟩:=JQ h 20 (by omega) D.size;have a7:=hid (vn D h d2);obtain ⟨O,c5⟩:=zi2 c2 c1;obtain ⟨A5,Y,rfl⟩:=own_slice c2;clear d2 c2 h D c1;go_wp2_with (at_builtin;refine wpList_append_run _ rfl _ _ _ _ rfl _ _ rfl rfl _ _ e0 ?_);have e5:Hid (w5.ownsRow w1.heap.size 5 1 (.slice A5 224 Y) 224 (zD (yo t n p))):=hid (by rw [yo,<- c5.o];exact O.o);clear O c5 l4 e0;have b9:zj w5 (.slice A5 224 Y) (yo t n p):=zj.aj (ZU z.o).symm e5.o;have e6:=hid b9;have a4:=hid (zg HX.o a7.o Z);have f1:∃ ad,A5=some ad:=by obtain ⟨ad,e,_⟩:=zL.ev (zj.cn b9 (ZU z.o).symm) (by rw [jf,ZU z.o];omega);exact ⟨ad,e⟩
    obtain ⟨ad,rfl⟩:=f1;clear b9;go_loopw [5,6,34] (fun v _ u wr=>∃ k:Nat,k<=4/\u=.int .i64 k/\wr.ownsRow w1.heap.size 5 1 v (64*k) (zD (vW t n p k))/\zd w5 wr) (fun _ _ u _=>(4-intOf u).toNat)
    case atStart=>exact ⟨0,by omega,rfl,⟨rfl,.inl ⟨rfl,rfl⟩⟩,zf _ _⟩
    case round =>
     obtain ⟨k,hk,rfl,h,D⟩:=hrel;by_cases g2:k<4
     ·have f7:(k:Int)<4:=by omega
      have R:=zg a4.o D (zi a4.o);have c0:=xV (.int .u64 p.mark) 0 R;have c3:=hid (e6.o.below D);have O:=hid (zj.aj (vP z.o k hk).symm h);have L:=hid D;obtain ⟨A4,c4,rfl⟩:=own_slice h;clear R h D;go_upto_region 14 with fail;obtain ⟨U,d5⟩:=ex (k*56);obtain ⟨m1,d6⟩:=ex (k*56+56);have x1:IntKind.i64.wrap (U:Int)=(U:Int):=by rw [zu];omega
      have g4:(k:Int)*56=(U:Int):=by omega
      have x2:IntKind.i64.wrap ((k:Int)+1)=(k:Int)+1:=by rw [zu];omega
      have x3:IntKind.i64.wrap (((k:Int)+1)*56)=(m1:Int):=by rw [zu];omega
      have f2:224<=Y:=by obtain ⟨A6,g0,e,_,h9,_⟩:=c3.o;injection e with e1 e9 e3;rw [<- e3,ZU z.o] at h9;exact h9
      have y1:(m1:Int)<=(Y:Int):=by omega
      have y2:U<=m1:=by omega
      have y4:m1-U=56:=by omega
      have y3:¬ (Y=U):=by omega
      have HM:=hid (And.intro d5 d6);clear d5 d6 f2;refine sV [] 13 (fun w'=>zH w' w.heap.size 0 (.int .u64 p.mark)) c0 fun E=>?_;refine pV 0 ?_;refine pV 1 ?_;refine tV 2 ?_;refine pV 4 ?_;refine pV 5 ?_;refine pV 6 ?_;refine pV 7 ?_;refine pV 8 ?_;refine pV 9 ?_;refine pV 10 ?_;refine oC 3 (ur _ (vW t n p k) 8 p.mark _ O.o.drew (by omega) (by omega) (by rw [vP z.o k hk];omega)) ?_;rintro e1 w6 ⟨v6,rfl,a6,a1⟩;refine eV (qU (by assumption) a1 (qg (zi a4.o) L.o.size)) fun E=>?_;refine oV 11 fun K hK=>?_;refine Qd (.tmp 40) (.tmp 47) 29 5 1 1 rfl underlying29 QS (by omega) v6 _ _ wr.heap.size (by rfl) a6 (some (ad.add U)) 56 (Y-U) (zD (qO (yo t n p) k)) w6.heap.size (by rfl) ?rds (yp _) (by rw [vP z.o k hk,show (8:Int).toNat=8 from rfl];omega) (by omega) a1.size ?_
      case rds =>have hs:=zj.sub (c3.o.drew.below a1) U 56 (by rw [HM.o.1];omega) (by rw [HM.o.1];omega);rw [HM.o.1] at hs ⊢;exact zj.cn hs (by rw [YT,ZU z.o];omega)
      intro v7 w7 a3 a9 _;refine hK.out _ _ (Qw (by assumption) a9 (fun e=>by have h7:wr.heap.size<=w.heap.size:=(a6.lt _ e).1;have h8:w.heap.size<wr.heap.size:=qg (zi a4.o) L.o.size;omega)) (fun E=>?_);clear hK K;try simp only [pS]
      refine pV 12 ?_;refine dV ?_;have f3:=hid (B_call L.o (uE (vn a1 a6 a9)));have d3:w7.ownsRow w1.heap.size 5 1 v7 (64*(k+1)) (zD (vW t n p (k+1))):=by
       have e9:=a3.1;rw [zbW];rw [<- yV] at a3;have e3:(vW t n p k).length+(8:Int).toNat+56=64*(k+1):=by rw [vP z.o k hk,show (8:Int).toNat=8 from rfl];omega
       rw [e3] at a3;exact jK a3 (zz a7.o.size L.o.size)
      have e7:=hid d3;clear d3 a3 a9 a6 a1;go_wp2_with fail;go_roundw
      case rel=>exact ⟨k+1,by omega,by simp,e7.o,f3.o⟩
      case measure=>simp [intOf];omega
     ·have f5:k=4:=by omega
      subst f5;have a8:=zj.aj (vP z.o 4 (by omega)).symm h;obtain ⟨O,L⟩:=zi2 a8 D;obtain ⟨A4,c4,rfl⟩:=own_slice h;obtain ⟨c7,f0,_⟩:=zL.ev (zj.cn a8 (vP z.o 4 (by omega)).symm) (by rw [jf,vP z.o 4 (by omega)];omega);subst f0;have HA:=hid (zhB h c7 rfl);clear h D a8;go_wp2_with fail;go_ret;refine ⟨c7,c4,rfl,zz HB.o.size HA.o,?_,B_call HB.o (B_call a7.o L.o)⟩;rw [jD,if_neg e8.o];exact O.o
theorem zcV (t n:Nat) (p:Pg) (w:World) (E:p.ok) (L:t<65536) (D:n<65536) :
  zc 136 #[.agg (qj t n p).toArray] w fun e w'=>∃ v,e=.returned v/\zj w' v (jD t n p)/\zd w w' :=
 (Gt t n p w E L D).mono fun _ _ ⟨A,c,h,_,u,z⟩=>⟨_,h,u,z⟩
theorem zaw (a:Addr) (n:Nat):(a.add n).block=a.block:=by unfold Addr.add;split<;>rfl
theorem zbl (G:Nat) (A:Option Addr) (n c:Nat) (xs:List Value) (k:Int) (w:World) (h:yg w G A n c xs false) (h0:0<=k) (Z:k<=n) (hs:n<=1000000) :
  zc 99 #[.pointer (some ⟨G,0,none⟩),.int .i64 k] w fun r w'=>∃ v O X,r=.returned v/\w'.ownsRow w.heap.size 5 1 v k.toNat (xs.take k.toNat)/\yg w' G O (n-k.toNat) X (xs.drop k.toNat) false/\w.grownBy w' (some G)/\∀ x,O=some x->∃ y,A=some y/\x.block=y.block:=by
 obtain ⟨m,rfl⟩:∃ m:Nat,k=(m:Int):=⟨k.toNat,by omega⟩;obtain ⟨i0,Y,a0,a1,a3⟩:=info_parts QU;have a7:=h.le;have c2:=h.mx;have c0:w.cell? ⟨G,0,none⟩=some (.slice A n c):=ze w G _ _ _ _ h.U;have a8:decide ((m:Int)<0)=false:=by simp
 have c1:decide ((n:Int)<(m:Int))=false:=by simp;omega
 have a9:(m:Int)<=(n:Int):=Z;have b9:(m:Int)<=(c:Int):=by omega
 have c3:(n:Int)<=(c:Int):=by omega
 have u:=hid h;clear h;go_enter func99,ntmps99;go_wp2_with (first|((with_reducible refine aV 55 (QX G A n c xs false w u.o) ?_);rintro r w1 ⟨rfl,rfl⟩)|(at_builtin;refine uK _ rfl _ _ _ rfl w1.heap.size 5 i0 _ 1 1 underlying29 Y a0 a1 a3 rfl (by omega) (.slice none 0 0) 0 [] rfl (ql _ _ _ _) G A m c (xs.take m) rfl (u.o.rd.take (by omega)) (fun a4 hu=>u.o.one a4 (List.mem_of_mem_take hu)) (by unfold maxLen;omega) (by omega) (za _) ?_;intro v2 E U L a5;have R:E.heap[G]?=some (.cells #[.slice A n c,.bool false] 182 (0,0)):=(L.block G (qu.1 u.o.U).1 (by simp [Value.ownBlock])).trans u.o.U;have d0:E.cell? ⟨G,0,none⟩=some (.slice A n c):=ze E G _ _ _ _ R;have f0:E.frozen? ⟨G,0,none⟩=false:=zI E G 0 _ _ R))
 ·obtain rfl:c=m:=by omega
  have hcut:=u.o.rd.cut (k:=c) (cap:=c) (by omega) u.o.le;rw [if_pos rfl,Nat.mul_one] at hcut;have z:=JY u.o (by omega) L (by simpa using U) hcut;rw [Nat.sub_self] at z;go_ret;exact ⟨_,rfl,z.1,_,⟨_,z.2.1⟩,z.2.2,fun x D=>⟨x,D,rfl⟩⟩
 ·rename_i a6;have hcut:=u.o.rd.cut (k:=m) (cap:=c) (by omega) u.o.le;rw [if_neg (by omega),Nat.mul_one] at hcut;have z:=JY u.o (by omega) L (by simpa using U) hcut;go_ret;refine ⟨_,rfl,z.1,_,⟨_,z.2.1⟩,z.2.2,fun x D=>?_⟩;cases A with
  | none=>cases D
  | some y=>injection D with D;subst D;exact ⟨y,rfl,zaw y _⟩
theorem zka (G:Nat) (A:Option Addr) (n c:Nat) (l:List Int) (k:Int) (w:World) (h:yg w G A n c (l.map (Value.int .u8)) false) (h0:1<=k) (a9:k<=8) (hk:k<=n) (hs:n<=1000000) :
  zc 52 #[.pointer (some ⟨G,0,none⟩),.int .i64 k] w fun r w'=>∃ E R,r=.returned (.int .u64 (Gr (l.take k.toNat)))/\yg w' G E (n-k.toNat) R ((l.drop k.toNat).map (Value.int .u8)) false/\w.grownBy w' (some G)/\∀ x,E=some x->∃ y,A=some y/\x.block=y.block:=by
 obtain ⟨m,rfl⟩:∃ m:Nat,k=(m:Int):=⟨k.toNat,by omega⟩;have a5:decide ((m:Int)<1)=false:=by simp;omega
 have a6:decide ((8:Int)<(m:Int))=false:=by simp;omega
 have HH:=hid h;clear h;go_enter func52,ntmps52;go_wp2_with ((with_reducible refine aV 99 (zbl G A n c (l.map (Value.int .u8)) m w HH.o (by omega) hk hs) ?_);rintro r w1 ⟨v,E,R,rfl,D,L,X,U⟩;simp only [qp] at D L;obtain ⟨Av,cv,rfl⟩:=own_slice D);have O:=zL.aj D;have b9:m<=n:=by omega
 rw [<- List.map_take] at O;obtain ⟨a4,HR,HG,a1⟩:=zi4 O L X U;clear O L X D U;go_loopw [5,18] (fun v u wr=>∃ j:Nat,j<=m/\u=.int .i64 j/\v=.int .u64 (Gr (l.take j))/\wr=w1) (fun _ u _=>((m:Int)-intOf u).toNat)
 case atStart=>exact ⟨0,by omega,rfl,rfl,rfl⟩
 case round =>
  obtain ⟨j,hj,rfl,rfl,rfl⟩:=hrel;by_cases Z:j<m
  ·obtain ⟨ad,u,rfl,_,z,hc⟩:=a4.o.cb Z;rw [List.getElem?_map,List.getElem?_take,if_pos Z] at z;obtain ⟨y,hy,rfl⟩:∃ y,l[j]?=some y/\.int .u8 y=u:=by
    cases Y:l[j]? with
    | none=>rw [Y] at z;cases z
    | some y=>rw [Y] at z;injection z with z;exact ⟨y,rfl,z⟩
   have a7:(j:Int)<(m:Int):=by omega
   have a8:(0:Int)<=(j:Int):=by omega
   have a0:=zec l j y hy;have a3:=hid a0;clear a0 hy;go_wp2_with fail;refine ⟨⟨j+1,by omega,by go_num,by rw [a3.o],by trivial⟩,?_⟩;simp [intOf];omega
  ·obtain rfl:j=m:=by omega
   go_wp2_with fail;go_ret;rw [qp,List.map_drop];exact ⟨_,_,rfl,HR.o,HG.o,a1.o⟩
def YI (w:World) (G B:Nat) (l:List UInt8):Prop:=∃ A c,yg w G A l.length c (zD l) false/\∀ x,A=some x->B<=x.block
theorem YI.lt {w:World} {G B:Nat} {l:List UInt8} (h:YI w G B l):G<w.heap.size:=by obtain ⟨A,c,h,_⟩:=h;exact zi h.U
theorem YI.same {w w':World} {G B:Nat} {l:List UInt8} (h:YI w G B l) (hs:∀ k,k<=G->B<=k->w'.heap[k]?=w.heap[k]?) (D:B<=G):YI w' G B l:=by obtain ⟨A,c,h,z⟩:=h;refine ⟨A,c,⟨(hs G (za _) D).trans h.U,?_,h.le,h.mx,h.one⟩,z⟩;refine ⟨h.rd.1,fun h0=>?_⟩;obtain ⟨ad,e,L,E⟩:=h.rd.2 h0;exact ⟨ad,e,L,fun j u O=>(yt (a:=ad.add j) (by rw [zaw];exact hs ad.block (by omega) (z ad e))).trans (E j u O)⟩
theorem zrg (G B k x:Nat) (rest:List UInt8) (w:World) (h:YI w G B (zR k x++rest)) (X:1<=k) (Y:k<=8) (u:x<256 ^ k) (hs:rest.length<=900000) :
  zc 52 #[.pointer (some ⟨G,0,none⟩),.int .i64 k] w fun r w'=>r=.returned (.int .u64 x)/\YI w' G B rest/\w.grownBy w' (some G):=by
 obtain ⟨A,c,h,L⟩:=h;have e:∀ l:List UInt8,zD l=(l.map (fun b=>(b.toNat:Int))).map (Value.int .u8):=fun l=>by simp [zD]
 have hlen:(zR k x++rest).length=k+rest.length:=by rw [zl,zG]
 rw [e] at h;refine (zka G A _ c ((zR k x++rest).map fun b=>(b.toNat:Int)) k w h (by omega) (by omega) (by omega) (by omega)).mono ?_;rintro r w' ⟨D,E,rfl,z,R,O⟩;rw [<- List.map_take,zhx _ (by rw [qf];omega),qp,List.take_left' (by rw [zG]),KS,Nat.mod_eq_of_lt u];rw [<- List.map_drop,<- e,qp,List.drop_left' (by rw [zG]),hlen,Nat.add_sub_cancel_left] at z;refine ⟨rfl,⟨D,E,z,fun x u=>?_⟩,R⟩;obtain ⟨y,U,e⟩:=O x u;rw [e];exact L y U
theorem zqR (G B k:Nat) (l:List UInt8) (w:World) (h:YI w G B l) (Y:k<=l.length) (hs:l.length<=1000000) :
  zc 99 #[.pointer (some ⟨G,0,none⟩),.int .i64 k] w fun r w'=>∃ v,r=.returned v/\w'.ownsRow w.heap.size 5 1 v k (zD (l.take k))/\YI w' G B (l.drop k)/\w.grownBy w' (some G):=by
 obtain ⟨A,c,h,L⟩:=h;refine (zbl G A l.length c (zD l) k w h (by omega) (by omega) hs).mono ?_;rintro r w' ⟨v,D,E,rfl,z,u,R,O⟩;rw [qp,Gc] at z;rw [qp,JA] at u;refine ⟨v,rfl,z,⟨D,E,by rw [qI];exact u,fun x U=>?_⟩,R⟩;obtain ⟨y,X,e⟩:=O x U;rw [e];exact L y X
theorem zrf (B:Nat) (A:Option Addr) (n c:Nat) (l:List UInt8) (w:World) (h:zj w (.slice A n c) l) (O:∀ x,A=some x->B<=x.block) :
  zc 51 #[.slice A n c] w fun r w'=>r=.returned (.pointer (some ⟨w.heap.size,0,none⟩))/\YI w' w.heap.size B l/\zd w w':=by
 obtain ⟨X,Y,e,U,E,L⟩:=h;injection e with u z D;subst u z D;refine (zem A l.length c (zD l) w U E L (yp l)).mono ?_;rintro r w' ⟨rfl,R,hb⟩;exact ⟨rfl,⟨A,c,R,O⟩,hb⟩
def Jc:Pg:=⟨0,[none,none,none,none,none]⟩
theorem zmc:Jc.ok:=⟨rfl,by intro o h;simp [Jc] at h;subst h;trivial,by decide,by intro _ o h;simp [Jc] at h;exact h⟩
theorem zpO (t n:Int):(zeroCells204.setIfInBounds 1 (.int .i64 t)).setIfInBounds 2 (.int .i64 n)=(.int .u64 0::.int .i64 t::.int .i64 n::zD (zs 200)).toArray:=by kernel_rfl
theorem zmA:uu Jc=zs 200:=by simp only [uu,Jc,qC,List.flatMap_nil,jV,zs,List.replicate_append_replicate,List.append_nil]
theorem YG (t n:Nat):qj t n Jc=.int .u64 0::.int .i64 t::.int .i64 n::zD (zs 200):=by rw [qj,zmA];rfl
theorem zop (t n:Nat):(zeroCells204.setIfInBounds 1 (.int .i64 t)).setIfInBounds 2 (.int .i64 n)=(qj t n Jc).toArray:=by rw [YG];exact zpO t n
theorem zpI (t n:Nat):(prog.info? 204).map (·.size)=some (qj t n Jc).toArray.size:=by rw [YG];kernel_rfl
theorem zof (t n:Nat):zeroCells204.size=(qj t n Jc).toArray.size:=by rw [YG];kernel_rfl
theorem ziI {t n:Nat} {p:Pg}:∀ x∈qj t n p,x.oneCell'=true:=by
 intro x h;simp only [qj,zO] at h;rcases h with rfl | rfl | rfl | h
 ·rfl
 ·rfl
 ·rfl
 ·exact yp _ _ h
theorem GM {t n:Nat} {p:Pg}:(qj t n p).toArray.all (·.oneCell')=true:=by rw [List.all_toArray,List.all_eq_true];exact ziI
def Pg.b7 (p:Pg) (k:Nat):Pg:=⟨p.mark,p.ap.take k++List.replicate (5-k) none⟩
theorem qS.f3 {w:World} {b t n:Nat} {p:Pg} (h:qS w b t n p) (m:Nat):qS (w.setCell ⟨b,0,none⟩ (.int .u64 m)) b t n { p with mark:=m }:=by have:=zB w b 0 _ _ (.int .u64 m) h;simpa [qj,qS,uu] using this
def Jm (b:List UInt8) (k:Nat):List UInt8:=(List.range k).flatMap fun i=>(b.drop (i*64+8)).take 56
theorem zfN {t n:Nat} {p:Pg} (h:p.ok):∀ k,k<=4->(Jm (jD t n p) k).length=56*k
 | 0,_=>rfl
 | k+1,hk=>by
  have e:Jm (jD t n p) (k+1)=Jm (jD t n p) k++((jD t n p).drop (k*64+8)).take 56:=by simp [Jm,List.range_succ]
  rw [e,zl,zfN h k (by omega),qf,qI,vJ h];omega
theorem zjT {t n:Nat} {p:Pg} (h:p.ok) (hm:¬ p.mark=0):Jm (jD t n p) 4=zR 2 t++(zR 2 n++(uu p++zs 20)):=by
 have e:zR 2 t++(zR 2 n++(uu p++zs 20))=yo t n p:=by simp [yo]
 have O:=ZU (t:=t) (n:=n) h;have D:(zR 8 p.mark).length=8:=by rw [zG]
 rw [e,jD,if_neg hm];have u:∀ i,i<4->((vW t n p 4).drop (i*64+8)).take 56=qO (yo t n p) i:=by
  intro i E;have z:vW t n p 4=vW t n p i++(zR 8 p.mark++(qO (yo t n p) i++(List.range' (i+1) (3-i)).flatMap fun j=>zR 8 p.mark++qO (yo t n p) j)):=by
   have:List.range 4=List.range i++(i::List.range' (i+1) (3-i)):=by
    match i,E with
    | 0,_=>rfl
    | 1,_=>rfl
    | 2,_=>rfl
    | 3,_=>rfl
   simp [vW,this]
  rw [z,<- List.drop_drop,List.drop_left' (by rw [vP h i (by omega)];omega),List.drop_left' D,List.take_left' (by rw [YT,O];omega)]
 have L:Jm (vW t n p 4) 4=qO (yo t n p) 0++qO (yo t n p) 1++qO (yo t n p) 2++qO (yo t n p) 3:=by rw [<- u 0 (by omega),<- u 1 (by omega),<- u 2 (by omega),<- u 3 (by omega)];simp [Jm,List.range_succ]
 rw [L];have:=YX (yo t n p) 0;rw [show qO (yo t n p) 0=(yo t n p).take 56 by simp [qO],YX (yo t n p) 1,YX (yo t n p) 2,YX (yo t n p) 3,jG (by omega)]
theorem Pg.gm {p:Pg} (h:p.ok):p.b7 5=p:=by
 cases p with
 | mk m l =>have u:l.length=5:=h.b5;simp [Pg.b7,jG (show l.length<=5 by omega)]
theorem Pg.ht {p:Pg} (h:p.ok) (k:Nat) (z:k<=5):(p.b7 k).ok:=by
 refine ⟨by have:=h.b5;simp [Pg.b7];omega,fun o u=>?_,h.mark,fun hm o u=>?_⟩
 ·simp only [Pg.b7,ja,List.mem_replicate] at u;rcases u with u | ⟨_,rfl⟩
  ·exact h.a7 o (List.mem_of_mem_take u)
  ·trivial
 ·simp only [Pg.b7,ja,List.mem_replicate] at u;rcases u with u | ⟨_,rfl⟩
  ·exact h.zero hm o (List.mem_of_mem_take u)
  ·rfl
theorem Pg.gn {p:Pg} (h:p.ok) (k:Nat) (D:k<5) (o:Option Rw) (z:p.ap[k]?=some o):(p.b7 k).set k o=p.b7 (k+1):=by
 have u:(p.ap.take k).length=k:=by have:=h.b5;rw [qf];omega
 unfold Pg.b7 Pg.set;simp only [Pg.mk.injEq,true_and];rw [List.set_append_right _ _ (by omega),u,Nat.sub_self,show 5-k=(5-(k+1))+1 by omega,List.replicate_succ,List.set_cons_zero,List.take_add_one,z];simp
theorem Pg.g6 {p:Pg} (h:p.ok) (hm:p.mark=0):p=⟨p.mark,[none,none,none,none,none]⟩:=by
 cases p with
 | mk m l =>
  have z:=h.b5;have u:=h.zero hm;simp only at z u ⊢
  match l,z with
  | [a,b,c,d,e],_ =>rw [u a (by simp),u b (by simp),u c (by simp),u d (by simp),u e (by simp)]
theorem zlT (G B x:Nat) (rest:List UInt8) (w:World) (h:YI w G B (zR 2 x++rest)) (u:x<65536) (hs:rest.length<=900000) :
  zc 52 #[.pointer (some ⟨G,0,none⟩),.int .i64 2] w fun r w'=>r=.returned (.int .u64 x)/\YI w' G B rest/\w.grownBy w' (some G):=zrg G B 2 x rest w h (by omega) (by omega) u hs
theorem zok (G B:Nat) (l:List UInt8) (w:World) (h:YI w G B l) (u:40<=l.length) (hs:l.length<=1000000) :
  zc 99 #[.pointer (some ⟨G,0,none⟩),.int .i64 40] w fun r w'=>∃ v,r=.returned v/\w'.ownsRow w.heap.size 5 1 v 40 (zD (l.take 40))/\YI w' G B (l.drop 40)/\w.grownBy w' (some G):=zqR G B 40 l w h u hs
theorem zog {p:Pg} (h:p.ok) (k:Nat) (z:k<5) (o:Option Rw) (u:p.ap[k]?=some o):(((uu p++zs 20).drop (40*k)).take 40)=jV o:=by have D:=Ku h;rw [List.drop_append_of_le_length (by omega),List.take_append_of_le_length (by rw [qI];omega),Nat.mul_comm 40 k];exact zbJ p.ap k o h.a7 u
theorem zln {w:World} {b t n k:Nat} {q:Pg} {ad:Addr} {c:Nat} (h:qS w b t n q) (D:q.ok) (o:Option Rw) (z:js o) (L:k<5) (E:∀ j v,(zD (jV o))[j]?=some v->w.cell? (ad.add j)=some v) :
  (Builtin.copy_ #[29,29] 3 #[.slice (some ⟨b,3+k*40,none⟩) 40 40,.slice (some ad) 40 c]).run prog w=.ok (goInt 40) (w.setRow b (List.take (3+k*40) (qj t n q)++(zD (jV o)++List.drop (3+k*40+40) (qj t n q))).toArray):=by
 have u:(zD (jV o)).length=40:=by rw [jf,yS z]
 have:=run_copy_row (P:=prog) w 29 29 3 5 b (3+k*40) 40 40 ad 40 c (qj t n q).toArray 204 (zD (jV o)) underlying29 (by kernel_rfl) h u E (by rw [u,qH,Qk D];omega) (yp _);rw [u,jq] at this;exact this
theorem Gn {w:World} {k g:Nat} {x:Obj} (h:w.heap[k]?=some x) (u:k≠g) (cs:Array Value):(w.setRow g cs).heap[k]?=some x:=(setRow_other w g k cs u).trans h
theorem um {w:World} {v:Value} {l:List UInt8} (h:zj w v l):(convert 29 9 v).run prog w=.ok (.string (zb l)) w:=by obtain ⟨A,c,rfl,D,u,z⟩:=id h;exact yh h
theorem zke {t n:Nat} {p:Pg}:jD t n p=zR 8 p.mark++(jD t n p).drop 8:=by
 unfold jD;split
 ·rename_i h;rw [h];rfl
 ·have:vW t n p 4=zR 8 p.mark++(qO (yo t n p) 0++(zR 8 p.mark++qO (yo t n p) 1++(zR 8 p.mark++qO (yo t n p) 2++(zR 8 p.mark++qO (yo t n p) 3)))):=by simp [vW,List.range_succ]
  rw [this,List.drop_left' (by rw [zG])]
theorem ziG (t n:Nat) (p:Pg) (v:Value) (w:World) (hp:p.ok) (ht:t<4) (hn:n<65536) (f1:zj w v (jD t n p)) :
  zc 123 #[v,.int .i64 t,.int .i64 n] w fun e w'=>e=.returned (.tuple #[.agg (qj t n p).toArray,.int .i64 0])/\zd w w':=by
 obtain ⟨h,a8⟩:=zi2 hp f1;obtain ⟨A,c,rfl,_⟩:=id f1;rw [vJ hp];rw [vJ hp] at a8;obtain ⟨ad,rfl⟩:∃ ad,A=some ad:=by obtain ⟨ad,e,_⟩:=zL.ev (zj.cn a8.o (vJ hp).symm) (by rw [jf,vJ hp];omega);exact ⟨ad,e⟩
 clear hp f1;go_enter func123,ntmps123;go_upto_region 2 with (show wpList _ _ _ (⟨none,.store 204 (.tmp 8) (.tmp 18),_,_,_,_⟩::_) _ _;refine vH rfl 204 (.tmp 8) (.tmp 18) rfl (w.heap.size+1) (by simp) _ (qj t n Jc).toArray (by rfl) (congrArg Value.agg (zop t n)) (zpI t n) (zof t n) GM ?_);obtain ⟨w1,d0⟩:=ex ((w.alloc (.cells zeroCells204 204)).alloc (.cells (qj t n Jc).toArray 204));have h3:w1.heap[w.heap.size]?=some (.cells zeroCells204 204 (0,0)):=by rw [d0];exact zw (zo _ _ rfl) _
 have h2:qS w1 (w.heap.size+1) t n Jc:=by rw [d0];exact zo _ _ (by simp)
 have e8:zd w w1:=by rw [d0];exact B_alloc (B_alloc (zf _ _) _) _
 rw [<- d0];obtain ⟨e4,Y,d2⟩:=zi3 h3 h2 e8;have h6:=hid (a8.o.below e8);clear d0 h3 h2 e8;obtain ⟨n3,i8⟩:=ex (Value.agg ((zeroCells204.setIfInBounds 1 (.int .i64 t)).setIfInBounds 2 (.int .i64 n)));rw [<- i8];clear i8;go_upto_region 4 with fail;go_upto_region 5 with (first|(go_at_call 51;(with_reducible refine (Jh _ _ _ h6.o).mono ?_);rintro R w2 ⟨rfl,f5,a4⟩;rw [zke] at f5)|(go_at_call 52;(with_reducible refine (zjn _ p.mark _ _ f5 h.o.mark (by rw [qI,vJ h.o];omega)).mono ?_);rintro R w3 ⟨rfl,m3,c3⟩)|(show wpList _ _ _ (⟨none,.store 35 (.tmp 26) (.tmp 25),_,_,_,_⟩::_) _ _;refine Zl rfl 35 (.tmp 26) (.tmp 25) rfl (w.heap.size+1) 0 (qj t n Jc).toArray 204 (.int .u64 p.mark) (by rfl) (by rfl) (by kernel_rfl) (qq (zg Y.o a4 (zi Y.o)) c3 (fun e=>by have:=zi Y.o;injection e with e;omega)) (by rw [YG];simp) rfl ?_));obtain ⟨p4,f4⟩:∃ q:Pg,q=⟨p.mark,[none,none,none,none,none]⟩:=⟨_,rfl⟩;obtain ⟨w4,d1⟩:=ex (w3.setCell ⟨w.heap.size+1,0,none⟩ (.int .u64 p.mark));have l8:w.heap.size+1<w1.heap.size:=zi Y.o;have e7:qS w4 (w.heap.size+1) t n p4:=by rw [d1,f4];exact qS.f3 (p:=Jc) (qq (zg Y.o a4 (zi Y.o)) c3 (fun e=>by injection e with e;omega)) p.mark
 have h4:w4.heap[w.heap.size]?=some (.cells zeroCells204 204 (0,0)):=by rw [d1];exact QB (qq (zg e4.o a4 (zi e4.o)) c3 (fun e=>by injection e with e;omega)) (by simp) _
 have e9:zd w w4:=by rw [d1];exact B_set ((B_call d2.o a4).grown c3 (B_call d2.o a4).size (fun i e=>by injection e with e;have:=d2.o.size;omega)) (by simp) _
 rw [<- d1];obtain ⟨k1,k4,j0,e3⟩:=zi4 e7 h4 e9 f4;have f8:=hid (a8.o.below e9);have l9:w.heap.size+1<w4.heap.size:=zi e7;clear d1 e7 h4 e9 f4 c3 a4 m3 f5 h6 e4 Y d2 l8;go_upto_region 7 with fail;go_loopw [9,10,27] (fun v _ u wr=>∃ k:Nat,k<=4/\u=.int .i64 k/\wr.ownsRow w4.heap.size 5 1 v (56*k) (zD (Jm (jD t n p) k))/\zd w4 wr) (fun _ _ u _=>(4-intOf u).toNat)
 case atStart=>exact ⟨0,by omega,rfl,⟨rfl,.inl ⟨rfl,rfl⟩⟩,zf _ _⟩
 case round =>
  obtain ⟨k,hk,rfl,a3,a1⟩:=hrel;by_cases n1:k<4
  ·have i0:(k:Int)<4:=by omega
   obtain ⟨A9,c9,rfl⟩:=own_slice a3;obtain ⟨U,c8⟩:=ex (k*64+8);obtain ⟨m1,f3⟩:=ex (k*64+64);have x1:(k:Int)*64+8=(U:Int):=by omega
   have n2:IntKind.i64.wrap (U:Int)=(U:Int):=by rw [zu];omega
   have x3:IntKind.i64.wrap (((k:Int)+1)*64)=(m1:Int):=by rw [zu];omega
   have l5:256<=c:=by obtain ⟨A6,m6,e,_,h9,_⟩:=f8.o;injection e with R m7 l2;rw [<- l2,vJ h.o] at h9;exact h9
   have y1:(m1:Int)<=(c:Int):=by omega
   have y2:U<=m1:=by omega
   have y3:¬ (c=U):=by omega
   have y4:m1-U=56:=by omega
   have HM:=hid (And.intro c8 f3);obtain ⟨g0,a6⟩:=zi2 a3 a1;clear c8 f3 l5 a3 a1;have k7:Hid (zL wr wr.heap.size 1 (some (ad.add U)) 56 (zD (((jD t n p).drop (k*64+8)).take 56))):=by have hs:=zj.sub (f8.o.below a6.o) U 56 (by rw [HM.o.1];omega) (by rw [HM.o.1];omega);rw [HM.o.1] at hs ⊢;exact hid (zj.cn hs (by rw [qf,qI,vJ h.o];omega))
   go_wp2_with (at_builtin;refine jX rfl (.tmp 30) (.tmp 38) 29 5 1 1 rfl underlying29 QS (by omega) _ _ _ w4.heap.size (by rfl) g0.o _ 56 _ _ _ (by rfl) k7.o (yp _) (by omega) (by omega) a6.o.size ?_;intro v4 w5 m2 l6 _);have k0:Hid (w5.ownsRow w4.heap.size 5 1 v4 (56*(k+1)) (zD (Jm (jD t n p) (k+1)))):=by
    have e:Jm (jD t n p) (k+1)=Jm (jD t n p) k++((jD t n p).drop (k*64+8)).take 56:=by simp [Jm,List.range_succ]
    rw [e,yV,show 56*(k+1)=56*k+56 by omega];exact hid m2
   have j4:=hid (vn a6.o g0.o l6);go_roundw
   case rel=>exact ⟨k+1,by omega,by simp,k0.o,j4.o⟩
   case measure=>simp [intOf];omega
  ·have l7:k=4:=by omega
   subst l7;obtain ⟨A9,c9,rfl⟩:=own_slice a3;have j1:=hid (B_call j0.o a1);have e1:Hid (qS wr (w.heap.size+1) t n p4):=hid (zg k1.o a1 l9);have g5:Hid (wr.heap[w.heap.size]?=some (.cells zeroCells204 204 (0,0))):=hid (zg k4.o a1 (by omega));have l4:=hid (zhB a3);have h7:=zj.aj (by rw [zfN h.o 4 (by omega)]) a3;obtain ⟨j8,a6⟩:=zi2 h7 a1;clear a3 a1 h7;go_upto_region 12 with (go_at_call 51;(with_reducible refine (zrf w4.heap.size _ _ _ _ _ j8.o l4.o).mono ?_);rintro R w6 ⟨rfl,a5,d5⟩);have d3:=hid (zg g5.o d5 (zi g5.o));have a9:Hid (qS w6 (w.heap.size+1) t n p4):=hid (zg e1.o d5 (zi e1.o));have X:=hid (B_call j1.o d5);have Z:=hid a5;have l3:w.heap.size+1<wr.heap.size:=zi e1.o;obtain ⟨G,hG⟩:=ex wr.heap.size;rw [<- hG] at Z l3;rw [<- hG];have HG:=hid (YI.lt Z.o);have h1:w4.heap.size<=G:=by rw [hG];exact a6.o.size
   clear a5 d5 hG;have e5:w6.cell? ⟨w.heap.size+1,0,none⟩=some (.int .u64 p.mark):=by have:=ze w6 (w.heap.size+1) 0 _ _ _ a9.o;rw [e3.o] at this;exact this
   by_cases hm:p.mark=0
   case' pos =>
    have c8:(p.mark:Int)=0:=by omega
    have e2:Hid (qS w6 (w.heap.size+1) t n p):=hid (by rw [Pg.g6 h.o hm,<- e3.o];exact a9.o);clear Z;go_upto_region 14 with fail;go_upto_region 15 with fail;go_loopw [12] (fun u wr=>u=.int .i64 0/\wr=w6) (fun _ _=>0)
    case atStart=>exact ⟨rfl,rfl⟩
    case' round =>obtain ⟨rfl,rfl⟩:=hrel;go_upto_region 18 with fail;clear c8 hm e5 a9;have g9:=d3;have e0:=X;clear d3 X
   case' neg =>
    have c8:¬ ((p.mark:Int)=0):=by omega
    have f3:(0:Int)<(p.mark:Int):=by omega
    have a5:=Z.o;rw [zjT h.o hm] at a5;have Z:=hid a5;have z1:IntKind.i64.wrap (t:Int)=t:=by rw [zu];omega
    have z2:IntKind.i64.wrap (n:Int)=n:=by rw [zu];omega
    have d4:=hid (Ku h.o);clear a5;go_upto_region 14 with (first|(go_at_call 52;(with_reducible refine (zlT G w4.heap.size t _ w6 Z.o (by omega) (by rw [zl,zG,zl,d4.o];simp [zs])).mono ?_);rintro R w7 ⟨rfl,i3,c4⟩)|(go_at_call 52;(with_reducible refine (zlT G w4.heap.size n _ w7 i3 (by omega) (by rw [zl,d4.o];simp [zs])).mono ?_);rintro R w8 ⟨rfl,i4,d7⟩));have m8:G≠w.heap.size+1:=by omega
    have m9:G≠w.heap.size:=by omega
    have g3:Hid (qS w8 (w.heap.size+1) t n (p.b7 0)):=by have h9:qS w8 (w.heap.size+1) t n p4:=qq (qq a9.o c4 (fun e=>by injection e with e;omega)) d7 (fun e=>by injection e with e;omega);rw [e3.o] at h9;exact hid h9
    have g6:=hid (qq (qq d3.o c4 (fun e=>by injection e with e;omega)) d7 (fun e=>by injection e with e;omega));have f6:=hid ((X.o.grown c4 X.o.size (fun i e=>by injection e with e;omega)).grown d7 (X.o.grown c4 X.o.size (fun i e=>by injection e with e;omega)).size (fun i e=>by injection e with e;omega));have g8:=hid i4;clear i4 c4 d7 i3 d3 X a9 e5 z1 z2 Z;go_upto_region 15 with fail;go_loopw [12] (fun u wr=>∃ k:Nat,k<=5/\u=.int .i64 k/\qS wr (w.heap.size+1) t n (p.b7 k)/\YI wr G w4.heap.size ((uu p++zs 20).drop (40*k))/\wr.heap[w.heap.size]?=some (.cells zeroCells204 204 (0,0))/\zd w wr) (fun u _=>(5-intOf u).toNat)
    case atStart=>exact ⟨0,by omega,rfl,g3.o,g8.o,g6.o,f6.o⟩
    case' round =>
     obtain ⟨k,hk,rfl,a0,i6,c0,b9⟩:=hrel;have e5:=xV (.int .u64 p.mark) 0 a0;have i1:=Pg.ht h.o k hk;obtain ⟨D,l0,O,L,f9⟩:=zi5 a0 i6 c0 b9 i1;clear a0 i6 c0 b9 i1 g3 g6 f6 g8;by_cases c5:k<5
     case pos =>
      have i0:(k:Int)<5:=by omega
      obtain ⟨o,ho⟩:∃ o,p.ap[k]?=some o:=⟨_,zX (by have:=h.o.b5;omega)⟩;have HO:=hid ho;clear ho;go_upto_region 17 with fail;have k9:Hid (YI wr.drew G w4.heap.size ((uu p++zs 20).drop (40*k))):=hid (l0.o.same (fun _ _ _=>rfl) h1);refine sV [] 7 (fun _=>True) trivial fun E=>?_;refine pV 0 ?_;refine pV 1 ?_;refine pV 2 ?_;refine pV 3 ?_;refine pV 4 ?_;refine oC 5 (zok G w4.heap.size _ wr.drew k9.o ?l40 ?l10) ?_
      case l40=>rw [qI,zl,d4.o];simp [zs];omega
      case l10=>rw [qI,zl,d4.o];simp [zs];omega
      rintro R w9 ⟨v9,rfl,d9,i5,d8⟩;obtain ⟨m4,l1,rfl⟩:=own_slice d9;have g4:Hid (qS w9 (w.heap.size+1) t n (p.b7 k)):=hid (qq (show wr.drew.heap[w.heap.size+1]?=_ from D.o) d8 (fun e=>by injection e with e;omega));have k5:Hid (w9.heap[w.heap.size]?=some (.cells zeroCells204 204 (0,0))):=hid (qq (show wr.drew.heap[w.heap.size]?=_ from O.o) d8 (fun e=>by injection e with e;omega));have j2:=hid (L.o.drew.grown d8 L.o.drew.size (fun i e=>by injection e with e;omega));have k8:=hid i5;rw [zog h.o k c5 o HO.o] at d9;have i2:=zL.aj d9;obtain ⟨m5,rfl,i7⟩:=zL.ev i2 (by rw [jf,yS (h.o.a7 o (zC HO.o))];omega);have j6:=hid (zln g4.o f9.o o (h.o.a7 o (zC HO.o)) c5 (c:=l1) i7);clear d8 i5 d9 i2 i7;refine eV trivial fun E=>?_;refine oV 6 fun K hK=>?_;refine uL (Yt (.tmp 73) (.tmp 75) #[29,29] rfl (by rfl) (by rfl) j6.o) ?_;refine hK.out _ _ trivial (fun E=>?_);clear hK K;try simp only [pS]
      refine dV ?_;have g2:=hid (qS.setRow g4.o f9.o c5 (h.o.a7 o (zC HO.o)));rw [Pg.gn h.o k c5 o HO.o] at g2;have k3:=hid (Gn k5.o (show w.heap.size≠w.heap.size+1 by omega) (List.take (3+k*40) (qj t n (p.b7 k))++(zD (jV o)++List.drop (3+k*40+40) (qj t n (p.b7 k)))).toArray);have g7:=hid (k8.o.same (w':=w9.setRow (w.heap.size+1) (List.take (3+k*40) (qj t n (p.b7 k))++(zD (jV o)++List.drop (3+k*40+40) (qj t n (p.b7 k)))).toArray) (fun x _ hx=>setRow_other _ _ _ _ (by omega)) h1);have i9:=hid (below_setRow j2.o (show w.heap.size<=w.heap.size+1 by omega) (List.take (3+k*40) (qj t n (p.b7 k))++(zD (jV o)++List.drop (3+k*40+40) (qj t n (p.b7 k)))).toArray);go_wp2_with fail;go_roundw
      case rel=>exact ⟨k+1,by omega,by simp,g2.o,by rw [List.drop_drop] at g7;rw [show 40*(k+1)=40*k+40 by omega];exact g7.o,k3.o,i9.o⟩
      case measure=>simp [intOf];omega
     case' neg =>
      have f2:k=5:=by omega
      subst f2;rw [Pg.gm h.o] at D;go_upto_region 18 with fail;have e2:=D;have g9:=O;have e0:=L
   all_goals
    have j9:=hid (a8.o.below e0.out);have m0:w.heap.size+1<wr.heap.size:=zi e2.o;have hS:=And.intro e2.o j9.o;have a7:=hid (Qk (t:=t) (n:=n) h.o);refine sV [] 6 (fun w'=>w'.heap[w.heap.size+1]?=some (.cells (qj t n p).toArray 204 (0,0))/\zj w' (.slice (some ad) 256 c) (jD t n p)) hS fun E=>?_;refine kV 0 rfl (qR 204 (.tmp 8) rfl (by rfl) (w.heap.size+1) (by rfl) 204 (qj t n p).toArray (0,0) _ (fun _ e6=>e6.1) underlying204 rfl (by simp only [qH,a7.o];kernel_rfl)) ?_;refine pV 3 ?_;refine kV 4 rfl (uU 29 9 (.tmp 80) rfl (by rfl) (.slice (some ad) 256 c) (.string (zb (jD t n p))) (by rfl) (fun _ e6=>um e6.2)) ?_;refine oC 1 (zcV t n p _ h.o (by omega) hn) ?_;rintro R wa ⟨va,rfl,h8,c1⟩;refine eV ⟨zg E.1 c1 m0,E.2.below c1⟩ fun E=>?_;refine oV 2 fun K hK=>?_;refine Qn 29 9 (.tmp 78) rfl va (.string (zb (jD t n p))) (by rfl) (um h8) ?_;refine hK.out _ _ E (fun E=>?_);clear hK K;try simp only [pS]
    refine pV 5 ?_;refine dV ?_;have n0:((zb (jD t n p)).toList == (zb (jD t n p)).toList)=true:=by simp
    have k2:Hid (qS wa (w.heap.size+1) t n p):=hid E.1;have k6:Hid (wa.heap[w.heap.size]?=some (.cells zeroCells204 204 (0,0))):=hid (zg (show wr.drew.heap[w.heap.size]?=_ from g9.out) c1 (by show w.heap.size<wr.heap.size;omega));have j3:=hid (B_call e0.out.drew c1);clear c1 h8 E hS;go_upto_region 21 with fail;go_loopw [13,14,15,84] (fun _ _ _ u wr=>∃ k:Nat,k<=5/\u=.int .i64 k/\qS wr (w.heap.size+1) t n p/\wr.heap[w.heap.size]?=some (.cells zeroCells204 204 (0,0))/\zd w wr) (fun _ _ _ u _=>(5-intOf u).toNat)
    case atStart=>exact ⟨0,by omega,rfl,k2.o,k6.o,j3.o⟩
    case round =>
     obtain ⟨k,hk,rfl,a0,c0,b9⟩:=hrel;obtain ⟨D,O,L⟩:=zi3 a0 c0 b9;have c6:w.heap.size+1<wr.heap.size:=zi a0;clear a0 c0 b9;by_cases c5:k<5
     ·have i0:(k:Int)<5:=by omega
      obtain ⟨o,ho⟩:∃ o,p.ap[k]?=some o:=⟨_,zX (by have:=h.o.b5;omega)⟩;have d6:=h.o.a7 o (zC ho);have h5:=zj.cd (n:=40) (qS.slot D.o h.o ho) c6 (yS d6).symm (by rw [yS d6];omega);obtain ⟨f7,j5⟩:=zi2 h5 d6;clear h5 ho d6;cases o with
      | none =>
       go_wp2_with (go_at_call 137;(with_reducible refine (Gw _ wr f7.o).mono ?_);rintro R wb ⟨rfl,c2⟩;have z:=hid c2;clear c2);have c7:w.heap.size<wr.heap.size:=by omega
       go_roundw
       case rel =>
        first
        | exact ⟨k+1,by omega,by simp,zw (zg D.o z.o c6) _,zw (zg O.o z.o c7) _,B_alloc (B_call L.o z.o) _⟩
        | ((repeat apply Exists.intro);refine ⟨?_,rfl⟩;exact ⟨k+1,by omega,by simp,zw (zg D.o z.o c6) _,zw (zg O.o z.o c7) _,B_alloc (B_call L.o z.o) _⟩)
       case measure=>simp [intOf];omega
      | some r =>
       have f0:=Jp _ r j5.o wr f7.o;unfold zfg at f0;have j7:=hid f0;clear f0;go_wp2_with ((with_reducible refine aV 137 j7.o ?_);rintro R wb ⟨rfl,c2⟩;have z:=hid c2;clear c2);have c7:w.heap.size<wr.heap.size:=by omega
       go_roundw
       case rel =>
        first
        | exact ⟨k+1,by omega,by simp,zw (zg D.o z.o c6) _,zw (zg O.o z.o c7) _,B_alloc (B_call L.o z.o) _⟩
        | ((repeat apply Exists.intro);refine ⟨?_,rfl⟩;exact ⟨k+1,by omega,by simp,zw (zg D.o z.o c6) _,zw (zg O.o z.o c7) _,B_alloc (B_call L.o z.o) _⟩)
       case measure=>simp [intOf];omega
     ·have f2:k=5:=by omega
      subst f2;go_upto_region 27 with fail;go_wp2_with (first|(show wpList _ _ _ (⟨some 99,_,_,_,_,_⟩::_) _ _;refine wpList_load_row rfl 204 (.tmp 8) rfl (w.heap.size+1) (by rfl) 204 (qj t n p).toArray (0,0) _ D.o underlying204 rfl (by simp only [qH,a7.o];kernel_rfl) ?_)|(show wpList _ _ _ (⟨none,.store 204 (.tmp 6) (.tmp 99),_,_,_,_⟩::_) _ _;refine wpList_store_row (o:=⟨none,.store 204 (.tmp 6) (.tmp 99),_,_,_,_⟩) rfl 204 (.tmp 6) (.tmp 99) rfl w.heap.size (qj t n p).toArray (by rfl) (by rfl) 204 zeroCells204 O.o (by simp only [qH,a7.o];kernel_rfl) (by simp only [qH,a7.o];kernel_rfl) GM ?_));refine yG 6 7 204 rfl rfl w.heap.size 204 (qj t n p).toArray (0,0) _ (.int .i64 0) rfl rfl (setRow_heap _ _ _ _ _ _ O.o) underlying204 rfl (by simp only [qH,a7.o];kernel_rfl) ⟨rfl,below_setRow L.o (za _) _⟩
section
structure zx where
 pg:Option (Nat × Nat × Pg)
 ae:Nat
 a2:Bool
def zx.aw (f:zx):Option Nat:=f.pg.map (·.2.1)
def zx.bh (f:zx):Option Addr:=f.pg.map fun x=>⟨x.1,0,none⟩
def zx.none:zx:=⟨Option.none,0,false⟩
def qx (f:zx):List Value:=[.pointer f.bh,.int .u64 f.ae,.bool f.a2]
def jl (D r L:Nat) (fs:List zx) (hand:Nat):List Value :=
 .pointer (some ⟨D,0,Option.none⟩)::.int .i64 r::.pointer (some ⟨L,0,Option.none⟩)::(fs.flatMap qx++[.int .i64 hand])
structure qr (w:World) (B D r L:Nat) (fs:List zx) (hand:Nat):Prop where
 U:w.heap[B]?=some (.cells (jl D r L fs hand).toArray 200 (0,0))
 a5:fs.length=3
 hand:hand<3
 bj:∀ f,f∈fs->∀ b n p,f.pg=some (b,n,p)->qS w b r n p
 apart:∀ (i j:Nat) (fi fj:zx) b n p n' p',fs[i]?=some fi->fs[j]?=some fj->fi.pg=some (b,n,p)->fj.pg=some (b,n',p')->i=j
def vN (B:Nat) (fs:List zx):Nat->Prop:=fun x=>x=B∨∃ f∈fs,∃ n p,f.pg=some (x,n,p)
theorem Qz:∀ (l:List zx),(l.flatMap qx).length=l.length*3
 | []=>rfl
 | f::l=>by rw [qC,zl,Qz l,qc];simp [qx];omega
theorem zhg:∀ (l:List zx) (k:Nat) (f:zx) (j:Nat),l[k]?=some f->j<3->(l.flatMap qx)[k*3+j]?=(qx f)[j]?
 | [],k,f,j,h,_=>by simp at h
 | x::l,0,f,j,h,hj=>by simp only [List.getElem?_cons_zero,jd] at h;subst h;rw [qC,Nat.zero_mul,qy,vZ (by simpa [qx] using hj)]
 | x::l,k+1,f,j,h,hj=>by rw [qC,vg (by simp [qx];omega),show (k+1)*3+j-(qx x).length=k*3+j by simp [qx];omega];exact zhg l k f j (by simpa using h) hj
theorem zbX {D r L hand:Nat} {fs:List zx} {k:Nat} {f:zx} (h:fs[k]?=some f) (j:Nat) (u:j<3):(jl D r L fs hand)[3+k*3+j]?=(qx f)[j]?:=by have z:k<fs.length:=(zr.1 h).1;unfold jl;rw [show 3+k*3+j=(k*3+j)+1+1+1 by omega,List.getElem?_cons_succ,List.getElem?_cons_succ,List.getElem?_cons_succ,vZ (by rw [Qz];omega)];exact zhg fs k f j h u
section
variable {w:World} {B D r L hand:Nat} {fs:List zx}
theorem qr.cell (h:qr w B D r L fs hand) {k:Nat} {f:zx} (u:fs[k]?=some f) (j:Nat) (z:j<3):w.cell? ⟨B,3+k*3+j,Option.none⟩=(qx f)[j]?:=by rw [ze w B _ _ _ _ h.U,List.getElem?_toArray,zbX u j z]
theorem qr.c0 (h:qr w B D r L fs hand) {k:Nat} {f:zx} (u:fs[k]?=some f):w.cell? ⟨B,3+k*3,Option.none⟩=some (.pointer f.bh):=h.cell u 0 (by omega)
theorem qr.c1 (h:qr w B D r L fs hand) {k:Nat} {f:zx} (u:fs[k]?=some f):w.cell? ⟨B,3+k*3+1,Option.none⟩=some (.int .u64 f.ae):=h.cell u 1 (by omega)
theorem qr.c2 (h:qr w B D r L fs hand) {k:Nat} {f:zx} (u:fs[k]?=some f):w.cell? ⟨B,3+k*3+2,Option.none⟩=some (.bool f.a2):=h.cell u 2 (by omega)
theorem qr.cb (h:qr w B D r L fs hand) {k:Nat} (u:k<3):∃ f,fs[k]?=some f:=⟨_,zX (by rw [h.a5];exact u)⟩
theorem qr.aw (h:qr w B D r L fs hand) {k:Nat} {f:zx} (u:fs[k]?=some f) {b n:Nat} {p:Pg} (z:f.pg=some (b,n,p)):w.cell? ⟨b,2,Option.none⟩=some (.int .i64 n) :=
 ze w b 2 _ _ _ (h.bj f (zC u) b n p z)
end
def yA (fs:List zx) (n:Nat):Nat->Nat->Option Nat
 | 0,_=>.none
 | k+1,i=>if (fs[i]?.bind zx.aw)=some n then some i else yA fs n k (i+1)
def jT (fs:List zx) (n:Nat):Option Nat:=yA fs n 3 0
def Je (B:Nat) (o:Option Nat):Option Addr:=o.map fun k=>⟨B,3+k*3,Option.none⟩
theorem zbe {fs:List zx} {n k i:Nat} (h:¬ ((fs[i]?.bind zx.aw)=some n)):yA fs n (k+1) i=yA fs n k (i+1):=by rw [yA,if_neg h]
theorem zgv {fs:List zx} {n k i:Nat} (h:(fs[i]?.bind zx.aw)=some n):yA fs n (k+1) i=some i:=by rw [yA,if_pos h]
theorem KL (B D r a0 hand n:Nat) (fs:List zx) (w:World) (h:qr w B D r a0 fs hand) :
  zc 102 #[.pointer (some ⟨B,0,Option.none⟩),.int .i64 n] w fun e w'=>e=.returned (.pointer (Je B (jT fs n)))/\w'=w:=by
 have H:=hid h;clear h;go_enter func102,ntmps102;go_upto_region 2 with fail;go_loopg [5,6,7] 3 (fun g s5 s6 s7 wr=>∃ k:Nat,k+g=3/\s7=.int .i64 k/\Aside (yA fs n g k=jT fs n)/\wr=w)
 case atStart=>exact ⟨0,by omega,rfl,rfl,rfl⟩
 case round =>
  obtain ⟨k,a3,rfl,L,rfl⟩:=hrel;cases gk with
  | zero =>
   have a1:¬ ((k:Int)<3):=by omega
   have U:Aside (jT fs n=Option.none):=L.out.symm;go_wp2_with fail;go_ret;rw [U.out];exact ⟨rfl,rfl⟩
  | succ g =>
   have a1:(k:Int)<3:=by omega
   obtain ⟨f,E⟩:=H.o.cb (show k<3 by omega);have Y:=H.o.c0 E;have R:=hid E;cases u:f.pg with
   | none =>
    have z:f.bh=Option.none:=by simp [zx.bh,u]
    rw [z] at Y;have O:=hid u;clear E u z;go_wp2_with fail;go_roundg g
    case measure=>omega
    case rel=>exact ⟨k+1,by omega,rfl,by show _=_;rw [<- L.out,zbe (by rw [R.o];simp [zx.aw,O.o])],rfl⟩
   | some x =>
    obtain ⟨b,X,p⟩:=x;have z:f.bh=some ⟨b,0,Option.none⟩:=by simp [zx.bh,u]
    rw [z] at Y;have c2:=H.o.aw E u;have O:=hid u;clear E u z;by_cases Z:X=n
    ·subst Z;have U:Aside (jT fs X=some k):=by rw [<- L.out];exact zgv (by rw [R.o];simp [zx.aw,O.o])
     go_wp2_with fail;go_ret;rw [U.out];exact ⟨rfl,rfl⟩
    ·have a4:¬ ((X:Int)=(n:Int)):=by omega
     go_wp2_with fail;go_roundg g
     case measure=>omega
     case rel=>exact ⟨k+1,by omega,rfl,by show _=_;rw [<- L.out,zbe (by rw [R.o];simp [zx.aw,O.o,Z])],rfl⟩
def jA:List zx:=[zx.none,zx.none,zx.none]
theorem qr.dq {w:World} {B D r L:Nat} (h:w.heap[B]?=some (.cells (jl D r L jA 0).toArray 200 (0,0))):qr w B D r L jA 0:=by
 have E:∀ f,f∈jA->f.pg=Option.none:=fun f z=>by simp [jA,zx.none] at z;subst z;rfl
 refine ⟨h,rfl,by omega,fun f z b n p u=>?_,fun i j O U b n p X Y R _ u _=>?_⟩
 ·rw [E f z] at u;cases u
 ·rw [E O (zC R)] at u;cases u
theorem zhH (D r L:Nat) (w:World) :
  zc 80 #[.pointer (some ⟨D,0,Option.none⟩),.int .i64 r,.pointer (some ⟨L,0,Option.none⟩)] w fun e w'=>e=.returned (.pointer (some ⟨w.heap.size,0,Option.none⟩))/\qr w' w.heap.size D r L jA 0/\zd w w':=by
 go_enter func80,ntmps80;go_wp2_with fail;go_ret;exact ⟨rfl,qr.dq (zo _ _ rfl),B_alloc (zf _ _) _⟩
def Qx (fs:List zx) (n:Nat):Bool:=match jT fs n with
 | Option.none=>true
 | some k=>match fs[k]? with
  | Option.none=>true
  | some f=>f.ae == 0
theorem GF {fs:List zx} {n:Nat}:∀ {g i k:Nat},yA fs n g i=some k->k<i+g/\(fs[k]?.bind zx.aw)=some n
 | 0,i,k,h=>by simp [yA] at h
 | g+1,i,k,h=>by
  unfold yA at h;split at h
  ·rename_i u;injection h with h;subst h;exact ⟨by omega,u⟩
  ·have:=GF h;exact ⟨by omega,this.2⟩
theorem Qy {fs:List zx} {n k:Nat} (h:jT fs n=some k):∃ f b p,fs[k]?=some f/\f.pg=some (b,n,p):=by
 have:=(GF h).2;cases z:fs[k]? with
 | none=>rw [z] at this;cases this
 | some f =>rw [z] at this;simp only [Option.bind_some,zx.aw,Option.map_eq_some_iff] at this;obtain ⟨⟨b,E,p⟩,D,u⟩:=this;simp only at u;subst u;exact ⟨f,b,p,rfl,D⟩
theorem zll (B D r L hand n:Nat) (fs:List zx) (w:World) (h:qr w B D r L fs hand) :
  zc 135 #[.pointer (some ⟨B,0,Option.none⟩),.int .i64 n] w fun e w'=>e=.returned (.bool (Qx fs n))/\w'=w:=by
 have H:=hid h;have z:=KL B D r L hand n fs w h;clear h;cases u:jT fs n with
 | none =>
  have E:Qx fs n=true:=by simp [Qx,u]
  simp only [u,Je,Option.map_none] at z;obtain ⟨R,O⟩:=zi2 E z;clear u E z;go_enter func135,ntmps135;go_wp2_with ((with_reducible refine aV 102 O.o ?_);rintro X w1 ⟨rfl,rfl⟩);go_ret;rw [R.o];exact ⟨rfl,rfl⟩
 | some k =>
  obtain ⟨f,b,p,U,Y⟩:=Qy u;have E:Qx fs n=(f.ae == 0):=by simp [Qx,u,U]
  have Z:=H.o.c1 U;simp only [u,Je,qk] at z;obtain ⟨R,O⟩:=zi2 E z;clear u U Y E z;go_enter func135,ntmps135;go_wp2_with ((with_reducible refine aV 102 O.o ?_);rintro X w1 ⟨rfl,rfl⟩);go_ret;rw [R.o];refine ⟨?_,rfl⟩;have e:((f.ae:Int) == 0)=(f.ae == 0):=by rw [Bool.eq_iff_iff];simp
  rw [<- e];rfl
end
section
theorem zfK:∀ (l:List zx) (k j:Nat) (f f':zx) (v:Value),l[k]?=some f->j<3->qx f'=(qx f).set j v->(l.set k f').flatMap qx=(l.flatMap qx).set (k*3+j) v
 | [],k,j,f,f',v,h,_,_=>by simp at h
 | x::l,0,j,f,f',v,h,hj,hc=>by simp only [List.getElem?_cons_zero,jd] at h;subst h;rw [List.set_cons_zero,qC,qC,hc,Nat.zero_mul,qy,List.set_append_left _ _ (by simpa [qx] using hj)]
 | x::l,k+1,j,f,f',v,h,hj,hc=>by rw [List.set_cons_succ,qC,qC,List.set_append_right _ _ (by simp [qx];omega),show (k+1)*3+j-(qx x).length=k*3+j by simp [qx];omega];rw [zfK l k j f f' v (by simpa using h) hj hc]
theorem zgy {D r L hand:Nat} {fs:List zx} {k j:Nat} {f f':zx} {v:Value} (h:fs[k]?=some f) (z:j<3) (u:qx f'=(qx f).set j v) :
  jl D r L (fs.set k f') hand=(jl D r L fs hand).set (3+k*3+j) v:=by
 have E:k<fs.length:=(zr.1 h).1;unfold jl;rw [show 3+k*3+j=(k*3+j)+1+1+1 by omega,List.set_cons_succ,List.set_cons_succ,List.set_cons_succ,List.set_append_left _ _ (by rw [Qz];omega),zfK fs k j f f' v h z u]
section
variable {w w':World} {B D r L hand:Nat} {fs:List zx}
theorem qr.fu (h:w.heap[B]?=some (.cells (jl D r L fs hand).toArray 200 (0,0))) {k j:Nat} {f:zx} (f':zx) {v:Value} (z:fs[k]?=some f) (E:j<3) (u:qx f'=(qx f).set j v) :
  (w.setCell ⟨B,3+k*3+j,Option.none⟩ v).heap[B]?=some (.cells (jl D r L (fs.set k f') hand).toArray 200 (0,0)):=by
 rw [zgy z E u,zB _ _ _ _ _ _ h,List.setIfInBounds_toArray]
theorem qr.ne (h:qr w B D r L fs hand) {f:zx} (z:f∈fs) {b n:Nat} {p:Pg} (E:f.pg=some (b,n,p)):b≠B:=fun e=>by have u:=h.bj f z b n p E;unfold qS at u;rw [e,h.U] at u;injection u with u;injection u with _ u;exact absurd u (by decide)
theorem qr.put (h:qr w B D r L fs hand) {k:Nat} {f f':zx} {X:Nat} (Y:fs[k]?=some f) (hb:w'.heap[B]?=some (.cells (jl D r L (fs.set k f') X).toArray 200 (0,0))) (hh:X<3)
  (hp:∀ b n p,f'.pg=some (b,n,p)->qS w' b r n p)
  (ho:∀ j g b n p,j≠k->fs[j]?=some g->g.pg=some (b,n,p)->w'.heap[b]?=w.heap[b]?)
  (hd:∀ b n p,f'.pg=some (b,n,p)->(∃ n p,f.pg=some (b,n,p))∨w.heap.size<=b):qr w' B D r L (fs.set k f') X:=by
 have hk:k<fs.length:=(zr.1 Y).1;have key:∀ i g,(fs.set k f')[i]?=some g->(i=k/\g=f')∨(i≠k/\fs[i]?=some g):=by
  intro i g z;rw [List.getElem?_set] at z;split at z
  ·rename_i e;subst e;injection z with z;exact .inl ⟨rfl,z.symm⟩
  ·rename_i e;exact .inr ⟨fun e'=>e e'.symm,z⟩
 refine ⟨hb,by rw [List.length_set];exact h.a5,hh,fun g z b n p Z=>?_,fun i j fi fj b n p n' p' u O R U=>?_⟩
 ·obtain ⟨i,u⟩:=List.getElem?_of_mem z;rcases key i g u with ⟨rfl,rfl⟩ | ⟨a3,u⟩
  ·exact hp b n p Z
  ·exact (ho i g b n p a3 u Z).trans (h.bj g (zC u) b n p Z)
 ·rcases key i fi u with ⟨ei,a0⟩ | ⟨a4,u⟩<;>rcases key j fj O with ⟨ej,a1⟩ | ⟨a5,O⟩
  ·rw [ei,ej]
  ·exfalso;rw [a0] at R;rcases hd b n p R with ⟨n2,p2,E⟩ | E
   ·exact a5 (h.apart _ _ _ _ _ _ _ _ _ O Y U E)
   ·have:=zi (h.bj fj (zC O) b n' p' U);omega
  ·exfalso;rw [a1] at U;rcases hd b n' p' U with ⟨n2,p2,E⟩ | E
   ·exact a4 (h.apart _ _ _ _ _ _ _ _ _ u Y R E)
   ·have:=zi (h.bj fi (zC u) b n p R);omega
  ·exact h.apart _ _ _ _ _ _ _ _ _ u O R U
theorem zdR:∀ (l:List zx) (k:Nat) (f f':zx),l[k]?=some f->qx f'=qx f->(l.set k f').flatMap qx=l.flatMap qx
 | [],k,f,f',h,_=>by simp at h
 | x::l,0,f,f',h,hc=>by simp only [List.getElem?_cons_zero,jd] at h;subst h;rw [List.set_cons_zero,qC,qC,hc]
 | x::l,k+1,f,f',h,hc=>by rw [List.set_cons_succ,qC,qC,zdR l k f f' (by simpa using h) hc]
theorem Yr {k:Nat} {f f':zx} (h:fs[k]?=some f) (u:qx f'=qx f):jl D r L (fs.set k f') hand=jl D r L fs hand:=by unfold jl;rw [zdR fs k f f' h u]
end
def zx.dt (f:zx) (m:Nat):zx:=⟨f.pg.map fun x=>(x.1,x.2.1,{ x.2.2 with mark:=m }),if f.ae=0 then m else f.ae,f.a2⟩
def YZ (fs:List zx) (n m:Nat):List zx:=match jT fs n with
 | Option.none=>fs
 | some k=>match fs[k]? with
  | Option.none=>fs
  | some f=>fs.set k (f.dt m)
theorem zgk (B a3 r a4 hand n m:Nat) (fs:List zx) (w:World) (a7:qr w B a3 r a4 fs hand) :
  zc 126 #[.pointer (some ⟨B,0,Option.none⟩),.int .i64 n,.int .u64 m] w fun e w'=>e=.returned (.tuple #[])/\qr w' B a3 r a4 (YZ fs n m) hand/\zA (vN B fs) w w':=by
 have H:=hid a7;have X:=KL B a3 r a4 hand n fs w a7;clear a7;cases R:jT fs n with
 | none =>
  have hN:YZ fs n m=fs:=by simp [YZ,R]
  simp only [R,Je,Option.map_none] at X;obtain ⟨HN,HC⟩:=zi2 hN X;clear R hN X;go_enter func126,ntmps126;go_wp2_with ((with_reducible refine aV 102 HC.o ?_);rintro e1 w1 ⟨rfl,d2⟩;subst w1);refine ZS rfl rfl ?_;rw [HN.o];exact ⟨rfl,H.o,zA.refl _ _⟩
 | some k =>
  obtain ⟨f,b,p,U,hp⟩:=Qy R;have hN:YZ fs n m=fs.set k (f.dt m):=by simp [YZ,R,U]
  have ha:f.bh=some ⟨b,0,Option.none⟩:=by simp [zx.bh,hp]
  have c4:=H.o.c0 U;rw [ha] at c4;have d0:=H.o.c1 U;have hpg:=H.o.bj f (zC U) b n p hp;have c8:=H.o.ne (zC U) hp;simp only [R,Je,qk] at X;obtain ⟨HN,HC,O,E,c3,b9⟩:=zi6 hN X U hp hpg c8;clear R U hp hN X hpg c8 ha;go_enter func126,ntmps126;go_upto_region 2 with ((with_reducible refine aV 102 HC.o ?_);rintro e1 w1 ⟨rfl,d2⟩;subst w1);go_upto_region 3 with (show wpList _ _ _ (⟨none,.store 35 (.tmp 18) (.tmp 16),_,_,_,_⟩::_) _ _;refine Zl rfl 35 (.tmp 18) (.tmp 16) rfl b 0 (qj r n p).toArray 204 (.int .u64 m) (by rfl) (by rfl) (by kernel_rfl) c3.o (by simp [qj]) rfl ?_);obtain ⟨L,a0⟩:=ex (w.setCell ⟨b,0,Option.none⟩ (.int .u64 m));have a5:L.heap[B]?=some (.cells (jl a3 r a4 fs hand).toArray 200 (0,0)):=by rw [a0];exact QB H.o.U (fun e=>b9.o e.symm) _
  have c7:qS L b r n { p with mark:=m }:=by rw [a0];exact c3.o.f3 m
  have c5:zA (vN B fs) w L:=by rw [a0];exact (zA.refl _ _).set (.inl (.inr ⟨f,zC O.o,n,p,E.o⟩)) _
  have c6:∀ x,x≠b->L.heap[x]?=w.heap[x]?:=fun x hx=>by rw [a0];exact zt _ _ _ _ hx
  rw [<- a0];have d3:L.cell? ⟨B,3+k*3+1,Option.none⟩=some (.int .u64 f.ae):=by rw [ze L B _ _ _ _ a5,List.getElem?_toArray,zbX O.o 1 (by omega)];rfl
  have d4:L.frozen? ⟨B,3+k*3+1,Option.none⟩=false:=zI L B _ _ _ a5;obtain ⟨a8,c2,a9,c0⟩:=zi4 a5 c7 c5 c6;clear a0 a5 c7 c5 c6 c4 d0;have c1:Hid (∀ j g h z D,j≠k->fs[j]?=some g->g.pg=some (h,z,D)->h≠b):=hid (fun j g h z D hj Y Z e=>by subst e;exact hj (H.o.apart _ _ _ _ _ _ _ _ _ Y O.o Z E.o));by_cases hs:f.ae=0
  ·have d1:(f.ae:Int)=0:=by omega
   have a1:f.dt m=⟨some (b,n,{ p with mark:=m }),m,f.a2⟩:=by simp [zx.dt,E.o,hs]
   have a6:=hid a1;clear a1;go_wp2_with fail;refine ZS rfl rfl ?_;rw [HN.o,a6.o];refine ⟨rfl,H.o.put O.o (qr.fu a8.o _ O.o (j:=1) (by omega) ?_) H.o.hand ?_ ?_ ?_,a9.o.set (.inl (.inl rfl)) _⟩
   ·simp [qx,zx.bh,E.o]
   ·intro h z D u;simp only [jd,Prod.mk.injEq] at u;obtain ⟨rfl,rfl,rfl⟩:=u;exact QB c2.o b9.o _
   ·intro j g h z D hj Y Z;exact (zt _ _ _ _ (H.o.ne (zC Y) Z)).trans (c0.o _ (c1.o j g h z D hj Y Z))
   ·intro h z D u;simp only [jd,Prod.mk.injEq] at u;obtain ⟨rfl,rfl,rfl⟩:=u;exact .inl ⟨n,p,E.o⟩
  ·have d1:¬ ((f.ae:Int)=0):=by omega
   have a1:f.dt m=⟨some (b,n,{ p with mark:=m }),f.ae,f.a2⟩:=by simp [zx.dt,E.o,hs]
   have a6:=hid a1;clear a1;go_wp2_with fail;refine ZS rfl rfl ?_;rw [HN.o,a6.o];refine ⟨rfl,H.o.put O.o (by rw [Yr O.o (by simp [qx,zx.bh,E.o])];exact a8.o) H.o.hand ?_ ?_ ?_,a9.o⟩
   ·intro h z D u;simp only [jd,Prod.mk.injEq] at u;obtain ⟨rfl,rfl,rfl⟩:=u;exact c2.o
   ·intro j g h z D hj Y Z;exact c0.o _ (c1.o j g h z D hj Y Z)
   ·intro h z D u;simp only [jd,Prod.mk.injEq] at u;obtain ⟨rfl,rfl,rfl⟩:=u;exact .inl ⟨n,p,E.o⟩
end
def Qu (c:Nat->List UInt8) (r n:Nat) (p:Pg):Prop:=∀ i,i<4->c (514+4*n+i)=((jD r n p).drop (i*64)).take 64
theorem zmK (l:List UInt8) (k:Nat):l.take (64*k)++(l.drop (k*64)).take 64=l.take (64*(k+1)):=by rw [show 64*(k+1)=k*64+64 by omega,List.take_add,Nat.mul_comm 64 k]
theorem zmg (B D r c2 hand n:Nat) (fs:List zx) (F:Nat->Prop) (cur:Nat->Nat->List UInt8) (p:Pg) (w:World) (a0:qr w B D r c2 fs hand) (hD:jk w D F cur) (hr:r<4) (hn:n<6) (hp:p.ok) (a5:Qu (cur r) r n p) :
  zc 148 #[.pointer (some ⟨B,0,none⟩),.int .i64 n] w fun e w'=>∃ v,e=.returned (.tuple #[v,.int .i64 0])/\zj w' v (jD r n p)/\zd w w':=by
 obtain ⟨H,HD,a8,Z⟩:=zi4 a0 hD a5 hp;clear a0 hD a5 hp;go_enter func148,ntmps148;go_upto_region 3 with fail;go_loopw [6,7,8,9,10] (fun v _ _ _ u wr=>∃ k:Nat,k<=4/\u=.int .i64 k/\wr.ownsRow w.heap.size 5 1 v (64*k) (zD ((jD r n p).take (64*k)))/\zd w wr) (fun _ _ _ _ u _=>(4-intOf u).toNat)
 case atStart=>exact ⟨0,by omega,rfl,⟨rfl,.inl ⟨rfl,rfl⟩⟩,zf _ _⟩
 case round =>
  obtain ⟨k,hk,rfl,X,a3⟩:=hrel;obtain ⟨A6,c6,rfl⟩:=own_slice X;obtain ⟨U,h⟩:=zi2 X a3;clear X a3;by_cases c4:k<4
  ·have d0:(k:Int)<4:=by omega
   have L:=zg H.o.U h.o (zi H.o.U);have c0:=xV (.pointer (some ⟨D,0,none⟩)) 0 L;have c1:=xV (.int .i64 r) 1 L;have a1:jk wr.drew D F cur:=(zK.below HD.o h.o).drew;have a7:=hid a1;have a4:B<wr.drew.heap.size:=zi L;obtain ⟨s,hs⟩:=ex (514+4*n+k);have x1:IntKind.i64.wrap (4*(n:Int))=4*(n:Int):=by rw [zu];omega
   have x2:IntKind.i64.wrap (514+4*(n:Int))=514+4*(n:Int):=by rw [zu];omega
   have x3:IntKind.i64.wrap (514+4*(n:Int)+(k:Int))=(s:Int):=by rw [zu];omega
   have HS:=hid hs;clear L a1 hs;go_upto_region 5 with fail;refine sV [] 19 (fun w'=>zH w' B 0 (.pointer (some ⟨D,0,none⟩))/\zH w' B 1 (.int .i64 r)) ⟨c0,c1⟩ fun z=>?_;refine pV 0 ?_;refine pV 1 ?_;refine pV 2 ?_;refine tV 3 ?_;refine pV 4 ?_;refine pV 5 ?_;refine pV 6 ?_;refine tV 7 ?_;refine pV 8 ?_;refine pV 9 ?_;refine pV 10 ?_;refine pV 11 ?_;refine pV 12 ?_;refine oC 13 (Ys D F cur _ r s _ a7.o (by omega) (by omega) (by omega) (by rw [HS.o];omega)) ?_;rintro e1 w2 ⟨v2,rfl,O,E⟩;rw [qp,qp,HS.o,a8.o k c4] at O;obtain ⟨A2,c8,rfl⟩:=own_slice O;refine eV ⟨qU z.1 E a4,qU z.2 E a4⟩ fun z=>?_;refine pV 14 ?_;refine pV 15 ?_;refine pV 16 ?_;refine pV 17 ?_;refine pV 18 ?_;refine dV ?_;have a9:=hid O;have R:=hid (uE E);have Y:Hid (w2.ownsRow w.heap.size 5 1 (.slice A6 (64*k) c6) (64*k) (zD ((jD r n p).take (64*k)))):=hid (own_same U.o fun x hx=>R.o.block x (U.o.lt x hx).2);clear O E c0 c1 z x1 x2 x3;go_wp2_with (at_builtin;refine jX rfl (.tmp 33) (.tmp 34) 29 5 1 1 rfl underlying29 QS (by omega) _ _ _ w.heap.size (by rfl) Y.o _ 64 _ _ _ (by rfl) (zL.aj a9.o) (yp _) (by omega) (by omega) (B_call h.o R.o).size ?_;intro v4 w5 c7 c3 _);have b9:Hid (w5.ownsRow w.heap.size 5 1 v4 (64*(k+1)) (zD ((jD r n p).take (64*(k+1))))):=by rw [<- zmK,yV,show 64*(k+1)=64*k+64 by omega];exact hid c7
   have a6:=hid (vn (B_call h.o R.o) Y.o c3);go_roundw
   case rel=>exact ⟨k+1,by omega,by simp,b9.o,a6.o⟩
   case measure=>simp [intOf];omega
  ·have c5:k=4:=by omega
   subst c5;go_wp2_with fail;go_ret2;refine ⟨_,rfl,?_,h.o⟩;have h9:=U.o;rw [jG (by rw [vJ Z.o];omega)] at h9;exact zj.aj (vJ Z.o).symm h9
section
section
variable {w w':World} {B D r L hand:Nat} {fs:List zx}
theorem qr.a3 (h:qr w B D r L fs hand) {x:Nat} (E:vN B fs x):qP w x∈[200,204]:=by
 rcases E with rfl | ⟨f,u,n,p,z⟩
 ·rw [zh h.U];simp
 ·rw [zh (h.bj f u x n p z)];simp
theorem qr.lt (h:qr w B D r L fs hand) {x:Nat} (E:vN B fs x):x<w.heap.size:=by
 rcases E with rfl | ⟨f,u,n,p,z⟩
 ·exact zi h.U
 ·exact zi (h.bj f u x n p z)
theorem qr.same (h:qr w B D r L fs hand) (hs:∀ x,vN B fs x->w'.heap[x]?=w.heap[x]?):qr w' B D r L fs hand :=
 ⟨(hs B (.inl rfl)).trans h.U,h.a5,h.hand,fun f u b n p z=>(hs b (.inr ⟨f,u,n,p,z⟩)).trans (h.bj f u b n p z),h.apart⟩
theorem qr.ac {M:Nat->Prop} (h:qr w B D r L fs hand) (z:zA M w w') (hm:∀ x,vN B fs x->¬ M x):qr w' B D r L fs hand :=
 h.same fun x u=>z.block x (h.lt u) (hm x u)
theorem qr.below (h:qr w B D r L fs hand) (hb:zd w w'):qr w' B D r L fs hand:=h.same fun x u=>hb.block x (h.lt u)
theorem qr.ar {u:Nat} {F:Nat->Prop} {cur:Nat->Nat->List UInt8} {z:Nat->Nat} (h:qr w B D r L fs hand) (hd:zK w u F cur z):∀ x,vN B fs x->¬ F x:=fun x E O=>by have a:=h.a3 E;have b:=hd.ah O;simp at a b;omega
theorem qr.bg {z u Y O bank:Nat} {E:List UInt8} {Z:Nat} {FL:Nat->Prop} (h:qr w B D r L fs hand) (X:jP w z u Y O bank E Z FL):∀ x,vN B fs x->¬ FL x:=fun x R U=>by have a:=h.a3 R;have b:=X.a3 x U;simp at a b;omega
end
structure zn where
 fs:List zx
 hand:Nat
 J:Nat
 bank:Nat
 Q:List UInt8
 av:Nat
 dp:Nat->Pg
structure qQ (w:World) (B D L r:Nat) (FL F:Nat->Prop) (cur:Nat->Nat->List UInt8) (s:zn):Prop where
 ab:qr w B D r L s.fs s.hand
 bg:jP w L D r s.J s.bank s.Q s.av FL
 ar:jk w D F cur
 on:yW (cur r) s.J s.bank (s.Q.take s.av)
 fa:∀ n,n<6->Qu (cur r) r n (s.dp n)
 r4:r<4
 cm:s.bank<=1
 c3:s.J<4294967296
 len:s.Q.length<=14336
 dm:s.av<=s.Q.length
 cx:∀ n,(s.dp n).ok
 co:∀ f,f∈s.fs->∀ b n p,f.pg=some (b,n,p)->n<6/\p.ok
def zn.a0 (s:zn) (k:Nat):zn:=match s.fs[k]? with
 | none=>s
 | some f=>match f.pg with
  | none=>s
  | some (_,n,p)=>if f.ae=0 then s else { s with fs:=s.fs.set k { f with ae:=0 },av:=s.Q.length,dp:=zZ s.dp n p }
def vq (cur cur':Nat->Nat->List UInt8) (r:Nat):Prop:=∀ h q,h≠r∨q=0->cur' h q=cur h q
theorem vq.refl (cur:Nat->Nat->List UInt8) (r:Nat):vq cur cur r:=fun _ _ _=>rfl
theorem vq.trans {a b c:Nat->Nat->List UInt8} {r:Nat} (h:vq a b r) (k:vq b c r):vq a c r:=fun u q h0=>(k u q h0).trans (h u q h0)
def Yx (cur:Nat->Nat->List UInt8) (r n:Nat) (bs:List UInt8) (k:Nat):Nat->Nat->List UInt8:=fun h q =>
 if h=r/\514+4*n<=q/\q<514+4*n+k then (bs.drop ((q-(514+4*n))*64)).take 64 else cur h q
theorem zmQ (cur:Nat->Nat->List UInt8) (r n:Nat) (bs:List UInt8):Yx cur r n bs 0=cur:=by funext r' q;unfold Yx;rw [if_neg (by omega)]
theorem zmP (cur:Nat->Nat->List UInt8) (r n:Nat) (bs:List UInt8) (k:Nat):ve (Yx cur r n bs k) r (514+4*n+k) ((bs.drop (k*64)).take 64)=Yx cur r n bs (k+1):=by
 funext r' q;unfold ve Yx;by_cases h:r'=r/\q=514+4*n+k
 ·obtain ⟨rfl,rfl⟩:=h;rw [zk,zk,if_pos ⟨rfl,by omega,by omega⟩,Nat.add_sub_cancel_left]
 ·by_cases z:r'=r
  ·subst z;have D:q≠514+4*n+k:=fun e=>h ⟨rfl,e⟩;rw [zk,zy _ _ D];by_cases u:514+4*n<=q/\q<514+4*n+k
   ·rw [if_pos ⟨rfl,u.1,u.2⟩,if_pos ⟨rfl,u.1,by omega⟩]
   ·rw [if_neg (fun e=>u e.2),if_neg (fun e=>u ⟨e.2.1,by omega⟩)]
  ·rw [zy _ _ z,if_neg (fun e=>z e.1),if_neg (fun e=>z e.1)]
theorem Qu.a0 {cur:Nat->Nat->List UInt8} {r n:Nat} {p:Pg}:Qu (Yx cur r n (jD r n p) 4 r) r n p:=fun i h=>by unfold Yx;rw [if_pos ⟨rfl,by omega,by omega⟩,show 514+4*n+i-(514+4*n)=i by omega]
theorem zba {cur:Nat->Nat->List UInt8} {r n:Nat} {bs:List UInt8} {u q:Nat} (h:u≠r∨q<514+4*n∨514+4*n+4<=q):Yx cur r n bs 4 u q=cur u q:=by unfold Yx;rw [if_neg (by omega)]
theorem yW.congr {c u:Nat->List UInt8} {z bank:Nat} {b:List UInt8} (h:yW c z bank b) (D:∀ q,1<=q->q<514->u q=c q) (hb:bank<=1:=by assumption):yW u z bank b :=
 ⟨(D 1 (by omega) (by omega)).trans h.1,fun s hs=>(D _ (by omega) (by omega)).trans (h.2 s hs)⟩
theorem zj.U {w w':World} {A:Addr} {n c:Nat} {l:List UInt8} (h:zj w (.slice (some A) n c) l) (hb:w'.heap[A.block]?=w.heap[A.block]?) (hz:w.heap.size<=w'.heap.size):zj w' (.slice (some A) n c) l:=by obtain ⟨Y,Z,e,z,O,R⟩:=h;injection e with D E L;subst D E L;refine ⟨_,_,rfl,⟨z.1,fun h0=>?_⟩,O,R⟩;obtain ⟨ad,e,a0,U⟩:=z.2 h0;injection e with e;subst e;exact ⟨_,rfl,by omega,fun j u X=>(yt (a:=A.add j) (by rw [zaw];exact hb)).trans (U j u X)⟩
theorem zkd {l:List UInt8} (h:l.length=64):jN l=l:=by simp [jN,h,zs]
theorem zkj (B D L r k:Nat) (FL F:Nat->Prop) (cur:Nat->Nat->List UInt8) (s:zn) (w:World) (a5:qQ w B D L r FL F cur s) (hk:k<3) :
  zc 103 #[.pointer (some ⟨B,0,none⟩),.pointer (some ⟨B,3+k*3,none⟩)] w fun e w'=>e=.returned (.int .i64 0)/\∃ F' cur',qQ w' B D L r FL F' cur' (s.a0 k)/\vq cur cur' r/\zA (zcJ (zcJ FL F) (vN B s.fs)) w w'/\qN w F F':=by
 obtain ⟨f,z⟩:=a5.ab.cb hk;have c8:=a5.ab.c0 z;have i0:=a5.ab.c1 z;obtain ⟨H,U⟩:=zi2 a5 z;clear a5;cases E:f.pg with
 | none =>
  have ha:f.bh=none:=by simp [zx.bh,E]
  have X:s.a0 k=s:=by simp [zn.a0,z,E]
  rw [ha] at c8;have HN:=hid X;clear z E ha X;go_enter func103,ntmps103;go_wp2_with fail;go_ret;rw [HN.o];exact ⟨rfl,F,cur,H.o,vq.refl _ _,zA.refl _ _,qN.refl _ _⟩
 | some x =>
  obtain ⟨b,n,p⟩:=x;have ha:f.bh=some ⟨b,0,none⟩:=by simp [zx.bh,E]
  rw [ha] at c8;by_cases hs:f.ae=0
  ·have X:s.a0 k=s:=by simp [zn.a0,z,E,hs]
   have g4:(f.ae:Int)=0:=by omega
   have HN:=hid X;clear z E ha X hs;go_enter func103,ntmps103;go_wp2_with fail;go_ret;rw [HN.o];exact ⟨rfl,F,cur,H.o,vq.refl _ _,zA.refl _ _,qN.refl _ _⟩
  ·have X:s.a0 k={ s with fs:=s.fs.set k { f with ae:=0 },av:=s.Q.length,dp:=zZ s.dp n p }:=by simp [zn.a0,z,E,hs]
   have g4:¬ ((f.ae:Int)=0):=by omega
   have i9:((f.ae:Int) == 0)=false:=by simpa using hs
   have k2:=xV (.pointer (some ⟨L,0,none⟩)) 2 H.o.ab.U;obtain ⟨HN,HP⟩:=zi2 X E;have a0:=hid (H.o.co f (zC z) b n p E);have d9:=hid (zdX D F FL cur L r s.J s.bank s.Q s.av w H.o.bg H.o.ar H.o.on H.o.r4 H.o.cm H.o.c3 H.o.len H.o.dm);clear z E ha X hs;go_enter func103,ntmps103;go_upto_region 4 with ((with_reducible refine aV 66 d9.o ?_);rintro e1 w1 ⟨rfl,F1,a7,f7,f5,g2,g6,d3,f9⟩);have c0:qr w1 B D r L s.fs s.hand:=H.o.ab.ac d3 (fun x h hm=>hm.elim (H.o.ab.bg H.o.bg x h) (H.o.ab.ar H.o.ar x h));have e9:=c0.c0 U.o;rw [show f.bh=some ⟨b,0,none⟩ by simp [zx.bh,HP.o]] at e9;have h7:=hid c0;have h6:=hid (c0.bj f (zC U.o) b n p HP.o);obtain ⟨e3,c4,h4,e8,e0,e4⟩:=zi6 f7 f5 g2 g6 d3 f9;have g8:=hid (Qk (t:=r) (n:=n) a0.o.2);have c7:=hid H.o.r4;clear c0 f7 f5 g2 g6 d3 f9 k2 c8 i0 d9 g4 i9;go_upto_region 6 with fail;go_upto_region 7 with (first|(show wpList _ _ _ (⟨some 35,_,_,_,_,_⟩::_) _ _;refine wpList_load_row rfl 204 (.tmp 34) rfl b (by rfl) 204 (qj r n p).toArray (0,0) _ h6.o underlying204 rfl (by simp only [qH,g8.o];kernel_rfl) ?_)|((with_reducible refine aV 136 (Gt r n p w1 a0.o.2 (by have:=c7.o;omega) (by have:=a0.o.1;omega)) ?_);rintro e1 w2 ⟨A,c,rfl,hA,f6,a8⟩));have i4:¬ F1 A.block:=fun O=>by have:=zK.lt c4.o _ O;omega
   obtain ⟨c2,c6,HA⟩:=zi3 a8 f6 hA;have d7:=hid (c4.o.below a8);have e5:=hid (h7.o.below a8);clear a8 f6 hA e9;obtain ⟨bs,a9⟩:=ex (jD r n p);have f4:bs.length=256:=by rw [a9];exact vJ a0.o.2
   rw [<- a9] at c6;obtain ⟨g7,c3⟩:=zi2 a9 f4;clear a9 f4;go_upto_region 8 with fail;go_loopw [7,8,37] (fun _ _ d6 wr=>∃ (j:Nat) (F':Nat->Prop),j<=4/\d6=.int .i64 j/\zK wr D F' (Yx a7 r n bs j) (zZ (fun _=>0) r j)/\zA F1 w2 wr/\qN w2 F1 F') (fun _ _ d6 _=>(4-intOf d6).toNat)
   case atStart=>exact ⟨0,F1,by omega,rfl,by rw [zmQ];exact zK.mono d7.o (fun _ _=>zT _),zA.refl _ _,qN.refl _ _⟩
   case round =>
    obtain ⟨j,F',hj,rfl,f1,d1,f3⟩:=hrel;have R:qr wr B D r L s.fs s.hand:=e5.o.ac d1 (fun x h hm=>e5.o.ar d7.o x h hm);obtain ⟨e6,c5,a4,a6⟩:=zi4 R f1 d1 f3;clear f1 d1 f3;by_cases j6:j<4
    ·have j7:(j:Int)<4:=by omega
     have q0:=xV (.pointer (some ⟨D,0,none⟩)) 0 R.U;have q1:=xV (.int .i64 r) 1 R.U;have q3:wr.drew.cell? ⟨B,3+k*3,none⟩=some (.pointer (some ⟨b,0,none⟩)):=by have:=R.c0 U.o;rw [show f.bh=some ⟨b,0,none⟩ by simp [zx.bh,HP.o]] at this;exact this
     have q4:wr.drew.cell? ⟨b,2,none⟩=some (.int .i64 n):=R.aw U.o HP.o;have g0:=a0.o.1;obtain ⟨sj,g5⟩:=ex (514+4*n+j);obtain ⟨u,d4⟩:=ex (j*64);obtain ⟨m1,f8⟩:=ex (j*64+64);have x1:IntKind.i64.wrap (4*(n:Int))=4*(n:Int):=by rw [zu];omega
     have x2:IntKind.i64.wrap (514+4*(n:Int))=514+4*(n:Int):=by rw [zu];omega
     have x3:IntKind.i64.wrap (514+4*(n:Int)+(j:Int))=(sj:Int):=by rw [zu];omega
     have x4:(j:Int)*64=(u:Int):=by omega
     have j0:IntKind.i64.wrap (u:Int)=(u:Int):=by rw [zu];omega
     have x5:IntKind.i64.wrap ((j:Int)+1)=(j:Int)+1:=by rw [zu];omega
     have x6:IntKind.i64.wrap (((j:Int)+1)*64)=(m1:Int):=by rw [zu];omega
     have d2:=c6.o.U (a4.o.block _ (by obtain ⟨A',c',e,hr,_⟩:=c6.o;injection e with e1;subst e1;obtain ⟨ad,e,i8,_⟩:=hr.2 (by rw [c3.o];omega);injection e with e;subst e;exact i8) i4) a4.o.size;have i5:256<=c:=by obtain ⟨A6,j1,e,_,O,_⟩:=d2;injection e with e1 j2 i1;rw [<- i1,c3.o] at O;exact O
     have y1:(m1:Int)<=(c:Int):=by omega
     have y2:u<=m1:=by omega
     have y4:m1-u=64:=by omega
     have g3:zj wr (.slice (some (A.add u)) 64 (c-u)) ((bs.drop (j*64)).take 64):=by rw [<- d4];exact d2.sub u 64 (by omega) (by omega)
     have h5:=hid g3;have e7:=hid (And.intro g5 (And.intro d4 f8));have y3:¬ (c=u):=by omega
     have h3:=hid g0;clear d2 i5 g3 g5 d4 f8 R g0;go_upto_region 10 with fail;refine sV [26] 28 (fun w'=>zH w' B 0 (.pointer (some ⟨D,0,none⟩))/\zH w' B 1 (.int .i64 r)/\zH w' B (3+k*3) (.pointer (some ⟨b,0,none⟩))/\zH w' b 2 (.int .i64 n)) ⟨q0,q1,q3,q4⟩ fun d0=>?_;refine pV 0 ?_;refine pV 1 ?_;refine pV 2 ?_;refine tV 3 ?_;refine pV 4 ?_;refine pV 5 ?_;refine pV 6 ?_;refine tV 7 ?_;refine pV 8 ?_;refine pV 9 ?_;refine pV 10 ?_;refine tV 11 ?_;refine pV 12 ?_;refine pV 13 ?_;refine tV 14 ?_;refine pV 15 ?_;refine pV 16 ?_;refine pV 17 ?_;refine pV 18 ?_;refine pV 19 ?_;refine pV 20 ?_;refine pV 21 ?_;refine pV 22 ?_;refine pV 23 ?_;refine pV 24 ?_;refine pV 25 ?_;refine lV 26 fun K hK=>?_;refine vI 97 _ _ [.pointer (some ⟨D,0,none⟩),.int .i64 r,.int .i64 sj,.slice (some (A.add u)) 64 (c-u)] rfl (by kernel_rfl) (by rfl) ((Ka D F' _ _ r sj _ _ wr.drew c5.o.drew (by omega) (by have:=c7.o;omega) (by omega) (by have j4:=e7.o.1;have j5:=h3.o;omega) h5.o.drew (by rw [qf];omega) (by rw [qp,zk];omega)).mono ?_);rintro e1 w5 ⟨rfl,F5,Y,a3,f2⟩;rw [qp,qp,e7.o.1,zkd (by rw [qf,qI,c3.o];omega),zmP] at Y;refine ⟨_,rfl,?_⟩;refine hK.out _ _ ?_;clear hK K;try simp only [pS]
     refine pV 27 ?_;refine dV ?_;have g9:Hid (zK w5 D F5 (Yx a7 r n bs (j+1)) (zZ (fun _=>0) r (j+1))):=hid (zK.mono Y (fun r' _=>by
      unfold KH;by_cases e:r'=r
      ·subst e;simp only [zk];omega
      ·rw [zy _ _ e,zy _ _ e];exact zT _))
     have h1:=hid (a4.o.drew.next a3 a6.o);have h2:=hid (qN.trans (w1:=wr.drew) a6.o f2 a4.o.size);clear Y a3 f2 d0 q0 q1 q3 q4 x1 x2 x3 x4 j0 x5 x6 y1 y2 y3 y4;go_wp2_with fail;go_roundw
     case rel=>exact ⟨j+1,F5,by omega,by simp,g9.o,h1.o,h2.o⟩
     case measure=>simp [intOf];omega
    ·have i6:j=4:=by omega
     subst i6;have q0:=xV (.pointer (some ⟨D,0,none⟩)) 0 R.U;have q1:=xV (.int .i64 r) 1 R.U;clear R;go_upto_region 14 with fail;refine sV [8] 10 (fun w'=>zH w' B 0 (.pointer (some ⟨D,0,none⟩))/\zH w' B 1 (.int .i64 r)) ⟨q0,q1⟩ fun d0=>?_;refine pV 0 ?_;refine pV 1 ?_;refine pV 2 ?_;refine tV 3 ?_;refine pV 4 ?_;refine pV 5 ?_;refine pV 6 ?_;refine tV 7 ?_;refine lV 8 fun K hK=>?_;refine vI 98 _ _ [.pointer (some ⟨D,0,none⟩),.int .i64 r] rfl (by kernel_rfl) (by rfl) ((Qf D F' _ _ r wr.drew c5.o.drew (by omega) (by have:=c7.o;omega) (by rw [qp,zk];omega)).mono ?_);rintro e1 w5 ⟨rfl,Y,a3⟩;rw [qp] at Y;refine ⟨_,rfl,?_⟩;refine hK.out _ _ ?_;clear hK K;try simp only [pS]
     refine pV 9 ?_;refine dV ?_;have f0:jk w5 D F' (Yx a7 r n bs 4):=jk.of (r:=r) (zK.mono Y (fun r' _=>by
      by_cases e:r'=r
      ·subst e;simp only [zk];omega
      ·rw [zy _ _ e,zy _ _ e,zy _ _ e];exact za _))
     have d8:=hid f0;have e2:=hid (a4.o.drew.next a3 a6.o);have c1:qr w5 B D r L s.fs s.hand:=(e6.o.same (w':=wr.drew) (fun _ _=>rfl)).ac a3 (fun x h hm=>e6.o.ar c5.o x h hm);have j3:=zI w5 B (3+k*3+1) _ _ c1.U;have a1:=hid c1;have k1:=c1.c1 U.o;clear Y a3 f0 c1 d0 q0 q1;go_wp2_with fail;go_ret;have d5:=zC U.o;have i3:∀ x,FL x->x≠B:=fun x h e=>H.o.ab.bg H.o.bg B (.inl rfl) (e ▸ h);have i2:∀ x,F' x->x≠B:=fun x h e=>a1.o.ar d8.o B (.inl rfl) (e ▸ h);refine ⟨rfl,F',Yx a7 r n bs 4,?_,?_,?_,?_⟩
     ·rw [HN.o];have i7:=(e3.o.below c2.o).ac e2.o (fun x h=>QC e3.o c4.o x h);refine ⟨?_,i7.same (fun x h=>zt _ _ _ _ (i3 x h)) (by simp),zK.same d8.o (fun x h=>zt _ _ _ _ (i2 x h)) (by simp),?_,?_,H.o.r4,H.o.cm,H.o.c3,H.o.len,za _,?_,?_⟩
      ·refine a1.o.put U.o (qr.fu a1.o.U { f with ae:=0 } U.o (j:=1) (by omega) (by simp [qx,zx.bh])) H.o.ab.hand ?_ ?_ ?_
       ·intro b' Z p' O;exact QB (a1.o.bj f d5 b' Z p' O) (a1.o.ne d5 O) _
       ·intro j g b' Z p' _ hg b9;exact zt _ _ _ _ (a1.o.ne (zC hg) b9)
       ·intro b' Z p' O;exact .inl ⟨Z,p',O⟩
      ·show yW _ _ _ (s.Q.take s.Q.length);rw [qi];exact h4.o.congr (fun q _ hq=>zba (by omega)) H.o.cm
      ·intro m hm;show Qu _ r m (zZ s.dp n p m);by_cases e:m=n
       ·subst e;rw [zk,g7.o];exact Qu.a0
       ·rw [zy _ _ e];intro i hi;rw [zba (by omega),e8.o r _ (.inr (.inr (by omega)))];exact H.o.fa m hm i hi
      ·intro m;show (zZ s.dp n p m).ok;by_cases e:m=n
       ·subst e;rw [zk];exact a0.o.2
       ·rw [zy _ _ e];exact H.o.cx m
      ·intro g hg b' Z p' b9;rcases vf hg with hg | rfl
       ·exact H.o.co g hg b' Z p' b9
       ·exact H.o.co f d5 b' Z p' b9
     ·intro r' q h0;rw [zba (by omega),e8.o r' q (by omega)]
     ·have h8:zA (zcJ FL F) w w2:=e0.o.call c2.o;have h9:zA (zcJ FL F) w w5:=h8.trans e2.o (fun x h=>(e4.o x h).imp .inr id);exact (h9.mono (fun x h=>.inl (.inl h))).set (.inl (.inr (.inl rfl))) _
     ·exact qN.trans (w1:=w2) e4.o a6.o (zz e0.o.size c2.o.size)
end
def jL (B:Nat) (FL F:Nat->Prop) (s:zn):Nat->Prop:=zcJ (zcJ FL F) (vN B s.fs)
structure qv (w w':World) (M M':Nat->Prop) (cur cur':Nat->Nat->List UInt8) (r:Nat):Prop where
 out:vq cur cur' r
 ac:zA M w w'
 new:qN w M M'
theorem qv.refl (w:World) (M:Nat->Prop) (cur:Nat->Nat->List UInt8) (r:Nat):qv w w M M cur cur r:=⟨vq.refl _ _,zA.refl _ _,qN.refl _ _⟩
theorem qv.trans {w w1 D:World} {M u z:Nat->Prop} {a b c:Nat->Nat->List UInt8} {r:Nat} (h:qv w w1 M u a b r) (k:qv w1 D u z b c r):qv w D M z a c r :=
 ⟨h.out.trans k.out,h.ac.next k.ac h.new,h.new.trans k.new h.ac.size⟩
theorem qv.call {w w1 z:World} {M u:Nat->Prop} {a b:Nat->Nat->List UInt8} {r:Nat} (h:qv w w1 M u a b r) (k:zd w1 z):qv w z M u a b r:=⟨h.out,h.ac.call k,h.new⟩
theorem qQ.below {w w':World} {B D L r:Nat} {FL F:Nat->Prop} {cur:Nat->Nat->List UInt8} {s:zn} (h:qQ w B D L r FL F cur s) (hb:zd w w'):qQ w' B D L r FL F cur s :=
 { h with ab:=h.ab.below hb,bg:=h.bg.below hb,ar:=h.ar.below hb }
theorem qQ.drew {w:World} {B D L r:Nat} {FL F:Nat->Prop} {cur:Nat->Nat->List UInt8} {s:zn} (h:qQ w B D L r FL F cur s):qQ w.drew B D L r FL F cur s:=h.below (zf _ _).drew
theorem ziM {B:Nat} {s:zn} {k x:Nat} (h:vN B (s.a0 k).fs x):vN B s.fs x:=by
 unfold zn.a0 at h;split at h
 ·exact h
 ·rename_i f L;split at h
  ·exact h
  ·rename_i b n p O;split at h
   ·exact h
   ·rcases h with h | ⟨g,u,D,E,z⟩
    ·exact .inl h
    ·rcases vf u with u | rfl
     ·exact .inr ⟨g,u,D,E,z⟩
     ·exact .inr ⟨f,zC L,D,E,z⟩
theorem zek (B D L r k:Nat) (FL F:Nat->Prop) (cur:Nat->Nat->List UInt8) (s:zn) (w:World) (h:qQ w B D L r FL F cur s) (Z:k<3) :
  zc 103 #[.pointer (some ⟨B,0,none⟩),.pointer (some ⟨B,3+k*3,none⟩)] w fun e w'=>e=.returned (.int .i64 0)/\∃ F' cur',qQ w' B D L r FL F' cur' (s.a0 k)/\qv w w' (jL B FL F s) (jL B FL F' (s.a0 k)) cur cur' r :=
 (zkj B D L r k FL F cur s w h Z).mono fun _ _ ⟨E,F',cur',O,R,U,X⟩=>⟨E,F',cur',O,R,U,fun x hx=>hx.elim (fun z=>z.elim (fun u=>.inl (.inl (.inl u))) (fun u=>(X x u).imp (fun Y=>.inl (.inr Y)) id)) (fun z=>.inl (.inr (ziM z)))⟩
def zn.bc (s:zn) (n:Nat):zn:=match jT s.fs n with
 | none=>s
 | some k=>s.a0 k
def zn.a6 (s:zn) (k:Nat):zn:=(List.range k).foldl zn.bc s
theorem zn.b4 (s:zn) (k:Nat):s.a6 (k+1)=(s.a6 k).bc k:=by simp [zn.a6,List.range_succ]
theorem zni {fs:List zx} {n k:Nat} (h:jT fs n=some k):k<3:=by have:=(GF h).1;omega
theorem zfL (B D L r n:Nat) (FL F:Nat->Prop) (cur:Nat->Nat->List UInt8) (s:zn) (w:World) (h:qQ w B D L r FL F cur s) :
  zc 62 #[.pointer (some ⟨B,0,none⟩),.int .i64 n] w fun e w'=>e=.returned (.int .i64 0)/\∃ F' cur',qQ w' B D L r FL F' cur' (s.bc n)/\qv w w' (jL B FL F s) (jL B FL F' (s.bc n)) cur cur' r:=by
 have z:=KL B D r L s.hand n s.fs w h.ab;have H:=hid h;clear h;cases u:jT s.fs n with
 | none =>
  have E:s.bc n=s:=by simp [zn.bc,u]
  simp only [u,Je,Option.map_none] at z;obtain ⟨R,O⟩:=zi2 E z;clear u E z;go_enter func62,ntmps62;go_wp2_with ((with_reducible refine aV 102 O.o ?_);rintro X w1 ⟨rfl,U⟩;subst w1);go_ret;rw [R.o];exact ⟨rfl,F,cur,H.o,qv.refl _ _ _ _⟩
 | some k =>
  have E:s.bc n=s.a0 k:=by simp [zn.bc,u]
  have Y:=hid (zek B D L r k FL F cur s w H.o (zni u));simp only [u,Je,qk] at z;obtain ⟨R,O⟩:=zi2 E z;clear u E z;go_enter func62,ntmps62;go_wp2_with (first|((with_reducible refine aV 102 O.o ?_);rintro X w1 ⟨rfl,U⟩;subst w1)|((with_reducible refine aV 103 Y.o ?_);rintro X w1 ⟨rfl,U⟩));go_ret;rw [R.o];exact ⟨rfl,U⟩
theorem zhi (B D L r:Nat) (FL F:Nat->Prop) (cur:Nat->Nat->List UInt8) (s:zn) (w:World) (h:qQ w B D L r FL F cur s) :
  zc 67 #[.pointer (some ⟨B,0,none⟩)] w fun e w'=>e=.returned (.int .i64 0)/\∃ F' cur',qQ w' B D L r FL F' cur' (s.a6 6)/\qv w w' (jL B FL F s) (jL B FL F' (s.a6 6)) cur cur' r:=by
 have H:=hid h;clear h;go_enter func67,ntmps67;go_upto_region 2 with fail;go_loopw [3,4,5] (fun _ _ u wr=>∃ (j:Nat) (F':Nat->Prop) (cur':Nat->Nat->List UInt8),j<=6/\u=.int .i64 j/\qQ wr B D L r FL F' cur' (s.a6 j)/\qv w wr (jL B FL F s) (jL B FL F' (s.a6 j)) cur cur' r) (fun _ _ u _=>(6-intOf u).toNat)
 case atStart=>exact ⟨0,F,cur,by omega,rfl,H.o,qv.refl _ _ _ _⟩
 case round =>
  obtain ⟨j,F',cur',hj,rfl,hs,R⟩:=hrel;obtain ⟨O,z⟩:=zi2 hs R;clear hs R;by_cases a4:j<6
  ·have a5:(j:Int)<6:=by omega
   have E:=hid (zfL B D L r j FL F' cur' (s.a6 j) wr O.o);rw [<- zn.b4] at E;go_wp2_with ((with_reducible refine aV 62 E.o ?_);rintro e1 w1 ⟨rfl,Y,a1,X,U⟩;obtain ⟨a0,Z⟩:=zi2 X U;clear X U);go_roundw
   case rel=>exact ⟨j+1,Y,a1,by omega,by simp,a0.o,z.o.trans Z.o⟩
   case measure=>simp [intOf];omega
  ·have a3:j=6:=by omega
   subst a3;go_wp2_with fail;go_ret;exact ⟨rfl,F',cur',O.o,z.o⟩
section
def ye (fs:List zx):Nat->Nat->Option Nat
 | 0,_=>none
 | k+1,i=>if (fs[i]?.bind zx.aw)=none then some i else ye fs k (i+1)
theorem zeK {fs:List zx} {k i:Nat} (h:¬ ((fs[i]?.bind zx.aw)=none)):ye fs (k+1) i=ye fs k (i+1):=by rw [ye,if_neg h]
theorem zeL {fs:List zx} {k i:Nat} (h:(fs[i]?.bind zx.aw)=none):ye fs (k+1) i=some i:=by rw [ye,if_pos h]
def zn.bd:Nat->zn->Nat × zn
 | 0,s=>(0,s)
 | g+1,s=>match s.fs[s.hand]? with
  | none=>(0,s)
  | some f=>if f.a2 then zn.bd g { s with fs:=s.fs.set s.hand { f with a2:=false },hand:=(s.hand+1) % 3 }
   else (s.hand,{ (({ s with hand:=(s.hand+1) % 3 }:zn).a0 s.hand) with fs:=(({ s with hand:=(s.hand+1) % 3 }:zn).a0 s.hand).fs.set s.hand zx.none })
def zn.room (s:zn):Nat × zn:=match ye s.fs 3 0 with
 | some k=>(k,s)
 | none=>s.bd 4
section
variable {w w':World} {B D L r hand:Nat} {FL F:Nat->Prop} {cur:Nat->Nat->List UInt8} {s:zn} {fs:List zx}
theorem zfa {h:Nat} (u:fs.length=3):jl D r L fs h=(jl D r L fs hand).set 12 (.int .i64 h):=by unfold jl;rw [List.set_cons_succ,List.set_cons_succ,List.set_cons_succ,List.set_append_right _ _ (by rw [Qz];omega),Qz,u];rfl
theorem qQ.ey (h:qQ w B D L r FL F cur s) (u:List zx) (E:Nat) (U:qr w' B D r L u E) (O:∀ x,FL x∨F x->w'.heap[x]?=w.heap[x]?) (R:w.heap.size<=w'.heap.size)
  (hok:∀ f,f∈u->∀ b n p,f.pg=some (b,n,p)->n<6/\p.ok):qQ w' B D L r FL F cur { s with fs:=u,hand:=E } :=
 { h with ab:=U,bg:=h.bg.same (fun x z=>O x (.inl z)) R,ar:=zK.same h.ar (fun x z=>O x (.inr z)) R,co:=hok }
theorem qQ.b9 (h:qQ w B D L r FL F cur s) (x:Nat) (u:FL x∨F x):x≠B:=fun e=>by subst e;exact u.elim (h.ab.bg h.bg x (.inl rfl)) (h.ab.ar h.ar x (.inl rfl))
theorem qQ.hq (h:qQ w B D L r FL F cur s) (u:Nat) (O:u<3):qQ (w.setCell ⟨B,12,none⟩ (.int .i64 u)) B D L r FL F cur { s with hand:=u }:=by refine h.ey s.fs u ⟨?_,h.ab.a5,O,fun f z b n p E=>QB (h.ab.bj f z b n p E) (h.ab.ne z E) _,h.ab.apart⟩ (fun x R=>zt _ _ _ _ (h.b9 x R)) (by simp) h.co;rw [zfa (hand:=s.hand) h.ab.a5,zB _ _ _ _ _ _ h.ab.U,List.setIfInBounds_toArray]
theorem qQ.d8 (h:qQ w B D L r FL F cur s) {k j:Nat} {f f':zx} {v:Value} (O:s.fs[k]?=some f) (X:j<3) (U:qx f'=(qx f).set j v) (Y:f'.pg=f.pg∨f'.pg=none) :
  qQ (w.setCell ⟨B,3+k*3+j,none⟩ v) B D L r FL F cur { s with fs:=s.fs.set k f' }:=by
 have R:=zC O;have key:∀ b n p,f'.pg=some (b,n,p)->f.pg=some (b,n,p):=fun b n p u=>Y.elim (fun e=>e ▸ u) (fun e=>by rw [e] at u;cases u);refine h.ey _ s.hand (h.ab.put O (qr.fu h.ab.U f' O X U) h.ab.hand ?_ ?_ ?_) (fun x Z=>zt _ _ _ _ (h.b9 x Z)) (by simp) ?_
 ·intro b n p u;exact QB (h.ab.bj f R b n p (key b n p u)) (h.ab.ne R (key b n p u)) _
 ·intro j g b n p _ z E;exact zt _ _ _ _ (h.ab.ne (zC z) E)
 ·intro b n p u;exact .inl ⟨n,p,key b n p u⟩
 ·intro g z b n p E;rcases vf z with z | rfl
  ·exact h.co g z b n p E
  ·exact h.co f R b n p (key b n p E)
end
theorem qr.ia {w:World} {B D r L hand:Nat} {fs:List zx} (h:qr w B D r L fs hand):w.cell? ⟨B,12,none⟩=some (.int .i64 hand):=by rw [ze w B _ _ _ _ h.U,List.getElem?_toArray];unfold jl;rw [List.getElem?_cons_succ,List.getElem?_cons_succ,List.getElem?_cons_succ,vg (by rw [Qz,h.a5];omega),Qz,h.a5];rfl
def zbA (fs:List zx):Nat:=fs.countP (·.a2)
theorem zgQ {fs:List zx} {k:Nat} {f:zx} (h:fs[k]?=some f) (u:f.a2=true):zbA (fs.set k { f with a2:=false })+1=zbA fs:=by have z:k<fs.length:=(zr.1 h).1;have e:fs[k]=f:=(zr.1 h).2;have D:0<fs.countP (·.a2):=List.countP_pos_iff.2 ⟨f,zC h,u⟩;unfold zbA;rw [List.countP_set z];simp [e,u];omega
theorem zmn (B D a0 r:Nat) (FL F:Nat->Prop) (cur:Nat->Nat->List UInt8) (s:zn) (w:World) (c5:qQ w B D a0 r FL F cur s) :
  zc 149 #[.pointer (some ⟨B,0,none⟩)] w fun e w'=>e=.returned (.tuple #[.pointer (some ⟨B,3+s.room.1*3,none⟩),.int .i64 0])/\∃ F' cur',qQ w' B D a0 r FL F' cur' s.room.2/\qv w w' (jL B FL F s) (jL B FL F' s.room.2) cur cur' r:=by
 have H:=hid c5;clear c5;go_enter func149,ntmps149;go_upto_region 2 with fail;go_loopg [4,7] 3 (fun g s4 s7 wr=>∃ k:Nat,k+g=3/\s7=.int .i64 k/\Aside (ye s.fs g k=ye s.fs 3 0)/\w=wr)
 case atStart=>exact ⟨0,by omega,rfl,rfl,rfl⟩
 case round =>
  obtain ⟨k,d9,rfl,L,rfl⟩:=hrel;cases gk with
  | zero =>
   have d7:¬ ((k:Int)<3):=by omega
   have HN:=hid (show s.room=s.bd 4 by rw [zn.room,<- L.out];rfl);go_wp2_with fail;go_loopg [5,6] 4 (fun g s5 s6 wx=>∃ h:zn,qQ wx B D a0 r FL F cur h/\qv w wx (jL B FL F s) (jL B FL F h) cur cur r/\Aside (h.bd g=s.bd 4)/\zbA h.fs<g)
   case atStart=>exact ⟨s,H.o,qv.refl _ _ _ _,rfl,by have u:zbA s.fs<=s.fs.length:=List.countP_le_length;have h2:=H.o.ab.a5;omega⟩
   case round =>
    obtain ⟨h,hs,he,a9,c6⟩:=hrel;cases gk with
    | zero=>omega
    | succ g =>
     have a7:=hs.ab.hand;obtain ⟨f,O⟩:=hs.ab.cb a7;obtain ⟨u,c8⟩:=ex ((h.hand+1) % 3);have d0:u<3:=by omega
     have z0:(0:Int)<=(h.hand:Int):=by omega
     have z3:(h.hand:Int)<3:=by omega
     have z1:IntKind.i64.wrap ((h.hand:Int)+1)=(h.hand:Int)+1:=by rw [zu];omega
     have z2:((h.hand:Int)+1).tmod 3=(u:Int):=by rw [Int.tmod_eq_emod_of_nonneg (by omega)];omega
     have z4:IntKind.i64.wrap (u:Int)=(u:Int):=by rw [zu];omega
     have kh:wr.drew.cell? ⟨B,12,none⟩=some (.int .i64 h.hand):=hs.ab.ia;have fh:wr.drew.frozen? ⟨B,12,none⟩=false:=zI wr.drew B 12 _ _ hs.ab.U;obtain ⟨HS,L,U,c1,HC,d1,b9⟩:=zi7 hs he O c8 c6 d0 a7;clear hs he O c8 c6 d0 a7;go_upto_region 7 with fail;refine sV [] 9 (fun w'=>zH w' B 12 (.int .i64 h.hand)) kh fun d6=>?_;refine pV 0 ?_;refine pV 1 ?_;refine pV 2 ?_;refine pV 3 ?_;refine tV 4 ?_;refine pV 5 ?_;refine pV 6 ?_;refine pV 7 ?_;refine pV 8 ?_;refine dV ?_;clear d6;go_upto_region 9 with fail;obtain ⟨w2,a6⟩:=ex ((wr.setCell ⟨B,12,none⟩ (.int .i64 u)).drew);have a5:qQ w2 B D a0 r FL F cur { h with hand:=u }:=by rw [a6];exact (HS.o.hq u d1.o).drew
     have c7:qv w w2 (jL B FL F s) (jL B FL F { h with hand:=u }) cur cur r:=by rw [a6];exact ⟨L.out.out,(L.out.ac.set ((L.out.new B (.inr (.inl rfl))).imp id id) _).drew,L.out.new⟩
     rw [<- a6];have q2:=a5.ab.c2 U.o;have g2:=zI w2 B (3+h.hand*3+2) _ _ a5.ab.U;obtain ⟨c2,Z⟩:=zi2 a5 c7;clear a6 a5 c7 z0 z1 z2 z3 z4 kh fh;cases z:f.a2 with
     | true =>
      rw [z] at q2;have HA:=hid z;clear z;go_wp2_with fail;go_roundg g
      case measure=>omega
      case rel =>
       refine ⟨{ h with fs:=h.fs.set h.hand { f with a2:=false },hand:=u },?_,?_,?_,?_⟩
       ·exact c2.o.d8 U.o (f':={ f with a2:=false }) (j:=2) (by omega) (by simp [qx,zx.bh]) (.inl rfl)
       ·refine ⟨Z.o.out,Z.o.ac.set ((Z.o.new B (.inr (.inl rfl))).imp id id) _,fun x hx=>?_⟩;refine Z.o.new x (hx.imp id (fun h9=>h9.imp id (fun ⟨g',R,n',p',a3⟩=>?_)));rcases vf R with R | rfl
        ·exact ⟨g',R,n',p',a3⟩
        ·exact ⟨f,zC U.o,n',p',a3⟩
       ·show _=_;rw [<- a9.out,zn.bd,U.o];simp only [HA.o,if_true,c1.o]
       ·have:=zgQ U.o HA.o;have:=HC.o;show zbA (h.fs.set h.hand { f with a2:=false })<g;omega
     | false =>
      rw [z] at q2;have HA:=hid z;have d3:=hid (zek B D a0 r h.hand FL F cur { h with hand:=u } w2 c2.o b9.o);clear z;go_upto_region 14 with ((with_reducible refine aV 103 d3.o ?_);rintro e1 w3 ⟨rfl,F3,d5,E,a8⟩);obtain ⟨t,ht⟩:=ex (({ h with hand:=u }:zn).a0 h.hand);rw [<- ht] at E a8;obtain ⟨X,a1⟩:=E.ab.cb b9.o;have p0:=E.ab.c0 a1;have p1:=E.ab.c1 a1;have p2:=E.ab.c2 a1;have f0:=zI w3 B (3+h.hand*3) _ _ E.ab.U;have f1:=zI w3 B (3+h.hand*3+1) _ _ E.ab.U;have f2:=zI w3 B (3+h.hand*3+2) _ _ E.ab.U;have d2:=hid E;have a4:=hid (Z.o.trans a8);obtain ⟨HT,c0⟩:=zi2 ht a1;clear E a8 ht a1 q2 g2;go_wp2_with fail;go_ret2;have d8:s.room=(h.hand,{ t with fs:=t.fs.set h.hand zx.none }):=by rw [HN.o,<- a9.out,zn.bd,U.o];simp only [HA.o,Bool.false_eq_true,if_false];rw [<- c1.o,<- HT.o]
      rw [d8];have hk:h.hand<t.fs.length:=(zr.1 c0.o).1;have d4:=d2.o.d8 c0.o (f':=⟨none,X.ae,X.a2⟩) (j:=0) (v:=.pointer none) (by omega) (by simp [qx,zx.bh]) (.inr rfl);have a2:=d4.d8 (k:=h.hand) (f:=⟨none,X.ae,X.a2⟩) (f':=⟨none,0,X.a2⟩) (j:=1) (v:=.int .u64 0) (qw hk) (by omega) (by simp [qx,zx.bh]) (.inr rfl);have c3:=a2.d8 (k:=h.hand) (f:=⟨none,0,X.a2⟩) (f':=zx.none) (j:=2) (v:=.bool false) (by simp only [List.set_set];exact qw hk) (by omega) (by simp [qx,zx.bh,zx.none]) (.inr rfl);simp only [List.set_set] at c3;have hB:=(a4.o.new B (.inr (.inl rfl))).imp id id;refine ⟨rfl,F3,d5,c3,a4.o.out,((a4.o.ac.set hB _).set hB _).set hB _,fun x hx=>?_⟩;refine a4.o.new x (hx.imp id (fun h9=>h9.imp id (fun ⟨g',R,n',p',a3⟩=>?_)));rcases vf R with R | rfl
      ·exact ⟨g',R,n',p',a3⟩
      ·cases a3
  | succ g =>
   have d7:(k:Int)<3:=by omega
   obtain ⟨f,O⟩:=H.o.ab.cb (show k<3 by omega);have c4:=H.o.ab.c0 O;have HK:=hid O;cases Y:f.pg with
   | none =>
    have z:f.bh=none:=by simp [zx.bh,Y]
    have HN:=hid (show s.room=(k,s) by rw [zn.room,<- L.out,zeL (by rw [O];simp [zx.aw,Y])]);rw [z] at c4;clear O Y z;go_wp2_with fail;go_ret2;rw [HN.o];exact ⟨rfl,F,cur,H.o,qv.refl _ _ _ _⟩
   | some x =>
    obtain ⟨b,n',p⟩:=x;have z:f.bh=some ⟨b,0,none⟩:=by simp [zx.bh,Y]
    rw [z] at c4;have HP:=hid Y;clear O Y z;go_wp2_with fail;go_roundg g
    case measure=>omega
    case rel=>exact ⟨k+1,by omega,rfl,by show _=_;rw [<- L.out,zeK (by rw [HK.o];simp [zx.aw,HP.o])],rfl⟩
end
section
section
variable {w w':World} {B D r L hand:Nat} {fs:List zx}
theorem qr.iu (h:qr w B D r L fs hand) {k:Nat} {f f':zx} {U:Nat} (hf:fs[k]?=some f) (hb:w'.heap[B]?=some (.cells (jl D r L (fs.set k f') U).toArray 200 (0,0))) (hh:U<3)
  (hp:∀ b n p,f'.pg=some (b,n,p)->qS w' b r n p)
  (ho:∀ j g b n p,j≠k->fs[j]?=some g->g.pg=some (b,n,p)->w'.heap[b]?=w.heap[b]?)
  (hd:∀ b n p,f'.pg=some (b,n,p)->¬ vN B fs b):qr w' B D r L (fs.set k f') U:=by
 have hk:k<fs.length:=(zr.1 hf).1;have key:∀ i g,(fs.set k f')[i]?=some g->(i=k/\g=f')∨(i≠k/\fs[i]?=some g):=by
  intro i g z;rw [List.getElem?_set] at z;split at z
  ·rename_i e;subst e;injection z with z;exact .inl ⟨rfl,z.symm⟩
  ·rename_i e;exact .inr ⟨fun e'=>e e'.symm,z⟩
 refine ⟨hb,by rw [List.length_set];exact h.a5,hh,fun g z b n p X=>?_,fun i j Y Z b n p n' p' u E O R=>?_⟩
 ·obtain ⟨i,u⟩:=List.getElem?_of_mem z;rcases key i g u with ⟨rfl,rfl⟩ | ⟨a3,u⟩
  ·exact hp b n p X
  ·exact (ho i g b n p a3 u X).trans (h.bj g (zC u) b n p X)
 ·rcases key i Y u with ⟨ei,a0⟩ | ⟨a4,u⟩<;>rcases key j Z E with ⟨ej,a1⟩ | ⟨a5,E⟩
  ·rw [ei,ej]
  ·exfalso;rw [a0] at O;exact hd b n p O (.inr ⟨Z,zC E,n',p',R⟩)
  ·exfalso;rw [a1] at R;exact hd b n' p' R (.inr ⟨Y,zC u,n,p,O⟩)
  ·exact h.apart _ _ _ _ _ _ _ _ _ u E O R
end
def zn.ck (s:zn) (k b n:Nat) (p:Pg):zn:=match s.fs[k]? with
 | none=>s
 | some f=>{ s with fs:=s.fs.set k ⟨some (b,n,p),f.ae,true⟩ }
def zn.put (s:zn) (b n:Nat) (p:Pg):zn:=s.room.2.ck s.room.1 b n p
theorem ziL {B k b n x:Nat} {s:zn} {p:Pg} (h:vN B (s.ck k b n p).fs x):vN B s.fs x∨x=b:=by
 unfold zn.ck at h;split at h
 ·exact .inl h
 ·rcases h with h | ⟨g,u,D,E,z⟩
  ·exact .inl (.inl h)
  ·rcases vf u with u | rfl
   ·exact .inl (.inr ⟨g,u,D,E,z⟩)
   ·simp only [jd,Prod.mk.injEq] at z;exact .inr z.1.symm
theorem zn.ft:∀ (g:Nat) (s:zn),s.fs.length=3->s.hand<3->(s.bd g).1<3
 | 0,s,_,_=>by simp [zn.bd]
 | g+1,s,h3,hh=>by
  unfold zn.bd;split
  ·simp
  ·split
   ·exact zn.ft g _ (by simpa using h3) (Nat.mod_lt _ (by omega))
   ·exact hh
theorem zbE {fs:List zx}:∀ {g i k:Nat},ye fs g i=some k->k<i+g
 | 0,i,k,h=>by simp [ye] at h
 | g+1,i,k,h=>by
  unfold ye at h;split at h
  ·injection h with h;omega
  ·have:=zbE h;omega
theorem zn.e2 {s:zn} (h:s.fs.length=3) (u:s.hand<3):s.room.1<3:=by
 unfold zn.room;split
 ·rename_i k z;have:=zbE z;simp at this ⊢;omega
 ·exact zn.ft 4 s h u
theorem znS (B D L r n:Nat) (FL F:Nat->Prop) (cur:Nat->Nat->List UInt8) (s:zn) (p:Pg) (w:World) (a6:qQ w B D L r FL F cur s) (hn:n<6) (hp:p.ok) (O:jT s.fs n=none) :
  zc 124 #[.pointer (some ⟨B,0,none⟩),.agg (qj r n p).toArray] w fun e w'=>e=.returned (.tuple #[.pointer (some ⟨w.heap.size,0,none⟩),.int .i64 0])/\∃ F' cur',qQ w' B D L r FL F' cur' (s.put w.heap.size n p)/\qv w w' (jL B FL F s) (jL B FL F' (s.put w.heap.size n p)) cur cur' r:=by
 obtain ⟨N,Z⟩:=ex w.heap.size;obtain ⟨w1,a3⟩:=ex (w.alloc (.cells (qj r n p).toArray 204));have hX:qS w1 N r n p:=by rw [a3,Z];exact zo _ _ rfl
 have hB:Below w.heap.size w w1:=by rw [a3];exact B_alloc (zf _ _) _
 have h1:=a6.below hB;have cF:=KL B D r L s.hand n s.fs w1 h1.ab;have d2:=xV (.int .i64 n) 2 hX;simp only [O,Je,Option.map_none] at cF;have HC:=hid cF;have HR:=hid (zmn B D L r FL F cur s w1 h1);obtain ⟨H1,H,HX,HB,HN,HP⟩:=zi6 h1 a6 hX hB Z hp;clear a6 cF hX hB O h1 hp;rw [<- Z];go_enter func124,ntmps124;go_upto_region 1 with fail;rw [<- Z,<- a3];clear a3 Z;go_upto_region 7 with (first|((with_reducible refine aV 102 HC.o ?_);rintro e1 w9 ⟨rfl,d6⟩;subst w9)|((with_reducible refine aV 149 HR.o ?_);rintro e1 X ⟨rfl,Y,a5,z,a0⟩));obtain ⟨t,ht⟩:=ex s.room.2;obtain ⟨k,hk⟩:=ex s.room.1;rw [<- ht] at z a0;rw [<- hk];have d3:k<3:=by rw [hk];exact zn.e2 H.o.ab.a5 H.o.ab.hand
 obtain ⟨f,O⟩:=z.ab.cb d3;have d4:N<w1.heap.size:=zi HX.o;have c5:∀ x,jL B FL F s x->x<N:=fun x u=>by rw [HN.o];exact u.elim (fun h=>h.elim (H.o.bg.lt x) (zK.lt H.o.ar x)) (fun h=>H.o.ab.lt h)
 have c0:qS X N r n p:=(a0.ac.block N d4 (fun u=>Nat.lt_irrefl _ (c5 N u))).trans HX.o;have a9:¬ jL B FL Y t N:=fun u=>(a0.new N u).elim (fun h=>Nat.lt_irrefl _ (c5 N h)) (fun h=>by omega);have f0:=zI X B (3+k*3) _ _ z.ab.U;have f2:=zI X B (3+k*3+2) _ _ z.ab.U;have p0:=z.ab.c0 O;have p2:=z.ab.c2 O;obtain ⟨E,a4,HT,HK,HF,d0,a8⟩:=zi7 z a0 ht hk O c0 a9;clear z a0 ht hk O c0 a9 d2 HC HR;go_upto_region 8 with fail;obtain ⟨R,U⟩:=ex ((X.setCell ⟨B,3+k*3,none⟩ (.pointer (some ⟨N,0,none⟩))).setCell ⟨B,3+k*3+2,none⟩ (.bool true));rw [<- U];have hput:s.put N n p={ t with fs:=t.fs.set k ⟨some (N,n,p),f.ae,true⟩ }:=by rw [zn.put,<- HT.o,<- HK.o,zn.ck,HF.o]
 have hO:∀ x,x≠B->R.heap[x]?=X.heap[x]?:=fun x u=>by rw [U];exact (zt _ _ _ _ u).trans (zt _ _ _ _ u)
 have b9:N≠B:=fun e=>a8.o (.inr (.inl e));have c4:k<t.fs.length:=(zr.1 HF.o).1;have c1:R.heap[B]?=some (.cells (jl D r L (t.fs.set k ⟨some (N,n,p),f.ae,true⟩) t.hand).toArray 200 (0,0)):=by rw [U];have d1:=qr.fu E.o.ab.U (f:=f) ⟨some (N,n,p),f.ae,f.a2⟩ (j:=0) (v:=.pointer (some ⟨N,0,none⟩)) HF.o (by omega) (by simp [qx,zx.bh]);have a2:=qr.fu d1 (k:=k) (f:=⟨some (N,n,p),f.ae,f.a2⟩) ⟨some (N,n,p),f.ae,true⟩ (j:=2) (v:=.bool true) (qw c4) (by omega) (by simp [qx,zx.bh]);rw [List.set_set] at a2;exact a2
 have a7:qr R B D r L (t.fs.set k ⟨some (N,n,p),f.ae,true⟩) t.hand:=by
  refine E.o.ab.iu HF.o c1 E.o.ab.hand ?_ ?_ ?_
  ·intro b' n' p' h;simp only [jd,Prod.mk.injEq] at h;obtain ⟨rfl,rfl,rfl⟩:=h;exact (hO _ b9).trans d0.o
  ·intro j g b' n' p' _ hg a1;exact hO _ (E.o.ab.ne (zC hg) a1)
  ·intro b' n' p' h;simp only [jd,Prod.mk.injEq] at h;obtain ⟨rfl,rfl,rfl⟩:=h;exact fun u=>a8.o (.inr u)
 have c6:qQ R B D L r FL Y a5 (s.put N n p):=by
  rw [hput];refine E.o.ey _ t.hand a7 (fun x u=>hO x (E.o.b9 x u)) (by rw [U];simp) ?_;intro g hg b' n' p' a1;rcases vf hg with hg | rfl
  ·exact E.o.co g hg b' n' p' a1
  ·simp only [jd,Prod.mk.injEq] at a1;obtain ⟨rfl,rfl,rfl⟩:=a1;exact ⟨hn,HP.o⟩
 have c3:zA (jL B FL F s) w R:=by have k1:zA (jL B FL F s) w X:=(zA.ak (M:=jL B FL F s) HB.o).trans a4.o.ac (fun x u=>.inl u);rw [U];exact (k1.set (.inl (.inr (.inl rfl))) _).set (.inl (.inr (.inl rfl))) _
 have c2:qv w R (jL B FL F s) (jL B FL Y (s.put N n p)) cur a5 r:=by
  refine ⟨a4.o.out,c3,fun x u=>?_⟩;have d5:jL B FL Y t x∨x=N:=u.elim (fun h=>.inl (.inl h)) (fun h=>by
   rw [zn.put,<- HT.o,<- HK.o] at h;exact (ziL h).imp .inr id)
  rcases d5 with h | h
  ·exact (a4.o.new x h).imp id (fun h8=>zz HB.o.size h8)
  ·exact .inr (by rw [h,HN.o];exact za _)
 have q0:R.cell? ⟨B,3+k*3,none⟩=some (.pointer (some ⟨N,0,none⟩)):=a7.c0 (f:=⟨some (N,n,p),f.ae,true⟩) (qw c4);obtain ⟨c8,c7⟩:=zi2 c6 c2;clear U hput hO b9 c1 a7 c6 c3 c2 f0 f2 p0 p2;go_wp2_with fail;go_ret2;exact ⟨rfl,Y,a5,c8.o,c7.o⟩
end
def zn.get (s:zn) (b n:Nat):zn:=match jT s.fs n with
 | some k=>match s.fs[k]? with
  | some f=>{ s with fs:=s.fs.set k { f with a2:=true } }
  | none=>s
 | none=>s.put b n (s.dp n)
def zn.U (s:zn) (b n:Nat):Nat:=match jT s.fs n with
 | some k=>match s.fs[k]?.bind zx.pg with
  | some x=>x.1
  | none=>b
 | none=>b
theorem zcv (B D L r n:Nat) (FL F:Nat->Prop) (cur:Nat->Nat->List UInt8) (s:zn) (w:World) (a3:qQ w B D L r FL F cur s) (hn:n<6) :
  zc 121 #[.pointer (some ⟨B,0,none⟩),.int .i64 n] w fun e w'=>∃ nb F' cur',e=.returned (.tuple #[.pointer (some ⟨s.U nb n,0,none⟩),.int .i64 0])/\w.heap.size<=nb/\qQ w' B D L r FL F' cur' (s.get nb n)/\qv w w' (jL B FL F s) (jL B FL F' (s.get nb n)) cur cur' r:=by
 have u:=KL B D r L s.hand n s.fs w a3.ab;have d2:decide ((n:Int)<0)=false:=by simp
 have d3:decide ((6:Int)<=(n:Int))=false:=by simp;omega
 have n0:(0:Int)<=(n:Int):=by omega
 have n6:(n:Int)<6:=by omega
 have H:=hid a3;clear a3;cases h:jT s.fs n with
 | some k =>
  obtain ⟨f,b,p,z,R⟩:=Qy h;have E:∀ nb,s.get nb n={ s with fs:=s.fs.set k { f with a2:=true } }:=fun nb=>by simp [zn.get,h,z]
  have hb:∀ nb,s.U nb n=b:=fun nb=>by simp [zn.U,h,z,R]
  have c0:=H.o.ab.c0 z;rw [show f.bh=some ⟨b,0,none⟩ by simp [zx.bh,R]] at c0;have c6:=H.o.ab.c2 z;have f2:=zI w B (3+k*3+2) _ _ H.o.ab.U;simp only [h,Je,qk] at u;obtain ⟨HC,HG,HB,HK,HP⟩:=zi5 u E hb z R;clear u h E hb z R;go_enter func121,ntmps121;go_upto_region 6 with ((with_reducible refine aV 102 HC.o ?_);rintro O w9 ⟨rfl,d1⟩;subst w9);have U:=H.o.d8 HK.o (f':={ f with a2:=true }) (j:=2) (v:=.bool true) (by omega) (by simp [qx,zx.bh]) (.inl rfl);obtain ⟨Y,a8⟩:=ex (w.setCell ⟨B,3+k*3+2,none⟩ (.bool true));rw [<- a8] at U ⊢;have c8:k<s.fs.length:=(zr.1 HK.o).1;have q0:=U.ab.c0 (f:={ f with a2:=true }) (qw c8);rw [show zx.bh { f with a2:=true }=some ⟨b,0,none⟩ by simp [zx.bh,HP.o]] at q0;have HE:Hid (qv w Y (jL B FL F s) (jL B FL F { s with fs:=s.fs.set k { f with a2:=true } }) cur cur r):=by
   rw [a8];refine hid ⟨vq.refl _ _,(zA.refl _ _).set (.inl (.inr (.inl rfl))) _,fun x hx=>.inl (hx.imp id (fun h9=>h9.imp id (fun ⟨g',a7,n',p',c1⟩=>?_)))⟩;rcases vf a7 with a7 | rfl
   ·exact ⟨g',a7,n',p',c1⟩
   ·exact ⟨f,zC HK.o,n',p',c1⟩
  have c5:=hid U;clear a8 U c0 c6 f2;go_wp2_with fail;go_ret2;refine ⟨w.heap.size,F,cur,by rw [HB.o];rfl,za _,?_,?_⟩
  ·rw [HG.o];exact c5.o
  ·rw [HG.o];exact HE.o
 | none =>
  have E:∀ nb,s.get nb n=s.put nb n (s.dp n):=fun nb=>by simp [zn.get,h]
  have hb:∀ nb,s.U nb n=nb:=fun nb=>by simp [zn.U,h]
  have hr:=zmg B D r L s.hand n s.fs F cur (s.dp n) w H.o.ab H.o.ar H.o.r4 hn (H.o.cx n) (H.o.fa n hn);simp only [h,Je,Option.map_none] at u;obtain ⟨HC,HG,HB,HR,HF⟩:=zi5 u E hb hr h;have a1:=hid (Qk (t:=r) (n:=n) (H.o.cx n));clear u h E hb hr;go_enter func121,ntmps121;go_upto_region 10 with (first|((with_reducible refine aV 102 HC.o ?_);rintro O w9 ⟨rfl,d1⟩;subst w9)|((with_reducible refine aV 148 HR.o ?_);rintro O Y ⟨v2,rfl,c2,a5⟩));have h2:=H.o.below a5;have k1:=xV (.int .i64 r) 1 h2.ab.U;have HD:=hid (ziG r n (s.dp n) v2 Y (H.o.cx n) H.o.r4 (by omega) c2);obtain ⟨c3,H2⟩:=zi2 a5 h2;clear a5 h2 c2;go_upto_region 11 with (first|((with_reducible refine aV 123 HD.o ?_);rintro O Z ⟨rfl,a9⟩)|(show wpList _ _ _ (⟨none,.store 204 (.tmp 9) (.tmp 45),_,_,_,_⟩::_) _ _;refine vH rfl 204 (.tmp 9) (.tmp 45) rfl Z.heap.size rfl _ (qj r n (s.dp n)).toArray (by rfl) (by rfl) (by simp only [qH,a1.o];kernel_rfl) (by simp only [qH,a1.o];kernel_rfl) GM ?_));obtain ⟨w4,X⟩:=ex (Z.alloc (.cells (qj r n (s.dp n)).toArray 204));have hX:qS w4 Z.heap.size r n (s.dp n):=by rw [X];exact zo _ _ rfl
  have b9:zd Y w4:=by rw [X];exact B_alloc a9 _
  have a4:=B_call c3.o b9;rw [<- X];have c4:=hid (znS B D L r n FL F cur s (s.dp n) w4 (H.o.below a4) hn (H.o.cx n) HF.o);obtain ⟨HX,a0⟩:=zi2 hX a4;clear X hX b9 a4 a9 k1 HD;go_wp2_with (first|(show wpList _ _ _ (⟨some 51,_,_,_,_,_⟩::_) _ _;refine wpList_load_row rfl 204 (.tmp 9) rfl Z.heap.size (by rfl) 204 (qj r n (s.dp n)).toArray (0,0) _ HX.o underlying204 rfl (by simp only [qH,a1.o];kernel_rfl) ?_)|((with_reducible refine aV 124 c4.o ?_);rintro O w5 ⟨rfl,F5,c7,d0,a6⟩));go_ret2;refine ⟨w4.heap.size,F5,c7,by rw [HB.o];rfl,a0.o.size,?_,?_⟩
  ·rw [HG.o];exact d0
  ·rw [HG.o];exact ⟨a6.out,(zA.ak (M:=jL B FL F s) a0.o).trans a6.ac (fun x hx=>.inl hx),a6.new.mono a0.o.size⟩
theorem zoS:(prog.info? 35).map (fun i=>(i.zero,i.size,i.bytes))=some (some (.int .u64 0),1,8):=by kernel_rfl
theorem zqq (w:World):(Instr.makeSlice 23 (.int .i64 6) (.int .i64 6)).run prog w=.ok (.slice (some ⟨w.heap.size,0,none⟩) 6 6) (w.alloc (.cells (uH (List.replicate 6 0)).toArray 35)):=by
 obtain ⟨i,h,u,z,D⟩:=info_parts zoS;have:=run_make (P:=prog) w 23 35 i _ underlying23 h u .i64 .i64 6 6 (by omega) (Int.le_refl _) (by rw [D];omega) (by omega);rw [z] at this;have e:madeCells (Value.int .u64 0).cells (Int.toNat 6*1)=(uH (List.replicate 6 0)).toArray:=by kernel_rfl
 rw [e] at this;exact this
def uR (l:List Nat) (f:zx):List Nat:=match f.pg with
 | none=>l
 | some x=>l.set x.2.1 f.ae
def yx (fs:List zx) (k:Nat):List Nat:=(fs.take k).foldl uR (List.replicate 6 0)
theorem zgs (l:List Nat) (f:zx):(uR l f).length=l.length:=by unfold uR;split<;>simp
theorem zbC {fs:List zx} {k:Nat} {f:zx} (h:fs[k]?=some f):yx fs (k+1)=uR (yx fs k) f:=by unfold yx;rw [List.take_add_one,h];simp
theorem GC (fs:List zx):∀ k,(yx fs k).length=6:=by
 intro k;unfold yx;have:∀ (fs:List zx) (l:List Nat),(fs.foldl uR l).length=l.length:=by
  intro fs;induction fs with
  | nil=>intro l;rfl
  | cons f fs h=>intro l;rw [jM,h,zgs]
 rw [this];simp
theorem zlv (B a3 r a8 hand:Nat) (fs:List zx) (w:World) (a0:qr w B a3 r a8 fs hand) (hok:∀ f,f∈fs->∀ b n p,f.pg=some (b,n,p)->n<6) :
  zc 65 #[.pointer (some ⟨B,0,none⟩)] w fun e w'=>∃ v,e=.returned v/\uI w' v (yx fs 3)/\zd w w':=by
 have c1:=zqq w;obtain ⟨w1,R⟩:=ex (w.alloc (.cells (uH (List.replicate 6 0)).toArray 35));rw [<- R] at c1;have hX:w1.heap[w.heap.size]?=some (.cells (uH (yx fs 0)).toArray 35 (0,0)):=by rw [R];exact zo _ _ rfl
 have hB:zd w w1:=by rw [R];exact B_alloc (zf _ _) _
 obtain ⟨H,HX,HB,a6⟩:=zi4 a0 hX hB hok;clear a0 hX hB R hok;go_enter func65,ntmps65;go_upto_region 3 with fail;go_loopw [4,5,7] (fun _ _ u wr=>∃ k:Nat,k<=3/\u=.int .i64 k/\wr.heap[w.heap.size]?=some (.cells (uH (yx fs k)).toArray 35 (0,0))/\zd w wr) (fun _ _ u _=>(3-intOf u).toNat)
 case atStart=>exact ⟨0,by omega,rfl,HX.o,HB.o⟩
 case round =>
  obtain ⟨k,hk,rfl,hx,Y⟩:=hrel;obtain ⟨L,U⟩:=zi2 hx Y;have E:=hid (H.o.below Y);clear hx Y;by_cases b9:k<3
  ·have c4:(k:Int)<3:=by omega
   have c3:(0:Int)<=(k:Int):=by omega
   obtain ⟨f,h⟩:=E.o.cb b9;have O:=E.o.c0 h;have HF:=hid h;cases z:f.pg with
   | none =>
    rw [show f.bh=none by simp [zx.bh,z]] at O;have D:yx fs (k+1)=yx fs k:=by rw [zbC h,uR,z]
    have X:=hid D;clear h z D;go_wp2_with fail;go_roundw
    case rel=>exact ⟨k+1,by omega,by simp,by rw [X.o];exact L.o,U.o⟩
    case measure=>simp [intOf];omega
   | some x =>
    obtain ⟨b,n,p⟩:=x;rw [show f.bh=some ⟨b,0,none⟩ by simp [zx.bh,z]] at O;have hn:=a6.o f (zC h) b n p z;have D:yx fs (k+1)=(yx fs k).set n f.ae:=by rw [zbC h,uR,z]
    obtain ⟨X,HP⟩:=zi2 D z;have hlen:=GC fs k;have a5:=hid hlen;have n0:(0:Int)<=(n:Int):=by omega
    have n6:(n:Int)<6:=by omega
    have Z:=E.o.c1 h;have c2:=E.o.aw h z;clear h z D hlen;go_upto_region 7 with fail;refine sV [13] 14 (fun w'=>zH w' B (3+k*3) (.pointer (some ⟨b,0,none⟩))/\zH w' b 2 (.int .i64 n)/\zH w' B (3+k*3+1) (.int .u64 f.ae)) ⟨O,c2,Z⟩ fun a9=>?_;refine pV 0 ?_;refine pV 1 ?_;refine pV 2 ?_;refine pV 3 ?_;refine tV 4 ?_;refine pV 5 ?_;refine pV 6 ?_;refine tV 7 ?_;refine pV 8 ?_;refine pV 9 ?_;refine pV 10 ?_;refine tV 11 ?_;refine pV 12 ?_;refine lV 13 fun K hK=>?_;refine jz 35 (.tmp 32) (.tmp 31) rfl w.heap.size n (uH (yx fs k)).toArray 35 (.int .u64 f.ae) (by rfl) (by rfl) (by kernel_rfl) L.o (by rw [qH,zie,a5.o];omega) rfl ?_;refine hK.out _ _ ?_;clear hK K;try simp only [pS]
    refine dV ?_;have a1:(wr.drew.setCell ⟨w.heap.size,n,none⟩ (.int .u64 f.ae)).heap[w.heap.size]?=some (.cells (uH (yx fs (k+1))).toArray 35 (0,0)):=by rw [X.o,zB _ _ _ _ _ _ (show wr.drew.heap[w.heap.size]?=_ from L.o),List.setIfInBounds_toArray,uH,uH,List.map_set]
    have a7:=hid a1;have a4:=hid (B_set U.o.drew (p:=⟨w.heap.size,n,none⟩) (za _) (.int .u64 f.ae));clear a1 a9 O Z c2;go_wp2_with fail;go_roundw
    case rel=>exact ⟨k+1,by omega,by simp,a7.o,a4.o⟩
    case measure=>simp [intOf];omega
  ·have c0:k=3:=by omega
   subst c0;go_wp2_with fail;go_ret;refine ⟨_,rfl,?_,U.o⟩;have hl:=GC fs 3;refine ⟨some ⟨w.heap.size,0,none⟩,6,by rw [hl];rfl,?_,by omega,by unfold maxLen;omega⟩;exact zL.bk L.o (by rw [zie,Nat.mul_one])
def KI (z:Int) (h:ByteArray) (D:Int) (u:ByteArray):Int:=if QW z h D u then -1 else if QW D u z h then 1 else 0
theorem zeG (E p s L:Int) (z v1 D v2:ByteArray) (w:World) :
  zc 155 #[.agg #[.int .i64 E,.string z,.string v1,.int .i64 p,.int .i64 s],.agg #[.int .i64 L,.string D,.string v2]] w fun e w'=>e=.returned (.int .i64 (KI E z L D))/\zd w w':=by
 obtain ⟨w1,a0⟩:=ex ((w.alloc (.cells #[.int .i64 E,.string z,.string v1,.int .i64 p,.int .i64 s] 136)).alloc (.cells #[.int .i64 L,.string D,.string v2] 34));have hA:w1.heap[w.heap.size]?=some (.cells #[.int .i64 E,.string z,.string v1,.int .i64 p,.int .i64 s] 136 (0,0)):=by rw [a0];exact zw (zo _ _ rfl) _
 have hC:w1.heap[w.heap.size+1]?=some (.cells #[.int .i64 L,.string D,.string v2] 34 (0,0)):=by rw [a0];exact zo _ _ (by simp)
 have hB:zd w w1:=by rw [a0];exact B_alloc (B_alloc (zf _ _) _) _
 have a4:=ze w1 w.heap.size 0 _ _ _ hA;have a5:=ze w1 w.heap.size 1 _ _ _ hA;have a2:=ze w1 w.heap.size 2 _ _ _ hA;have b0:=ze w1 (w.heap.size+1) 0 _ _ _ hC;have b1:=ze w1 (w.heap.size+1) 1 _ _ _ hC;have b2:=ze w1 (w.heap.size+1) 2 _ _ _ hC;obtain ⟨R,U,HB⟩:=zi3 hA hC hB;clear hA hC hB;go_enter func155,ntmps155;go_upto_region 1 with fail;rw [<- a0];clear a0;have X:=zi R.o;have Y:=zi U.o;cases hl:QW E z L D with
 | true =>
  have O:KI E z L D=-1:=by simp [KI,hl]
  have Z:=hid O;clear O;go_wp2_with (go_at_call 57;(with_reducible refine (Yq _ _ _ _ _ _ _).mono ?_);rintro e1 u ⟨rfl,h⟩);go_ret;rw [Z.o];exact ⟨rfl,B_call HB.o h⟩
 | false =>
  cases a6:QW L D E z with
  | true =>
   have O:KI E z L D=1:=by simp [KI,hl,a6]
   have Z:=hid O;clear O;go_upto_region 3 with (go_at_call 57;(with_reducible refine (Yq _ _ _ _ _ _ _).mono ?_);rintro e1 u ⟨rfl,h⟩);have a1:=hid h;have a4:=ze u w.heap.size 0 _ _ _ (zg R.o h X);have a5:=ze u w.heap.size 1 _ _ _ (zg R.o h X);have a2:=ze u w.heap.size 2 _ _ _ (zg R.o h X);have b0:=ze u (w.heap.size+1) 0 _ _ _ (zg U.o h Y);have b1:=ze u (w.heap.size+1) 1 _ _ _ (zg U.o h Y);have b2:=ze u (w.heap.size+1) 2 _ _ _ (zg U.o h Y);clear h;go_wp2_with (go_at_call 57;(with_reducible refine (Yq _ _ _ _ _ _ _).mono ?_);rintro e1 w3 ⟨rfl,a3⟩);go_ret;rw [Z.o];exact ⟨rfl,B_call (B_call HB.o a1.o) a3⟩
  | false =>
   have O:KI E z L D=0:=by simp [KI,hl,a6]
   have Z:=hid O;clear O;go_upto_region 3 with (go_at_call 57;(with_reducible refine (Yq _ _ _ _ _ _ _).mono ?_);rintro e1 u ⟨rfl,h⟩);have a1:=hid h;have a4:=ze u w.heap.size 0 _ _ _ (zg R.o h X);have a5:=ze u w.heap.size 1 _ _ _ (zg R.o h X);have a2:=ze u w.heap.size 2 _ _ _ (zg R.o h X);have b0:=ze u (w.heap.size+1) 0 _ _ _ (zg U.o h Y);have b1:=ze u (w.heap.size+1) 1 _ _ _ (zg U.o h Y);have b2:=ze u (w.heap.size+1) 2 _ _ _ (zg U.o h Y);clear h;go_wp2_with (go_at_call 57;(with_reducible refine (Yq _ _ _ _ _ _ _).mono ?_);rintro e1 w3 ⟨rfl,a3⟩);go_ret;rw [Z.o];exact ⟨rfl,B_call (B_call HB.o a1.o) a3⟩
section
structure It where
 rw:Rw
 pg:Nat
 sl:Nat
deriving DecidableEq
def zP (x:It):List Value:=[.int .i64 x.rw.t,.string (zb x.rw.k),.string (zb x.rw.v),.int .i64 x.pg,.int .i64 x.sl]
def qt (l:List It):List Value:=l.flatMap zP
def Yc (a b:Rw):Bool:=QW a.t (zb a.k) b.t (zb b.k)
def Zh (a b:Rw):Int:=KI a.t (zb a.k) b.t (zb b.k)
theorem uz (l:List It):(qt l).length=l.length*5:=by
 induction l with
 | nil=>rfl
 | cons x l h=>unfold qt at h ⊢;rw [qC,zl,h,qc];simp [zP];omega
theorem zlG:∀ (l:List It) (k:Nat) (x:It) (j:Nat),l[k]?=some x->j<5->(qt l)[k*5+j]?=(zP x)[j]?
 | [],k,f,j,h,_=>by simp at h
 | y::l,0,x,j,h,hj=>by simp only [List.getElem?_cons_zero,jd] at h;subst h;unfold qt;rw [qC,Nat.zero_mul,qy,vZ (by simpa [zP] using hj)]
 | y::l,k+1,x,j,h,hj=>by have u:=zlG l k x j (by simpa using h) hj;unfold qt at u ⊢;rw [qC,vg (by simp [zP];omega),show (k+1)*5+j-(zP y).length=k*5+j by simp [zP];omega];exact u
def qW (w:World) (v:Value) (l:List It):Prop:=w.ownsRow 0 136 5 v l.length (qt l)
theorem qW.range {w:World} {A:Option Addr} {n c:Nat} {l:List It} (h:qW w (.slice A n c) l) {k:Nat} {x:It} (D:l[k]?=some x):∃ g,A=some ⟨g,0,none⟩/\n=l.length/\g<w.heap.size/\l.length<=c/\c<=maxLen/\w.rangeAt g (k*5) (zP x):=by
 have hk:k<l.length:=(zr.1 D).1;rcases h.2 with ⟨_,h0⟩ | ⟨g,cap,cur,R,_,u,U,X,h4,Y⟩
 ·omega
 ·injection R with E L O;subst O;refine ⟨g,E,L,zi u,U,X,fun j v z=>?_⟩;have Z:j<5:=by have:=(zr.1 z).1;simpa [zP] using this
  rw [ze w g _ _ _ _ u,<- Array.getElem?_toList];have e:=zlG l k x j D Z;rw [<- Y,List.getElem?_take] at e;rw [if_pos (by omega)] at e;rw [e];exact z
theorem Ql {w w':World} {g o:Nat} {cs:List Value} (h:w.rangeAt g o cs) (hb:zd w w') (u:g<w.heap.size):w'.rangeAt g o cs :=
 fun j v z=>(hb.cell (p:=⟨g,o+j,none⟩) u).trans (h j v z)
section
variable {P:Program}
theorem zdD {o:Oper} {a:Act} {w:World} {K:Act->World->Prop} {Q:Exit->Act->World->Prop} (f:FuncId) (x:Operand) (xs:Array Operand) (ts:Array TypeId) (args:List Value) (hop:o.op=.call { callee:=.value x,args:=xs,argTypes:=ts }) (hx:a.eval x=.func (.func f) #[] #[])
  (hf : (P.funcs[f]?).map (fun fn => (fn.name == "runtime.NumGoroutine", fn.body.isSome)) = some (false, true)) (hargs : xs.toList.map a.eval = args)
  (h:Calls P f args.toArray w fun e w'=>∃ v,e=.returned v/\K (a.put o.dst v) w'):o.wp P a w K Q:=by
 cases hq:P.funcs[f]? with
 | none=>simp [hq] at hf
 | some fn =>
  simp only [hq,qk,jd,Prod.mk.injEq] at hf;have he:=PrintLast.enters_ hq hf.1 hf.2 args.toArray w;have hmap:xs.map a.eval=args.toArray:=by rw [<- hargs];apply Array.toList_inj.1;rw [Array.toList_map]
  unfold Oper.wp;have hrun:(execOp a.eval o).run P w=.ok (.enter f args.toArray) w:=by unfold execOp;simp only [hop,resolve,hx,Deferred.ofValue,invoke,Sem.run_bind,Sem.run_pure,vi];rw [show (xs.map (fun x=>a.eval x))=args.toArray from hmap] at *;simp [he,hmap]
  rw [hrun,Oper.upon_enter];refine h.mono fun e w'' hh=>?_;obtain ⟨v,rfl,hk⟩:=hh;exact hk
end
def ju (h:List It) (m:Nat) (r:Rw):Bool:=match h[m]? with
 | some x=>Zh x.rw r == 0
 | none=>false
theorem zky (v:Value) (u:List It) (r:Rw) (m:Nat) (w:World) (h:qW w v u) (hl:u.length<=1000) (hm:m<=u.length) (h1:∀ k x,k<m->u[k]?=some x->Zh x.rw r<0) (h2:∀ k x,m<=k->u[k]?=some x->¬ Zh x.rw r<0) :
  zc 154 #[v,.agg #[.int .i64 r.t,.string (zb r.k),.string (zb r.v)],.func (.func 155) #[] #[]] w fun e w'=>e=.returned (.tuple #[.int .i64 m,.bool (ju u m r)])/\zd w w':=by
 obtain ⟨A,c,rfl⟩:=own_slice h;obtain ⟨w1,a4⟩:=ex (w.alloc (.cells #[.int .i64 r.t,.string (zb r.k),.string (zb r.v)] 34));have hC:w1.heap[w.heap.size]?=some (.cells #[.int .i64 r.t,.string (zb r.k),.string (zb r.v)] 34 (0,0)):=by rw [a4];exact zo _ _ rfl
 have hB:zd w w1:=by rw [a4];exact B_alloc (zf _ _) _
 obtain ⟨H,HC,HB,H1,H2,HL⟩:=zi6 h hC hB h1 h2 hl;clear h hC hB h1 h2;go_enter func154,ntmps154;go_upto_region 1 with fail;rw [<- a4];clear a4;go_upto_region 3 with fail
 trace_state
 go_loopw [9,10,11] (fun a b _ wr=>∃ i j:Nat,i<=m/\m<=j/\j<=u.length/\a=.int .i64 i/\b=.int .i64 j/\zd w1 wr) (fun a b _ _=>(intOf b-intOf a).toNat)
 case atStart=>exact ⟨0,u.length,by omega,hm,za _,rfl,rfl,zf _ _⟩
 case round =>
  obtain ⟨i,j,hi,c2,hj,rfl,rfl,a0⟩:=hrel;have X:=hid a0;have a5:=hid (own_same H.o (fun x L=>(B_call HB.o a0).block x (H.o.lt x L).2));have Y:=hid (zg HC.o a0 (zi HC.o));clear a0;by_cases c3:i<j
  ·have c5:(i:Int)<(j:Int):=by omega
   obtain ⟨q,hq⟩:=ex ((i+j) / 2);have c7:i<=q:=by omega
   have c8:q<j:=by omega
   have x1:IntKind.i64.wrap ((i:Int)+(j:Int))=(i:Int)+(j:Int):=by rw [zu];omega
   have HQ:=hid hq;clear hq;go_upto_region 5 with fail;have a7:((i:Int)+(j:Int)) / 2=(q:Int):=by have:=HQ.o;omega
   rw [a7];obtain ⟨x,L⟩:∃ x,u[q]?=some x:=⟨_,zX (by omega)⟩;obtain ⟨g,rfl,_,hg,_,_,U⟩:=qW.range (w:=wr) a5.o L;have q0:(0:Int)<=(q:Int):=by omega
   have q1:(q:Int)<(u.length:Int):=by omega
   have x2:IntKind.i64.wrap ((q:Int)+1)=(q:Int)+1:=by rw [zu];omega
   have O:=And.intro U Y.o;have Z:=hid L;have a3:w.heap.size<wr.drew.heap.size:=zi (show wr.drew.heap[w.heap.size]?=_ from Y.o);have a1:g<wr.drew.heap.size:=hg;clear U L a7;by_cases hc:KI (x.rw.t:Int) (zb x.rw.k) (r.t:Int) (zb r.k)<0
   ·have a8:q<m:=Nat.lt_of_not_le (fun h9=>by have h7:=H2.o q x h9 Z.o;have h8:Zh x.rw r<0:=hc;omega);refine sV [] 8 (fun w'=>w'.rangeAt g (q*5) (zP x)/\jJ w' w.heap.size #[.int .i64 r.t,.string (zb r.k),.string (zb r.v)] 34) O fun z=>?_;refine pV 0 ?_;refine pV 1 ?_;refine pV 2 ?_;refine pV 3 ?_;refine kV 4 rfl (yieldsIf_load_mid (by rfl) 136 (.tmp 27) rfl g (q*5) (by rfl) (zP x) _ (fun _ h=>h.1) underlying136 rfl (by kernel_rfl)) ?_;refine kV 5 rfl (qR 34 (.tmp 4) rfl (by rfl) w.heap.size (by rfl) 34 #[.int .i64 r.t,.string (zb r.k),.string (zb r.v)] (0,0) _ (fun _ h=>h.2) underlying34 rfl (by kernel_rfl)) ?_;refine oV 6 fun K E=>?_;refine zdD 155 (.tmp 24) _ _ [.agg (zP x).toArray,.agg #[.int .i64 r.t,.string (zb r.k),.string (zb r.v)]] rfl (by rfl) (by kernel_rfl) (by rfl) ((zeG _ _ _ _ _ _ _ _ _).mono ?_);rintro e1 w5 ⟨rfl,D⟩;refine ⟨_,rfl,?_⟩;refine E.out _ _ ⟨Ql z.1 D a1,zg z.2 D a3⟩ (fun z=>?_);clear E K;try simp only [pS]
    refine pV 7 ?_;refine dV ?_;have R:=hid (B_call X.o (uE D));clear D O z;go_wp2_with fail;go_roundw
    case rel=>exact ⟨q+1,j,by omega,c2,hj,by simp,rfl,R.o⟩
    case measure=>simp [intOf];omega
   ·have a8:m<=q:=Nat.le_of_not_lt (fun h9=>by have h7:=H1.o q x h9 Z.o;have h8:¬ Zh x.rw r<0:=hc;omega);refine sV [] 8 (fun w'=>w'.rangeAt g (q*5) (zP x)/\jJ w' w.heap.size #[.int .i64 r.t,.string (zb r.k),.string (zb r.v)] 34) O fun z=>?_;refine pV 0 ?_;refine pV 1 ?_;refine pV 2 ?_;refine pV 3 ?_;refine kV 4 rfl (yieldsIf_load_mid (by rfl) 136 (.tmp 27) rfl g (q*5) (by rfl) (zP x) _ (fun _ h=>h.1) underlying136 rfl (by kernel_rfl)) ?_;refine kV 5 rfl (qR 34 (.tmp 4) rfl (by rfl) w.heap.size (by rfl) 34 #[.int .i64 r.t,.string (zb r.k),.string (zb r.v)] (0,0) _ (fun _ h=>h.2) underlying34 rfl (by kernel_rfl)) ?_;refine oV 6 fun K E=>?_;refine zdD 155 (.tmp 24) _ _ [.agg (zP x).toArray,.agg #[.int .i64 r.t,.string (zb r.k),.string (zb r.v)]] rfl (by rfl) (by kernel_rfl) (by rfl) ((zeG _ _ _ _ _ _ _ _ _).mono ?_);rintro e1 w5 ⟨rfl,D⟩;refine ⟨_,rfl,?_⟩;refine E.out _ _ ⟨Ql z.1 D a1,zg z.2 D a3⟩ (fun z=>?_);clear E K;try simp only [pS]
    refine pV 7 ?_;refine dV ?_;have R:=hid (B_call X.o (uE D));clear D O z;go_wp2_with fail;go_roundw
    case rel=>exact ⟨i,q,hi,a8,by omega,rfl,rfl,R.o⟩
    case measure=>simp [intOf];omega
  ·have c4:¬ ((i:Int)<(j:Int)):=by omega
   have c0:i=m:=by omega
   have c6:j=m:=by omega
   subst c0;go_upto_region 8 with fail;by_cases c1:i<u.length
   ·obtain ⟨x,L⟩:∃ x,u[i]?=some x:=⟨_,zX c1⟩;obtain ⟨g,rfl,_,hg,_,_,U⟩:=qW.range (w:=wr) a5.o L;have q0:(0:Int)<=(i:Int):=by omega
    have q1:(i:Int)<(u.length:Int):=by omega
    have O:=And.intro U Y.o;have Z:=hid L;have a3:w.heap.size<wr.drew.heap.size:=zi (show wr.drew.heap[w.heap.size]?=_ from Y.o);have a1:g<wr.drew.heap.size:=hg;clear U L;refine sV [] 16 (fun w'=>w'.rangeAt g (i*5) (zP x)/\jJ w' w.heap.size #[.int .i64 r.t,.string (zb r.k),.string (zb r.v)] 34) O fun z=>?_;refine pV 0 ?_;refine pV 1 ?_;refine pV 2 ?_;refine pV 3 ?_;refine pV 4 ?_;refine pV 5 ?_;refine pV 6 ?_;refine pV 7 ?_;refine pV 8 ?_;refine kV 9 rfl (yieldsIf_load_mid (by rfl) 136 (.tmp 43) rfl g (i*5) (by rfl) (zP x) _ (fun _ h=>h.1) underlying136 rfl (by kernel_rfl)) ?_;refine kV 10 rfl (qR 34 (.tmp 4) rfl (by rfl) w.heap.size (by rfl) 34 #[.int .i64 r.t,.string (zb r.k),.string (zb r.v)] (0,0) _ (fun _ h=>h.2) underlying34 rfl (by kernel_rfl)) ?_;refine oV 11 fun K E=>?_;refine zdD 155 (.tmp 40) _ _ [.agg (zP x).toArray,.agg #[.int .i64 r.t,.string (zb r.k),.string (zb r.v)]] rfl (by rfl) (by kernel_rfl) (by rfl) ((zeG _ _ _ _ _ _ _ _ _).mono ?_);rintro e1 w5 ⟨rfl,D⟩;refine ⟨_,rfl,?_⟩;refine E.out _ _ ⟨Ql z.1 D a1,zg z.2 D a3⟩ (fun z=>?_);clear E K;try simp only [pS]
    refine pV 12 ?_;refine pV 13 ?_;refine pV 14 ?_;refine pV 15 ?_;refine dV ?_;have R:=hid (B_call HB.o (B_call X.o (uE D)));clear D O z;go_wp2_with fail;go_ret2;refine ⟨?_,R.o⟩;rw [show ju u i r=(Zh x.rw r == 0) by simp [ju,Z.o]];rfl
   ·have a6:u[i]?=none:=List.getElem?_eq_none (by omega);have q1:¬ ((i:Int)<(u.length:Int)):=by omega
    have b9:=hid a6;clear a6;have a9:=hid (B_call HB.o X.o.drew);refine sV [] 16 (fun _=>True) trivial fun z=>?_;refine pV 0 ?_;refine pV 1 ?_;refine pV 2 ?_;refine pV 3 ?_;refine pV 4 ?_;refine uV 5 ?_;try simp only [pS]
    refine uV 6 ?_;try simp only [pS]
    refine uV 7 ?_;try simp only [pS]
    refine uV 8 ?_;try simp only [pS]
    refine uV 9 ?_;refine uV 10 ?_;refine PrintLast.one_ (i:=11) (N:=some 46) (bA 16 4095) rfl rfl (by kernel_rfl) (by simp) (fun K E=>?_);rw [if_neg (by rw [show Region.wanted _ (yielded _ _)=false from rfl];simp)];refine E.out _ _ (by assumption) (fun z=>?_);clear E K;try simp only [pS]
    refine uV 12 ?_;try simp only [pS]
    refine pV 13 ?_;refine pV 14 ?_;refine pV 15 ?_;refine dV ?_;go_wp2_with fail;go_ret2;refine ⟨?_,a9.o⟩;rw [show ju u i r=false by simp [ju,b9.o]];rfl
end
structure Cut (its:List It) (r:Rw) (m:Nat):Prop where
 le:m<=its.length
 lo:∀ k x,k<m->its[k]?=some x->Zh x.rw r<0
 hi:∀ k x,m<=k->its[k]?=some x->¬ Zh x.rw r<0
theorem Yl {w:World} {p:Addr} {v:Value} (h:w.cell? p=some v):p.block<w.heap.size:=by
 unfold World.cell? at h;cases hb:w.heap[p.block]? with
 | none=>simp [hb] at h
 | some x=>exact zi hb
theorem zdI (X o:Nat) (v:Value) (u:List It) (r:Rw) (m:Nat) (w:World) (L:w.cell? ⟨X,o,none⟩=some v) (h:qW w v u) (hl:u.length<=1000) (E:Cut u r m) :
  zc 131 #[.pointer (some ⟨X,o,none⟩),.agg #[.int .i64 r.t,.string (zb r.k),.string (zb r.v)]] w fun e w'=>e=.returned (.tuple #[.int .i64 m,.bool (ju u m r)])/\zd w w':=by
 obtain ⟨A,c,rfl⟩:=own_slice h;obtain ⟨w1,D⟩:=ex (w.alloc (.cells #[.int .i64 r.t,.string (zb r.k),.string (zb r.v)] 34));have hC:w1.heap[w.heap.size]?=some (.cells #[.int .i64 r.t,.string (zb r.k),.string (zb r.v)] 34 (0,0)):=by rw [D];exact zo _ _ rfl
 have z:zd w w1:=by rw [D];exact B_alloc (zf _ _) _
 have a3:X<w.heap.size:=Yl L;have Y:w1.cell? ⟨X,o,none⟩=some (.slice A u.length c):=qU L z a3;have O:qW w1 (.slice A u.length c) u:=own_same h (fun k hk=>z.block k (h.lt k hk).2);have hs:=zky _ u r m w1.drew O hl E.le E.lo E.hi;obtain ⟨HS,Z⟩:=zi2 hs z;have R:=And.intro Y hC;clear hs z h O hC L Y;go_enter func131,ntmps131;go_upto_region 1 with fail;rw [<- D];clear D;refine sV [5] 10 (fun w'=>zH w' X o (.slice A u.length c)/\jJ w' w.heap.size #[.int .i64 r.t,.string (zb r.k),.string (zb r.v)] 34) R fun a1=>?_;refine pV 0 ?_;refine pV 1 ?_;refine pV 2 ?_;refine tV 3 ?_;refine kV 4 rfl (qR 34 (.tmp 3) rfl (by rfl) w.heap.size (by rfl) 34 #[.int .i64 r.t,.string (zb r.k),.string (zb r.v)] (0,0) _ (fun _ h=>h.2) underlying34 rfl (by kernel_rfl)) ?_;refine lC 5 HS.o ?_;rintro e1 w5 ⟨rfl,U⟩;refine eL ?_;refine pV 6 ?_;refine pV 7 ?_;refine pV 8 ?_;refine pV 9 ?_;refine dV ?_;have a0:=hid (B_call Z.o (uE U));clear U R a1;go_wp2_with fail;go_ret2;exact ⟨rfl,a0.o⟩
def zqi:Value:=.agg #[.int .i64 0,.string { data:=#[] },.string { data:=#[] },.int .i64 0,.int .i64 0]
def Gk (h:List It) (r:Rw) (m:Nat):Value × Bool:=match h[m]? with
 | some x=>if Zh x.rw r=0 then (.agg (zP x).toArray,true) else (zqi,false)
 | none=>(zqi,false)
theorem znk (X o t:Nat) (k:List UInt8) (v:Value) (h:List It) (m:Nat) (w:World) (u:w.cell? ⟨X,o,none⟩=some v) (a0:qW w v h) (hl:h.length<=1000) (hc:Cut h ⟨t,k,[]⟩ m) :
  zc 90 #[.pointer (some ⟨X,o,none⟩),.int .i64 t,.string (zb k)] w fun e w'=>e=.returned (.tuple #[(Gk h ⟨t,k,[]⟩ m).1,.bool (Gk h ⟨t,k,[]⟩ m).2])/\zd w w':=by
 obtain ⟨w1,R⟩:=ex (w.alloc (.cells #[.int .i64 0,.string { data:=#[] },.string { data:=#[] },.int .i64 0,.int .i64 0] 136));have hC:w1.heap[w.heap.size]?=some (.cells #[.int .i64 0,.string { data:=#[] },.string { data:=#[] },.int .i64 0,.int .i64 0] 136 (0,0)):=by rw [R];exact zo _ _ rfl
 have O:zd w w1:=by rw [R];exact B_alloc (zf _ _) _
 have Y:X<w.heap.size:=Yl u;have U:w1.cell? ⟨X,o,none⟩=some v:=qU u O Y;have h1:qW w1 v h:=own_same a0 (fun k hk=>O.block k (a0.lt k hk).2);have a5:=zdI X o v h ⟨t,k,[]⟩ m w1 U h1 hl hc;obtain ⟨a8,HB,HC,H1⟩:=zi4 a5 O hC h1;clear a5 O hC a0 h1 u;go_enter func90,ntmps90;go_upto_region 1 with fail;rw [<- R];clear R;go_upto_region 4 with (go_at_call 131;refine a8.o.mono ?_;rintro e1 w2 ⟨rfl,D⟩);have a1:=zg HC.o D (zi HC.o);have L:=hid a1;have a4:=hid (B_call HB.o D);have a9:=hid D;cases z:ju h m ⟨t,k,[]⟩ with
 | false =>
  have E:Gk h ⟨t,k,[]⟩ m=(zqi,false):=by
   unfold Gk;unfold ju at z;cases u:h[m]? with
   | none=>rfl
   | some x=>rw [u] at z;simp only at z ⊢;rw [if_neg (by simpa using z)]
  have Z:=hid E;clear D a1 E U Y;go_wp2_with (show wpList _ _ _ (⟨none,.store 136 (.tmp 6) (.tmp 23),_,_,_,_⟩::_) _ _;refine wpList_store_row (o:=⟨none,.store 136 (.tmp 6) (.tmp 23),_,_,_,_⟩) rfl 136 (.tmp 6) (.tmp 23) rfl w.heap.size #[.int .i64 0,.string { data:=#[] },.string { data:=#[] },.int .i64 0,.int .i64 0] (by rfl) (by rfl) 136 _ L.o (by kernel_rfl) (by rfl) (by simp [Value.oneCell']) ?_);rw [Z.o];refine yG 6 7 136 rfl rfl w.heap.size 136 #[.int .i64 0,.string { data:=#[] },.string { data:=#[] },.int .i64 0,.int .i64 0] (0,0) _ (.bool false) rfl rfl (setRow_heap _ _ _ _ _ _ L.o) underlying136 rfl (by kernel_rfl) ⟨rfl,below_setRow a4.o (za _) _⟩
 | true =>
  obtain ⟨x,u,a6⟩:∃ x,h[m]?=some x/\Zh x.rw ⟨t,k,[]⟩=0:=by
   unfold ju at z;cases u:h[m]? with
   | none=>rw [u] at z;cases z
   | some x=>rw [u] at z;exact ⟨x,rfl,by simpa using z⟩
  have E:Gk h ⟨t,k,[]⟩ m=(.agg (zP x).toArray,true):=by unfold Gk;rw [u];simp only;rw [if_pos a6]
  have a3:qW w2 v h:=own_same H1.o (fun q hq=>D.block q (H1.o.lt q hq).2);obtain ⟨A,c,rfl⟩:=own_slice a3;have c0:w2.cell? ⟨X,o,none⟩=some (.slice A h.length c):=qU U D (qg Y HB.o.size);obtain ⟨g,rfl,_,hg,_,_,a7⟩:=qW.range a3 u;have b9:m<h.length:=(zr.1 u).1;have q0:(0:Int)<=(m:Int):=by omega
  have q1:(m:Int)<(h.length:Int):=by omega
  obtain ⟨Z,HR⟩:=zi2 E a7;clear D a1 E U Y a3 u a6 a7;go_wp2_with (first|((with_reducible refine gV 30 ?_);refine mV (zP x) HR.o ?_)|(show wpList _ _ _ (⟨none,.store 136 (.tmp 6) (.tmp 30),_,_,_,_⟩::_) _ _;refine wpList_store_row (o:=⟨none,.store 136 (.tmp 6) (.tmp 30),_,_,_,_⟩) rfl 136 (.tmp 6) (.tmp 30) rfl w.heap.size (zP x).toArray (by rfl) (by rfl) 136 _ L.o (by kernel_rfl) (by rfl) (by simp [zP,Value.oneCell']) ?_));rw [Z.o];refine yG 6 7 136 rfl rfl w.heap.size 136 (zP x).toArray (0,0) _ (.bool true) rfl rfl (setRow_heap _ _ _ _ _ _ L.o) underlying136 rfl (by kernel_rfl) ⟨rfl,below_setRow a4.o (za _) _⟩
theorem Yp (a b:List It):qt (a++b)=qt a++qt b:=by simp [qt]
theorem zdm (l:List It) (k:Nat):qt (l.take k)=(qt l).take (k*5):=by
 have h:=Yp (l.take k) (l.drop k);rw [List.take_append_drop] at h;rw [h];by_cases u:k<=l.length
 ·rw [List.take_left' (by rw [uz,qf,Nat.min_eq_left u])]
 ·rw [jG (by omega),List.drop_of_length_le (by omega)];simp only [qt,List.flatMap_nil,List.append_nil];rw [jG (by have:=uz l;unfold qt at this;omega)]
theorem zdl (l:List It) (k:Nat):qt (l.drop k)=(qt l).drop (k*5):=by
 have h:=Yp (l.take k) (l.drop k);rw [List.take_append_drop] at h;by_cases u:k<=l.length
 ·rw [h,List.drop_left' (by rw [uz,qf,Nat.min_eq_left u])]
 ·rw [List.drop_of_length_le (by omega),List.drop_of_length_le (by rw [uz];omega)];rfl
theorem zeQ (l:List It):∀ u∈qt l,u.oneCell'=true:=by intro u h;simp only [qt,List.mem_flatMap] at h;obtain ⟨x,_,z⟩:=h;simp only [zP,zO,qZ,or_false] at z;rcases z with rfl | rfl | rfl | rfl | rfl<;>rfl
theorem qW.pre {w:World} {g n cap:Nat} {l:List It} (h:qW w (.slice (some ⟨g,0,none⟩) n cap) l) {k:Nat} (X:k<=l.length):qW w (.slice (some ⟨g,0,none⟩) k cap) (l.take k):=by
 rcases h.2 with ⟨z,_⟩ | ⟨g',Y,cur,z,hb,U,h2,L,O,R⟩
 ·cases z
 ·injection z with u Z E;injection u with u;injection u with u;subst u E;have D:(l.take k).length=k:=by rw [qf,Nat.min_eq_left X]
  unfold qW;rw [D];refine ⟨by rw [uz,D],.inr ⟨g,cap,cur,rfl,hb,U,by omega,L,O,?_⟩⟩;rw [zdm,<- R,List.take_take,Nat.min_eq_left (by omega)]
theorem GO {P:Program} {o:Oper} {a:Act} {w w1:World} {v h u:Value} (x y:Operand) (ts:Array TypeId) (z:o.op=.call { callee:=.builtin .append,args:=#[x,y],argTypes:=ts }) (E:a.eval x=h) (L:a.eval y=u)
  (D:(Builtin.append_ ts o.type #[h,u]).run P w=.ok v w1):(execOp a.eval o).run P w=.ok (.value v) w1:=by
 unfold execOp;simp [z,resolve,invoke,builtin,E,L,D]
theorem zgh {P:Program} {o:Oper} {a:Act} {w w1:World} {v h:Value} (x:Operand) (ts:Array TypeId) (u:o.op=.call { callee:=.builtin .clear,args:=#[x],argTypes:=ts }) (D:a.eval x=h)
  (z:(Builtin.clear_ ts o.type #[h]).run P w=.ok v w1):(execOp a.eval o).run P w=.ok (.value v) w1:=by
 unfold execOp;simp [u,resolve,invoke,builtin,D,z]
def Js:List Value:=[.int .i64 0,.string { data:=#[] },.string { data:=#[] },.int .i64 0,.int .i64 0]
theorem zcw:(prog.info? 136).map (fun i=>(i.zero,i.size,i.bytes))=some (some (.agg Js.toArray),5,56):=by kernel_rfl
theorem zlm {w:World} {g n cap c:Nat} {l:List It} (h:qW w (.slice (some ⟨g,0,none⟩) l.length cap) l) (hn:n=l.length) (hc:n<cap) (ty:TypeId) :
  ∃ w',(Builtin.clear_ #[99] ty #[.slice (some ⟨g,n*5,none⟩) 1 c]).run prog w=.ok (.tuple #[]) w'/\qW w' (.slice (some ⟨g,0,none⟩) l.length cap) l/\zA (fun x=>x=g) w w':=by
 subst hn;obtain ⟨i0,Z,a0,a4,a5⟩:=info_parts zcw;rcases h.2 with ⟨z,_⟩ | ⟨g',a3,cur,z,hb,D,R,U,X,Y⟩
 ·cases z
 ·injection z with u e2 O;injection u with u;injection u with u;subst u O;have E:=run_storeCells_at prog g (l.length*5) 136 Js 0 cur w D (by simp [Js];omega) (by intro v L;simp [Js] at L;rcases L with rfl | rfl | rfl<;>rfl);simp only [Nat.add_zero] at E;refine ⟨_,?_,?_,(zA.refl (fun x=>x=g) w).setRow (.inl rfl) (List.take (l.length*5) cur.toList++Js++List.drop (l.length*5+Js.length) cur.toList).toArray⟩
  ·have a1:(Builtin.zeroCells (Value.agg Js.toArray).cells 1).toList=Js:=by kernel_rfl
   simp [Builtin.clear_,run_underlying underlying99,zeroValue,typeInfo,Z,a0,a1,E]
  ·refine ⟨h.1,.inr ⟨g,cap,_,rfl,zT _,setRow_heap w g cur _ 136 _ D,R,U,?_,?_⟩⟩
   ·simp only [qH,zl,qf,qI,Array.length_toList,Js,qc,jr];omega
   ·rw [jq,List.take_left' (by have h6:cur.toList.length=cap*5:=(by simpa using X);rw [qf];omega)];exact Y
theorem zjL (g i cap:Nat) (h:List It) (w:World) (a0:qW w (.slice (some ⟨g,0,none⟩) h.length cap) h) (hi:i<h.length) (hl:h.length<=1000) (d0:h.length<=cap) (d3:cap<=maxLen) :
  zc 156 #[.slice (some ⟨g,0,none⟩) h.length cap,.int .i64 i,.int .i64 ((i:Int)+1)] w fun e w'=>e=.returned (.slice (some ⟨g,0,none⟩) (h.length-1) cap)/\qW w' (.slice (some ⟨g,0,none⟩) (h.length-1) cap) (h.eraseIdx i)/\zA (fun x=>x=g) w w':=by
 obtain ⟨i0,d1,d4,d2,d5⟩:=info_parts zcw;obtain ⟨n,E⟩:=ex h.length;obtain ⟨u,c2⟩:=ex (i+1);have hj:(i:Int)+1=(u:Int):=by omega
 rw [hj,<- E];rw [<- E] at hi hl d0 a0;have q0:(0:Int)<=(i:Int):=by omega
 have q1:(u:Int)<=(n:Int):=by omega
 have q2:(i:Int)<=(u:Int):=by omega
 have d6:i<=u:=by omega
 have q3:(n:Int)<=(cap:Int):=by omega
 have q4:(i:Int)<=(cap:Int):=by omega
 have q6:¬ ((i:Int)=(u:Int)):=by omega
 have q7:u<=n:=by omega
 have hlen:(h.drop u).length=n-u:=by rw [qI,E]
 have c7:w.ownsRow 0 136 5 (.slice (some ⟨g,0,none⟩) i cap) i (qt (h.take i)):=by have:=a0;rw [E] at this;have O:=qW.pre this (k:=i) (by omega);unfold qW at O;rw [qf,Nat.min_eq_left (by omega)] at O;exact O
 obtain ⟨ad,z⟩:∃ ad:Addr,(if cap=u then (some ⟨g,0,none⟩:Option Addr) else some ⟨g,u*5,none⟩)=some ad:=by split<;>exact ⟨_,rfl⟩
 have c8:∀ j a7,(qt (h.drop u))[j]?=some a7->w.cell? (ad.add j)=some a7:=by
  intro j a7 Y;by_cases X:cap=u
  ·have:h.drop u=[]:=List.drop_of_length_le (by omega);rw [this] at Y;simp [qt] at Y
  ·rw [if_neg X] at z;injection z with z;subst z;rw [zdl,List.getElem?_drop] at Y;rw [Addr.add_mid];have c3:u*5+j<(qt h).length:=(zr.1 Y).1;have:=World.ownsRow.cellAt (show w.ownsRow 0 136 5 (.slice (some ⟨g,0,none⟩) h.length cap) h.length (qt h) by have O:=a0;rw [E] at O;exact O) (u*5+j) (by rw [uz] at c3;exact c3);rw [this];exact Y
 obtain ⟨D,a4⟩:=ex (n-1);obtain ⟨w1,L,a3,c1⟩:=run_append_fits (P:=prog) w.drew 0 99 99 136 i0 5 underlying99 d1 d2 g i cap (qt (h.take i)) c7 ad (n-u) (cap-u) (qt (h.drop u)) (by rw [uz,hlen]) c8 (zeQ _) (by omega);rw [<- Yp] at a3;have c5:h.take i++h.drop u=h.eraseIdx i:=by rw [c2,List.eraseIdx_eq_take_drop_succ]
 have a5:i+(n-u)=D:=by omega
 rw [c5,a5] at a3;rw [a5] at L;have a1:(h.eraseIdx i).length=D:=by rw [List.length_eraseIdx,if_pos (by omega),a4,E]
 have c6:qW w1 (.slice (some ⟨g,0,none⟩) (h.eraseIdx i).length cap) (h.eraseIdx i):=by unfold qW;rw [a1];exact a3
 obtain ⟨w2,c0,a6,c4⟩:=zlm (n:=D) (c:=cap-D) c6 a1.symm (by omega) 0;have HK:=hid (((zA.refl (fun x=>x=g) w).drew.grown c1 (fun k e=>by injection e with e;exact .inl e.symm)).trans c4 (fun x hx=>.inl hx));rw [a1] at a6;obtain ⟨b9,Z,a9⟩:=zi3 a6 L c0;have r1:(D:Int)<=(n:Int):=by omega
 have d7:D<=n:=by omega
 have r2:¬ (cap=D):=by omega
 have r3:n-D=1:=by omega
 have a8:=hid z;rw [<- a4];clear a0 E c2 hj hlen c7 c8 L a3 c6 c5 a4 a5 a1 c0 a6 c4 z c1;go_enter func156,ntmps156;go_upto_region 5 with fail;by_cases X:cap=u
 ·have z:=a8.o;rw [if_pos X] at z;injection z with z;subst z;subst X;have L:=Z.o;rw [show n-cap=0 by omega,Nat.sub_self] at L;have Z:=hid L;clear L;refine sV [] 8 (fun _=>True) trivial fun R=>?_;refine pV 0 ?_;refine pV 1 ?_;refine pV 2 ?_;refine pV 3 ?_;refine pV 4 ?_;refine pV 5 ?_;refine oV 6 fun K U=>?_;refine uL (GO (.tmp 22) (.tmp 25) #[99,99] rfl (by rfl) (by rfl) Z.o) ?_;refine U.out _ _ trivial (fun R=>?_);clear U K;try simp only [pS]
  refine pV 7 ?_;refine dV ?_;clear R;go_wp2_with (show wpList _ _ _ (⟨none,.call _,_,_,_,_⟩::_) _ _;refine jE rfl _ _ (zgh (.tmp 31) #[99] rfl (by rfl) a9.o) ?_);go_ret;exact ⟨rfl,b9.o,HK.o⟩
 ·have z:=a8.o;rw [if_neg X] at z;injection z with z;subst z;refine sV [] 8 (fun _=>True) trivial fun R=>?_;refine pV 0 ?_;refine pV 1 ?_;refine pV 2 ?_;refine pV 3 ?_;refine pV 4 ?_;refine pV 5 ?_;refine oV 6 fun K U=>?_;refine uL (GO (.tmp 22) (.tmp 25) #[99,99] rfl (by rfl) (by rfl) Z.o) ?_;refine U.out _ _ trivial (fun R=>?_);clear U K;try simp only [pS]
  refine pV 7 ?_;refine dV ?_;clear R;go_wp2_with (show wpList _ _ _ (⟨none,.call _,_,_,_,_⟩::_) _ _;refine jE rfl _ _ (zgh (.tmp 31) #[99] rfl (by rfl) a9.o) ?_);go_ret;exact ⟨rfl,b9.o,HK.o⟩
structure Yy (w:World) (X o:Nat) (v:Value) (N:List It):Prop where
 ex:∃ C T,w.heap[X]?=some (.cells C T (0,0))/\C[o]?=some v
 N:qW w v N
 ne:v.ownBlock≠some X
theorem Yy.cell {w:World} {X o:Nat} {v:Value} {D:List It} (h:Yy w X o v D):w.cell? ⟨X,o,none⟩=some v:=by obtain ⟨C,T,u,z⟩:=h.ex;rw [ze w X o C T _ u];exact z
theorem Yy.ca {w:World} {X o:Nat} {v:Value} {z:List It} (h:Yy w X o v z):w.frozen? ⟨X,o,none⟩=false:=by obtain ⟨C,T,u,_⟩:=h.ex;exact zI w X o C T u
def QY (h:List It) (m:Nat) (r:Rw):List It:=if ju h m r then h.eraseIdx m else h
theorem zkn (X o t:Nat) (k:List UInt8) (v:Value) (u:List It) (m:Nat) (w:World) (h:Yy w X o v u) (hl:u.length<=1000) (hc:Cut u ⟨t,k,[]⟩ m) :
  zc 138 #[.pointer (some ⟨X,o,none⟩),.int .i64 t,.string (zb k)] w fun e w'=>e=.returned (.tuple #[])/\∃ U v',(w'=U/\v'=v∨w'=U.setCell ⟨X,o,none⟩ v')/\zA (fun x=>v.ownBlock=some x) w U/\v'.ownBlock=v.ownBlock/\qW U v' (QY u m ⟨t,k,[]⟩):=by
 have a5:=zdI X o v u ⟨t,k,[]⟩ m w h.cell h.N hl hc;have a4:X<w.heap.size:=Yl h.cell;obtain ⟨H,a1⟩:=zi2 h a5;clear h a5;cases L:ju u m ⟨t,k,[]⟩ with
 | false =>
  have O:QY u m ⟨t,k,[]⟩=u:=by simp [QY,L]
  have Y:=hid O;clear O;go_enter func138,ntmps138;go_wp2_with (go_at_call 131;refine a1.o.mono ?_;rintro e1 E ⟨rfl,z⟩);refine ZS rfl rfl ?_;refine ⟨rfl,E,v,.inl ⟨rfl,rfl⟩,zA.ak z,rfl,?_⟩;rw [Y.o];exact own_same H.o.N (fun q hq=>z.block q (H.o.N.lt q hq).2)
 | true =>
  have O:QY u m ⟨t,k,[]⟩=u.eraseIdx m:=by simp [QY,L]
  have hm:m<u.length:=by
   unfold ju at L;cases D:u[m]? with
   | none=>rw [D] at L;cases L
   | some x=>exact (zr.1 D).1
  have Y:=hid O;clear O;go_enter func138,ntmps138;go_upto_region 3 with (go_at_call 131;refine a1.o.mono ?_;rintro e1 E ⟨rfl,z⟩);have R:qW E v u:=own_same H.o.N (fun q hq=>z.block q (H.o.N.lt q hq).2);obtain ⟨A,c,rfl⟩:=own_slice R;have c3:E.cell? ⟨X,o,none⟩=some (.slice A u.length c):=qU H.o.cell z a4;obtain ⟨x,D⟩:∃ x,u[m]?=some x:=⟨_,zX hm⟩;obtain ⟨g,rfl,_,hg,c1,c2,_⟩:=qW.range R D;have a6:=zjL g m c u E R hm hl c1 c2;have a8:X≠g:=fun e=>H.o.ne (by rw [e];rfl);obtain ⟨b9,a9⟩:=zi2 a6 z;have x1:IntKind.i64.wrap ((m:Int)+1)=(m:Int)+1:=by rw [zu];omega
  have a7:E.frozen? ⟨X,o,none⟩=false:=by rw [World.frozen?_of_block (a:=⟨X,o,none⟩) (z.block X a4)];exact H.o.ca
  obtain ⟨c0,a3⟩:=zi2 a7 c3;clear a6 z R D a7;go_upto_region 99 with ((with_reducible refine aV 156 b9.o ?_);rintro e1 w3 ⟨rfl,a0,Z⟩;have c5:=Qh a3.o Z a8;have c4:=(World.frozen?_of_block (a:=⟨X,o,none⟩) (Z.block X (Yl a3.o) a8)).trans c0.o);refine ZS rfl rfl ?_;refine ⟨rfl,w3,.slice (some ⟨g,0,none⟩) (u.length-1) c,.inr rfl,?_,rfl,?_⟩
  ·exact (zA.ak (M:=fun x=>Value.ownBlock (.slice (some ⟨g,0,none⟩) u.length c)=some x) a9.o).trans Z (fun x D=>.inl (by rw [D];rfl))
  ·rw [Y.o];unfold qW;rw [List.length_eraseIdx,if_pos hm];unfold qW at a0;rw [List.length_eraseIdx,if_pos hm] at a0;exact a0
theorem zcs:ue prog 136 5 56:=.of (by kernel_rfl)
theorem zlW {w:World} {b:Nat} {x:It} (h:w.heap[b]?=some (.cells (zP x).toArray 136 (0,0))):zL w w.heap.size 5 (some ⟨b,0,none⟩) 1 (zP x):=zL.bk h rfl
theorem Qj (x:It):∀ u∈zP x,u.oneCell'=true:=by intro u h;simp only [zP,zO,qZ,or_false] at h;rcases h with rfl | rfl | rfl | rfl | rfl<;>rfl
theorem znr (l:List It) (x:It):qt (l++[x])=qt l++zP x:=by rw [Yp];simp [qt]
theorem zjS (v:Value) (u:List It) (x:It) (b:Nat) (w:World) (h:qW w v u) (hl:u.length<=1000) (hb:w.heap[b]?=some (.cells (zP x).toArray 136 (0,0))) :
  zc 150 #[v,.int .i64 u.length,.slice (some ⟨b,0,none⟩) 1 1] w fun e w'=>∃ v',e=.returned v'/\qW w' v' (u++[x])/\zA (fun y=>v.ownBlock=some y) w w'/\(v'.ownBlock=v.ownBlock∨v'.ownBlock=some w.heap.size):=by
 have H:=hid h;have Y:=hid (zlW hb);have a0:∀ (v':Value) (w':World),w'.ownsRow 0 136 5 v' (u.length+1) (qt u++zP x)->w.grownBy w' v.ownBlock->qW w' v' (u++[x])/\zA (fun y=>v.ownBlock=some y) w w':=by intro v' w' R Z;refine ⟨?_,(zA.refl (fun y=>v.ownBlock=some y) w).grown Z (fun k e=>.inl e)⟩;unfold qW;rw [znr,zl];exact R
 have L:=hid a0;have hv:(∃ g c,v=.slice (some ⟨g,0,none⟩) u.length c/\u.length<=c)∨(v=.slice none 0 0/\u.length=0):=by
  rcases h.2 with ⟨R,h0⟩ | ⟨g,cap,cur,R,_,_,Z,_⟩
  ·exact .inr ⟨R,h0⟩
  ·exact .inl ⟨g,cap,R,Z⟩
 clear h hb a0;rcases hv with ⟨g,c,rfl,hc⟩ | ⟨rfl,h0⟩
 ·obtain ⟨n,U⟩:=ex u.length;rw [<- U];rw [<- U] at hc hl;have q0:(0:Int)<=(n:Int):=by omega
  have q1:(n:Int)<=(c:Int):=by omega
  have O:=hid U;have X:Hid (w.ownsRow 0 136 5 (.slice (some ⟨g,0,none⟩) n c) n (qt u)):=by have:=H.o;unfold qW at this;rw [<- U] at this;exact hid this
  clear U hc;by_cases a1:c=n
  ·subst a1;go_enter func150,ntmps150;go_wp2_with (at_builtin;refine jX rfl (.tmp 23) (.tmp 24) 99 136 5 56 rfl underlying99 zcs (by omega) _ _ _ 0 (by rfl) X.o _ 1 _ _ _ (by rfl) Y.o (Qj x) (by omega) (by omega) (zT _) ?_;intro v4 w5 D z E);go_ret;rw [O.o] at D z E;exact ⟨_,rfl,(L.o _ _ D z).1,by rw [O.o];exact (L.o _ _ D z).2,by rw [O.o];exact E⟩
  ·go_enter func150,ntmps150;go_wp2_with (at_builtin;refine jX rfl (.tmp 23) (.tmp 24) 99 136 5 56 rfl underlying99 zcs (by omega) _ _ _ 0 (by rfl) X.o _ 1 _ _ _ (by rfl) Y.o (Qj x) (by omega) (by omega) (zT _) ?_;intro v4 w5 D z E);go_ret;rw [O.o] at D z E;exact ⟨_,rfl,(L.o _ _ D z).1,by rw [O.o];exact (L.o _ _ D z).2,by rw [O.o];exact E⟩
 ·obtain rfl:u=[]:=yd h0;have X:Hid (w.ownsRow 0 136 5 (.slice none 0 0) 0 []):=hid H.o;go_enter func150,ntmps150;go_wp2_with (at_builtin;refine jX rfl (.tmp 23) (.tmp 24) 99 136 5 56 rfl underlying99 zcs (by omega) _ _ _ 0 (by rfl) X.o _ 1 _ _ _ (by rfl) Y.o (Qj x) (by omega) (by omega) (zT _) ?_;intro v4 w5 D z E);go_ret;exact ⟨_,rfl,(L.o _ _ D z).1,(L.o _ _ D z).2,E⟩
theorem Yb {P:Program} (w:World) (E sT ty h size:Nat) (g o D O:Nat) (a:Addr) (z L:Nat) (cur:Array Value) (t:TypeId) (cs:List Value) (m:Nat)
  (hu:P.underlying E=some (.slice h)) (hs:(P.info? h).map (·.size)=some size)
  (U:w.heap[g]?=some (.cells cur t (0,0))) (hm:m=Nat.min z D) (Z:cs.length=m*size)
  (a0:∀ j v,cs[j]?=some v->w.cell? (a.add j)=some v) (hfit:o+cs.length<=cur.size) (R:∀ v∈cs,v.oneCell'=true) :
  (Builtin.copy_ #[E,sT] ty #[.slice (some ⟨g,o,none⟩) D O,.slice (some a) z L]).run P w =
   .ok (goInt m) (w.setRow g (cur.toList.take o++cs++cur.toList.drop (o+cs.length)).toArray):=by
 have a1:=run_storeCells_at P g o t cs 0 cur w U (by simpa using hfit) R;cases u:P.info? h with
 | none=>simp [u] at hs
 | some i =>
  have X:i.size=size:=by simpa [u] using hs
  have Y:=run_firstCells_some (P:=P) w size m a z L cs Z a0;simp [Builtin.copy_,run_underlying hu,Builtin.lenOf,sizeOf,typeInfo,u,X,<- hm,Y,a1]
theorem zkL (cur T X D:List Value) (k:Nat) (h:T=cur.take k) (O:k<=cur.length) (E:X.length=5) (hfit:k+5+D.length<=cur.length) :
  ((cur.take (k+5)++D++cur.drop (k+5+D.length)).take k++X++(cur.take (k+5)++D++cur.drop (k+5+D.length)).drop (k+X.length)).take (k+5+D.length)=T++X++D:=by
 have u:(cur.take (k+5)++D++cur.drop (k+5+D.length)).take k=T:=by rw [jq,List.take_append_of_le_length (by rw [qf];omega),List.take_take,Nat.min_eq_left (by omega),h]
 have z:(cur.take (k+5)++D++cur.drop (k+5+D.length)).drop (k+X.length)=D++cur.drop (k+5+D.length):=by rw [E,jq,List.drop_left' (by rw [qf];omega)]
 have L:T.length=k:=by rw [h,qf];omega
 rw [u,z,<- jq,List.take_append_of_le_length (by simp only [zl];omega),jG (by simp only [zl];omega)]
end Go.Proofs.YtechnoogjhohfaaGreat
