import Derived.Test.YtechnoogjhohfaaGreatS3
import Derived.Lib.AppendZerosOnto
set_option maxRecDepth 100000
set_option maxHeartbeats 6400000
set_option linter.unusedVariables false
set_option linter.unusedSimpArgs false
namespace Go.Proofs.YtechnoogjhohfaaGreat
open Go.RowKit Go.Lib
theorem zeC (k:Nat):(Builtin.zeroCells (Value.int .u8 0).cells k).toList=List.replicate k (Value.int .u8 0):=by
 unfold Builtin.zeroCells;apply List.ext_getElem
 ·simp [Value.cells]
 ·intro i h u;simp [Value.cells,Nat.mod_one]
theorem zkT (k:Nat):(Builtin.zeroCells (Value.int .u8 0).cells k).size=k:=by simp [Builtin.zeroCells,Value.cells]
theorem zgK {w:World} {B n:Nat} {v:Value} {xs:List Value} (X:w.ownsRow B 5 1 v n xs) (k:Nat) (c3:n+k<=1000000) (hb:B<=w.heap.size) :
  ∃ v' w',(Builtin.append_ #[29,3] 29 #[v,.int .i64 k]).run Tryz.prog w=.ok v' w'/\w'.ownsRow B 5 1 v' (n+k) (xs++List.replicate k (.int .u8 0))/\w.grownBy w' v.ownBlock:=by
 obtain ⟨O,E,a0,a1,u⟩:=info_parts QU;have L:xs.length=n:=by simpa using X.1
 have hlen:(xs++List.replicate k (Value.int .u8 0)).length=(n+k)*1:=by simp [L]
 have hw:IntKind.i64.wrap (k:Int)=k:=by rw [IntKind.wrap_i64];omega
 have a4:∀ (old:Nat),old<n+k->∀ (row:Option Nat),
   (w.drew.alloc (.cells (xs.toArray++Builtin.zeroCells (Value.int .u8 0).cells k++Builtin.zeroCells (Value.int .u8 0).cells (grownCap w (n+k) old 5-(n+k))) 5)).ownsRow B 5 1
    (.slice (some ⟨w.heap.size,0,none⟩) (n+k) (grownCap w (n+k) old 5)) (n+k) (xs++List.replicate k (.int .u8 0)) /\
   w.grownBy (w.drew.alloc (.cells (xs.toArray++Builtin.zeroCells (Value.int .u8 0).cells k++Builtin.zeroCells (Value.int .u8 0).cells (grownCap w (n+k) old 5-(n+k))) 5)) row:=by
  intro old ho row;have a7:=grownCap_ge w (n+k) old 5;have R:grownCap w (n+k) old 5<=maxLen:=grownCap_le_maxLen w (n+k) old 5 (by unfold maxLen;omega);refine ⟨⟨hlen,.inr ⟨w.heap.size,_,_,rfl,hb,heap_alloc_new w.drew _,a7,R,?_,?_⟩⟩,⟨rfl,rfl,rfl,by simp,fun j U _=>Below.heap_alloc w.drew _ j U⟩⟩
  ·simp only [Array.size_append,qH,zkT,L];omega
  ·simp only [Array.toList_append,zeC,<- hlen];exact List.take_left
 rcases X.2 with ⟨rfl,rfl⟩ | ⟨g,cap,cur,rfl,a5,hg,c7,R,a6,c1⟩
 ·have hx:xs=[]:=yd L;subst hx;by_cases z:k=0
  ·subst z;refine ⟨.slice none 0 0,w,?_,World.ownsRow_nil _ _ _ _,⟨rfl,rfl,rfl,za _,fun _ _ _=>rfl⟩⟩;kernel_rfl
  ·have D:=run_append_nil_zeros (P:=Tryz.prog) w 29 3 29 5 O _ .i64 .i64 Tryz.underlying29 Tryz.underlying3 E a0 k (by omega) (by omega) (by omega) (by rw [u];omega);have h:=a4 0 (by omega) (Value.ownBlock (.slice none 0 0));simp only [qy,List.nil_append,Array.empty_append] at h ⊢;exact ⟨_,_,D,h.1,h.2⟩
 ·by_cases Y:n+k<=cap
  ·have c6:cur.size=cap:=by simpa using a6
   have Z:=run_storeCells_at Tryz.prog g n 5 (List.replicate k (Value.int .u8 0)) 0 cur w hg (by simp;omega) (by intro a3 hu;rw [(List.mem_replicate.1 hu).2];rfl);have D:(Builtin.append_ #[29,3] 29 #[.slice (some ⟨g,0,none⟩) n cap,.int .i64 k]).run Tryz.prog w=.ok (.slice (some ⟨g,0,none⟩) (n+k) cap) (w.setRow g (cur.toList.take (n+0)++List.replicate k (Value.int .u8 0)++cur.toList.drop (n+0+(List.replicate k (Value.int .u8 0)).length)).toArray):=by
    by_cases z:k=0
    ·subst z;simp only [List.replicate_zero] at Z ⊢;have b9:n<=cap:=Y;have c2:IntKind.i64.wrap 0=0:=by decide
     simp [Builtin.append_,run_underlying Tryz.underlying29,run_underlying Tryz.underlying3,sizeOf,typeInfo,E,a1,u,asInt,asIntOf,c2,b9,Addr.add_lit,Z]
    ·have a8:¬ ((k:Int)<0):=by omega
     have c4:¬ (281474976710656<(k:Int)*(O.bytes:Int)):=by rw [u];omega
     simp [Builtin.append_,run_underlying Tryz.underlying29,run_underlying Tryz.underlying3,sizeOf,typeInfo,zeroValue,E,a0,a1,u,asInt,asIntOf,hw,z,a8,Y,Addr.add_lit,zeC,Z];intro c5;omega
   refine ⟨_,_,D,⟨hlen,.inr ⟨g,cap,_,rfl,a5,setRow_heap w g cur _ 5 _ hg,Y,R,?_,?_⟩⟩,⟨rfl,rfl,rfl,by simp,fun j _ U=>setRow_other w g j _ (fun e=>U (by simp [Value.ownBlock,e]))⟩⟩
   ·simp only [qH,zl,qf,qI,Array.length_toList,List.length_replicate];omega
   ·have c0:cur.toList.take n=xs:=by simpa using c1
    rw [Nat.add_zero,c0,<- hlen];exact List.take_left
  ·have a9:∀ j a3,xs[j]?=some a3->w.cell? ((⟨g,0,none⟩:Addr).add j)=some a3:=X.cells (g:=g) rfl;by_cases z:k=0
   ·omega
   have hf:=run_firstCells_some (P:=Tryz.prog) w.drew O.size n ⟨g,0,none⟩ n cap xs (by rw [a1,L];omega) a9;have D:=run_append_grow_zeros (P:=Tryz.prog) w 29 3 29 5 O _ .i64 .i64 Tryz.underlying29 Tryz.underlying3 E a0 (some ⟨g,0,none⟩) n cap xs hf k (by omega) (by omega) (by omega) (by omega) (by rw [u];omega) (by rw [u];exact growslice_fits (by omega) (by omega));have h:=a4 cap (by omega) (Value.ownBlock (.slice (some ⟨g,0,none⟩) n cap));exact ⟨_,_,D,h.1,h.2⟩
def zs (n:Nat):List UInt8:=List.replicate n 0
theorem zqU (n:Nat):List.replicate n (Value.int .u8 0)=zD (zs n):=by simp [zD,zs]
def Jj (t:Nat) (k v:List UInt8):List UInt8:=[1]++zR 1 t++zR 1 k.length++k++zs (15-k.length)++zR 1 v.length++v++zs (21-v.length)
theorem zkp (t:Nat) (k v:List UInt8) (h:k.length<=15) (u:v.length<=21):(Jj t k v).length=40:=by simp [Jj,zG,zs];omega
theorem zby (w:World) (l:List UInt8) (u:l.length<=maxLen):zj (w.alloc (.cells (zD l).toArray 5)) (.slice (some ⟨w.heap.size,0,none⟩) l.length l.length) l:=by have h:=World.ownsRow_lit (base:=w.heap.size) (e:=5) (size:=1) w (zD l).toArray l.length (za _) u (by simp [jf]);exact zj.aj rfl h
theorem jK {w:World} {B u:Nat} {e:TypeId} {s:Nat} {v:Value} {n:Nat} {xs:List Value} (h:w.ownsRow B e s v n xs) (hb:u<=B):w.ownsRow u e s v n xs :=
 ⟨h.1,h.2.imp_right fun ⟨g,cap,cur,E,z,D⟩=>⟨g,cap,cur,E,zz hb z,D⟩⟩
theorem JQ {w:World} {B n:Nat} {v:Value} {l:List UInt8} (E:w.ownsRow B 5 1 v n (zD l)) (k:Nat) (h:n+k<=1000000) (hb:B<=w.heap.size) :
  ∃ v' w',(Builtin.append_ #[29,3] 29 #[v,.int .i64 k]).run Tryz.prog w=.ok v' w'/\w'.ownsRow B 5 1 v' (n+k) (zD (l++zs k))/\w.grownBy w' v.ownBlock:=by
 obtain ⟨v',w',u,z,D⟩:=zgK E k h hb;exact ⟨v',w',u,by rw [yV,<- zqU];exact z,D⟩
theorem zkq (t:Int) (k v:ByteArray) (w:World) (f2:0<=t) (ht:t<4) (hk:k.size<=15) (hv:v.size<=21) :
  Calls Tryz.prog 93 #[.agg #[.int .i64 t,.string k,.string v]] w fun r w'=>∃ v',r=.returned v'/\w'.ownsRow w.heap.size 5 1 v' 40 (zD (Jj t.toNat k.data.toList v.data.toList))/\zd w w':=by
 obtain ⟨tn,rfl⟩:∃ tn:Nat,t=(tn:Int):=⟨t.toNat,by omega⟩;have hw:IntKind.u64.wrap (tn:Int)=(tn:Int):=by rw [IntKind.wrap_u64];omega
 have a8:zj ((w.alloc (.cells #[.int .i64 tn,.string k,.string v] 34)).alloc (.cells #[.int .u8 1] 5)).drew (.slice (some ⟨w.heap.size+1,0,none⟩) 1 1) [1]:=by have:=zby (w.alloc (.cells #[.int .i64 tn,.string k,.string v] 34)) [1] (by unfold maxLen;simp);rw [World.size_alloc] at this;exact this
 have d0:=heap_alloc_new w (.cells #[.int .i64 tn,.string k,.string v] 34);obtain ⟨d2,X⟩:=zi2 a8 d0;have c3:zd w ((w.alloc (.cells #[.int .i64 tn,.string k,.string v] 34)).alloc (.cells #[.int .u8 1] 5)).drew:=(B_alloc (B_alloc (Below.refl _ _) _) _).drew;have a7:=hid c3;clear a8 d0 c3;go_enter Tryz.func93,Tryz.ntmps93;go_upto_region 1 with fail;have b0:=(cell_of_row _ w.heap.size 0 _ _ _ X.o).trans (show _=some (Value.int .i64 tn) from rfl);have b1:=(cell_of_row _ w.heap.size 1 _ _ _ X.o).trans (show _=some (Value.string k) from rfl);have D:((w.alloc (.cells #[.int .i64 tn,.string k,.string v] 34)).alloc (.cells #[.int .u8 1] 5)).drew.heap[w.heap.size]?=some (.cells #[.int .i64 tn,.string k,.string v] 34 (0,0)):=(Below.heap_alloc _ _ _ (by simp)).trans X.o;go_region_held3 (fun w'=>w'.cell? ⟨w.heap.size,0,none⟩=some (.int .i64 tn)/\w'.cell? ⟨w.heap.size,1,none⟩=some (.string k))
  (first|exact ⟨b0,b1⟩|exact ⟨d8,d9⟩|exact ⟨e0,e1⟩|exact ⟨cell_of_row _ w.heap.size 0 _ _ _ D,cell_of_row _ w.heap.size 1 _ _ _ D⟩|go_keep)
  (first|(go_at_call 59;(with_reducible refine (ur _ [1] 1 tn _ d2.o (by omega) (by omega) (by simp)).mono ?_);rintro r w1 ⟨v1,rfl,d1,Y⟩;have h:=(Y.block w.heap.size (qu.1 D).1).trans D;have d8:=cell_of_row _ w.heap.size 0 _ _ _ h;have d9:=cell_of_row _ w.heap.size 1 _ _ _ h;have a9:zj w1 v1 ([1]++zR 1 tn):=zj.aj (by simp [zG]) d1)|(go_at_call 60;(with_reducible refine (KD v1 ([1]++zR 1 tn) k w1 a9 (by simp [zG]) (by omega)).mono ?_);rintro r w2 ⟨v2,rfl,U,u⟩;have a3:=(u.block w.heap.size (qu.1 h).1).trans h;have e0:=cell_of_row _ w.heap.size 0 _ _ _ a3;have e1:=cell_of_row _ w.heap.size 1 _ _ _ a3))
 have c6:(([1]++zR 1 tn)++zR 1 k.size++k.data.toList).length=3+k.size:=by simp [zG];omega
 have c7:([1]++zR 1 tn).length+1+k.size=3+k.size:=by (have:=zG 1 tn;simp only [zl,qc,jr,this])
 rw [c7] at U;have e8:(15:Int)-(k.size:Int)=((15-k.size:Nat):Int):=by omega
 obtain ⟨v3,L,e3,a0,c4⟩:=JQ U (15-k.size) (by omega) u.size;have c8:3+k.size+(15-k.size)=18:=by omega
 rw [c8] at a0;have Z:zd w1 L:=u.grown c4 u.size fun i hi=>(U.lt i hi).1;have a4:=(Z.block w.heap.size (qu.1 h).1).trans h;have e7:=(cell_of_row _ w.heap.size 2 _ _ _ a4).trans (show _=some (Value.string v) from rfl);have b9:zj L v3 _:=zj.aj (by rw [zl,c6];simp [zs];omega) a0;obtain ⟨d3,e5,a5,a6⟩:=zi4 b9 a4 Y Z;clear D h a3 a9 b9 a4 a0 c4 U u d1 Y Z c6 c7 c8;go_upto_region 3 with (at_builtin;refine wpList_append_run _ rfl _ _ _ _ rfl _ _ rfl rfl _ _ e3 ?_);obtain ⟨E,R⟩:∃ E,E=([1]++zR 1 tn)++zR 1 k.size++k.data.toList++zs (15-k.size):=⟨_,rfl⟩;have e2:E.length=18:=by
  have h1:=zG 1 tn;have h2:=zG 1 k.size;have h3:k.data.toList.length=k.size:=by rw [Array.length_toList];rfl
  rw [R];simp only [zl,qc,jr,zs,List.length_replicate,h1,h2,h3];omega
 have d4:Hid (zj L v3 E):=hid (by rw [R];exact d3.o);have d6:=hid R;clear R;go_upto_region 4 with (go_at_call 60;(with_reducible refine (KD v3 E v L d4.o (by omega) (by omega)).mono ?_);rintro r w4 ⟨v4,rfl,z,O⟩);rw [e2] at z;obtain ⟨A4,e6,rfl⟩:=own_slice z;have e9:(40:Int)-((18+1+v.size:Nat):Int)=((21-v.size:Nat):Int):=by omega
 have f0:(40:Int)-(18+1+(v.size:Int))=((21-v.size:Nat):Int):=by omega
 have f1:(40:Int)-(19+(v.size:Int))=((21-v.size:Nat):Int):=by omega
 obtain ⟨v5,w5,e4,a1,c5⟩:=JQ z (21-v.size) (by omega) O.size;rw [show 18+1+v.size+(21-v.size)=40 by omega,d6.o] at a1;have c0:zd L w5:=O.grown c5 O.size fun i hi=>(z.lt i hi).1;have c1:=B_call (B_call (B_call a7.o a5.o) a6.o) c0;have c2:=(B_call (B_call a7.o a5.o) a6.o).size;have d7:=hid (jK a1 c2);have d5:=hid c1;clear a1 c5 z O c0 c1 c2;go_wp2_with (at_builtin;refine wpList_append_run _ rfl _ _ _ _ rfl _ _ rfl rfl _ _ e4 ?_);go_ret;refine ⟨_,rfl,?_,d5.o⟩;have:=d7.o;rw [qp];unfold Jj;exact this
end Go.Proofs.YtechnoogjhohfaaGreat
