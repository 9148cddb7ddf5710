/-
  Joined by a program from texts written one by one: part 4 of the walk through the program and of the law behind it.
-/
import Derived.Test.YtechnoogjhohfaaGreatC3
import Derived.Lib.AppendZerosOnto
set_option maxRecDepth 100000
set_option maxHeartbeats 6400000
set_option linter.unusedVariables false
set_option linter.unusedSimpArgs false
namespace Go.Proofs.YtechnoogjhohfaaGreat
open Go.RowKit Go.Lib
theorem zaB (k:Nat):(Builtin.zeroCells (Value.int .u8 0).cells k).toList=List.replicate k (Value.int .u8 0):=by
 unfold Builtin.zeroCells
 apply List.ext_getElem
 ·simp [Value.cells]
 ·intro i h1 h2
  simp [Value.cells,Nat.mod_one]
theorem zfQ (k:Nat):(Builtin.zeroCells (Value.int .u8 0).cells k).size=k:=by simp [Builtin.zeroCells,Value.cells]
theorem zcn {w:World} {B n:Nat} {v:Value} {xs:List Value} (hown:w.ownsRow B 5 1 v n xs) (k:Nat) (h:n+k<=1000000) (hb:B<=w.heap.size) :
  ∃ v' w',(Builtin.append_ #[29,3] 29 #[v,.int .i64 k]).run Tryz.prog w=.ok v' w'/\w'.ownsRow B 5 1 v' (n+k) (xs++List.replicate k (.int .u8 0))/\w.grownBy w' v.ownBlock:=by
 obtain ⟨i0,hi,hz0,hz1,hz2⟩:=info_parts uE
 have hxl:xs.length=n:=by simpa using hown.1
 have hlen:(xs++List.replicate k (Value.int .u8 0)).length=(n+k)*1:=by simp [hxl]
 have hw:IntKind.i64.wrap (k:Int)=k:=by rw [IntKind.wrap_i64];omega
 have grown:∀ (old:Nat),old<n+k->∀ (row:Option Nat),
   (w.drew.alloc (.cells (xs.toArray++Builtin.zeroCells (Value.int .u8 0).cells k++Builtin.zeroCells (Value.int .u8 0).cells (grownCap w (n+k) old 5-(n+k))) 5)).ownsRow B 5 1
    (.slice (some ⟨w.heap.size,0,none⟩) (n+k) (grownCap w (n+k) old 5)) (n+k) (xs++List.replicate k (.int .u8 0)) /\
   w.grownBy (w.drew.alloc (.cells (xs.toArray++Builtin.zeroCells (Value.int .u8 0).cells k++Builtin.zeroCells (Value.int .u8 0).cells (grownCap w (n+k) old 5-(n+k))) 5)) row:=by
  intro old ho row
  have hge:=grownCap_ge w (n+k) old 5
  have hcm:grownCap w (n+k) old 5<=maxLen:=grownCap_le_maxLen w (n+k) old 5 (by unfold maxLen;omega)
  refine ⟨⟨hlen,.inr ⟨w.heap.size,_,_,rfl,hb,heap_alloc_new w.drew _,hge,hcm,?_,?_⟩⟩,⟨rfl,rfl,rfl,by simp,fun j hj _=>Below.heap_alloc w.drew _ j hj⟩⟩
  ·simp only [Array.size_append,List.size_toArray,zfQ,hxl]
   omega
  ·simp only [Array.toList_append,zaB,<- hlen]
   exact List.take_left
 rcases hown.2 with ⟨rfl,rfl⟩ | ⟨g,cap,cur,rfl,hbg,hg,hnc,hcm,hcs,htake⟩
 ·have hx:xs=[]:=List.eq_nil_of_length_eq_zero hxl
  subst hx
  by_cases hk:k=0
  ·subst hk
   refine ⟨.slice none 0 0,w,?_,World.ownsRow_nil _ _ _ _,⟨rfl,rfl,rfl,Nat.le_refl _,fun _ _ _=>rfl⟩⟩
   kernel_rfl
  ·have hr:=run_append_nil_zeros (P:=Tryz.prog) w 29 3 29 5 i0 _ .i64 .i64 Tryz.underlying29 Tryz.underlying3 hi hz0 k (by omega) (by omega) (by omega) (by rw [hz2];omega)
   have hgr:=grown 0 (by omega) (Value.ownBlock (.slice none 0 0))
   simp only [Nat.zero_add,List.nil_append,Array.empty_append] at hgr ⊢
   exact ⟨_,_,hr,hgr.1,hgr.2⟩
 ·by_cases hroom:n+k<=cap
  ·have hcs':cur.size=cap:=by simpa using hcs
   have hst:=run_storeCells_at Tryz.prog g n 5 (List.replicate k (Value.int .u8 0)) 0 cur w hg (by simp;omega) (by intro u hu;rw [(List.mem_replicate.1 hu).2];rfl)
   have hr:(Builtin.append_ #[29,3] 29 #[.slice (some ⟨g,0,none⟩) n cap,.int .i64 k]).run Tryz.prog w=.ok (.slice (some ⟨g,0,none⟩) (n+k) cap) (w.setRow g (cur.toList.take (n+0)++List.replicate k (Value.int .u8 0)++cur.toList.drop (n+0+(List.replicate k (Value.int .u8 0)).length)).toArray):=by
    by_cases hk:k=0
    ·subst hk
     simp only [List.replicate_zero] at hst ⊢
     have hroom':n<=cap:=hroom
     have hw0:IntKind.i64.wrap 0=0:=by decide
     simp [Builtin.append_,run_underlying Tryz.underlying29,run_underlying Tryz.underlying3,sizeOf,typeInfo,hi,hz1,hz2,asInt,asIntOf,hw0,hroom',Addr.add_lit,hst]
    ·have hneg:¬ ((k:Int)<0):=by omega
     have h48:¬ (281474976710656<(k:Int)*(i0.bytes:Int)):=by rw [hz2];omega
     simp [Builtin.append_,run_underlying Tryz.underlying29,run_underlying Tryz.underlying3,sizeOf,typeInfo,zeroValue,hi,hz0,hz1,hz2,asInt,asIntOf,hw,hk,hneg,hroom,Addr.add_lit,zaB,hst]
     intro hbig
     omega
   refine ⟨_,_,hr,⟨hlen,.inr ⟨g,cap,_,rfl,hbg,setRow_heap w g cur _ 5 _ hg,hroom,hcm,?_,?_⟩⟩,⟨rfl,rfl,rfl,by simp,fun j _ hj=>setRow_other w g j _ (fun e=>hj (by simp [Value.ownBlock,e]))⟩⟩
   ·simp only [List.size_toArray,List.length_append,List.length_take,List.length_drop,Array.length_toList,List.length_replicate]
    omega
   ·have ht':cur.toList.take n=xs:=by simpa using htake
    rw [Nat.add_zero,ht',<- hlen]
    exact List.take_left
  ·have holds:∀ j u,xs[j]?=some u->w.cell? ((⟨g,0,none⟩:Addr).add j)=some u:=hown.cells (g:=g) rfl
   by_cases hk:k=0
   ·omega
   have hf:=run_firstCells_some (P:=Tryz.prog) w.drew i0.size n ⟨g,0,none⟩ n cap xs (by rw [hz1,hxl];omega) holds
   have hr:=run_append_grow_zeros (P:=Tryz.prog) w 29 3 29 5 i0 _ .i64 .i64 Tryz.underlying29 Tryz.underlying3 hi hz0 (some ⟨g,0,none⟩) n cap xs hf k (by omega) (by omega) (by omega) (by omega) (by rw [hz2];omega) (by rw [hz2];exact growslice_fits (by omega) (by omega))
   have hgr:=grown cap (by omega) (Value.ownBlock (.slice (some ⟨g,0,none⟩) n cap))
   exact ⟨_,_,hr,hgr.1,hgr.2⟩
def zs (n:Nat):List UInt8:=List.replicate n 0
theorem zlc (n:Nat):List.replicate n (Value.int .u8 0)=zo (zs n):=by simp [zo,zs]
def ZC (t:Nat) (k v:List UInt8):List UInt8:=[1]++zz 1 t++zz 1 k.length++k++zs (15-k.length)++zz 1 v.length++v++zs (21-v.length)
theorem zfr (t:Nat) (k v:List UInt8) (hk:k.length<=15) (hv:v.length<=21):(ZC t k v).length=40:=by
 simp [ZC,zA,zs];omega
theorem Kq (w:World) (l:List UInt8) (hl:l.length<=maxLen):ze (w.alloc (.cells (zo l).toArray 5)) (.slice (some ⟨w.heap.size,0,none⟩) l.length l.length) l:=by
 have h:=World.ownsRow_lit (base:=w.heap.size) (e:=5) (size:=1) w (zo l).toArray l.length (Nat.le_refl _) hl (by simp [qm])
 exact ze.of_own rfl h
theorem qT {w:World} {B B':Nat} {e:TypeId} {s:Nat} {v:Value} {n:Nat} {xs:List Value} (h:w.ownsRow B e s v n xs) (hb:B'<=B):w.ownsRow B' e s v n xs :=
 ⟨h.1,h.2.imp_right fun ⟨g,cap,cur,hv,hg,hr⟩=>⟨g,cap,cur,hv,Nat.le_trans hb hg,hr⟩⟩
theorem Zs {w:World} {B n:Nat} {v:Value} {l:List UInt8} (hown:w.ownsRow B 5 1 v n (zo l)) (k:Nat) (h:n+k<=1000000) (hb:B<=w.heap.size) :
  ∃ v' w',(Builtin.append_ #[29,3] 29 #[v,.int .i64 k]).run Tryz.prog w=.ok v' w'/\w'.ownsRow B 5 1 v' (n+k) (zo (l++zs k))/\w.grownBy w' v.ownBlock:=by
 obtain ⟨v',w',h1,h2,h3⟩:=zcn hown k h hb
 exact ⟨v',w',h1,by rw [jF,<- zlc];exact h2,h3⟩
theorem zfs (t:Int) (k v:ByteArray) (w:World) (ht0:0<=t) (ht:t<4) (hk:k.size<=15) (hv:v.size<=21) :
  Calls Tryz.prog 93 #[.agg #[.int .i64 t,.string k,.string v]] w fun r w'=>∃ v',r=.returned v'/\w'.ownsRow w.heap.size 5 1 v' 40 (zo (ZC t.toNat k.data.toList v.data.toList))/\Below w.heap.size w w':=by
 obtain ⟨tn,rfl⟩:∃ tn:Nat,t=(tn:Int):=⟨t.toNat,by omega⟩
 have hw:IntKind.u64.wrap (tn:Int)=(tn:Int):=by rw [IntKind.wrap_u64];omega
 have hB1:ze ((w.alloc (.cells #[.int .i64 tn,.string k,.string v] 34)).alloc (.cells #[.int .u8 1] 5)).drew (.slice (some ⟨w.heap.size+1,0,none⟩) 1 1) [1]:=by
  have:=Kq (w.alloc (.cells #[.int .i64 tn,.string k,.string v] 34)) [1] (by unfold maxLen;simp)
  rw [World.size_alloc] at this
  exact this
 have hnew:=heap_alloc_new w (.cells #[.int .i64 tn,.string k,.string v] 34)
 obtain ⟨HB1,HNEW⟩:=zi2 hB1 hnew
 have hbe:Below w.heap.size w ((w.alloc (.cells #[.int .i64 tn,.string k,.string v] 34)).alloc (.cells #[.int .u8 1] 5)).drew:=(B_alloc (B_alloc (Below.refl _ _) _) _).drew
 have HBE:=hid hbe
 clear hB1 hnew hbe
 go_enter Tryz.func93,Tryz.ntmps93
 go_upto_region 1 with fail
 have b0:=(cell_of_row _ w.heap.size 0 _ _ _ HNEW.out).trans (show _=some (Value.int .i64 tn) from rfl)
 have b1:=(cell_of_row _ w.heap.size 1 _ _ _ HNEW.out).trans (show _=some (Value.string k) from rfl)
 have hx1:((w.alloc (.cells #[.int .i64 tn,.string k,.string v] 34)).alloc (.cells #[.int .u8 1] 5)).drew.heap[w.heap.size]?=some (.cells #[.int .i64 tn,.string k,.string v] 34 (0,0)):=(Below.heap_alloc _ _ _ (by simp)).trans HNEW.out
 go_region_held3 (fun w'=>w'.cell? ⟨w.heap.size,0,none⟩=some (.int .i64 tn)/\w'.cell? ⟨w.heap.size,1,none⟩=some (.string k))
  (first
   | exact ⟨b0,b1⟩
   | exact ⟨c0,c1⟩
   | exact ⟨d0,d1⟩
   | exact ⟨cell_of_row _ w.heap.size 0 _ _ _ hx1,cell_of_row _ w.heap.size 1 _ _ _ hx1⟩
   | go_keep)
  (first
   | (go_at_call 59;(with_reducible refine (yF _ [1] 1 tn _ HB1.out (by omega) (by omega) (by simp)).mono ?_);rintro r w1 ⟨v1,rfl,hown1,hb1⟩;have hx2:=(hb1.block w.heap.size (Array.getElem?_eq_some_iff.1 hx1).1).trans hx1;have c0:=cell_of_row _ w.heap.size 0 _ _ _ hx2;have c1:=cell_of_row _ w.heap.size 1 _ _ _ hx2;have hB2:ze w1 v1 ([1]++zz 1 tn):=ze.of_own (by simp [zA]) hown1)
   | (go_at_call 60;(with_reducible refine (QT v1 ([1]++zz 1 tn) k w1 hB2 (by simp [zA]) (by omega)).mono ?_);rintro r w2 ⟨v2,rfl,hown2,hb2⟩;have hx3:=(hb2.block w.heap.size (Array.getElem?_eq_some_iff.1 hx2).1).trans hx2;have d0:=cell_of_row _ w.heap.size 0 _ _ _ hx3;have d1:=cell_of_row _ w.heap.size 1 _ _ _ hx3))
 have hl2:(([1]++zz 1 tn)++zz 1 k.size++k.data.toList).length=3+k.size:=by simp [zA];omega
 have hn2:([1]++zz 1 tn).length+1+k.size=3+k.size:=by (have:=zA 1 tn;simp only [List.length_append,List.length_cons,List.length_nil,this])
 rw [hn2] at hown2
 have hk15:(15:Int)-(k.size:Int)=((15-k.size:Nat):Int):=by omega
 obtain ⟨v3,w3,hz3,hown3,hg3⟩:=Zs hown2 (15-k.size) (by omega) hb2.size
 have hn3:3+k.size+(15-k.size)=18:=by omega
 rw [hn3] at hown3
 have hb3:Below w1.heap.size w1 w3:=hb2.grown hg3 hb2.size fun i hi=>(hown2.lt i hi).1
 have hx4:=(hb3.block w.heap.size (Array.getElem?_eq_some_iff.1 hx2).1).trans hx2
 have e2:=(cell_of_row _ w.heap.size 2 _ _ _ hx4).trans (show _=some (Value.string v) from rfl)
 have hB3:ze w3 v3 _:=ze.of_own (by rw [List.length_append,hl2];simp [zs];omega) hown3
 obtain ⟨HB3,HX4,HBB1,HBB3⟩:=zi4 hB3 hx4 hb1 hb3
 clear hx1 hx2 hx3 hB2 hB3 hx4 hown3 hg3 hown2 hb2 hown1 hb1 hb3 hl2 hn2 hn3
 go_upto_region 3 with (at_builtin;refine wpList_append_run _ rfl _ _ _ _ rfl _ _ rfl rfl _ _ hz3 ?_)
 obtain ⟨l3,hl3⟩:∃ l3,l3=([1]++zz 1 tn)++zz 1 k.size++k.data.toList++zs (15-k.size):=⟨_,rfl⟩
 have hlen3:l3.length=18:=by
  have h1:=zA 1 tn
  have h2:=zA 1 k.size
  have h3:k.data.toList.length=k.size:=by rw [Array.length_toList];rfl
  rw [hl3]
  simp only [List.length_append,List.length_cons,List.length_nil,zs,List.length_replicate,h1,h2,h3]
  omega
 have HB3':Hid (ze w3 v3 l3):=hid (by rw [hl3];exact HB3.out)
 have HL3:=hid hl3
 clear hl3
 go_upto_region 4 with (go_at_call 60;(with_reducible refine (QT v3 l3 v w3 HB3'.out (by omega) (by omega)).mono ?_);rintro r w4 ⟨v4,rfl,hown4,hb4⟩)
 rw [hlen3] at hown4
 obtain ⟨A4,c4,rfl⟩:=own_slice hown4
 have hk40:(40:Int)-((18+1+v.size:Nat):Int)=((21-v.size:Nat):Int):=by omega
 have hk41:(40:Int)-(18+1+(v.size:Int))=((21-v.size:Nat):Int):=by omega
 have hk42:(40:Int)-(19+(v.size:Int))=((21-v.size:Nat):Int):=by omega
 obtain ⟨v5,w5,hz5,hown5,hg5⟩:=Zs hown4 (21-v.size) (by omega) hb4.size
 rw [show 18+1+v.size+(21-v.size)=40 by omega,HL3.out] at hown5
 have hb5:Below w3.heap.size w3 w5:=hb4.grown hg5 hb4.size fun i hi=>(hown4.lt i hi).1
 have hbF:=B_call (B_call (B_call HBE.out HBB1.out) HBB3.out) hb5
 have hbase:=(B_call (B_call HBE.out HBB1.out) HBB3.out).size
 have HO5:=hid (qT hown5 hbase)
 have HBF:=hid hbF
 clear hown5 hg5 hown4 hb4 hb5 hbF hbase
 go_wp2_with (at_builtin;refine wpList_append_run _ rfl _ _ _ _ rfl _ _ rfl rfl _ _ hz5 ?_)
 go_ret
 refine ⟨_,rfl,?_,HBF.out⟩
 have:=HO5.out
 rw [Int.toNat_natCast]
 unfold ZC
 exact this
end Go.Proofs.YtechnoogjhohfaaGreat
