/-
  Joined by a program from texts written one by one: part 10 of the walk through the program and of the law behind it.
-/
import Derived.Test.YtechnoogjhohfaaGreatC9
import Derived.Deep.LoopGhost
import Derived.Laws.OwnMore
set_option maxRecDepth 100000
set_option maxHeartbeats 6400000
set_option linter.unusedVariables false
set_option linter.unusedSimpArgs false
namespace Go.Proofs.YtechnoogjhohfaaGreat
open Go.RowKit Go.Lib
open YtechnoogjhohfaaGreatW
def Zx (l:List Nat):List Value:=l.map fun d:Nat=>Value.int .i64 (d:Int)
theorem zih (l:List Nat):(Zx l).length=l.length:=by simp [Zx]
def jS (l:List (Option Rw)) (but:List Nat):Nat->Nat->Option Nat
 | 0,_=>none
 | k+1,i=>if l[i]?=some none/\i ∉ but then some i else jS l but k (i+1)
def uR (p:Pg) (but:List Nat):Option Nat:=jS p.slots but 5 0
def ziE:Option Nat->Int
 | none=>-1
 | some i=>i
theorem Qz {l:List (Option Rw)} {but:List Nat} {k i:Nat} (h:¬ (l[i]?=some none/\i ∉ but)):jS l but (k+1) i=jS l but k (i+1):=by rw [jS,if_neg h]
theorem Kc {l:List (Option Rw)} {but:List Nat} {k i:Nat} (h:l[i]?=some none) (h2:i ∉ but):jS l but (k+1) i=some i:=by rw [jS,if_pos ⟨h,h2⟩]
theorem zif (b t n:Nat) (p:Pg) (A:Option Addr) (c:Nat) (but:List Nat) (w:World) (h:qf w b t n p) (hp:p.ok) (hr:zx w w.heap.size 1 A but.length (Zx but)) (hl:but.length<=10000) :
  Calls Tryz.prog 132 #[.pointer (some ⟨b,0,none⟩),.slice A but.length c] w fun e w'=>e=.returned (.int .i64 (ziE (uR p but)))/\w'=w:=by
 obtain ⟨H,HP,HR⟩:=zi3 h hp hr
 have hbl:=zd h
 clear h hp hr
 go_enter Tryz.func132,Tryz.ntmps132
 go_wp2_with fail
 go_step3
 go_wp2_with fail
 go_step3
 go_wp2_with fail
 go_loopg [5,10] 5 (fun g s5 s10 wr=>∃ k:Nat,k+g=5/\s10=.int .i64 k/\Aside (jS p.slots but g k=uR p but)/\wr=w)
 case atStart=>exact ⟨0,by omega,rfl,rfl,rfl⟩
 case round =>
  obtain ⟨k,hkg,rfl,HF,rfl⟩:=hrel
  cases gk with
  | zero =>
   have hkz:¬ ((k:Int)<5):=by omega
   have HN:Aside (uR p but=none):=HF.out.symm
   go_wp2_with fail
   go_ret
   rw [HN.out];exact ⟨rfl,rfl⟩
  | succ g =>
   have hkz:(k:Int)<5:=by omega
   obtain ⟨o,ho⟩:∃ o,p.slots[k]?=some o:=⟨_,List.getElem?_eq_getElem (by have:=HP.out.five;omega)⟩
   have HO:=hid ho
   have hco:=HP.out.rows o (List.mem_of_getElem? ho)
   have cS:=zdm b k o wr (qf.slot H.out HP.out ho) hco hbl (by omega)
   clear ho
   by_cases hn:o=none
   ·subst hn
    have hne:(za (zt none)).toList.isEmpty=true:=by
     rw [ByteArray.toList_eq];rfl
    go_wp2_with (first
     | (go_at_call 134;refine cS.mono ?_;rintro e w' ⟨rfl,hw⟩;rw [hw]))
    go_loopg [7,19] but.length (fun g2 s7 s19 wy=>∃ j:Nat,j+g2=but.length/\s19=.int .i64 j/\Aside (∀ i,i<j->but[i]?≠some k)/\wy=wr)
    case atStart=>exact ⟨0,by omega,rfl,fun i hi=>by omega,rfl⟩
    case round =>
     obtain ⟨j,hjg,rfl,HJ,rfl⟩:=hrel
     cases gk with
     | zero =>
      have hjz:¬ ((j:Int)<(but.length:Int)):=by omega
      have HN:Aside (uR p but=some k):=by
       rw [<- HF.out]
       exact Kc HO.out (fun hm=>by
        obtain ⟨i,hi,e⟩:=List.getElem_of_mem hm
        exact HJ.out i (by omega) (by rw [List.getElem?_eq_getElem hi,e]))
      go_wp2_with fail
      go_ret
      rw [HN.out];exact ⟨rfl,rfl⟩
     | succ g2 =>
      have hjz:(j:Int)<(but.length:Int):=by omega
      obtain ⟨x,hx⟩:∃ x,but[j]?=some x:=⟨_,List.getElem?_eq_getElem (by omega)⟩
      obtain ⟨ad,rfl,hc⟩:=HR.out.src (by rw [zih];omega)
      have hcell:wr.cell? (ad.add j)=some (.int .i64 x):=hc j _ (by rw [Zx,List.getElem?_map,hx];rfl)
      have HX:=hid hx
      clear hx hc
      by_cases hxk:x=k
      ·subst hxk
       go_wp2_with fail
       go_roundg g
       case measure=>omega
       case rel=>exact ⟨x+1,by omega,rfl,by show _=_;rw [<- HF.out,Qz (fun hh=>hh.2 (List.mem_of_getElem? HX.out))],rfl⟩
      ·have hxk2:¬ ((x:Int)=(k:Int)):=by omega
       go_wp2_with fail
       go_roundg g2
       case measure=>omega
       case rel=>exact ⟨j+1,by omega,rfl,fun i hi=>by
        by_cases hij:i=j
        ·subst hij;rw [HX.out];simpa using hxk
        ·exact HJ.out i (by omega),rfl⟩
   ·obtain ⟨r,rfl⟩:=Option.ne_none_iff_exists'.1 hn
    have hne:(za (zt (some r))).toList.isEmpty=false:=by
     rw [ByteArray.toList_eq];simp [za,zt,jJ,ZC]
    go_wp2_with (first
     | (go_at_call 134;refine cS.mono ?_;rintro e w' ⟨rfl,hw⟩;rw [hw]))
    go_roundg g
    case measure=>omega
    case rel=>exact ⟨k+1,by omega,rfl,by show _=_;rw [<- HF.out,Qz (fun hh=>by have:=HO.out.symm.trans hh.1;cases this)],rfl⟩
def qZ (t n:Nat) (p:Pg):List UInt8:=zz 2 t++zz 2 n++yH p++zs 20
def yj (t n:Nat) (p:Pg) (k:Nat):List UInt8:=(List.range k).flatMap fun i=>zz 8 p.mark++qd (qZ t n p) i
def qz (t n:Nat) (p:Pg):List UInt8:=if p.mark=0 then zs 256 else yj t n p 4
theorem vZ {t n:Nat} {p:Pg} (h:p.ok):(qZ t n p).length=224:=by simp [qZ,zA,zs,QP h]
theorem KG (t n:Nat) (p:Pg) (k:Nat):yj t n p (k+1)=yj t n p k++zz 8 p.mark++qd (qZ t n p) k:=by
 simp [yj,List.range_succ]
theorem yc {t n:Nat} {p:Pg} (h:p.ok):∀ k,k<=4->(yj t n p k).length=64*k
 | 0,_=>rfl
 | k+1,hk=>by
  rw [KG,List.length_append,List.length_append,yc h k (by omega),zA,Qq,vZ h];omega
theorem jY {t n:Nat} {p:Pg} (h:p.ok):(qz t n p).length=256:=by
 unfold qz
 split
 ·exact List.length_replicate
 ·exact yc h 4 (by omega)
theorem zfM (p:Pg) (k:Nat) (o:Option Rw) (h:p.slots[k]?=some o):(p.slots.take (k+1)).flatMap qJ=(p.slots.take k).flatMap qJ++qJ o:=by
 rw [List.take_add_one,h];simp
theorem zcU {w:World} {B e s n c:Nat} {A:Option Addr} {xs:List Value} (h:w.ownsRow B e s (.slice A n c) n xs):∀ x,A=some x->B<=x.block:=by
 intro x hx
 rcases h.2 with ⟨h1,_⟩ | ⟨g,cap,cur,h1,hg,_⟩
 ·injection h1 with h1;rw [h1] at hx;cases hx
 ·injection h1 with h1;rw [h1] at hx;injection hx with hx;rw [<- hx];exact hg
theorem ze.nil (w:World):ze w (.slice none 0 0) []:=⟨none,0,rfl,(zx.none_:zx w w.heap.size 1 none 0 []),Nat.le_refl _,by unfold maxLen;omega⟩
theorem JA (t n:Nat) (p:Pg) (w:World) (hp:p.ok) (ht:t<65536) (hn:n<65536) :
  Calls Tryz.prog 136 #[.agg (zK t n p).toArray] w fun e w'=>∃ A c,e=.returned (.slice (some A) 256 c)/\w.heap.size<=A.block/\ze w' (.slice (some A) 256 c) (qz t n p)/\Below w.heap.size w w':=by
 have HP:=hid hp
 obtain ⟨w1,hw1⟩:∃ w1,w1=w.alloc (.cells (zK t n p).toArray 204):=⟨_,rfl⟩
 have hX:w1.heap[w.heap.size]?=some (.cells (zK t n p).toArray 204 (0,0)):=by rw [hw1];exact zk _ _ rfl
 have hB:Below w.heap.size w w1:=by rw [hw1];exact B_alloc (Below.refl _ _) _
 obtain ⟨HX,HB⟩:=zi2 hX hB
 have hlt1:w.heap.size<w1.heap.size:=zd hX
 have c0:w1.cell? ⟨w.heap.size,0,none⟩=some (.int .u64 p.mark):=cell_of_row w1 w.heap.size 0 _ _ _ hX
 have c1:w1.cell? ⟨w.heap.size,1,none⟩=some (.int .i64 t):=cell_of_row w1 w.heap.size 1 _ _ _ hX
 have c2:w1.cell? ⟨w.heap.size,2,none⟩=some (.int .i64 n):=cell_of_row w1 w.heap.size 2 _ _ _ hX
 have u1:IntKind.u64.wrap (t:Int)=(t:Int):=jW _ (by omega)
 have u2:IntKind.u64.wrap (n:Int)=(n:Int):=jW _ (by omega)
 clear hX hB
 by_cases hm:p.mark=0
 ·have hm':(p.mark:Int)=0:=by omega
  obtain ⟨W,hrun,hz,hb⟩:=QH w1 256 (by omega)
  have hrun:(Instr.makeSlice 29 (.int .i64 256) (.int .i64 256)).run Tryz.prog w1=.ok (.slice (some ⟨w1.heap.size,0,none⟩) 256 256) W:=hrun
  have HZ:=hid hz
  have HB2:=hid (B_call HB.out hb)
  clear hz hb
  go_enter Tryz.func136,Tryz.ntmps136
  go_upto_region 1 with fail
  rw [<- hw1]
  clear hw1
  go_wp2_with fail
  go_ret
  refine ⟨_,_,rfl,by exact HB.out.size,?_,HB2.out⟩
  rw [qz,if_pos hm];exact HZ.out
 ·have HMZ:=hid hm
  have hm':¬ ((p.mark:Int)=0):=by omega
  go_enter Tryz.func136,Tryz.ntmps136
  go_upto_region 1 with fail
  rw [<- hw1]
  clear hw1
  go_upto_region 3 with fail
  have hS:w1.cell? ⟨w.heap.size,1,none⟩=some (.int .i64 t)/\w1.cell? ⟨w.heap.size,2,none⟩=some (.int .i64 n):=⟨c1,c2⟩
  refine wp_region_noPanic ?_
  refine PrintLast.start_ (n:=9) (S:=(fun w'=>w'.cell? ⟨w.heap.size,1,none⟩=some (.int .i64 t)/\w'.cell? ⟨w.heap.size,2,none⟩=some (.int .i64 n))) (ds:=[]) (bA 9 0) (by kernel_rfl) rfl (by kernel_rfl) hS (fun hHeld=>?_)
  refine pu 0 11 9 1 rfl rfl ?_
  refine tq 1 12 9 3 rfl rfl ?_
  refine tq 2 13 9 7 rfl rfl ?_
  refine pu 4 15 9 23 rfl rfl ?_
  refine tq 5 16 9 55 rfl rfl ?_
  refine tq 6 17 9 119 rfl rfl ?_
  refine on 3 9 127 (some 14) rfl rfl (fun K hK=>?_)
  show Oper.wp _ ⟨some 14,_,_,_,_,_⟩ _ _ _ _
  refine zq 59 _ _ [_,.int .i64 2,.int .u64 (t:Int)] rfl (by kernel_rfl) (by rfl) ((yF _ [] 2 t _ (ze.nil _) (by omega) (by omega) (by simp)).mono ?_)
  rintro e1 w2 ⟨v2,rfl,hown2,hb2⟩
  refine ⟨_,rfl,?_⟩
  refine hK.out _ _ ⟨qk hHeld.1 hb2 hlt1,qk hHeld.2 hb2 hlt1⟩ (fun hHeld=>?_)
  clear hK K
  try simp only [pS]
  refine on 7 9 255 (some 18) rfl rfl (fun K hK=>?_)
  show Oper.wp _ ⟨some 18,_,_,_,_,_⟩ _ _ _ _
  refine zq 59 _ _ [_,.int .i64 2,.int .u64 (n:Int)] rfl (by kernel_rfl) (by rfl) ((yF _ ([]++zz 2 t) 2 n _ (ze.of_own ?len hown2) (by omega) (by omega) (by simp [zA])).mono ?_)
  case len=>simp [zA]
  rintro e1 w3 ⟨v3,rfl,hown3,hb3⟩
  refine ⟨_,rfl,?_⟩
  refine hK.out _ _ ⟨qk hHeld.1 hb3 (Nat.lt_of_lt_of_le hlt1 hb2.size),qk hHeld.2 hb3 (Nat.lt_of_lt_of_le hlt1 hb2.size)⟩ (fun hHeld=>?_)
  clear hK K
  try simp only [pS]
  refine pu 8 3 9 511 rfl rfl ?_
  refine PrintLast.done_ (by kernel_rfl) ?_
  refine NoPanic.normal ?_
  have hmb:((p.mark:Int) == 0)=false:=by simpa using hm'
  rw [hmb]
  have hB3:Below w1.heap.size w1 w3:=yO (B_call hb2 hb3)
  have hown:w3.ownsRow w1.heap.size 5 1 v3 4 (zo (zz 2 t++zz 2 n)):=by
   have:=qT hown3 (show w1.heap.size<=w2.heap.size from hb2.size)
   simpa [zA] using this
  obtain ⟨HO,HB3⟩:=zi2 hown hB3
  clear hB3 hown hown3 hb2 hb3 hown2 hHeld hS c0 c1 c2 u1 u2
  go_upto_region 5 with fail
  go_loopw [3,4,19] (fun v _ u wr=>∃ k:Nat,k<=5/\u=.int .i64 k/\wr.ownsRow w1.heap.size 5 1 v (4+40*k) (zo (zz 2 t++zz 2 n++(p.slots.take k).flatMap qJ))/\Below w1.heap.size w1 wr) (fun _ _ u _=>(5-intOf u).toNat)
  case atStart=>exact ⟨0,by omega,rfl,by simpa using HO.out,HB3.out⟩
  case round =>
   obtain ⟨k,hk,rfl,hown,hbl⟩:=hrel
   by_cases hk5:k<5
   ·have hki:(k:Int)<5:=by omega
    obtain ⟨o,ho⟩:∃ o,p.slots[k]?=some o:=⟨_,List.getElem?_eq_getElem (by have:=HP.out.five;omega)⟩
    have HX4:=hid (zb HX.out hbl hlt1)
    have hr:zx wr wr.heap.size 1 (some ⟨w.heap.size,3+k*40,none⟩) 40 (zo (qJ o)):=ze.reads' (ze.of_range (n:=40) (qf.slot HX4.out HP.out ho) (zd HX4.out) (jz (HP.out.rows o (List.mem_of_getElem? ho))).symm (by rw [jz (HP.out.rows o (List.mem_of_getElem? ho))];omega)) (jz (HP.out.rows o (List.mem_of_getElem? ho))).symm
    have HR:=hid hr
    obtain ⟨A4,c4,rfl⟩:=own_slice hown
    obtain ⟨HOW,HBL,HK⟩:=zi3 hown hbl ho
    clear hr hown hbl ho
    go_wp2_with (at_builtin;refine qW rfl (.tmp 22) (.tmp 26) 29 5 1 1 rfl Tryz.underlying29 uD (by omega) _ _ _ w1.heap.size (by rfl) HOW.out _ 40 40 _ _ (by rfl) HR.out (jb _) (by omega) (by omega) HBL.out.size ?_;intro v4 w4 hown4 hg4 _)
    go_roundw
    case rel =>
     refine ⟨k+1,by omega,by simp,?_,?_⟩
     ·rw [zfM p k _ HK.out,<- List.append_assoc,show 4+40*(k+1)=4+40*k+40 by omega,jF]
      exact hown4
     ·exact jL HBL.out HOW.out hg4
    case measure=>simp [intOf];omega
   ·have hk5':k=5:=by omega
    subst hk5'
    obtain ⟨l4,hl4⟩:∃ l,l=zz 2 t++zz 2 n++yH p:=⟨_,rfl⟩
    have hown:wr.ownsRow w1.heap.size 5 1 u3 204 (zo l4):=by
     rw [hl4]
     rw [List.take_of_length_le (by rw [HP.out.five];omega)] at hown
     exact hown
    obtain ⟨A4,c4,rfl⟩:=own_slice hown
    obtain ⟨v5,w5,hz5,hown5,hg5⟩:=Zs hown 20 (by omega) hbl.size
    have hb5:=hid (jL hbl hown hg5)
    obtain ⟨HOW,HL4⟩:=zi2 hown5 hl4
    obtain ⟨A5,c5,rfl⟩:=own_slice hown5
    clear hg5 hown5 hown hbl hl4
    go_wp2_with (at_builtin;refine wpList_append_run _ rfl _ _ _ _ rfl _ _ rfl rfl _ _ hz5 ?_)
    have HBODY:Hid (w5.ownsRow w1.heap.size 5 1 (.slice A5 224 c5) 224 (zo (qZ t n p))):=hid (by rw [qZ,<- HL4.out];exact HOW.out)
    clear HOW HL4 l4 hz5
    have hin:ze w5 (.slice A5 224 c5) (qZ t n p):=ze.of_own (vZ HP.out).symm HBODY.out
    have HIN:=hid hin
    have HX5:=hid (zb HX.out hb5.out hlt1)
    have hAd:∃ ad,A5=some ad:=by
     obtain ⟨ad,e,_⟩:=zx.src (ze.reads' hin (vZ HP.out).symm) (by rw [qm,vZ HP.out];omega)
     exact ⟨ad,e⟩
    obtain ⟨ad,rfl⟩:=hAd
    clear hin
    go_loopw [5,6,34] (fun v _ u wr=>∃ k:Nat,k<=4/\u=.int .i64 k/\wr.ownsRow w1.heap.size 5 1 v (64*k) (zo (yj t n p k))/\Below w5.heap.size w5 wr) (fun _ _ u _=>(4-intOf u).toNat)
    case atStart=>exact ⟨0,by omega,rfl,⟨rfl,.inl ⟨rfl,rfl⟩⟩,Below.refl _ _⟩
    case round =>
     obtain ⟨k,hk,rfl,hown,hbl⟩:=hrel
     by_cases hk4:k<4
     ·have hki:(k:Int)<4:=by omega
      have hX:=zb HX5.out hbl (zd HX5.out)
      have c0:wr.cell? ⟨w.heap.size,0,none⟩=some (.int .u64 p.mark):=cell_of_row wr w.heap.size 0 _ _ _ hX
      have HIN2:=hid (HIN.out.below hbl)
      have HOW:=hid (ze.of_own (yc HP.out k hk).symm hown)
      have HBL:=hid hbl
      obtain ⟨A4,c4,rfl⟩:=own_slice hown
      clear hX hown hbl
      go_upto_region 14 with fail
      obtain ⟨m0,hm0⟩:∃ m,m=k*56:=⟨_,rfl⟩
      obtain ⟨m1,hm1⟩:∃ m,m=k*56+56:=⟨_,rfl⟩
      have x1:IntKind.i64.wrap (m0:Int)=(m0:Int):=by rw [IntKind.wrap_i64];omega
      have x1':(k:Int)*56=(m0:Int):=by omega
      have x2:IntKind.i64.wrap ((k:Int)+1)=(k:Int)+1:=by rw [IntKind.wrap_i64];omega
      have x3:IntKind.i64.wrap (((k:Int)+1)*56)=(m1:Int):=by rw [IntKind.wrap_i64];omega
      have hc5:224<=c5:=by
       obtain ⟨A6,c6,e,_,h9,_⟩:=HIN2.out
       injection e with e1 e2 e3
       rw [<- e3,vZ HP.out] at h9;exact h9
      have y1:(m1:Int)<=(c5:Int):=by omega
      have y2:m0<=m1:=by omega
      have y4:m1-m0=56:=by omega
      have y3:¬ (c5=m0):=by omega
      have HM:=hid (And.intro hm0 hm1)
      clear hm0 hm1 hc5
      refine wp_region_noPanic ?_
      refine PrintLast.start_ (n:=13) (S:=(fun w'=>w'.cell? ⟨w.heap.size,0,none⟩=some (.int .u64 p.mark))) (ds:=[]) (bA 13 0) (by kernel_rfl) rfl (by kernel_rfl) c0 (fun hHeld=>?_)
      refine pu 0 37 13 1 rfl rfl ?_
      refine pu 1 38 13 3 rfl rfl ?_
      refine tq 2 39 13 7 rfl rfl ?_
      refine pu 4 41 13 23 rfl rfl ?_
      refine pu 5 42 13 55 rfl rfl ?_
      refine pu 6 43 13 119 rfl rfl ?_
      refine pu 7 44 13 247 rfl rfl ?_
      refine pu 8 45 13 503 rfl rfl ?_
      refine pu 9 46 13 1015 rfl rfl ?_
      refine pu 10 47 13 2039 rfl rfl ?_
      refine on 3 13 2047 (some 40) rfl rfl (fun K hK=>?_)
      show Oper.wp _ ⟨some 40,_,_,_,_,_⟩ _ _ _ _
      refine zq 59 _ _ [_,.int .i64 8,.int .u64 (p.mark:Int)] rfl (by kernel_rfl) (by rfl) ((yF _ (yj t n p k) 8 p.mark _ HOW.out.drew (by omega) (by omega) (by rw [yc HP.out k hk];omega)).mono ?_)
      rintro e1 w6 ⟨v6,rfl,hown6,hb6⟩
      refine ⟨_,rfl,?_⟩
      refine hK.out _ _ (qk (by assumption) hb6 (Nat.lt_of_lt_of_le (zd HX5.out) HBL.out.size)) (fun hHeld=>?_)
      clear hK K
      try simp only [pS]
      refine on 11 13 4095 (some 48) rfl rfl (fun K hK=>?_)
      show Oper.wp _ ⟨some 48,_,_,_,_,_⟩ _ _ _ _
      refine uZ (.tmp 40) (.tmp 47) 29 5 1 1 rfl Tryz.underlying29 uD (by omega) v6 _ _ wr.heap.size (by rfl) hown6 (some (ad.add m0)) 56 (c5-m0) (zo (qd (qZ t n p) k)) w6.heap.size (by rfl) ?rds (jb _) (by rw [yc HP.out k hk,show (8:Int).toNat=8 from rfl];omega) (by omega) hb6.size ?_
      case rds =>
       have hs:=ze.sub (HIN2.out.drew.below hb6) m0 56 (by rw [HM.out.1];omega) (by rw [HM.out.1];omega)
       rw [HM.out.1] at hs ⊢
       exact ze.reads' hs (by rw [Qq,vZ HP.out];omega)
      intro v7 w7 hown7 hg7 _
      refine hK.out _ _ (uq (by assumption) hg7 (fun e=>by have h7:wr.heap.size<=w.heap.size:=(hown6.lt _ e).1;have h8:w.heap.size<wr.heap.size:=Nat.lt_of_lt_of_le (zd HX5.out) HBL.out.size;omega)) (fun hHeld=>?_)
      clear hK K
      try simp only [pS]
      refine pu 12 5 13 8191 rfl rfl ?_
      refine PrintLast.done_ (by kernel_rfl) ?_
      refine NoPanic.normal ?_
      have hfin:=hid (B_call HBL.out (yO (jL hb6 hown6 hg7)))
      have hin7:w7.ownsRow w1.heap.size 5 1 v7 (64*(k+1)) (zo (yj t n p (k+1))):=by
       have e2:=hown7.1
       rw [KG]
       rw [<- jF] at hown7
       have e3:(yj t n p k).length+(8:Int).toNat+56=64*(k+1):=by rw [yc HP.out k hk,show (8:Int).toNat=8 from rfl];omega
       rw [e3] at hown7
       exact qT hown7 (Nat.le_trans hb5.out.size HBL.out.size)
      have HIN7:=hid hin7
      clear hin7 hown7 hg7 hown6 hb6
      go_wp2_with fail
      go_roundw
      case rel=>exact ⟨k+1,by omega,by simp,HIN7.out,hfin.out⟩
      case measure=>simp [intOf];omega
     ·have hk4':k=4:=by omega
      subst hk4'
      have hbin:=ze.of_own (yc HP.out 4 (by omega)).symm hown
      obtain ⟨HOW,HBL⟩:=zi2 hbin hbl
      obtain ⟨A4,c4,rfl⟩:=own_slice hown
      obtain ⟨ad4,e4,_⟩:=zx.src (ze.reads' hbin (yc HP.out 4 (by omega)).symm) (by rw [qm,yc HP.out 4 (by omega)];omega)
      subst e4
      have HA:=hid (zcU hown ad4 rfl)
      clear hown hbl hbin
      go_wp2_with fail
      go_ret
      refine ⟨ad4,c4,rfl,Nat.le_trans HB.out.size HA.out,?_,B_call HB.out (B_call hb5.out HBL.out)⟩
      rw [qz,if_neg HMZ.out]
      exact HOW.out
theorem Gy (t n:Nat) (p:Pg) (w:World) (hp:p.ok) (ht:t<65536) (hn:n<65536) :
  Calls Tryz.prog 136 #[.agg (zK t n p).toArray] w fun e w'=>∃ v,e=.returned v/\ze w' v (qz t n p)/\Below w.heap.size w w' :=
 (JA t n p w hp ht hn).mono fun _ _ ⟨A,c,h1,_,h2,h3⟩=>⟨_,h1,h2,h3⟩
theorem YB (a:Addr) (n:Nat):(a.add n).block=a.block:=by unfold Addr.add;split<;>rfl
theorem Kg (G:Nat) (A:Option Addr) (n c:Nat) (xs:List Value) (k:Int) (w:World) (h:qS w G A n c xs false) (h0:0<=k) (hk:k<=n) (hs:n<=1000000) :
  Calls Tryz.prog 99 #[.pointer (some ⟨G,0,none⟩),.int .i64 k] w fun r w'=>∃ v A' c',r=.returned v/\w'.ownsRow w.heap.size 5 1 v k.toNat (xs.take k.toNat)/\qS w' G A' (n-k.toNat) c' (xs.drop k.toNat) false/\w.grownBy w' (some G)/\∀ x,A'=some x->∃ y,A=some y/\x.block=y.block:=by
 obtain ⟨m,rfl⟩:∃ m:Nat,k=(m:Int):=⟨k.toNat,by omega⟩
 obtain ⟨i0,hi,hz0,hz1,hz2⟩:=info_parts uE
 have hle:=h.le
 have hmx:=h.mx
 have c0:w.cell? ⟨G,0,none⟩=some (.slice A n c):=cell_of_row w G _ _ _ _ h.blk
 have hm0:decide ((m:Int)<0)=false:=by simp
 have hmn:decide ((n:Int)<(m:Int))=false:=by simp;omega
 have hma:(m:Int)<=(n:Int):=hk
 have hmc:(m:Int)<=(c:Int):=by omega
 have hnc:(n:Int)<=(c:Int):=by omega
 have HH:=hid h
 clear h
 go_enter Tryz.func99,Tryz.ntmps99
 go_wp2_with (first
  | (go_at_call 55;(with_reducible refine (uH G A n c xs false w HH.out).mono ?_);rintro r w1 ⟨rfl,rfl⟩)
  | (at_builtin;refine yT _ rfl _ _ _ rfl w1.heap.size 5 i0 _ 1 1 Tryz.underlying29 hi hz0 hz1 hz2 rfl (by omega) (.slice none 0 0) 0 [] rfl (World.ownsRow_nil _ _ _ _) G A m c (xs.take m) rfl (HH.out.rd.take (by omega)) (fun u hu=>HH.out.one u (List.mem_of_mem_take hu)) (by unfold maxLen;omega) (by omega) (Nat.le_refl _) ?_;intro v2 w2 hown2 hg2 hat2;have hblk2:w2.heap[G]?=some (.cells #[.slice A n c,.bool false] 182 (0,0)):=(hg2.block G (Array.getElem?_eq_some_iff.1 HH.out.blk).1 (by simp [Value.ownBlock])).trans HH.out.blk;have d0:w2.cell? ⟨G,0,none⟩=some (.slice A n c):=cell_of_row w2 G _ _ _ _ hblk2;have f0:w2.frozen? ⟨G,0,none⟩=false:=frozen_of_row w2 G 0 _ _ hblk2))
 ·obtain rfl:c=m:=by omega
  have hcut:=HH.out.rd.cut (k:=c) (cap:=c) (by omega) HH.out.le
  rw [if_pos rfl,Nat.mul_one] at hcut
  have hT:=Zz HH.out (by omega) hg2 (by simpa using hown2) hcut
  rw [Nat.sub_self] at hT
  go_ret
  exact ⟨_,rfl,hT.1,_,⟨_,hT.2.1⟩,hT.2.2,fun x hx=>⟨x,hx,rfl⟩⟩
 ·rename_i hcm
  have hcut:=HH.out.rd.cut (k:=m) (cap:=c) (by omega) HH.out.le
  rw [if_neg (by omega),Nat.mul_one] at hcut
  have hT:=Zz HH.out (by omega) hg2 (by simpa using hown2) hcut
  go_ret
  refine ⟨_,rfl,hT.1,_,⟨_,hT.2.1⟩,hT.2.2,fun x hx=>?_⟩
  cases A with
  | none=>cases hx
  | some y=>injection hx with hx;subst hx;exact ⟨y,rfl,YB y _⟩
theorem zfd (G:Nat) (A:Option Addr) (n c:Nat) (l:List Int) (k:Int) (w:World) (h:qS w G A n c (l.map (Value.int .u8)) false) (h0:1<=k) (hk8:k<=8) (hk:k<=n) (hs:n<=1000000) :
  Calls Tryz.prog 52 #[.pointer (some ⟨G,0,none⟩),.int .i64 k] w fun r w'=>∃ A' c',r=.returned (.int .u64 (Jy (l.take k.toNat)))/\qS w' G A' (n-k.toNat) c' ((l.drop k.toNat).map (Value.int .u8)) false/\w.grownBy w' (some G)/\∀ x,A'=some x->∃ y,A=some y/\x.block=y.block:=by
 obtain ⟨m,rfl⟩:∃ m:Nat,k=(m:Int):=⟨k.toNat,by omega⟩
 have hd1:decide ((m:Int)<1)=false:=by simp;omega
 have hd2:decide ((8:Int)<(m:Int))=false:=by simp;omega
 have HH:=hid h
 clear h
 go_enter Tryz.func52,Tryz.ntmps52
 go_wp2_with (go_at_call 99;(with_reducible refine (Kg G A n c (l.map (Value.int .u8)) m w HH.out (by omega) hk hs).mono ?_);rintro r w1 ⟨v,A',c',rfl,hown,hR,hg,hadr⟩;simp only [Int.toNat_natCast] at hown hR;obtain ⟨Av,cv,rfl⟩:=own_slice hown)
 have hrd:=zx.of_own hown
 have hmk:m<=n:=by omega
 rw [<- List.map_take] at hrd
 obtain ⟨HRD,HR,HG,HADR⟩:=zi4 hrd hR hg hadr
 clear hrd hR hg hown hadr
 go_loopw [5,18] (fun v u wr=>∃ j:Nat,j<=m/\u=.int .i64 j/\v=.int .u64 (Jy (l.take j))/\wr=w1) (fun _ u _=>((m:Int)-intOf u).toNat)
 case atStart=>exact ⟨0,by omega,rfl,rfl,rfl⟩
 case round =>
  obtain ⟨j,hj,rfl,rfl,rfl⟩:=hrel
  by_cases hlt:j<m
  ·obtain ⟨ad,u,rfl,_,hx,hc⟩:=HRD.out.at_ hlt
   rw [List.getElem?_map,List.getElem?_take,if_pos hlt] at hx
   obtain ⟨y,hy,rfl⟩:∃ y,l[j]?=some y/\.int .u8 y=u:=by
    cases hl:l[j]? with
    | none=>rw [hl] at hx;cases hx
    | some y=>rw [hl] at hx;injection hx with hx;exact ⟨y,rfl,hx⟩
   have hja:(j:Int)<(m:Int):=by omega
   have hjb:(0:Int)<=(j:Int):=by omega
   have hns:=zai l j y hy
   have HNS:=hid hns
   clear hns hy
   go_wp2_with fail
   refine ⟨⟨j+1,by omega,by go_num,by rw [HNS.out],by trivial⟩,?_⟩
   simp [intOf];omega
  ·obtain rfl:j=m:=by omega
   go_wp2_with fail
   go_ret
   rw [Int.toNat_natCast,List.map_drop]
   exact ⟨_,_,rfl,HR.out,HG.out,HADR.out⟩
def Qg (w:World) (G B:Nat) (l:List UInt8):Prop:=∃ A c,qS w G A l.length c (zo l) false/\∀ x,A=some x->B<=x.block
theorem Qg.lt {w:World} {G B:Nat} {l:List UInt8} (h:Qg w G B l):G<w.heap.size:=by
 obtain ⟨A,c,h,_⟩:=h
 exact zd h.blk
theorem Qg.same {w w':World} {G B:Nat} {l:List UInt8} (h:Qg w G B l) (hs:∀ k,k<=G->B<=k->w'.heap[k]?=w.heap[k]?) (hB:B<=G):Qg w' G B l:=by
 obtain ⟨A,c,h,hA⟩:=h
 refine ⟨A,c,⟨(hs G (Nat.le_refl _) hB).trans h.blk,?_,h.le,h.mx,h.one⟩,hA⟩
 refine ⟨h.rd.1,fun h0=>?_⟩
 obtain ⟨ad,e,hlt,hc⟩:=h.rd.2 h0
 exact ⟨ad,e,hlt,fun j u hu=>(World.cell?_of_block (a:=ad.add j) (by rw [YB];exact hs ad.block (by omega) (hA ad e))).trans (hc j u hu)⟩
theorem zlm (G B k x:Nat) (rest:List UInt8) (w:World) (h:Qg w G B (zz k x++rest)) (hk:1<=k) (hk8:k<=8) (hx:x<256 ^ k) (hs:rest.length<=900000) :
  Calls Tryz.prog 52 #[.pointer (some ⟨G,0,none⟩),.int .i64 k] w fun r w'=>r=.returned (.int .u64 x)/\Qg w' G B rest/\w.grownBy w' (some G):=by
 obtain ⟨A,c,h,hA⟩:=h
 have e:∀ l:List UInt8,zo l=(l.map (fun b=>(b.toNat:Int))).map (Value.int .u8):=fun l=>by simp [zo]
 have hlen:(zz k x++rest).length=k+rest.length:=by rw [List.length_append,zA]
 rw [e] at h
 refine (zfd G A _ c ((zz k x++rest).map fun b=>(b.toNat:Int)) k w h (by omega) (by omega) (by omega) (by omega)).mono ?_
 rintro r w' ⟨A',c',rfl,hR,hg,hadr⟩
 rw [<- List.map_take,zcR _ (by rw [List.length_take];omega),Int.toNat_natCast,List.take_left' (by rw [zA]),GN,Nat.mod_eq_of_lt hx]
 rw [<- List.map_drop,<- e,Int.toNat_natCast,List.drop_left' (by rw [zA]),hlen,Nat.add_sub_cancel_left] at hR
 refine ⟨rfl,⟨A',c',hR,fun x hx=>?_⟩,hg⟩
 obtain ⟨y,hy,e⟩:=hadr x hx
 rw [e];exact hA y hy
theorem zla (G B k:Nat) (l:List UInt8) (w:World) (h:Qg w G B l) (hk:k<=l.length) (hs:l.length<=1000000) :
  Calls Tryz.prog 99 #[.pointer (some ⟨G,0,none⟩),.int .i64 k] w fun r w'=>∃ v,r=.returned v/\w'.ownsRow w.heap.size 5 1 v k (zo (l.take k))/\Qg w' G B (l.drop k)/\w.grownBy w' (some G):=by
 obtain ⟨A,c,h,hA⟩:=h
 refine (Kg G A l.length c (zo l) k w h (by omega) (by omega) hs).mono ?_
 rintro r w' ⟨v,A',c',rfl,hown,hR,hg,hadr⟩
 rw [Int.toNat_natCast,Jn] at hown
 rw [Int.toNat_natCast,Zi] at hR
 refine ⟨v,rfl,hown,⟨A',c',by rw [List.length_drop];exact hR,fun x hx=>?_⟩,hg⟩
 obtain ⟨y,hy,e⟩:=hadr x hx
 rw [e];exact hA y hy
theorem zll (B:Nat) (A:Option Addr) (n c:Nat) (l:List UInt8) (w:World) (h:ze w (.slice A n c) l) (hA:∀ x,A=some x->B<=x.block) :
  Calls Tryz.prog 51 #[.slice A n c] w fun r w'=>r=.returned (.pointer (some ⟨w.heap.size,0,none⟩))/\Qg w' w.heap.size B l/\Below w.heap.size w w':=by
 obtain ⟨A',c',e,hr,h1,h2⟩:=h
 injection e with e1 e2 e3
 subst e1 e2 e3
 refine (zaq A l.length c (zo l) w hr h1 h2 (jb l)).mono ?_
 rintro r w' ⟨rfl,hR,hb⟩
 exact ⟨rfl,⟨A,c,hR,hA⟩,hb⟩
def uL:Pg:=⟨0,[none,none,none,none,none]⟩
theorem zkP:uL.ok:=⟨rfl,by intro o ho;simp [uL] at ho;subst ho;trivial,by decide,by intro _ o ho;simp [uL] at ho;exact ho⟩
theorem zkm (t n:Int):(Tryz.zeroCells204.setIfInBounds 1 (.int .i64 t)).setIfInBounds 2 (.int .i64 n)=(.int .u64 0::.int .i64 t::.int .i64 n::zo (zs 200)).toArray:=by kernel_rfl
theorem zho:yH uL=zs 200:=by
 simp only [yH,uL,List.flatMap_cons,List.flatMap_nil,qJ,zs,List.replicate_append_replicate,List.append_nil]
theorem Qe (t n:Nat):zK t n uL=.int .u64 0::.int .i64 t::.int .i64 n::zo (zs 200):=by
 rw [zK,zho];rfl
theorem zjg (t n:Nat):(Tryz.zeroCells204.setIfInBounds 1 (.int .i64 t)).setIfInBounds 2 (.int .i64 n)=(zK t n uL).toArray:=by
 rw [Qe];exact zkm t n
theorem zkh (t n:Nat):(Tryz.prog.info? 204).map (·.size)=some (zK t n uL).toArray.size:=by
 rw [Qe];kernel_rfl
theorem ziW (t n:Nat):Tryz.zeroCells204.size=(zK t n uL).toArray.size:=by
 rw [Qe];kernel_rfl
theorem zdS {t n:Nat} {p:Pg}:∀ x∈zK t n p,x.oneCell'=true:=by
 intro x hx
 simp only [zK,List.mem_cons] at hx
 rcases hx with rfl | rfl | rfl | hx
 ·rfl
 ·rfl
 ·rfl
 ·exact jb _ _ hx
theorem JV {t n:Nat} {p:Pg}:(zK t n p).toArray.all (·.oneCell')=true:=by
 rw [List.all_toArray,List.all_eq_true];exact zdS
def Pg.upto (p:Pg) (k:Nat):Pg:=⟨p.mark,p.slots.take k++List.replicate (5-k) none⟩
theorem qf.setMark {w:World} {b t n:Nat} {p:Pg} (h:qf w b t n p) (m:Nat):qf (w.setCell ⟨b,0,none⟩ (.int .u64 m)) b t n { p with mark:=m }:=by
 have:=heap_setCell_same w b 0 _ _ (.int .u64 m) h
 simpa [zK,qf,yH] using this
def Zb (b:List UInt8) (k:Nat):List UInt8:=(List.range k).flatMap fun i=>(b.drop (i*64+8)).take 56
theorem zbr {t n:Nat} {p:Pg} (h:p.ok):∀ k,k<=4->(Zb (qz t n p) k).length=56*k
 | 0,_=>rfl
 | k+1,hk=>by
  have e:Zb (qz t n p) (k+1)=Zb (qz t n p) k++((qz t n p).drop (k*64+8)).take 56:=by simp [Zb,List.range_succ]
  rw [e,List.length_append,zbr h k (by omega),List.length_take,List.length_drop,jY h];omega
theorem zeY {t n:Nat} {p:Pg} (h:p.ok) (hm:¬ p.mark=0):Zb (qz t n p) 4=zz 2 t++(zz 2 n++(yH p++zs 20)):=by
 have e:zz 2 t++(zz 2 n++(yH p++zs 20))=qZ t n p:=by simp [qZ]
 have hl:=vZ (t:=t) (n:=n) h
 have h8:(zz 8 p.mark).length=8:=by rw [zA]
 rw [e,qz,if_neg hm]
 have hp:∀ i,i<4->((yj t n p 4).drop (i*64+8)).take 56=qd (qZ t n p) i:=by
  intro i hi
  have e4:yj t n p 4=yj t n p i++(zz 8 p.mark++(qd (qZ t n p) i++(List.range' (i+1) (3-i)).flatMap fun j=>zz 8 p.mark++qd (qZ t n p) j)):=by
   have:List.range 4=List.range i++(i::List.range' (i+1) (3-i)):=by
    match i,hi with
    | 0,_=>rfl
    | 1,_=>rfl
    | 2,_=>rfl
    | 3,_=>rfl
   simp [yj,this]
  rw [e4,<- List.drop_drop,List.drop_left' (by rw [yc h i (by omega)];omega),List.drop_left' h8,List.take_left' (by rw [Qq,hl];omega)]
 have hj:Zb (yj t n p 4) 4=qd (qZ t n p) 0++qd (qZ t n p) 1++qd (qZ t n p) 2++qd (qZ t n p) 3:=by
  rw [<- hp 0 (by omega),<- hp 1 (by omega),<- hp 2 (by omega),<- hp 3 (by omega)]
  simp [Zb,List.range_succ]
 rw [hj]
 have:=Qu (qZ t n p) 0
 rw [show qd (qZ t n p) 0=(qZ t n p).take 56 by simp [qd],Qu (qZ t n p) 1,Qu (qZ t n p) 2,Qu (qZ t n p) 3,List.take_of_length_le (by omega)]
theorem Pg.upto_full {p:Pg} (h:p.ok):p.upto 5=p:=by
 cases p with
 | mk m l =>
  have h5:l.length=5:=h.five
  simp [Pg.upto,List.take_of_length_le (show l.length<=5 by omega)]
theorem Pg.upto_ok {p:Pg} (h:p.ok) (k:Nat) (hk:k<=5):(p.upto k).ok:=by
 refine ⟨by have:=h.five;simp [Pg.upto];omega,fun o ho=>?_,h.mark,fun hm o ho=>?_⟩
 ·simp only [Pg.upto,List.mem_append,List.mem_replicate] at ho
  rcases ho with ho | ⟨_,rfl⟩
  ·exact h.rows o (List.mem_of_mem_take ho)
  ·trivial
 ·simp only [Pg.upto,List.mem_append,List.mem_replicate] at ho
  rcases ho with ho | ⟨_,rfl⟩
  ·exact h.zero hm o (List.mem_of_mem_take ho)
  ·rfl
theorem Pg.upto_step {p:Pg} (h:p.ok) (k:Nat) (hk:k<5) (o:Option Rw) (ho:p.slots[k]?=some o):(p.upto k).set k o=p.upto (k+1):=by
 have hl:(p.slots.take k).length=k:=by have:=h.five;rw [List.length_take];omega
 unfold Pg.upto Pg.set
 simp only [Pg.mk.injEq,true_and]
 rw [List.set_append_right _ _ (by omega),hl,Nat.sub_self,show 5-k=(5-(k+1))+1 by omega,List.replicate_succ,List.set_cons_zero,List.take_add_one,ho]
 simp
theorem Pg.zero_all {p:Pg} (h:p.ok) (hm:p.mark=0):p=⟨p.mark,[none,none,none,none,none]⟩:=by
 cases p with
 | mk m l =>
  have h5:=h.five
  have hz:=h.zero hm
  simp only at h5 hz ⊢
  match l,h5 with
  | [a,b,c,d,e],_ =>
   rw [hz a (by simp),hz b (by simp),hz c (by simp),hz d (by simp),hz e (by simp)]
theorem zgG (G B x:Nat) (rest:List UInt8) (w:World) (h:Qg w G B (zz 2 x++rest)) (hx:x<65536) (hs:rest.length<=900000) :
  Calls Tryz.prog 52 #[.pointer (some ⟨G,0,none⟩),.int .i64 2] w fun r w'=>r=.returned (.int .u64 x)/\Qg w' G B rest/\w.grownBy w' (some G):=zlm G B 2 x rest w h (by omega) (by omega) hx hs
theorem ziZ (G B:Nat) (l:List UInt8) (w:World) (h:Qg w G B l) (hk:40<=l.length) (hs:l.length<=1000000) :
  Calls Tryz.prog 99 #[.pointer (some ⟨G,0,none⟩),.int .i64 40] w fun r w'=>∃ v,r=.returned v/\w'.ownsRow w.heap.size 5 1 v 40 (zo (l.take 40))/\Qg w' G B (l.drop 40)/\w.grownBy w' (some G):=zla G B 40 l w h hk hs
theorem ziX {p:Pg} (h:p.ok) (k:Nat) (hk:k<5) (o:Option Rw) (ho:p.slots[k]?=some o):(((yH p++zs 20).drop (40*k)).take 40)=qJ o:=by
 have hl:=QP h
 rw [List.drop_append_of_le_length (by omega),List.take_append_of_le_length (by rw [List.length_drop];omega),Nat.mul_comm 40 k]
 exact Kv p.slots k o h.rows ho
theorem zgf {w:World} {b t n k:Nat} {q:Pg} {ad:Addr} {c:Nat} (h:qf w b t n q) (hq:q.ok) (o:Option Rw) (ho:qX o) (hk:k<5) (hsrc:∀ j v,(zo (qJ o))[j]?=some v->w.cell? (ad.add j)=some v) :
  (Builtin.copy_ #[29,29] 3 #[.slice (some ⟨b,3+k*40,none⟩) 40 40,.slice (some ad) 40 c]).run Tryz.prog w=.ok (goInt 40) (w.setRow b (List.take (3+k*40) (zK t n q)++(zo (qJ o)++List.drop (3+k*40+40) (zK t n q))).toArray):=by
 have hl:(zo (qJ o)).length=40:=by rw [qm,jz ho]
 have:=run_copy_row (P:=Tryz.prog) w 29 29 3 5 b (3+k*40) 40 40 ad 40 c (zK t n q).toArray 204 (zo (qJ o)) Tryz.underlying29 (by kernel_rfl) h hl hsrc (by rw [hl,List.size_toArray,ug hq];omega) (jb _)
 rw [hl,List.append_assoc] at this
 exact this
theorem zbp {w:World} {k g:Nat} {x:Obj} (h:w.heap[k]?=some x) (hk:k≠g) (cs:Array Value):(w.setRow g cs).heap[k]?=some x:=(setRow_other w g k cs hk).trans h
theorem vp {w:World} {v:Value} {l:List UInt8} (h:ze w v l):(convert 29 9 v).run Tryz.prog w=.ok (.string (za l)) w:=by
 obtain ⟨A,c,rfl,hr,h1,h2⟩:=id h
 exact jr h
theorem zff {t n:Nat} {p:Pg}:qz t n p=zz 8 p.mark++(qz t n p).drop 8:=by
 unfold qz
 split
 ·rename_i h;rw [h];rfl
 ·have:yj t n p 4=zz 8 p.mark++(qd (qZ t n p) 0++(zz 8 p.mark++qd (qZ t n p) 1++(zz 8 p.mark++qd (qZ t n p) 2++(zz 8 p.mark++qd (qZ t n p) 3)))):=by
   simp [yj,List.range_succ]
  rw [this,List.drop_left' (by rw [zA])]
theorem zdQ (t n:Nat) (p:Pg) (v:Value) (w:World) (hp:p.ok) (ht:t<4) (hn:n<65536) (hin:ze w v (qz t n p)) :
  Calls Tryz.prog 123 #[v,.int .i64 t,.int .i64 n] w fun e w'=>e=.returned (.tuple #[.agg (zK t n p).toArray,.int .i64 0])/\Below w.heap.size w w':=by
 obtain ⟨HP,HIN⟩:=zi2 hp hin
 obtain ⟨A,c,rfl,_⟩:=id hin
 rw [jY hp]
 rw [jY hp] at HIN
 obtain ⟨ad,rfl⟩:∃ ad,A=some ad:=by
  obtain ⟨ad,e,_⟩:=zx.src (ze.reads' HIN.out (jY hp).symm) (by rw [qm,jY hp];omega)
  exact ⟨ad,e⟩
 clear hp hin
 go_enter Tryz.func123,Tryz.ntmps123
 go_upto_region 2 with (show wpList _ _ _ (⟨none,.store 204 (.tmp 8) (.tmp 18),_,_,_,_⟩::_) _ _;refine zN rfl 204 (.tmp 8) (.tmp 18) rfl (w.heap.size+1) (by simp) _ (zK t n uL).toArray (by rfl) (congrArg Value.agg (zjg t n)) (zkh t n) (ziW t n) JV ?_)
 obtain ⟨w1,hw1⟩:∃ w1,w1=(w.alloc (.cells Tryz.zeroCells204 204)).alloc (.cells (zK t n uL).toArray 204):=⟨_,rfl⟩
 have hR1:w1.heap[w.heap.size]?=some (.cells Tryz.zeroCells204 204 (0,0)):=by rw [hw1];exact zy (zk _ _ rfl) _
 have hP1:qf w1 (w.heap.size+1) t n uL:=by rw [hw1];exact zk _ _ (by simp)
 have hb1:Below w.heap.size w w1:=by rw [hw1];exact B_alloc (B_alloc (Below.refl _ _) _) _
 rw [<- hw1]
 obtain ⟨HR1,HP1,HB1⟩:=zi3 hR1 hP1 hb1
 have hin1:=hid (HIN.out.below hb1)
 clear hw1 hR1 hP1 hb1
 obtain ⟨z18,hz18⟩:∃ z,z=Value.agg ((Tryz.zeroCells204.setIfInBounds 1 (.int .i64 t)).setIfInBounds 2 (.int .i64 n)):=⟨_,rfl⟩
 rw [<- hz18]
 clear hz18
 go_upto_region 4 with fail
 go_upto_region 5 with (first
  | (go_at_call 51;(with_reducible refine (Je _ _ _ hin1.out).mono ?_);rintro e1 w2 ⟨rfl,hrd2,hb2⟩;rw [zff] at hrd2)
  | (go_at_call 52;(with_reducible refine (zev _ p.mark _ _ hrd2 HP.out.mark (by rw [List.length_drop,jY HP.out];omega)).mono ?_);rintro e1 w3 ⟨rfl,hrd3,hg3⟩)
  | (show wpList _ _ _ (⟨none,.store 35 (.tmp 26) (.tmp 25),_,_,_,_⟩::_) _ _;refine vC rfl 35 (.tmp 26) (.tmp 25) rfl (w.heap.size+1) 0 (zK t n uL).toArray 204 (.int .u64 p.mark) (by rfl) (by rfl) (by kernel_rfl) (zX (zb HP1.out hb2 (zd HP1.out)) hg3 (fun e=>by have:=zd HP1.out;injection e with e;omega)) (by rw [Qe];simp) rfl ?_))
 obtain ⟨p4,hp4⟩:∃ q:Pg,q=⟨p.mark,[none,none,none,none,none]⟩:=⟨_,rfl⟩
 obtain ⟨w4,hw4⟩:∃ w4,w4=w3.setCell ⟨w.heap.size+1,0,none⟩ (.int .u64 p.mark):=⟨_,rfl⟩
 have hlt1:w.heap.size+1<w1.heap.size:=zd HP1.out
 have hP4:qf w4 (w.heap.size+1) t n p4:=by
  rw [hw4,hp4]
  exact qf.setMark (p:=uL) (zX (zb HP1.out hb2 (zd HP1.out)) hg3 (fun e=>by injection e with e;omega)) p.mark
 have hR4:w4.heap[w.heap.size]?=some (.cells Tryz.zeroCells204 204 (0,0)):=by
  rw [hw4]
  exact us (zX (zb HR1.out hb2 (zd HR1.out)) hg3 (fun e=>by injection e with e;omega)) (by simp) _
 have hb4:Below w.heap.size w w4:=by
  rw [hw4]
  exact B_set ((B_call HB1.out hb2).grown hg3 (B_call HB1.out hb2).size (fun i e=>by injection e with e;have:=HB1.out.size;omega)) (by simp) _
 rw [<- hw4]
 obtain ⟨HP4,HR4,HB4,HQ4⟩:=zi4 hP4 hR4 hb4 hp4
 have HIN4:=hid (HIN.out.below hb4)
 have hlt4:w.heap.size+1<w4.heap.size:=zd hP4
 clear hw4 hP4 hR4 hb4 hp4 hg3 hb2 hrd3 hrd2 hin1 HR1 HP1 HB1 hlt1
 go_upto_region 7 with fail
 go_loopw [9,10,27] (fun v _ u wr=>∃ k:Nat,k<=4/\u=.int .i64 k/\wr.ownsRow w4.heap.size 5 1 v (56*k) (zo (Zb (qz t n p) k))/\Below w4.heap.size w4 wr) (fun _ _ u _=>(4-intOf u).toNat)
 case atStart=>exact ⟨0,by omega,rfl,⟨rfl,.inl ⟨rfl,rfl⟩⟩,Below.refl _ _⟩
 case round =>
  obtain ⟨k,hk,rfl,hown,hbl⟩:=hrel
  by_cases hk4:k<4
  ·have hki:(k:Int)<4:=by omega
   obtain ⟨A9,c9,rfl⟩:=own_slice hown
   obtain ⟨m0,hm0⟩:∃ m,m=k*64+8:=⟨_,rfl⟩
   obtain ⟨m1,hm1⟩:∃ m,m=k*64+64:=⟨_,rfl⟩
   have x1:(k:Int)*64+8=(m0:Int):=by omega
   have x1':IntKind.i64.wrap (m0:Int)=(m0:Int):=by rw [IntKind.wrap_i64];omega
   have x3:IntKind.i64.wrap (((k:Int)+1)*64)=(m1:Int):=by rw [IntKind.wrap_i64];omega
   have hc5:256<=c:=by
    obtain ⟨A6,c6,e,_,h9,_⟩:=HIN4.out
    injection e with e1 e2 e3
    rw [<- e3,jY HP.out] at h9;exact h9
   have y1:(m1:Int)<=(c:Int):=by omega
   have y2:m0<=m1:=by omega
   have y3:¬ (c=m0):=by omega
   have y4:m1-m0=56:=by omega
   have HM:=hid (And.intro hm0 hm1)
   obtain ⟨HOW,HBL⟩:=zi2 hown hbl
   clear hm0 hm1 hc5 hown hbl
   have HRD:Hid (zx wr wr.heap.size 1 (some (ad.add m0)) 56 (zo (((qz t n p).drop (k*64+8)).take 56))):=by
    have hs:=ze.sub (HIN4.out.below HBL.out) m0 56 (by rw [HM.out.1];omega) (by rw [HM.out.1];omega)
    rw [HM.out.1] at hs ⊢
    exact hid (ze.reads' hs (by rw [List.length_take,List.length_drop,jY HP.out];omega))
   go_wp2_with (at_builtin;refine qW rfl (.tmp 30) (.tmp 38) 29 5 1 1 rfl Tryz.underlying29 uD (by omega) _ _ _ w4.heap.size (by rfl) HOW.out _ 56 _ _ _ (by rfl) HRD.out (jb _) (by omega) (by omega) HBL.out.size ?_;intro v4 w5 hown5 hg5 _)
   have HOW5:Hid (w5.ownsRow w4.heap.size 5 1 v4 (56*(k+1)) (zo (Zb (qz t n p) (k+1)))):=by
    have e:Zb (qz t n p) (k+1)=Zb (qz t n p) k++((qz t n p).drop (k*64+8)).take 56:=by simp [Zb,List.range_succ]
    rw [e,jF,show 56*(k+1)=56*k+56 by omega]
    exact hid hown5
   have HBL5:=hid (jL HBL.out HOW.out hg5)
   go_roundw
   case rel=>exact ⟨k+1,by omega,by simp,HOW5.out,HBL5.out⟩
   case measure=>simp [intOf];omega
  ·have hk4':k=4:=by omega
   subst hk4'
   obtain ⟨A9,c9,rfl⟩:=own_slice hown
   have HB5:=hid (B_call HB4.out hbl)
   have HP5:Hid (qf wr (w.heap.size+1) t n p4):=hid (zb HP4.out hbl hlt4)
   have HR5:Hid (wr.heap[w.heap.size]?=some (.cells Tryz.zeroCells204 204 (0,0))):=hid (zb HR4.out hbl (by omega))
   have hadr:=hid (zcU hown)
   have hin5:=ze.of_own (by rw [zbr HP.out 4 (by omega)]) hown
   obtain ⟨HIN5,HBL⟩:=zi2 hin5 hbl
   clear hown hbl hin5
   go_upto_region 12 with (go_at_call 51;(with_reducible refine (zll w4.heap.size _ _ _ _ _ HIN5.out hadr.out).mono ?_);rintro e1 w6 ⟨rfl,hrd6,hb6⟩)
   have HR6:=hid (zb HR5.out hb6 (zd HR5.out))
   have HP6:Hid (qf w6 (w.heap.size+1) t n p4):=hid (zb HP5.out hb6 (zd HP5.out))
   have HB6:=hid (B_call HB5.out hb6)
   have HRD6:=hid hrd6
   have hPG:w.heap.size+1<wr.heap.size:=zd HP5.out
   obtain ⟨G,hG⟩:∃ G,G=wr.heap.size:=⟨_,rfl⟩
   rw [<- hG] at HRD6 hPG
   rw [<- hG]
   have HG:=hid (Qg.lt HRD6.out)
   have hGB:w4.heap.size<=G:=by rw [hG];exact HBL.out.size
   clear hrd6 hb6 hG
   have c0:w6.cell? ⟨w.heap.size+1,0,none⟩=some (.int .u64 p.mark):=by
    have:=cell_of_row w6 (w.heap.size+1) 0 _ _ _ HP6.out
    rw [HQ4.out] at this
    exact this
   by_cases hm:p.mark=0
   case' pos =>
    have hm0:(p.mark:Int)=0:=by omega
    have HPX:Hid (qf w6 (w.heap.size+1) t n p):=hid (by rw [Pg.zero_all HP.out hm,<- HQ4.out];exact HP6.out)
    clear HRD6
    go_upto_region 14 with fail
    go_upto_region 15 with fail
    go_loopw [12] (fun u wr=>u=.int .i64 0/\wr=w6) (fun _ _=>0)
    case atStart=>exact ⟨rfl,rfl⟩
    case' round =>
     obtain ⟨rfl,rfl⟩:=hrel
     go_upto_region 18 with fail
     clear hm0 hm c0 HP6
     have HRX:=HR6
     have HBX:=HB6
     clear HR6 HB6
   case' neg =>
    have hm0:¬ ((p.mark:Int)=0):=by omega
    have hm1:(0:Int)<(p.mark:Int):=by omega
    have hrd6:=HRD6.out
    rw [zeY HP.out hm] at hrd6
    have HRD6:=hid hrd6
    have z1:IntKind.i64.wrap (t:Int)=t:=by rw [IntKind.wrap_i64];omega
    have z2:IntKind.i64.wrap (n:Int)=n:=by rw [IntKind.wrap_i64];omega
    have HSL:=hid (QP HP.out)
    clear hrd6
    go_upto_region 14 with (first
     | (go_at_call 52;(with_reducible refine (zgG G w4.heap.size t _ w6 HRD6.out (by omega) (by rw [List.length_append,zA,List.length_append,HSL.out];simp [zs])).mono ?_);rintro e1 w7 ⟨rfl,hrd7,hg7⟩)
     | (go_at_call 52;(with_reducible refine (zgG G w4.heap.size n _ w7 hrd7 (by omega) (by rw [List.length_append,HSL.out];simp [zs])).mono ?_);rintro e1 w8 ⟨rfl,hrd8,hg8⟩))
    have hGP:G≠w.heap.size+1:=by omega
    have hGR:G≠w.heap.size:=by omega
    have HP8:Hid (qf w8 (w.heap.size+1) t n (p.upto 0)):=by
     have h9:qf w8 (w.heap.size+1) t n p4:=zX (zX HP6.out hg7 (fun e=>by injection e with e;omega)) hg8 (fun e=>by injection e with e;omega)
     rw [HQ4.out] at h9
     exact hid h9
    have HR8:=hid (zX (zX HR6.out hg7 (fun e=>by injection e with e;omega)) hg8 (fun e=>by injection e with e;omega))
    have HB8:=hid ((HB6.out.grown hg7 HB6.out.size (fun i e=>by injection e with e;omega)).grown hg8 (HB6.out.grown hg7 HB6.out.size (fun i e=>by injection e with e;omega)).size (fun i e=>by injection e with e;omega))
    have HRD8:=hid hrd8
    clear hrd8 hg7 hg8 hrd7 HR6 HB6 HP6 c0 z1 z2 HRD6
    go_upto_region 15 with fail
    go_loopw [12] (fun u wr=>∃ k:Nat,k<=5/\u=.int .i64 k/\qf wr (w.heap.size+1) t n (p.upto k)/\Qg wr G w4.heap.size ((yH p++zs 20).drop (40*k))/\wr.heap[w.heap.size]?=some (.cells Tryz.zeroCells204 204 (0,0))/\Below w.heap.size w wr) (fun u _=>(5-intOf u).toNat)
    case atStart=>exact ⟨0,by omega,rfl,HP8.out,HRD8.out,HR8.out,HB8.out⟩
    case' round =>
     obtain ⟨k,hk,rfl,hPk,hrdk,hRk,hBk⟩:=hrel
     have c0:wr.cell? ⟨w.heap.size+1,0,none⟩=some (.int .u64 p.mark):=cell_of_row wr (w.heap.size+1) 0 _ _ _ hPk
     have hku:=Pg.upto_ok HP.out k hk
     obtain ⟨HPk,HRDk,HRk,HBk,HKU⟩:=zi5 hPk hrdk hRk hBk hku
     clear hPk hrdk hRk hBk hku HP8 HR8 HB8 HRD8
     by_cases hk5:k<5
     case pos =>
      have hki:(k:Int)<5:=by omega
      obtain ⟨o,ho⟩:∃ o,p.slots[k]?=some o:=⟨_,List.getElem?_eq_getElem (by have:=HP.out.five;omega)⟩
      have HO:=hid ho
      clear ho
      go_upto_region 17 with fail
      have HRDD:Hid (Qg wr.drew G w4.heap.size ((yH p++zs 20).drop (40*k))):=hid (HRDk.out.same (fun _ _ _=>rfl) hGB)
      refine wp_region_noPanic ?_
      refine PrintLast.start_ (n:=7) (S:=(fun _=>True)) (ds:=[]) (bA 7 0) (by kernel_rfl) rfl (by kernel_rfl) trivial (fun hHeld=>?_)
      refine pu 0 70 7 1 rfl rfl ?_
      refine pu 1 71 7 3 rfl rfl ?_
      refine pu 2 72 7 7 rfl rfl ?_
      refine pu 3 73 7 15 rfl rfl ?_
      refine pu 4 74 7 31 rfl rfl ?_
      refine on 5 7 63 (some 75) rfl rfl (fun K hK=>?_)
      show Oper.wp _ ⟨some 75,_,_,_,_,_⟩ _ _ _ _
      refine zq 99 _ _ [.pointer (some ⟨G,0,none⟩),.int .i64 40] rfl (by kernel_rfl) (by rfl) ((ziZ G w4.heap.size _ wr.drew HRDD.out ?l40 ?l10).mono ?_)
      case l40=>rw [List.length_drop,List.length_append,HSL.out];simp [zs];omega
      case l10=>rw [List.length_drop,List.length_append,HSL.out];simp [zs];omega
      rintro e1 w9 ⟨v9,rfl,hown9,hrd9,hg9⟩
      obtain ⟨A9',c9',rfl⟩:=own_slice hown9
      have HP9:Hid (qf w9 (w.heap.size+1) t n (p.upto k)):=hid (zX (show wr.drew.heap[w.heap.size+1]?=_ from HPk.out) hg9 (fun e=>by injection e with e;omega))
      have HR9:Hid (w9.heap[w.heap.size]?=some (.cells Tryz.zeroCells204 204 (0,0))):=hid (zX (show wr.drew.heap[w.heap.size]?=_ from HRk.out) hg9 (fun e=>by injection e with e;omega))
      have HB9:=hid (HBk.out.drew.grown hg9 HBk.out.drew.size (fun i e=>by injection e with e;omega))
      have HRD9:=hid hrd9
      rw [ziX HP.out k hk5 o HO.out] at hown9
      have hrd:=zx.of_own hown9
      obtain ⟨ad9,rfl,hsrc⟩:=zx.src hrd (by rw [qm,jz (HP.out.rows o (List.mem_of_getElem? HO.out))];omega)
      have HCP:=hid (zgf HP9.out HKU.out o (HP.out.rows o (List.mem_of_getElem? HO.out)) hk5 (c:=c9') hsrc)
      clear hg9 hrd9 hown9 hrd hsrc
      refine ⟨_,rfl,?_⟩
      refine hK.out _ _ trivial (fun hHeld=>?_)
      clear hK K
      try simp only [pS]
      refine on 6 7 127 (some 76) rfl rfl (fun K hK=>?_)
      show Oper.wp _ ⟨some 76,_,_,_,_,_⟩ _ _ _ _
      refine vu (ZX (.tmp 73) (.tmp 75) #[29,29] rfl (by rfl) (by rfl) HCP.out) ?_
      refine hK.out _ _ trivial (fun hHeld=>?_)
      clear hK K
      try simp only [pS]
      refine PrintLast.done_ (by kernel_rfl) ?_
      refine NoPanic.normal ?_
      have HP10:=hid (qf.setRow HP9.out HKU.out hk5 (HP.out.rows o (List.mem_of_getElem? HO.out)))
      rw [Pg.upto_step HP.out k hk5 o HO.out] at HP10
      have HR10:=hid (zbp HR9.out (show w.heap.size≠w.heap.size+1 by omega) (List.take (3+k*40) (zK t n (p.upto k))++(zo (qJ o)++List.drop (3+k*40+40) (zK t n (p.upto k)))).toArray)
      have HRD10:=hid (HRD9.out.same (w':=w9.setRow (w.heap.size+1) (List.take (3+k*40) (zK t n (p.upto k))++(zo (qJ o)++List.drop (3+k*40+40) (zK t n (p.upto k)))).toArray) (fun x _ hx=>setRow_other _ _ _ _ (by omega)) hGB)
      have HB10:=hid (below_setRow HB9.out (show w.heap.size<=w.heap.size+1 by omega) (List.take (3+k*40) (zK t n (p.upto k))++(zo (qJ o)++List.drop (3+k*40+40) (zK t n (p.upto k)))).toArray)
      go_wp2_with fail
      go_roundw
      case rel=>exact ⟨k+1,by omega,by simp,HP10.out,by rw [List.drop_drop] at HRD10;rw [show 40*(k+1)=40*k+40 by omega];exact HRD10.out,HR10.out,HB10.out⟩
      case measure=>simp [intOf];omega
     case' neg =>
      have hk5':k=5:=by omega
      subst hk5'
      rw [Pg.upto_full HP.out] at HPk
      go_upto_region 18 with fail
      have HPX:=HPk
      have HRX:=HRk
      have HBX:=HBk
   all_goals
    have HINX:=hid (HIN.out.below HBX.out)
    have hltX:w.heap.size+1<wr.heap.size:=zd HPX.out
    have hS:wr.drew.heap[w.heap.size+1]?=some (.cells (zK t n p).toArray 204 (0,0))/\ze wr.drew (.slice (some ad) 256 c) (qz t n p):=⟨HPX.out,HINX.out⟩
    have HC3:=hid (ug (t:=t) (n:=n) HP.out)
    refine wp_region_noPanic ?_
    refine PrintLast.start_ (n:=6) (S:=(fun w'=>w'.heap[w.heap.size+1]?=some (.cells (zK t n p).toArray 204 (0,0))/\ze w' (.slice (some ad) 256 c) (qz t n p))) (ds:=[]) (bA 6 0) (by kernel_rfl) rfl (by kernel_rfl) hS (fun hHeld=>?_)
    refine tk 0 77 6 1 rfl rfl (qE 204 (.tmp 8) rfl (by rfl) (w.heap.size+1) (by rfl) 204 (zK t n p).toArray (0,0) _ (fun _ h=>h.1) Tryz.underlying204 rfl (by simp only [List.size_toArray,HC3.out];kernel_rfl)) ?_
    refine pu 3 80 6 9 rfl rfl ?_
    refine tk 4 81 6 25 rfl rfl (vg 29 9 (.tmp 80) rfl (by rfl) (.slice (some ad) 256 c) (.string (za (qz t n p))) (by rfl) (fun _ h=>vp h.2)) ?_
    refine on 1 6 27 (some 78) rfl rfl (fun K hK=>?_)
    show Oper.wp _ ⟨some 78,_,_,_,_,_⟩ _ _ _ _
    refine zq 136 _ _ [.agg (zK t n p).toArray] rfl (by kernel_rfl) (by rfl) ((Gy t n p _ HP.out (by omega) hn).mono ?_)
    rintro e1 wa ⟨va,rfl,hina,hba⟩
    refine ⟨_,rfl,?_⟩
    refine hK.out _ _ ⟨zb hHeld.1 hba hltX,hHeld.2.below hba⟩ (fun hHeld=>?_)
    clear hK K
    try simp only [pS]
    refine on 2 6 31 (some 79) rfl rfl (fun K hK=>?_)
    show Oper.wp _ ⟨some 79,_,_,_,_,_⟩ _ _ _ _
    refine vR 29 9 (.tmp 78) rfl va (.string (za (qz t n p))) (by rfl) (vp hina) ?_
    refine hK.out _ _ hHeld (fun hHeld=>?_)
    clear hK K
    try simp only [pS]
    refine pu 5 82 6 63 rfl rfl ?_
    refine PrintLast.done_ (by kernel_rfl) ?_
    refine NoPanic.normal ?_
    have heq:((za (qz t n p)).toList == (za (qz t n p)).toList)=true:=by simp
    have HPA:Hid (qf wa (w.heap.size+1) t n p):=hid hHeld.1
    have HRA:Hid (wa.heap[w.heap.size]?=some (.cells Tryz.zeroCells204 204 (0,0))):=hid (zb (show wr.drew.heap[w.heap.size]?=_ from HRX.out) hba (by show w.heap.size<wr.heap.size;omega))
    have HBA:=hid (B_call HBX.out.drew hba)
    clear hba hina hHeld hS
    go_upto_region 21 with fail
    go_loopw [13,14,15,84] (fun _ _ _ u wr=>∃ k:Nat,k<=5/\u=.int .i64 k/\qf wr (w.heap.size+1) t n p/\wr.heap[w.heap.size]?=some (.cells Tryz.zeroCells204 204 (0,0))/\Below w.heap.size w wr) (fun _ _ _ u _=>(5-intOf u).toNat)
    case atStart=>exact ⟨0,by omega,rfl,HPA.out,HRA.out,HBA.out⟩
    case round =>
     obtain ⟨k,hk,rfl,hPk,hRk,hBk⟩:=hrel
     obtain ⟨HPk,HRk,HBk⟩:=zi3 hPk hRk hBk
     have hlk:w.heap.size+1<wr.heap.size:=zd hPk
     clear hPk hRk hBk
     by_cases hk5:k<5
     ·have hki:(k:Int)<5:=by omega
      obtain ⟨o,ho⟩:∃ o,p.slots[k]?=some o:=⟨_,List.getElem?_eq_getElem (by have:=HP.out.five;omega)⟩
      have hco:=HP.out.rows o (List.mem_of_getElem? ho)
      have hbin:=ze.of_range (n:=40) (qf.slot HPk.out HP.out ho) hlk (jz hco).symm (by rw [jz hco];omega)
      obtain ⟨HBIN,HCO⟩:=zi2 hbin hco
      clear hbin ho hco
      cases o with
      | none =>
       go_wp2_with (go_at_call 137;(with_reducible refine (JC _ wr HBIN.out).mono ?_);rintro e1 wb ⟨rfl,hbb⟩;have HBB:=hid hbb;clear hbb)
       have hlk0:w.heap.size<wr.heap.size:=by omega
       go_roundw
       case rel =>
        first
        | exact ⟨k+1,by omega,by simp,zy (zb HPk.out HBB.out hlk) _,zy (zb HRk.out HBB.out hlk0) _,B_alloc (B_call HBk.out HBB.out) _⟩
        | ((repeat apply Exists.intro);refine ⟨?_,rfl⟩;exact ⟨k+1,by omega,by simp,zy (zb HPk.out HBB.out hlk) _,zy (zb HRk.out HBB.out hlk0) _,B_alloc (B_call HBk.out HBB.out) _⟩)
       case measure=>simp [intOf];omega
      | some r =>
       have hdec:=Ze _ r HCO.out wr HBIN.out
       unfold ui at hdec
       have HDEC:=hid hdec
       clear hdec
       go_wp2_with (go_at_call 137;(with_reducible refine HDEC.out.mono ?_);rintro e1 wb ⟨rfl,hbb⟩;have HBB:=hid hbb;clear hbb)
       have hlk0:w.heap.size<wr.heap.size:=by omega
       go_roundw
       case rel =>
        first
        | exact ⟨k+1,by omega,by simp,zy (zb HPk.out HBB.out hlk) _,zy (zb HRk.out HBB.out hlk0) _,B_alloc (B_call HBk.out HBB.out) _⟩
        | ((repeat apply Exists.intro);refine ⟨?_,rfl⟩;exact ⟨k+1,by omega,by simp,zy (zb HPk.out HBB.out hlk) _,zy (zb HRk.out HBB.out hlk0) _,B_alloc (B_call HBk.out HBB.out) _⟩)
       case measure=>simp [intOf];omega
     ·have hk5':k=5:=by omega
      subst hk5'
      go_upto_region 27 with fail
      go_wp2_with (first
       | (show wpList _ _ _ (⟨some 99,_,_,_,_,_⟩::_) _ _;refine wpList_load_row rfl 204 (.tmp 8) rfl (w.heap.size+1) (by rfl) 204 (zK t n p).toArray (0,0) _ HPk.out Tryz.underlying204 rfl (by simp only [List.size_toArray,HC3.out];kernel_rfl) ?_)
       | (show wpList _ _ _ (⟨none,.store 204 (.tmp 6) (.tmp 99),_,_,_,_⟩::_) _ _;refine wpList_store_row (o:=⟨none,.store 204 (.tmp 6) (.tmp 99),_,_,_,_⟩) rfl 204 (.tmp 6) (.tmp 99) rfl w.heap.size (zK t n p).toArray (by rfl) (by rfl) 204 Tryz.zeroCells204 HRk.out (by simp only [List.size_toArray,HC3.out];kernel_rfl) (by simp only [List.size_toArray,HC3.out];kernel_rfl) JV ?_))
      refine jO 6 7 204 rfl rfl w.heap.size 204 (zK t n p).toArray (0,0) _ (.int .i64 0) rfl rfl (setRow_heap _ _ _ _ _ _ HRk.out) Tryz.underlying204 rfl (by simp only [List.size_toArray,HC3.out];kernel_rfl) ⟨rfl,below_setRow HBk.out (Nat.le_refl _) _⟩
section
structure zu where
 pg:Option (Nat × Nat × Pg)
 since:Nat
 again:Bool
def zu.num (f:zu):Option Nat:=f.pg.map (·.2.1)
def zu.adr (f:zu):Option Addr:=f.pg.map fun x=>⟨x.1,0,none⟩
def zu.none:zu:=⟨Option.none,0,false⟩
def zV (f:zu):List Value:=[.pointer f.adr,.int .u64 f.since,.bool f.again]
def qs (D r L:Nat) (fs:List zu) (hand:Nat):List Value :=
 .pointer (some ⟨D,0,Option.none⟩)::.int .i64 r::.pointer (some ⟨L,0,Option.none⟩)::(fs.flatMap zV++[.int .i64 hand])
structure zQ (w:World) (B D r L:Nat) (fs:List zu) (hand:Nat):Prop where
 blk:w.heap[B]?=some (.cells (qs D r L fs hand).toArray 200 (0,0))
 three:fs.length=3
 hand:hand<3
 pages:∀ f,f∈fs->∀ b n p,f.pg=some (b,n,p)->qf w b r n p
 apart:∀ (i j:Nat) (fi fj:zu) b n p n' p',fs[i]?=some fi->fs[j]?=some fj->fi.pg=some (b,n,p)->fj.pg=some (b,n',p')->i=j
def ya (B:Nat) (fs:List zu):Nat->Prop:=fun x=>x=B∨∃ f∈fs,∃ n p,f.pg=some (x,n,p)
theorem ur:∀ (l:List zu),(l.flatMap zV).length=l.length*3
 | []=>rfl
 | f::l=>by rw [List.flatMap_cons,List.length_append,ur l,List.length_cons];simp [zV];omega
theorem zcD:∀ (l:List zu) (k:Nat) (f:zu) (j:Nat),l[k]?=some f->j<3->(l.flatMap zV)[k*3+j]?=(zV f)[j]?
 | [],k,f,j,h,_=>by simp at h
 | x::l,0,f,j,h,hj=>by
  simp only [List.getElem?_cons_zero,Option.some.injEq] at h
  subst h
  rw [List.flatMap_cons,Nat.zero_mul,Nat.zero_add,List.getElem?_append_left (by simpa [zV] using hj)]
 | x::l,k+1,f,j,h,hj=>by
  rw [List.flatMap_cons,List.getElem?_append_right (by simp [zV];omega),show (k+1)*3+j-(zV x).length=k*3+j by simp [zV];omega]
  exact zcD l k f j (by simpa using h) hj
theorem KI {D r L hand:Nat} {fs:List zu} {k:Nat} {f:zu} (h:fs[k]?=some f) (j:Nat) (hj:j<3):(qs D r L fs hand)[3+k*3+j]?=(zV f)[j]?:=by
 have hk:k<fs.length:=(List.getElem?_eq_some_iff.1 h).1
 unfold qs
 rw [show 3+k*3+j=(k*3+j)+1+1+1 by omega,List.getElem?_cons_succ,List.getElem?_cons_succ,List.getElem?_cons_succ,List.getElem?_append_left (by rw [ur];omega)]
 exact zcD fs k f j h hj
section
variable {w:World} {B D r L hand:Nat} {fs:List zu}
theorem zQ.cell (h:zQ w B D r L fs hand) {k:Nat} {f:zu} (hf:fs[k]?=some f) (j:Nat) (hj:j<3):w.cell? ⟨B,3+k*3+j,Option.none⟩=(zV f)[j]?:=by
 rw [cell_of_row w B _ _ _ _ h.blk,List.getElem?_toArray,KI hf j hj]
theorem zQ.c0 (h:zQ w B D r L fs hand) {k:Nat} {f:zu} (hf:fs[k]?=some f):w.cell? ⟨B,3+k*3,Option.none⟩=some (.pointer f.adr):=h.cell hf 0 (by omega)
theorem zQ.c1 (h:zQ w B D r L fs hand) {k:Nat} {f:zu} (hf:fs[k]?=some f):w.cell? ⟨B,3+k*3+1,Option.none⟩=some (.int .u64 f.since):=h.cell hf 1 (by omega)
theorem zQ.c2 (h:zQ w B D r L fs hand) {k:Nat} {f:zu} (hf:fs[k]?=some f):w.cell? ⟨B,3+k*3+2,Option.none⟩=some (.bool f.again):=h.cell hf 2 (by omega)
theorem zQ.at_ (h:zQ w B D r L fs hand) {k:Nat} (hk:k<3):∃ f,fs[k]?=some f:=⟨_,List.getElem?_eq_getElem (by rw [h.three];exact hk)⟩
theorem zQ.num (h:zQ w B D r L fs hand) {k:Nat} {f:zu} (hf:fs[k]?=some f) {b n:Nat} {p:Pg} (hp:f.pg=some (b,n,p)):w.cell? ⟨b,2,Option.none⟩=some (.int .i64 n) :=
 cell_of_row w b 2 _ _ _ (h.pages f (List.mem_of_getElem? hf) b n p hp)
end
def jk (fs:List zu) (n:Nat):Nat->Nat->Option Nat
 | 0,_=>.none
 | k+1,i=>if (fs[i]?.bind zu.num)=some n then some i else jk fs n k (i+1)
def qU (fs:List zu) (n:Nat):Option Nat:=jk fs n 3 0
def uS (B:Nat) (o:Option Nat):Option Addr:=o.map fun k=>⟨B,3+k*3,Option.none⟩
theorem Ka {fs:List zu} {n k i:Nat} (h:¬ ((fs[i]?.bind zu.num)=some n)):jk fs n (k+1) i=jk fs n k (i+1):=by rw [jk,if_neg h]
theorem zbX {fs:List zu} {n k i:Nat} (h:(fs[i]?.bind zu.num)=some n):jk fs n (k+1) i=some i:=by rw [jk,if_pos h]
theorem QY (B D r L hand n:Nat) (fs:List zu) (w:World) (h:zQ w B D r L fs hand) :
  Calls Tryz.prog 102 #[.pointer (some ⟨B,0,Option.none⟩),.int .i64 n] w fun e w'=>e=.returned (.pointer (uS B (qU fs n)))/\w'=w:=by
 have H:=hid h
 clear h
 go_enter Tryz.func102,Tryz.ntmps102
 go_upto_region 2 with fail
 go_loopg [5,6,7] 3 (fun g s5 s6 s7 wr=>∃ k:Nat,k+g=3/\s7=.int .i64 k/\Aside (jk fs n g k=qU fs n)/\wr=w)
 case atStart=>exact ⟨0,by omega,rfl,rfl,rfl⟩
 case round =>
  obtain ⟨k,hkg,rfl,HF,rfl⟩:=hrel
  cases gk with
  | zero =>
   have hkz:¬ ((k:Int)<3):=by omega
   have HN:Aside (qU fs n=Option.none):=HF.out.symm
   go_wp2_with fail
   go_ret
   rw [HN.out];exact ⟨rfl,rfl⟩
  | succ g =>
   have hkz:(k:Int)<3:=by omega
   obtain ⟨f,hf⟩:=H.out.at_ (show k<3 by omega)
   have c0:=H.out.c0 hf
   have HK:=hid hf
   cases hp:f.pg with
   | none =>
    have ha:f.adr=Option.none:=by simp [zu.adr,hp]
    rw [ha] at c0
    have HP:=hid hp
    clear hf hp ha
    go_wp2_with fail
    go_roundg g
    case measure=>omega
    case rel=>exact ⟨k+1,by omega,rfl,by show _=_;rw [<- HF.out,Ka (by rw [HK.out];simp [zu.num,HP.out])],rfl⟩
   | some x =>
    obtain ⟨b,n',p⟩:=x
    have ha:f.adr=some ⟨b,0,Option.none⟩:=by simp [zu.adr,hp]
    rw [ha] at c0
    have c2:=H.out.num hf hp
    have HP:=hid hp
    clear hf hp ha
    by_cases hn:n'=n
    ·subst hn
     have HN:Aside (qU fs n'=some k):=by
      rw [<- HF.out]
      exact zbX (by rw [HK.out];simp [zu.num,HP.out])
     go_wp2_with fail
     go_ret
     rw [HN.out];exact ⟨rfl,rfl⟩
    ·have hn2:¬ ((n':Int)=(n:Int)):=by omega
     go_wp2_with fail
     go_roundg g
     case measure=>omega
     case rel=>exact ⟨k+1,by omega,rfl,by show _=_;rw [<- HF.out,Ka (by rw [HK.out];simp [zu.num,HP.out,hn])],rfl⟩
def jt:List zu:=[zu.none,zu.none,zu.none]
theorem zQ.fresh {w:World} {B D r L:Nat} (h:w.heap[B]?=some (.cells (qs D r L jt 0).toArray 200 (0,0))):zQ w B D r L jt 0:=by
 have hn:∀ f,f∈jt->f.pg=Option.none:=fun f hf=>by simp [jt,zu.none] at hf;subst hf;rfl
 refine ⟨h,rfl,by omega,fun f hf b n p hp=>?_,fun i j fi fj b n p n' p' hi _ hp _=>?_⟩
 ·rw [hn f hf] at hp;cases hp
 ·rw [hn fi (List.mem_of_getElem? hi)] at hp;cases hp
theorem zcY (D r L:Nat) (w:World) :
  Calls Tryz.prog 80 #[.pointer (some ⟨D,0,Option.none⟩),.int .i64 r,.pointer (some ⟨L,0,Option.none⟩)] w fun e w'=>e=.returned (.pointer (some ⟨w.heap.size,0,Option.none⟩))/\zQ w' w.heap.size D r L jt 0/\Below w.heap.size w w':=by
 go_enter Tryz.func80,Tryz.ntmps80
 go_wp2_with fail
 go_ret
 exact ⟨rfl,zQ.fresh (zk _ _ rfl),B_alloc (Below.refl _ _) _⟩
def Ql (fs:List zu) (n:Nat):Bool:=match qU fs n with
 | Option.none=>true
 | some k=>match fs[k]? with
  | Option.none=>true
  | some f=>f.since == 0
theorem JO {fs:List zu} {n:Nat}:∀ {g i k:Nat},jk fs n g i=some k->k<i+g/\(fs[k]?.bind zu.num)=some n
 | 0,i,k,h=>by simp [jk] at h
 | g+1,i,k,h=>by
  unfold jk at h
  split at h
  ·rename_i h1;injection h with h;subst h;exact ⟨by omega,h1⟩
  ·have:=JO h;exact ⟨by omega,this.2⟩
theorem vX {fs:List zu} {n k:Nat} (h:qU fs n=some k):∃ f b p,fs[k]?=some f/\f.pg=some (b,n,p):=by
 have:=(JO h).2
 cases hf:fs[k]? with
 | none=>rw [hf] at this;cases this
 | some f =>
  rw [hf] at this
  simp only [Option.bind_some,zu.num,Option.map_eq_some_iff] at this
  obtain ⟨⟨b,n',p⟩,hx,he⟩:=this
  simp only at he
  subst he
  exact ⟨f,b,p,rfl,hx⟩
theorem zgd (B D r L hand n:Nat) (fs:List zu) (w:World) (h:zQ w B D r L fs hand) :
  Calls Tryz.prog 135 #[.pointer (some ⟨B,0,Option.none⟩),.int .i64 n] w fun e w'=>e=.returned (.bool (Ql fs n))/\w'=w:=by
 have H:=hid h
 have cF:=QY B D r L hand n fs w h
 clear h
 cases hf:qU fs n with
 | none =>
  have hN:Ql fs n=true:=by simp [Ql,hf]
  simp only [hf,uS,Option.map_none] at cF
  obtain ⟨HN,HC⟩:=zi2 hN cF
  clear hf hN cF
  go_enter Tryz.func135,Tryz.ntmps135
  go_wp2_with (go_at_call 102;(with_reducible refine HC.out.mono ?_);rintro e1 w1 ⟨rfl,rfl⟩)
  go_ret
  rw [HN.out];exact ⟨rfl,rfl⟩
 | some k =>
  obtain ⟨f,b,p,hk,hp⟩:=vX hf
  have hN:Ql fs n=(f.since == 0):=by simp [Ql,hf,hk]
  have c1:=H.out.c1 hk
  simp only [hf,uS,Option.map_some] at cF
  obtain ⟨HN,HC⟩:=zi2 hN cF
  clear hf hk hp hN cF
  go_enter Tryz.func135,Tryz.ntmps135
  go_wp2_with (go_at_call 102;(with_reducible refine HC.out.mono ?_);rintro e1 w1 ⟨rfl,rfl⟩)
  go_ret
  rw [HN.out]
  refine ⟨?_,rfl⟩
  have e:((f.since:Int) == 0)=(f.since == 0):=by rw [Bool.eq_iff_iff];simp
  rw [<- e];rfl
end
section
theorem zbo:∀ (l:List zu) (k j:Nat) (f f':zu) (v:Value),l[k]?=some f->j<3->zV f'=(zV f).set j v->(l.set k f').flatMap zV=(l.flatMap zV).set (k*3+j) v
 | [],k,j,f,f',v,h,_,_=>by simp at h
 | x::l,0,j,f,f',v,h,hj,hc=>by
  simp only [List.getElem?_cons_zero,Option.some.injEq] at h
  subst h
  rw [List.set_cons_zero,List.flatMap_cons,List.flatMap_cons,hc,Nat.zero_mul,Nat.zero_add,List.set_append_left _ _ (by simpa [zV] using hj)]
 | x::l,k+1,j,f,f',v,h,hj,hc=>by
  rw [List.set_cons_succ,List.flatMap_cons,List.flatMap_cons,List.set_append_right _ _ (by simp [zV];omega),show (k+1)*3+j-(zV x).length=k*3+j by simp [zV];omega]
  rw [zbo l k j f f' v (by simpa using h) hj hc]
theorem zca {D r L hand:Nat} {fs:List zu} {k j:Nat} {f f':zu} {v:Value} (h:fs[k]?=some f) (hj:j<3) (hc:zV f'=(zV f).set j v) :
  qs D r L (fs.set k f') hand=(qs D r L fs hand).set (3+k*3+j) v:=by
 have hk:k<fs.length:=(List.getElem?_eq_some_iff.1 h).1
 unfold qs
 rw [show 3+k*3+j=(k*3+j)+1+1+1 by omega,List.set_cons_succ,List.set_cons_succ,List.set_cons_succ,List.set_append_left _ _ (by rw [ur];omega),zbo fs k j f f' v h hj hc]
section
variable {w w':World} {B D r L hand:Nat} {fs:List zu}
theorem zQ.setc (h:w.heap[B]?=some (.cells (qs D r L fs hand).toArray 200 (0,0))) {k j:Nat} {f:zu} (f':zu) {v:Value} (hf:fs[k]?=some f) (hj:j<3) (hc:zV f'=(zV f).set j v) :
  (w.setCell ⟨B,3+k*3+j,Option.none⟩ v).heap[B]?=some (.cells (qs D r L (fs.set k f') hand).toArray 200 (0,0)):=by
 rw [zca hf hj hc,heap_setCell_same _ _ _ _ _ _ h,List.setIfInBounds_toArray]
theorem zQ.ne (h:zQ w B D r L fs hand) {f:zu} (hf:f∈fs) {b n:Nat} {p:Pg} (hp:f.pg=some (b,n,p)):b≠B:=fun e=>by
 have h1:=h.pages f hf b n p hp
 unfold qf at h1
 rw [e,h.blk] at h1
 injection h1 with h1
 injection h1 with _ h1
 exact absurd h1 (by decide)
theorem zQ.put (h:zQ w B D r L fs hand) {k:Nat} {f f':zu} {hand':Nat} (hf:fs[k]?=some f) (hb:w'.heap[B]?=some (.cells (qs D r L (fs.set k f') hand').toArray 200 (0,0))) (hh:hand'<3)
  (hp:∀ b n p,f'.pg=some (b,n,p)->qf w' b r n p)
  (ho:∀ j g b n p,j≠k->fs[j]?=some g->g.pg=some (b,n,p)->w'.heap[b]?=w.heap[b]?)
  (hd:∀ b n p,f'.pg=some (b,n,p)->(∃ n p,f.pg=some (b,n,p))∨w.heap.size<=b):zQ w' B D r L (fs.set k f') hand':=by
 have hk:k<fs.length:=(List.getElem?_eq_some_iff.1 hf).1
 have key:∀ i g,(fs.set k f')[i]?=some g->(i=k/\g=f')∨(i≠k/\fs[i]?=some g):=by
  intro i g hg
  rw [List.getElem?_set] at hg
  split at hg
  ·rename_i e;subst e
   injection hg with hg
   exact .inl ⟨rfl,hg.symm⟩
  ·rename_i e;exact .inr ⟨fun e'=>e e'.symm,hg⟩
 refine ⟨hb,by rw [List.length_set];exact h.three,hh,fun g hg b n p hgp=>?_,fun i j fi fj b n p n' p' hi hj hpi hpj=>?_⟩
 ·obtain ⟨i,hi⟩:=List.getElem?_of_mem hg
  rcases key i g hi with ⟨rfl,rfl⟩ | ⟨hne,hi⟩
  ·exact hp b n p hgp
  ·exact (ho i g b n p hne hi hgp).trans (h.pages g (List.mem_of_getElem? hi) b n p hgp)
 ·rcases key i fi hi with ⟨ei,ei'⟩ | ⟨hni,hi⟩<;>rcases key j fj hj with ⟨ej,ej'⟩ | ⟨hnj,hj⟩
  ·rw [ei,ej]
  ·exfalso
   rw [ei'] at hpi
   rcases hd b n p hpi with ⟨n2,p2,h2⟩ | h2
   ·exact hnj (h.apart _ _ _ _ _ _ _ _ _ hj hf hpj h2)
   ·have:=zd (h.pages fj (List.mem_of_getElem? hj) b n' p' hpj);omega
  ·exfalso
   rw [ej'] at hpj
   rcases hd b n' p' hpj with ⟨n2,p2,h2⟩ | h2
   ·exact hni (h.apart _ _ _ _ _ _ _ _ _ hi hf hpi h2)
   ·have:=zd (h.pages fi (List.mem_of_getElem? hi) b n p hpi);omega
  ·exact h.apart _ _ _ _ _ _ _ _ _ hi hj hpi hpj
theorem zab:∀ (l:List zu) (k:Nat) (f f':zu),l[k]?=some f->zV f'=zV f->(l.set k f').flatMap zV=l.flatMap zV
 | [],k,f,f',h,_=>by simp at h
 | x::l,0,f,f',h,hc=>by
  simp only [List.getElem?_cons_zero,Option.some.injEq] at h
  subst h
  rw [List.set_cons_zero,List.flatMap_cons,List.flatMap_cons,hc]
 | x::l,k+1,f,f',h,hc=>by
  rw [List.set_cons_succ,List.flatMap_cons,List.flatMap_cons,zab l k f f' (by simpa using h) hc]
theorem ZU {k:Nat} {f f':zu} (h:fs[k]?=some f) (hc:zV f'=zV f):qs D r L (fs.set k f') hand=qs D r L fs hand:=by
 unfold qs
 rw [zab fs k f f' h hc]
end
def zu.touch (f:zu) (m:Nat):zu:=⟨f.pg.map fun x=>(x.1,x.2.1,{ x.2.2 with mark:=m }),if f.since=0 then m else f.since,f.again⟩
def Qv (fs:List zu) (n m:Nat):List zu:=match qU fs n with
 | Option.none=>fs
 | some k=>match fs[k]? with
  | Option.none=>fs
  | some f=>fs.set k (f.touch m)
theorem zbO (B D r L hand n m:Nat) (fs:List zu) (w:World) (h:zQ w B D r L fs hand) :
  Calls Tryz.prog 126 #[.pointer (some ⟨B,0,Option.none⟩),.int .i64 n,.int .u64 m] w fun e w'=>e=.returned (.tuple #[])/\zQ w' B D r L (Qv fs n m) hand/\zr (ya B fs) w w':=by
 have H:=hid h
 have cF:=QY B D r L hand n fs w h
 clear h
 cases hf:qU fs n with
 | none =>
  have hN:Qv fs n m=fs:=by simp [Qv,hf]
  simp only [hf,uS,Option.map_none] at cF
  obtain ⟨HN,HC⟩:=zi2 hN cF
  clear hf hN cF
  go_enter Tryz.func126,Tryz.ntmps126
  go_wp2_with (go_at_call 102;(with_reducible refine HC.out.mono ?_);rintro e1 w1 ⟨rfl,hw1⟩;subst w1)
  refine uN rfl rfl ?_
  rw [HN.out]
  exact ⟨rfl,H.out,zr.refl _ _⟩
 | some k =>
  obtain ⟨f,b,p,hk,hp⟩:=vX hf
  have hN:Qv fs n m=fs.set k (f.touch m):=by simp [Qv,hf,hk]
  have ha:f.adr=some ⟨b,0,Option.none⟩:=by simp [zu.adr,hp]
  have c0:=H.out.c0 hk
  rw [ha] at c0
  have c1:=H.out.c1 hk
  have hpg:=H.out.pages f (List.mem_of_getElem? hk) b n p hp
  have hne:=H.out.ne (List.mem_of_getElem? hk) hp
  simp only [hf,uS,Option.map_some] at cF
  obtain ⟨HN,HC,HK,HP,HPG,HNE⟩:=zi6 hN cF hk hp hpg hne
  clear hf hk hp hN cF hpg hne ha
  go_enter Tryz.func126,Tryz.ntmps126
  go_upto_region 2 with (go_at_call 102;(with_reducible refine HC.out.mono ?_);rintro e1 w1 ⟨rfl,hw1⟩;subst w1)
  go_upto_region 3 with (show wpList _ _ _ (⟨none,.store 35 (.tmp 18) (.tmp 16),_,_,_,_⟩::_) _ _;refine vC rfl 35 (.tmp 18) (.tmp 16) rfl b 0 (zK r n p).toArray 204 (.int .u64 m) (by rfl) (by rfl) (by kernel_rfl) HPG.out (by simp [zK]) rfl ?_)
  obtain ⟨w2,hw2⟩:∃ w2,w2=w.setCell ⟨b,0,Option.none⟩ (.int .u64 m):=⟨_,rfl⟩
  have hB2:w2.heap[B]?=some (.cells (qs D r L fs hand).toArray 200 (0,0)):=by rw [hw2];exact us H.out.blk (fun e=>HNE.out e.symm) _
  have hP2:qf w2 b r n { p with mark:=m }:=by rw [hw2];exact HPG.out.setMark m
  have hK2:zr (ya B fs) w w2:=by rw [hw2];exact (zr.refl _ _).set (.inl (.inr ⟨f,List.mem_of_getElem? HK.out,n,p,HP.out⟩)) _
  have hO2:∀ x,x≠b->w2.heap[x]?=w.heap[x]?:=fun x hx=>by rw [hw2];exact heap_setCell_other _ _ _ _ hx
  rw [<- hw2]
  have c1':w2.cell? ⟨B,3+k*3+1,Option.none⟩=some (.int .u64 f.since):=by
   rw [cell_of_row w2 B _ _ _ _ hB2,List.getElem?_toArray,KI HK.out 1 (by omega)];rfl
  have f1':w2.frozen? ⟨B,3+k*3+1,Option.none⟩=false:=frozen_of_row w2 B _ _ _ hB2
  obtain ⟨HB2,HP2,HK2,HO2⟩:=zi4 hB2 hP2 hK2 hO2
  clear hw2 hB2 hP2 hK2 hO2 c0 c1
  have HOT:Hid (∀ j g b' n' p',j≠k->fs[j]?=some g->g.pg=some (b',n',p')->b'≠b):=hid (fun j g b' n' p' hj hg hgp e=>by subst e;exact hj (H.out.apart _ _ _ _ _ _ _ _ _ hg HK.out hgp HP.out))
  by_cases hs:f.since=0
  ·have hs0:(f.since:Int)=0:=by omega
   have hft:f.touch m=⟨some (b,n,{ p with mark:=m }),m,f.again⟩:=by simp [zu.touch,HP.out,hs]
   have HFT:=hid hft
   clear hft
   go_wp2_with fail
   refine uN rfl rfl ?_
   rw [HN.out,HFT.out]
   refine ⟨rfl,H.out.put HK.out (zQ.setc HB2.out _ HK.out (j:=1) (by omega) ?_) H.out.hand ?_ ?_ ?_,HK2.out.set (.inl (.inl rfl)) _⟩
   ·simp [zV,zu.adr,HP.out]
   ·intro b' n' p' h9
    simp only [Option.some.injEq,Prod.mk.injEq] at h9
    obtain ⟨rfl,rfl,rfl⟩:=h9
    exact us HP2.out HNE.out _
   ·intro j g b' n' p' hj hg hgp
    exact (heap_setCell_other _ _ _ _ (H.out.ne (List.mem_of_getElem? hg) hgp)).trans (HO2.out _ (HOT.out j g b' n' p' hj hg hgp))
   ·intro b' n' p' h9
    simp only [Option.some.injEq,Prod.mk.injEq] at h9
    obtain ⟨rfl,rfl,rfl⟩:=h9
    exact .inl ⟨n,p,HP.out⟩
  ·have hs0:¬ ((f.since:Int)=0):=by omega
   have hft:f.touch m=⟨some (b,n,{ p with mark:=m }),f.since,f.again⟩:=by simp [zu.touch,HP.out,hs]
   have HFT:=hid hft
   clear hft
   go_wp2_with fail
   refine uN rfl rfl ?_
   rw [HN.out,HFT.out]
   refine ⟨rfl,H.out.put HK.out (by rw [ZU HK.out (by simp [zV,zu.adr,HP.out])];exact HB2.out) H.out.hand ?_ ?_ ?_,HK2.out⟩
   ·intro b' n' p' h9
    simp only [Option.some.injEq,Prod.mk.injEq] at h9
    obtain ⟨rfl,rfl,rfl⟩:=h9
    exact HP2.out
   ·intro j g b' n' p' hj hg hgp
    exact HO2.out _ (HOT.out j g b' n' p' hj hg hgp)
   ·intro b' n' p' h9
    simp only [Option.some.injEq,Prod.mk.injEq] at h9
    obtain ⟨rfl,rfl,rfl⟩:=h9
    exact .inl ⟨n,p,HP.out⟩
end
def uo (c:Nat->List UInt8) (r n:Nat) (p:Pg):Prop:=∀ i,i<4->c (514+4*n+i)=((qz r n p).drop (i*64)).take 64
theorem zhz (l:List UInt8) (k:Nat):l.take (64*k)++(l.drop (k*64)).take 64=l.take (64*(k+1)):=by
 rw [show 64*(k+1)=k*64+64 by omega,List.take_add,Nat.mul_comm 64 k]
theorem zgR (B D r L hand n:Nat) (fs:List zu) (F:Nat->Prop) (cur:Nat->Nat->List UInt8) (p:Pg) (w:World) (h:zQ w B D r L fs hand) (hD:qr w D F cur) (hr:r<4) (hn:n<6) (hp:p.ok) (hon:uo (cur r) r n p) :
  Calls Tryz.prog 148 #[.pointer (some ⟨B,0,none⟩),.int .i64 n] w fun e w'=>∃ v,e=.returned (.tuple #[v,.int .i64 0])/\ze w' v (qz r n p)/\Below w.heap.size w w':=by
 obtain ⟨H,HD,HON,HP⟩:=zi4 h hD hon hp
 clear h hD hon hp
 go_enter Tryz.func148,Tryz.ntmps148
 go_upto_region 3 with fail
 go_loopw [6,7,8,9,10] (fun v _ _ _ u wr=>∃ k:Nat,k<=4/\u=.int .i64 k/\wr.ownsRow w.heap.size 5 1 v (64*k) (zo ((qz r n p).take (64*k)))/\Below w.heap.size w wr) (fun _ _ _ _ u _=>(4-intOf u).toNat)
 case atStart=>exact ⟨0,by omega,rfl,⟨rfl,.inl ⟨rfl,rfl⟩⟩,Below.refl _ _⟩
 case round =>
  obtain ⟨k,hk,rfl,hown,hbl⟩:=hrel
  obtain ⟨A6,c6,rfl⟩:=own_slice hown
  obtain ⟨HOW,HBL⟩:=zi2 hown hbl
  clear hown hbl
  by_cases hk4:k<4
  ·have hki:(k:Int)<4:=by omega
   have hblk:=zb H.out.blk HBL.out (zd H.out.blk)
   have c0:wr.drew.cell? ⟨B,0,none⟩=some (.pointer (some ⟨D,0,none⟩)):=cell_of_row wr.drew B 0 _ _ _ hblk
   have c1:wr.drew.cell? ⟨B,1,none⟩=some (.int .i64 r):=cell_of_row wr.drew B 1 _ _ _ hblk
   have hDX:qr wr.drew D F cur:=(zv.below HD.out HBL.out).drew
   have HDX:=hid hDX
   have hltB:B<wr.drew.heap.size:=zd hblk
   obtain ⟨s,hs⟩:∃ s,s=514+4*n+k:=⟨_,rfl⟩
   have x1:IntKind.i64.wrap (4*(n:Int))=4*(n:Int):=by rw [IntKind.wrap_i64];omega
   have x2:IntKind.i64.wrap (514+4*(n:Int))=514+4*(n:Int):=by rw [IntKind.wrap_i64];omega
   have x3:IntKind.i64.wrap (514+4*(n:Int)+(k:Int))=(s:Int):=by rw [IntKind.wrap_i64];omega
   have HS:=hid hs
   clear hblk hDX hs
   go_upto_region 5 with fail
   have hS:wr.drew.cell? ⟨B,0,none⟩=some (.pointer (some ⟨D,0,none⟩))/\wr.drew.cell? ⟨B,1,none⟩=some (.int .i64 r):=⟨c0,c1⟩
   refine wp_region_noPanic ?_
   refine PrintLast.start_ (n:=19) (S:=(fun w'=>w'.cell? ⟨B,0,none⟩=some (.pointer (some ⟨D,0,none⟩))/\w'.cell? ⟨B,1,none⟩=some (.int .i64 r))) (ds:=[]) (bA 19 0) (by kernel_rfl) rfl (by kernel_rfl) hS (fun hHeld=>?_)
   refine pu 0 14 19 1 rfl rfl ?_
   refine pu 1 15 19 3 rfl rfl ?_
   refine pu 2 16 19 7 rfl rfl ?_
   refine tq 3 17 19 15 rfl rfl ?_
   refine pu 4 18 19 31 rfl rfl ?_
   refine pu 5 19 19 63 rfl rfl ?_
   refine pu 6 20 19 127 rfl rfl ?_
   refine tq 7 21 19 255 rfl rfl ?_
   refine pu 8 22 19 511 rfl rfl ?_
   refine pu 9 23 19 1023 rfl rfl ?_
   refine pu 10 24 19 2047 rfl rfl ?_
   refine pu 11 25 19 4095 rfl rfl ?_
   refine pu 12 26 19 8191 rfl rfl ?_
   refine on 13 19 16383 (some 27) rfl rfl (fun K hK=>?_)
   show Oper.wp _ ⟨some 27,_,_,_,_,_⟩ _ _ _ _
   refine zq 117 _ _ [.pointer (some ⟨D,0,none⟩),.int .i64 r,.int .i64 s] rfl (by kernel_rfl) (by rfl) ((ZV D F cur _ r s _ HDX.out (by omega) (by omega) (by omega) (by rw [HS.out];omega)).mono ?_)
   rintro e1 w2 ⟨v2,rfl,hown2,hb2⟩
   rw [Int.toNat_natCast,Int.toNat_natCast,HS.out,HON.out k hk4] at hown2
   obtain ⟨A2,c2,rfl⟩:=own_slice hown2
   refine ⟨_,rfl,?_⟩
   refine hK.out _ _ ⟨qk hHeld.1 hb2 hltB,qk hHeld.2 hb2 hltB⟩ (fun hHeld=>?_)
   clear hK K
   try simp only [pS]
   refine pu 14 13 19 32767 rfl rfl ?_
   refine pu 15 28 19 65535 rfl rfl ?_
   refine pu 16 29 19 131071 rfl rfl ?_
   refine pu 17 8 19 262143 rfl rfl ?_
   refine pu 18 9 19 524287 rfl rfl ?_
   refine PrintLast.done_ (by kernel_rfl) ?_
   refine NoPanic.normal ?_
   have HOW2:=hid hown2
   have HB2:=hid (yO hb2)
   have HOWX:Hid (w2.ownsRow w.heap.size 5 1 (.slice A6 (64*k) c6) (64*k) (zo ((qz r n p).take (64*k)))):=hid (zi HOW.out fun x hx=>HB2.out.block x (HOW.out.lt x hx).2)
   clear hown2 hb2 c0 c1 hS hHeld x1 x2 x3
   go_wp2_with (at_builtin;refine qW rfl (.tmp 33) (.tmp 34) 29 5 1 1 rfl Tryz.underlying29 uD (by omega) _ _ _ w.heap.size (by rfl) HOWX.out _ 64 _ _ _ (by rfl) (zx.of_own HOW2.out) (jb _) (by omega) (by omega) (B_call HBL.out HB2.out).size ?_;intro v4 w5 hown5 hg5 _)
   have HOW5:Hid (w5.ownsRow w.heap.size 5 1 v4 (64*(k+1)) (zo ((qz r n p).take (64*(k+1))))):=by
    rw [<- zhz,jF,show 64*(k+1)=64*k+64 by omega]
    exact hid hown5
   have HBL5:=hid (jL (B_call HBL.out HB2.out) HOWX.out hg5)
   go_roundw
   case rel=>exact ⟨k+1,by omega,by simp,HOW5.out,HBL5.out⟩
   case measure=>simp [intOf];omega
  ·have hk4':k=4:=by omega
   subst hk4'
   go_wp2_with fail
   go_ret2
   refine ⟨_,rfl,?_,HBL.out⟩
   have h9:=HOW.out
   rw [List.take_of_length_le (by rw [jY HP.out];omega)] at h9
   exact ze.of_own (jY HP.out).symm h9
section
section
variable {w w':World} {B D r L hand:Nat} {fs:List zu}
theorem zQ.tag (h:zQ w B D r L fs hand) {x:Nat} (hx:ya B fs x):qp w x∈[200,204]:=by
 rcases hx with rfl | ⟨f,hf,n,p,hp⟩
 ·rw [zc h.blk];simp
 ·rw [zc (h.pages f hf x n p hp)];simp
theorem zQ.lt (h:zQ w B D r L fs hand) {x:Nat} (hx:ya B fs x):x<w.heap.size:=by
 rcases hx with rfl | ⟨f,hf,n,p,hp⟩
 ·exact zd h.blk
 ·exact zd (h.pages f hf x n p hp)
theorem zQ.same (h:zQ w B D r L fs hand) (hs:∀ x,ya B fs x->w'.heap[x]?=w.heap[x]?):zQ w' B D r L fs hand :=
 ⟨(hs B (.inl rfl)).trans h.blk,h.three,h.hand,fun f hf b n p hp=>(hs b (.inr ⟨f,hf,n,p,hp⟩)).trans (h.pages f hf b n p hp),h.apart⟩
theorem zQ.keep {M:Nat->Prop} (h:zQ w B D r L fs hand) (hk:zr M w w') (hm:∀ x,ya B fs x->¬ M x):zQ w' B D r L fs hand :=
 h.same fun x hx=>hk.block x (h.lt hx) (hm x hx)
theorem zQ.below (h:zQ w B D r L fs hand) (hb:Below w.heap.size w w'):zQ w' B D r L fs hand:=h.same fun x hx=>hb.block x (h.lt hx)
theorem zQ.disk {D':Nat} {F:Nat->Prop} {cur:Nat->Nat->List UInt8} {cnt:Nat->Nat} (h:zQ w B D r L fs hand) (hd:zv w D' F cur cnt):∀ x,ya B fs x->¬ F x:=fun x h1 h2=>by
 have a:=h.tag h1
 have b:=hd.tags h2
 simp at a b;omega
theorem zQ.lane {L' D' r' gen bank:Nat} {bytes:List UInt8} {sure:Nat} {FL:Nat->Prop} (h:zQ w B D r L fs hand) (hl:qH w L' D' r' gen bank bytes sure FL):∀ x,ya B fs x->¬ FL x:=fun x h1 h2=>by
 have a:=h.tag h1
 have b:=hl.tag x h2
 simp at a b;omega
end
structure zl where
 fs:List zu
 hand:Nat
 gen:Nat
 bank:Nat
 log:List UInt8
 sure:Nat
 dp:Nat->Pg
structure qc (w:World) (B D L r:Nat) (FL F:Nat->Prop) (cur:Nat->Nat->List UInt8) (s:zl):Prop where
 pool:zQ w B D r L s.fs s.hand
 lane:qH w L D r s.gen s.bank s.log s.sure FL
 disk:qr w D F cur
 on:jN (cur r) s.gen s.bank (s.log.take s.sure)
 pgs:∀ n,n<6->uo (cur r) r n (s.dp n)
 r4:r<4
 bank1:s.bank<=1
 gen32:s.gen<4294967296
 len:s.log.length<=14336
 sure_:s.sure<=s.log.length
 dpok:∀ n,(s.dp n).ok
 fok:∀ f,f∈s.fs->∀ b n p,f.pg=some (b,n,p)->n<6/\p.ok
def zl.write (s:zl) (k:Nat):zl:=match s.fs[k]? with
 | none=>s
 | some f=>match f.pg with
  | none=>s
  | some (_,n,p)=>if f.since=0 then s else { s with fs:=s.fs.set k { f with since:=0 },sure:=s.log.length,dp:=zE s.dp n p }
def yd (cur cur':Nat->Nat->List UInt8) (r:Nat):Prop:=∀ r' q,r'≠r∨q=0->cur' r' q=cur r' q
theorem yd.refl (cur:Nat->Nat->List UInt8) (r:Nat):yd cur cur r:=fun _ _ _=>rfl
theorem yd.trans {a b c:Nat->Nat->List UInt8} {r:Nat} (h:yd a b r) (k:yd b c r):yd a c r:=fun r' q h0=>(k r' q h0).trans (h r' q h0)
def ZZ (cur:Nat->Nat->List UInt8) (r n:Nat) (bs:List UInt8) (k:Nat):Nat->Nat->List UInt8:=fun r' q =>
 if r'=r/\514+4*n<=q/\q<514+4*n+k then (bs.drop ((q-(514+4*n))*64)).take 64 else cur r' q
theorem zhF (cur:Nat->Nat->List UInt8) (r n:Nat) (bs:List UInt8):ZZ cur r n bs 0=cur:=by
 funext r' q;unfold ZZ;rw [if_neg (by omega)]
theorem zhE (cur:Nat->Nat->List UInt8) (r n:Nat) (bs:List UInt8) (k:Nat):vq (ZZ cur r n bs k) r (514+4*n+k) ((bs.drop (k*64)).take 64)=ZZ cur r n bs (k+1):=by
 funext r' q
 unfold vq ZZ
 by_cases h:r'=r/\q=514+4*n+k
 ·obtain ⟨rfl,rfl⟩:=h
  rw [zf,zf,if_pos ⟨rfl,by omega,by omega⟩,Nat.add_sub_cancel_left]
 ·by_cases hr:r'=r
  ·subst hr
   have hq:q≠514+4*n+k:=fun e=>h ⟨rfl,e⟩
   rw [zf,zm _ _ hq]
   by_cases h2:514+4*n<=q/\q<514+4*n+k
   ·rw [if_pos ⟨rfl,h2.1,h2.2⟩,if_pos ⟨rfl,h2.1,by omega⟩]
   ·rw [if_neg (fun e=>h2 e.2),if_neg (fun e=>h2 ⟨e.2.1,by omega⟩)]
  ·rw [zm _ _ hr,if_neg (fun e=>hr e.1),if_neg (fun e=>hr e.1)]
theorem uo.write {cur:Nat->Nat->List UInt8} {r n:Nat} {p:Pg}:uo (ZZ cur r n (qz r n p) 4 r) r n p:=fun i hi=>by
 unfold ZZ
 rw [if_pos ⟨rfl,by omega,by omega⟩,show 514+4*n+i-(514+4*n)=i by omega]
theorem YT {cur:Nat->Nat->List UInt8} {r n:Nat} {bs:List UInt8} {r' q:Nat} (h:r'≠r∨q<514+4*n∨514+4*n+4<=q):ZZ cur r n bs 4 r' q=cur r' q:=by
 unfold ZZ;rw [if_neg (by omega)]
theorem jN.congr {c c':Nat->List UInt8} {gen bank:Nat} {b:List UInt8} (h:jN c gen bank b) (hc:∀ q,1<=q->q<514->c' q=c q) (hb:bank<=1:=by assumption):jN c' gen bank b :=
 ⟨(hc 1 (by omega) (by omega)).trans h.1,fun s hs=>(hc _ (by omega) (by omega)).trans (h.2 s hs)⟩
theorem ze.blk {w w':World} {A:Addr} {n c:Nat} {l:List UInt8} (h:ze w (.slice (some A) n c) l) (hb:w'.heap[A.block]?=w.heap[A.block]?) (hz:w.heap.size<=w'.heap.size):ze w' (.slice (some A) n c) l:=by
 obtain ⟨A',c',e,hr,h1,h2⟩:=h
 injection e with e1 e2 e3
 subst e1 e2 e3
 refine ⟨_,_,rfl,⟨hr.1,fun h0=>?_⟩,h1,h2⟩
 obtain ⟨ad,e,hlt,hc⟩:=hr.2 h0
 injection e with e
 subst e
 exact ⟨_,rfl,by omega,fun j u hu=>(World.cell?_of_block (a:=A.add j) (by rw [YB];exact hb)).trans (hc j u hu)⟩
theorem zfe {l:List UInt8} (h:l.length=64):jc l=l:=by simp [jc,h,zs]
theorem zfk (B D L r k:Nat) (FL F:Nat->Prop) (cur:Nat->Nat->List UInt8) (s:zl) (w:World) (h:qc w B D L r FL F cur s) (hk:k<3) :
  Calls Tryz.prog 103 #[.pointer (some ⟨B,0,none⟩),.pointer (some ⟨B,3+k*3,none⟩)] w fun e w'=>e=.returned (.int .i64 0)/\∃ F' cur',qc w' B D L r FL F' cur' (s.write k)/\yd cur cur' r/\zr (Gn (Gn FL F) (ya B s.fs)) w w'/\qh w F F':=by
 obtain ⟨f,hf⟩:=h.pool.at_ hk
 have c0:=h.pool.c0 hf
 have c1:=h.pool.c1 hf
 obtain ⟨H,HF⟩:=zi2 h hf
 clear h
 cases hp:f.pg with
 | none =>
  have ha:f.adr=none:=by simp [zu.adr,hp]
  have hN:s.write k=s:=by simp [zl.write,hf,hp]
  rw [ha] at c0
  have HN:=hid hN
  clear hf hp ha hN
  go_enter Tryz.func103,Tryz.ntmps103
  go_wp2_with fail
  go_ret
  rw [HN.out]
  exact ⟨rfl,F,cur,H.out,yd.refl _ _,zr.refl _ _,qh.refl _ _⟩
 | some x =>
  obtain ⟨b,n,p⟩:=x
  have ha:f.adr=some ⟨b,0,none⟩:=by simp [zu.adr,hp]
  rw [ha] at c0
  by_cases hs:f.since=0
  ·have hN:s.write k=s:=by simp [zl.write,hf,hp,hs]
   have hs0:(f.since:Int)=0:=by omega
   have HN:=hid hN
   clear hf hp ha hN hs
   go_enter Tryz.func103,Tryz.ntmps103
   go_wp2_with fail
   go_ret
   rw [HN.out]
   exact ⟨rfl,F,cur,H.out,yd.refl _ _,zr.refl _ _,qh.refl _ _⟩
  ·have hN:s.write k={ s with fs:=s.fs.set k { f with since:=0 },sure:=s.log.length,dp:=zE s.dp n p }:=by simp [zl.write,hf,hp,hs]
   have hs0:¬ ((f.since:Int)=0):=by omega
   have hsb:((f.since:Int) == 0)=false:=by simpa using hs
   have k2:w.cell? ⟨B,2,none⟩=some (.pointer (some ⟨L,0,none⟩)):=cell_of_row w B 2 _ _ _ H.out.pool.blk
   obtain ⟨HN,HP⟩:=zi2 hN hp
   have HOK:=hid (H.out.fok f (List.mem_of_getElem? hf) b n p hp)
   have HFL:=hid (zag D F FL cur L r s.gen s.bank s.log s.sure w H.out.lane H.out.disk H.out.on H.out.r4 H.out.bank1 H.out.gen32 H.out.len H.out.sure_)
   clear hf hp ha hN hs
   go_enter Tryz.func103,Tryz.ntmps103
   go_upto_region 4 with (go_at_call 66;(with_reducible refine HFL.out.mono ?_);rintro e1 w1 ⟨rfl,F1,cur1,hl1,hd1,hon1,hso1,hk1,hn1⟩)
   have hpl1:zQ w1 B D r L s.fs s.hand:=H.out.pool.keep hk1 (fun x hx hm=>hm.elim (H.out.pool.lane H.out.lane x hx) (H.out.pool.disk H.out.disk x hx))
   have c0':=hpl1.c0 HF.out
   rw [show f.adr=some ⟨b,0,none⟩ by simp [zu.adr,HP.out]] at c0'
   have HPL1:=hid hpl1
   have HPG1:=hid (hpl1.pages f (List.mem_of_getElem? HF.out) b n p HP.out)
   obtain ⟨HL1,HD1,HON1,HSO1,HK1,HN1⟩:=zi6 hl1 hd1 hon1 hso1 hk1 hn1
   have HC3:=hid (ug (t:=r) (n:=n) HOK.out.2)
   have HR4:=hid H.out.r4
   clear hpl1 hl1 hd1 hon1 hso1 hk1 hn1 k2 c0 c1 HFL hs0 hsb
   go_upto_region 6 with fail
   go_upto_region 7 with (first
    | (show wpList _ _ _ (⟨some 35,_,_,_,_,_⟩::_) _ _;refine wpList_load_row rfl 204 (.tmp 34) rfl b (by rfl) 204 (zK r n p).toArray (0,0) _ HPG1.out Tryz.underlying204 rfl (by simp only [List.size_toArray,HC3.out];kernel_rfl) ?_)
    | (go_at_call 136;(with_reducible refine (JA r n p w1 HOK.out.2 (by have:=HR4.out;omega) (by have:=HOK.out.1;omega)).mono ?_);rintro e1 w2 ⟨A,c,rfl,hA,hin2,hb2⟩))
   have hF1:¬ F1 A.block:=fun h9=>by have:=zv.lt HD1.out _ h9;omega
   obtain ⟨HB2,HIN2,HA⟩:=zi3 hb2 hin2 hA
   have HD2:=hid (HD1.out.below hb2)
   have HPL2:=hid (HPL1.out.below hb2)
   clear hb2 hin2 hA c0'
   obtain ⟨bs,hbs⟩:∃ bs,bs=qz r n p:=⟨_,rfl⟩
   have hbl:bs.length=256:=by rw [hbs];exact jY HOK.out.2
   rw [<- hbs] at HIN2
   obtain ⟨HBS,HBL⟩:=zi2 hbs hbl
   clear hbs hbl
   go_upto_region 8 with fail
   go_loopw [7,8,37] (fun _ _ u wr=>∃ (j:Nat) (F':Nat->Prop),j<=4/\u=.int .i64 j/\zv wr D F' (ZZ cur1 r n bs j) (zE (fun _=>0) r j)/\zr F1 w2 wr/\qh w2 F1 F') (fun _ _ u _=>(4-intOf u).toNat)
   case atStart=>exact ⟨0,F1,by omega,rfl,by rw [zhF];exact zv.mono HD2.out (fun _ _=>Nat.zero_le _),zr.refl _ _,qh.refl _ _⟩
   case round =>
    obtain ⟨j,F',hj,rfl,hDj,hKj,hNj⟩:=hrel
    have hplj:zQ wr B D r L s.fs s.hand:=HPL2.out.keep hKj (fun x hx hm=>HPL2.out.disk HD2.out x hx hm)
    obtain ⟨HPLJ,HDJ,HKJ,HNJ⟩:=zi4 hplj hDj hKj hNj
    clear hDj hKj hNj
    by_cases hj4:j<4
    ·have hji:(j:Int)<4:=by omega
     have q0:wr.drew.cell? ⟨B,0,none⟩=some (.pointer (some ⟨D,0,none⟩)):=cell_of_row wr.drew B 0 _ _ _ hplj.blk
     have q1:wr.drew.cell? ⟨B,1,none⟩=some (.int .i64 r):=cell_of_row wr.drew B 1 _ _ _ hplj.blk
     have q3:wr.drew.cell? ⟨B,3+k*3,none⟩=some (.pointer (some ⟨b,0,none⟩)):=by
      have:=hplj.c0 HF.out
      rw [show f.adr=some ⟨b,0,none⟩ by simp [zu.adr,HP.out]] at this
      exact this
     have q4:wr.drew.cell? ⟨b,2,none⟩=some (.int .i64 n):=hplj.num HF.out HP.out
     have hnn:=HOK.out.1
     obtain ⟨sj,hsj⟩:∃ x,x=514+4*n+j:=⟨_,rfl⟩
     obtain ⟨m0,hm0⟩:∃ m,m=j*64:=⟨_,rfl⟩
     obtain ⟨m1,hm1⟩:∃ m,m=j*64+64:=⟨_,rfl⟩
     have x1:IntKind.i64.wrap (4*(n:Int))=4*(n:Int):=by rw [IntKind.wrap_i64];omega
     have x2:IntKind.i64.wrap (514+4*(n:Int))=514+4*(n:Int):=by rw [IntKind.wrap_i64];omega
     have x3:IntKind.i64.wrap (514+4*(n:Int)+(j:Int))=(sj:Int):=by rw [IntKind.wrap_i64];omega
     have x4:(j:Int)*64=(m0:Int):=by omega
     have x4':IntKind.i64.wrap (m0:Int)=(m0:Int):=by rw [IntKind.wrap_i64];omega
     have x5:IntKind.i64.wrap ((j:Int)+1)=(j:Int)+1:=by rw [IntKind.wrap_i64];omega
     have x6:IntKind.i64.wrap (((j:Int)+1)*64)=(m1:Int):=by rw [IntKind.wrap_i64];omega
     have hinj:=HIN2.out.blk (HKJ.out.block _ (by obtain ⟨A',c',e,hr,_⟩:=HIN2.out;injection e with e1;subst e1;obtain ⟨ad,e,hlt,_⟩:=hr.2 (by rw [HBL.out];omega);injection e with e;subst e;exact hlt) hF1) HKJ.out.size
     have hc5:256<=c:=by
      obtain ⟨A6,c6,e,_,h9,_⟩:=hinj
      injection e with e1 e2 e3
      rw [<- e3,HBL.out] at h9;exact h9
     have y1:(m1:Int)<=(c:Int):=by omega
     have y2:m0<=m1:=by omega
     have y4:m1-m0=64:=by omega
     have hpart:ze wr (.slice (some (A.add m0)) 64 (c-m0)) ((bs.drop (j*64)).take 64):=by
      rw [<- hm0];exact hinj.sub m0 64 (by omega) (by omega)
     have HPART:=hid hpart
     have HSJ:=hid (And.intro hsj (And.intro hm0 hm1))
     have y3:¬ (c=m0):=by omega
     have HNN:=hid hnn
     clear hinj hc5 hpart hsj hm0 hm1 hplj hnn
     go_upto_region 10 with fail
     have hS:wr.drew.cell? ⟨B,0,none⟩=some (.pointer (some ⟨D,0,none⟩))/\wr.drew.cell? ⟨B,1,none⟩=some (.int .i64 r)/\wr.drew.cell? ⟨B,3+k*3,none⟩=some (.pointer (some ⟨b,0,none⟩))/\wr.drew.cell? ⟨b,2,none⟩=some (.int .i64 n):=⟨q0,q1,q3,q4⟩
     refine wp_region_noPanic ?_
     refine PrintLast.start_ (n:=28) (S:=(fun w'=>w'.cell? ⟨B,0,none⟩=some (.pointer (some ⟨D,0,none⟩))/\w'.cell? ⟨B,1,none⟩=some (.int .i64 r)/\w'.cell? ⟨B,3+k*3,none⟩=some (.pointer (some ⟨b,0,none⟩))/\w'.cell? ⟨b,2,none⟩=some (.int .i64 n))) (ds:=[26]) (bA 28 0) (by kernel_rfl) rfl (by kernel_rfl) hS (fun hHeld=>?_)
     refine pu 0 40 28 1 rfl rfl ?_
     refine pu 1 41 28 3 rfl rfl ?_
     refine pu 2 42 28 7 rfl rfl ?_
     refine tq 3 43 28 15 rfl rfl ?_
     refine pu 4 44 28 31 rfl rfl ?_
     refine pu 5 45 28 63 rfl rfl ?_
     refine pu 6 46 28 127 rfl rfl ?_
     refine tq 7 47 28 255 rfl rfl ?_
     refine pu 8 48 28 511 rfl rfl ?_
     refine pu 9 49 28 1023 rfl rfl ?_
     refine pu 10 50 28 2047 rfl rfl ?_
     refine tq 11 51 28 4095 rfl rfl ?_
     refine pu 12 52 28 8191 rfl rfl ?_
     refine pu 13 53 28 16383 rfl rfl ?_
     refine tq 14 54 28 32767 rfl rfl ?_
     refine pu 15 55 28 65535 rfl rfl ?_
     refine pu 16 56 28 131071 rfl rfl ?_
     refine pu 17 57 28 262143 rfl rfl ?_
     refine pu 18 58 28 524287 rfl rfl ?_
     refine pu 19 59 28 1048575 rfl rfl ?_
     refine pu 20 60 28 2097151 rfl rfl ?_
     refine pu 21 61 28 4194303 rfl rfl ?_
     refine pu 22 62 28 8388607 rfl rfl ?_
     refine pu 23 63 28 16777215 rfl rfl ?_
     refine pu 24 64 28 33554431 rfl rfl ?_
     refine pu 25 65 28 67108863 rfl rfl ?_
     refine la 26 28 134217727 (some 66) rfl rfl (fun K hK=>?_)
     show Oper.wp _ ⟨some 66,_,_,_,_,_⟩ _ _ _ _
     refine zq 97 _ _ [.pointer (some ⟨D,0,none⟩),.int .i64 r,.int .i64 sj,.slice (some (A.add m0)) 64 (c-m0)] rfl (by kernel_rfl) (by rfl) ((Qx D F' _ _ r sj _ _ wr.drew HDJ.out.drew (by omega) (by have:=HR4.out;omega) (by omega) (by have h1:=HSJ.out.1;have h2:=HNN.out;omega) HPART.out.drew (by rw [List.length_take];omega) (by rw [Int.toNat_natCast,zf];omega)).mono ?_)
     rintro e1 w5 ⟨rfl,F5,hD5,hK5,hN5⟩
     rw [Int.toNat_natCast,Int.toNat_natCast,HSJ.out.1,zfe (by rw [List.length_take,List.length_drop,HBL.out];omega),zhE] at hD5
     refine ⟨_,rfl,?_⟩
     refine hK.out _ _ ?_
     clear hK K
     try simp only [pS]
     refine pu 27 8 28 268435455 rfl rfl ?_
     refine PrintLast.done_ (by kernel_rfl) ?_
     refine NoPanic.normal ?_
     have HD5:Hid (zv w5 D F5 (ZZ cur1 r n bs (j+1)) (zE (fun _=>0) r (j+1))):=hid (zv.mono hD5 (fun r' _=>by
      unfold QV
      by_cases e:r'=r
      ·subst e;simp only [zf];omega
      ·rw [zm _ _ e,zm _ _ e];exact Nat.zero_le _))
     have HK5:=hid (HKJ.out.drew.next hK5 HNJ.out)
     have HN5:=hid (qh.trans (w1:=wr.drew) HNJ.out hN5 HKJ.out.size)
     clear hD5 hK5 hN5 hS hHeld q0 q1 q3 q4 x1 x2 x3 x4 x4' x5 x6 y1 y2 y3 y4
     go_wp2_with fail
     go_roundw
     case rel=>exact ⟨j+1,F5,by omega,by simp,HD5.out,HK5.out,HN5.out⟩
     case measure=>simp [intOf];omega
    ·have hj4':j=4:=by omega
     subst hj4'
     have q0:wr.drew.cell? ⟨B,0,none⟩=some (.pointer (some ⟨D,0,none⟩)):=cell_of_row wr.drew B 0 _ _ _ hplj.blk
     have q1:wr.drew.cell? ⟨B,1,none⟩=some (.int .i64 r):=cell_of_row wr.drew B 1 _ _ _ hplj.blk
     clear hplj
     go_upto_region 14 with fail
     have hS:wr.drew.cell? ⟨B,0,none⟩=some (.pointer (some ⟨D,0,none⟩))/\wr.drew.cell? ⟨B,1,none⟩=some (.int .i64 r):=⟨q0,q1⟩
     refine wp_region_noPanic ?_
     refine PrintLast.start_ (n:=10) (S:=(fun w'=>w'.cell? ⟨B,0,none⟩=some (.pointer (some ⟨D,0,none⟩))/\w'.cell? ⟨B,1,none⟩=some (.int .i64 r))) (ds:=[8]) (bA 10 0) (by kernel_rfl) rfl (by kernel_rfl) hS (fun hHeld=>?_)
     refine pu 0 71 10 1 rfl rfl ?_
     refine pu 1 72 10 3 rfl rfl ?_
     refine pu 2 73 10 7 rfl rfl ?_
     refine tq 3 74 10 15 rfl rfl ?_
     refine pu 4 75 10 31 rfl rfl ?_
     refine pu 5 76 10 63 rfl rfl ?_
     refine pu 6 77 10 127 rfl rfl ?_
     refine tq 7 78 10 255 rfl rfl ?_
     refine la 8 10 511 (some 79) rfl rfl (fun K hK=>?_)
     show Oper.wp _ ⟨some 79,_,_,_,_,_⟩ _ _ _ _
     refine zq 98 _ _ [.pointer (some ⟨D,0,none⟩),.int .i64 r] rfl (by kernel_rfl) (by rfl) ((ud D F' _ _ r wr.drew HDJ.out.drew (by omega) (by have:=HR4.out;omega) (by rw [Int.toNat_natCast,zf];omega)).mono ?_)
     rintro e1 w5 ⟨rfl,hD5,hK5⟩
     rw [Int.toNat_natCast] at hD5
     refine ⟨_,rfl,?_⟩
     refine hK.out _ _ ?_
     clear hK K
     try simp only [pS]
     refine pu 9 9 10 1023 rfl rfl ?_
     refine PrintLast.done_ (by kernel_rfl) ?_
     refine NoPanic.normal ?_
     have hD6:qr w5 D F' (ZZ cur1 r n bs 4):=qr.of (r:=r) (zv.mono hD5 (fun r' _=>by
      by_cases e:r'=r
      ·subst e;simp only [zf];omega
      ·rw [zm _ _ e,zm _ _ e,zm _ _ e];exact Nat.le_refl _))
     have HD6:=hid hD6
     have HK6:=hid (HKJ.out.drew.next hK5 HNJ.out)
     have hpl6:zQ w5 B D r L s.fs s.hand:=(HPLJ.out.same (w':=wr.drew) (fun _ _=>rfl)).keep hK5 (fun x hx hm=>HPLJ.out.disk HDJ.out x hx hm)
     have f1:=frozen_of_row w5 B (3+k*3+1) _ _ hpl6.blk
     have HPL6:=hid hpl6
     have k1:=hpl6.c1 HF.out
     clear hD5 hK5 hD6 hpl6 hS hHeld q0 q1
     go_wp2_with fail
     go_ret
     have hmem:=List.mem_of_getElem? HF.out
     have hBFL:∀ x,FL x->x≠B:=fun x hx e=>H.out.pool.lane H.out.lane B (.inl rfl) (e ▸ hx)
     have hBF:∀ x,F' x->x≠B:=fun x hx e=>HPL6.out.disk HD6.out B (.inl rfl) (e ▸ hx)
     refine ⟨rfl,F',ZZ cur1 r n bs 4,?_,?_,?_,?_⟩
     ·rw [HN.out]
      have hl2:=(HL1.out.below HB2.out).keep HK6.out (fun x hx=>uv HL1.out HD1.out x hx)
      refine ⟨?_,hl2.same (fun x hx=>heap_setCell_other _ _ _ _ (hBFL x hx)) (by simp),zv.same HD6.out (fun x hx=>heap_setCell_other _ _ _ _ (hBF x hx)) (by simp),?_,?_,H.out.r4,H.out.bank1,H.out.gen32,H.out.len,Nat.le_refl _,?_,?_⟩
      ·refine HPL6.out.put HF.out (zQ.setc HPL6.out.blk { f with since:=0 } HF.out (j:=1) (by omega) (by simp [zV,zu.adr])) H.out.pool.hand ?_ ?_ ?_
       ·intro b' n' p' h9
        exact us (HPL6.out.pages f hmem b' n' p' h9) (HPL6.out.ne hmem h9) _
       ·intro j g b' n' p' _ hg hgp
        exact heap_setCell_other _ _ _ _ (HPL6.out.ne (List.mem_of_getElem? hg) hgp)
       ·intro b' n' p' h9
        exact .inl ⟨n',p',h9⟩
      ·show jN _ _ _ (s.log.take s.log.length)
       rw [List.take_length]
       exact HON1.out.congr (fun q _ hq=>YT (by omega)) H.out.bank1
      ·intro m hm
       show uo _ r m (zE s.dp n p m)
       by_cases e:m=n
       ·subst e
        rw [zf,HBS.out]
        exact uo.write
       ·rw [zm _ _ e]
        intro i hi
        rw [YT (by omega),HSO1.out r _ (.inr (.inr (by omega)))]
        exact H.out.pgs m hm i hi
      ·intro m
       show (zE s.dp n p m).ok
       by_cases e:m=n
       ·subst e;rw [zf];exact HOK.out.2
       ·rw [zm _ _ e];exact H.out.dpok m
      ·intro g hg b' n' p' hgp
       rcases List.mem_or_eq_of_mem_set hg with hg | rfl
       ·exact H.out.fok g hg b' n' p' hgp
       ·exact H.out.fok f hmem b' n' p' hgp
     ·intro r' q h0
      rw [YT (by omega),HSO1.out r' q (by omega)]
     ·have K12:zr (Gn FL F) w w2:=HK1.out.call HB2.out
      have K126:zr (Gn FL F) w w5:=K12.trans HK6.out (fun x hx=>(HN1.out x hx).imp .inr id)
      exact (K126.mono (fun x hx=>.inl (.inl hx))).set (.inl (.inr (.inl rfl))) _
     ·exact qh.trans (w1:=w2) HN1.out HNJ.out (Nat.le_trans HK1.out.size HB2.out.size)
end
def qG (B:Nat) (FL F:Nat->Prop) (s:zl):Nat->Prop:=Gn (Gn FL F) (ya B s.fs)
structure qa (w w':World) (M M':Nat->Prop) (cur cur':Nat->Nat->List UInt8) (r:Nat):Prop where
 out:yd cur cur' r
 keep:zr M w w'
 new:qh w M M'
theorem qa.refl (w:World) (M:Nat->Prop) (cur:Nat->Nat->List UInt8) (r:Nat):qa w w M M cur cur r:=⟨yd.refl _ _,zr.refl _ _,qh.refl _ _⟩
theorem qa.trans {w w1 w2:World} {M M1 M2:Nat->Prop} {a b c:Nat->Nat->List UInt8} {r:Nat} (h:qa w w1 M M1 a b r) (k:qa w1 w2 M1 M2 b c r):qa w w2 M M2 a c r :=
 ⟨h.out.trans k.out,h.keep.next k.keep h.new,h.new.trans k.new h.keep.size⟩
theorem qa.call {w w1 w2:World} {M M1:Nat->Prop} {a b:Nat->Nat->List UInt8} {r:Nat} (h:qa w w1 M M1 a b r) (k:Below w1.heap.size w1 w2):qa w w2 M M1 a b r:=⟨h.out,h.keep.call k,h.new⟩
theorem qc.below {w w':World} {B D L r:Nat} {FL F:Nat->Prop} {cur:Nat->Nat->List UInt8} {s:zl} (h:qc w B D L r FL F cur s) (hb:Below w.heap.size w w'):qc w' B D L r FL F cur s :=
 { h with pool:=h.pool.below hb,lane:=h.lane.below hb,disk:=h.disk.below hb }
theorem qc.drew {w:World} {B D L r:Nat} {FL F:Nat->Prop} {cur:Nat->Nat->List UInt8} {s:zl} (h:qc w B D L r FL F cur s):qc w.drew B D L r FL F cur s:=h.below (Below.refl _ _).drew
theorem zdW {B:Nat} {s:zl} {k x:Nat} (h:ya B (s.write k).fs x):ya B s.fs x:=by
 unfold zl.write at h
 split at h
 ·exact h
 ·rename_i f hf
  split at h
  ·exact h
  ·rename_i b n p hp
   split at h
   ·exact h
   ·rcases h with h | ⟨g,hg,n',p',hgp⟩
    ·exact .inl h
    ·rcases List.mem_or_eq_of_mem_set hg with hg | rfl
     ·exact .inr ⟨g,hg,n',p',hgp⟩
     ·exact .inr ⟨f,List.mem_of_getElem? hf,n',p',hgp⟩
theorem zao (B D L r k:Nat) (FL F:Nat->Prop) (cur:Nat->Nat->List UInt8) (s:zl) (w:World) (h:qc w B D L r FL F cur s) (hk:k<3) :
  Calls Tryz.prog 103 #[.pointer (some ⟨B,0,none⟩),.pointer (some ⟨B,3+k*3,none⟩)] w fun e w'=>e=.returned (.int .i64 0)/\∃ F' cur',qc w' B D L r FL F' cur' (s.write k)/\qa w w' (qG B FL F s) (qG B FL F' (s.write k)) cur cur' r :=
 (zfk B D L r k FL F cur s w h hk).mono fun _ _ ⟨h1,F',cur',h2,h3,h4,h5⟩=>⟨h1,F',cur',h2,h3,h4,fun x hx=>hx.elim (fun h9=>h9.elim (fun h8=>.inl (.inl (.inl h8))) (fun h8=>(h5 x h8).imp (fun h7=>.inl (.inr h7)) id)) (fun h9=>.inl (.inr (zdW h9)))⟩
def zl.flush (s:zl) (n:Nat):zl:=match qU s.fs n with
 | none=>s
 | some k=>s.write k
def zl.flushTo (s:zl) (k:Nat):zl:=(List.range k).foldl zl.flush s
theorem zl.flushTo_step (s:zl) (k:Nat):s.flushTo (k+1)=(s.flushTo k).flush k:=by simp [zl.flushTo,List.range_succ]
theorem zib {fs:List zu} {n k:Nat} (h:qU fs n=some k):k<3:=by have:=(JO h).1;omega
theorem zgn (B D L r n:Nat) (FL F:Nat->Prop) (cur:Nat->Nat->List UInt8) (s:zl) (w:World) (h:qc w B D L r FL F cur s) :
  Calls Tryz.prog 62 #[.pointer (some ⟨B,0,none⟩),.int .i64 n] w fun e w'=>e=.returned (.int .i64 0)/\∃ F' cur',qc w' B D L r FL F' cur' (s.flush n)/\qa w w' (qG B FL F s) (qG B FL F' (s.flush n)) cur cur' r:=by
 have cF:=QY B D r L s.hand n s.fs w h.pool
 have H:=hid h
 clear h
 cases hf:qU s.fs n with
 | none =>
  have hN:s.flush n=s:=by simp [zl.flush,hf]
  simp only [hf,uS,Option.map_none] at cF
  obtain ⟨HN,HC⟩:=zi2 hN cF
  clear hf hN cF
  go_enter Tryz.func62,Tryz.ntmps62
  go_wp2_with (go_at_call 102;(with_reducible refine HC.out.mono ?_);rintro e1 w1 ⟨rfl,hw1⟩;subst w1)
  go_ret
  rw [HN.out]
  exact ⟨rfl,F,cur,H.out,qa.refl _ _ _ _⟩
 | some k =>
  have hN:s.flush n=s.write k:=by simp [zl.flush,hf]
  have HW:=hid (zao B D L r k FL F cur s w H.out (zib hf))
  simp only [hf,uS,Option.map_some] at cF
  obtain ⟨HN,HC⟩:=zi2 hN cF
  clear hf hN cF
  go_enter Tryz.func62,Tryz.ntmps62
  go_wp2_with (first
   | (go_at_call 102;(with_reducible refine HC.out.mono ?_);rintro e1 w1 ⟨rfl,hw1⟩;subst w1)
   | (go_at_call 103;(with_reducible refine HW.out.mono ?_);rintro e1 w1 ⟨rfl,hw1⟩))
  go_ret
  rw [HN.out]
  exact ⟨rfl,hw1⟩
theorem zcE (B D L r:Nat) (FL F:Nat->Prop) (cur:Nat->Nat->List UInt8) (s:zl) (w:World) (h:qc w B D L r FL F cur s) :
  Calls Tryz.prog 67 #[.pointer (some ⟨B,0,none⟩)] w fun e w'=>e=.returned (.int .i64 0)/\∃ F' cur',qc w' B D L r FL F' cur' (s.flushTo 6)/\qa w w' (qG B FL F s) (qG B FL F' (s.flushTo 6)) cur cur' r:=by
 have H:=hid h
 clear h
 go_enter Tryz.func67,Tryz.ntmps67
 go_upto_region 2 with fail
 go_loopw [3,4,5] (fun _ _ u wr=>∃ (j:Nat) (F':Nat->Prop) (cur':Nat->Nat->List UInt8),j<=6/\u=.int .i64 j/\qc wr B D L r FL F' cur' (s.flushTo j)/\qa w wr (qG B FL F s) (qG B FL F' (s.flushTo j)) cur cur' r) (fun _ _ u _=>(6-intOf u).toNat)
 case atStart=>exact ⟨0,F,cur,by omega,rfl,H.out,qa.refl _ _ _ _⟩
 case round =>
  obtain ⟨j,F',cur',hj,rfl,hs,he⟩:=hrel
  obtain ⟨HS,HE⟩:=zi2 hs he
  clear hs he
  by_cases hj6:j<6
  ·have hji:(j:Int)<6:=by omega
   have HFL:=hid (zgn B D L r j FL F' cur' (s.flushTo j) wr HS.out)
   rw [<- zl.flushTo_step] at HFL
   go_wp2_with (go_at_call 62;(with_reducible refine HFL.out.mono ?_);rintro e1 w1 ⟨rfl,F2,cur2,hs2,he2⟩;obtain ⟨HS2,HE2⟩:=zi2 hs2 he2;clear hs2 he2)
   go_roundw
   case rel=>exact ⟨j+1,F2,cur2,by omega,by simp,HS2.out,HE.out.trans HE2.out⟩
   case measure=>simp [intOf];omega
  ·have hj6':j=6:=by omega
   subst hj6'
   go_wp2_with fail
   go_ret
   exact ⟨rfl,F',cur',HS.out,HE.out⟩
section
def jx (fs:List zu):Nat->Nat->Option Nat
 | 0,_=>none
 | k+1,i=>if (fs[i]?.bind zu.num)=none then some i else jx fs k (i+1)
theorem zaH {fs:List zu} {k i:Nat} (h:¬ ((fs[i]?.bind zu.num)=none)):jx fs (k+1) i=jx fs k (i+1):=by rw [jx,if_neg h]
theorem zaI {fs:List zu} {k i:Nat} (h:(fs[i]?.bind zu.num)=none):jx fs (k+1) i=some i:=by rw [jx,if_pos h]
def zl.clock:Nat->zl->Nat × zl
 | 0,s=>(0,s)
 | g+1,s=>match s.fs[s.hand]? with
  | none=>(0,s)
  | some f=>if f.again then zl.clock g { s with fs:=s.fs.set s.hand { f with again:=false },hand:=(s.hand+1) % 3 }
   else (s.hand,{ (({ s with hand:=(s.hand+1) % 3 }:zl).write s.hand) with fs:=(({ s with hand:=(s.hand+1) % 3 }:zl).write s.hand).fs.set s.hand zu.none })
def zl.room (s:zl):Nat × zl:=match jx s.fs 3 0 with
 | some k=>(k,s)
 | none=>s.clock 4
section
variable {w w':World} {B D L r hand:Nat} {FL F:Nat->Prop} {cur:Nat->Nat->List UInt8} {s:zl} {fs:List zu}
theorem zaP {h:Nat} (h3:fs.length=3):qs D r L fs h=(qs D r L fs hand).set 12 (.int .i64 h):=by
 unfold qs
 rw [List.set_cons_succ,List.set_cons_succ,List.set_cons_succ,List.set_append_right _ _ (by rw [ur];omega),ur,h3]
 rfl
theorem qc.repool (h:qc w B D L r FL F cur s) (fs':List zu) (hand':Nat) (hp:zQ w' B D r L fs' hand') (hk:∀ x,FL x∨F x->w'.heap[x]?=w.heap[x]?) (hz:w.heap.size<=w'.heap.size)
  (hok:∀ f,f∈fs'->∀ b n p,f.pg=some (b,n,p)->n<6/\p.ok):qc w' B D L r FL F cur { s with fs:=fs',hand:=hand' } :=
 { h with pool:=hp,lane:=h.lane.same (fun x hx=>hk x (.inl hx)) hz,disk:=zv.same h.disk (fun x hx=>hk x (.inr hx)) hz,fok:=hok }
theorem qc.other (h:qc w B D L r FL F cur s) (x:Nat) (hx:FL x∨F x):x≠B:=fun e=>by
 subst e
 exact hx.elim (h.pool.lane h.lane x (.inl rfl)) (h.pool.disk h.disk x (.inl rfl))
theorem qc.setHand (h:qc w B D L r FL F cur s) (h':Nat) (hh:h'<3):qc (w.setCell ⟨B,12,none⟩ (.int .i64 h')) B D L r FL F cur { s with hand:=h' }:=by
 refine h.repool s.fs h' ⟨?_,h.pool.three,hh,fun f hf b n p hp=>us (h.pool.pages f hf b n p hp) (h.pool.ne hf hp) _,h.pool.apart⟩ (fun x hx=>heap_setCell_other _ _ _ _ (h.other x hx)) (by simp) h.fok
 rw [zaP (hand:=s.hand) h.pool.three,heap_setCell_same _ _ _ _ _ _ h.pool.blk,List.setIfInBounds_toArray]
theorem qc.setFrm (h:qc w B D L r FL F cur s) {k j:Nat} {f f':zu} {v:Value} (hf:s.fs[k]?=some f) (hj:j<3) (hc:zV f'=(zV f).set j v) (hp:f'.pg=f.pg∨f'.pg=none) :
  qc (w.setCell ⟨B,3+k*3+j,none⟩ v) B D L r FL F cur { s with fs:=s.fs.set k f' }:=by
 have hmem:=List.mem_of_getElem? hf
 have key:∀ b n p,f'.pg=some (b,n,p)->f.pg=some (b,n,p):=fun b n p h9=>hp.elim (fun e=>e ▸ h9) (fun e=>by rw [e] at h9;cases h9)
 refine h.repool _ s.hand (h.pool.put hf (zQ.setc h.pool.blk f' hf hj hc) h.pool.hand ?_ ?_ ?_) (fun x hx=>heap_setCell_other _ _ _ _ (h.other x hx)) (by simp) ?_
 ·intro b n p h9
  exact us (h.pool.pages f hmem b n p (key b n p h9)) (h.pool.ne hmem (key b n p h9)) _
 ·intro j g b n p _ hg hgp
  exact heap_setCell_other _ _ _ _ (h.pool.ne (List.mem_of_getElem? hg) hgp)
 ·intro b n p h9
  exact .inl ⟨n,p,key b n p h9⟩
 ·intro g hg b n p hgp
  rcases List.mem_or_eq_of_mem_set hg with hg | rfl
  ·exact h.fok g hg b n p hgp
  ·exact h.fok f hmem b n p (key b n p hgp)
end
theorem zQ.chand {w:World} {B D r L hand:Nat} {fs:List zu} (h:zQ w B D r L fs hand):w.cell? ⟨B,12,none⟩=some (.int .i64 hand):=by
 rw [cell_of_row w B _ _ _ _ h.blk,List.getElem?_toArray]
 unfold qs
 rw [List.getElem?_cons_succ,List.getElem?_cons_succ,List.getElem?_cons_succ,List.getElem?_append_right (by rw [ur,h.three];omega),ur,h.three]
 rfl
def Ks (fs:List zu):Nat:=fs.countP (·.again)
theorem zct {fs:List zu} {k:Nat} {f:zu} (hf:fs[k]?=some f) (ha:f.again=true):Ks (fs.set k { f with again:=false })+1=Ks fs:=by
 have hk:k<fs.length:=(List.getElem?_eq_some_iff.1 hf).1
 have e:fs[k]=f:=(List.getElem?_eq_some_iff.1 hf).2
 have hpos:0<fs.countP (·.again):=List.countP_pos_iff.2 ⟨f,List.mem_of_getElem? hf,ha⟩
 unfold Ks
 rw [List.countP_set hk]
 simp [e,ha]
 omega
theorem zha (B D L r:Nat) (FL F:Nat->Prop) (cur:Nat->Nat->List UInt8) (s:zl) (w:World) (h:qc w B D L r FL F cur s) :
  Calls Tryz.prog 149 #[.pointer (some ⟨B,0,none⟩)] w fun e w'=>e=.returned (.tuple #[.pointer (some ⟨B,3+s.room.1*3,none⟩),.int .i64 0])/\∃ F' cur',qc w' B D L r FL F' cur' s.room.2/\qa w w' (qG B FL F s) (qG B FL F' s.room.2) cur cur' r:=by
 have H:=hid h
 clear h
 go_enter Tryz.func149,Tryz.ntmps149
 go_upto_region 2 with fail
 go_loopg [4,7] 3 (fun g s4 s7 wr=>∃ k:Nat,k+g=3/\s7=.int .i64 k/\Aside (jx s.fs g k=jx s.fs 3 0)/\w=wr)
 case atStart=>exact ⟨0,by omega,rfl,rfl,rfl⟩
 case round =>
  obtain ⟨k,hkg,rfl,HE,rfl⟩:=hrel
  cases gk with
  | zero =>
   have hkz:¬ ((k:Int)<3):=by omega
   have HN:=hid (show s.room=s.clock 4 by rw [zl.room,<- HE.out];rfl)
   go_wp2_with fail
   go_loopg [5,6] 4 (fun g s5 s6 wx=>∃ sg:zl,qc wx B D L r FL F cur sg/\qa w wx (qG B FL F s) (qG B FL F sg) cur cur r/\Aside (sg.clock g=s.clock 4)/\Ks sg.fs<g)
   case atStart=>exact ⟨s,H.out,qa.refl _ _ _ _,rfl,by have h1:Ks s.fs<=s.fs.length:=List.countP_le_length;have h2:=H.out.pool.three;omega⟩
   case round =>
    obtain ⟨sg,hs,he,HCL,hcnt⟩:=hrel
    cases gk with
    | zero=>omega
    | succ g =>
     have hd3:=hs.pool.hand
     obtain ⟨f,hf⟩:=hs.pool.at_ hd3
     obtain ⟨h1,hh1⟩:∃ x,x=(sg.hand+1) % 3:=⟨_,rfl⟩
     have hh3:h1<3:=by omega
     have z0:(0:Int)<=(sg.hand:Int):=by omega
     have z3:(sg.hand:Int)<3:=by omega
     have z1:IntKind.i64.wrap ((sg.hand:Int)+1)=(sg.hand:Int)+1:=by rw [IntKind.wrap_i64];omega
     have z2:((sg.hand:Int)+1).tmod 3=(h1:Int):=by rw [Int.tmod_eq_emod_of_nonneg (by omega)];omega
     have z4:IntKind.i64.wrap (h1:Int)=(h1:Int):=by rw [IntKind.wrap_i64];omega
     have kh:wr.drew.cell? ⟨B,12,none⟩=some (.int .i64 sg.hand):=hs.pool.chand
     have fh:wr.drew.frozen? ⟨B,12,none⟩=false:=frozen_of_row wr.drew B 12 _ _ hs.pool.blk
     obtain ⟨HS,HE,HF,HH1,HC,HH3,HD3⟩:=zi7 hs he hf hh1 hcnt hh3 hd3
     clear hs he hf hh1 hcnt hh3 hd3
     go_upto_region 7 with fail
     refine wp_region_noPanic ?_
     refine PrintLast.start_ (n:=9) (S:=(fun w'=>w'.cell? ⟨B,12,none⟩=some (.int .i64 sg.hand))) (ds:=[]) (bA 9 0) (by kernel_rfl) rfl (by kernel_rfl) kh (fun hHeld=>?_)
     refine pu 0 24 9 1 rfl rfl ?_
     refine pu 1 25 9 3 rfl rfl ?_
     refine pu 2 26 9 7 rfl rfl ?_
     refine pu 3 27 9 15 rfl rfl ?_
     refine tq 4 28 9 31 rfl rfl ?_
     refine pu 5 29 9 63 rfl rfl ?_
     refine pu 6 30 9 127 rfl rfl ?_
     refine pu 7 31 9 255 rfl rfl ?_
     refine pu 8 5 9 511 rfl rfl ?_
     refine PrintLast.done_ (by kernel_rfl) ?_
     refine NoPanic.normal ?_
     clear hHeld
     go_upto_region 9 with fail
     obtain ⟨w2,hw2⟩:∃ w2,w2=(wr.setCell ⟨B,12,none⟩ (.int .i64 h1)).drew:=⟨_,rfl⟩
     have hs2:qc w2 B D L r FL F cur { sg with hand:=h1 }:=by rw [hw2];exact (HS.out.setHand h1 HH3.out).drew
     have he2:qa w w2 (qG B FL F s) (qG B FL F { sg with hand:=h1 }) cur cur r:=by
      rw [hw2]
      exact ⟨HE.out.out,(HE.out.keep.set ((HE.out.new B (.inr (.inl rfl))).imp id id) _).drew,HE.out.new⟩
     rw [<- hw2]
     have q2:=hs2.pool.c2 HF.out
     have g2:=frozen_of_row w2 B (3+sg.hand*3+2) _ _ hs2.pool.blk
     obtain ⟨HS2,HE2⟩:=zi2 hs2 he2
     clear hw2 hs2 he2 z0 z1 z2 z3 z4 kh fh
     cases ha:f.again with
     | true =>
      rw [ha] at q2
      have HA:=hid ha
      clear ha
      go_wp2_with fail
      go_roundg g
      case measure=>omega
      case rel =>
       refine ⟨{ sg with fs:=sg.fs.set sg.hand { f with again:=false },hand:=h1 },?_,?_,?_,?_⟩
       ·exact HS2.out.setFrm HF.out (f':={ f with again:=false }) (j:=2) (by omega) (by simp [zV,zu.adr]) (.inl rfl)
       ·refine ⟨HE2.out.out,HE2.out.keep.set ((HE2.out.new B (.inr (.inl rfl))).imp id id) _,fun x hx=>?_⟩
        refine HE2.out.new x (hx.imp id (fun h9=>h9.imp id (fun ⟨g',hg',n',p',hgp⟩=>?_)))
        rcases List.mem_or_eq_of_mem_set hg' with hg' | rfl
        ·exact ⟨g',hg',n',p',hgp⟩
        ·exact ⟨f,List.mem_of_getElem? HF.out,n',p',hgp⟩
       ·show _=_
        rw [<- HCL.out,zl.clock,HF.out]
        simp only [HA.out,if_true,HH1.out]
       ·have:=zct HF.out HA.out
        have:=HC.out
        show Ks (sg.fs.set sg.hand { f with again:=false })<g
        omega
     | false =>
      rw [ha] at q2
      have HA:=hid ha
      have HWR:=hid (zao B D L r sg.hand FL F cur { sg with hand:=h1 } w2 HS2.out HD3.out)
      clear ha
      go_upto_region 14 with (go_at_call 103;(with_reducible refine HWR.out.mono ?_);rintro e1 w3 ⟨rfl,F3,cur3,hs3,he3⟩)
      obtain ⟨t,ht⟩:∃ t,t=({ sg with hand:=h1 }:zl).write sg.hand:=⟨_,rfl⟩
      rw [<- ht] at hs3 he3
      obtain ⟨f3,hf3⟩:=hs3.pool.at_ HD3.out
      have p0:=hs3.pool.c0 hf3
      have p1:=hs3.pool.c1 hf3
      have p2:=hs3.pool.c2 hf3
      have f0:=frozen_of_row w3 B (3+sg.hand*3) _ _ hs3.pool.blk
      have f1:=frozen_of_row w3 B (3+sg.hand*3+1) _ _ hs3.pool.blk
      have f2:=frozen_of_row w3 B (3+sg.hand*3+2) _ _ hs3.pool.blk
      have HS3:=hid hs3
      have HE3:=hid (HE2.out.trans he3)
      obtain ⟨HT,HF3⟩:=zi2 ht hf3
      clear hs3 he3 ht hf3 q2 g2
      go_wp2_with fail
      go_ret2
      have hroom:s.room=(sg.hand,{ t with fs:=t.fs.set sg.hand zu.none }):=by
       rw [HN.out,<- HCL.out,zl.clock,HF.out]
       simp only [HA.out,Bool.false_eq_true,if_false]
       rw [<- HH1.out,<- HT.out]
      rw [hroom]
      have hk:sg.hand<t.fs.length:=(List.getElem?_eq_some_iff.1 HF3.out).1
      have a1:=HS3.out.setFrm HF3.out (f':=⟨none,f3.since,f3.again⟩) (j:=0) (v:=.pointer none) (by omega) (by simp [zV,zu.adr]) (.inr rfl)
      have a2:=a1.setFrm (k:=sg.hand) (f:=⟨none,f3.since,f3.again⟩) (f':=⟨none,0,f3.again⟩) (j:=1) (v:=.int .u64 0) (List.getElem?_set_self hk) (by omega) (by simp [zV,zu.adr]) (.inr rfl)
      have a3:=a2.setFrm (k:=sg.hand) (f:=⟨none,0,f3.again⟩) (f':=zu.none) (j:=2) (v:=.bool false) (by simp only [List.set_set];exact List.getElem?_set_self hk) (by omega) (by simp [zV,zu.adr,zu.none]) (.inr rfl)
      simp only [List.set_set] at a3
      have hB:=(HE3.out.new B (.inr (.inl rfl))).imp id id
      refine ⟨rfl,F3,cur3,a3,HE3.out.out,((HE3.out.keep.set hB _).set hB _).set hB _,fun x hx=>?_⟩
      refine HE3.out.new x (hx.imp id (fun h9=>h9.imp id (fun ⟨g',hg',n',p',hgp⟩=>?_)))
      rcases List.mem_or_eq_of_mem_set hg' with hg' | rfl
      ·exact ⟨g',hg',n',p',hgp⟩
      ·cases hgp
  | succ g =>
   have hkz:(k:Int)<3:=by omega
   obtain ⟨f,hf⟩:=H.out.pool.at_ (show k<3 by omega)
   have c0:=H.out.pool.c0 hf
   have HK:=hid hf
   cases hp:f.pg with
   | none =>
    have ha:f.adr=none:=by simp [zu.adr,hp]
    have HN:=hid (show s.room=(k,s) by rw [zl.room,<- HE.out,zaI (by rw [hf];simp [zu.num,hp])])
    rw [ha] at c0
    clear hf hp ha
    go_wp2_with fail
    go_ret2
    rw [HN.out]
    exact ⟨rfl,F,cur,H.out,qa.refl _ _ _ _⟩
   | some x =>
    obtain ⟨b,n',p⟩:=x
    have ha:f.adr=some ⟨b,0,none⟩:=by simp [zu.adr,hp]
    rw [ha] at c0
    have HP:=hid hp
    clear hf hp ha
    go_wp2_with fail
    go_roundg g
    case measure=>omega
    case rel=>exact ⟨k+1,by omega,rfl,by show _=_;rw [<- HE.out,zaH (by rw [HK.out];simp [zu.num,HP.out])],rfl⟩
end
section
section
variable {w w':World} {B D r L hand:Nat} {fs:List zu}
theorem zQ.put2 (h:zQ w B D r L fs hand) {k:Nat} {f f':zu} {hand':Nat} (hf:fs[k]?=some f) (hb:w'.heap[B]?=some (.cells (qs D r L (fs.set k f') hand').toArray 200 (0,0))) (hh:hand'<3)
  (hp:∀ b n p,f'.pg=some (b,n,p)->qf w' b r n p)
  (ho:∀ j g b n p,j≠k->fs[j]?=some g->g.pg=some (b,n,p)->w'.heap[b]?=w.heap[b]?)
  (hd:∀ b n p,f'.pg=some (b,n,p)->¬ ya B fs b):zQ w' B D r L (fs.set k f') hand':=by
 have hk:k<fs.length:=(List.getElem?_eq_some_iff.1 hf).1
 have key:∀ i g,(fs.set k f')[i]?=some g->(i=k/\g=f')∨(i≠k/\fs[i]?=some g):=by
  intro i g hg
  rw [List.getElem?_set] at hg
  split at hg
  ·rename_i e;subst e
   injection hg with hg
   exact .inl ⟨rfl,hg.symm⟩
  ·rename_i e;exact .inr ⟨fun e'=>e e'.symm,hg⟩
 refine ⟨hb,by rw [List.length_set];exact h.three,hh,fun g hg b n p hgp=>?_,fun i j fi fj b n p n' p' hi hj hpi hpj=>?_⟩
 ·obtain ⟨i,hi⟩:=List.getElem?_of_mem hg
  rcases key i g hi with ⟨rfl,rfl⟩ | ⟨hne,hi⟩
  ·exact hp b n p hgp
  ·exact (ho i g b n p hne hi hgp).trans (h.pages g (List.mem_of_getElem? hi) b n p hgp)
 ·rcases key i fi hi with ⟨ei,ei'⟩ | ⟨hni,hi⟩<;>rcases key j fj hj with ⟨ej,ej'⟩ | ⟨hnj,hj⟩
  ·rw [ei,ej]
  ·exfalso
   rw [ei'] at hpi
   exact hd b n p hpi (.inr ⟨fj,List.mem_of_getElem? hj,n',p',hpj⟩)
  ·exfalso
   rw [ej'] at hpj
   exact hd b n' p' hpj (.inr ⟨fi,List.mem_of_getElem? hi,n,p,hpi⟩)
  ·exact h.apart _ _ _ _ _ _ _ _ _ hi hj hpi hpj
end
def zl.setPg (s:zl) (k b n:Nat) (p:Pg):zl:=match s.fs[k]? with
 | none=>s
 | some f=>{ s with fs:=s.fs.set k ⟨some (b,n,p),f.since,true⟩ }
def zl.put (s:zl) (b n:Nat) (p:Pg):zl:=s.room.2.setPg s.room.1 b n p
theorem zdV {B k b n x:Nat} {s:zl} {p:Pg} (h:ya B (s.setPg k b n p).fs x):ya B s.fs x∨x=b:=by
 unfold zl.setPg at h
 split at h
 ·exact .inl h
 ·rcases h with h | ⟨g,hg,n',p',hgp⟩
  ·exact .inl (.inl h)
  ·rcases List.mem_or_eq_of_mem_set hg with hg | rfl
   ·exact .inl (.inr ⟨g,hg,n',p',hgp⟩)
   ·simp only [Option.some.injEq,Prod.mk.injEq] at hgp
    exact .inr hgp.1.symm
theorem zl.clock_lt:∀ (g:Nat) (s:zl),s.fs.length=3->s.hand<3->(s.clock g).1<3
 | 0,s,_,_=>by simp [zl.clock]
 | g+1,s,h3,hh=>by
  unfold zl.clock
  split
  ·simp
  ·split
   ·exact zl.clock_lt g _ (by simpa using h3) (Nat.mod_lt _ (by omega))
   ·exact hh
theorem Ku {fs:List zu}:∀ {g i k:Nat},jx fs g i=some k->k<i+g
 | 0,i,k,h=>by simp [jx] at h
 | g+1,i,k,h=>by
  unfold jx at h
  split at h
  ·injection h with h;omega
  ·have:=Ku h;omega
theorem zl.room_lt {s:zl} (h3:s.fs.length=3) (hh:s.hand<3):s.room.1<3:=by
 unfold zl.room
 split
 ·rename_i k hk;have:=Ku hk;simp at this ⊢;omega
 ·exact zl.clock_lt 4 s h3 hh
theorem ziK (B D L r n:Nat) (FL F:Nat->Prop) (cur:Nat->Nat->List UInt8) (s:zl) (p:Pg) (w:World) (h:qc w B D L r FL F cur s) (hn:n<6) (hp:p.ok) (hf:qU s.fs n=none) :
  Calls Tryz.prog 124 #[.pointer (some ⟨B,0,none⟩),.agg (zK r n p).toArray] w fun e w'=>e=.returned (.tuple #[.pointer (some ⟨w.heap.size,0,none⟩),.int .i64 0])/\∃ F' cur',qc w' B D L r FL F' cur' (s.put w.heap.size n p)/\qa w w' (qG B FL F s) (qG B FL F' (s.put w.heap.size n p)) cur cur' r:=by
 obtain ⟨N,hN⟩:∃ N,N=w.heap.size:=⟨_,rfl⟩
 obtain ⟨w1,hw1⟩:∃ w1,w1=w.alloc (.cells (zK r n p).toArray 204):=⟨_,rfl⟩
 have hX:qf w1 N r n p:=by rw [hw1,hN];exact zk _ _ rfl
 have hB:Below w.heap.size w w1:=by rw [hw1];exact B_alloc (Below.refl _ _) _
 have h1:=h.below hB
 have cF:=QY B D r L s.hand n s.fs w1 h1.pool
 have c2:w1.cell? ⟨N,2,none⟩=some (.int .i64 n):=cell_of_row w1 N 2 _ _ _ hX
 simp only [hf,uS,Option.map_none] at cF
 have HC:=hid cF
 have HR:=hid (zha B D L r FL F cur s w1 h1)
 obtain ⟨H1,H,HX,HB,HN,HP⟩:=zi6 h1 h hX hB hN hp
 clear h cF hX hB hf h1 hp
 rw [<- hN]
 go_enter Tryz.func124,Tryz.ntmps124
 go_upto_region 1 with fail
 rw [<- hN,<- hw1]
 clear hw1 hN
 go_upto_region 7 with (first
  | (go_at_call 102;(with_reducible refine HC.out.mono ?_);rintro e1 w9 ⟨rfl,hw9⟩;subst w9)
  | (go_at_call 149;(with_reducible refine HR.out.mono ?_);rintro e1 w2 ⟨rfl,F2,cur2,hs2,he2⟩))
 obtain ⟨t,ht⟩:∃ t,t=s.room.2:=⟨_,rfl⟩
 obtain ⟨k,hk⟩:∃ k,k=s.room.1:=⟨_,rfl⟩
 rw [<- ht] at hs2 he2
 rw [<- hk]
 have hk3:k<3:=by rw [hk];exact zl.room_lt H.out.pool.three H.out.pool.hand
 obtain ⟨f,hf⟩:=hs2.pool.at_ hk3
 have hlt:N<w1.heap.size:=zd HX.out
 have hnew:∀ x,qG B FL F s x->x<N:=fun x hx=>by
  rw [HN.out]
  exact hx.elim (fun h9=>h9.elim (H.out.lane.lt x) (zv.lt H.out.disk x)) (fun h9=>H.out.pool.lt h9)
 have hX2:qf w2 N r n p:=(he2.keep.block N hlt (fun hx=>Nat.lt_irrefl _ (hnew N hx))).trans HX.out
 have hN2:¬ qG B FL F2 t N:=fun hx=>(he2.new N hx).elim (fun h9=>Nat.lt_irrefl _ (hnew N h9)) (fun h9=>by omega)
 have f0:=frozen_of_row w2 B (3+k*3) _ _ hs2.pool.blk
 have f2:=frozen_of_row w2 B (3+k*3+2) _ _ hs2.pool.blk
 have p0:=hs2.pool.c0 hf
 have p2:=hs2.pool.c2 hf
 obtain ⟨HS2,HE2,HT,HK,HF,HX2,HN2⟩:=zi7 hs2 he2 ht hk hf hX2 hN2
 clear hs2 he2 ht hk hf hX2 hN2 c2 HC HR
 go_upto_region 8 with fail
 obtain ⟨w3,hw3⟩:∃ w3,w3=(w2.setCell ⟨B,3+k*3,none⟩ (.pointer (some ⟨N,0,none⟩))).setCell ⟨B,3+k*3+2,none⟩ (.bool true):=⟨_,rfl⟩
 rw [<- hw3]
 have hput:s.put N n p={ t with fs:=t.fs.set k ⟨some (N,n,p),f.since,true⟩ }:=by
  rw [zl.put,<- HT.out,<- HK.out,zl.setPg,HF.out]
 have hO:∀ x,x≠B->w3.heap[x]?=w2.heap[x]?:=fun x hx=>by rw [hw3];exact (heap_setCell_other _ _ _ _ hx).trans (heap_setCell_other _ _ _ _ hx)
 have hNB:N≠B:=fun e=>HN2.out (.inr (.inl e))
 have hkl:k<t.fs.length:=(List.getElem?_eq_some_iff.1 HF.out).1
 have hblk:w3.heap[B]?=some (.cells (qs D r L (t.fs.set k ⟨some (N,n,p),f.since,true⟩) t.hand).toArray 200 (0,0)):=by
  rw [hw3]
  have a1:=zQ.setc HS2.out.pool.blk (f:=f) ⟨some (N,n,p),f.since,f.again⟩ (j:=0) (v:=.pointer (some ⟨N,0,none⟩)) HF.out (by omega) (by simp [zV,zu.adr])
  have a2:=zQ.setc a1 (k:=k) (f:=⟨some (N,n,p),f.since,f.again⟩) ⟨some (N,n,p),f.since,true⟩ (j:=2) (v:=.bool true) (List.getElem?_set_self hkl) (by omega) (by simp [zV,zu.adr])
  rw [List.set_set] at a2
  exact a2
 have hpool:zQ w3 B D r L (t.fs.set k ⟨some (N,n,p),f.since,true⟩) t.hand:=by
  refine HS2.out.pool.put2 HF.out hblk HS2.out.pool.hand ?_ ?_ ?_
  ·intro b' n' p' h9
   simp only [Option.some.injEq,Prod.mk.injEq] at h9
   obtain ⟨rfl,rfl,rfl⟩:=h9
   exact (hO _ hNB).trans HX2.out
  ·intro j g b' n' p' _ hg hgp
   exact hO _ (HS2.out.pool.ne (List.mem_of_getElem? hg) hgp)
  ·intro b' n' p' h9
   simp only [Option.some.injEq,Prod.mk.injEq] at h9
   obtain ⟨rfl,rfl,rfl⟩:=h9
   exact fun hx=>HN2.out (.inr hx)
 have hsto:qc w3 B D L r FL F2 cur2 (s.put N n p):=by
  rw [hput]
  refine HS2.out.repool _ t.hand hpool (fun x hx=>hO x (HS2.out.other x hx)) (by rw [hw3];simp) ?_
  intro g hg b' n' p' hgp
  rcases List.mem_or_eq_of_mem_set hg with hg | rfl
  ·exact HS2.out.fok g hg b' n' p' hgp
  ·simp only [Option.some.injEq,Prod.mk.injEq] at hgp
   obtain ⟨rfl,rfl,rfl⟩:=hgp
   exact ⟨hn,HP.out⟩
 have hkeep:zr (qG B FL F s) w w3:=by
  have k1:zr (qG B FL F s) w w2:=(zr.of_below (M:=qG B FL F s) HB.out).trans HE2.out.keep (fun x hx=>.inl hx)
  rw [hw3]
  exact (k1.set (.inl (.inr (.inl rfl))) _).set (.inl (.inr (.inl rfl))) _
 have heff:qa w w3 (qG B FL F s) (qG B FL F2 (s.put N n p)) cur cur2 r:=by
  refine ⟨HE2.out.out,hkeep,fun x hx=>?_⟩
  have hx2:qG B FL F2 t x∨x=N:=hx.elim (fun h9=>.inl (.inl h9)) (fun h9=>by
   rw [zl.put,<- HT.out,<- HK.out] at h9
   exact (zdV h9).imp .inr id)
  rcases hx2 with h9 | h9
  ·exact (HE2.out.new x h9).imp id (fun h8=>Nat.le_trans HB.out.size h8)
  ·exact .inr (by rw [h9,HN.out];exact Nat.le_refl _)
 have q0:w3.cell? ⟨B,3+k*3,none⟩=some (.pointer (some ⟨N,0,none⟩)):=hpool.c0 (f:=⟨some (N,n,p),f.since,true⟩) (List.getElem?_set_self hkl)
 obtain ⟨HSTO,HEFF⟩:=zi2 hsto heff
 clear hw3 hput hO hNB hblk hpool hsto hkeep heff f0 f2 p0 p2
 go_wp2_with fail
 go_ret2
 exact ⟨rfl,F2,cur2,HSTO.out,HEFF.out⟩
end
def zl.get (s:zl) (b n:Nat):zl:=match qU s.fs n with
 | some k=>match s.fs[k]? with
  | some f=>{ s with fs:=s.fs.set k { f with again:=true } }
  | none=>s
 | none=>s.put b n (s.dp n)
def zl.blk (s:zl) (b n:Nat):Nat:=match qU s.fs n with
 | some k=>match s.fs[k]?.bind zu.pg with
  | some x=>x.1
  | none=>b
 | none=>b
theorem Gb (B D L r n:Nat) (FL F:Nat->Prop) (cur:Nat->Nat->List UInt8) (s:zl) (w:World) (h:qc w B D L r FL F cur s) (hn:n<6) :
  Calls Tryz.prog 121 #[.pointer (some ⟨B,0,none⟩),.int .i64 n] w fun e w'=>∃ nb F' cur',e=.returned (.tuple #[.pointer (some ⟨s.blk nb n,0,none⟩),.int .i64 0])/\w.heap.size<=nb/\qc w' B D L r FL F' cur' (s.get nb n)/\qa w w' (qG B FL F s) (qG B FL F' (s.get nb n)) cur cur' r:=by
 have cF:=QY B D r L s.hand n s.fs w h.pool
 have d1:decide ((n:Int)<0)=false:=by simp
 have d2:decide ((6:Int)<=(n:Int))=false:=by simp;omega
 have n0:(0:Int)<=(n:Int):=by omega
 have n6:(n:Int)<6:=by omega
 have H:=hid h
 clear h
 cases hf:qU s.fs n with
 | some k =>
  obtain ⟨f,b,p,hk,hp⟩:=vX hf
  have hg:∀ nb,s.get nb n={ s with fs:=s.fs.set k { f with again:=true } }:=fun nb=>by simp [zl.get,hf,hk]
  have hb:∀ nb,s.blk nb n=b:=fun nb=>by simp [zl.blk,hf,hk,hp]
  have c0:=H.out.pool.c0 hk
  rw [show f.adr=some ⟨b,0,none⟩ by simp [zu.adr,hp]] at c0
  have c2:=H.out.pool.c2 hk
  have f2:=frozen_of_row w B (3+k*3+2) _ _ H.out.pool.blk
  simp only [hf,uS,Option.map_some] at cF
  obtain ⟨HC,HG,HB,HK,HP⟩:=zi5 cF hg hb hk hp
  clear cF hf hg hb hk hp
  go_enter Tryz.func121,Tryz.ntmps121
  go_upto_region 6 with (go_at_call 102;(with_reducible refine HC.out.mono ?_);rintro e1 w9 ⟨rfl,hw9⟩;subst w9)
  have hsto:=H.out.setFrm HK.out (f':={ f with again:=true }) (j:=2) (v:=.bool true) (by omega) (by simp [zV,zu.adr]) (.inl rfl)
  obtain ⟨w2,hw2⟩:∃ w2,w2=w.setCell ⟨B,3+k*3+2,none⟩ (.bool true):=⟨_,rfl⟩
  rw [<- hw2] at hsto ⊢
  have hkl:k<s.fs.length:=(List.getElem?_eq_some_iff.1 HK.out).1
  have q0:=hsto.pool.c0 (f:={ f with again:=true }) (List.getElem?_set_self hkl)
  rw [show zu.adr { f with again:=true }=some ⟨b,0,none⟩ by simp [zu.adr,HP.out]] at q0
  have HE:Hid (qa w w2 (qG B FL F s) (qG B FL F { s with fs:=s.fs.set k { f with again:=true } }) cur cur r):=by
   rw [hw2]
   refine hid ⟨yd.refl _ _,(zr.refl _ _).set (.inl (.inr (.inl rfl))) _,fun x hx=>.inl (hx.imp id (fun h9=>h9.imp id (fun ⟨g',hg',n',p',hgp⟩=>?_)))⟩
   rcases List.mem_or_eq_of_mem_set hg' with hg' | rfl
   ·exact ⟨g',hg',n',p',hgp⟩
   ·exact ⟨f,List.mem_of_getElem? HK.out,n',p',hgp⟩
  have HSTO:=hid hsto
  clear hw2 hsto c0 c2 f2
  go_wp2_with fail
  go_ret2
  refine ⟨w.heap.size,F,cur,by rw [HB.out];rfl,Nat.le_refl _,?_,?_⟩
  ·rw [HG.out];exact HSTO.out
  ·rw [HG.out];exact HE.out
 | none =>
  have hg:∀ nb,s.get nb n=s.put nb n (s.dp n):=fun nb=>by simp [zl.get,hf]
  have hb:∀ nb,s.blk nb n=nb:=fun nb=>by simp [zl.blk,hf]
  have hr:=zgR B D r L s.hand n s.fs F cur (s.dp n) w H.out.pool H.out.disk H.out.r4 hn (H.out.dpok n) (H.out.pgs n hn)
  simp only [hf,uS,Option.map_none] at cF
  obtain ⟨HC,HG,HB,HR,HF⟩:=zi5 cF hg hb hr hf
  have HC3:=hid (ug (t:=r) (n:=n) (H.out.dpok n))
  clear cF hf hg hb hr
  go_enter Tryz.func121,Tryz.ntmps121
  go_upto_region 10 with (first
   | (go_at_call 102;(with_reducible refine HC.out.mono ?_);rintro e1 w9 ⟨rfl,hw9⟩;subst w9)
   | (go_at_call 148;(with_reducible refine HR.out.mono ?_);rintro e1 w2 ⟨v2,rfl,hin2,hb2⟩))
  have h2:=H.out.below hb2
  have k1:w2.cell? ⟨B,1,none⟩=some (.int .i64 r):=cell_of_row w2 B 1 _ _ _ h2.pool.blk
  have HD:=hid (zdQ r n (s.dp n) v2 w2 (H.out.dpok n) H.out.r4 (by omega) hin2)
  obtain ⟨HB2,H2⟩:=zi2 hb2 h2
  clear hb2 h2 hin2
  go_upto_region 11 with (first
   | (go_at_call 123;(with_reducible refine HD.out.mono ?_);rintro e1 w3 ⟨rfl,hb3⟩)
   | (show wpList _ _ _ (⟨none,.store 204 (.tmp 9) (.tmp 45),_,_,_,_⟩::_) _ _;refine zN rfl 204 (.tmp 9) (.tmp 45) rfl w3.heap.size rfl _ (zK r n (s.dp n)).toArray (by rfl) (by rfl) (by simp only [List.size_toArray,HC3.out];kernel_rfl) (by simp only [List.size_toArray,HC3.out];kernel_rfl) JV ?_))
  obtain ⟨w4,hw4⟩:∃ w4,w4=w3.alloc (.cells (zK r n (s.dp n)).toArray 204):=⟨_,rfl⟩
  have hX:qf w4 w3.heap.size r n (s.dp n):=by rw [hw4];exact zk _ _ rfl
  have hb4:Below w2.heap.size w2 w4:=by rw [hw4];exact B_alloc hb3 _
  have hBE:=B_call HB2.out hb4
  rw [<- hw4]
  have HPUT:=hid (ziK B D L r n FL F cur s (s.dp n) w4 (H.out.below hBE) hn (H.out.dpok n) HF.out)
  obtain ⟨HX,HBE⟩:=zi2 hX hBE
  clear hw4 hX hb4 hBE hb3 k1 HD
  go_wp2_with (first
   | (show wpList _ _ _ (⟨some 51,_,_,_,_,_⟩::_) _ _;refine wpList_load_row rfl 204 (.tmp 9) rfl w3.heap.size (by rfl) 204 (zK r n (s.dp n)).toArray (0,0) _ HX.out Tryz.underlying204 rfl (by simp only [List.size_toArray,HC3.out];kernel_rfl) ?_)
   | (go_at_call 124;(with_reducible refine HPUT.out.mono ?_);rintro e1 w5 ⟨rfl,F5,cur5,hs5,he5⟩))
  go_ret2
  refine ⟨w4.heap.size,F5,cur5,by rw [HB.out];rfl,HBE.out.size,?_,?_⟩
  ·rw [HG.out];exact hs5
  ·rw [HG.out]
   exact ⟨he5.out,(zr.of_below (M:=qG B FL F s) HBE.out).trans he5.keep (fun x hx=>.inl hx),he5.new.mono HBE.out.size⟩
def QW (t1:Int) (k1:ByteArray) (t2:Int) (k2:ByteArray):Int:=if QM t1 k1 t2 k2 then -1 else if QM t2 k2 t1 k1 then 1 else 0
theorem zaF (t1 p s t2:Int) (k1 v1 k2 v2:ByteArray) (w:World) :
  Calls Tryz.prog 155 #[.agg #[.int .i64 t1,.string k1,.string v1,.int .i64 p,.int .i64 s],.agg #[.int .i64 t2,.string k2,.string v2]] w fun e w'=>e=.returned (.int .i64 (QW t1 k1 t2 k2))/\Below w.heap.size w w':=by
 obtain ⟨w1,hw1⟩:∃ w1,w1=(w.alloc (.cells #[.int .i64 t1,.string k1,.string v1,.int .i64 p,.int .i64 s] 136)).alloc (.cells #[.int .i64 t2,.string k2,.string v2] 34):=⟨_,rfl⟩
 have hA:w1.heap[w.heap.size]?=some (.cells #[.int .i64 t1,.string k1,.string v1,.int .i64 p,.int .i64 s] 136 (0,0)):=by rw [hw1];exact zy (zk _ _ rfl) _
 have hC:w1.heap[w.heap.size+1]?=some (.cells #[.int .i64 t2,.string k2,.string v2] 34 (0,0)):=by rw [hw1];exact zk _ _ (by simp)
 have hB:Below w.heap.size w w1:=by rw [hw1];exact B_alloc (B_alloc (Below.refl _ _) _) _
 have a0:=cell_of_row w1 w.heap.size 0 _ _ _ hA
 have a1:=cell_of_row w1 w.heap.size 1 _ _ _ hA
 have a2:=cell_of_row w1 w.heap.size 2 _ _ _ hA
 have b0:=cell_of_row w1 (w.heap.size+1) 0 _ _ _ hC
 have b1:=cell_of_row w1 (w.heap.size+1) 1 _ _ _ hC
 have b2:=cell_of_row w1 (w.heap.size+1) 2 _ _ _ hC
 obtain ⟨HA,HC,HB⟩:=zi3 hA hC hB
 clear hA hC hB
 go_enter Tryz.func155,Tryz.ntmps155
 go_upto_region 1 with fail
 rw [<- hw1]
 clear hw1
 have hlA:=zd HA.out
 have hlC:=zd HC.out
 cases hl:QM t1 k1 t2 k2 with
 | true =>
  have hv:QW t1 k1 t2 k2=-1:=by simp [QW,hl]
  have HV:=hid hv
  clear hv
  go_wp2_with (go_at_call 57;(with_reducible refine (Jc _ _ _ _ _ _ _).mono ?_);rintro e1 w2 ⟨rfl,hb2⟩)
  go_ret
  rw [HV.out]
  exact ⟨rfl,B_call HB.out hb2⟩
 | false =>
  cases hl2:QM t2 k2 t1 k1 with
  | true =>
   have hv:QW t1 k1 t2 k2=1:=by simp [QW,hl,hl2]
   have HV:=hid hv
   clear hv
   go_upto_region 3 with (go_at_call 57;(with_reducible refine (Jc _ _ _ _ _ _ _).mono ?_);rintro e1 w2 ⟨rfl,hb2⟩)
   have HB2:=hid hb2
   have a0:=cell_of_row w2 w.heap.size 0 _ _ _ (zb HA.out hb2 hlA)
   have a1:=cell_of_row w2 w.heap.size 1 _ _ _ (zb HA.out hb2 hlA)
   have a2:=cell_of_row w2 w.heap.size 2 _ _ _ (zb HA.out hb2 hlA)
   have b0:=cell_of_row w2 (w.heap.size+1) 0 _ _ _ (zb HC.out hb2 hlC)
   have b1:=cell_of_row w2 (w.heap.size+1) 1 _ _ _ (zb HC.out hb2 hlC)
   have b2:=cell_of_row w2 (w.heap.size+1) 2 _ _ _ (zb HC.out hb2 hlC)
   clear hb2
   go_wp2_with (go_at_call 57;(with_reducible refine (Jc _ _ _ _ _ _ _).mono ?_);rintro e1 w3 ⟨rfl,hb3⟩)
   go_ret
   rw [HV.out]
   exact ⟨rfl,B_call (B_call HB.out HB2.out) hb3⟩
  | false =>
   have hv:QW t1 k1 t2 k2=0:=by simp [QW,hl,hl2]
   have HV:=hid hv
   clear hv
   go_upto_region 3 with (go_at_call 57;(with_reducible refine (Jc _ _ _ _ _ _ _).mono ?_);rintro e1 w2 ⟨rfl,hb2⟩)
   have HB2:=hid hb2
   have a0:=cell_of_row w2 w.heap.size 0 _ _ _ (zb HA.out hb2 hlA)
   have a1:=cell_of_row w2 w.heap.size 1 _ _ _ (zb HA.out hb2 hlA)
   have a2:=cell_of_row w2 w.heap.size 2 _ _ _ (zb HA.out hb2 hlA)
   have b0:=cell_of_row w2 (w.heap.size+1) 0 _ _ _ (zb HC.out hb2 hlC)
   have b1:=cell_of_row w2 (w.heap.size+1) 1 _ _ _ (zb HC.out hb2 hlC)
   have b2:=cell_of_row w2 (w.heap.size+1) 2 _ _ _ (zb HC.out hb2 hlC)
   clear hb2
   go_wp2_with (go_at_call 57;(with_reducible refine (Jc _ _ _ _ _ _ _).mono ?_);rintro e1 w3 ⟨rfl,hb3⟩)
   go_ret
   rw [HV.out]
   exact ⟨rfl,B_call (B_call HB.out HB2.out) hb3⟩
section
structure It where
 rw:Rw
 pg:Nat
 sl:Nat
deriving DecidableEq
def zC (x:It):List Value:=[.int .i64 x.rw.t,.string (za x.rw.k),.string (za x.rw.v),.int .i64 x.pg,.int .i64 x.sl]
def zT (l:List It):List Value:=l.flatMap zC
def Qs (a b:Rw):Bool:=QM a.t (za a.k) b.t (za b.k)
def vw (a b:Rw):Int:=QW a.t (za a.k) b.t (za b.k)
theorem yK (l:List It):(zT l).length=l.length*5:=by
 induction l with
 | nil=>rfl
 | cons x l ih=>unfold zT at ih ⊢;rw [List.flatMap_cons,List.length_append,ih,List.length_cons];simp [zC];omega
theorem zgs:∀ (l:List It) (k:Nat) (x:It) (j:Nat),l[k]?=some x->j<5->(zT l)[k*5+j]?=(zC x)[j]?
 | [],k,f,j,h,_=>by simp at h
 | y::l,0,x,j,h,hj=>by
  simp only [List.getElem?_cons_zero,Option.some.injEq] at h
  subst h
  unfold zT
  rw [List.flatMap_cons,Nat.zero_mul,Nat.zero_add,List.getElem?_append_left (by simpa [zC] using hj)]
 | y::l,k+1,x,j,h,hj=>by
  have ih:=zgs l k x j (by simpa using h) hj
  unfold zT at ih ⊢
  rw [List.flatMap_cons,List.getElem?_append_right (by simp [zC];omega),show (k+1)*5+j-(zC y).length=k*5+j by simp [zC];omega]
  exact ih
def qg (w:World) (v:Value) (l:List It):Prop:=w.ownsRow 0 136 5 v l.length (zT l)
theorem qg.range {w:World} {A:Option Addr} {n c:Nat} {l:List It} (h:qg w (.slice A n c) l) {k:Nat} {x:It} (hx:l[k]?=some x):∃ g,A=some ⟨g,0,none⟩/\n=l.length/\g<w.heap.size/\l.length<=c/\c<=maxLen/\w.rangeAt g (k*5) (zC x):=by
 have hk:k<l.length:=(List.getElem?_eq_some_iff.1 hx).1
 rcases h.2 with ⟨_,h0⟩ | ⟨g,cap,cur,h1,_,hh,h2,h3,h4,h5⟩
 ·omega
 ·injection h1 with e1 e2 e3
  subst e3
  refine ⟨g,e1,e2,zd hh,h2,h3,fun j v hv=>?_⟩
  have hj:j<5:=by have:=(List.getElem?_eq_some_iff.1 hv).1;simpa [zC] using this
  rw [cell_of_row w g _ _ _ _ hh,<- Array.getElem?_toList]
  have e:=zgs l k x j hx hj
  rw [<- h5,List.getElem?_take] at e
  rw [if_pos (by omega)] at e
  rw [e];exact hv
theorem uh {w w':World} {g o:Nat} {cs:List Value} (h:w.rangeAt g o cs) (hb:Below w.heap.size w w') (hg:g<w.heap.size):w'.rangeAt g o cs :=
 fun j v hv=>(hb.cell (p:=⟨g,o+j,none⟩) hg).trans (h j v hv)
section
variable {P:Program}
theorem GT {o:Oper} {a:Act} {w:World} {K:Act->World->Prop} {Q:Exit->Act->World->Prop} (f:FuncId) (x:Operand) (xs:Array Operand) (ts:Array TypeId) (args:List Value) (hop:o.op=.call { callee:=.value x,args:=xs,argTypes:=ts }) (hx:a.eval x=.func (.func f) #[] #[])
  (hf : (P.funcs[f]?).map (fun fn => (fn.name == "runtime.NumGoroutine", fn.body.isSome)) = some (false, true)) (hargs : xs.toList.map a.eval = args)
  (h:Calls P f args.toArray w fun e w'=>∃ v,e=.returned v/\K (a.put o.dst v) w'):o.wp P a w K Q:=by
 cases hq:P.funcs[f]? with
 | none=>simp [hq] at hf
 | some fn =>
  simp only [hq,Option.map_some,Option.some.injEq,Prod.mk.injEq] at hf
  have he:=PrintLast.enters_ hq hf.1 hf.2 args.toArray w
  have hmap:xs.map a.eval=args.toArray:=by rw [<- hargs];apply Array.toList_inj.1;rw [Array.toList_map]
  unfold Oper.wp
  have hrun:(execOp a.eval o).run P w=.ok (.enter f args.toArray) w:=by
   unfold execOp
   simp only [hop,resolve,hx,Deferred.ofValue,invoke,Sem.run_bind,Sem.run_pure,Result.andThen_ok]
   rw [show (xs.map (fun x=>a.eval x))=args.toArray from hmap] at *
   simp [he,hmap]
  rw [hrun,Oper.upon_enter]
  refine h.mono fun e w'' hh=>?_
  obtain ⟨v,rfl,hk⟩:=hh
  exact hk
end
def qv (its:List It) (m:Nat) (r:Rw):Bool:=match its[m]? with
 | some x=>vw x.rw r == 0
 | none=>false
theorem zfA (v:Value) (its:List It) (r:Rw) (m:Nat) (w:World) (h:qg w v its) (hl:its.length<=1000) (hm:m<=its.length) (h1:∀ k x,k<m->its[k]?=some x->vw x.rw r<0) (h2:∀ k x,m<=k->its[k]?=some x->¬ vw x.rw r<0) :
  Calls Tryz.prog 154 #[v,.agg #[.int .i64 r.t,.string (za r.k),.string (za r.v)],.func (.func 155) #[] #[]] w fun e w'=>e=.returned (.tuple #[.int .i64 m,.bool (qv its m r)])/\Below w.heap.size w w':=by
 obtain ⟨A,c,rfl⟩:=own_slice h
 obtain ⟨w1,hw1⟩:∃ w1,w1=w.alloc (.cells #[.int .i64 r.t,.string (za r.k),.string (za r.v)] 34):=⟨_,rfl⟩
 have hC:w1.heap[w.heap.size]?=some (.cells #[.int .i64 r.t,.string (za r.k),.string (za r.v)] 34 (0,0)):=by rw [hw1];exact zk _ _ rfl
 have hB:Below w.heap.size w w1:=by rw [hw1];exact B_alloc (Below.refl _ _) _
 obtain ⟨H,HC,HB,H1,H2,HL⟩:=zi6 h hC hB h1 h2 hl
 clear h hC hB h1 h2
 go_enter Tryz.func154,Tryz.ntmps154
 go_upto_region 1 with fail
 rw [<- hw1]
 clear hw1
 go_upto_region 3 with fail
 trace_state
 go_loopw [9,10,11] (fun a b _ wr=>∃ i j:Nat,i<=m/\m<=j/\j<=its.length/\a=.int .i64 i/\b=.int .i64 j/\Below w1.heap.size w1 wr) (fun a b _ _=>(intOf b-intOf a).toNat)
 case atStart=>exact ⟨0,its.length,by omega,hm,Nat.le_refl _,rfl,rfl,Below.refl _ _⟩
 case round =>
  obtain ⟨i,j,hi,hmj,hj,rfl,rfl,hbl⟩:=hrel
  have HBL:=hid hbl
  have HLI:=hid (zi H.out (fun x hx=>(B_call HB.out hbl).block x (H.out.lt x hx).2))
  have HCR:=hid (zb HC.out hbl (zd HC.out))
  clear hbl
  by_cases hij:i<j
  ·have hiji:(i:Int)<(j:Int):=by omega
   obtain ⟨q,hq⟩:∃ q,q=(i+j) / 2:=⟨_,rfl⟩
   have hqi:i<=q:=by omega
   have hqj:q<j:=by omega
   have x1:IntKind.i64.wrap ((i:Int)+(j:Int))=(i:Int)+(j:Int):=by rw [IntKind.wrap_i64];omega
   have HQ:=hid hq
   clear hq
   go_upto_region 5 with fail
   have hqI:((i:Int)+(j:Int)) / 2=(q:Int):=by have:=HQ.out;omega
   rw [hqI]
   obtain ⟨x,hx⟩:∃ x,its[q]?=some x:=⟨_,List.getElem?_eq_getElem (by omega)⟩
   obtain ⟨g,rfl,_,hg,_,_,hrng⟩:=qg.range (w:=wr) HLI.out hx
   have q0:(0:Int)<=(q:Int):=by omega
   have q1:(q:Int)<(its.length:Int):=by omega
   have x2:IntKind.i64.wrap ((q:Int)+1)=(q:Int)+1:=by rw [IntKind.wrap_i64];omega
   have hS:wr.drew.rangeAt g (q*5) (zC x)/\wr.drew.heap[w.heap.size]?=some (.cells #[.int .i64 r.t,.string (za r.k),.string (za r.v)] 34 (0,0)):=⟨hrng,HCR.out⟩
   have HX:=hid hx
   have hltc:w.heap.size<wr.drew.heap.size:=zd (show wr.drew.heap[w.heap.size]?=_ from HCR.out)
   have hg':g<wr.drew.heap.size:=hg
   clear hrng hx hqI
   by_cases hc:QW (x.rw.t:Int) (za x.rw.k) (r.t:Int) (za r.k)<0
   ·have hqm:q<m:=Nat.lt_of_not_le (fun h9=>by have h7:=H2.out q x h9 HX.out;have h8:vw x.rw r<0:=hc;omega)
    refine wp_region_noPanic ?_
    refine PrintLast.start_ (n:=8) (S:=(fun w'=>w'.rangeAt g (q*5) (zC x)/\w'.heap[w.heap.size]?=some (.cells #[.int .i64 r.t,.string (za r.k),.string (za r.v)] 34 (0,0)))) (ds:=[]) (bA 8 0) (by kernel_rfl) rfl (by kernel_rfl) hS (fun hHeld=>?_)
    refine pu 0 24 8 1 rfl rfl ?_
    refine pu 1 25 8 3 rfl rfl ?_
    refine pu 2 26 8 7 rfl rfl ?_
    refine pu 3 27 8 15 rfl rfl ?_
    refine tk 4 28 8 31 rfl rfl (yieldsIf_load_mid (by rfl) 136 (.tmp 27) rfl g (q*5) (by rfl) (zC x) _ (fun _ h=>h.1) Tryz.underlying136 rfl (by kernel_rfl)) ?_
    refine tk 5 29 8 63 rfl rfl (qE 34 (.tmp 4) rfl (by rfl) w.heap.size (by rfl) 34 #[.int .i64 r.t,.string (za r.k),.string (za r.v)] (0,0) _ (fun _ h=>h.2) Tryz.underlying34 rfl (by kernel_rfl)) ?_
    refine on 6 8 127 (some 30) rfl rfl (fun K hK=>?_)
    show Oper.wp _ ⟨some 30,_,_,_,_,_⟩ _ _ _ _
    refine GT 155 (.tmp 24) _ _ [.agg (zC x).toArray,.agg #[.int .i64 r.t,.string (za r.k),.string (za r.v)]] rfl (by rfl) (by kernel_rfl) (by rfl) ((zaF _ _ _ _ _ _ _ _ _).mono ?_)
    rintro e1 w5 ⟨rfl,hb5⟩
    refine ⟨_,rfl,?_⟩
    refine hK.out _ _ ⟨uh hHeld.1 hb5 hg',zb hHeld.2 hb5 hltc⟩ (fun hHeld=>?_)
    clear hK K
    try simp only [pS]
    refine pu 7 31 8 255 rfl rfl ?_
    refine PrintLast.done_ (by kernel_rfl) ?_
    refine NoPanic.normal ?_
    have HB5:=hid (B_call HBL.out (yO hb5))
    clear hb5 hS hHeld
    go_wp2_with fail
    go_roundw
    case rel=>exact ⟨q+1,j,by omega,hmj,hj,by simp,rfl,HB5.out⟩
    case measure=>simp [intOf];omega
   ·have hqm:m<=q:=Nat.le_of_not_lt (fun h9=>by have h7:=H1.out q x h9 HX.out;have h8:¬ vw x.rw r<0:=hc;omega)
    refine wp_region_noPanic ?_
    refine PrintLast.start_ (n:=8) (S:=(fun w'=>w'.rangeAt g (q*5) (zC x)/\w'.heap[w.heap.size]?=some (.cells #[.int .i64 r.t,.string (za r.k),.string (za r.v)] 34 (0,0)))) (ds:=[]) (bA 8 0) (by kernel_rfl) rfl (by kernel_rfl) hS (fun hHeld=>?_)
    refine pu 0 24 8 1 rfl rfl ?_
    refine pu 1 25 8 3 rfl rfl ?_
    refine pu 2 26 8 7 rfl rfl ?_
    refine pu 3 27 8 15 rfl rfl ?_
    refine tk 4 28 8 31 rfl rfl (yieldsIf_load_mid (by rfl) 136 (.tmp 27) rfl g (q*5) (by rfl) (zC x) _ (fun _ h=>h.1) Tryz.underlying136 rfl (by kernel_rfl)) ?_
    refine tk 5 29 8 63 rfl rfl (qE 34 (.tmp 4) rfl (by rfl) w.heap.size (by rfl) 34 #[.int .i64 r.t,.string (za r.k),.string (za r.v)] (0,0) _ (fun _ h=>h.2) Tryz.underlying34 rfl (by kernel_rfl)) ?_
    refine on 6 8 127 (some 30) rfl rfl (fun K hK=>?_)
    show Oper.wp _ ⟨some 30,_,_,_,_,_⟩ _ _ _ _
    refine GT 155 (.tmp 24) _ _ [.agg (zC x).toArray,.agg #[.int .i64 r.t,.string (za r.k),.string (za r.v)]] rfl (by rfl) (by kernel_rfl) (by rfl) ((zaF _ _ _ _ _ _ _ _ _).mono ?_)
    rintro e1 w5 ⟨rfl,hb5⟩
    refine ⟨_,rfl,?_⟩
    refine hK.out _ _ ⟨uh hHeld.1 hb5 hg',zb hHeld.2 hb5 hltc⟩ (fun hHeld=>?_)
    clear hK K
    try simp only [pS]
    refine pu 7 31 8 255 rfl rfl ?_
    refine PrintLast.done_ (by kernel_rfl) ?_
    refine NoPanic.normal ?_
    have HB5:=hid (B_call HBL.out (yO hb5))
    clear hb5 hS hHeld
    go_wp2_with fail
    go_roundw
    case rel=>exact ⟨i,q,hi,hqm,by omega,rfl,rfl,HB5.out⟩
    case measure=>simp [intOf];omega
  ·have hij':¬ ((i:Int)<(j:Int)):=by omega
   have him:i=m:=by omega
   have hjm:j=m:=by omega
   subst him
   go_upto_region 8 with fail
   by_cases hlt:i<its.length
   ·obtain ⟨x,hx⟩:∃ x,its[i]?=some x:=⟨_,List.getElem?_eq_getElem hlt⟩
    obtain ⟨g,rfl,_,hg,_,_,hrng⟩:=qg.range (w:=wr) HLI.out hx
    have q0:(0:Int)<=(i:Int):=by omega
    have q1:(i:Int)<(its.length:Int):=by omega
    have hS:wr.drew.rangeAt g (i*5) (zC x)/\wr.drew.heap[w.heap.size]?=some (.cells #[.int .i64 r.t,.string (za r.k),.string (za r.v)] 34 (0,0)):=⟨hrng,HCR.out⟩
    have HX:=hid hx
    have hltc:w.heap.size<wr.drew.heap.size:=zd (show wr.drew.heap[w.heap.size]?=_ from HCR.out)
    have hg':g<wr.drew.heap.size:=hg
    clear hrng hx
    refine wp_region_noPanic ?_
    refine PrintLast.start_ (n:=16) (S:=(fun w'=>w'.rangeAt g (i*5) (zC x)/\w'.heap[w.heap.size]?=some (.cells #[.int .i64 r.t,.string (za r.k),.string (za r.v)] 34 (0,0)))) (ds:=[]) (bA 16 0) (by kernel_rfl) rfl (by kernel_rfl) hS (fun hHeld=>?_)
    refine pu 0 35 16 1 rfl rfl ?_
    refine pu 1 36 16 3 rfl rfl ?_
    refine pu 2 37 16 7 rfl rfl ?_
    refine pu 3 38 16 15 rfl rfl ?_
    refine pu 4 39 16 31 rfl rfl ?_
    refine pu 5 40 16 63 rfl rfl ?_
    refine pu 6 41 16 127 rfl rfl ?_
    refine pu 7 42 16 255 rfl rfl ?_
    refine pu 8 43 16 511 rfl rfl ?_
    refine tk 9 44 16 1023 rfl rfl (yieldsIf_load_mid (by rfl) 136 (.tmp 43) rfl g (i*5) (by rfl) (zC x) _ (fun _ h=>h.1) Tryz.underlying136 rfl (by kernel_rfl)) ?_
    refine tk 10 45 16 2047 rfl rfl (qE 34 (.tmp 4) rfl (by rfl) w.heap.size (by rfl) 34 #[.int .i64 r.t,.string (za r.k),.string (za r.v)] (0,0) _ (fun _ h=>h.2) Tryz.underlying34 rfl (by kernel_rfl)) ?_
    refine on 11 16 4095 (some 46) rfl rfl (fun K hK=>?_)
    show Oper.wp _ ⟨some 46,_,_,_,_,_⟩ _ _ _ _
    refine GT 155 (.tmp 40) _ _ [.agg (zC x).toArray,.agg #[.int .i64 r.t,.string (za r.k),.string (za r.v)]] rfl (by rfl) (by kernel_rfl) (by rfl) ((zaF _ _ _ _ _ _ _ _ _).mono ?_)
    rintro e1 w5 ⟨rfl,hb5⟩
    refine ⟨_,rfl,?_⟩
    refine hK.out _ _ ⟨uh hHeld.1 hb5 hg',zb hHeld.2 hb5 hltc⟩ (fun hHeld=>?_)
    clear hK K
    try simp only [pS]
    refine pu 12 47 16 8191 rfl rfl ?_
    refine pu 13 48 16 16383 rfl rfl ?_
    refine pu 14 6 16 32767 rfl rfl ?_
    refine pu 15 7 16 65535 rfl rfl ?_
    refine PrintLast.done_ (by kernel_rfl) ?_
    refine NoPanic.normal ?_
    have HB5:=hid (B_call HB.out (B_call HBL.out (yO hb5)))
    clear hb5 hS hHeld
    go_wp2_with fail
    go_ret2
    refine ⟨?_,HB5.out⟩
    rw [show qv its i r=(vw x.rw r == 0) by simp [qv,HX.out]]
    rfl
   ·have hnone:its[i]?=none:=List.getElem?_eq_none (by omega)
    have q1:¬ ((i:Int)<(its.length:Int)):=by omega
    have HNO:=hid hnone
    clear hnone
    have HBF:=hid (B_call HB.out HBL.out.drew)
    refine wp_region_noPanic ?_
    refine PrintLast.start_ (n:=16) (S:=(fun _=>True)) (ds:=[]) (bA 16 0) (by kernel_rfl) rfl (by kernel_rfl) trivial (fun hHeld=>?_)
    refine pu 0 35 16 1 rfl rfl ?_
    refine pu 1 36 16 3 rfl rfl ?_
    refine pu 2 37 16 7 rfl rfl ?_
    refine pu 3 38 16 15 rfl rfl ?_
    refine pu 4 39 16 31 rfl rfl ?_
    refine PrintLast.pure_ (i:=5) (N:=some 40) (v:=_) (bA 16 63) rfl rfl (by kernel_rfl) (fun _ _ _ h=>h) (Or.inr ⟨by rfl,rfl⟩) rfl ?_
    try simp only [pS]
    refine PrintLast.pure_ (i:=6) (N:=some 41) (v:=_) (bA 16 127) rfl rfl (by kernel_rfl) (fun _ _ _ h=>h) (Or.inr ⟨by rfl,rfl⟩) rfl ?_
    try simp only [pS]
    refine PrintLast.pure_ (i:=7) (N:=some 42) (v:=_) (bA 16 255) rfl rfl (by kernel_rfl) (fun _ _ _ h=>h) (Or.inr ⟨by rfl,rfl⟩) rfl ?_
    try simp only [pS]
    refine PrintLast.pure_ (i:=8) (N:=some 43) (v:=_) (bA 16 511) rfl rfl (by kernel_rfl) (fun _ _ _ h=>h) (Or.inr ⟨by rfl,rfl⟩) rfl ?_
    try simp only [pS]
    refine tk 9 44 16 1023 rfl rfl (Or.inr ⟨by rfl,rfl⟩) ?_
    refine tk 10 45 16 2047 rfl rfl (Or.inr ⟨by rfl,rfl⟩) ?_
    refine PrintLast.one_ (i:=11) (N:=some 46) (bA 16 4095) rfl rfl (by kernel_rfl) (by simp) (fun K hK=>?_)
    rw [if_neg (by rw [show Region.wanted _ (yielded _ _)=false from rfl];simp)]
    refine hK.out _ _ (by assumption) (fun hHeld=>?_)
    clear hK K
    try simp only [pS]
    refine PrintLast.pure_ (i:=12) (N:=some 47) (v:=_) (bA 16 8191) rfl rfl (by kernel_rfl) (fun _ _ _ h=>h) (Or.inr ⟨by rfl,rfl⟩) rfl ?_
    try simp only [pS]
    refine pu 13 48 16 16383 rfl rfl ?_
    refine pu 14 6 16 32767 rfl rfl ?_
    refine pu 15 7 16 65535 rfl rfl ?_
    refine PrintLast.done_ (by kernel_rfl) ?_
    refine NoPanic.normal ?_
    go_wp2_with fail
    go_ret2
    refine ⟨?_,HBF.out⟩
    rw [show qv its i r=false by simp [qv,HNO.out]]
    rfl
end
structure Cut (its:List It) (r:Rw) (m:Nat):Prop where
 le:m<=its.length
 lo:∀ k x,k<m->its[k]?=some x->vw x.rw r<0
 hi:∀ k x,m<=k->its[k]?=some x->¬ vw x.rw r<0
theorem ZP {w:World} {p:Addr} {v:Value} (h:w.cell? p=some v):p.block<w.heap.size:=by
 unfold World.cell? at h
 cases hb:w.heap[p.block]? with
 | none=>simp [hb] at h
 | some x=>exact zd hb
theorem zco (X o:Nat) (v:Value) (its:List It) (r:Rw) (m:Nat) (w:World) (hx:w.cell? ⟨X,o,none⟩=some v) (h:qg w v its) (hl:its.length<=1000) (hc:Cut its r m) :
  Calls Tryz.prog 131 #[.pointer (some ⟨X,o,none⟩),.agg #[.int .i64 r.t,.string (za r.k),.string (za r.v)]] w fun e w'=>e=.returned (.tuple #[.int .i64 m,.bool (qv its m r)])/\Below w.heap.size w w':=by
 obtain ⟨A,c,rfl⟩:=own_slice h
 obtain ⟨w1,hw1⟩:∃ w1,w1=w.alloc (.cells #[.int .i64 r.t,.string (za r.k),.string (za r.v)] 34):=⟨_,rfl⟩
 have hC:w1.heap[w.heap.size]?=some (.cells #[.int .i64 r.t,.string (za r.k),.string (za r.v)] 34 (0,0)):=by rw [hw1];exact zk _ _ rfl
 have hB:Below w.heap.size w w1:=by rw [hw1];exact B_alloc (Below.refl _ _) _
 have hxl:X<w.heap.size:=ZP hx
 have hx1:w1.cell? ⟨X,o,none⟩=some (.slice A its.length c):=qk hx hB hxl
 have h1:qg w1 (.slice A its.length c) its:=zi h (fun k hk=>hB.block k (h.lt k hk).2)
 have hs:=zfA _ its r m w1.drew h1 hl hc.le hc.lo hc.hi
 obtain ⟨HS,HB⟩:=zi2 hs hB
 have hS:w1.drew.cell? ⟨X,o,none⟩=some (.slice A its.length c)/\w1.drew.heap[w.heap.size]?=some (.cells #[.int .i64 r.t,.string (za r.k),.string (za r.v)] 34 (0,0)):=⟨hx1,hC⟩
 clear hs hB h h1 hC hx hx1
 go_enter Tryz.func131,Tryz.ntmps131
 go_upto_region 1 with fail
 rw [<- hw1]
 clear hw1
 refine wp_region_noPanic ?_
 refine PrintLast.start_ (n:=10) (S:=(fun w'=>w'.cell? ⟨X,o,none⟩=some (.slice A its.length c)/\w'.heap[w.heap.size]?=some (.cells #[.int .i64 r.t,.string (za r.k),.string (za r.v)] 34 (0,0)))) (ds:=[5]) (bA 10 0) (by kernel_rfl) rfl (by kernel_rfl) hS (fun hHeld=>?_)
 refine pu 0 6 10 1 rfl rfl ?_
 refine pu 1 7 10 3 rfl rfl ?_
 refine pu 2 8 10 7 rfl rfl ?_
 refine tq 3 9 10 15 rfl rfl ?_
 refine tk 4 10 10 31 rfl rfl (qE 34 (.tmp 3) rfl (by rfl) w.heap.size (by rfl) 34 #[.int .i64 r.t,.string (za r.k),.string (za r.v)] (0,0) _ (fun _ h=>h.2) Tryz.underlying34 rfl (by kernel_rfl)) ?_
 refine la 5 10 63 (some 11) rfl rfl (fun K hK=>?_)
 show Oper.wp _ ⟨some 11,_,_,_,_,_⟩ _ _ _ _
 refine zq 154 _ _ [.slice A its.length c,.agg #[.int .i64 r.t,.string (za r.k),.string (za r.v)],.func (.func 155) #[] #[]] rfl (by kernel_rfl) (by rfl) (HS.out.mono ?_)
 rintro e1 w5 ⟨rfl,hb5⟩
 refine ⟨_,rfl,?_⟩
 refine hK.out _ _ ?_
 clear hK K
 try simp only [pS]
 refine pu 6 12 10 127 rfl rfl ?_
 refine pu 7 13 10 255 rfl rfl ?_
 refine pu 8 4 10 511 rfl rfl ?_
 refine pu 9 5 10 1023 rfl rfl ?_
 refine PrintLast.done_ (by kernel_rfl) ?_
 refine NoPanic.normal ?_
 have HB5:=hid (B_call HB.out (yO hb5))
 clear hb5 hS hHeld
 go_wp2_with fail
 go_ret2
 exact ⟨rfl,HB5.out⟩
def zkB:Value:=.agg #[.int .i64 0,.string { data:=#[] },.string { data:=#[] },.int .i64 0,.int .i64 0]
def Jv (its:List It) (r:Rw) (m:Nat):Value × Bool:=match its[m]? with
 | some x=>if vw x.rw r=0 then (.agg (zC x).toArray,true) else (zkB,false)
 | none=>(zkB,false)
theorem zid (X o t:Nat) (k:List UInt8) (v:Value) (its:List It) (m:Nat) (w:World) (hx:w.cell? ⟨X,o,none⟩=some v) (h:qg w v its) (hl:its.length<=1000) (hc:Cut its ⟨t,k,[]⟩ m) :
  Calls Tryz.prog 90 #[.pointer (some ⟨X,o,none⟩),.int .i64 t,.string (za k)] w fun e w'=>e=.returned (.tuple #[(Jv its ⟨t,k,[]⟩ m).1,.bool (Jv its ⟨t,k,[]⟩ m).2])/\Below w.heap.size w w':=by
 obtain ⟨w1,hw1⟩:∃ w1,w1=w.alloc (.cells #[.int .i64 0,.string { data:=#[] },.string { data:=#[] },.int .i64 0,.int .i64 0] 136):=⟨_,rfl⟩
 have hC:w1.heap[w.heap.size]?=some (.cells #[.int .i64 0,.string { data:=#[] },.string { data:=#[] },.int .i64 0,.int .i64 0] 136 (0,0)):=by rw [hw1];exact zk _ _ rfl
 have hB:Below w.heap.size w w1:=by rw [hw1];exact B_alloc (Below.refl _ _) _
 have hxl:X<w.heap.size:=ZP hx
 have hx1:w1.cell? ⟨X,o,none⟩=some v:=qk hx hB hxl
 have h1:qg w1 v its:=zi h (fun k hk=>hB.block k (h.lt k hk).2)
 have hat:=zco X o v its ⟨t,k,[]⟩ m w1 hx1 h1 hl hc
 obtain ⟨HAT,HB,HC,H1⟩:=zi4 hat hB hC h1
 clear hat hB hC h h1 hx
 go_enter Tryz.func90,Tryz.ntmps90
 go_upto_region 1 with fail
 rw [<- hw1]
 clear hw1
 go_upto_region 4 with (go_at_call 131;refine HAT.out.mono ?_;rintro e1 w2 ⟨rfl,hb2⟩)
 have hC2:=zb HC.out hb2 (zd HC.out)
 have HC2:=hid hC2
 have HBE:=hid (B_call HB.out hb2)
 have HB2:=hid hb2
 cases hf:qv its m ⟨t,k,[]⟩ with
 | false =>
  have hfv:Jv its ⟨t,k,[]⟩ m=(zkB,false):=by
   unfold Jv
   unfold qv at hf
   cases hx:its[m]? with
   | none=>rfl
   | some x=>rw [hx] at hf;simp only at hf ⊢;rw [if_neg (by simpa using hf)]
  have HFV:=hid hfv
  clear hb2 hC2 hfv hx1 hxl
  go_wp2_with (show wpList _ _ _ (⟨none,.store 136 (.tmp 6) (.tmp 23),_,_,_,_⟩::_) _ _;refine wpList_store_row (o:=⟨none,.store 136 (.tmp 6) (.tmp 23),_,_,_,_⟩) rfl 136 (.tmp 6) (.tmp 23) rfl w.heap.size #[.int .i64 0,.string { data:=#[] },.string { data:=#[] },.int .i64 0,.int .i64 0] (by rfl) (by rfl) 136 _ HC2.out (by kernel_rfl) (by rfl) (by simp [Value.oneCell']) ?_)
  rw [HFV.out]
  refine jO 6 7 136 rfl rfl w.heap.size 136 #[.int .i64 0,.string { data:=#[] },.string { data:=#[] },.int .i64 0,.int .i64 0] (0,0) _ (.bool false) rfl rfl (setRow_heap _ _ _ _ _ _ HC2.out) Tryz.underlying136 rfl (by kernel_rfl) ⟨rfl,below_setRow HBE.out (Nat.le_refl _) _⟩
 | true =>
  obtain ⟨x,hx,hcx⟩:∃ x,its[m]?=some x/\vw x.rw ⟨t,k,[]⟩=0:=by
   unfold qv at hf
   cases hx:its[m]? with
   | none=>rw [hx] at hf;cases hf
   | some x=>rw [hx] at hf;exact ⟨x,rfl,by simpa using hf⟩
  have hfv:Jv its ⟨t,k,[]⟩ m=(.agg (zC x).toArray,true):=by
   unfold Jv
   rw [hx];simp only;rw [if_pos hcx]
  have hi2:qg w2 v its:=zi H1.out (fun q hq=>hb2.block q (H1.out.lt q hq).2)
  obtain ⟨A,c,rfl⟩:=own_slice hi2
  have hx2:w2.cell? ⟨X,o,none⟩=some (.slice A its.length c):=qk hx1 hb2 (Nat.lt_of_lt_of_le hxl HB.out.size)
  obtain ⟨g,rfl,_,hg,_,_,hrng⟩:=qg.range hi2 hx
  have hml:m<its.length:=(List.getElem?_eq_some_iff.1 hx).1
  have q0:(0:Int)<=(m:Int):=by omega
  have q1:(m:Int)<(its.length:Int):=by omega
  obtain ⟨HFV,HR⟩:=zi2 hfv hrng
  clear hb2 hC2 hfv hx1 hxl hi2 hx hcx hrng
  go_wp2_with (first
   | (show wpList _ _ _ (⟨some 30,_,_,_,_,_⟩::_) _ _;refine zZ rfl _ _ (qy 136 (.tmp 29) rfl g (m*5) (by rfl) (zC x) _ HR.out Tryz.underlying136 rfl (by kernel_rfl)) ?_)
   | (show wpList _ _ _ (⟨none,.store 136 (.tmp 6) (.tmp 30),_,_,_,_⟩::_) _ _;refine wpList_store_row (o:=⟨none,.store 136 (.tmp 6) (.tmp 30),_,_,_,_⟩) rfl 136 (.tmp 6) (.tmp 30) rfl w.heap.size (zC x).toArray (by rfl) (by rfl) 136 _ HC2.out (by kernel_rfl) (by rfl) (by simp [zC,Value.oneCell']) ?_))
  rw [HFV.out]
  refine jO 6 7 136 rfl rfl w.heap.size 136 (zC x).toArray (0,0) _ (.bool true) rfl rfl (setRow_heap _ _ _ _ _ _ HC2.out) Tryz.underlying136 rfl (by kernel_rfl) ⟨rfl,below_setRow HBE.out (Nat.le_refl _) _⟩
theorem ZR (a b:List It):zT (a++b)=zT a++zT b:=by simp [zT]
theorem GK (l:List It) (k:Nat):zT (l.take k)=(zT l).take (k*5):=by
 have h:=ZR (l.take k) (l.drop k)
 rw [List.take_append_drop] at h
 rw [h]
 by_cases hk:k<=l.length
 ·rw [List.take_left' (by rw [yK,List.length_take,Nat.min_eq_left hk])]
 ·rw [List.take_of_length_le (by omega),List.drop_of_length_le (by omega)]
  simp only [zT,List.flatMap_nil,List.append_nil]
  rw [List.take_of_length_le (by have:=yK l;unfold zT at this;omega)]
theorem GJ (l:List It) (k:Nat):zT (l.drop k)=(zT l).drop (k*5):=by
 have h:=ZR (l.take k) (l.drop k)
 rw [List.take_append_drop] at h
 by_cases hk:k<=l.length
 ·rw [h,List.drop_left' (by rw [yK,List.length_take,Nat.min_eq_left hk])]
 ·rw [List.drop_of_length_le (by omega),List.drop_of_length_le (by rw [yK];omega)];rfl
theorem zaK (l:List It):∀ u∈zT l,u.oneCell'=true:=by
 intro u hu
 simp only [zT,List.mem_flatMap] at hu
 obtain ⟨x,_,hx⟩:=hu
 simp only [zC,List.mem_cons,List.not_mem_nil,or_false] at hx
 rcases hx with rfl | rfl | rfl | rfl | rfl<;>rfl
theorem qg.pre {w:World} {g n cap:Nat} {l:List It} (h:qg w (.slice (some ⟨g,0,none⟩) n cap) l) {k:Nat} (hk:k<=l.length):qg w (.slice (some ⟨g,0,none⟩) k cap) (l.take k):=by
 rcases h.2 with ⟨h1,_⟩ | ⟨g',cap',cur,h1,hb,hh,h2,h3,h4,h5⟩
 ·cases h1
 ·injection h1 with e1 e2 e3
  injection e1 with e1
  injection e1 with e1
  subst e1 e3
  have hlk:(l.take k).length=k:=by rw [List.length_take,Nat.min_eq_left hk]
  unfold qg
  rw [hlk]
  refine ⟨by rw [yK,hlk],.inr ⟨g,cap,cur,rfl,hb,hh,by omega,h3,h4,?_⟩⟩
  rw [GK,<- h5,List.take_take,Nat.min_eq_left (by omega)]
theorem JX {P:Program} {o:Oper} {a:Act} {w w1:World} {v vx vy:Value} (x y:Operand) (ts:Array TypeId) (ho:o.op=.call { callee:=.builtin .append,args:=#[x,y],argTypes:=ts }) (hx:a.eval x=vx) (hy:a.eval y=vy)
  (hrun:(Builtin.append_ ts o.type #[vx,vy]).run P w=.ok v w1):(execOp a.eval o).run P w=.ok (.value v) w1:=by
 unfold execOp
 simp [ho,resolve,invoke,builtin,hx,hy,hrun]
theorem zbL {P:Program} {o:Oper} {a:Act} {w w1:World} {v vx:Value} (x:Operand) (ts:Array TypeId) (ho:o.op=.call { callee:=.builtin .clear,args:=#[x],argTypes:=ts }) (hx:a.eval x=vx)
  (hrun:(Builtin.clear_ ts o.type #[vx]).run P w=.ok v w1):(execOp a.eval o).run P w=.ok (.value v) w1:=by
 unfold execOp
 simp [ho,resolve,invoke,builtin,hx,hrun]
def Zf:List Value:=[.int .i64 0,.string { data:=#[] },.string { data:=#[] },.int .i64 0,.int .i64 0]
theorem Gc:(Tryz.prog.info? 136).map (fun i=>(i.zero,i.size,i.bytes))=some (some (.agg Zf.toArray),5,56):=by kernel_rfl
theorem zge {w:World} {g n cap c:Nat} {l:List It} (h:qg w (.slice (some ⟨g,0,none⟩) l.length cap) l) (hn:n=l.length) (hc:n<cap) (ty:TypeId) :
  ∃ w',(Builtin.clear_ #[99] ty #[.slice (some ⟨g,n*5,none⟩) 1 c]).run Tryz.prog w=.ok (.tuple #[]) w'/\qg w' (.slice (some ⟨g,0,none⟩) l.length cap) l/\zr (fun x=>x=g) w w':=by
 subst hn
 obtain ⟨i0,hi,hz0,hz1,hz2⟩:=info_parts Gc
 rcases h.2 with ⟨h1,_⟩ | ⟨g',cap',cur,h1,hb,hh,h2,h3,h4,h5⟩
 ·cases h1
 ·injection h1 with e1 e2 e3
  injection e1 with e1
  injection e1 with e1
  subst e1 e3
  have hst:=run_storeCells_at Tryz.prog g (l.length*5) 136 Zf 0 cur w hh (by simp [Zf];omega) (by intro v hv;simp [Zf] at hv;rcases hv with rfl | rfl | rfl<;>rfl)
  simp only [Nat.add_zero] at hst
  refine ⟨_,?_,?_,(zr.refl (fun x=>x=g) w).setRow (.inl rfl) (List.take (l.length*5) cur.toList++Zf++List.drop (l.length*5+Zf.length) cur.toList).toArray⟩
  ·have hzc:(Builtin.zeroCells (Value.agg Zf.toArray).cells 1).toList=Zf:=by kernel_rfl
   simp [Builtin.clear_,run_underlying Tryz.underlying99,zeroValue,typeInfo,hi,hz0,hzc,hst]
  ·refine ⟨h.1,.inr ⟨g,cap,_,rfl,Nat.zero_le _,setRow_heap w g cur _ 136 _ hh,h2,h3,?_,?_⟩⟩
   ·simp only [List.size_toArray,List.length_append,List.length_take,List.length_drop,Array.length_toList,Zf,List.length_cons,List.length_nil];omega
   ·rw [List.append_assoc,List.take_left' (by have h6:cur.toList.length=cap*5:=(by simpa using h4);rw [List.length_take];omega)]
    exact h5
theorem zeR (g i cap:Nat) (its:List It) (w:World) (h:qg w (.slice (some ⟨g,0,none⟩) its.length cap) its) (hi:i<its.length) (hl:its.length<=1000) (hcap:its.length<=cap) (hcm:cap<=maxLen) :
  Calls Tryz.prog 156 #[.slice (some ⟨g,0,none⟩) its.length cap,.int .i64 i,.int .i64 ((i:Int)+1)] w fun e w'=>e=.returned (.slice (some ⟨g,0,none⟩) (its.length-1) cap)/\qg w' (.slice (some ⟨g,0,none⟩) (its.length-1) cap) (its.eraseIdx i)/\zr (fun x=>x=g) w w':=by
 obtain ⟨i0,hi0,hz0,hz1,hz2⟩:=info_parts Gc
 obtain ⟨n,hn⟩:∃ n,n=its.length:=⟨_,rfl⟩
 obtain ⟨j1,hj1⟩:∃ j,j=i+1:=⟨_,rfl⟩
 have hj:(i:Int)+1=(j1:Int):=by omega
 rw [hj,<- hn]
 rw [<- hn] at hi hl hcap h
 have q0:(0:Int)<=(i:Int):=by omega
 have q1:(j1:Int)<=(n:Int):=by omega
 have q2:(i:Int)<=(j1:Int):=by omega
 have q2':i<=j1:=by omega
 have q3:(n:Int)<=(cap:Int):=by omega
 have q4:(i:Int)<=(cap:Int):=by omega
 have q6:¬ ((i:Int)=(j1:Int)):=by omega
 have q7:j1<=n:=by omega
 have hlen:(its.drop j1).length=n-j1:=by rw [List.length_drop,hn]
 have hpre:w.ownsRow 0 136 5 (.slice (some ⟨g,0,none⟩) i cap) i (zT (its.take i)):=by
  have:=h
  rw [hn] at this
  have h9:=qg.pre this (k:=i) (by omega)
  unfold qg at h9
  rw [List.length_take,Nat.min_eq_left (by omega)] at h9
  exact h9
 obtain ⟨ad,had⟩:∃ ad:Addr,(if cap=j1 then (some ⟨g,0,none⟩:Option Addr) else some ⟨g,j1*5,none⟩)=some ad:=by split<;>exact ⟨_,rfl⟩
 have hsrc:∀ j u,(zT (its.drop j1))[j]?=some u->w.cell? (ad.add j)=some u:=by
  intro j u hu
  by_cases hc:cap=j1
  ·have:its.drop j1=[]:=List.drop_of_length_le (by omega)
   rw [this] at hu;simp [zT] at hu
  ·rw [if_neg hc] at had
   injection had with had
   subst had
   rw [GJ,List.getElem?_drop] at hu
   rw [Addr.add_mid]
   have hjl:j1*5+j<(zT its).length:=(List.getElem?_eq_some_iff.1 hu).1
   have:=World.ownsRow.cellAt (show w.ownsRow 0 136 5 (.slice (some ⟨g,0,none⟩) its.length cap) its.length (zT its) by have h9:=h;rw [hn] at h9;exact h9) (j1*5+j) (by rw [yK] at hjl;exact hjl)
   rw [this];exact hu
 obtain ⟨n1,hn1⟩:∃ x,x=n-1:=⟨_,rfl⟩
 obtain ⟨w1,hrun,hown1,hg1⟩:=run_append_fits (P:=Tryz.prog) w.drew 0 99 99 136 i0 5 Tryz.underlying99 hi0 hz1 g i cap (zT (its.take i)) hpre ad (n-j1) (cap-j1) (zT (its.drop j1)) (by rw [yK,hlen]) hsrc (zaK _) (by omega)
 rw [<- ZR] at hown1
 have hlast:its.take i++its.drop j1=its.eraseIdx i:=by rw [hj1,List.eraseIdx_eq_take_drop_succ]
 have hn2:i+(n-j1)=n1:=by omega
 rw [hlast,hn2] at hown1
 rw [hn2] at hrun
 have hle:(its.eraseIdx i).length=n1:=by rw [List.length_eraseIdx,if_pos (by omega),hn1,hn]
 have hown1':qg w1 (.slice (some ⟨g,0,none⟩) (its.eraseIdx i).length cap) (its.eraseIdx i):=by unfold qg;rw [hle];exact hown1
 obtain ⟨w2,hclr,hown2,hk2⟩:=zge (n:=n1) (c:=cap-n1) hown1' hle.symm (by omega) 0
 have HK:=hid (((zr.refl (fun x=>x=g) w).drew.grown hg1 (fun k e=>by injection e with e;exact .inl e.symm)).trans hk2 (fun x hx=>.inl hx))
 rw [hle] at hown2
 obtain ⟨HO2,HRUN,HCLR⟩:=zi3 hown2 hrun hclr
 have r1:(n1:Int)<=(n:Int):=by omega
 have r1':n1<=n:=by omega
 have r2:¬ (cap=n1):=by omega
 have r3:n-n1=1:=by omega
 have HAD:=hid had
 rw [<- hn1]
 clear h hn hj1 hj hlen hpre hsrc hrun hown1 hown1' hlast hn1 hn2 hle hclr hown2 hk2 had hg1
 go_enter Tryz.func156,Tryz.ntmps156
 go_upto_region 5 with fail
 by_cases hc:cap=j1
 ·have had:=HAD.out
  rw [if_pos hc] at had
  injection had with had
  subst had
  subst hc
  have hrun:=HRUN.out
  rw [show n-cap=0 by omega,Nat.sub_self] at hrun
  have HRUN:=hid hrun
  clear hrun
  refine wp_region_noPanic ?_
  refine PrintLast.start_ (n:=8) (S:=(fun _=>True)) (ds:=[]) (bA 8 0) (by kernel_rfl) rfl (by kernel_rfl) trivial (fun hHeld=>?_)
  refine pu 0 20 8 1 rfl rfl ?_
  refine pu 1 21 8 3 rfl rfl ?_
  refine pu 2 22 8 7 rfl rfl ?_
  refine pu 3 23 8 15 rfl rfl ?_
  refine pu 4 24 8 31 rfl rfl ?_
  refine pu 5 25 8 63 rfl rfl ?_
  refine on 6 8 127 (some 26) rfl rfl (fun K hK=>?_)
  show Oper.wp _ ⟨some 26,_,_,_,_,_⟩ _ _ _ _
  refine vu (JX (.tmp 22) (.tmp 25) #[99,99] rfl (by rfl) (by rfl) HRUN.out) ?_
  refine hK.out _ _ trivial (fun hHeld=>?_)
  clear hK K
  try simp only [pS]
  refine pu 7 0 8 255 rfl rfl ?_
  refine PrintLast.done_ (by kernel_rfl) ?_
  refine NoPanic.normal ?_
  clear hHeld
  go_wp2_with (show wpList _ _ _ (⟨none,.call _,_,_,_,_⟩::_) _ _;refine zZ rfl _ _ (zbL (.tmp 31) #[99] rfl (by rfl) HCLR.out) ?_)
  go_ret
  exact ⟨rfl,HO2.out,HK.out⟩
 ·have had:=HAD.out
  rw [if_neg hc] at had
  injection had with had
  subst had
  refine wp_region_noPanic ?_
  refine PrintLast.start_ (n:=8) (S:=(fun _=>True)) (ds:=[]) (bA 8 0) (by kernel_rfl) rfl (by kernel_rfl) trivial (fun hHeld=>?_)
  refine pu 0 20 8 1 rfl rfl ?_
  refine pu 1 21 8 3 rfl rfl ?_
  refine pu 2 22 8 7 rfl rfl ?_
  refine pu 3 23 8 15 rfl rfl ?_
  refine pu 4 24 8 31 rfl rfl ?_
  refine pu 5 25 8 63 rfl rfl ?_
  refine on 6 8 127 (some 26) rfl rfl (fun K hK=>?_)
  show Oper.wp _ ⟨some 26,_,_,_,_,_⟩ _ _ _ _
  refine vu (JX (.tmp 22) (.tmp 25) #[99,99] rfl (by rfl) (by rfl) HRUN.out) ?_
  refine hK.out _ _ trivial (fun hHeld=>?_)
  clear hK K
  try simp only [pS]
  refine pu 7 0 8 255 rfl rfl ?_
  refine PrintLast.done_ (by kernel_rfl) ?_
  refine NoPanic.normal ?_
  clear hHeld
  go_wp2_with (show wpList _ _ _ (⟨none,.call _,_,_,_,_⟩::_) _ _;refine zZ rfl _ _ (zbL (.tmp 31) #[99] rfl (by rfl) HCLR.out) ?_)
  go_ret
  exact ⟨rfl,HO2.out,HK.out⟩
structure QG (w:World) (X o:Nat) (v:Value) (its:List It):Prop where
 ex:∃ C T,w.heap[X]?=some (.cells C T (0,0))/\C[o]?=some v
 its:qg w v its
 ne:v.ownBlock≠some X
theorem QG.cell {w:World} {X o:Nat} {v:Value} {its:List It} (h:QG w X o v its):w.cell? ⟨X,o,none⟩=some v:=by
 obtain ⟨C,T,h1,h2⟩:=h.ex
 rw [cell_of_row w X o C T _ h1];exact h2
theorem QG.frozen {w:World} {X o:Nat} {v:Value} {its:List It} (h:QG w X o v its):w.frozen? ⟨X,o,none⟩=false:=by
 obtain ⟨C,T,h1,_⟩:=h.ex
 exact frozen_of_row w X o C T h1
def uI (its:List It) (m:Nat) (r:Rw):List It:=if qv its m r then its.eraseIdx m else its
theorem zfq (X o t:Nat) (k:List UInt8) (v:Value) (its:List It) (m:Nat) (w:World) (h:QG w X o v its) (hl:its.length<=1000) (hc:Cut its ⟨t,k,[]⟩ m) :
  Calls Tryz.prog 138 #[.pointer (some ⟨X,o,none⟩),.int .i64 t,.string (za k)] w fun e w'=>e=.returned (.tuple #[])/\∃ w0 v',(w'=w0/\v'=v∨w'=w0.setCell ⟨X,o,none⟩ v')/\zr (fun x=>v.ownBlock=some x) w w0/\v'.ownBlock=v.ownBlock/\qg w0 v' (uI its m ⟨t,k,[]⟩):=by
 have hat:=zco X o v its ⟨t,k,[]⟩ m w h.cell h.its hl hc
 have hXl:X<w.heap.size:=ZP h.cell
 obtain ⟨H,HAT⟩:=zi2 h hat
 clear h hat
 cases hf:qv its m ⟨t,k,[]⟩ with
 | false =>
  have hr:uI its m ⟨t,k,[]⟩=its:=by simp [uI,hf]
  have HR:=hid hr
  clear hr
  go_enter Tryz.func138,Tryz.ntmps138
  go_wp2_with (go_at_call 131;refine HAT.out.mono ?_;rintro e1 w2 ⟨rfl,hb2⟩)
  refine uN rfl rfl ?_
  refine ⟨rfl,w2,v,.inl ⟨rfl,rfl⟩,zr.of_below hb2,rfl,?_⟩
  rw [HR.out]
  exact zi H.out.its (fun q hq=>hb2.block q (H.out.its.lt q hq).2)
 | true =>
  have hr:uI its m ⟨t,k,[]⟩=its.eraseIdx m:=by simp [uI,hf]
  have hm:m<its.length:=by
   unfold qv at hf
   cases hx:its[m]? with
   | none=>rw [hx] at hf;cases hf
   | some x=>exact (List.getElem?_eq_some_iff.1 hx).1
  have HR:=hid hr
  clear hr
  go_enter Tryz.func138,Tryz.ntmps138
  go_upto_region 3 with (go_at_call 131;refine HAT.out.mono ?_;rintro e1 w2 ⟨rfl,hb2⟩)
  have hi2:qg w2 v its:=zi H.out.its (fun q hq=>hb2.block q (H.out.its.lt q hq).2)
  obtain ⟨A,c,rfl⟩:=own_slice hi2
  have hx2:w2.cell? ⟨X,o,none⟩=some (.slice A its.length c):=qk H.out.cell hb2 hXl
  obtain ⟨x,hx⟩:∃ x,its[m]?=some x:=⟨_,List.getElem?_eq_getElem hm⟩
  obtain ⟨g,rfl,_,hg,hcap,hcm,_⟩:=qg.range hi2 hx
  have hdel:=zeR g m c its w2 hi2 hm hl hcap hcm
  have hgX:X≠g:=fun e=>H.out.ne (by rw [e];rfl)
  obtain ⟨HDEL,HB2⟩:=zi2 hdel hb2
  have x1:IntKind.i64.wrap ((m:Int)+1)=(m:Int)+1:=by rw [IntKind.wrap_i64];omega
  have hf2:w2.frozen? ⟨X,o,none⟩=false:=by
   rw [World.frozen?_of_block (a:=⟨X,o,none⟩) (hb2.block X hXl)];exact H.out.frozen
  obtain ⟨HF2,HX2⟩:=zi2 hf2 hx2
  clear hdel hb2 hi2 hx hf2
  go_upto_region 99 with (go_at_call 156;(with_reducible refine HDEL.out.mono ?_);rintro e1 w3 ⟨rfl,hown3,hk3⟩;have hx3:=ue HX2.out hk3 hgX;have hf3:=(World.frozen?_of_block (a:=⟨X,o,none⟩) (hk3.block X (ZP HX2.out) hgX)).trans HF2.out)
  refine uN rfl rfl ?_
  refine ⟨rfl,w3,.slice (some ⟨g,0,none⟩) (its.length-1) c,.inr rfl,?_,rfl,?_⟩
  ·exact (zr.of_below (M:=fun x=>Value.ownBlock (.slice (some ⟨g,0,none⟩) its.length c)=some x) HB2.out).trans hk3 (fun x hx=>.inl (by rw [hx];rfl))
  ·rw [HR.out]
   unfold qg
   rw [List.length_eraseIdx,if_pos hm]
   unfold qg at hown3
   rw [List.length_eraseIdx,if_pos hm] at hown3
   exact hown3
theorem KZ:yU Tryz.prog 136 5 56:=.of (by kernel_rfl)
theorem zgK {w:World} {b:Nat} {x:It} (h:w.heap[b]?=some (.cells (zC x).toArray 136 (0,0))):zx w w.heap.size 5 (some ⟨b,0,none⟩) 1 (zC x):=zx.of_list h rfl
theorem uf (x:It):∀ u∈zC x,u.oneCell'=true:=by
 intro u hu
 simp only [zC,List.mem_cons,List.not_mem_nil,or_false] at hu
 rcases hu with rfl | rfl | rfl | rfl | rfl<;>rfl
theorem zii (l:List It) (x:It):zT (l++[x])=zT l++zC x:=by rw [ZR];simp [zT]
theorem zeX (v:Value) (its:List It) (x:It) (b:Nat) (w:World) (h:qg w v its) (hl:its.length<=1000) (hb:w.heap[b]?=some (.cells (zC x).toArray 136 (0,0))) :
  Calls Tryz.prog 150 #[v,.int .i64 its.length,.slice (some ⟨b,0,none⟩) 1 1] w fun e w'=>∃ v',e=.returned v'/\qg w' v' (its++[x])/\zr (fun y=>v.ownBlock=some y) w w'/\(v'.ownBlock=v.ownBlock∨v'.ownBlock=some w.heap.size):=by
 have H:=hid h
 have HB:=hid (zgK hb)
 have fin:∀ (v':Value) (w':World),w'.ownsRow 0 136 5 v' (its.length+1) (zT its++zC x)->w.grownBy w' v.ownBlock->qg w' v' (its++[x])/\zr (fun y=>v.ownBlock=some y) w w':=by
  intro v' w' h1 h2
  refine ⟨?_,(zr.refl (fun y=>v.ownBlock=some y) w).grown h2 (fun k e=>.inl e)⟩
  unfold qg
  rw [zii,List.length_append];exact h1
 have FIN:=hid fin
 have hv:(∃ g c,v=.slice (some ⟨g,0,none⟩) its.length c/\its.length<=c)∨(v=.slice none 0 0/\its.length=0):=by
  rcases h.2 with ⟨h1,h0⟩ | ⟨g,cap,cur,h1,_,_,h2,_⟩
  ·exact .inr ⟨h1,h0⟩
  ·exact .inl ⟨g,cap,h1,h2⟩
 clear h hb fin
 rcases hv with ⟨g,c,rfl,hc⟩ | ⟨rfl,h0⟩
 ·obtain ⟨n,hn⟩:∃ n,n=its.length:=⟨_,rfl⟩
  rw [<- hn]
  rw [<- hn] at hc hl
  have q0:(0:Int)<=(n:Int):=by omega
  have q1:(n:Int)<=(c:Int):=by omega
  have HN:=hid hn
  have H2:Hid (w.ownsRow 0 136 5 (.slice (some ⟨g,0,none⟩) n c) n (zT its)):=by have:=H.out;unfold qg at this;rw [<- hn] at this;exact hid this
  clear hn hc
  by_cases hcn:c=n
  ·subst hcn
   go_enter Tryz.func150,Tryz.ntmps150
   go_wp2_with (at_builtin;refine qW rfl (.tmp 23) (.tmp 24) 99 136 5 56 rfl Tryz.underlying99 KZ (by omega) _ _ _ 0 (by rfl) H2.out _ 1 _ _ _ (by rfl) HB.out (uf x) (by omega) (by omega) (Nat.zero_le _) ?_;intro v4 w5 hown5 hg5 ho5)
   go_ret
   rw [HN.out] at hown5 hg5 ho5
   exact ⟨_,rfl,(FIN.out _ _ hown5 hg5).1,by rw [HN.out];exact (FIN.out _ _ hown5 hg5).2,by rw [HN.out];exact ho5⟩
  ·go_enter Tryz.func150,Tryz.ntmps150
   go_wp2_with (at_builtin;refine qW rfl (.tmp 23) (.tmp 24) 99 136 5 56 rfl Tryz.underlying99 KZ (by omega) _ _ _ 0 (by rfl) H2.out _ 1 _ _ _ (by rfl) HB.out (uf x) (by omega) (by omega) (Nat.zero_le _) ?_;intro v4 w5 hown5 hg5 ho5)
   go_ret
   rw [HN.out] at hown5 hg5 ho5
   exact ⟨_,rfl,(FIN.out _ _ hown5 hg5).1,by rw [HN.out];exact (FIN.out _ _ hown5 hg5).2,by rw [HN.out];exact ho5⟩
 ·obtain rfl:its=[]:=List.eq_nil_of_length_eq_zero h0
  have H2:Hid (w.ownsRow 0 136 5 (.slice none 0 0) 0 []):=hid H.out
  go_enter Tryz.func150,Tryz.ntmps150
  go_wp2_with (at_builtin;refine qW rfl (.tmp 23) (.tmp 24) 99 136 5 56 rfl Tryz.underlying99 KZ (by omega) _ _ _ 0 (by rfl) H2.out _ 1 _ _ _ (by rfl) HB.out (uf x) (by omega) (by omega) (Nat.zero_le _) ?_;intro v4 w5 hown5 hg5 ho5)
  go_ret
  exact ⟨_,rfl,(FIN.out _ _ hown5 hg5).1,(FIN.out _ _ hown5 hg5).2,ho5⟩
theorem ZD {P:Program} (w:World) (dT sT ty elem size:Nat) (g o dLen dCap:Nat) (a:Addr) (sLen sCap:Nat) (cur:Array Value) (t:TypeId) (cs:List Value) (m:Nat)
  (hu:P.underlying dT=some (.slice elem)) (hs:(P.info? elem).map (·.size)=some size)
  (hg:w.heap[g]?=some (.cells cur t (0,0))) (hm:m=Nat.min sLen dLen) (hn:cs.length=m*size)
  (hsrc:∀ j v,cs[j]?=some v->w.cell? (a.add j)=some v) (hfit:o+cs.length<=cur.size) (h1:∀ v∈cs,v.oneCell'=true) :
  (Builtin.copy_ #[dT,sT] ty #[.slice (some ⟨g,o,none⟩) dLen dCap,.slice (some a) sLen sCap]).run P w =
   .ok (goInt m) (w.setRow g (cur.toList.take o++cs++cur.toList.drop (o+cs.length)).toArray):=by
 have hst:=run_storeCells_at P g o t cs 0 cur w hg (by simpa using hfit) h1
 cases hq:P.info? elem with
 | none=>simp [hq] at hs
 | some i =>
  have hi:i.size=size:=by simpa [hq] using hs
  have hl:=run_firstCells_some (P:=P) w size m a sLen sCap cs hn hsrc
  simp [Builtin.copy_,run_underlying hu,Builtin.lenOf,sizeOf,typeInfo,hq,hi,<- hm,hl,hst]
theorem zfI (cur T X D:List Value) (k:Nat) (hT:T=cur.take k) (hk:k<=cur.length) (hX:X.length=5) (hfit:k+5+D.length<=cur.length) :
  ((cur.take (k+5)++D++cur.drop (k+5+D.length)).take k++X++(cur.take (k+5)++D++cur.drop (k+5+D.length)).drop (k+X.length)).take (k+5+D.length)=T++X++D:=by
 have h1:(cur.take (k+5)++D++cur.drop (k+5+D.length)).take k=T:=by
  rw [List.append_assoc,List.take_append_of_le_length (by rw [List.length_take];omega),List.take_take,Nat.min_eq_left (by omega),hT]
 have h2:(cur.take (k+5)++D++cur.drop (k+5+D.length)).drop (k+X.length)=D++cur.drop (k+5+D.length):=by
  rw [hX,List.append_assoc,List.drop_left' (by rw [List.length_take];omega)]
 have hTl:T.length=k:=by rw [hT,List.length_take];omega
 rw [h1,h2,<- List.append_assoc,List.take_append_of_le_length (by simp only [List.length_append];omega),List.take_of_length_le (by simp only [List.length_append];omega)]
end Go.Proofs.YtechnoogjhohfaaGreat
