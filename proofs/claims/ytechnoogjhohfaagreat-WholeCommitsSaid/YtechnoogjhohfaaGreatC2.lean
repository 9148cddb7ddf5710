/-
  Joined by a program from texts written one by one: part 2 of the walk through the program and of the law behind it.
-/
import Derived.Test.YtechnoogjhohfaaGreatC1
import Derived.Lib.AppendStr
set_option maxRecDepth 100000
set_option maxHeartbeats 6400000
set_option linter.unusedVariables false
set_option linter.unusedSimpArgs false
namespace Go.Proofs.YtechnoogjhohfaaGreat
open Go.RowKit Go.Lib
theorem B_alloc {a w:World} (h:Below a.heap.size a w) (o:Obj):Below a.heap.size a (w.alloc o):=h.alloc h.size o
theorem B_set {a w:World} (h:Below a.heap.size a w) {p:Addr} (hp:a.heap.size<=p.block) (u:Value):Below a.heap.size a (w.setCell p u):=h.setCell hp u
theorem B_call {a w w':World} (h:Below a.heap.size a w) (k:Below w.heap.size w w'):Below a.heap.size a w':=h.trans (k.mono h.size)
theorem jL {a w w':World} (h:Below a.heap.size a w) {v:Value} {e:TypeId} {s n:Nat} {xs:List Value} (hown:w.ownsRow a.heap.size e s v n xs) (hg:w.grownBy w' v.ownBlock):Below a.heap.size a w' :=
 h.grown hg h.size fun i hi=>(hown.lt i hi).1
theorem zgT (A:Option Addr) (len cap:Nat) (xs:List Value) (n:Int) (x:Int) (w:World) (hr:zx w w.heap.size 1 A len xs) (h1:∀ u∈xs,u.oneCell'=true) (h0:0<=n) (hn:n<=8) (hl:len<=1000000) :
  Calls Tryz.prog 59 #[.slice A len cap,.int .i64 n,.int .u64 x] w fun r w'=>∃ v,r=.returned v/\w'.ownsRow w.heap.size 5 1 v (len+n.toNat) (xs++be n.toNat x n.toNat)/\Below w.heap.size w w':=by
 obtain ⟨k,rfl⟩:∃ k:Nat,n=(k:Int):=⟨n.toNat,by omega⟩
 exact zjU A len cap xs k x w hr h1 (by omega) hl
theorem zja (A:Option Addr) (len cap:Nat) (xs:List Value) (s:ByteArray) (w:World) (hr:zx w w.heap.size 1 A len xs) (h1:∀ u∈xs,u.oneCell'=true) (hl:len<=900000) (hs:s.size<=255) :
  Calls Tryz.prog 60 #[.slice A len cap,.string s] w fun r w'=>∃ v,r=.returned v/\w'.ownsRow w.heap.size 5 1 v (len+1+s.size) (xs++be 1 s.size 1++strCells s)/\Below w.heap.size w w':=by
 obtain ⟨i0,hi,hz0,hz1,hz2⟩:=info_parts uE
 obtain ⟨H1,HR⟩:=zi2 h1 hr
 clear h1 hr
 have hsz:(s.size:Int) % 18446744073709551616=s.size:=by omega
 go_enter Tryz.func60,Tryz.ntmps60
 go_wp2_with (first
  | (go_at_call 59;(with_reducible refine (zgT A len cap xs 1 s.size w HR.out H1.out (by omega) (by omega) (by omega)).mono ?_);rintro r w1 ⟨v1,rfl,hown1,hb1⟩)
  | (at_builtin;refine wpList_append_own_string _ rfl _ _ 29 9 rfl w.heap.size 5 i0 Tryz.underlying29 Tryz.underlying9 hi hz0 hz1 hz2 v1 (len+1) _ rfl hown1 s rfl (by unfold maxLen;omega) (by omega) hb1.size ?_;intro v2 w2 hown2 hg2 _))
 go_ret
 exact ⟨_,rfl,hown2,jL hb1 hown1 hg2⟩
theorem zx.take {w:World} {B n:Nat} {A:Option Addr} {xs:List Value} (h:zx w B 1 A n xs) {m:Nat} (hm:m<=n):zx w B 1 A m (xs.take m):=by
 refine ⟨by rw [List.length_take,h.1];omega,fun h0=>?_⟩
 obtain ⟨ad,e,hb,hc⟩:=h.2 (by omega)
 refine ⟨ad,e,hb,fun j u hu=>hc j u ?_⟩
 rw [List.getElem?_take] at hu
 split at hu
 ·exact hu
 ·cases hu
structure qS (w:World) (G:Nat) (A:Option Addr) (n c:Nat) (xs:List Value) (bad:Bool):Prop where
 blk:w.heap[G]?=some (.cells #[.slice A n c,.bool bad] 182 (0,0))
 rd:zx w G 1 A n xs
 le:n<=c
 mx:c<=maxLen
 one:∀ u∈xs,u.oneCell'=true
theorem zaq (A:Option Addr) (n c:Nat) (xs:List Value) (w:World) (hr:zx w w.heap.size 1 A n xs) (hl:n<=c) (hm:c<=maxLen) (h1:∀ u∈xs,u.oneCell'=true) :
  Calls Tryz.prog 51 #[.slice A n c] w fun r w'=>r=.returned (.pointer (some ⟨w.heap.size,0,none⟩))/\qS w' w.heap.size A n c xs false/\Below w.heap.size w w':=by
 obtain ⟨HR,H1⟩:=zi2 hr h1
 clear hr h1
 go_enter Tryz.func51,Tryz.ntmps51
 go_wp2
 go_ret
 exact ⟨rfl,⟨heap_alloc_new w _,HR.out.alloc (Nat.le_refl _) _,hl,hm,H1.out⟩,B_alloc (Below.refl _ _) _⟩
theorem uH (G:Nat) (A:Option Addr) (n c:Nat) (xs:List Value) (bad:Bool) (w:World) (h:qS w G A n c xs bad) :
  Calls Tryz.prog 55 #[.pointer (some ⟨G,0,none⟩)] w fun r w'=>r=.returned (.bool bad)/\w'=w:=by
 have c1:w.cell? ⟨G,1,none⟩=some (.bool bad):=cell_of_row w G _ _ _ _ h.blk
 go_enter Tryz.func55,Tryz.ntmps55
 go_wp2
 go_ret
 exact ⟨rfl,rfl⟩
theorem zdX (G:Nat) (A:Option Addr) (n c:Nat) (xs:List Value) (bad:Bool) (w:World) (h:qS w G A n c xs bad) :
  Calls Tryz.prog 58 #[.pointer (some ⟨G,0,none⟩)] w fun r w'=>r=.returned (.int .i64 n)/\w'=w:=by
 have c1:w.cell? ⟨G,0,none⟩=some (.slice A n c):=cell_of_row w G _ _ _ _ h.blk
 go_enter Tryz.func58,Tryz.ntmps58
 go_wp2
 go_ret
 exact ⟨rfl,rfl⟩
theorem own_set1 {w:World} {B X:Nat} {v:Value} {n:Nat} {xs:List Value} {e:TypeId} {s:Nat} (h:w.ownsRow B e s v n xs) (hne:v.ownBlock≠some X) (o:Nat) (u:Value):(w.setCell ⟨X,o,none⟩ u).ownsRow B e s v n xs :=
 h.kept (row:=some X) ⟨rfl,rfl,rfl,by simp,fun k _ hk=>heap_setCell_other w ⟨X,o,none⟩ k u (fun e=>hk (by simp [e]))⟩ (.inr hne)
theorem Zz {w1 w2:World} {G n c m:Nat} {A B':Option Addr} {xs:List Value} {v2:Value} (H:qS w1 G A n c xs false) (hm:m<=n) (hg:w1.grownBy w2 none)
  (hown:w2.ownsRow w1.heap.size 5 1 v2 m (xs.take m)) (hB:zx w1 G 1 B' (n-m) (xs.drop m)) :
  (w2.setCell ⟨G,0,none⟩ (.slice B' (n-m) (c-m))).ownsRow w1.heap.size 5 1 v2 m (xs.take m)/\qS (w2.setCell ⟨G,0,none⟩ (.slice B' (n-m) (c-m))) G B' (n-m) (c-m) (xs.drop m) false /\
   w1.grownBy (w2.setCell ⟨G,0,none⟩ (.slice B' (n-m) (c-m))) (some G):=by
 have hlt:=(Array.getElem?_eq_some_iff.1 H.blk).1
 have hblk2:w2.heap[G]?=some (.cells #[.slice A n c,.bool false] 182 (0,0)):=(hg.block G hlt (by simp)).trans H.blk
 have hne:v2.ownBlock≠some G:=fun e=>by
  have:=(hown.lt G e).1
  omega
 refine ⟨own_set1 hown hne _ _,⟨?_,?_,?_,Nat.le_trans (Nat.sub_le _ _) H.mx,fun u hu=>H.one u (List.mem_of_mem_drop hu)⟩,⟨hg.os,hg.tape,hg.output,Nat.le_trans hg.size (by simp),fun k hk hne=>?_⟩⟩
 ·rw [heap_setCell_same w2 G 0 _ _ _ hblk2];rfl
 ·exact (hB.grown hg (Nat.le_of_lt hlt) (fun g h=>by cases h)).setCell (Nat.le_refl _) _
 ·have:=H.le;omega
 ·exact (heap_setCell_other _ _ _ _ (fun e=>hne (by rw [e]))).trans (hg.block k hk (by simp))
theorem GA (G:Nat) (A:Option Addr) (n c:Nat) (xs:List Value) (k:Int) (w:World) (h:qS w G A n c xs false) (h0:0<=k) (hk:k<=n) (hs:n<=1000000) :
  Calls Tryz.prog 99 #[.pointer (some ⟨G,0,none⟩),.int .i64 k] w fun r w'=>∃ v A' c',r=.returned v/\w'.ownsRow w.heap.size 5 1 v k.toNat (xs.take k.toNat)/\qS w' G A' (n-k.toNat) c' (xs.drop k.toNat) false/\w.grownBy w' (some G):=by
 obtain ⟨m,rfl⟩:∃ m:Nat,k=(m:Int):=⟨k.toNat,by omega⟩
 obtain ⟨i0,hi,hz0,hz1,hz2⟩:=info_parts uE
 have hle:=h.le
 have hmx:=h.mx
 have c0:w.cell? ⟨G,0,none⟩=some (.slice A n c):=cell_of_row w G _ _ _ _ h.blk
 have hm0:decide ((m:Int)<0)=false:=by simp
 have hmn:decide ((n:Int)<(m:Int))=false:=by simp;omega
 have hma:(m:Int)<=(n:Int):=hk
 have hmc:(m:Int)<=(c:Int):=by omega
 have hnc:(n:Int)<=(c:Int):=by omega
 have HH:=hid h
 clear h
 go_enter Tryz.func99,Tryz.ntmps99
 go_wp2_with (first
  | (go_at_call 55;(with_reducible refine (uH G A n c xs false w HH.out).mono ?_);rintro r w1 ⟨rfl,rfl⟩)
  | (at_builtin;refine yT _ rfl _ _ _ rfl w1.heap.size 5 i0 _ 1 1 Tryz.underlying29 hi hz0 hz1 hz2 rfl (by omega) (.slice none 0 0) 0 [] rfl (World.ownsRow_nil _ _ _ _) G A m c (xs.take m) rfl (HH.out.rd.take (by omega)) (fun u hu=>HH.out.one u (List.mem_of_mem_take hu)) (by unfold maxLen;omega) (by omega) (Nat.le_refl _) ?_;intro v2 w2 hown2 hg2 hat2;have hblk2:w2.heap[G]?=some (.cells #[.slice A n c,.bool false] 182 (0,0)):=(hg2.block G (Array.getElem?_eq_some_iff.1 HH.out.blk).1 (by simp [Value.ownBlock])).trans HH.out.blk;have d0:w2.cell? ⟨G,0,none⟩=some (.slice A n c):=cell_of_row w2 G _ _ _ _ hblk2;have f0:w2.frozen? ⟨G,0,none⟩=false:=frozen_of_row w2 G 0 _ _ hblk2))
 ·obtain rfl:c=m:=by omega
  have hcut:=HH.out.rd.cut (k:=c) (cap:=c) (by omega) HH.out.le
  rw [if_pos rfl,Nat.mul_one] at hcut
  have hT:=Zz HH.out (by omega) hg2 (by simpa using hown2) hcut
  rw [Nat.sub_self] at hT
  go_ret
  exact ⟨_,rfl,hT.1,⟨_,_,hT.2.1⟩,hT.2.2⟩
 ·rename_i hcm
  have hcut:=HH.out.rd.cut (k:=m) (cap:=c) (by omega) HH.out.le
  rw [if_neg (by omega),Nat.mul_one] at hcut
  have hT:=Zz HH.out (by omega) hg2 (by simpa using hown2) hcut
  go_ret
  exact ⟨_,rfl,hT.1,⟨_,_,hT.2.1⟩,hT.2.2⟩
theorem own_slice {w:World} {B:Nat} {v:Value} {n:Nat} {xs:List Value} {e:TypeId} {s:Nat} (h:w.ownsRow B e s v n xs):∃ A c,v=.slice A n c:=by
 rcases h.2 with ⟨rfl,rfl⟩ | ⟨g',cap,cur,rfl,_⟩
 ·exact ⟨_,_,rfl⟩
 ·exact ⟨_,_,rfl⟩
theorem zcb {w:World} {G n c:Nat} {A:Option Addr} {xs:List Value} {bad:Bool} (H:qS w G A n c xs bad):qS (w.setCell ⟨G,1,none⟩ (.bool true)) G A n c xs true/\w.grownBy (w.setCell ⟨G,1,none⟩ (.bool true)) (some G):=by
 refine ⟨⟨?_,H.rd.setCell (Nat.le_refl _) _,H.le,H.mx,H.one⟩,⟨rfl,rfl,rfl,by simp,fun k hk hne=>heap_setCell_other _ _ _ _ (fun e=>hne (by rw [e]))⟩⟩
 rw [heap_setCell_same w G 1 _ _ _ H.blk];rfl
theorem Gz (G:Nat) (A:Option Addr) (n c:Nat) (xs:List Value) (bad:Bool) (k:Int) (w:World) (h:qS w G A n c xs bad) (hk:bad=true∨k<0∨(n:Int)<k) :
  Calls Tryz.prog 99 #[.pointer (some ⟨G,0,none⟩),.int .i64 k] w fun r w'=>r=.returned (.slice none 0 0)/\qS w' G A n c xs true/\w.grownBy w' (some G):=by
 have c0:w.cell? ⟨G,0,none⟩=some (.slice A n c):=cell_of_row w G _ _ _ _ h.blk
 have c1:w.cell? ⟨G,1,none⟩=some (.bool bad):=cell_of_row w G _ _ _ _ h.blk
 have f1:w.frozen? ⟨G,1,none⟩=false:=frozen_of_row w G 1 _ _ h.blk
 have hS:=zcb h
 obtain ⟨HH,HS⟩:=zi2 h hS
 clear h hS
 rcases bad with _ | _
 ·by_cases hk0:k<0
  ·have hd:decide (k<0)=true:=by simpa using hk0
   go_enter Tryz.func99,Tryz.ntmps99
   go_wp2_with (go_at_call 55;(with_reducible refine (uH G A n c xs false w HH.out).mono ?_);rintro r w1 ⟨rfl,rfl⟩)
   go_ret
   exact ⟨rfl,HS.out.1,HS.out.2⟩
  ·have hd:decide (k<0)=false:=by simpa using hk0
   have hkn:(n:Int)<k:=by rcases hk with h | h | h<;>first | cases h | omega
   have hd2:decide ((n:Int)<k)=true:=by simpa using hkn
   go_enter Tryz.func99,Tryz.ntmps99
   go_wp2_with (go_at_call 55;(with_reducible refine (uH G A n c xs false w HH.out).mono ?_);rintro r w1 ⟨rfl,rfl⟩)
   go_ret
   exact ⟨rfl,HS.out.1,HS.out.2⟩
 ·go_enter Tryz.func99,Tryz.ntmps99
  go_wp2_with (go_at_call 55;(with_reducible refine (uH G A n c xs true w HH.out).mono ?_);rintro r w1 ⟨rfl,rfl⟩)
  go_ret
  exact ⟨rfl,HS.out.1,HS.out.2⟩
def Jy (l:List Int):Int:=l.foldl (fun a b=>bits .or .u64 (IntKind.u64.wrap (a*256)) (IntKind.u64.wrap b)) 0
theorem zai (l:List Int) (j:Nat) (y:Int) (h:l[j]?=some y):Jy (l.take (j+1))=bits .or .u64 (IntKind.u64.wrap (Jy (l.take j)*256)) (IntKind.u64.wrap y):=by
 unfold Jy;rw [List.take_add_one,h,List.foldl_append];rfl
theorem ziv (G:Nat) (A:Option Addr) (n c:Nat) (l:List Int) (k:Int) (w:World) (h:qS w G A n c (l.map (Value.int .u8)) false) (h0:1<=k) (hk8:k<=8) (hk:k<=n) (hs:n<=1000000) :
  Calls Tryz.prog 52 #[.pointer (some ⟨G,0,none⟩),.int .i64 k] w fun r w'=>∃ A' c',r=.returned (.int .u64 (Jy (l.take k.toNat)))/\qS w' G A' (n-k.toNat) c' ((l.drop k.toNat).map (Value.int .u8)) false/\w.grownBy w' (some G):=by
 obtain ⟨m,rfl⟩:∃ m:Nat,k=(m:Int):=⟨k.toNat,by omega⟩
 have hd1:decide ((m:Int)<1)=false:=by simp;omega
 have hd2:decide ((8:Int)<(m:Int))=false:=by simp;omega
 have HH:=hid h
 clear h
 go_enter Tryz.func52,Tryz.ntmps52
 go_wp2_with (go_at_call 99;(with_reducible refine (GA G A n c (l.map (Value.int .u8)) m w HH.out (by omega) hk hs).mono ?_);rintro r w1 ⟨v,A',c',rfl,hown,hR,hg⟩;simp only [Int.toNat_natCast] at hown hR;obtain ⟨Av,cv,rfl⟩:=own_slice hown)
 have hrd:=zx.of_own hown
 have hmk:m<=n:=by omega
 rw [<- List.map_take] at hrd
 obtain ⟨HRD,HR,HG⟩:=zi3 hrd hR hg
 clear hrd hR hg hown
 go_loopw [5,18] (fun v u wr=>∃ j:Nat,j<=m/\u=.int .i64 j/\v=.int .u64 (Jy (l.take j))/\wr=w1) (fun _ u _=>((m:Int)-intOf u).toNat)
 case atStart=>exact ⟨0,by omega,rfl,rfl,rfl⟩
 case round =>
  obtain ⟨j,hj,rfl,rfl,rfl⟩:=hrel
  by_cases hlt:j<m
  ·obtain ⟨ad,u,rfl,_,hx,hc⟩:=HRD.out.at_ hlt
   rw [List.getElem?_map,List.getElem?_take,if_pos hlt] at hx
   obtain ⟨y,hy,rfl⟩:∃ y,l[j]?=some y/\.int .u8 y=u:=by
    cases hl:l[j]? with
    | none=>rw [hl] at hx;cases hx
    | some y=>rw [hl] at hx;injection hx with hx;exact ⟨y,rfl,hx⟩
   have hja:(j:Int)<(m:Int):=by omega
   have hjb:(0:Int)<=(j:Int):=by omega
   have hns:=zai l j y hy
   have HNS:=hid hns
   clear hns hy
   go_wp2_with fail
   refine ⟨⟨j+1,by omega,by go_num,by rw [HNS.out],by trivial⟩,?_⟩
   simp [intOf];omega
  ·obtain rfl:j=m:=by omega
   go_wp2_with fail
   go_ret
   rw [Int.toNat_natCast,List.map_drop]
   exact ⟨_,_,rfl,HR.out,HG.out⟩
theorem ziw (G:Nat) (A:Option Addr) (n c:Nat) (xs:List Value) (bad:Bool) (k:Int) (w:World) (h:qS w G A n c xs bad) (hk:bad=true∨(n:Int)<k) (h1:1<=k) (hk8:k<=8) :
  Calls Tryz.prog 52 #[.pointer (some ⟨G,0,none⟩),.int .i64 k] w fun r w'=>r=.returned (.int .u64 0)/\qS w' G A n c xs true/\w.grownBy w' (some G):=by
 have hd1:decide (k<1)=false:=by simp;omega
 have hd2:decide ((8:Int)<k)=false:=by simp;omega
 have HH:=hid h
 have HK:Hid (bad=true∨k<0∨(n:Int)<k):=hid (hk.imp_right .inr)
 clear h hk
 go_enter Tryz.func52,Tryz.ntmps52
 go_wp2_with (go_at_call 99;(with_reducible refine (Gz G A n c xs bad k w HH.out HK.out).mono ?_);rintro r w1 ⟨rfl,hR,hg⟩)
 refine wp_loop_rounds 1 ?_
 rw [rounds_succ]
 go_wp2
 go_ret
 exact ⟨rfl,hR,hg⟩
def zo (l:List UInt8):List Value:=l.map fun b=>.int .u8 b.toNat
theorem qm (l:List UInt8):(zo l).length=l.length:=by simp [zo]
theorem jF (a b:List UInt8):zo (a++b)=zo a++zo b:=by simp [zo]
theorem Jn (a:List UInt8) (n:Nat):(zo a).take n=zo (a.take n):=by simp [zo]
theorem Zi (a:List UInt8) (n:Nat):(zo a).drop n=zo (a.drop n):=by simp [zo]
theorem jb (l:List UInt8):∀ u∈zo l,u.oneCell'=true:=by
 intro u hu
 obtain ⟨b,_,rfl⟩:=List.mem_map.1 hu
 rfl
theorem zeJ (s:ByteArray):strCells s=zo s.data.toList:=rfl
def zz (n x:Nat):List UInt8:=(List.range n).map fun i=>UInt8.ofNat (x / 2 ^ (8*(n-1-i)))
theorem zA (n x:Nat):(zz n x).length=n:=by simp [zz]
theorem zfX (n x:Nat):be n (x:Int) n=zo (zz n x):=by
 unfold be zo zz
 rw [List.map_map]
 refine List.map_congr_left fun i _=>?_
 show Value.int .u8 _=Value.int .u8 _
 congr 1
def ze (w:World) (v:Value) (l:List UInt8):Prop:=∃ A c,v=.slice A l.length c/\zx w w.heap.size 1 A l.length (zo l)/\l.length<=c/\c<=maxLen
theorem ze.below {w w':World} {v:Value} {l:List UInt8} (h:ze w v l) (b:Below w.heap.size w w'):ze w' v l:=by
 obtain ⟨A,c,rfl,hr,h1,h2⟩:=h
 exact ⟨A,c,rfl,(hr.below b).more b.size,h1,h2⟩
theorem ze.of_own {w:World} {B:Nat} {v:Value} {l:List UInt8} {n:Nat} (hn:n=l.length) (h:w.ownsRow B 5 1 v n (zo l)):ze w v l:=by
 subst hn
 rcases h.2 with ⟨rfl,h0⟩ | ⟨g,cap,cur,rfl,hb,hh,hle,hm,_⟩
 ·have:l=[]:=List.eq_nil_of_length_eq_zero h0
  subst this
  exact ⟨none,0,rfl,zx.none_,by simp,by unfold maxLen;omega⟩
 ·exact ⟨_,_,rfl,zx.of_own h,hle,hm⟩
theorem yF (v:Value) (l:List UInt8) (n:Int) (x:Nat) (w:World) (h:ze w v l) (h0:0<=n) (hn:n<=8) (hl:l.length<=1000000) :
  Calls Tryz.prog 59 #[v,.int .i64 n,.int .u64 x] w fun r w'=>∃ v',r=.returned v'/\w'.ownsRow w.heap.size 5 1 v' (l.length+n.toNat) (zo (l++zz n.toNat x))/\Below w.heap.size w w':=by
 obtain ⟨A,c,rfl,hr,_,_⟩:=h
 refine (zgT A l.length c (zo l) n x w hr (jb l) h0 hn hl).mono ?_
 rintro r w' ⟨v',rfl,hown,hb⟩
 rw [zfX,<- jF] at hown
 exact ⟨v',rfl,hown,hb⟩
theorem QT (v:Value) (l:List UInt8) (s:ByteArray) (w:World) (h:ze w v l) (hl:l.length<=900000) (hs:s.size<=255) :
  Calls Tryz.prog 60 #[v,.string s] w fun r w'=>∃ v',r=.returned v'/\w'.ownsRow w.heap.size 5 1 v' (l.length+1+s.size) (zo (l++zz 1 s.size++s.data.toList))/\Below w.heap.size w w':=by
 obtain ⟨A,c,rfl,hr,_,_⟩:=h
 refine (zja A l.length c (zo l) s w hr (jb l) hl hs).mono ?_
 rintro r w' ⟨v',rfl,hown,hb⟩
 rw [zfX,<- jF,zeJ,<- jF] at hown
 exact ⟨v',rfl,hown,hb⟩
def YI (l:List UInt8):Nat:=l.foldl (fun a b=>a*256+b.toNat) 0
theorem zkN (a b:Nat) (ha:a<2 ^ 56) (hb:b<256):bits .or .u64 (IntKind.u64.wrap ((a:Int)*256)) (IntKind.u64.wrap (b:Int))=((a*256+b:Nat):Int):=by
 have e1:IntKind.u64.wrap ((a:Int)*256)=((2 ^ 8*a:Nat):Int):=by rw [IntKind.wrap_u64];omega
 have e2:IntKind.u64.wrap (b:Int)=((b:Nat):Int):=by rw [IntKind.wrap_u64];omega
 rw [e1,e2]
 have e:bits .or .u64 ((2 ^ 8*a:Nat):Int) ((b:Nat):Int)=IntKind.u64.wrap ((BitVec.ofInt 64 ((2 ^ 8*a:Nat):Int) ||| BitVec.ofInt 64 ((b:Nat):Int)).toNat:Int):=rfl
 rw [e,BitVec.toNat_or,BitVec.ofInt_natCast,BitVec.ofInt_natCast,BitVec.toNat_ofNat,BitVec.toNat_ofNat,Nat.mod_eq_of_lt (by omega),Nat.mod_eq_of_lt (by omega),<- Nat.two_pow_add_eq_or_of_lt (by omega:b<2 ^ 8),IntKind.wrap_u64]
 omega
theorem zbw:∀ (l:List UInt8) (a:Nat) (k:Nat),l.length+k<=8->a<256 ^ k->(l.map (fun b=>(b.toNat:Int))).foldl (fun a b=>bits .or .u64 (IntKind.u64.wrap (a*256)) (IntKind.u64.wrap b)) (a:Int)=((l.foldl (fun a b=>a*256+b.toNat) a:Nat):Int)
 | [],a,k,_,_=>rfl
 | b::l,a,k,hl,ha=>by
  have hk:k<=7:=by simp at hl;omega
  have h7:(256:Nat) ^ k<=256 ^ 7:=Nat.pow_le_pow_right (by omega) hk
  have hb:=b.toNat_lt
  rw [List.map_cons,List.foldl_cons,List.foldl_cons,zkN a b.toNat (by omega) (by omega)]
  refine zbw l _ (k+1) (by simp at hl;omega) ?_
  rw [Nat.pow_succ]
  omega
theorem zcR (l:List UInt8) (h:l.length<=8):Jy (l.map (fun b=>(b.toNat:Int)))=(YI l:Int):=zbw l 0 0 (by omega) (by omega)
def jg (w:World) (G:Nat) (l:List UInt8) (bad:Bool):Prop:=∃ A c,qS w G A l.length c (zo l) bad
theorem zgI (G:Nat) (l:List UInt8) (k:Int) (w:World) (h:jg w G l false) (h0:1<=k) (hk8:k<=8) (hk:k<=l.length) (hs:l.length<=1000000) :
  Calls Tryz.prog 52 #[.pointer (some ⟨G,0,none⟩),.int .i64 k] w fun r w'=>r=.returned (.int .u64 (YI (l.take k.toNat)))/\jg w' G (l.drop k.toNat) false/\w.grownBy w' (some G):=by
 obtain ⟨A,c,h⟩:=h
 have e:∀ l:List UInt8,zo l=(l.map (fun b=>(b.toNat:Int))).map (Value.int .u8):=fun l=>by simp [zo]
 rw [e] at h
 refine (ziv G A l.length c (l.map fun b=>(b.toNat:Int)) k w h h0 hk8 hk hs).mono ?_
 rintro r w' ⟨A',c',rfl,hR,hg⟩
 rw [<- List.map_take,zcR _ (by rw [List.length_take];omega)]
 rw [<- List.map_drop,<- e] at hR
 exact ⟨rfl,⟨A',c',by rw [List.length_drop];exact hR⟩,hg⟩
theorem zdO (G:Nat) (l:List UInt8) (bad:Bool) (k:Int) (w:World) (h:jg w G l bad) (hk:bad=true∨(l.length:Int)<k) (h1:1<=k) (hk8:k<=8) :
  Calls Tryz.prog 52 #[.pointer (some ⟨G,0,none⟩),.int .i64 k] w fun r w'=>r=.returned (.int .u64 0)/\jg w' G l true/\w.grownBy w' (some G):=by
 obtain ⟨A,c,h⟩:=h
 refine (ziw G A l.length c (zo l) bad k w h hk h1 hk8).mono ?_
 rintro r w' ⟨rfl,hR,hg⟩
 exact ⟨rfl,⟨A,c,hR⟩,hg⟩
theorem zeH (G:Nat) (l:List UInt8) (k:Int) (w:World) (h:jg w G l false) (h0:0<=k) (hk:k<=l.length) (hs:l.length<=1000000) :
  Calls Tryz.prog 99 #[.pointer (some ⟨G,0,none⟩),.int .i64 k] w fun r w'=>∃ v,r=.returned v/\w'.ownsRow w.heap.size 5 1 v k.toNat (zo (l.take k.toNat))/\jg w' G (l.drop k.toNat) false/\w.grownBy w' (some G):=by
 obtain ⟨A,c,h⟩:=h
 refine (GA G A l.length c (zo l) k w h h0 hk hs).mono ?_
 rintro r w' ⟨v,A',c',rfl,hown,hR,hg⟩
 rw [Jn] at hown
 rw [Zi] at hR
 exact ⟨v,rfl,hown,⟨A',c',by rw [List.length_drop];exact hR⟩,hg⟩
theorem zdp (G:Nat) (l:List UInt8) (bad:Bool) (k:Int) (w:World) (h:jg w G l bad) (hk:bad=true∨k<0∨(l.length:Int)<k) :
  Calls Tryz.prog 99 #[.pointer (some ⟨G,0,none⟩),.int .i64 k] w fun r w'=>r=.returned (.slice none 0 0)/\jg w' G l true/\w.grownBy w' (some G):=by
 obtain ⟨A,c,h⟩:=h
 refine (Gz G A l.length c (zo l) bad k w h hk).mono ?_
 rintro r w' ⟨rfl,hR,hg⟩
 exact ⟨rfl,⟨A,c,hR⟩,hg⟩
theorem Je (v:Value) (l:List UInt8) (w:World) (h:ze w v l) :
  Calls Tryz.prog 51 #[v] w fun r w'=>r=.returned (.pointer (some ⟨w.heap.size,0,none⟩))/\jg w' w.heap.size l false/\Below w.heap.size w w':=by
 obtain ⟨A,c,rfl,hr,h1,h2⟩:=h
 refine (zaq A l.length c (zo l) w hr h1 h2 (jb l)).mono ?_
 rintro r w' ⟨rfl,hR,hb⟩
 exact ⟨rfl,⟨A,c,hR⟩,hb⟩
end Go.Proofs.YtechnoogjhohfaaGreat
