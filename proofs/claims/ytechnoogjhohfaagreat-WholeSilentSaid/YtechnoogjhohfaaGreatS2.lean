import Derived.Test.YtechnoogjhohfaaGreatS1
import Derived.Lib.AppendStr
set_option maxRecDepth 100000
set_option maxHeartbeats 6400000
set_option linter.unusedVariables false
set_option linter.unusedSimpArgs false
namespace Go.Proofs.YtechnoogjhohfaaGreat
open Go.RowKit Go.Lib
theorem B_alloc {a w:World} (h:zd a w) (o:Obj):zd a (w.alloc o):=h.alloc h.size o
theorem B_set {a w:World} (h:zd a w) {p:Addr} (z:a.heap.size<=p.block) (u:Value):zd a (w.setCell p u):=h.setCell z u
theorem B_call {a w w':World} (h:zd a w) (k:zd w w'):zd a w':=h.trans (k.mono h.size)
theorem vn {a w w':World} (h:zd a w) {v:Value} {e:TypeId} {s n:Nat} {xs:List Value} (D:w.ownsRow a.heap.size e s v n xs) (u:w.grownBy w' v.ownBlock):zd a w' :=
 h.grown u h.size fun i z=>(D.lt i z).1
theorem zmi (A:Option Addr) (len cap:Nat) (xs:List Value) (n:Int) (x:Int) (w:World) (D:zL w w.heap.size 1 A len xs) (h:∀ u∈xs,u.oneCell'=true) (h0:0<=n) (E:n<=8) (z:len<=1000000) :
  Calls Tryz.prog 59 #[.slice A len cap,.int .i64 n,.int .u64 x] w fun r w'=>∃ v,r=.returned v/\w'.ownsRow w.heap.size 5 1 v (len+n.toNat) (xs++be n.toNat x n.toNat)/\zd w w':=by
 obtain ⟨k,rfl⟩:∃ k:Nat,n=(k:Int):=⟨n.toNat,by omega⟩;exact zpk A len cap xs k x w D h (by omega) z
theorem zol (A:Option Addr) (len cap:Nat) (xs:List Value) (s:ByteArray) (w:World) (D:zL w w.heap.size 1 A len xs) (h:∀ a0∈xs,a0.oneCell'=true) (hl:len<=900000) (hs:s.size<=255) :
  Calls Tryz.prog 60 #[.slice A len cap,.string s] w fun r w'=>∃ v,r=.returned v/\w'.ownsRow w.heap.size 5 1 v (len+1+s.size) (xs++be 1 s.size 1++strCells s)/\zd w w':=by
 obtain ⟨i0,R,X,Y,Z⟩:=info_parts QU;obtain ⟨E,L⟩:=zi2 h D;clear h D;have a1:(s.size:Int) % 18446744073709551616=s.size:=by omega
 go_enter Tryz.func60,Tryz.ntmps60;go_wp2_with (first|(go_at_call 59;(with_reducible refine (zmi A len cap xs 1 s.size w L.o E.o (by omega) (by omega) (by omega)).mono ?_);rintro r w1 ⟨v1,rfl,z,u⟩)|(at_builtin;refine wpList_append_own_string _ rfl _ _ 29 9 rfl w.heap.size 5 i0 Tryz.underlying29 Tryz.underlying9 R X Y Z v1 (len+1) _ rfl z s rfl (by unfold maxLen;omega) (by omega) u.size ?_;intro v2 w2 U O _));go_ret;exact ⟨_,rfl,U,vn u z O⟩
theorem zL.take {w:World} {B n:Nat} {A:Option Addr} {xs:List Value} (h:zL w B 1 A n xs) {m:Nat} (hm:m<=n):zL w B 1 A m (xs.take m):=by
 refine ⟨by rw [qf,h.1];omega,fun h0=>?_⟩;obtain ⟨ad,e,hb,D⟩:=h.2 (by omega);refine ⟨ad,e,hb,fun j u z=>D j u ?_⟩;rw [List.getElem?_take] at z;split at z
 ·exact z
 ·cases z
structure yg (w:World) (G:Nat) (A:Option Addr) (n c:Nat) (xs:List Value) (bad:Bool):Prop where
 U:w.heap[G]?=some (.cells #[.slice A n c,.bool bad] 182 (0,0))
 rd:zL w G 1 A n xs
 le:n<=c
 mx:c<=maxLen
 one:∀ u∈xs,u.oneCell'=true
theorem zem (A:Option Addr) (n c:Nat) (xs:List Value) (w:World) (z:zL w w.heap.size 1 A n xs) (L:n<=c) (hm:c<=maxLen) (h:∀ u∈xs,u.oneCell'=true) :
  Calls Tryz.prog 51 #[.slice A n c] w fun r w'=>r=.returned (.pointer (some ⟨w.heap.size,0,none⟩))/\yg w' w.heap.size A n c xs false/\zd w w':=by
 obtain ⟨E,D⟩:=zi2 z h;clear z h;go_enter Tryz.func51,Tryz.ntmps51;go_wp2;go_ret;exact ⟨rfl,⟨heap_alloc_new w _,E.o.alloc (za _) _,L,hm,D.o⟩,B_alloc (Below.refl _ _) _⟩
theorem QX (G:Nat) (A:Option Addr) (n c:Nat) (xs:List Value) (u:Bool) (w:World) (h:yg w G A n c xs u) :
  Calls Tryz.prog 55 #[.pointer (some ⟨G,0,none⟩)] w fun r w'=>r=.returned (.bool u)/\w'=w:=by
 have z:w.cell? ⟨G,1,none⟩=some (.bool u):=cell_of_row w G _ _ _ _ h.U;go_enter Tryz.func55,Tryz.ntmps55;go_wp2;go_ret;exact ⟨rfl,rfl⟩
theorem ziN (G:Nat) (A:Option Addr) (n c:Nat) (xs:List Value) (u:Bool) (w:World) (h:yg w G A n c xs u) :
  Calls Tryz.prog 58 #[.pointer (some ⟨G,0,none⟩)] w fun r w'=>r=.returned (.int .i64 n)/\w'=w:=by
 have z:w.cell? ⟨G,0,none⟩=some (.slice A n c):=cell_of_row w G _ _ _ _ h.U;go_enter Tryz.func58,Tryz.ntmps58;go_wp2;go_ret;exact ⟨rfl,rfl⟩
theorem own_set1 {w:World} {B X:Nat} {v:Value} {n:Nat} {xs:List Value} {e:TypeId} {s:Nat} (h:w.ownsRow B e s v n xs) (D:v.ownBlock≠some X) (o:Nat) (u:Value):(w.setCell ⟨X,o,none⟩ u).ownsRow B e s v n xs :=
 h.kept (row:=some X) ⟨rfl,rfl,rfl,by simp,fun k _ z=>heap_setCell_other w ⟨X,o,none⟩ k u (fun e=>z (by simp [e]))⟩ (.inr D)
theorem JY {w1 z:World} {G n c m:Nat} {A D:Option Addr} {xs:List Value} {L:Value} (H:yg w1 G A n c xs false) (hm:m<=n) (u:w1.grownBy z none)
  (R:z.ownsRow w1.heap.size 5 1 L m (xs.take m)) (U:zL w1 G 1 D (n-m) (xs.drop m)) :
  (z.setCell ⟨G,0,none⟩ (.slice D (n-m) (c-m))).ownsRow w1.heap.size 5 1 L m (xs.take m)/\yg (z.setCell ⟨G,0,none⟩ (.slice D (n-m) (c-m))) G D (n-m) (c-m) (xs.drop m) false /\
   w1.grownBy (z.setCell ⟨G,0,none⟩ (.slice D (n-m) (c-m))) (some G):=by
 have O:=(qu.1 H.U).1;have X:z.heap[G]?=some (.cells #[.slice A n c,.bool false] 182 (0,0)):=(u.block G O (by simp)).trans H.U;have E:L.ownBlock≠some G:=fun e=>by have:=(R.lt G e).1;omega
 refine ⟨own_set1 R E _ _,⟨?_,?_,?_,zz (Nat.sub_le _ _) H.mx,fun a0 Z=>H.one a0 (List.mem_of_mem_drop Z)⟩,⟨u.os,u.tape,u.output,zz u.size (by simp),fun k Y E=>?_⟩⟩
 ·rw [heap_setCell_same z G 0 _ _ _ X];rfl
 ·exact (U.grown u (Nat.le_of_lt O) (fun g h=>by cases h)).setCell (za _) _
 ·have:=H.le;omega
 ·exact (heap_setCell_other _ _ _ _ (fun e=>E (by rw [e]))).trans (u.block k Y (by simp))
theorem zcX (G:Nat) (A:Option Addr) (n c:Nat) (xs:List Value) (k:Int) (w:World) (h:yg w G A n c xs false) (h0:0<=k) (Y:k<=n) (hs:n<=1000000) :
  Calls Tryz.prog 99 #[.pointer (some ⟨G,0,none⟩),.int .i64 k] w fun r w'=>∃ v R U,r=.returned v/\w'.ownsRow w.heap.size 5 1 v k.toNat (xs.take k.toNat)/\yg w' G R (n-k.toNat) U (xs.drop k.toNat) false/\w.grownBy w' (some G):=by
 obtain ⟨m,rfl⟩:∃ m:Nat,k=(m:Int):=⟨k.toNat,by omega⟩;obtain ⟨i0,X,a0,a1,a3⟩:=info_parts QU;have a7:=h.le;have c2:=h.mx;have c0:w.cell? ⟨G,0,none⟩=some (.slice A n c):=cell_of_row w G _ _ _ _ h.U;have a8:decide ((m:Int)<0)=false:=by simp
 have c1:decide ((n:Int)<(m:Int))=false:=by simp;omega
 have a9:(m:Int)<=(n:Int):=Y;have b9:(m:Int)<=(c:Int):=by omega
 have c3:(n:Int)<=(c:Int):=by omega
 have u:=hid h;clear h;go_enter Tryz.func99,Tryz.ntmps99;go_wp2_with (first|(go_at_call 55;(with_reducible refine (QX G A n c xs false w u.o).mono ?_);rintro r w1 ⟨rfl,rfl⟩)|(at_builtin;refine uK _ rfl _ _ _ rfl w1.heap.size 5 i0 _ 1 1 Tryz.underlying29 X a0 a1 a3 rfl (by omega) (.slice none 0 0) 0 [] rfl (World.ownsRow_nil _ _ _ _) G A m c (xs.take m) rfl (u.o.rd.take (by omega)) (fun a4 Z=>u.o.one a4 (List.mem_of_mem_take Z)) (by unfold maxLen;omega) (by omega) (za _) ?_;intro v2 D O E a5;have L:D.heap[G]?=some (.cells #[.slice A n c,.bool false] 182 (0,0)):=(E.block G (qu.1 u.o.U).1 (by simp [Value.ownBlock])).trans u.o.U;have d0:D.cell? ⟨G,0,none⟩=some (.slice A n c):=cell_of_row D G _ _ _ _ L;have f0:D.frozen? ⟨G,0,none⟩=false:=frozen_of_row D G 0 _ _ L))
 ·obtain rfl:c=m:=by omega
  have hcut:=u.o.rd.cut (k:=c) (cap:=c) (by omega) u.o.le;rw [if_pos rfl,Nat.mul_one] at hcut;have z:=JY u.o (by omega) E (by simpa using O) hcut;rw [Nat.sub_self] at z;go_ret;exact ⟨_,rfl,z.1,⟨_,_,z.2.1⟩,z.2.2⟩
 ·rename_i a6;have hcut:=u.o.rd.cut (k:=m) (cap:=c) (by omega) u.o.le;rw [if_neg (by omega),Nat.mul_one] at hcut;have z:=JY u.o (by omega) E (by simpa using O) hcut;go_ret;exact ⟨_,rfl,z.1,⟨_,_,z.2.1⟩,z.2.2⟩
theorem own_slice {w:World} {B:Nat} {v:Value} {n:Nat} {xs:List Value} {e:TypeId} {s:Nat} (h:w.ownsRow B e s v n xs):∃ A c,v=.slice A n c:=by
 rcases h.2 with ⟨rfl,rfl⟩ | ⟨u,cap,cur,rfl,_⟩
 ·exact ⟨_,_,rfl⟩
 ·exact ⟨_,_,rfl⟩
theorem zgz {w:World} {G n c:Nat} {A:Option Addr} {xs:List Value} {h:Bool} (H:yg w G A n c xs h):yg (w.setCell ⟨G,1,none⟩ (.bool true)) G A n c xs true/\w.grownBy (w.setCell ⟨G,1,none⟩ (.bool true)) (some G):=by refine ⟨⟨?_,H.rd.setCell (za _) _,H.le,H.mx,H.one⟩,⟨rfl,rfl,rfl,by simp,fun k z u=>heap_setCell_other _ _ _ _ (fun e=>u (by rw [e]))⟩⟩;rw [heap_setCell_same w G 1 _ _ _ H.U];rfl
theorem YH (G:Nat) (A:Option Addr) (n c:Nat) (xs:List Value) (z:Bool) (k:Int) (w:World) (h:yg w G A n c xs z) (O:z=true∨k<0∨(n:Int)<k) :
  Calls Tryz.prog 99 #[.pointer (some ⟨G,0,none⟩),.int .i64 k] w fun r w'=>r=.returned (.slice none 0 0)/\yg w' G A n c xs true/\w.grownBy w' (some G):=by
 have U:w.cell? ⟨G,0,none⟩=some (.slice A n c):=cell_of_row w G _ _ _ _ h.U;have X:w.cell? ⟨G,1,none⟩=some (.bool z):=cell_of_row w G _ _ _ _ h.U;have Y:w.frozen? ⟨G,1,none⟩=false:=frozen_of_row w G 1 _ _ h.U;have E:=zgz h;obtain ⟨D,u⟩:=zi2 h E;clear h E;rcases z with _ | _
 ·by_cases L:k<0
  ·have hd:decide (k<0)=true:=by simpa using L
   go_enter Tryz.func99,Tryz.ntmps99;go_wp2_with (go_at_call 55;(with_reducible refine (QX G A n c xs false w D.o).mono ?_);rintro r w1 ⟨rfl,rfl⟩);go_ret;exact ⟨rfl,u.o.1,u.o.2⟩
  ·have hd:decide (k<0)=false:=by simpa using L
   have R:(n:Int)<k:=by rcases O with h | h | h<;>first | cases h | omega
   have Z:decide ((n:Int)<k)=true:=by simpa using R
   go_enter Tryz.func99,Tryz.ntmps99;go_wp2_with (go_at_call 55;(with_reducible refine (QX G A n c xs false w D.o).mono ?_);rintro r w1 ⟨rfl,rfl⟩);go_ret;exact ⟨rfl,u.o.1,u.o.2⟩
 ·go_enter Tryz.func99,Tryz.ntmps99;go_wp2_with (go_at_call 55;(with_reducible refine (QX G A n c xs true w D.o).mono ?_);rintro r w1 ⟨rfl,rfl⟩);go_ret;exact ⟨rfl,u.o.1,u.o.2⟩
def Gr (l:List Int):Int:=l.foldl (fun a b=>bits .or .u64 (IntKind.u64.wrap (a*256)) (IntKind.u64.wrap b)) 0
theorem zec (l:List Int) (j:Nat) (y:Int) (h:l[j]?=some y):Gr (l.take (j+1))=bits .or .u64 (IntKind.u64.wrap (Gr (l.take j)*256)) (IntKind.u64.wrap y):=by unfold Gr;rw [List.take_add_one,h,List.foldl_append];rfl
theorem znF (G:Nat) (A:Option Addr) (n c:Nat) (l:List Int) (k:Int) (w:World) (h:yg w G A n c (l.map (Value.int .u8)) false) (h0:1<=k) (a7:k<=8) (hk:k<=n) (hs:n<=1000000) :
  Calls Tryz.prog 52 #[.pointer (some ⟨G,0,none⟩),.int .i64 k] w fun r w'=>∃ O R,r=.returned (.int .u64 (Gr (l.take k.toNat)))/\yg w' G O (n-k.toNat) R ((l.drop k.toNat).map (Value.int .u8)) false/\w.grownBy w' (some G):=by
 obtain ⟨m,rfl⟩:∃ m:Nat,k=(m:Int):=⟨k.toNat,by omega⟩;have a3:decide ((m:Int)<1)=false:=by simp;omega
 have a4:decide ((8:Int)<(m:Int))=false:=by simp;omega
 have HH:=hid h;clear h;go_enter Tryz.func52,Tryz.ntmps52;go_wp2_with (go_at_call 99;(with_reducible refine (zcX G A n c (l.map (Value.int .u8)) m w HH.o (by omega) hk hs).mono ?_);rintro r w1 ⟨v,O,R,rfl,D,E,U⟩;simp only [qp] at D E;obtain ⟨Av,cv,rfl⟩:=own_slice D);have L:=zL.aj D;have a8:m<=n:=by omega
 rw [<- List.map_take] at L;obtain ⟨a1,HR,HG⟩:=zi3 L E U;clear L E U D;go_loopw [5,18] (fun v u wr=>∃ j:Nat,j<=m/\u=.int .i64 j/\v=.int .u64 (Gr (l.take j))/\wr=w1) (fun _ u _=>((m:Int)-intOf u).toNat)
 case atStart=>exact ⟨0,by omega,rfl,rfl,rfl⟩
 case round =>
  obtain ⟨j,hj,rfl,rfl,rfl⟩:=hrel;by_cases Y:j<m
  ·obtain ⟨ad,u,rfl,_,z,hc⟩:=a1.o.cb Y;rw [List.getElem?_map,List.getElem?_take,if_pos Y] at z;obtain ⟨y,hy,rfl⟩:∃ y,l[j]?=some y/\.int .u8 y=u:=by
    cases X:l[j]? with
    | none=>rw [X] at z;cases z
    | some y=>rw [X] at z;injection z with z;exact ⟨y,rfl,z⟩
   have a5:(j:Int)<(m:Int):=by omega
   have a6:(0:Int)<=(j:Int):=by omega
   have Z:=zec l j y hy;have a0:=hid Z;clear Z hy;go_wp2_with fail;refine ⟨⟨j+1,by omega,by go_num,by rw [a0.o],by trivial⟩,?_⟩;simp [intOf];omega
  ·obtain rfl:j=m:=by omega
   go_wp2_with fail;go_ret;rw [qp,List.map_drop];exact ⟨_,_,rfl,HR.o,HG.o⟩
theorem znG (G:Nat) (A:Option Addr) (n c:Nat) (xs:List Value) (u:Bool) (k:Int) (w:World) (h:yg w G A n c xs u) (z:u=true∨(n:Int)<k) (R:1<=k) (Y:k<=8) :
  Calls Tryz.prog 52 #[.pointer (some ⟨G,0,none⟩),.int .i64 k] w fun r w'=>r=.returned (.int .u64 0)/\yg w' G A n c xs true/\w.grownBy w' (some G):=by
 have U:decide (k<1)=false:=by simp;omega
 have X:decide ((8:Int)<k)=false:=by simp;omega
 have D:=hid h;have E:Hid (u=true∨k<0∨(n:Int)<k):=hid (z.imp_right .inr);clear h z;go_enter Tryz.func52,Tryz.ntmps52;go_wp2_with (go_at_call 99;(with_reducible refine (YH G A n c xs u k w D.o E.o).mono ?_);rintro r w1 ⟨rfl,L,O⟩);refine wp_loop_rounds 1 ?_;rw [rounds_succ];go_wp2;go_ret;exact ⟨rfl,L,O⟩
def zD (l:List UInt8):List Value:=l.map fun b=>.int .u8 b.toNat
theorem jf (l:List UInt8):(zD l).length=l.length:=by simp [zD]
theorem yV (a b:List UInt8):zD (a++b)=zD a++zD b:=by simp [zD]
theorem Gc (a:List UInt8) (n:Nat):(zD a).take n=zD (a.take n):=by simp [zD]
theorem JA (a:List UInt8) (n:Nat):(zD a).drop n=zD (a.drop n):=by simp [zD]
theorem yp (l:List UInt8):∀ u∈zD l,u.oneCell'=true:=by intro u h;obtain ⟨b,_,rfl⟩:=List.mem_map.1 h;rfl
theorem zjD (s:ByteArray):strCells s=zD s.data.toList:=rfl
def zR (n x:Nat):List UInt8:=(List.range n).map fun i=>UInt8.ofNat (x / 2 ^ (8*(n-1-i)))
theorem zG (n x:Nat):(zR n x).length=n:=by simp [zR]
theorem zld (n x:Nat):be n (x:Int) n=zD (zR n x):=by unfold be zD zR;rw [List.map_map];refine List.map_congr_left fun i _=>?_;show Value.int .u8 _=Value.int .u8 _;congr 1
def zj (w:World) (v:Value) (l:List UInt8):Prop:=∃ A c,v=.slice A l.length c/\zL w w.heap.size 1 A l.length (zD l)/\l.length<=c/\c<=maxLen
theorem zj.below {w w':World} {v:Value} {l:List UInt8} (h:zj w v l) (b:zd w w'):zj w' v l:=by obtain ⟨A,c,rfl,D,u,z⟩:=h;exact ⟨A,c,rfl,(D.below b).bp b.size,u,z⟩
theorem zj.aj {w:World} {B:Nat} {v:Value} {l:List UInt8} {n:Nat} (z:n=l.length) (h:w.ownsRow B 5 1 v n (zD l)):zj w v l:=by
 subst z;rcases h.2 with ⟨rfl,h0⟩ | ⟨g,cap,cur,rfl,hb,D,u,hm,_⟩
 ·have:l=[]:=yd h0;subst this;exact ⟨none,0,rfl,zL.cz,by simp,by unfold maxLen;omega⟩
 ·exact ⟨_,_,rfl,zL.aj h,u,hm⟩
theorem ur (v:Value) (l:List UInt8) (n:Int) (x:Nat) (w:World) (h:zj w v l) (h0:0<=n) (D:n<=8) (z:l.length<=1000000) :
  Calls Tryz.prog 59 #[v,.int .i64 n,.int .u64 x] w fun r w'=>∃ v',r=.returned v'/\w'.ownsRow w.heap.size 5 1 v' (l.length+n.toNat) (zD (l++zR n.toNat x))/\zd w w':=by
 obtain ⟨A,c,rfl,E,_,_⟩:=h;refine (zmi A l.length c (zD l) n x w E (yp l) h0 D z).mono ?_;rintro r w' ⟨v',rfl,u,hb⟩;rw [zld,<- yV] at u;exact ⟨v',rfl,u,hb⟩
theorem KD (v:Value) (l:List UInt8) (s:ByteArray) (w:World) (h:zj w v l) (z:l.length<=900000) (hs:s.size<=255) :
  Calls Tryz.prog 60 #[v,.string s] w fun r w'=>∃ v',r=.returned v'/\w'.ownsRow w.heap.size 5 1 v' (l.length+1+s.size) (zD (l++zR 1 s.size++s.data.toList))/\zd w w':=by
 obtain ⟨A,c,rfl,D,_,_⟩:=h;refine (zol A l.length c (zD l) s w D (yp l) z hs).mono ?_;rintro r w' ⟨v',rfl,u,hb⟩;rw [zld,<- yV,zjD,<- yV] at u;exact ⟨v',rfl,u,hb⟩
def QG (l:List UInt8):Nat:=l.foldl (fun a b=>a*256+b.toNat) 0
theorem zqz (a b:Nat) (z:a<2 ^ 56) (hb:b<256):bits .or .u64 (IntKind.u64.wrap ((a:Int)*256)) (IntKind.u64.wrap (b:Int))=((a*256+b:Nat):Int):=by
 have h:IntKind.u64.wrap ((a:Int)*256)=((2 ^ 8*a:Nat):Int):=by rw [IntKind.wrap_u64];omega
 have u:IntKind.u64.wrap (b:Int)=((b:Nat):Int):=by rw [IntKind.wrap_u64];omega
 rw [h,u];have e:bits .or .u64 ((2 ^ 8*a:Nat):Int) ((b:Nat):Int)=IntKind.u64.wrap ((BitVec.ofInt 64 ((2 ^ 8*a:Nat):Int) ||| BitVec.ofInt 64 ((b:Nat):Int)).toNat:Int):=rfl;rw [e,BitVec.toNat_or,BitVec.ofInt_natCast,BitVec.ofInt_natCast,BitVec.toNat_ofNat,BitVec.toNat_ofNat,Nat.mod_eq_of_lt (by omega),Nat.mod_eq_of_lt (by omega),<- Nat.two_pow_add_eq_or_of_lt (by omega:b<2 ^ 8),IntKind.wrap_u64];omega
theorem zfT:∀ (l:List UInt8) (a:Nat) (k:Nat),l.length+k<=8->a<256 ^ k->(l.map (fun b=>(b.toNat:Int))).foldl (fun a b=>bits .or .u64 (IntKind.u64.wrap (a*256)) (IntKind.u64.wrap b)) (a:Int)=((l.foldl (fun a b=>a*256+b.toNat) a:Nat):Int)
 | [],a,k,_,_=>rfl
 | b::l,a,k,hl,ha=>by
  have h:k<=7:=by simp at hl;omega
  have u:(256:Nat) ^ k<=256 ^ 7:=Nat.pow_le_pow_right (by omega) h;have hb:=b.toNat_lt;rw [List.map_cons,jM,jM,zqz a b.toNat (by omega) (by omega)];refine zfT l _ (k+1) (by simp at hl;omega) ?_;rw [Nat.pow_succ];omega
theorem zhx (l:List UInt8) (h:l.length<=8):Gr (l.map (fun b=>(b.toNat:Int)))=(QG l:Int):=zfT l 0 0 (by omega) (by omega)
def jw (w:World) (G:Nat) (l:List UInt8) (h:Bool):Prop:=∃ A c,yg w G A l.length c (zD l) h
theorem zag (G:Nat) (l:List UInt8) (k:Int) (w:World) (h:jw w G l false) (h0:1<=k) (O:k<=8) (L:k<=l.length) (hs:l.length<=1000000) :
  Calls Tryz.prog 52 #[.pointer (some ⟨G,0,none⟩),.int .i64 k] w fun r w'=>r=.returned (.int .u64 (QG (l.take k.toNat)))/\jw w' G (l.drop k.toNat) false/\w.grownBy w' (some G):=by
 obtain ⟨A,c,h⟩:=h;have e:∀ l:List UInt8,zD l=(l.map (fun b=>(b.toNat:Int))).map (Value.int .u8):=fun l=>by simp [zD]
 rw [e] at h;refine (znF G A l.length c (l.map fun b=>(b.toNat:Int)) k w h h0 O L hs).mono ?_;rintro r w' ⟨z,D,rfl,u,E⟩;rw [<- List.map_take,zhx _ (by rw [qf];omega)];rw [<- List.map_drop,<- e] at u;exact ⟨rfl,⟨z,D,by rw [qI];exact u⟩,E⟩
theorem ziE (G:Nat) (l:List UInt8) (u:Bool) (k:Int) (w:World) (h:jw w G l u) (L:u=true∨(l.length:Int)<k) (z:1<=k) (O:k<=8) :
  Calls Tryz.prog 52 #[.pointer (some ⟨G,0,none⟩),.int .i64 k] w fun r w'=>r=.returned (.int .u64 0)/\jw w' G l true/\w.grownBy w' (some G):=by
 obtain ⟨A,c,h⟩:=h;refine (znG G A l.length c (zD l) u k w h L z O).mono ?_;rintro r w' ⟨rfl,D,E⟩;exact ⟨rfl,⟨A,c,D⟩,E⟩
theorem zfq (G:Nat) (l:List UInt8) (k:Int) (w:World) (h:jw w G l false) (h0:0<=k) (O:k<=l.length) (hs:l.length<=1000000) :
  Calls Tryz.prog 99 #[.pointer (some ⟨G,0,none⟩),.int .i64 k] w fun r w'=>∃ v,r=.returned v/\w'.ownsRow w.heap.size 5 1 v k.toNat (zD (l.take k.toNat))/\jw w' G (l.drop k.toNat) false/\w.grownBy w' (some G):=by
 obtain ⟨A,c,h⟩:=h;refine (zcX G A l.length c (zD l) k w h h0 O hs).mono ?_;rintro r w' ⟨v,D,E,rfl,z,u,L⟩;rw [Gc] at z;rw [JA] at u;exact ⟨v,rfl,z,⟨D,E,by rw [qI];exact u⟩,L⟩
theorem zic (G:Nat) (l:List UInt8) (u:Bool) (k:Int) (w:World) (h:jw w G l u) (E:u=true∨k<0∨(l.length:Int)<k) :
  Calls Tryz.prog 99 #[.pointer (some ⟨G,0,none⟩),.int .i64 k] w fun r w'=>r=.returned (.slice none 0 0)/\jw w' G l true/\w.grownBy w' (some G):=by
 obtain ⟨A,c,h⟩:=h;refine (YH G A l.length c (zD l) u k w h E).mono ?_;rintro r w' ⟨rfl,z,D⟩;exact ⟨rfl,⟨A,c,z⟩,D⟩
theorem Jh (v:Value) (l:List UInt8) (w:World) (h:zj w v l) :
  Calls Tryz.prog 51 #[v] w fun r w'=>r=.returned (.pointer (some ⟨w.heap.size,0,none⟩))/\jw w' w.heap.size l false/\zd w w':=by
 obtain ⟨A,c,rfl,E,u,z⟩:=h;refine (zem A l.length c (zD l) w E u z (yp l)).mono ?_;rintro r w' ⟨rfl,D,hb⟩;exact ⟨rfl,⟨A,c,D⟩,hb⟩
end Go.Proofs.YtechnoogjhohfaaGreat
