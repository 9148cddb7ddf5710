import Derived.Test.YtechnoogjhohfaaGreatM8
import Derived.Laws.CopyRow
import Derived.Lib.BufferWrite
set_option maxRecDepth 100000
set_option maxHeartbeats 6400000
set_option linter.unusedVariables false
set_option linter.unusedSimpArgs false
namespace Go.Proofs.YtechnoogjhohfaaGreat
open Go.RowKit Go.Lib
open YtechnoogjhohfaaGreatW Go.Proofs.Tryz Go.Proofs.YtechnoogjhohfaaGreat.Tryz
section
section
variable {P:Program}
theorem zbw (w:World) (b o:Nat) (ty t:TypeId) (cur h:Array Value) (hb:w.heap[b]?=some (.cells cur t (0,0))) (hfit:o+h.size<=cur.size) (z:(P.info? ty).map (·.size)=some h.size) (D:∀ v∈h.toList,v.oneCell'=true) :
  (storeVar ty ⟨b,o,none⟩ (.agg h)).run P w=.ok () (w.setRow b (cur.toList.take o++h.toList++cur.toList.drop (o+h.size)).toArray):=by
 have:=run_storeCells_at P b o t h.toList 0 cur w hb (by simpa using hfit) D;cases u:P.info? ty with
 | none=>simp [u] at z
 | some i =>
  have hs:h.size=i.size:=by simp [u] at z;omega
  simp only [Nat.add_zero,Array.length_toList] at this;simp [storeVar,sizeOf,typeInfo,u,Value.cells,hs] at this ⊢;exact this
theorem vY {op:Oper} {a:Act} {w:World} {K:Act->World->Prop} {Q:Exit->Act->World->Prop} (ty:TypeId) (x y:Operand) (E:op.op=.store ty x y) (b o:Nat) (t:TypeId) (cur u:Array Value)
  (L:a.eval x=.pointer (some ⟨b,o,none⟩)) (O:a.eval y=.agg u) (hb:w.heap[b]?=some (.cells cur t (0,0))) (hfit:o+u.size<=cur.size) (D:(P.info? ty).map (·.size)=some u.size) (z:∀ v∈u.toList,v.oneCell'=true)
  (h:K (a.put op.dst undef) (w.setRow b (cur.toList.take o++u.toList++cur.toList.drop (o+u.size)).toArray)):op.wp P a w K Q:=by
 unfold Oper.wp execOp;simp only [E,L,O,Instr.storeAt,Instr.sureAddr,Sem.run_bind,Sem.run_pure,vk,zbw w b o ty t cur u hb hfit D z];exact h
theorem yM {ops:Array Oper} {rest:List Oper} {op:Oper} {a:Act} {w:World} {Q:Exit->Act->World->Prop} (E:op.guard=none) (ty:TypeId) (x y:Operand) (O:op.op=.store ty x y) (b o:Nat) (t:TypeId) (cur u:Array Value)
  (R:a.eval x=.pointer (some ⟨b,o,none⟩)) (U:a.eval y=.agg u) (hb:w.heap[b]?=some (.cells cur t (0,0))) (hfit:o+u.size<=cur.size) (L:(P.info? ty).map (·.size)=some u.size) (z:∀ v∈u.toList,v.oneCell'=true)
  (h:wpList P ops Q rest (a.put op.dst undef) (w.setRow b (cur.toList.take o++u.toList++cur.toList.drop (o+u.size)).toArray)):wpList P ops Q (op::rest) a w :=
 wpList_plain E fun _ D=>vY ty x y O b o t cur u R U hb hfit L z (D _ _ h)
end
theorem Yw {P:Program} {o:Oper} {a:Act} {w w1:World} {v h u:Value} (x y:Operand) (ts:Array TypeId) (z:o.op=.call { callee:=.builtin .copy,args:=#[x,y],argTypes:=ts }) (E:a.eval x=h) (L:a.eval y=u)
  (D:(Builtin.copy_ ts o.type #[h,u]).run P w=.ok v w1):(execOp a.eval o).run P w=.ok (.value v) w1:=by
 unfold execOp;simp [z,resolve,invoke,builtin,E,L,D]
theorem zz.setRow {M:Nat->Prop} {a b:World} (h:zz M a b) {g:Nat} (u:M g∨a.heap.size<=g) (cs:Array Value):zz M a (b.setRow g cs) :=
 ⟨h.os,h.tape,h.output,by simpa using h.size,fun x z hm=>(setRow_other b g x cs (fun e=>u.elim (fun h=>hm (by rw [e];exact h)) (fun h=>by omega))).trans (h.block x z hm)⟩
end
theorem wV {P:Program} {ops:Array Oper} {Q:Exit->Act->World->Prop} {a:Act} {w:World} {rest:List Oper} {t z:TypeId} {p:String} {D:Array Edge} {y:Operand} {X:Tmp} (o:Nat) (u:Array Value) {b:Nat} {ct:TypeId} {cur:Array Value} (hb:w.heap[b]?=some (.cells cur ct (0,0)))
  (h:wpList P ops Q rest (a.put none undef) (w.setRow b (cur.toList.take o++u.toList++cur.toList.drop (o+u.size)).toArray)) (O:a.eval (.tmp X)=.pointer (some ⟨b,o,none⟩):=by rfl) (R:a.eval y=.agg u:=by rfl) (hfit:o+u.size<=cur.size:=by exact Nat.le_of_ble_eq_true rfl) (L:(P.info? z).map (·.size)=some u.size:=by kernel_rfl) (E:∀ v∈u.toList,v.oneCell'=true:=by exact List.all_eq_true.1 rfl) :
  wpList P ops Q (⟨none,.store z (.tmp X) y,t,p,D,none⟩::rest) a w :=
 yM rfl z (.tmp X) y rfl b o ct cur u O R hb hfit L E h
def jZ:Option Rw->List UInt8
 | none=>zs 40
 | some r=>vf r
theorem yT {o:Option Rw} (h:jt o):(jZ o).length=40:=by
 cases o with
 | none=>simp [jZ,zs]
 | some r=>exact QO h
theorem zlc {o:Option Rw}:(jZ o == zs 40)=o.isNone:=by
 cases o with
 | none=>simp [jZ]
 | some r =>have:=@zjN r;rw [zcL] at this;exact this
structure Pg where
 mark:Nat
 ap:List (Option Rw)
deriving DecidableEq
structure Pg.ok (p:Pg):Prop where
 b3:p.ap.length=5
 a7:∀ o,o∈p.ap->jt o
 mark:p.mark<18446744073709551616
 zero:p.mark=0->∀ o,o∈p.ap->o=none
def ux (p:Pg):List UInt8:=p.ap.flatMap jZ
def qk (t n:Nat) (p:Pg):List Value:=.int .u64 p.mark::.int .i64 t::.int .i64 n::zE (ux p)
theorem zeg:∀ (l:List (Option Rw)),(∀ o,o∈l->jt o)->(l.flatMap jZ).length=l.length*40
 | [],_=>rfl
 | o::l,h=>by have:=zeg l fun x u=>h x (ji _ u);rw [qy,zl,this,yT (h o (jj ..)),zX];omega
theorem zbN:∀ (l:List (Option Rw)) (i:Nat) (o:Option Rw),(∀ o,o∈l->jt o)->l[i]?=some o->((l.flatMap jZ).drop (i*40)).take 40=jZ o
 | [],i,o,_,h=>by simp at h
 | x::l,0,o,hc,h=>by simp only [List.getElem?_cons_zero,je] at h;subst h;rw [qy,Nat.zero_mul,List.drop_zero,List.take_left' (yT (hc x (jj ..)))]
 | x::l,i+1,o,hc,h=>by have u:=yT (hc x (jj ..));rw [qy,List.drop_append,List.drop_of_length_le (by omega),List.nil_append,u,show (i+1)*40-40=i*40 by omega];exact zbN l i o (fun y z=>hc y (ji _ z)) (by simpa using h)
theorem Kz {p:Pg} (h:p.ok):(ux p).length=200:=by rw [ux,zeg _ h.a7,h.b3]
theorem Qq {t n:Nat} {p:Pg} (h:p.ok):(qk t n p).length=203:=by simp [qk,jg,Kz h]
def qR (w:World) (b t n:Nat) (p:Pg):Prop:=w.heap[b]?=some (.cells (qk t n p).toArray 204 (0,0))
theorem qR.slot {w:World} {b t n:Nat} {p:Pg} (h:qR w b t n p) (D:p.ok) {i:Nat} {o:Option Rw} (z:p.ap[i]?=some o):w.rangeAt b (3+i*40) (zE (jZ o)):=by
 intro j v u;rw [ze w b _ _ _ _ h,<- zbN p.ap i o D.a7 z,<- Gd,<- JF] at *;rw [List.getElem?_take] at u;split at u
 ·rw [List.getElem?_drop] at u;simp only [qk];rw [show 3+i*40+j=(i*40+j)+1+1+1 by omega];simpa [ux] using u
 ·cases u
theorem zpg:prog.eqGuardType prog.depth 201=false:=by kernel_rfl
theorem zri (w:World):(sizeOf 5).run prog w=.ok 1 w:=GB w
theorem zqD (w:World) (xs h:List UInt8) (u:xs.length=40) (z:h.length=40):(binOp .eql 201 (.agg (zE xs).toArray) (.agg (zE h).toArray)).run prog w=.ok (.bool (xs == h)) w :=
 run_eql_bytes w 201 5 40 underlying201 underlying5 zri xs h u z
theorem zi.cb {w:World} {b o n:Nat} {l:List UInt8} (h:w.rangeAt b o (zE l)) (hb:b<w.heap.size) (u:n=l.length) (z:l.length<=100000):zi w (.slice (some ⟨b,o,none⟩) n n) l:=by subst u;exact ⟨_,_,rfl,zJ.cb h hb,za _,by unfold maxLen;omega⟩
theorem ziq (b i:Nat) (o:Option Rw) (w:World) (h:w.rangeAt b (3+i*40) (zE (jZ o))) (E:jt o) (hb:b<w.heap.size) (U:i<5) :
  zc 134 #[.pointer (some ⟨b,0,none⟩),.int .i64 i] w fun e w'=>e=.returned (.string (zb (zM o)))/\w'=w:=by
 have X:(0:Int)<=(i:Int):=by omega
 have Y:(i:Int)<5:=by omega
 have L:decide ((i:Int)<0)=false:=by simp
 have O:decide ((5:Int)<=(i:Int))=false:=by simp;omega
 have hlen:=yT E;have H:=hid h;have u:=zqD w (jZ o) (zs 40) hlen (by simp [zs]);rw [zlc] at u;have R:=yk (zi.cb (n:=40) h hb hlen.symm (by omega));obtain ⟨z,D⟩:=zi2 u hlen;clear h u hlen;go_enter func134,ntmps134;go_upto_region 3 with (first|(show wpList _ _ _ (⟨some 21,_,_,_,_,_⟩::_) _ _;refine zcv (by rfl) _ _ (ZP 201 (.tmp 20) rfl b (3+i*40) (by rfl) _ _ H.o underlying201 rfl (by rw [jg,D.o];kernel_rfl)) ?_)|(show wpList _ _ _ (⟨some 23,_,_,_,_,_⟩::_) _ _;refine zcv (by rfl) _ _ (zas .eql 201 201 (.tmp 21) (.tmp 22) rfl _ (.agg (zE (zs 40)).toArray) _ (by rfl) (by rfl) (zjQ w .eql 201 _ _ _ _ zpg) z.o) ?_))
 ·go_ret;refine ⟨?_,rfl⟩;have e:o=none:=by cases o with | none=>rfl | some r=>simp at *
  subst e;rfl
 ·cases o with
  | none=>simp at *
  | some r =>go_wp2_with fail;go_ret;exact ⟨rfl,rfl⟩
theorem zaF (w:World) (s:ByteArray) (hs:s.size<=100000):∃ v W,(convert 9 29 (.string s)).run prog w=.ok v W/\zi W v s.data.toList/\zd w W:=by
 have O:=run_bytes_of_string (P:=prog) w 9 29 5 s underlying9 underlying29 underlying5;have D:=grownCap_ge w s.size 0 5;have L:grownCap w s.size 0 5<=maxLen:=grownCap_le_maxLen w s.size 0 5 (by unfold maxLen;omega);have h:s.data.toList.length=s.size:=by rw [Array.length_toList];rfl
 refine ⟨_,_,O,⟨_,_,by rw [h],?_,by rw [h];exact D,L⟩,B_alloc (zf _ _).drew _⟩;rw [h];refine ⟨by rw [jg,h];omega,fun _=>⟨_,rfl,by simp,fun j u z=>?_⟩⟩;have E:j<s.size:=by have:=(zr.1 z).1;rw [jg,h] at this;exact this
 rw [Addr.add_mid,qz];have hb:=zo w.drew (.cells (bytesRow s (grownCap w s.size 0 5)) 5 ((bytesRow s (grownCap w s.size 0 5)).size,(bytesRow s (grownCap w s.size 0 5)).size+1)) (n:=w.heap.size) rfl;rw [ze _ _ _ _ _ _ hb];unfold bytesRow;rw [Array.getElem?_append_left (by simpa using E)];simpa [zE] using z
theorem zeh:∀ (l:List (Option Rw)) (i:Nat) (o:Option Rw),(∀ o,o∈l->jt o)->i<l.length->(l.set i o).flatMap jZ=(l.flatMap jZ).take (i*40)++jZ o++(l.flatMap jZ).drop (i*40+40)
 | [],i,o,_,h=>by simp at h
 | x::l,0,o,hc,h=>by have u:=yT (hc x (jj ..));simp only [List.set_cons_zero,qy,Nat.zero_mul,List.take_zero,List.nil_append,qz];rw [List.drop_left' u]
 | x::l,i+1,o,hc,h=>by have u:=yT (hc x (jj ..));have D:=zeh l i o (fun y z=>hc y (ji _ z)) (by simpa using h);simp only [List.set_cons_succ,qy,D];have E:(jZ x).take ((i+1)*40)=jZ x:=jB (by omega);have L:(jZ x).drop ((i+1)*40+40)=[]:=List.drop_of_length_le (by omega);rw [List.take_append,E,u,show (i+1)*40-40=i*40 by omega,List.drop_append,L,List.nil_append,u,show (i+1)*40+40-40=i*40+40 by omega];simp
def Pg.set (p:Pg) (i:Nat) (o:Option Rw):Pg:={ p with ap:=p.ap.set i o }
theorem zjd {t n:Nat} {p:Pg} (h:p.ok) {i:Nat} {o:Option Rw} (z:i<5) :
  qk t n (p.set i o)=(qk t n p).take (3+i*40)++zE (jZ o)++(qk t n p).drop (3+i*40+40):=by
 have u:=zeh p.ap i o h.a7 (by rw [h.b3];exact z);have e:ux (p.set i o)=(ux p).take (i*40)++jZ o++(ux p).drop (i*40+40):=u;unfold qk;rw [e,yW,yW,show 3+i*40+40=(i*40+40)+1+1+1 by omega,show 3+i*40=(i*40)+1+1+1 by omega];simp only [Pg.set,List.take_succ_cons,List.drop_succ_cons,Gd,JF,List.cons_append,jf]
theorem qR.setRow {w:World} {b t n:Nat} {p:Pg} (h:qR w b t n p) (z:p.ok) {i:Nat} {o:Option Rw} (u:i<5) (D:jt o) :
  qR (w.setRow b (List.take (3+i*40) (qk t n p)++(zE (jZ o)++List.drop (3+i*40+40) (qk t n p))).toArray) b t n (p.set i o):=by
 unfold qR;rw [zjd z u,jf];exact setRow_heap _ _ _ _ _ _ h
theorem zjT (b t n i:Nat) (p:Pg) (o:Option Rw) (w:World) (h:qR w b t n p) (D:p.ok) (ho:jt o) (hi:i<5) :
  zc 125 #[.pointer (some ⟨b,0,none⟩),.int .i64 i,.string (zb (zM o))] w fun e w'=>e=.returned (.bool true)/\qR w' b t n (p.set i o)/\zz (fun k=>k=b) w w':=by
 have c6:(0:Int)<=(i:Int):=by omega
 have c7:(i:Int)<5:=by omega
 have d1:decide ((i:Int)<0)=false:=by simp
 have d2:decide ((5:Int)<=(i:Int))=false:=by simp;omega
 have R:=Qq (t:=t) (n:=n) D;obtain ⟨H,HP,a1⟩:=zi3 h D R;cases o with
 | none =>
  have hz:(zE (zs 40)).length=40:=by simp [zE,zs]
  have a7:(zb (zM none)).toList.isEmpty=true:=by rw [ByteArray.toList_eq];rfl
  clear h D R;go_enter func125,ntmps125;go_wp2_with (show wpList _ _ _ (⟨none,.store 201 (.tmp 26) (.tmp 23),_,_,_,_⟩::_) _ _;refine yM rfl 201 (.tmp 26) (.tmp 23) rfl b (3+i*40) 204 (qk t n p).toArray (zE (zs 40)).toArray (by rfl) (by rfl) H.o (by simp only [qG,a1.o,hz];omega) (by kernel_rfl) (by simpa using yr (zs 40)) ?_);go_ret;have u:=H.o.setRow HP.o (o:=none) hi trivial;have e:(zE (jZ none))=zE (zs 40):=rfl;rw [e] at u;exact ⟨rfl,u,(zz.refl (fun k=>k=b) w).setRow (.inl rfl) _⟩
 | some r =>
  have X:r.ok:=ho;have z:=QO X;have a7:(zb (zM (some r))).toList.isEmpty=false:=by
   rw [ByteArray.toList_eq];show (vf r).isEmpty=false;cases hq:vf r with
   | nil=>rw [hq] at z;simp at z
   | cons x xs=>rfl
  have Z:(zb (zM (some r))).size=40:=by rw [jm];exact z
  obtain ⟨vb,W,c5,a8,a5⟩:=zaF w (zb (zM (some r))) (by omega);have U:=Jv vb r X W a8;unfold zfv at U;obtain ⟨s1,Y⟩:=ex (zb (zM (some r)));rw [<- Y] at a7 Z c5 ⊢;obtain ⟨HW,c1,c3⟩:=zi3 a5 U Y;clear h D R a8 a5 U Y z;go_enter func125,ntmps125;go_upto_region 9 with ((with_reducible refine aV 137 c1.o ?_);rintro e1 w2 ⟨rfl,a4⟩;have a9:=hid a4;clear a4);obtain ⟨E,a0⟩:=ex (w2.alloc (.cells #[.int .i64 r.t,.string (zb r.k),.string (zb r.v)] 34));have O:zd w E:=by rw [a0];exact B_alloc (B_call HW.o a9.o) _
  rw [<- a0];have L:E.heap[b]?=some (.cells (qk t n p).toArray 204 (0,0)):=zg H.o O (zj H.o);have a3:qR E b t n p:=L;have a6:=run_copy_row_string (P:=prog) E 29 9 3 5 b (3+i*40) 40 40 s1 (qk t n p).toArray 204 underlying29 (by kernel_rfl) L (by omega) (by simp only [qG,a1.o];omega);obtain ⟨c0,c2,b9⟩:=zi3 a6 a3 O;clear a0 O L a3 a6;go_wp2_with (show wpList _ _ _ (⟨some 42,_,_,_,_,_⟩::_) _ _;refine jH rfl _ _ (Yw (.tmp 40) (.tmp 41) #[29,9] rfl (by rfl) (by rfl) c0.o) ?_);go_ret;have u:=c2.o.setRow HP.o (o:=some r) hi X;refine ⟨rfl,?_,?_⟩
  ·have e:(qk t n p).toArray.toList.take (3+i*40)++Go.Lib.byteCells s1.data.toList++(qk t n p).toArray.toList.drop (3+i*40+s1.size)=List.take (3+i*40) (qk t n p)++(zE (jZ (some r))++List.drop (3+i*40+40) (qk t n p)):=by rw [Z,jf,c3.o];rfl
   rw [<- e] at u;simpa [Z] using u
  ·exact (zz.ak (M:=fun k=>k=b) b9.o).setRow (.inl rfl) _
end Go.Proofs.YtechnoogjhohfaaGreat
