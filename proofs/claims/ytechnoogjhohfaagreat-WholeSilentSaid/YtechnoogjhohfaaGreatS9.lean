import Derived.Test.YtechnoogjhohfaaGreatS8
import Derived.Laws.CopyRow
import Derived.Lib.BufferWrite
set_option maxRecDepth 100000
set_option maxHeartbeats 6400000
set_option linter.unusedVariables false
set_option linter.unusedSimpArgs false
namespace Go.Proofs.YtechnoogjhohfaaGreat
open Go.RowKit Go.Lib
open YtechnoogjhohfaaGreatW Go.Proofs.Tryz Go.Proofs.YtechnoogjhohfaaGreat.Tryz
section
section
variable {P:Program}
theorem zbr (w:World) (b o:Nat) (ty t:TypeId) (cur h:Array Value) (hb:w.heap[b]?=some (.cells cur t (0,0))) (hfit:o+h.size<=cur.size) (z:(P.info? ty).map (·.size)=some h.size) (D:∀ v∈h.toList,v.oneCell'=true) :
  (storeVar ty ⟨b,o,none⟩ (.agg h)).run P w=.ok () (w.setRow b (cur.toList.take o++h.toList++cur.toList.drop (o+h.size)).toArray):=by
 have:=run_storeCells_at P b o t h.toList 0 cur w hb (by simpa using hfit) D;cases u:P.info? ty with
 | none=>simp [u] at z
 | some i =>
  have hs:h.size=i.size:=by simp [u] at z;omega
  simp only [Nat.add_zero,Array.length_toList] at this;simp [storeVar,sizeOf,typeInfo,u,Value.cells,hs] at this ⊢;exact this
theorem vV {op:Oper} {a:Act} {w:World} {K:Act->World->Prop} {Q:Exit->Act->World->Prop} (ty:TypeId) (x y:Operand) (E:op.op=.store ty x y) (b o:Nat) (t:TypeId) (cur u:Array Value)
  (L:a.eval x=.pointer (some ⟨b,o,none⟩)) (O:a.eval y=.agg u) (hb:w.heap[b]?=some (.cells cur t (0,0))) (hfit:o+u.size<=cur.size) (D:(P.info? ty).map (·.size)=some u.size) (z:∀ v∈u.toList,v.oneCell'=true)
  (h:K (a.put op.dst undef) (w.setRow b (cur.toList.take o++u.toList++cur.toList.drop (o+u.size)).toArray)):op.wp P a w K Q:=by
 unfold Oper.wp execOp;simp only [E,L,O,Instr.storeAt,Instr.sureAddr,Sem.run_bind,Sem.run_pure,vi,zbr w b o ty t cur u hb hfit D z];exact h
theorem yL {ops:Array Oper} {rest:List Oper} {op:Oper} {a:Act} {w:World} {Q:Exit->Act->World->Prop} (E:op.guard=none) (ty:TypeId) (x y:Operand) (O:op.op=.store ty x y) (b o:Nat) (t:TypeId) (cur u:Array Value)
  (R:a.eval x=.pointer (some ⟨b,o,none⟩)) (U:a.eval y=.agg u) (hb:w.heap[b]?=some (.cells cur t (0,0))) (hfit:o+u.size<=cur.size) (L:(P.info? ty).map (·.size)=some u.size) (z:∀ v∈u.toList,v.oneCell'=true)
  (h:wpList P ops Q rest (a.put op.dst undef) (w.setRow b (cur.toList.take o++u.toList++cur.toList.drop (o+u.size)).toArray)):wpList P ops Q (op::rest) a w :=
 wpList_plain E fun _ D=>vV ty x y O b o t cur u R U hb hfit L z (D _ _ h)
end
theorem Yt {P:Program} {o:Oper} {a:Act} {w w1:World} {v h u:Value} (x y:Operand) (ts:Array TypeId) (z:o.op=.call { callee:=.builtin .copy,args:=#[x,y],argTypes:=ts }) (E:a.eval x=h) (L:a.eval y=u)
  (D:(Builtin.copy_ ts o.type #[h,u]).run P w=.ok v w1):(execOp a.eval o).run P w=.ok (.value v) w1:=by
 unfold execOp;simp [z,resolve,invoke,builtin,E,L,D]
theorem zA.setRow {M:Nat->Prop} {a b:World} (h:zA M a b) {g:Nat} (u:M g∨a.heap.size<=g) (cs:Array Value):zA M a (b.setRow g cs) :=
 ⟨h.os,h.tape,h.output,by simpa using h.size,fun x z hm=>(setRow_other b g x cs (fun e=>u.elim (fun h=>hm (by rw [e];exact h)) (fun h=>by omega))).trans (h.block x z hm)⟩
end
theorem wV {P:Program} {ops:Array Oper} {Q:Exit->Act->World->Prop} {a:Act} {w:World} {rest:List Oper} {t z:TypeId} {p:String} {D:Array Edge} {y:Operand} {X:Tmp} (o:Nat) (u:Array Value) {b:Nat} {ct:TypeId} {cur:Array Value} (hb:w.heap[b]?=some (.cells cur ct (0,0)))
  (h:wpList P ops Q rest (a.put none undef) (w.setRow b (cur.toList.take o++u.toList++cur.toList.drop (o+u.size)).toArray)) (O:a.eval (.tmp X)=.pointer (some ⟨b,o,none⟩):=by rfl) (R:a.eval y=.agg u:=by rfl) (hfit:o+u.size<=cur.size:=by exact Nat.le_of_ble_eq_true rfl) (L:(P.info? z).map (·.size)=some u.size:=by kernel_rfl) (E:∀ v∈u.toList,v.oneCell'=true:=by exact List.all_eq_true.1 rfl) :
  wpList P ops Q (⟨none,.store z (.tmp X) y,t,p,D,none⟩::rest) a w :=
 yL rfl z (.tmp X) y rfl b o ct cur u O R hb hfit L E h
def jV:Option Rw->List UInt8
 | none=>zs 40
 | some r=>yZ r
theorem yS {o:Option Rw} (h:js o):(jV o).length=40:=by
 cases o with
 | none=>simp [jV,zs]
 | some r=>exact QI h
theorem zkJ {o:Option Rw}:(jV o == zs 40)=o.isNone:=by
 cases o with
 | none=>simp [jV]
 | some r =>have:=@zjs r;rw [zcC] at this;exact this
structure Pg where
 mark:Nat
 ap:List (Option Rw)
deriving DecidableEq
structure Pg.ok (p:Pg):Prop where
 b5:p.ap.length=5
 a7:∀ o,o∈p.ap->js o
 mark:p.mark<18446744073709551616
 zero:p.mark=0->∀ o,o∈p.ap->o=none
def uu (p:Pg):List UInt8:=p.ap.flatMap jV
def qj (t n:Nat) (p:Pg):List Value:=.int .u64 p.mark::.int .i64 t::.int .i64 n::zD (uu p)
theorem zdS:∀ (l:List (Option Rw)),(∀ o,o∈l->js o)->(l.flatMap jV).length=l.length*40
 | [],_=>rfl
 | o::l,h=>by have:=zdS l fun x u=>h x (jh _ u);rw [qC,zl,this,yS (h o (ji ..)),qc];omega
theorem zbJ:∀ (l:List (Option Rw)) (i:Nat) (o:Option Rw),(∀ o,o∈l->js o)->l[i]?=some o->((l.flatMap jV).drop (i*40)).take 40=jV o
 | [],i,o,_,h=>by simp at h
 | x::l,0,o,hc,h=>by simp only [List.getElem?_cons_zero,jd] at h;subst h;rw [qC,Nat.zero_mul,List.drop_zero,List.take_left' (yS (hc x (ji ..)))]
 | x::l,i+1,o,hc,h=>by have u:=yS (hc x (ji ..));rw [qC,List.drop_append,List.drop_of_length_le (by omega),List.nil_append,u,show (i+1)*40-40=i*40 by omega];exact zbJ l i o (fun y z=>hc y (jh _ z)) (by simpa using h)
theorem Ku {p:Pg} (h:p.ok):(uu p).length=200:=by rw [uu,zdS _ h.a7,h.b5]
theorem Qk {t n:Nat} {p:Pg} (h:p.ok):(qj t n p).length=203:=by simp [qj,jf,Ku h]
def qS (w:World) (b t n:Nat) (p:Pg):Prop:=w.heap[b]?=some (.cells (qj t n p).toArray 204 (0,0))
theorem qS.slot {w:World} {b t n:Nat} {p:Pg} (h:qS w b t n p) (D:p.ok) {i:Nat} {o:Option Rw} (z:p.ap[i]?=some o):w.rangeAt b (3+i*40) (zD (jV o)):=by
 intro j v u;rw [ze w b _ _ _ _ h,<- zbJ p.ap i o D.a7 z,<- Gc,<- JA] at *;rw [List.getElem?_take] at u;split at u
 ·rw [List.getElem?_drop] at u;simp only [qj];rw [show 3+i*40+j=(i*40+j)+1+1+1 by omega];simpa [uu] using u
 ·cases u
theorem zoJ:prog.eqGuardType prog.depth 201=false:=by kernel_rfl
theorem zqH (w:World):(sizeOf 5).run prog w=.ok 1 w:=Gy w
theorem zqd (w:World) (xs h:List UInt8) (u:xs.length=40) (z:h.length=40):(binOp .eql 201 (.agg (zD xs).toArray) (.agg (zD h).toArray)).run prog w=.ok (.bool (xs == h)) w :=
 run_eql_bytes w 201 5 40 underlying201 underlying5 zqH xs h u z
theorem zj.cd {w:World} {b o n:Nat} {l:List UInt8} (h:w.rangeAt b o (zD l)) (hb:b<w.heap.size) (u:n=l.length) (z:l.length<=100000):zj w (.slice (some ⟨b,o,none⟩) n n) l:=by subst u;exact ⟨_,_,rfl,zL.cd h hb,za _,by unfold maxLen;omega⟩
theorem zhX (b i:Nat) (o:Option Rw) (w:World) (h:w.rangeAt b (3+i*40) (zD (jV o))) (E:js o) (hb:b<w.heap.size) (U:i<5) :
  zc 134 #[.pointer (some ⟨b,0,none⟩),.int .i64 i] w fun e w'=>e=.returned (.string (zb (zM o)))/\w'=w:=by
 have X:(0:Int)<=(i:Int):=by omega
 have Y:(i:Int)<5:=by omega
 have L:decide ((i:Int)<0)=false:=by simp
 have O:decide ((5:Int)<=(i:Int))=false:=by simp;omega
 have hlen:=yS E;have H:=hid h;have u:=zqd w (jV o) (zs 40) hlen (by simp [zs]);rw [zkJ] at u;have R:=yh (zj.cd (n:=40) h hb hlen.symm (by omega));obtain ⟨z,D⟩:=zi2 u hlen;clear h u hlen;go_enter func134,ntmps134;go_upto_region 3 with (first|(show wpList _ _ _ (⟨some 21,_,_,_,_,_⟩::_) _ _;refine Ye (by rfl) _ _ (us 201 (.tmp 20) rfl b (3+i*40) (by rfl) _ _ H.o underlying201 rfl (by rw [jf,D.o];kernel_rfl)) ?_)|(show wpList _ _ _ (⟨some 23,_,_,_,_,_⟩::_) _ _;refine Ye (by rfl) _ _ (KC .eql 201 201 (.tmp 21) (.tmp 22) rfl _ (.agg (zD (zs 40)).toArray) _ (by rfl) (by rfl) (zfk w .eql 201 _ _ _ _ zoJ) z.o) ?_))
 ·go_ret;refine ⟨?_,rfl⟩;have e:o=none:=by cases o with | none=>rfl | some r=>simp at *
  subst e;rfl
 ·cases o with
  | none=>simp at *
  | some r =>go_wp2_with fail;go_ret;exact ⟨rfl,rfl⟩
theorem zaA (w:World) (s:ByteArray) (hs:s.size<=100000):∃ v W,(convert 9 29 (.string s)).run prog w=.ok v W/\zj W v s.data.toList/\zd w W:=by
 have O:=run_bytes_of_string (P:=prog) w 9 29 5 s underlying9 underlying29 underlying5;have D:=grownCap_ge w s.size 0 5;have L:grownCap w s.size 0 5<=maxLen:=grownCap_le_maxLen w s.size 0 5 (by unfold maxLen;omega);have h:s.data.toList.length=s.size:=by rw [Array.length_toList];rfl
 refine ⟨_,_,O,⟨_,_,by rw [h],?_,by rw [h];exact D,L⟩,B_alloc (zf _ _).drew _⟩;rw [h];refine ⟨by rw [jf,h];omega,fun _=>⟨_,rfl,by simp,fun j u z=>?_⟩⟩;have E:j<s.size:=by have:=(zr.1 z).1;rw [jf,h] at this;exact this
 rw [Addr.add_mid,qy];have hb:=zo w.drew (.cells (bytesRow s (grownCap w s.size 0 5)) 5 ((bytesRow s (grownCap w s.size 0 5)).size,(bytesRow s (grownCap w s.size 0 5)).size+1)) (n:=w.heap.size) rfl;rw [ze _ _ _ _ _ _ hb];unfold bytesRow;rw [Array.getElem?_append_left (by simpa using E)];simpa [zD] using z
theorem zdT:∀ (l:List (Option Rw)) (i:Nat) (o:Option Rw),(∀ o,o∈l->js o)->i<l.length->(l.set i o).flatMap jV=(l.flatMap jV).take (i*40)++jV o++(l.flatMap jV).drop (i*40+40)
 | [],i,o,_,h=>by simp at h
 | x::l,0,o,hc,h=>by have u:=yS (hc x (ji ..));simp only [List.set_cons_zero,qC,Nat.zero_mul,List.take_zero,List.nil_append,qy];rw [List.drop_left' u]
 | x::l,i+1,o,hc,h=>by have u:=yS (hc x (ji ..));have D:=zdT l i o (fun y z=>hc y (jh _ z)) (by simpa using h);simp only [List.set_cons_succ,qC,D];have E:(jV x).take ((i+1)*40)=jV x:=jG (by omega);have L:(jV x).drop ((i+1)*40+40)=[]:=List.drop_of_length_le (by omega);rw [List.take_append,E,u,show (i+1)*40-40=i*40 by omega,List.drop_append,L,List.nil_append,u,show (i+1)*40+40-40=i*40+40 by omega];simp
def Pg.set (p:Pg) (i:Nat) (o:Option Rw):Pg:={ p with ap:=p.ap.set i o }
theorem ziJ {t n:Nat} {p:Pg} (h:p.ok) {i:Nat} {o:Option Rw} (z:i<5) :
  qj t n (p.set i o)=(qj t n p).take (3+i*40)++zD (jV o)++(qj t n p).drop (3+i*40+40):=by
 have u:=zdT p.ap i o h.a7 (by rw [h.b5];exact z);have e:uu (p.set i o)=(uu p).take (i*40)++jV o++(uu p).drop (i*40+40):=u;unfold qj;rw [e,yV,yV,show 3+i*40+40=(i*40+40)+1+1+1 by omega,show 3+i*40=(i*40)+1+1+1 by omega];simp only [Pg.set,List.take_succ_cons,List.drop_succ_cons,Gc,JA,List.cons_append,jq]
theorem qS.setRow {w:World} {b t n:Nat} {p:Pg} (h:qS w b t n p) (z:p.ok) {i:Nat} {o:Option Rw} (u:i<5) (D:js o) :
  qS (w.setRow b (List.take (3+i*40) (qj t n p)++(zD (jV o)++List.drop (3+i*40+40) (qj t n p))).toArray) b t n (p.set i o):=by
 unfold qS;rw [ziJ z u,jq];exact setRow_heap _ _ _ _ _ _ h
theorem zjy (b t n i:Nat) (p:Pg) (o:Option Rw) (w:World) (h:qS w b t n p) (D:p.ok) (ho:js o) (hi:i<5) :
  zc 125 #[.pointer (some ⟨b,0,none⟩),.int .i64 i,.string (zb (zM o))] w fun e w'=>e=.returned (.bool true)/\qS w' b t n (p.set i o)/\zA (fun k=>k=b) w w':=by
 have c5:(0:Int)<=(i:Int):=by omega
 have c6:(i:Int)<5:=by omega
 have d1:decide ((i:Int)<0)=false:=by simp
 have d2:decide ((5:Int)<=(i:Int))=false:=by simp;omega
 have R:=Qk (t:=t) (n:=n) D;obtain ⟨H,HP,a1⟩:=zi3 h D R;cases o with
 | none =>
  have hz:(zD (zs 40)).length=40:=by simp [zD,zs]
  have a7:(zb (zM none)).toList.isEmpty=true:=by rw [ByteArray.toList_eq];rfl
  clear h D R;go_enter func125,ntmps125;go_wp2_with (show wpList _ _ _ (⟨none,.store 201 (.tmp 26) (.tmp 23),_,_,_,_⟩::_) _ _;refine yL rfl 201 (.tmp 26) (.tmp 23) rfl b (3+i*40) 204 (qj t n p).toArray (zD (zs 40)).toArray (by rfl) (by rfl) H.o (by simp only [qH,a1.o,hz];omega) (by kernel_rfl) (by simpa using yp (zs 40)) ?_);go_ret;have u:=H.o.setRow HP.o (o:=none) hi trivial;have e:(zD (jV none))=zD (zs 40):=rfl;rw [e] at u;exact ⟨rfl,u,(zA.refl (fun k=>k=b) w).setRow (.inl rfl) _⟩
 | some r =>
  have X:r.ok:=ho;have z:=QI X;have a7:(zb (zM (some r))).toList.isEmpty=false:=by
   rw [ByteArray.toList_eq];show (yZ r).isEmpty=false;cases hq:yZ r with
   | nil=>rw [hq] at z;simp at z
   | cons x xs=>rfl
  have Z:(zb (zM (some r))).size=40:=by rw [jt];exact z
  obtain ⟨vb,W,c4,a8,a5⟩:=zaA w (zb (zM (some r))) (by omega);have U:=Jp vb r X W a8;unfold zfg at U;obtain ⟨s1,Y⟩:=ex (zb (zM (some r)));rw [<- Y] at a7 Z c4 ⊢;obtain ⟨HW,c1,c3⟩:=zi3 a5 U Y;clear h D R a8 a5 U Y z;go_enter func125,ntmps125;go_upto_region 9 with ((with_reducible refine aV 137 c1.o ?_);rintro e1 w2 ⟨rfl,a4⟩;have a9:=hid a4;clear a4);obtain ⟨E,a0⟩:=ex (w2.alloc (.cells #[.int .i64 r.t,.string (zb r.k),.string (zb r.v)] 34));have O:zd w E:=by rw [a0];exact B_alloc (B_call HW.o a9.o) _
  rw [<- a0];have L:E.heap[b]?=some (.cells (qj t n p).toArray 204 (0,0)):=zg H.o O (zi H.o);have a3:qS E b t n p:=L;have a6:=run_copy_row_string (P:=prog) E 29 9 3 5 b (3+i*40) 40 40 s1 (qj t n p).toArray 204 underlying29 (by kernel_rfl) L (by omega) (by simp only [qH,a1.o];omega);obtain ⟨c0,c2,b9⟩:=zi3 a6 a3 O;clear a0 O L a3 a6;go_wp2_with (show wpList _ _ _ (⟨some 42,_,_,_,_,_⟩::_) _ _;refine jE rfl _ _ (Yt (.tmp 40) (.tmp 41) #[29,9] rfl (by rfl) (by rfl) c0.o) ?_);go_ret;have u:=c2.o.setRow HP.o (o:=some r) hi X;refine ⟨rfl,?_,?_⟩
  ·have e:(qj t n p).toArray.toList.take (3+i*40)++Go.Lib.byteCells s1.data.toList++(qj t n p).toArray.toList.drop (3+i*40+s1.size)=List.take (3+i*40) (qj t n p)++(zD (jV (some r))++List.drop (3+i*40+40) (qj t n p)):=by rw [Z,jq,c3.o];rfl
   rw [<- e] at u;simpa [Z] using u
  ·exact (zA.ak (M:=fun k=>k=b) b9.o).setRow (.inl rfl) _
end Go.Proofs.YtechnoogjhohfaaGreat
