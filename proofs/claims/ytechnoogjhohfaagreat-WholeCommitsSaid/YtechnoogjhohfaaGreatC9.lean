/-
  Joined by a program from texts written one by one: part 9 of the walk through the program and of the law behind it.
-/
import Derived.Test.YtechnoogjhohfaaGreatC8
import Derived.Laws.CopyRow
import Derived.Lib.BufferWrite
set_option maxRecDepth 100000
set_option maxHeartbeats 6400000
set_option linter.unusedVariables false
set_option linter.unusedSimpArgs false
namespace Go.Proofs.YtechnoogjhohfaaGreat
open Go.RowKit Go.Lib
open YtechnoogjhohfaaGreatW
section
section
variable {P:Program}
theorem Kl (w:World) (b o:Nat) (ty t:TypeId) (cur cells:Array Value) (hb:w.heap[b]?=some (.cells cur t (0,0))) (hfit:o+cells.size<=cur.size) (hi:(P.info? ty).map (·.size)=some cells.size) (h1:∀ v∈cells.toList,v.oneCell'=true) :
  (storeVar ty ⟨b,o,none⟩ (.agg cells)).run P w=.ok () (w.setRow b (cur.toList.take o++cells.toList++cur.toList.drop (o+cells.size)).toArray):=by
 have:=run_storeCells_at P b o t cells.toList 0 cur w hb (by simpa using hfit) h1
 cases hq:P.info? ty with
 | none=>simp [hq] at hi
 | some i =>
  have hs:cells.size=i.size:=by simp [hq] at hi;omega
  simp only [Nat.add_zero,Array.length_toList] at this
  simp [storeVar,sizeOf,typeInfo,hq,Value.cells,hs] at this ⊢
  exact this
theorem um {op:Oper} {a:Act} {w:World} {K:Act->World->Prop} {Q:Exit->Act->World->Prop} (ty:TypeId) (x y:Operand) (ho:op.op=.store ty x y) (b o:Nat) (t:TypeId) (cur cells:Array Value)
  (hx:a.eval x=.pointer (some ⟨b,o,none⟩)) (hy:a.eval y=.agg cells) (hb:w.heap[b]?=some (.cells cur t (0,0))) (hfit:o+cells.size<=cur.size) (hi:(P.info? ty).map (·.size)=some cells.size) (h1:∀ v∈cells.toList,v.oneCell'=true)
  (h:K (a.put op.dst undef) (w.setRow b (cur.toList.take o++cells.toList++cur.toList.drop (o+cells.size)).toArray)):op.wp P a w K Q:=by
 unfold Oper.wp execOp
 simp only [ho,hx,hy,Instr.storeAt,Instr.sureAddr,Sem.run_bind,Sem.run_pure,Result.andThen_ok,Kl w b o ty t cur cells hb hfit hi h1]
 exact h
theorem zB {ops:Array Oper} {rest:List Oper} {op:Oper} {a:Act} {w:World} {Q:Exit->Act->World->Prop} (hgd:op.guard=none) (ty:TypeId) (x y:Operand) (ho:op.op=.store ty x y) (b o:Nat) (t:TypeId) (cur cells:Array Value)
  (hx:a.eval x=.pointer (some ⟨b,o,none⟩)) (hy:a.eval y=.agg cells) (hb:w.heap[b]?=some (.cells cur t (0,0))) (hfit:o+cells.size<=cur.size) (hi:(P.info? ty).map (·.size)=some cells.size) (h1:∀ v∈cells.toList,v.oneCell'=true)
  (h:wpList P ops Q rest (a.put op.dst undef) (w.setRow b (cur.toList.take o++cells.toList++cur.toList.drop (o+cells.size)).toArray)):wpList P ops Q (op::rest) a w :=
 wpList_plain hgd fun _ hK=>um ty x y ho b o t cur cells hx hy hb hfit hi h1 (hK _ _ h)
end
theorem ZX {P:Program} {o:Oper} {a:Act} {w w1:World} {v vx vy:Value} (x y:Operand) (ts:Array TypeId) (ho:o.op=.call { callee:=.builtin .copy,args:=#[x,y],argTypes:=ts }) (hx:a.eval x=vx) (hy:a.eval y=vy)
  (hrun:(Builtin.copy_ ts o.type #[vx,vy]).run P w=.ok v w1):(execOp a.eval o).run P w=.ok (.value v) w1:=by
 unfold execOp
 simp [ho,resolve,invoke,builtin,hx,hy,hrun]
theorem zr.setRow {M:Nat->Prop} {a b:World} (h:zr M a b) {g:Nat} (hp:M g∨a.heap.size<=g) (cs:Array Value):zr M a (b.setRow g cs) :=
 ⟨h.os,h.tape,h.output,by simpa using h.size,fun x hx hm=>(setRow_other b g x cs (fun e=>hp.elim (fun h=>hm (by rw [e];exact h)) (fun h=>by omega))).trans (h.block x hx hm)⟩
end
def qJ:Option Rw->List UInt8
 | none=>zs 40
 | some r=>jJ r
theorem jz {o:Option Rw} (h:qX o):(qJ o).length=40:=by
 cases o with
 | none=>simp [qJ,zs]
 | some r=>exact ZW h
theorem zfF {o:Option Rw}:(qJ o == zs 40)=o.isNone:=by
 cases o with
 | none=>simp [qJ]
 | some r =>
  have:=@zez r
  rw [zaW] at this
  exact this
structure Pg where
 mark:Nat
 slots:List (Option Rw)
deriving DecidableEq
structure Pg.ok (p:Pg):Prop where
 five:p.slots.length=5
 rows:∀ o,o∈p.slots->qX o
 mark:p.mark<18446744073709551616
 zero:p.mark=0->∀ o,o∈p.slots->o=none
def yH (p:Pg):List UInt8:=p.slots.flatMap qJ
def zK (t n:Nat) (p:Pg):List Value:=.int .u64 p.mark::.int .i64 t::.int .i64 n::zo (yH p)
theorem zac:∀ (l:List (Option Rw)),(∀ o,o∈l->qX o)->(l.flatMap qJ).length=l.length*40
 | [],_=>rfl
 | o::l,h=>by
  have:=zac l fun x hx=>h x (List.mem_cons_of_mem _ hx)
  rw [List.flatMap_cons,List.length_append,this,jz (h o (List.mem_cons_self ..)),List.length_cons];omega
theorem Kv:∀ (l:List (Option Rw)) (i:Nat) (o:Option Rw),(∀ o,o∈l->qX o)->l[i]?=some o->((l.flatMap qJ).drop (i*40)).take 40=qJ o
 | [],i,o,_,h=>by simp at h
 | x::l,0,o,hc,h=>by
  simp only [List.getElem?_cons_zero,Option.some.injEq] at h
  subst h
  rw [List.flatMap_cons,Nat.zero_mul,List.drop_zero,List.take_left' (jz (hc x (List.mem_cons_self ..)))]
 | x::l,i+1,o,hc,h=>by
  have hx:=jz (hc x (List.mem_cons_self ..))
  rw [List.flatMap_cons,List.drop_append,List.drop_of_length_le (by omega),List.nil_append,hx,show (i+1)*40-40=i*40 by omega]
  exact Kv l i o (fun y hy=>hc y (List.mem_cons_of_mem _ hy)) (by simpa using h)
theorem QP {p:Pg} (h:p.ok):(yH p).length=200:=by rw [yH,zac _ h.rows,h.five]
theorem ug {t n:Nat} {p:Pg} (h:p.ok):(zK t n p).length=203:=by simp [zK,qm,QP h]
def qf (w:World) (b t n:Nat) (p:Pg):Prop:=w.heap[b]?=some (.cells (zK t n p).toArray 204 (0,0))
theorem qf.slot {w:World} {b t n:Nat} {p:Pg} (h:qf w b t n p) (hp:p.ok) {i:Nat} {o:Option Rw} (ho:p.slots[i]?=some o):w.rangeAt b (3+i*40) (zo (qJ o)):=by
 intro j v hv
 rw [cell_of_row w b _ _ _ _ h,<- Kv p.slots i o hp.rows ho,<- Jn,<- Zi] at *
 rw [List.getElem?_take] at hv
 split at hv
 ·rw [List.getElem?_drop] at hv
  simp only [zK]
  rw [show 3+i*40+j=(i*40+j)+1+1+1 by omega]
  simpa [yH] using hv
 ·cases hv
theorem zjD:Tryz.prog.eqGuardType Tryz.prog.depth 201=false:=by kernel_rfl
theorem zkY (w:World):(sizeOf 5).run Tryz.prog w=.ok 1 w:=JF w
theorem zkv (w:World) (xs ys:List UInt8) (hx:xs.length=40) (hy:ys.length=40):(binOp .eql 201 (.agg (zo xs).toArray) (.agg (zo ys).toArray)).run Tryz.prog w=.ok (.bool (xs == ys)) w :=
 run_eql_bytes w 201 5 40 Tryz.underlying201 Tryz.underlying5 zkY xs ys hx hy
theorem ze.of_range {w:World} {b o n:Nat} {l:List UInt8} (h:w.rangeAt b o (zo l)) (hb:b<w.heap.size) (hn:n=l.length) (hl:l.length<=100000):ze w (.slice (some ⟨b,o,none⟩) n n) l:=by
 subst hn
 exact ⟨_,_,rfl,zx.of_range h hb,Nat.le_refl _,by unfold maxLen;omega⟩
theorem zdm (b i:Nat) (o:Option Rw) (w:World) (h:w.rangeAt b (3+i*40) (zo (qJ o))) (ho:qX o) (hb:b<w.heap.size) (hi:i<5) :
  Calls Tryz.prog 134 #[.pointer (some ⟨b,0,none⟩),.int .i64 i] w fun e w'=>e=.returned (.string (za (zt o)))/\w'=w:=by
 have hi0:(0:Int)<=(i:Int):=by omega
 have hi5:(i:Int)<5:=by omega
 have d1:decide ((i:Int)<0)=false:=by simp
 have d2:decide ((5:Int)<=(i:Int))=false:=by simp;omega
 have hlen:=jz ho
 have H:=hid h
 have heq:=zkv w (qJ o) (zs 40) hlen (by simp [zs])
 rw [zfF] at heq
 have hcv:=jr (ze.of_range (n:=40) h hb hlen.symm (by omega))
 obtain ⟨HEQ,HLEN⟩:=zi2 heq hlen
 clear h heq hlen
 go_enter Tryz.func134,Tryz.ntmps134
 go_upto_region 3 with (first
  | (show wpList _ _ _ (⟨some 21,_,_,_,_,_⟩::_) _ _;refine KV (by rfl) _ _ (qy 201 (.tmp 20) rfl b (3+i*40) (by rfl) _ _ H.out Tryz.underlying201 rfl (by rw [qm,HLEN.out];kernel_rfl)) ?_)
  | (show wpList _ _ _ (⟨some 23,_,_,_,_,_⟩::_) _ _;refine KV (by rfl) _ _ (Ys .eql 201 201 (.tmp 21) (.tmp 22) rfl _ (.agg (zo (zs 40)).toArray) _ (by rfl) (by rfl) (zeC w .eql 201 _ _ _ _ zjD) HEQ.out) ?_))
 ·go_ret
  refine ⟨?_,rfl⟩
  have e:o=none:=by cases o with | none=>rfl | some r=>simp at *
  subst e;rfl
 ·cases o with
  | none=>simp at *
  | some r =>
   go_wp2_with fail
   go_ret
   exact ⟨rfl,rfl⟩
theorem YD (w:World) (s:ByteArray) (hs:s.size<=100000):∃ v W,(convert 9 29 (.string s)).run Tryz.prog w=.ok v W/\ze W v s.data.toList/\Below w.heap.size w W:=by
 have hrun:=run_bytes_of_string (P:=Tryz.prog) w 9 29 5 s Tryz.underlying9 Tryz.underlying29 Tryz.underlying5
 have hge:=grownCap_ge w s.size 0 5
 have hmx:grownCap w s.size 0 5<=maxLen:=grownCap_le_maxLen w s.size 0 5 (by unfold maxLen;omega)
 have hl:s.data.toList.length=s.size:=by rw [Array.length_toList];rfl
 refine ⟨_,_,hrun,⟨_,_,by rw [hl],?_,by rw [hl];exact hge,hmx⟩,B_alloc (Below.refl _ _).drew _⟩
 rw [hl]
 refine ⟨by rw [qm,hl];omega,fun _=>⟨_,rfl,by simp,fun j u hu=>?_⟩⟩
 have hj:j<s.size:=by have:=(List.getElem?_eq_some_iff.1 hu).1;rw [qm,hl] at this;exact this
 rw [Addr.add_mid,Nat.zero_add]
 have hb:=zk w.drew (.cells (bytesRow s (grownCap w s.size 0 5)) 5 ((bytesRow s (grownCap w s.size 0 5)).size,(bytesRow s (grownCap w s.size 0 5)).size+1)) (n:=w.heap.size) rfl
 rw [cell_of_row _ _ _ _ _ _ hb]
 unfold bytesRow
 rw [Array.getElem?_append_left (by simpa using hj)]
 simpa [zo] using hu
theorem zad:∀ (l:List (Option Rw)) (i:Nat) (o:Option Rw),(∀ o,o∈l->qX o)->i<l.length->(l.set i o).flatMap qJ=(l.flatMap qJ).take (i*40)++qJ o++(l.flatMap qJ).drop (i*40+40)
 | [],i,o,_,h=>by simp at h
 | x::l,0,o,hc,h=>by
  have hx:=jz (hc x (List.mem_cons_self ..))
  simp only [List.set_cons_zero,List.flatMap_cons,Nat.zero_mul,List.take_zero,List.nil_append,Nat.zero_add]
  rw [List.drop_left' hx]
 | x::l,i+1,o,hc,h=>by
  have hx:=jz (hc x (List.mem_cons_self ..))
  have ih:=zad l i o (fun y hy=>hc y (List.mem_cons_of_mem _ hy)) (by simpa using h)
  simp only [List.set_cons_succ,List.flatMap_cons,ih]
  have t1:(qJ x).take ((i+1)*40)=qJ x:=List.take_of_length_le (by omega)
  have t2:(qJ x).drop ((i+1)*40+40)=[]:=List.drop_of_length_le (by omega)
  rw [List.take_append,t1,hx,show (i+1)*40-40=i*40 by omega,List.drop_append,t2,List.nil_append,hx,show (i+1)*40+40-40=i*40+40 by omega]
  simp
def Pg.set (p:Pg) (i:Nat) (o:Option Rw):Pg:={ p with slots:=p.slots.set i o }
theorem zdT {t n:Nat} {p:Pg} (h:p.ok) {i:Nat} {o:Option Rw} (hi:i<5) :
  zK t n (p.set i o)=(zK t n p).take (3+i*40)++zo (qJ o)++(zK t n p).drop (3+i*40+40):=by
 have hf:=zad p.slots i o h.rows (by rw [h.five];exact hi)
 have e:yH (p.set i o)=(yH p).take (i*40)++qJ o++(yH p).drop (i*40+40):=hf
 unfold zK
 rw [e,jF,jF,show 3+i*40+40=(i*40+40)+1+1+1 by omega,show 3+i*40=(i*40)+1+1+1 by omega]
 simp only [Pg.set,List.take_succ_cons,List.drop_succ_cons,Jn,Zi,List.cons_append,List.append_assoc]
theorem qf.setRow {w:World} {b t n:Nat} {p:Pg} (h:qf w b t n p) (hp:p.ok) {i:Nat} {o:Option Rw} (hi:i<5) (ho:qX o) :
  qf (w.setRow b (List.take (3+i*40) (zK t n p)++(zo (qJ o)++List.drop (3+i*40+40) (zK t n p))).toArray) b t n (p.set i o):=by
 unfold qf
 rw [zdT hp hi,List.append_assoc]
 exact setRow_heap _ _ _ _ _ _ h
theorem zeE (b t n i:Nat) (p:Pg) (o:Option Rw) (w:World) (h:qf w b t n p) (hp:p.ok) (ho:qX o) (hi:i<5) :
  Calls Tryz.prog 125 #[.pointer (some ⟨b,0,none⟩),.int .i64 i,.string (za (zt o))] w fun e w'=>e=.returned (.bool true)/\qf w' b t n (p.set i o)/\zr (fun k=>k=b) w w':=by
 have hi0:(0:Int)<=(i:Int):=by omega
 have hi5:(i:Int)<5:=by omega
 have d1:decide ((i:Int)<0)=false:=by simp
 have d2:decide ((5:Int)<=(i:Int))=false:=by simp;omega
 have hcl:=ug (t:=t) (n:=n) hp
 obtain ⟨H,HP,HCL⟩:=zi3 h hp hcl
 cases o with
 | none =>
  have hz:(zo (zs 40)).length=40:=by simp [zo,zs]
  have hem:(za (zt none)).toList.isEmpty=true:=by rw [ByteArray.toList_eq];rfl
  clear h hp hcl
  go_enter Tryz.func125,Tryz.ntmps125
  go_wp2_with (show wpList _ _ _ (⟨none,.store 201 (.tmp 26) (.tmp 23),_,_,_,_⟩::_) _ _;refine zB rfl 201 (.tmp 26) (.tmp 23) rfl b (3+i*40) 204 (zK t n p).toArray (zo (zs 40)).toArray (by rfl) (by rfl) H.out (by simp only [List.size_toArray,HCL.out,hz];omega) (by kernel_rfl) (by simpa using jb (zs 40)) ?_)
  go_ret
  have h1:=H.out.setRow HP.out (o:=none) hi trivial
  have e:(zo (qJ none))=zo (zs 40):=rfl
  rw [e] at h1
  exact ⟨rfl,h1,(zr.refl (fun k=>k=b) w).setRow (.inl rfl) _⟩
 | some r =>
  have hro:r.ok:=ho
  have hl:=ZW hro
  have hem:(za (zt (some r))).toList.isEmpty=false:=by
   rw [ByteArray.toList_eq]
   show (jJ r).isEmpty=false
   cases hq:jJ r with
   | nil=>rw [hq] at hl;simp at hl
   | cons x xs=>rfl
  have hsz:(za (zt (some r))).size=40:=by rw [qt];exact hl
  obtain ⟨vb,W,hconv,hinb,hbW⟩:=YD w (za (zt (some r))) (by omega)
  have hdec:=Ze vb r hro W hinb
  unfold ui at hdec
  obtain ⟨s1,hs1⟩:∃ s,s=za (zt (some r)):=⟨_,rfl⟩
  rw [<- hs1] at hem hsz hconv ⊢
  obtain ⟨HW,HDEC,HS1⟩:=zi3 hbW hdec hs1
  clear h hp hcl hinb hbW hdec hs1 hl
  go_enter Tryz.func125,Tryz.ntmps125
  go_upto_region 9 with (go_at_call 137;(with_reducible refine HDEC.out.mono ?_);rintro e1 w2 ⟨rfl,hb2⟩;have HB2:=hid hb2;clear hb2)
  obtain ⟨w3,hw3⟩:∃ w3,w3=w2.alloc (.cells #[.int .i64 r.t,.string (za r.k),.string (za r.v)] 34):=⟨_,rfl⟩
  have hbw3:Below w.heap.size w w3:=by rw [hw3];exact B_alloc (B_call HW.out HB2.out) _
  rw [<- hw3]
  have hP3:w3.heap[b]?=some (.cells (zK t n p).toArray 204 (0,0)):=zb H.out hbw3 (zd H.out)
  have hHP3:qf w3 b t n p:=hP3
  have hcp:=run_copy_row_string (P:=Tryz.prog) w3 29 9 3 5 b (3+i*40) 40 40 s1 (zK t n p).toArray 204 Tryz.underlying29 (by kernel_rfl) hP3 (by omega) (by simp only [List.size_toArray,HCL.out];omega)
  obtain ⟨HCP,HP3,HBW3⟩:=zi3 hcp hHP3 hbw3
  clear hw3 hbw3 hP3 hHP3 hcp
  go_wp2_with (show wpList _ _ _ (⟨some 42,_,_,_,_,_⟩::_) _ _;refine zZ rfl _ _ (ZX (.tmp 40) (.tmp 41) #[29,9] rfl (by rfl) (by rfl) HCP.out) ?_)
  go_ret
  have h1:=HP3.out.setRow HP.out (o:=some r) hi hro
  refine ⟨rfl,?_,?_⟩
  ·have e:(zK t n p).toArray.toList.take (3+i*40)++Go.Lib.byteCells s1.data.toList++(zK t n p).toArray.toList.drop (3+i*40+s1.size)=List.take (3+i*40) (zK t n p)++(zo (qJ (some r))++List.drop (3+i*40+40) (zK t n p)):=by
    rw [hsz,List.append_assoc,HS1.out];rfl
   rw [<- e] at h1
   simpa [hsz] using h1
  ·exact (zr.of_below (M:=fun k=>k=b) HBW3.out).setRow (.inl rfl) _
end Go.Proofs.YtechnoogjhohfaaGreat
