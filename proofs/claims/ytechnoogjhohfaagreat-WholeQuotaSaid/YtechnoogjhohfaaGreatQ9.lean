/-
  Joined by a program from texts written one by one: part 9 of the walk through the program and of the law behind it.
-/
import Derived.Test.YtechnoogjhohfaaGreatQ8
import Derived.Laws.CopyRow
import Derived.Lib.BufferWrite
set_option maxRecDepth 100000
set_option maxHeartbeats 6400000
set_option linter.unusedVariables false
set_option linter.unusedSimpArgs false
namespace Go.Proofs.YtechnoogjhohfaaGreat
open Go.RowKit Go.Lib
open YtechnoogjhohfaaGreatW
section
section
variable {P:Program}
theorem run_storeVar_midrow (w:World) (b o:Nat) (ty t:TypeId) (cur cells:Array Value) (hb:w.heap[b]?=some (.cells cur t (0,0))) (hfit:o+cells.size≤cur.size) (hi:(P.info? ty).map (·.size)=some cells.size) (h1:∀ v∈cells.toList,v.oneCell'=true) :
  (storeVar ty ⟨b,o,none⟩ (.agg cells)).run P w=.ok () (w.setRow b (cur.toList.take o++cells.toList++cur.toList.drop (o+cells.size)).toArray):=by
 have:=run_storeCells_at P b o t cells.toList 0 cur w hb (by simpa using hfit) h1
 cases hq:P.info? ty with
 | none=>simp [hq] at hi
 | some i =>
  have hs:cells.size=i.size:=by simp [hq] at hi;omega
  simp only [Nat.add_zero,Array.length_toList] at this
  simp [storeVar,sizeOf,typeInfo,hq,Value.cells,hs] at this ⊢
  exact this
theorem wp_store_midrow {op:Oper} {a:Act} {w:World} {K:Act→World→Prop} {Q:Exit→Act→World→Prop} (ty:TypeId) (x y:Operand) (ho:op.op=.store ty x y) (b o:Nat) (t:TypeId) (cur cells:Array Value)
  (hx:a.eval x=.pointer (some ⟨b,o,none⟩)) (hy:a.eval y=.agg cells) (hb:w.heap[b]?=some (.cells cur t (0,0))) (hfit:o+cells.size≤cur.size) (hi:(P.info? ty).map (·.size)=some cells.size) (h1:∀ v∈cells.toList,v.oneCell'=true)
  (h:K (a.put op.dst undef) (w.setRow b (cur.toList.take o++cells.toList++cur.toList.drop (o+cells.size)).toArray)):op.wp P a w K Q:=by
 unfold Oper.wp execOp
 simp only [ho,hx,hy,Instr.storeAt,Instr.sureAddr,Sem.run_bind,Sem.run_pure,Result.andThen_ok,run_storeVar_midrow w b o ty t cur cells hb hfit hi h1]
 exact h
theorem wpList_store_midrow {ops:Array Oper} {rest:List Oper} {op:Oper} {a:Act} {w:World} {Q:Exit→Act→World→Prop} (hgd:op.guard=none) (ty:TypeId) (x y:Operand) (ho:op.op=.store ty x y) (b o:Nat) (t:TypeId) (cur cells:Array Value)
  (hx:a.eval x=.pointer (some ⟨b,o,none⟩)) (hy:a.eval y=.agg cells) (hb:w.heap[b]?=some (.cells cur t (0,0))) (hfit:o+cells.size≤cur.size) (hi:(P.info? ty).map (·.size)=some cells.size) (h1:∀ v∈cells.toList,v.oneCell'=true)
  (h:wpList P ops Q rest (a.put op.dst undef) (w.setRow b (cur.toList.take o++cells.toList++cur.toList.drop (o+cells.size)).toArray)):wpList P ops Q (op::rest) a w :=
 wpList_plain hgd fun _ hK=>wp_store_midrow ty x y ho b o t cur cells hx hy hb hfit hi h1 (hK _ _ h)
end
theorem run_copy {P:Program} {o:Oper} {a:Act} {w w1:World} {v vx vy:Value} (x y:Operand) (ts:Array TypeId) (ho:o.op=.call { callee:=.builtin .copy,args:=#[x,y],argTypes:=ts }) (hx:a.eval x=vx) (hy:a.eval y=vy)
  (hrun:(Builtin.copy_ ts o.type #[vx,vy]).run P w=.ok v w1):(execOp a.eval o).run P w=.ok (.value v) w1:=by
 unfold execOp
 simp [ho,resolve,invoke,builtin,hx,hy,hrun]
theorem Keep.setRow {M:Nat→Prop} {a b:World} (h:Keep M a b) {g:Nat} (hp:M g∨a.heap.size≤g) (cs:Array Value):Keep M a (b.setRow g cs) :=
 ⟨h.os,h.tape,h.output,by simpa using h.size,fun x hx hm=>(setRow_other b g x cs (fun e=>hp.elim (fun h=>hm (by rw [e];exact h)) (fun h=>by omega))).trans (h.block x hx hm)⟩
end
def slotB:Option Rw→List UInt8
 | none=>zs 40
 | some r=>rowB r
theorem slotB_len {o:Option Rw} (h:cellOk o):(slotB o).length=40:=by
 cases o with
 | none=>simp [slotB,zs]
 | some r=>exact rowB_len h
theorem slotB_zero {o:Option Rw}:(slotB o == zs 40)=o.isNone:=by
 cases o with
 | none=>simp [slotB]
 | some r =>
  have:=@rowB_ne r
  rw [strU_eq] at this
  exact this
structure Pg where
 mark:Nat
 slots:List (Option Rw)
deriving DecidableEq
structure Pg.ok (p:Pg):Prop where
 five:p.slots.length=5
 rows:∀ o,o∈p.slots→cellOk o
 mark:p.mark<18446744073709551616
 zero:p.mark=0→∀ o,o∈p.slots→o=none
def slotsB (p:Pg):List UInt8:=p.slots.flatMap slotB
def pgCells (t n:Nat) (p:Pg):List Value:=.int .u64 p.mark::.int .i64 t::.int .i64 n::u8s (slotsB p)
theorem flat40_len:∀ (l:List (Option Rw)),(∀ o,o∈l→cellOk o)→(l.flatMap slotB).length=l.length*40
 | [],_=>rfl
 | o::l,h=>by
  have:=flat40_len l fun x hx=>h x (List.mem_cons_of_mem _ hx)
  rw [List.flatMap_cons,List.length_append,this,slotB_len (h o (List.mem_cons_self ..)),List.length_cons];omega
theorem flat40_at:∀ (l:List (Option Rw)) (i:Nat) (o:Option Rw),(∀ o,o∈l→cellOk o)→l[i]?=some o→((l.flatMap slotB).drop (i*40)).take 40=slotB o
 | [],i,o,_,h=>by simp at h
 | x::l,0,o,hc,h=>by
  simp only [List.getElem?_cons_zero,Option.some.injEq] at h
  subst h
  rw [List.flatMap_cons,Nat.zero_mul,List.drop_zero,List.take_left' (slotB_len (hc x (List.mem_cons_self ..)))]
 | x::l,i+1,o,hc,h=>by
  have hx:=slotB_len (hc x (List.mem_cons_self ..))
  rw [List.flatMap_cons,List.drop_append,List.drop_of_length_le (by omega),List.nil_append,hx,show (i+1)*40-40=i*40 by omega]
  exact flat40_at l i o (fun y hy=>hc y (List.mem_cons_of_mem _ hy)) (by simpa using h)
theorem slotsB_len {p:Pg} (h:p.ok):(slotsB p).length=200:=by rw [slotsB,flat40_len _ h.rows,h.five]
theorem pgCells_len {t n:Nat} {p:Pg} (h:p.ok):(pgCells t n p).length=203:=by simp [pgCells,u8s_len,slotsB_len h]
def PageAt (w:World) (b t n:Nat) (p:Pg):Prop:=w.heap[b]?=some (.cells (pgCells t n p).toArray 204 (0,0))
theorem PageAt.slot {w:World} {b t n:Nat} {p:Pg} (h:PageAt w b t n p) (hp:p.ok) {i:Nat} {o:Option Rw} (ho:p.slots[i]?=some o):w.rangeAt b (3+i*40) (u8s (slotB o)):=by
 intro j v hv
 rw [cell_of_row w b _ _ _ _ h,← flat40_at p.slots i o hp.rows ho,← u8s_take,← u8s_drop] at *
 rw [List.getElem?_take] at hv
 split at hv
 ·rw [List.getElem?_drop] at hv
  simp only [pgCells]
  rw [show 3+i*40+j=(i*40+j)+1+1+1 by omega]
  simpa [slotsB] using hv
 ·cases hv
theorem elem201:Tryz.prog.eqGuardType Tryz.prog.depth 201=false:=by kernel_rfl
theorem size5' (w:World):(sizeOf 5).run Tryz.prog w=.ok 1 w:=run_size5 w
theorem eql201 (w:World) (xs ys:List UInt8) (hx:xs.length=40) (hy:ys.length=40):(binOp .eql 201 (.agg (u8s xs).toArray) (.agg (u8s ys).toArray)).run Tryz.prog w=.ok (.bool (xs == ys)) w :=
 run_eql_bytes w 201 5 40 Tryz.underlying201 Tryz.underlying5 size5' xs ys hx hy
theorem BytesIn.of_range {w:World} {b o n:Nat} {l:List UInt8} (h:w.rangeAt b o (u8s l)) (hb:b<w.heap.size) (hn:n=l.length) (hl:l.length≤100000):BytesIn w (.slice (some ⟨b,o,none⟩) n n) l:=by
 subst hn
 exact ⟨_,_,rfl,Reads.of_range h hb,Nat.le_refl _,by unfold maxLen;omega⟩
theorem slot_any (b i:Nat) (o:Option Rw) (w:World) (h:w.rangeAt b (3+i*40) (u8s (slotB o))) (ho:cellOk o) (hb:b<w.heap.size) (hi:i<5) :
  Calls Tryz.prog 134 #[.pointer (some ⟨b,0,none⟩),.int .i64 i] w fun e w'=>e=.returned (.string (strU (cellL o)))∧w'=w:=by
 have hi0:(0:Int)≤(i:Int):=by omega
 have hi5:(i:Int)<5:=by omega
 have d1:decide ((i:Int)<0)=false:=by simp
 have d2:decide ((5:Int)≤(i:Int))=false:=by simp;omega
 have hlen:=slotB_len ho
 have H:=hid h
 have heq:=eql201 w (slotB o) (zs 40) hlen (by simp [zs])
 rw [slotB_zero] at heq
 have hcv:=conv_str (BytesIn.of_range (n:=40) h hb hlen.symm (by omega))
 obtain ⟨HEQ,HLEN⟩:=zi2 heq hlen
 clear h heq hlen
 go_enter Tryz.func134,Tryz.ntmps134
 go_upto_region 3 with (first
  | (show wpList _ _ _ (⟨some 21,_,_,_,_,_⟩::_) _ _;refine wpList_run_g (by rfl) _ _ (run_load_mid 201 (.tmp 20) rfl b (3+i*40) (by rfl) _ _ H.out Tryz.underlying201 rfl (by rw [u8s_len,HLEN.out];kernel_rfl)) ?_)
  | (show wpList _ _ _ (⟨some 23,_,_,_,_,_⟩::_) _ _;refine wpList_run_g (by rfl) _ _ (run_bin .eql 201 201 (.tmp 21) (.tmp 22) rfl _ (.agg (u8s (zs 40)).toArray) _ (by rfl) (by rfl) (run_eqg w .eql 201 _ _ _ _ elem201) HEQ.out) ?_))
 ·go_ret
  refine ⟨?_,rfl⟩
  have e:o=none:=by cases o with | none=>rfl | some r=>simp at *
  subst e;rfl
 ·cases o with
  | none=>simp at *
  | some r =>
   go_wp2_with fail
   go_ret
   exact ⟨rfl,rfl⟩
theorem conv_bytes (w:World) (s:ByteArray) (hs:s.size≤100000):∃ v W,(convert 9 29 (.string s)).run Tryz.prog w=.ok v W∧BytesIn W v s.data.toList∧Below w.heap.size w W:=by
 have hrun:=run_bytes_of_string (P:=Tryz.prog) w 9 29 5 s Tryz.underlying9 Tryz.underlying29 Tryz.underlying5
 have hge:=grownCap_ge w s.size 0 5
 have hmx:grownCap w s.size 0 5≤maxLen:=grownCap_le_maxLen w s.size 0 5 (by unfold maxLen;omega)
 have hl:s.data.toList.length=s.size:=by rw [Array.length_toList];rfl
 refine ⟨_,_,hrun,⟨_,_,by rw [hl],?_,by rw [hl];exact hge,hmx⟩,B_alloc (Below.refl _ _).drew _⟩
 rw [hl]
 refine ⟨by rw [u8s_len,hl];omega,fun _=>⟨_,rfl,by simp,fun j u hu=>?_⟩⟩
 have hj:j<s.size:=by have:=(List.getElem?_eq_some_iff.1 hu).1;rw [u8s_len,hl] at this;exact this
 rw [Addr.add_mid,Nat.zero_add]
 have hb:=hp_new w.drew (.cells (bytesRow s (grownCap w s.size 0 5)) 5 ((bytesRow s (grownCap w s.size 0 5)).size,(bytesRow s (grownCap w s.size 0 5)).size+1)) (n:=w.heap.size) rfl
 rw [cell_of_row _ _ _ _ _ _ hb]
 unfold bytesRow
 rw [Array.getElem?_append_left (by simpa using hj)]
 simpa [u8s] using hu
theorem flat40_set:∀ (l:List (Option Rw)) (i:Nat) (o:Option Rw),(∀ o,o∈l→cellOk o)→i<l.length→(l.set i o).flatMap slotB=(l.flatMap slotB).take (i*40)++slotB o++(l.flatMap slotB).drop (i*40+40)
 | [],i,o,_,h=>by simp at h
 | x::l,0,o,hc,h=>by
  have hx:=slotB_len (hc x (List.mem_cons_self ..))
  simp only [List.set_cons_zero,List.flatMap_cons,Nat.zero_mul,List.take_zero,List.nil_append,Nat.zero_add]
  rw [List.drop_left' hx]
 | x::l,i+1,o,hc,h=>by
  have hx:=slotB_len (hc x (List.mem_cons_self ..))
  have ih:=flat40_set l i o (fun y hy=>hc y (List.mem_cons_of_mem _ hy)) (by simpa using h)
  simp only [List.set_cons_succ,List.flatMap_cons,ih]
  have t1:(slotB x).take ((i+1)*40)=slotB x:=List.take_of_length_le (by omega)
  have t2:(slotB x).drop ((i+1)*40+40)=[]:=List.drop_of_length_le (by omega)
  rw [List.take_append,t1,hx,show (i+1)*40-40=i*40 by omega,List.drop_append,t2,List.nil_append,hx,show (i+1)*40+40-40=i*40+40 by omega]
  simp
def Pg.set (p:Pg) (i:Nat) (o:Option Rw):Pg:={ p with slots:=p.slots.set i o }
theorem pgCells_set {t n:Nat} {p:Pg} (h:p.ok) {i:Nat} {o:Option Rw} (hi:i<5) :
  pgCells t n (p.set i o)=(pgCells t n p).take (3+i*40)++u8s (slotB o)++(pgCells t n p).drop (3+i*40+40):=by
 have hf:=flat40_set p.slots i o h.rows (by rw [h.five];exact hi)
 have e:slotsB (p.set i o)=(slotsB p).take (i*40)++slotB o++(slotsB p).drop (i*40+40):=hf
 unfold pgCells
 rw [e,u8s_app,u8s_app,show 3+i*40+40=(i*40+40)+1+1+1 by omega,show 3+i*40=(i*40)+1+1+1 by omega]
 simp only [Pg.set,List.take_succ_cons,List.drop_succ_cons,u8s_take,u8s_drop,List.cons_append,List.append_assoc]
theorem PageAt.setRow {w:World} {b t n:Nat} {p:Pg} (h:PageAt w b t n p) (hp:p.ok) {i:Nat} {o:Option Rw} (hi:i<5) (ho:cellOk o) :
  PageAt (w.setRow b (List.take (3+i*40) (pgCells t n p)++(u8s (slotB o)++List.drop (3+i*40+40) (pgCells t n p))).toArray) b t n (p.set i o):=by
 unfold PageAt
 rw [pgCells_set hp hi,List.append_assoc]
 exact setRow_heap _ _ _ _ _ _ h
theorem set_any (b t n i:Nat) (p:Pg) (o:Option Rw) (w:World) (h:PageAt w b t n p) (hp:p.ok) (ho:cellOk o) (hi:i<5) :
  Calls Tryz.prog 125 #[.pointer (some ⟨b,0,none⟩),.int .i64 i,.string (strU (cellL o))] w fun e w'=>e=.returned (.bool true)∧PageAt w' b t n (p.set i o)∧Keep (fun k=>k=b) w w':=by
 have hi0:(0:Int)≤(i:Int):=by omega
 have hi5:(i:Int)<5:=by omega
 have d1:decide ((i:Int)<0)=false:=by simp
 have d2:decide ((5:Int)≤(i:Int))=false:=by simp;omega
 have hcl:=pgCells_len (t:=t) (n:=n) hp
 obtain ⟨H,HP,HCL⟩:=zi3 h hp hcl
 cases o with
 | none =>
  have hz:(u8s (zs 40)).length=40:=by simp [u8s,zs]
  have hem:(strU (cellL none)).toList.isEmpty=true:=by rw [ByteArray.toList_eq];rfl
  clear h hp hcl
  go_enter Tryz.func125,Tryz.ntmps125
  go_wp2_with (show wpList _ _ _ (⟨none,.store 201 (.tmp 26) (.tmp 23),_,_,_,_⟩::_) _ _;refine wpList_store_midrow rfl 201 (.tmp 26) (.tmp 23) rfl b (3+i*40) 204 (pgCells t n p).toArray (u8s (zs 40)).toArray (by rfl) (by rfl) H.out (by simp only [List.size_toArray,HCL.out,hz];omega) (by kernel_rfl) (by simpa using u8s_one (zs 40)) ?_)
  go_ret
  have h1:=H.out.setRow HP.out (o:=none) hi trivial
  have e:(u8s (slotB none))=u8s (zs 40):=rfl
  rw [e] at h1
  exact ⟨rfl,h1,(Keep.refl (fun k=>k=b) w).setRow (.inl rfl) _⟩
 | some r =>
  have hro:r.ok:=ho
  have hl:=rowB_len hro
  have hem:(strU (cellL (some r))).toList.isEmpty=false:=by
   rw [ByteArray.toList_eq]
   show (rowB r).isEmpty=false
   cases hq:rowB r with
   | nil=>rw [hq] at hl;simp at hl
   | cons x xs=>rfl
  have hsz:(strU (cellL (some r))).size=40:=by rw [strU_size];exact hl
  obtain ⟨vb,W,hconv,hinb,hbW⟩:=conv_bytes w (strU (cellL (some r))) (by omega)
  have hdec:=row_decode_ok vb r hro W hinb
  unfold rowV at hdec
  obtain ⟨s1,hs1⟩:∃ s,s=strU (cellL (some r)):=⟨_,rfl⟩
  rw [← hs1] at hem hsz hconv ⊢
  obtain ⟨HW,HDEC,HS1⟩:=zi3 hbW hdec hs1
  clear h hp hcl hinb hbW hdec hs1 hl
  go_enter Tryz.func125,Tryz.ntmps125
  go_upto_region 9 with (go_at_call 137;(with_reducible refine HDEC.out.mono ?_);rintro e1 w2 ⟨rfl,hb2⟩;have HB2:=hid hb2;clear hb2)
  obtain ⟨w3,hw3⟩:∃ w3,w3=w2.alloc (.cells #[.int .i64 r.t,.string (strU r.k),.string (strU r.v)] 34):=⟨_,rfl⟩
  have hbw3:Below w.heap.size w w3:=by rw [hw3];exact B_alloc (B_call HW.out HB2.out) _
  rw [← hw3]
  have hP3:w3.heap[b]?=some (.cells (pgCells t n p).toArray 204 (0,0)):=hp_below H.out hbw3 (hp_lt H.out)
  have hHP3:PageAt w3 b t n p:=hP3
  have hcp:=run_copy_row_string (P:=Tryz.prog) w3 29 9 3 5 b (3+i*40) 40 40 s1 (pgCells t n p).toArray 204 Tryz.underlying29 (by kernel_rfl) hP3 (by omega) (by simp only [List.size_toArray,HCL.out];omega)
  obtain ⟨HCP,HP3,HBW3⟩:=zi3 hcp hHP3 hbw3
  clear hw3 hbw3 hP3 hHP3 hcp
  go_wp2_with (show wpList _ _ _ (⟨some 42,_,_,_,_,_⟩::_) _ _;refine wpList_run rfl _ _ (run_copy (.tmp 40) (.tmp 41) #[29,9] rfl (by rfl) (by rfl) HCP.out) ?_)
  go_ret
  have h1:=HP3.out.setRow HP.out (o:=some r) hi hro
  refine ⟨rfl,?_,?_⟩
  ·have e:(pgCells t n p).toArray.toList.take (3+i*40)++Go.Lib.byteCells s1.data.toList++(pgCells t n p).toArray.toList.drop (3+i*40+s1.size)=List.take (3+i*40) (pgCells t n p)++(u8s (slotB (some r))++List.drop (3+i*40+40) (pgCells t n p)):=by
    rw [hsz,List.append_assoc,HS1.out];rfl
   rw [← e] at h1
   simpa [hsz] using h1
  ·exact (Keep.of_below (M:=fun k=>k=b) HBW3.out).setRow (.inl rfl) _
end Go.Proofs.YtechnoogjhohfaaGreat
