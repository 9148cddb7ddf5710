/-
  Joined by a program from texts written one by one: part 25 of the walk through the program and of the law behind it.
-/
import Derived.Test.YtechnoogjhohfaaGreatC24
import Derived.Defers
set_option maxRecDepth 100000
set_option maxHeartbeats 6400000
set_option linter.unusedVariables false
set_option linter.unusedSimpArgs false
namespace Go.Proofs.YtechnoogjhohfaaGreat
open Go.RowKit Go.Lib
open YtechnoogjhohfaaGreatW
section
variable {bz:Nat->Prop}
theorem YY (H D r p e boots:Nat) (c:Nat->T5) (u:FrameMode) (w:World) (hr:r<4) (hp:w.heap[p]?=some (.cells #[.pointer (some ⟨H,1+r*5,none⟩)] 76 (0,0))) (he:w.heap[e]?=some (.cells #[.int .i64 0] 28 (0,0))) (hH:w.heap[H]?=some (.cells (hC D c boots) 73 (0,0))) (hd:(c r).d=.bool false) :
  CallsD Tryz.prog 41 #[.pointer (some ⟨e,0,none⟩),.pointer (some ⟨p,0,none⟩)] u w fun e' u' w'=>u'=u/\(e'=.returned (.tuple #[])/\w'=w.setCell ⟨H,1+r*5+4,none⟩ (.bool false)):=by
 have kp:=cell_of_row w p 0 _ _ _ hp
 have ke:=cell_of_row w e 0 _ _ _ he
 have kH:=(cell_of_row w H (1+r*5+4) _ _ _ hH).trans (Jw D c boots r hr).2.2.2.2
 have kf:w.frozen? ⟨H,1+r*5+4,none⟩=false:=frozen_of_row w _ _ _ _ hH
 simp only [List.getElem?_toArray,List.getElem?_cons_zero] at kp ke
 clear hp he hH
 go_enter_d Tryz.func41,Tryz.ntmps41
 go_wp2
 go_end0
 exact ⟨rfl,rfl⟩
theorem zjn (D:Nat) (c:Nat->T5) (b r:Nat) (hr:r<4) (hv:(c r).d=.bool false):(hC D c b).setIfInBounds (1+r*5+4) (.bool false)=hC D c b:=by
 rw [<- hv]
 obtain rfl | rfl | rfl | rfl:r=0∨r=1∨r=2∨r=3:=by omega
 all_goals rfl
end
section
variable {bz:Nat->Prop}
structure zbb where
 gen:Nat
 bank:Nat
 rs:List zI
 dp:Nat->Pg
structure Jq (cr:Nat->List UInt8) (r:Nat) (o:zbb):Prop where
 on:jN cr o.gen o.bank (zp o.rs)
 ok:∀ x,x∈o.rs->x.ok
 bank1:o.bank<=1
 g0:0<o.gen
 g32:o.gen+1<4294967296
 fit:(zp o.rs).length+(uk o.rs 1+uk o.rs 2+uk o.rs 3)<=14336
 ne:0<o.rs.length
 pgs:∀ n,n<6->uo cr r n (o.dp n)
 dpok:∀ n,(o.dp n).ok
 h8:∀ i,(lsr o.rs i).l.length<=8
structure Qf (r:Nat) (o:zbb) (boots:Nat) (t t':Tn):Prop where
 st:t'.st=t.st
 ct:t'.ct=t.ct
 gone:t.st=0->t'.live=none
 live:t.st=1->∃ l nb1 nb2 Ts nb3,t'.live=some l/\l.s=(yq r o.gen o.bank o.rs o.dp nb1 nb2 Ts nb3).packed/\l.ep=((yA t.ct boots:Nat):Int)/\l.nx=0/\l.hs=[]/\zJ l.s.its/\l.s.its.length<=62
structure vD (w W:World):Prop where
 os:W.os=w.os
 tape:W.tape=w.tape
 output:W.output=w.output
 size:w.heap.size<=W.heap.size
theorem vD.trans {a b c:World} (h:vD a b) (k:vD b c):vD a c:=⟨k.os.trans h.os,k.tape.trans h.tape,k.output.trans h.output,Nat.le_trans h.size k.size⟩
theorem vD.of_below {n:Nat} {a b:World} (h:Below n a b):vD a b:=⟨h.os,h.tape,h.output,h.size⟩
theorem vD.of_keep {M:Nat->Prop} {a b:World} (h:zr M a b):vD a b:=⟨h.os,h.tape,h.output,h.size⟩
theorem vD.of_drew {a b:World} (h:vD a.drew b):vD a b:=⟨h.os,h.tape,h.output,h.size⟩
theorem zkx {W:World} {H D r boots:Nat} {c:Nat->T5} (h:W.heap[H]?=some (.cells (hC D c boots) 73 (0,0))) (hr:r<4):W.rangeAt H (1+r*5+2) [(c r).s,(c r).c]:=by
 intro n v hn
 have hn2:n<2:=(List.getElem?_eq_some_iff.1 hn).1
 have hc:=Jw D c boots r hr
 rw [cell_of_row W H _ _ _ _ h,<- hn]
 obtain rfl | rfl:n=0∨n=1:=by omega
 ·exact hc.2.2.1
 ·exact hc.2.2.2.1
theorem JY {cur:Nat->Nat->List UInt8} {r st ct i q:Nat} (h2:st<=1) (h:i≠r∨q=0):vQ cur r st ct i q=cur i q:=by
 unfold vQ
 split
 ·rfl
 ·rw [if_neg (by omega)]
  unfold yb
  rcases h with h | h
  ·rw [zm _ _ h]
  ·by_cases e:i=r
   ·subst e;rw [zf,if_neg (by omega)]
   ·rw [zm _ _ e]
theorem ziB (H D r:Nat) (F:Nat->Prop) (cur:Nat->Nat->List UInt8) (c:Nat->T5) (ts:Nat->Tn) (boots:Nat) (o:zbb) (w:World) (h:zO bz w H D F cur c ts boots r) (hr:r<4) (hbt:boots<1000000) (ho:(ts r).st=1->Jq (cur r) r o) :
  Calls Tryz.prog 25 #[.pointer (some ⟨H,0,none⟩),.int .i64 r] w fun e W=>e=.returned (.tuple #[])/\zj bz w W/\∃ F' cur' c' t,zO bz W H D F' cur' c' (yo ts F' r t) boots (r+1)/\(∀ i q,i≠r->cur' i q=cur i q)/\Qf r o boots (ts r) t:=by
 have hmf:∀ (fn:Fn) (first cap:Array Value) (w:World),(Instr.makeFunc fn first cap).run Tryz.prog w=.ok (.func fn first cap) w:=fun _ _ _ _=>rfl
 have r0:(0:Int)<=(r:Int):=by omega
 have r4:(r:Int)<4:=by omega
 have ht1:decide ((r:Int)<0)=false:=by simp
 have ht2:decide ((4:Int)<=(r:Int))=false:=by simp;omega
 obtain ⟨st,hst⟩:∃ st,st=(ts r).st:=⟨_,rfl⟩
 obtain ⟨ct,hct⟩:∃ ct,ct=(ts r).ct:=⟨_,rfl⟩
 have hbnd:=h.bnd r hr
 have hline:=h.line r hr
 rw [<- hst,<- hct] at hbnd hline
 rw [<- hst] at ho
 obtain ⟨w1,hw1⟩:∃ w1,w1=w.alloc (.cells #[.pointer (some ⟨H,1+r*5,none⟩)] 76):=⟨_,rfl⟩
 obtain ⟨H0,HO,HST,HCT,HLN,HW1⟩:=zi6 h ho hst hct hline hw1
 clear h ho hst hct hline hw1
 go_enter_defers Tryz.func25,Tryz.ntmps25
 go_upto_region 1 with fail
 rw [<- HW1.out]
 have hb1:Below w.heap.size w w1:=by rw [HW1.out];exact B_alloc (Below.refl _ _) _
 have hP1:w1.heap[w.heap.size]?=some (.cells #[.pointer (some ⟨H,1+r*5,none⟩)] 76 (0,0)):=by rw [HW1.out];exact zk _ _ rfl
 have hH1:=zb H0.out.blk hb1 (zd H0.out.blk)
 have kp:=cell_of_row w1 w.heap.size 0 _ _ _ hP1
 simp only [List.getElem?_toArray,List.getElem?_cons_zero] at kp
 have hC1:=zgo D c boots r hr ⟨.pointer none,.pointer none,.int .i64 0,.int .u64 0,.bool false⟩
 obtain ⟨HB1,HP1,HH1,HC1⟩:=zi4 hb1 hP1 hH1 hC1
 clear hb1 hP1 hH1 hC1
 go_upto_region 2 with (show wpList _ _ _ (⟨none,.store 70 (.tmp 13) _,_,_,_,_⟩::_) _ _;refine zB rfl 70 (.tmp 13) (.tmp 12) rfl H (1+r*5) 73 _ #[.pointer none,.pointer none,.int .i64 0,.int .u64 0,.bool false] (by rfl) (by rfl) HH1.out (by rw [Yh];simp;omega) (by kernel_rfl) (by simp [Value.oneCell']) ?_)
 rw [show ((#[Value.pointer none,.pointer none,.int .i64 0,.int .u64 0,.bool false]:Array Value).size)=5 from rfl,HC1.out]
 obtain ⟨c2,hc2⟩:∃ c2,c2=zE c r ⟨.pointer none,.pointer none,.int .i64 0,.int .u64 0,.bool false⟩:=⟨_,rfl⟩
 rw [<- hc2]
 have hcr2:c2 r=⟨.pointer none,.pointer none,.int .i64 0,.int .u64 0,.bool false⟩:=by rw [hc2,zf]
 have hco2:∀ c3 t,zE c2 r t=c3->zE c r t=c3:=fun c3 t e=>by rw [<- e,hc2];funext i;by_cases e:i=r<;>simp [zE,e]
 obtain ⟨HC2,HCR2⟩:=zi2 hco2 hcr2
 clear hc2 hcr2 hco2
 obtain ⟨w2,hw2⟩:∃ w2,w2=w1.setRow H (hC D c2 boots):=⟨_,rfl⟩
 rw [<- hw2]
 have hH2:w2.heap[H]?=some (.cells (hC D c2 boots) 73 (0,0)):=by rw [hw2];exact setRow_heap w1 H _ _ 73 _ HH1.out
 have h12:∀ x,x≠H->w2.heap[x]?=w1.heap[x]?:=fun x hx=>by rw [hw2];exact setRow_other w1 H x _ hx
 have hz2:w2.heap.size=w1.heap.size:=by rw [hw2];simp
 have hos2:vD w1 w2:=by rw [hw2];exact ⟨rfl,rfl,rfl,by simp⟩
 have HOS2:=hid hos2
 clear hos2
 have hPH:w.heap.size≠H:=by have:=zd H0.out.blk;omega
 have hP2:=(h12 _ hPH).trans HP1.out
 obtain ⟨w3,hw3⟩:∃ w3,w3=w2.alloc (.cells #[.int .i64 0] 28):=⟨_,rfl⟩
 have hb3:Below w2.heap.size w2 w3:=by rw [hw3];exact B_alloc (Below.refl _ _) _
 have hE3:w3.heap[w2.heap.size]?=some (.cells #[.int .i64 0] 28 (0,0)):=by rw [hw3];exact zk _ _ rfl
 have hH3:=zb hH2 hb3 (zd hH2)
 have hP3:=zb hP2 hb3 (zd hP2)
 obtain ⟨H12,HZ2,HB3,HE3,HH3,HP3,HPH,HW3⟩:=zi8 h12 hz2 hb3 hE3 hH3 hP3 hPH hw3
 clear hw2 hH2 h12 hz2 hP2 hb3 hE3 hH3 hP3 hPH hw3 kp
 go_upto_region 4 with fail
 rw [<- HW3.out]
 have hsz3:w.heap.size+2<=w3.heap.size/\w2.heap.size=w.heap.size+1:=by
  have e1:w1.heap.size=w.heap.size+1:=by rw [HW1.out];simp
  have e2:=HZ2.out
  have e3:w3.heap.size=w2.heap.size+1:=by rw [HW3.out];simp
  omega
 have h03:∀ x,x<w.heap.size->x≠H->w3.heap[x]?=w.heap[x]?:=fun x hx hn=>by
  have e1:=HB1.out.block x hx
  have e2:=H12.out x hn
  have e3:=HB3.out.block x (by omega)
  rw [e3,e2,e1]
 have hFH:∀ x,F x->x≠H:=fun x hx e=>by
  have:=H0.out.disk.tags hx
  rw [e,zc H0.out.blk] at this
  simp at this
 have hD3:qr w3 D F cur:=zv.same H0.out.disk (fun x hx=>h03 x (H0.out.disk.lt x hx) (hFH x hx)) (by omega)
 have hse:=zea D F cur r st ct w3.drew hD3.drew hr HLN.out (by omega) (by omega)
 rw [show zfE st=st by unfold zfE;rw [if_neg (by omega)]] at hse
 unfold zah at hse
 obtain ⟨HSE,HD3,H03,HSZ3⟩:=zi4 hse hD3 h03 hsz3
 clear hse hD3 h03 hFH hsz3
 have hnF:∀ {x t:Nat} {C:Array Value},w3.heap[x]?=some (.cells C t (0,0))->t ∉ [81,118,86,120]->¬ F x:=fun hx ht hf=>ht (by have:=HD3.out.tags hf;rw [zc hx] at this;exact this)
 have hS:w3.drew.heap[w.heap.size]?=some (.cells #[.pointer (some ⟨H,1+r*5,none⟩)] 76 (0,0))/\w3.drew.heap[H]?=some (.cells (hC D c2 boots) 73 (0,0)):=⟨HP3.out,HH3.out⟩
 refine wp_region_noPanic ?_
 refine PrintLast.start_ (n:=14) (S:=(fun w'=>w'.heap[w.heap.size]?=some (.cells #[.pointer (some ⟨H,1+r*5,none⟩)] 76 (0,0))/\w'.heap[H]?=some (.cells (hC D c2 boots) 73 (0,0)))) (ds:=[12,13]) (bA 14 0) (by kernel_rfl) rfl (by kernel_rfl) hS (fun hHeld=>?_)
 refine tk 0 16 14 1 rfl rfl (Or.inl ⟨by rfl,fun _ h=>(by have k0:=(cell_of_row _ w.heap.size 0 _ _ _ h.1).trans (show _=some (Value.pointer (some ⟨H,1+r*5,none⟩)) from rfl);go_simp;with_reducible rfl)⟩) ?_
 refine pu 1 17 14 3 rfl rfl ?_
 refine pu 2 18 14 7 rfl rfl ?_
 refine pu 3 19 14 15 rfl rfl ?_
 refine tk 4 20 14 31 rfl rfl (Or.inl ⟨by rfl,fun _ h=>(by have k0:=(cell_of_row _ H 0 _ _ _ h.2).trans (zcG D c2 boots);go_simp;with_reducible rfl)⟩) ?_
 refine pu 5 21 14 63 rfl rfl ?_
 refine on 6 14 127 (some 22) rfl rfl (fun K hK=>?_)
 show Oper.wp _ ⟨some 22,_,_,_,_,_⟩ _ _ _ _
 refine zq 42 _ _ [.pointer (some ⟨D,0,none⟩),.int .i64 r] rfl (by kernel_rfl) (by rfl) (HSE.out.mono ?_)
 rintro e4 w4 ⟨rfl,F4,hD4,hk4,hn4⟩
 refine ⟨_,rfl,?_⟩
 have hP4:=qj (show w3.drew.heap[_]?=_ from HP3.out) hk4 (hnF HP3.out (by decide))
 have hH4:=qj (show w3.drew.heap[_]?=_ from HH3.out) hk4 (hnF HH3.out (by decide))
 have hE4:=qj (show w3.drew.heap[_]?=_ from HE3.out) hk4 (hnF HE3.out (by decide))
 refine hK.out _ _ ⟨hP4,hH4⟩ (fun hHeld=>?_)
 clear hK K
 try simp only [pS]
 refine pu 7 15 14 255 rfl rfl ?_
 refine pu 8 23 14 511 rfl rfl ?_
 refine pu 9 24 14 1023 rfl rfl ?_
 refine pu 10 25 14 2047 rfl rfl ?_
 refine pu 11 26 14 4095 rfl rfl ?_
 refine la 12 14 8191 none rfl rfl (fun K hK=>?_)
 show Oper.wp _ ⟨none,_,_,_,_,_⟩ _ _ _ _
 refine um 68 (.tmp 26) (.tmp 23) rfl H (1+r*5+2) 73 _ #[.int .i64 st,.int .u64 ct] (by rfl) (by rfl) hH4 (by rw [Yh];simp;omega) (by kernel_rfl) (by simp [Value.oneCell']) ?_
 refine hK.out _ _ ?_
 clear hK K
 try simp only [pS]
 refine la 13 14 16383 none rfl rfl (fun K hK=>?_)
 show Oper.wp _ ⟨none,_,_,_,_,_⟩ _ _ _ _
 have hEH:w2.heap.size≠H:=by have:=zd H0.out.blk;have:=HSZ3.out;omega
 refine jp 28 (.tmp 5) (.tmp 24) rfl w2.heap.size 0 _ 28 (.int .i64 0) (by rfl) (by rfl) (by kernel_rfl) ((setRow_other w4 H w2.heap.size _ hEH).trans hE4) (by simp) rfl ?_
 refine hK.out _ _ ?_
 clear hK K
 try simp only [pS]
 refine PrintLast.done_ (by kernel_rfl) ?_
 refine NoPanic.normal ?_
 have hL4:=zjH D c2 boots r hr (.int .i64 st) (.int .u64 ct)
 obtain ⟨c3,hc3⟩:∃ c3,c3=zE c r ⟨.pointer none,.pointer none,.int .i64 st,.int .u64 ct,.bool false⟩:=⟨_,rfl⟩
 have hcc:zE c2 r { c2 r with s:=.int .i64 st,c:=.int .u64 ct }=c3:=by
  have h1:=HC2.out c3 ⟨.pointer none,.pointer none,.int .i64 st,.int .u64 ct,.bool false⟩
  rw [HCR2.out]
  refine Eq.trans ?_ hc3.symm
  exact (HC2.out _ _ rfl).symm
 rw [hcc] at hL4
 obtain ⟨w5,hw5⟩:∃ w5,w5=w4.setRow H (hC D c3 boots):=⟨_,rfl⟩
 rw [show ((#[Value.int .i64 st,Value.int .u64 ct]:Array Value).size)=2 from rfl,hL4,<- hw5]
 obtain ⟨w6,hw6⟩:∃ w6,w6=w5.setCell ⟨w2.heap.size,0,none⟩ (.int .i64 0):=⟨_,rfl⟩
 rw [<- hw6]
 have hEH:w2.heap.size≠H:=by have:=zd H0.out.blk;have:=HSZ3.out;omega
 have hEP:w.heap.size≠w2.heap.size:=by have:=HSZ3.out;omega
 have h45:∀ x,x≠H->w5.heap[x]?=w4.heap[x]?:=fun x hx=>by rw [hw5];exact setRow_other w4 H x _ hx
 have h56:∀ x,x≠w2.heap.size->w6.heap[x]?=w5.heap[x]?:=fun x hx=>by rw [hw6];exact heap_setCell_other _ _ _ _ hx
 have hH6:w6.heap[H]?=some (.cells (hC D c3 boots) 73 (0,0)):=(h56 H (Ne.symm hEH)).trans (by rw [hw5];exact setRow_heap w4 H _ _ 73 _ hH4)
 have hP6:w6.heap[w.heap.size]?=some (.cells #[.pointer (some ⟨H,1+r*5,none⟩)] 76 (0,0)):=((h56 _ hEP).trans (h45 _ HPH.out)).trans hP4
 have hE6:w6.heap[w2.heap.size]?=some (.cells #[.int .i64 0] 28 (0,0)):=by
  rw [hw6,heap_setCell_same _ _ 0 _ _ _ ((h45 _ hEH).trans hE4)];rfl
 have hz6:w6.heap.size=w4.heap.size:=by rw [hw6,hw5];simp
 have hos46:vD w4 w6:=by rw [hw6,hw5];exact ⟨rfl,rfl,rfl,by simp⟩
 have hos34:vD w3 w4:=vD.of_drew (vD.of_keep hk4)
 have hos6:vD w w6:=((vD.of_below HB1.out).trans (HOS2.out.trans (vD.of_below HB3.out))).trans (hos34.trans hos46)
 have HOS6:=hid hos6
 clear hos46 hos34 hos6
 have hz4:w3.heap.size<=w4.heap.size:=hk4.size
 have h46:∀ x,x≠H->x≠w2.heap.size->w6.heap[x]?=w4.heap[x]?:=fun x h1 h2=>(h56 x h2).trans (h45 x h1)
 have h06:∀ x,x<w.heap.size->x≠H->¬ F x->w6.heap[x]?=w.heap[x]?:=fun x h1 h2 h3=>by
  have hsz:=HSZ3.out
  rw [h46 x h2 (by omega),show w4.heap[x]?=w3.heap[x]? from hk4.block x (show x<w3.heap.size by omega) h3]
  exact H03.out x h1 h2
 have hD6:qr w6 D F4 (vQ cur r st ct):=zv.same hD4 (fun x hx=>h46 x (fun e=>by
  have:=hD4.tags hx
  rw [e,zc hH4] at this
  simp at this) (fun e=>by
  have:=hD4.tags hx
  rw [e,zc hE4] at this
  simp at this)) (by omega)
 have hN6:qh w F F4:=fun x hx=>(hn4 x hx).imp id fun h9=>by
  have h10:w3.heap.size<=x:=h9
  have:=HSZ3.out
  omega
 have hz06:w.heap.size+2<=w6.heap.size:=by have:=HSZ3.out;omega
 obtain ⟨HH6,HP6,HE6,H06,HD6,HN6,HZ06,HC3,HEH⟩:=zi9 hH6 hP6 hE6 h06 hD6 hN6 hz06 hc3 hEH
 have HEP:=hid hEP
 have kp6:=(cell_of_row w6 w.heap.size 0 _ _ _ hP6).trans (show _=some (Value.pointer (some ⟨H,1+r*5,none⟩)) from rfl)
 have ke6:=(cell_of_row w6 w2.heap.size 0 _ _ _ hE6).trans (show _=some (Value.int .i64 0) from rfl)
 have hc3r:c3 r=⟨.pointer none,.pointer none,.int .i64 st,.int .u64 ct,.bool false⟩:=by rw [hc3,zf]
 have ks6:=(cell_of_row w6 H (1+r*5+2) _ _ _ hH6).trans (Jw D c3 boots r hr).2.2.1
 rw [hc3r] at ks6
 simp only at ks6
 have HCR3:=hid hc3r
 clear hL4 hc3 hcc hw5 hw6 hEH hEP h45 h56 hH6 hP6 hE6 hz6 hz4 h46 h06 hD6 hN6 hz06 hc3r hS hHeld hP4 hH4 hE4 hk4 hn4 hD4 hnF
 have hbz:∀ x,w.heap.size<=x->¬ bz x:=fun x hx=>H0.out.newb hx
 have hbF4:∀ x,F4 x->¬ bz x:=fun x hx=>(HN6.out x hx).elim (H0.out.base.2.1 x) (fun h9=>hbz x h9)
 obtain ⟨HBZ,HBF4⟩:=zi2 hbz hbF4
 have hKL:∀ W:World,vD w6 W->(∀ x,x≠H->x<w.heap.size->¬ F x->W.heap[x]?=w.heap[x]?)->zj bz w W:=fun W hos hW=>by
  have ho:=HOS6.out.trans hos
  refine ⟨fun x t C ht hx=>?_,ho.os,ho.tape,ho.output,ho.size,fun x h1 h2=>hW x (fun e=>H0.out.base.1 (e ▸ h1)) h2 (fun hf=>H0.out.base.2.1 x hf h1)⟩
  have h1:=zc hx
  refine (hW x (fun e=>?_) (zd hx) (fun hf=>?_)).trans hx
  ·rw [e,zc H0.out.blk] at h1;subst h1;exact ht (by decide)
  ·have h2:=H0.out.disk.tags hf
   rw [h1] at h2
   simp only [List.mem_cons,List.not_mem_nil,or_false] at h2 ht
   omega
 have HKL:=hid hKL
 clear hKL hbz hbF4
 by_cases hs1:st=1
 ·have HO1:=hid (HO.out hs1)
  have HS1:=hid hs1
  have hq1:((st:Int) == 1)=true:=by simp;omega
  clear hs1
  go_upto_region 6 with fail
  have hcur:vQ cur r st ct=cur:=by unfold vQ;rw [if_pos HS1.out]
  have hD6:qr w6.drew D F4 cur:=by have:=HD6.out.drew;rw [hcur] at this;exact this
  have hso:=zfL D r o.gen o.bank o.rs o.dp F4 cur w6.drew hD6 hr HO1.out.on HO1.out.ok HO1.out.bank1 HO1.out.g0 HO1.out.g32 HO1.out.fit HO1.out.ne HO1.out.pgs HO1.out.dpok HO1.out.h8
  have HSO:=hid hso
  clear hcur hD6 hso kp6 ke6 ks6
  have hnF:∀ {x t:Nat} {C:Array Value},w6.heap[x]?=some (.cells C t (0,0))->t ∉ [81,118,86,120]->¬ F4 x:=fun hx ht hf=>ht (by have:=HD6.out.tags hf;rw [zc hx] at this;exact this)
  have hS:w6.drew.heap[w.heap.size]?=some (.cells #[.pointer (some ⟨H,1+r*5,none⟩)] 76 (0,0))/\w6.drew.heap[H]?=some (.cells (hC D c3 boots) 73 (0,0)):=⟨HP6.out,HH6.out⟩
  refine wp_region_noPanic ?_
  refine PrintLast.start_ (n:=14) (S:=(fun w'=>w'.heap[w.heap.size]?=some (.cells #[.pointer (some ⟨H,1+r*5,none⟩)] 76 (0,0))/\w'.heap[H]?=some (.cells (hC D c3 boots) 73 (0,0)))) (ds:=[12,13]) (bA 14 0) (by kernel_rfl) rfl (by kernel_rfl) hS (fun hHeld=>?_)
  refine tk 0 38 14 1 rfl rfl (Or.inl ⟨by rfl,fun _ h=>(by have k0:=(cell_of_row _ w.heap.size 0 _ _ _ h.1).trans (show _=some (Value.pointer (some ⟨H,1+r*5,none⟩)) from rfl);go_simp;with_reducible rfl)⟩) ?_
  refine pu 1 39 14 3 rfl rfl ?_
  refine pu 2 40 14 7 rfl rfl ?_
  refine pu 3 41 14 15 rfl rfl ?_
  refine tk 4 42 14 31 rfl rfl (Or.inl ⟨by rfl,fun _ h=>(by have k0:=(cell_of_row _ H 0 _ _ _ h.2).trans (zcG D c3 boots);go_simp;with_reducible rfl)⟩) ?_
  refine pu 5 43 14 63 rfl rfl ?_
  refine on 6 14 127 (some 44) rfl rfl (fun K hK=>?_)
  show Oper.wp _ ⟨some 44,_,_,_,_,_⟩ _ _ _ _
  refine zq 43 _ _ [.pointer (some ⟨D,0,none⟩),.int .i64 r] rfl (by kernel_rfl) (by rfl) (HSO.out.mono ?_)
  rintro e7 w7 ⟨a,b,cur7,nb1,nb2,Ts,nb3,rfl,haD,har,hA7,he7,hso7,hil7⟩
  refine ⟨_,rfl,?_⟩
  have hP7:=qj (show w6.drew.heap[_]?=_ from HP6.out) he7.keep (hnF HP6.out (by decide))
  have hH7:=qj (show w6.drew.heap[_]?=_ from HH6.out) he7.keep (hnF HH6.out (by decide))
  have hE7:=qj (show w6.drew.heap[_]?=_ from HE6.out) he7.keep (hnF HE6.out (by decide))
  refine hK.out _ _ ⟨hP7,hH7⟩ (fun hHeld=>?_)
  clear hK K
  try simp only [pS]
  refine pu 7 37 14 255 rfl rfl ?_
  refine pu 8 45 14 511 rfl rfl ?_
  refine pu 9 46 14 1023 rfl rfl ?_
  refine pu 10 47 14 2047 rfl rfl ?_
  refine pu 11 48 14 4095 rfl rfl ?_
  refine la 12 14 8191 none rfl rfl (fun K hK=>?_)
  show Oper.wp _ ⟨none,_,_,_,_,_⟩ _ _ _ _
  refine jp 65 (.tmp 48) (.tmp 45) rfl H (1+r*5) _ 73 (.pointer (some ⟨a.S,0,none⟩)) (by rfl) (by rfl) (by kernel_rfl) hH7 (by rw [Yh];omega) rfl ?_
  refine hK.out _ _ ?_
  clear hK K
  try simp only [pS]
  refine la 13 14 16383 none rfl rfl (fun K hK=>?_)
  show Oper.wp _ ⟨none,_,_,_,_,_⟩ _ _ _ _
  refine jp 28 (.tmp 5) (.tmp 46) rfl w2.heap.size 0 _ 28 (.int .i64 0) (by rfl) (by rfl) (by kernel_rfl) ((heap_setCell_other _ _ _ _ HEH.out).trans hE7) (by simp) rfl ?_
  refine hK.out _ _ ?_
  clear hK K
  try simp only [pS]
  refine PrintLast.done_ (by kernel_rfl) ?_
  refine NoPanic.normal ?_
  obtain ⟨c4,hc4⟩:∃ c4,c4=zE c r ⟨.pointer (some ⟨a.S,0,none⟩),.pointer none,.int .i64 st,.int .u64 ct,.bool false⟩:=⟨_,rfl⟩
  have hc34:zE c3 r { c3 r with p:=.pointer (some ⟨a.S,0,none⟩) }=c4:=by
   rw [HCR3.out,hc4,HC3.out]
   funext i
   by_cases e:i=r<;>simp [zE,e]
  obtain ⟨w8,hw8⟩:∃ w8,w8=w7.setCell ⟨H,1+r*5,none⟩ (.pointer (some ⟨a.S,0,none⟩)):=⟨_,rfl⟩
  obtain ⟨w9,hw9⟩:∃ w9,w9=w8.setCell ⟨w2.heap.size,0,none⟩ (.int .i64 0):=⟨_,rfl⟩
  rw [<- hw8,<- hw9]
  have hEH:=HEH.out
  have hz9:w9.heap.size=w7.heap.size:=by rw [hw9,hw8];simp
  have hos9:vD w7 w9:=by rw [hw9,hw8];exact ⟨rfl,rfl,rfl,by simp⟩
  have HOS9:=hid hos9
  clear hos9
  have h78:∀ x,x≠H->w8.heap[x]?=w7.heap[x]?:=fun x hx=>by rw [hw8];exact heap_setCell_other _ _ _ _ hx
  have h89:∀ x,x≠w2.heap.size->w9.heap[x]?=w8.heap[x]?:=fun x hx=>by rw [hw9];exact heap_setCell_other _ _ _ _ hx
  have hH8:w8.heap[H]?=some (.cells (hC D c4 boots) 73 (0,0)):=by
   rw [hw8,heap_setCell_same _ _ (1+r*5) _ _ _ hH7,zlw D c3 boots r hr,hc34]
  have hH9:w9.heap[H]?=some (.cells (hC D c4 boots) 73 (0,0)):=(h89 H (Ne.symm hEH)).trans hH8
  have hP9:w9.heap[w.heap.size]?=some (.cells #[.pointer (some ⟨H,1+r*5,none⟩)] 76 (0,0)):=((h89 _ HEP.out).trans (h78 _ HPH.out)).trans hP7
  have hE9:w9.heap[w2.heap.size]?=some (.cells #[.int .i64 0] 28 (0,0)):=by
   rw [hw9,heap_setCell_same _ _ 0 _ _ _ ((h78 _ hEH).trans hE7)];rfl
  have h79:∀ x,x≠H->x≠w2.heap.size->w9.heap[x]?=w7.heap[x]?:=fun x h1 h2=>(h89 x h2).trans (h78 x h1)
  have hz7:w6.heap.size<=w7.heap.size:=he7.keep.size
  have hc4r:c4 r=⟨.pointer (some ⟨a.S,0,none⟩),.pointer none,.int .i64 st,.int .u64 ct,.bool false⟩:=by rw [hc4,zf]
  have hep:=zbm H D st ct boots c4 w9.drew hH9 hbnd.2 hbt
  obtain ⟨HEPO,HC4,HC4R,HH9,HP9,HE9,H79,HZ9,HZ7⟩:=zi9 hep hc4 hc4r hH9 hP9 hE9 h79 hz9 hz7
  have HE7':=hid he7
  obtain ⟨HA7,HAD,HAR,HSO7,HIL7⟩:=zi5 hA7 haD har hso7 hil7
  clear hc4 hc34 hw8 hw9 hEH hz9 h78 h89 hH8 hH9 hP9 hE9 h79 hz7 hc4r hep hP7 hH7 hE7 he7 hA7 haD har hso7 hil7 hS hHeld hnF
  go_upto_region 7 with fail
  have hS:w9.drew.heap[w.heap.size]?=some (.cells #[.pointer (some ⟨H,1+r*5,none⟩)] 76 (0,0))/\w9.drew.heap[H]?=some (.cells (hC D c4 boots) 73 (0,0)):=⟨HP9.out,HH9.out⟩
  refine wp_region_noPanic ?_
  refine PrintLast.start_ (n:=11) (S:=(fun w'=>w'.heap[w.heap.size]?=some (.cells #[.pointer (some ⟨H,1+r*5,none⟩)] 76 (0,0))/\w'.heap[H]?=some (.cells (hC D c4 boots) 73 (0,0)))) (ds:=[10]) (bA 11 0) (by kernel_rfl) rfl (by kernel_rfl) hS (fun hHeld=>?_)
  refine tk 0 49 11 1 rfl rfl (Or.inl ⟨by rfl,fun _ h=>(by have k0:=(cell_of_row _ w.heap.size 0 _ _ _ h.1).trans (show _=some (Value.pointer (some ⟨H,1+r*5,none⟩)) from rfl);go_simp;with_reducible rfl)⟩) ?_
  refine pu 1 50 11 3 rfl rfl ?_
  refine tk 2 51 11 7 rfl rfl (Or.inl ⟨by rfl,fun _ h=>(by have k0:=(cell_of_row _ w.heap.size 0 _ _ _ h.1).trans (show _=some (Value.pointer (some ⟨H,1+r*5,none⟩)) from rfl);go_simp;with_reducible rfl)⟩) ?_
  refine pu 3 52 11 15 rfl rfl ?_
  refine pu 4 53 11 31 rfl rfl ?_
  refine tk 5 54 11 63 rfl rfl (Or.inl ⟨by rfl,fun _ h=>qy 68 (.tmp 53) rfl H (1+r*5+2) (by rfl) [.int .i64 st,.int .u64 ct] _ (by have k0:=zkx h.2 hr;rw [HC4R.out] at k0;exact k0) Tryz.underlying68 rfl (by kernel_rfl)⟩) ?_
  refine on 6 11 127 (some 55) rfl rfl (fun K hK=>?_)
  show Oper.wp _ ⟨some 55,_,_,_,_,_⟩ _ _ _ _
  refine zq 45 _ _ [.pointer (some ⟨H,0,none⟩),.agg #[.int .i64 st,.int .u64 ct]] rfl (by kernel_rfl) (by rfl) (HEPO.out.mono ?_)
  rintro e10 w10 ⟨rfl,hb10⟩
  refine ⟨_,rfl,?_⟩
  refine hK.out _ _ ⟨zb hHeld.1 hb10 (zd hHeld.1),zb hHeld.2 hb10 (zd hHeld.2)⟩ (fun hHeld=>?_)
  clear hK K
  try simp only [pS]
  refine on 7 11 255 (some 56) rfl rfl (fun K hK=>?_)
  show Oper.wp _ ⟨some 56,_,_,_,_,_⟩ _ _ _ _
  refine zq 44 _ _ [.int .i64 (yA ct boots)] rfl (by kernel_rfl) (by rfl) ((Dk.new_any (yA ct boots) w10).mono ?_)
  rintro e11 w11 ⟨rfl,hdk11,hb11,hz11⟩
  refine ⟨_,rfl,?_⟩
  refine hK.out _ _ ⟨zb hHeld.1 hb11 (zd hHeld.1),zb hHeld.2 hb11 (zd hHeld.2)⟩ (fun hHeld=>?_)
  clear hK K
  try simp only [pS]
  refine pu 8 57 11 511 rfl rfl ?_
  refine pu 9 58 11 1023 rfl rfl ?_
  refine la 10 11 2047 none rfl rfl (fun K hK=>?_)
  show Oper.wp _ ⟨none,_,_,_,_,_⟩ _ _ _ _
  have hH11:=zb (zb (show w9.drew.heap[H]?=_ from HH9.out) hb10 (zd HH9.out)) hb11 (Nat.lt_of_lt_of_le (zd HH9.out) hb10.size)
  refine jp 66 (.tmp 58) (.tmp 56) rfl H (1+r*5+1) _ 73 (.pointer (some ⟨w10.heap.size+1,0,none⟩)) (by rfl) (by rfl) (by kernel_rfl) hH11 (by rw [Yh];omega) rfl ?_
  refine hK.out _ _ ?_
  clear hK K
  try simp only [pS]
  refine PrintLast.done_ (by kernel_rfl) ?_
  refine NoPanic.normal ?_
  have hH11:=zb (zb (show w9.drew.heap[H]?=_ from HH9.out) hb10 (zd HH9.out)) hb11 (Nat.lt_of_lt_of_le (zd HH9.out) hb10.size)
  have hP11:=zb (zb (show w9.drew.heap[_]?=_ from HP9.out) hb10 (zd HP9.out)) hb11 (Nat.lt_of_lt_of_le (zd HP9.out) hb10.size)
  have hE11:=zb (zb (show w9.drew.heap[_]?=_ from HE9.out) hb10 (zd HE9.out)) hb11 (Nat.lt_of_lt_of_le (zd HE9.out) hb10.size)
  have hz10:w9.heap.size<=w10.heap.size:=hb10.size
  have hos11:vD w9 w11:=(vD.of_drew (vD.of_below hb10)).trans (vD.of_below hb11)
  have HOS11:=hid hos11
  clear hos11
  have h911:∀ x,x<w9.heap.size->w11.heap[x]?=w9.heap[x]?:=fun x hx=>(hb11.block x (Nat.lt_of_lt_of_le hx hz10)).trans (hb10.block x hx)
  obtain ⟨c5,hc5⟩:∃ c5,c5=zE c r ⟨.pointer (some ⟨a.S,0,none⟩),.pointer (some ⟨w10.heap.size+1,0,none⟩),.int .i64 st,.int .u64 ct,.bool false⟩:=⟨_,rfl⟩
  have hc45:zE c4 r { c4 r with k:=.pointer (some ⟨w10.heap.size+1,0,none⟩) }=c5:=by
   rw [HC4R.out,hc5,HC4.out]
   funext i
   by_cases e:i=r<;>simp [zE,e]
  obtain ⟨w12,hw12⟩:∃ w12,w12=w11.setCell ⟨H,1+r*5+1,none⟩ (.pointer (some ⟨w10.heap.size+1,0,none⟩)):=⟨_,rfl⟩
  rw [<- hw12]
  have hH12:w12.heap[H]?=some (.cells (hC D c5 boots) 73 (0,0)):=by
   rw [hw12,heap_setCell_same _ _ (1+r*5+1) _ _ _ hH11,zlv D c4 boots r hr,hc45]
  have h1112:∀ x,x≠H->w12.heap[x]?=w11.heap[x]?:=fun x hx=>by rw [hw12];exact heap_setCell_other _ _ _ _ hx
  have hP12:=(h1112 _ HPH.out).trans hP11
  have hE12:=(h1112 _ HEH.out).trans hE11
  have hz12:w12.heap.size=w11.heap.size:=by rw [hw12];simp
  have hos12:vD w11 w12:=by rw [hw12];exact ⟨rfl,rfl,rfl,by simp⟩
  have HOS12:=hid hos12
  clear hos12
  have hc5r:c5 r=⟨.pointer (some ⟨a.S,0,none⟩),.pointer (some ⟨w10.heap.size+1,0,none⟩),.int .i64 st,.int .u64 ct,.bool false⟩:=by rw [hc5,zf]
  obtain ⟨HH12,HP12,HE12,H1112,H911,HZ12,HZ11,HZ10,HC5⟩:=zi9 hH12 hP12 hE12 h1112 h911 hz12 hz11 hz10 hc5
  obtain ⟨HC5R,HDK⟩:=zi2 hc5r hdk11
  clear hw12 hH12 hP12 hE12 h1112 h911 hz12 hz11 hz10 hc5 hc5r hdk11 hH11 hP11 hE11 hc45 hb10 hb11 hS hHeld
  go_wp2
  refine leaves_cons (f:=41) (args:=#[.pointer (some ⟨w2.heap.size,0,none⟩),.pointer (some ⟨w.heap.size,0,none⟩)]) (by simp) (by simp [go_sem]) ?_
  refine (YY H D r _ _ boots c5 .returning w12 hr HP12.out HE12.out HH12.out (by rw [HC5R.out])).mono ?_
  rintro e8 u8 w13 ⟨rfl,rfl,rfl⟩
  refine ⟨_,results_none rfl _ _ _,rfl,?_⟩
  obtain ⟨w13,hw13⟩:∃ w13,w13=w12.setCell ⟨H,1+r*5+4,none⟩ (.bool false):=⟨_,rfl⟩
  rw [<- hw13]
  have hH13:w13.heap[H]?=some (.cells (hC D c5 boots) 73 (0,0)):=by
   rw [hw13,heap_setCell_same _ _ (1+r*5+4) _ _ _ HH12.out,zjn D c5 boots r hr (by rw [HC5R.out])]
  have h1213:∀ x,x≠H->w13.heap[x]?=w12.heap[x]?:=fun x hx=>by rw [hw13];exact heap_setCell_other _ _ _ _ hx
  have hz13:w13.heap.size=w12.heap.size:=by rw [hw13];simp
  have hz06:=HZ06.out
  have hz7:=HZ7.out
  have hz9:=HZ9.out
  have hz10:=HZ10.out
  have hz11:=HZ11.out
  have hz12:=HZ12.out
  have hsz3:=HSZ3.out
  have hHlt:=zd H0.out.blk
  have h713:∀ x,x<w7.heap.size->x≠H->x≠w2.heap.size->w13.heap[x]?=w7.heap[x]?:=fun x h1 h2 h3=>by
   rw [h1213 x h2,H1112.out x h2,H911.out x (by omega),H79.out x h2 h3]
  have hF4:∀ x,x<w.heap.size->¬ F x->¬ F4 x:=fun x h1 h2 h3=>(HN6.out x h3).elim h2 (fun h4=>by omega)
  have h013:∀ x,x≠H->x<w.heap.size->¬ F x->w13.heap[x]?=w.heap[x]?:=fun x h1 h2 h3=>by
   rw [h713 x (by omega) h1 (by omega),show w7.heap[x]?=w6.heap[x]? from HE7'.out.keep.block x (show x<w6.heap.size by omega) (hF4 x h2 h3)]
   exact H06.out x h2 h1 h3
  obtain ⟨l,hl⟩:∃ l:Tl,l=⟨a,b,(yq r o.gen o.bank o.rs o.dp nb1 nb2 Ts nb3).packed,w10.heap.size+1,w10.heap.size,((yA ct boots:Nat):Int),0,[]⟩:=⟨_,rfl⟩
  have hE2:qp w7 w2.heap.size=28:=by
   have h1:=qj (show w6.drew.heap[_]?=_ from HE6.out) HE7'.out.keep (fun hf=>by have:=HD6.out.tags hf;rw [zc HE6.out] at this;simp at this)
   exact zc h1
  have hH2:qp w7 H=73:=by
   have h1:=qj (show w6.drew.heap[_]?=_ from HH6.out) HE7'.out.keep (fun hf=>by have:=HD6.out.tags hf;rw [zc HH6.out] at this;simp at this)
   exact zc h1
  have hst13:zg w13 a b cur7 (yq r o.gen o.bank o.rs o.dp nb1 nb2 Ts nb3).packed:=HA7.out.same (fun x hx=>h713 x (HA7.out.lt hx) (fun e=>HA7.out.notTag hH2 (by decide) (e ▸ hx)) (fun e=>HA7.out.notTag hE2 (by decide) (e ▸ hx))) (by omega)
  have hos13:vD w6 w13:=((vD.of_drew (vD.of_keep HE7'.out.keep)).trans (HOS9.out.trans HOS11.out)).trans (HOS12.out.trans (by rw [hw13];exact ⟨rfl,rfl,rfl,by simp⟩))
  have hbz:=HBZ.out
  refine ⟨HKL.out _ hos13 h013,b.F,cur7,zE c r (Tn.t5 ⟨1,ct,some l⟩),⟨1,ct,some l⟩,?_,fun i q hi=>?_,?_⟩
  ·refine zO.step H0.out ⟨1,ct,some l⟩ hr (fun i hi hir=>by omega) ?_ ?_ ?_ ⟨Nat.le_refl _,hbnd.2⟩ ?_ (fun e=>by cases e) ?_ ?_ (by omega) ?_ (fun x hx=>?_) ?_
   ·rw [hH13,HC5.out,HS1.out,hl];rfl
   ·have:=hst13.sto.disk;rw [HAD.out] at this;exact this
   ·rw [HE7'.out.out r 0 (.inr rfl),HLN.out,HS1.out]
   ·intro l' e
    injection e with e
    subst e
    refine ⟨?_,rfl⟩
    rw [hl]
    refine ⟨hst13,HAD.out,HAR.out,rfl,?_,?_⟩
    ·exact Dk.DeskAt.same HDK.out ((h1213 _ (by simp only;omega)).trans (H1112.out _ (by simp only;omega))) ((h1213 _ (by simp only;omega)).trans (H1112.out _ (by simp only;omega)))
    ·intro hx
     have:=HA7.out.lt hx
     simp only at this
     omega
   ·intro i l' x hi hir hli hx
    obtain ⟨h2,_⟩:=H0.out.live i l' hi hli
    exact h013 x (zO.notH H0.out hi hli (.inl hx)) (h2.tags x hx).2 (h2.notF hx)
   ·intro i q hi;exact HE7'.out.out i q (.inl hi)
   ·intro l' x e hx i l'' hi hir hli hy
    injection e with e
    subst e
    obtain ⟨h2,_⟩:=H0.out.live i l'' (by omega) hli
    have hlt:=(h2.tags x hy).2
    rw [hl] at hx
    rcases hx with hx | hx | hx
    ·rcases HE7'.out.new x (.inl hx) with h3 | h3
     ·exact hF4 x hlt (h2.notF hy) h3
     ·have h4:w6.heap.size<=x:=h3
      omega
    ·have h9:x=w10.heap.size+1:=hx
     omega
    ·have h9:x=w10.heap.size:=hx
     omega
   ·rcases HE7'.out.new x (.inr hx) with h3 | h3
    ·exact HBF4.out x h3
    ·have h4:w6.heap.size<=x:=h3
     exact hbz x (by omega)
   ·intro l' x e hx
    injection e with e
    subst e
    rw [hl] at hx
    rcases hx with hx | hx | hx
    ·rcases HE7'.out.new x (.inl hx) with h3 | h3
     ·exact HBF4.out x h3
     ·have h4:w6.heap.size<=x:=h3
      exact hbz x (by omega)
    ·have h9:x=w10.heap.size+1:=hx
     exact hbz x (by omega)
    ·have h9:x=w10.heap.size:=hx
     exact hbz x (by omega)
  ·exact HE7'.out.out i q (.inl hi)
  ·exact ⟨by rw [<- HST.out,HS1.out],HCT.out,fun e=>by rw [<- HST.out,HS1.out] at e;omega,fun _=>⟨l,nb1,nb2,Ts,nb3,rfl,by rw [hl],by rw [hl,HCT.out],by rw [hl],by rw [hl],by rw [hl];exact HSO7.out,by rw [hl];exact HIL7.out⟩⟩
 ·have HS1:=hid hs1
  have hq1:((st:Int) == 1)=false:=by simp;omega
  clear hs1
  have hs0:st=0:=by have:=HS1.out;omega
  go_wp2
  refine leaves_cons (f:=41) (args:=#[.pointer (some ⟨w2.heap.size,0,none⟩),.pointer (some ⟨w.heap.size,0,none⟩)]) (by simp) (by simp [go_sem]) ?_
  refine (YY H D r _ _ boots c3 .returning w6 hr HP6.out HE6.out HH6.out (by rw [HCR3.out])).mono ?_
  rintro e8 u8 w7 ⟨rfl,rfl,rfl⟩
  refine ⟨_,results_none rfl _ _ _,rfl,?_⟩
  obtain ⟨w7,hw7⟩:∃ w7,w7=w6.setCell ⟨H,1+r*5+4,none⟩ (.bool false):=⟨_,rfl⟩
  rw [<- hw7]
  have hH7:w7.heap[H]?=some (.cells (hC D c3 boots) 73 (0,0)):=by
   rw [hw7,heap_setCell_same _ _ (1+r*5+4) _ _ _ HH6.out,zjn D c3 boots r hr (by rw [HCR3.out])]
  have h67:∀ x,x≠H->w7.heap[x]?=w6.heap[x]?:=fun x hx=>by rw [hw7];exact heap_setCell_other _ _ _ _ hx
  have hz7:w7.heap.size=w6.heap.size:=by rw [hw7];simp
  have hz06:=HZ06.out
  refine ⟨HKL.out _ (by rw [hw7];exact ⟨rfl,rfl,rfl,by simp⟩) fun x h1 h2 h3=>(h67 x h1).trans (H06.out x h2 h1 h3),F4,vQ cur r st ct,zE c r (Tn.t5 ⟨0,ct,none⟩),⟨0,ct,none⟩,?_,fun i q hi=>JY (by omega) (.inl hi),?_⟩
  ·refine zO.step H0.out ⟨0,ct,none⟩ hr (fun i hi hir=>by omega) ?_ ?_ ?_ ⟨by simp,hbnd.2⟩ (fun l' e=>by cases e) (fun _=>⟨rfl,fun q h1 h2=>?_⟩) ?_ (fun i q hi=>JY (by omega) (.inl hi)) (by omega) (fun l' x e=>by cases e) HBF4.out (fun l' x e=>by cases e)
   ·rw [hH7,HC3.out,hs0];rfl
   ·exact zv.same HD6.out (fun x hx=>h67 x (fun e=>by
     have:=HD6.out.tags hx
     rw [e,zc HH6.out] at this
     simp at this)) (by omega)
   ·rw [JY (by omega) (.inr rfl),HLN.out,hs0]
   ·unfold vQ yb
    rw [hs0,if_neg (by omega),if_neg (by omega),zf,if_pos ⟨h1,h2⟩]
   ·intro i l' x hi hir hli hx
    obtain ⟨h2,_⟩:=H0.out.live i l' hi hli
    have h3:=zO.notH H0.out hi hli (.inl hx)
    exact (h67 x h3).trans (H06.out x (h2.tags x hx).2 h3 (h2.notF hx))
  ·exact ⟨by rw [<- HST.out,hs0],HCT.out,fun _=>rfl,fun e=>by rw [<- HST.out] at e;omega⟩
end
section
variable {bz:Nat->Prop}
theorem zO.at {w:World} {H D:Nat} {F:Nat->Prop} {cur:Nat->Nat->List UInt8} {c:Nat->T5} {ts:Nat->Tn} {boots:Nat} (h:zO bz w H D F cur c ts boots 4):zP bz w H D F cur ts boots:=by
 refine ⟨?_,h.disk,h.line,h.bnd,fun _ _=>rfl,h.live,h.gone,h.apart,h.base⟩
 have e:hC D (fun r=>(ts r).t5) boots=hC D c boots:=by
  unfold hC
  rw [h.cells 0 (by omega),h.cells 1 (by omega),h.cells 2 (by omega),h.cells 3 (by omega)]
 rw [e];exact h.blk
theorem Qf.reF {r boots:Nat} {o:zbb} {t t':Tn} (h:Qf r o boots t t') (F:Nat->Prop):Qf r o boots t (t'.reF F):=by
 refine ⟨h.st,h.ct,fun e=>by unfold Tn.reF;rw [h.gone e];rfl,fun e=>?_⟩
 obtain ⟨l,n1,n2,n3,n4,h1,h2,h3,h4,h5,h6,h7⟩:=h.live e
 exact ⟨l.reF F,n1,n2,n3,n4,by unfold Tn.reF;rw [h1];rfl,h2,h3,h4,h5,h6,h7⟩
theorem Jq.congr {cr cr':Nat->List UInt8} {r:Nat} {o:zbb} (h:Jq cr r o) (e:cr'=cr):Jq cr' r o:=e ▸ h
theorem zcp (H D:Nat) (F:Nat->Prop) (cur:Nat->Nat->List UInt8) (c:Nat->T5) (ts:Nat->Tn) (boots:Nat) (o:Nat->zbb) (w:World) (hb:w.heap[H]?=some (.cells (hC D c boots) 73 (0,0))) (hD:qr w D F cur)
  (hline:∀ r,r<4->cur r 0=jc (yw (ts r).st (ts r).ct)) (hbnd:∀ r,r<4->(ts r).st<=1/\(ts r).ct<1000000) (hbt:boots+1<1000000) (ho:∀ r,r<4->(ts r).st=1->Jq (cur r) r (o r)) (hbH:¬ bz H) (hbF:∀ x,F x->¬ bz x) (hbS:∀ x,bz x->x<w.heap.size) :
  Calls Tryz.prog 20 #[.pointer (some ⟨H,0,none⟩)] w fun e W=>e=.returned (.tuple #[])/\zj bz w W/\∃ F' cur' ts',zP bz W H D F' cur' ts' (boots+1)/\∀ r,r<4->Qf r (o r) (boots+1) (ts r) (ts' r):=by
 obtain ⟨R,hR⟩:∃ R:Nat->World->Prop,R=fun k wr=>∃ (Fk:Nat->Prop) (ck:Nat->Nat->List UInt8) (cc:Nat->T5) (tk:Nat->Tn),zO bz wr H D Fk ck cc tk (boots+1) k/\(∀ i,k<=i->i<4->ck i=cur i/\(tk i).st=(ts i).st/\(tk i).ct=(ts i).ct)/\(∀ i,i<k->Qf i (o i) (boots+1) (ts i) (tk i))/\zj bz w wr:=⟨_,rfl⟩
 obtain ⟨w1,hw1⟩:∃ w1,w1=w.setCell ⟨H,21,none⟩ (.int .i64 ((boots:Int)+1)):=⟨_,rfl⟩
 have k0:=(cell_of_row w H 21 _ _ _ hb).trans (zkw D c boots)
 have kf:w.frozen? ⟨H,21,none⟩=false:=frozen_of_row w _ _ _ _ hb
 have x1:IntKind.i64.wrap ((boots:Int)+1)=(boots:Int)+1:=by rw [IntKind.wrap_i64];omega
 have hH1:w1.heap[H]?=some (.cells (hC D c (boots+1)) 73 (0,0)):=by
  rw [hw1,heap_setCell_same _ _ 21 _ _ _ hb]
  have:=zig D c boots (boots+1)
  rw [show (((boots+1:Nat):Int))=(boots:Int)+1 by omega] at this
  rw [this]
 have h01:∀ x,x≠H->w1.heap[x]?=w.heap[x]?:=fun x hx=>by rw [hw1];exact heap_setCell_other _ _ _ _ hx
 have hD1:qr w1 D F cur:=zv.same hD (fun x hx=>h01 x (fun e=>by
  have:=hD.tags hx
  rw [e,zc hb] at this
  simp at this)) (by rw [hw1];simp)
 have hR0:R 0 w1:=by
  rw [hR]
  refine ⟨F,cur,c,ts,⟨hH1,hD1,hline,hbnd,fun i hi=>absurd hi (Nat.not_lt_zero i),fun i l hi=>absurd hi (Nat.not_lt_zero i),fun i hi=>absurd hi (Nat.not_lt_zero i),fun i j l l' hi=>absurd hi (Nat.not_lt_zero i),hbH,hbF,fun i l hi=>absurd hi (Nat.not_lt_zero i),fun x hx=>by rw [hw1];simpa using hbS x hx⟩,fun i _ _=>⟨rfl,rfl,rfl⟩,fun i hi=>absurd hi (Nat.not_lt_zero i),?_⟩
  refine ⟨fun x t C ht hx=>?_,by rw [hw1];rfl,by rw [hw1];rfl,by rw [hw1];rfl,by rw [hw1];simp,fun x h1 _=>h01 x (fun e=>hbH (e ▸ h1))⟩
  refine (h01 x (fun e=>?_)).trans hx
  rw [e,hb] at hx
  injection hx with hx
  injection hx with _ hx
  subst hx
  exact ht (by decide)
 obtain ⟨HR,HR0,HW1,HO⟩:=zi4 hR hR0 hw1 ho
 clear hR hR0 hw1 ho hH1 h01 hD1 hb hD hline hbnd
 go_enter Tryz.func20,Tryz.ntmps20
 go_upto_region 1 with fail
 rw [<- HW1.out]
 clear k0 kf
 go_upto_region 2 with fail
 go_loopw [10] (fun u wr=>∃ k:Nat,k<=4/\u=.int .i64 k/\R k wr) (fun u _=>(4-jl u).toNat)
 case atStart=>exact ⟨0,Nat.zero_le _,rfl,HR0.out⟩
 case round =>
  obtain ⟨k,hk,rfl,hrk⟩:=hrel
  rw [HR.out] at hrk
  obtain ⟨Fk,ck,cc,tk,hK,hrest,hopn,hkl⟩:=hrk
  by_cases hlt:k<4
  ·have q1:(k:Int)<4:=by omega
   have x2:IntKind.i64.wrap ((k:Int)+1)=(k:Int)+1:=by rw [IntKind.wrap_i64];omega
   obtain ⟨e1,e2,e3⟩:=hrest k (Nat.le_refl _) hlt
   have HOP:=hid (ziB H D k Fk ck cc tk (boots+1) (o k) wr hK hlt hbt (fun hs=>(HO.out k hlt (by rw [<- e2];exact hs)).congr e1))
   obtain ⟨HREST,HOPN,HKL,HE2,HE3⟩:=zi5 hrest hopn hkl e2 e3
   clear hrest hopn hkl hK e1 e2 e3
   go_wp2_with (go_at_call 25;(with_reducible refine HOP.out.mono ?_);rintro e1 w2 ⟨rfl,hkl2,F2,cur2,c2,t2,hK2,hout2,hop2⟩)
   go_roundw
   case rel =>
    refine ⟨k+1,by omega,by simp,?_⟩
    rw [HR.out]
    refine ⟨F2,cur2,c2,_,hK2,fun i h1 h2=>?_,fun i hi=>?_,HKL.out.trans hkl2⟩
    ·have hik:i≠k:=by omega
     obtain ⟨e1,e2,e3⟩:=HREST.out i (by omega) h2
     refine ⟨(funext fun q=>hout2 i q hik).trans e1,?_,?_⟩
     ·rw [yt _ _ _ hik];exact e2
     ·rw [yt _ _ _ hik];exact e3
    ·by_cases e:i=k
     ·subst e
      rw [qO]
      exact ⟨hop2.st.trans HE2.out,hop2.ct.trans HE3.out,fun hs=>hop2.gone (HE2.out.trans hs),fun hs=>by have:=hop2.live (HE2.out.trans hs);rw [HE3.out] at this;exact this⟩
     ·rw [yt _ _ _ e];exact (HOPN.out i (by omega)).reF _
   case measure=>simp [jl];omega
  ·have hk4:k=4:=by omega
   subst hk4
   have HA:=hid hK.at
   obtain ⟨HOPN,HKL⟩:=zi2 hopn hkl
   clear hK hrest hopn hkl
   go_wp2_with fail
   go_end0
   exact ⟨rfl,HKL.out,Fk,ck,tk,HA.out,fun i hi=>HOPN.out i hi⟩
end
section
variable {bz:Nat->Prop}
def zhA:Nat->Tn:=fun _=>⟨0,0,none⟩
def cZ:Nat->T5:=fun _=>⟨.pointer none,.pointer none,.int .i64 0,.int .u64 0,.bool false⟩
theorem zgq (w:World) :
  Calls Tryz.prog 8 #[] w fun e W=>∃ H D F cur ts,e=.returned (.pointer (some ⟨H,0,none⟩))/\zP (·<w.heap.size) W H D F cur ts 1/\(∀ r,r<4->ts r=⟨0,0,none⟩)/\zj (·<w.heap.size) w W:=by
 have HDN:=hid (zhT w)
 go_enter Tryz.func8,Tryz.ntmps8
 go_upto_region 2 with (go_at_call 19;(with_reducible refine HDN.out.mono ?_);rintro e1 w1 ⟨D,F,rfl,hD1,hb1,hF1⟩)
 obtain ⟨w2,hw2⟩:∃ w2,w2=w1.alloc (.cells (hC D cZ 0) 73):=⟨_,rfl⟩
 have hw2':w1.alloc (.cells #[.pointer (some ⟨D,0,none⟩),.pointer none,.pointer none,.int .i64 0,.int .u64 0,.bool false,.pointer none,.pointer none,.int .i64 0,.int .u64 0,.bool false,.pointer none,.pointer none,.int .i64 0,.int .u64 0,.bool false,.pointer none,.pointer none,.int .i64 0,.int .u64 0,.bool false,.int .i64 0] 73)=w2:=hw2.symm
 have hb2:Below w.heap.size w w2:=by rw [hw2];exact B_alloc hb1 _
 have hH2:w2.heap[w1.heap.size]?=some (.cells (hC D cZ 0) 73 (0,0)):=by rw [hw2];exact zk _ _ rfl
 have hb12:Below w1.heap.size w1 w2:=by rw [hw2];exact B_alloc (Below.refl _ _) _
 have hD2:qr w2 D F (fun _ _=>zs 64):=zv.below hD1 hb12
 have hbo:=zcp (bz:=(·<w.heap.size)) w1.heap.size D F (fun _ _=>zs 64) cZ zhA 0 (fun _=>⟨1,0,[],fun _=>uL⟩) w2 hH2 hD2 (fun r hr=>by
  show zs 64=jc (yw 0 0)
  decide) (fun r hr=>⟨by simp [zhA],by simp [zhA]⟩) (by omega) (fun r hr h=>by simp [zhA] at h) (Nat.not_lt.2 hb1.size) (fun x hx=>Nat.not_lt.2 (hF1 x hx)) (fun x hx=>Nat.lt_of_lt_of_le hx hb2.size)
 obtain ⟨HBO,HB2⟩:=zi2 hbo hb2
 have HW2:=hid hw2'
 clear hw2 hw2' hb2 hH2 hb12 hD2 hbo hD1 hb1 hF1
 rw [HW2.out]
 go_wp2_with (go_at_call 20;(with_reducible refine HBO.out.mono ?_);rintro e3 w3 ⟨rfl,hk3,F3,cur3,ts3,hh3,hop3⟩)
 go_ret
 refine ⟨w1.heap.size,D,F3,cur3,ts3,rfl,hh3,fun r hr=>?_,(zj.below HB2.out).trans hk3⟩
 have h1:=hop3 r hr
 have h2:=h1.st
 have h3:=h1.ct
 have h4:=h1.gone rfl
 cases e:ts3 r with
 | mk a b c =>
  rw [e] at h2 h3 h4
  simp only [zhA] at h2 h3 h4
  rw [h2,h3,h4]
end
section
variable {bz:Nat->Prop}
theorem zjA (H D r:Nat) (c:Nat->T5) (boots:Nat) (q:Rq) (w:World) (P:An->World->Prop) (hb:w.heap[H]?=some (.cells (hC D c boots) 73 (0,0))) (hr:r<4) (hd:(c r).d=.bool false)
  (hk0:0<=q.kd) (hk:q.kd<=17) (ht:q.tn=r)
  (hP:∀ a W W',P a W->qQ W W'->P a W')
  (hserve:∀ W,Below w.heap.size w W->Calls Tryz.prog 23 #[.pointer (some ⟨H,0,none⟩),.pointer (some ⟨H,1+r*5,none⟩),.agg (zL q).toArray] W fun e W'=>∃ a,e=.returned (.agg (zG a).toArray)/\a.er≠10/\zj bz W W'/\P a W') :
  Calls Tryz.prog 9 #[.pointer (some ⟨H,0,none⟩),.agg (zL q).toArray] w fun e W'=>∃ a,e=.returned (.agg (zG (if a.er=0 then a else qn a.er)).toArray)/\zj bz w W'/\P a W':=by
 have hd1:decide (q.kd<0)=false:=by simp;omega
 have hd2:decide ((19:Int)<q.kd)=false:=by simp;omega
 have hd3:(q.kd == 19)=false:=by simp;omega
 have hd4:(q.kd == 18)=false:=by simp;omega
 have r0:(0:Int)<=(r:Int):=by omega
 have r4:(r:Int)<4:=by omega
 have ht1:decide ((r:Int)<0)=false:=by simp
 have ht2:decide ((4:Int)<=(r:Int))=false:=by simp;omega
 obtain ⟨kd,tn,hdl,rt,rk,rv,tt,n,mask,dA,dn,dc⟩:=q
 simp only at *
 subst ht
 obtain ⟨Q,hQ⟩:∃ Q:Rq,Q=⟨kd,r,hdl,rt,rk,rv,tt,n,mask,dA,dn,dc⟩:=⟨_,rfl⟩
 rw [<- hQ] at hserve
 obtain ⟨w1,hw1⟩:∃ w1,w1=(w.alloc (.cells (zL Q).toArray 37)).alloc (.cells #[.int .i64 0,.int .i64 0,.string { data:=#[] },.slice none 0 0,.slice none 0 0] 31):=⟨_,rfl⟩
 have hB1:Below w.heap.size w w1:=by rw [hw1];exact B_alloc (B_alloc (Below.refl _ _) _) _
 have hX3:w1.heap[w.heap.size]?=some (.cells (zL Q).toArray 37 (0,0)):=by rw [hw1];exact zy (zk _ _ rfl) _
 have hX4:w1.heap[w.heap.size+1]?=some (.cells #[.int .i64 0,.int .i64 0,.string { data:=#[] },.slice none 0 0,.slice none 0 0] 31 (0,0)):=by rw [hw1];exact zk _ _ (by simp)
 have k0:=(cell_of_row w1 w.heap.size 0 _ _ _ hX3).trans (show _=some (Value.int .i64 kd) by rw [hQ];rfl)
 have k1:=(cell_of_row w1 w.heap.size 1 _ _ _ hX3).trans (show _=some (Value.int .i64 r) by rw [hQ];rfl)
 have hbH:w1.heap[H]?=some (.cells (hC D c boots) 73 (0,0)):=zb hb hB1 (zd hb)
 have kd4:=(cell_of_row w1 H (1+r*5+4) _ _ _ hbH).trans (Jw D c boots r hr).2.2.2.2
 rw [hd] at kd4
 have HS:=hid (hserve w1.drew hB1.drew)
 obtain ⟨HQ,HW1,HB1,HX3,HX4,HPP,HBL⟩:=zi7 hQ hw1 hB1 hX3 hX4 hP hb
 rw [<- hQ]
 clear hserve hw1 hB1 hX3 hX4 hP hbH hd hQ hb
 go_enter Tryz.func9,Tryz.ntmps9
 go_upto_region 1 with fail
 rw [<- HW1.out]
 go_upto_region 19 with fail
 have hS:w1.drew.cell? ⟨w.heap.size,1,none⟩=some (.int .i64 r):=k1
 refine wp_region_noPanic ?_
 refine PrintLast.start_ (n:=7) (S:=(fun w'=>w'.cell? ⟨w.heap.size,1,none⟩=some (.int .i64 r))) (ds:=[]) (bA 7 0) (by kernel_rfl) rfl (by kernel_rfl) hS (fun hHeld=>?_)
 refine pu 0 71 7 1 rfl rfl ?_
 refine pu 1 72 7 3 rfl rfl ?_
 refine tk 2 73 7 7 rfl rfl (Or.inl ⟨by rfl,fun _ h=>(by have k0:=h;go_simp;with_reducible rfl)⟩) ?_
 refine pu 3 74 7 15 rfl rfl ?_
 refine pu 4 75 7 31 rfl rfl ?_
 refine pu 5 76 7 63 rfl rfl ?_
 refine pu 6 6 7 127 rfl rfl ?_
 refine PrintLast.done_ (by kernel_rfl) ?_
 refine NoPanic.normal ?_
 have kd4':w1.drew.cell? ⟨H,1+r*5+4,none⟩=some (.bool false):=kd4
 have hX3':w1.drew.heap[w.heap.size]?=some (.cells (zL Q).toArray 37 (0,0)):=HX3.out
 have HX3':=hid hX3'
 clear k0 k1 kd4 hHeld hS hX3'
 go_upto_region 22 with (first
  | (show wpList _ _ _ (⟨some 84,_,_,_,_,_⟩::_) _ _;refine wpList_load_row rfl 37 (.tmp 3) rfl w.heap.size (by rfl) 37 _ (0,0) _ HX3'.out Tryz.underlying37 rfl (by kernel_rfl) ?_)
  | (go_at_call 23;(with_reducible refine HS.out.mono ?_);rintro e2 w2 ⟨an,rfl,hne,hkl,hp2⟩)
  | (show wpList _ _ _ (⟨none,.store 31 (.tmp 7) _,_,_,_,_⟩::_) _ _;refine zN rfl 31 (.tmp 7) (.tmp 85) rfl w2.heap.size rfl _ (zG an).toArray (by rfl) (by rfl) (by kernel_rfl) (by rfl) (zhM an) ?_))
 obtain ⟨w3,hw3⟩:∃ w3,w3=w2.alloc (.cells (zG an).toArray 31):=⟨_,rfl⟩
 rw [<- hw3]
 have hb3:Below w2.heap.size w2 w3:=by rw [hw3];exact B_alloc (Below.refl _ _) _
 have hA7:w3.heap[w2.heap.size]?=some (.cells (zG an).toArray 31 (0,0)):=by rw [hw3];exact zk _ _ rfl
 have hA4:w3.heap[w.heap.size+1]?=some (.cells #[.int .i64 0,.int .i64 0,.string { data:=#[] },.slice none 0 0,.slice none 0 0] 31 (0,0)):=zb (hkl _ _ _ (by decide) (show w1.drew.heap[_]?=_ from HX4.out)) hb3 (zd (hkl _ _ _ (by decide) (show w1.drew.heap[_]?=_ from HX4.out)))
 have hp3:=HPP.out _ _ _ hp2 (qQ.below hb3)
 have hz2:w.heap.size<=w2.heap.size:=Nat.le_of_lt (zd (hkl _ _ _ (by decide) (show w1.drew.heap[_]?=_ from HX3.out)))
 have hk3:zj bz w w3:=(zj.below HB1.out).trans ((zj.of_drew hkl).trans (zj.below hb3))
 obtain ⟨HZ2,HK3⟩:=zi2 hz2 hk3
 clear hz2 hk3
 have hne4:w.heap.size+1≠w2.heap.size:=fun e=>by
  have:=zd (hkl _ _ _ (by decide) (show w1.drew.heap[_]?=_ from HX4.out));omega
 have e0:=(cell_of_row w3 w2.heap.size 0 _ _ _ hA7).trans (show _=some (Value.int .i64 an.er) from rfl)
 have hq1:(an.er == 10)=false:=by simpa using hne
 obtain ⟨HA7,HA4,HP3,HNE4⟩:=zi4 hA7 hA4 hp3 hne4
 clear hw3 hb3 hA7 hA4 hp2 hp3 hkl hne4 hne
 by_cases he:an.er=0
 ·have hq2:(an.er != 0)=false:=by simpa using he
  have HE:=hid he
  clear he
  go_wp2_with (first
   | (show wpList _ _ _ (⟨some 98,_,_,_,_,_⟩::_) _ _;refine wpList_load_row rfl 31 (.tmp 7) rfl w2.heap.size (by rfl) 31 _ (0,0) _ HA7.out Tryz.underlying31 rfl (by kernel_rfl) ?_)
   | (show wpList _ _ _ (⟨none,.store 31 (.tmp 4) _,_,_,_,_⟩::_) _ _;refine zB rfl 31 (.tmp 4) (.tmp 98) rfl (w.heap.size+1) 0 31 _ (zG an).toArray (by rfl) (by rfl) HA4.out (by simp [zG]) (by kernel_rfl) (by simp [zG,Value.oneCell']) ?_))
  refine zaS 4 31 rfl rfl (w.heap.size+1) 31 (zG an).toArray (0,0) _ rfl (setRow_heap w3 (w.heap.size+1) _ _ 31 _ HA4.out) Tryz.underlying31 rfl (by kernel_rfl) ⟨an,?_,HK3.out.setRow (by omega) _,?_⟩
  ·rw [if_pos HE.out]
  ·exact HPP.out _ _ _ HP3.out (qQ.setRow HA4.out _)
 ·have hq2:(an.er != 0)=true:=by simpa using he
  have HE:=hid he
  clear he
  have hR7:=setRow_heap w3 w2.heap.size _ (zG (qn an.er)).toArray 31 _ HA7.out
  have hR4:=(setRow_other w3 w2.heap.size (w.heap.size+1) (zG (qn an.er)).toArray HNE4.out).trans HA4.out
  obtain ⟨HR7,HR4⟩:=zi2 hR7 hR4
  clear hR7 hR4
  go_wp2_with (first
   | (show wpList _ _ _ (⟨some 98,_,_,_,_,_⟩::_) _ _;refine wpList_load_row rfl 31 (.tmp 7) rfl w2.heap.size (by rfl) 31 _ (0,0) _ HR7.out Tryz.underlying31 rfl (by kernel_rfl) ?_)
   | (show wpList _ _ _ (⟨none,.store 31 (.tmp 7) _,_,_,_,_⟩::_) _ _;refine zB rfl 31 (.tmp 7) (.tmp 97) rfl w2.heap.size 0 31 _ (zG (qn an.er)).toArray (by rfl) (by rfl) HA7.out (by simp [zG]) (by kernel_rfl) (by simp [zG,Value.oneCell']) ?_)
   | (show wpList _ _ _ (⟨none,.store 31 (.tmp 4) _,_,_,_,_⟩::_) _ _;refine zB rfl 31 (.tmp 4) (.tmp 98) rfl (w.heap.size+1) 0 31 _ (zG (qn an.er)).toArray (by rfl) (by rfl) HR4.out (by simp [zG]) (by kernel_rfl) (by simp [zG,Value.oneCell']) ?_))
  refine zaS 4 31 rfl rfl (w.heap.size+1) 31 (zG (qn an.er)).toArray (0,0) _ rfl (setRow_heap _ (w.heap.size+1) _ _ 31 _ HR4.out) Tryz.underlying31 rfl (by kernel_rfl) ⟨an,?_,(HK3.out.setRow HZ2.out _).setRow (by omega) _,?_⟩
  ·rw [if_neg HE.out]
  ·exact HPP.out _ _ _ HP3.out ((qQ.setRow HA7.out _).trans (qQ.setRow HR4.out _))
theorem zhW (H D:Nat) (F:Nat->Prop) (cur:Nat->Nat->List UInt8) (ts:Nat->Tn) (boots:Nat) (o:Nat->zbb) (q:Rq) (w:World) (h:zP bz w H D F cur ts boots) (hkd:q.kd=19) (hn:q.n<=0) (hbt:boots+1<1000000) (ho:∀ r,r<4->(ts r).st=1->Jq (cur r) r (o r)) :
  Calls Tryz.prog 9 #[.pointer (some ⟨H,0,none⟩),.agg (zL q).toArray] w fun e W=>e=.returned (.agg (zG (qn 0)).toArray)/\zj bz w W/\∃ F' cur' ts',zP bz W H D F' cur' ts' (boots+1)/\∀ r,r<4->Qf r (o r) (boots+1) (ts r) (ts' r):=by
 have hq5:decide ((0:Int)<q.n)=false:=by simp;omega
 obtain ⟨w1,hw1⟩:∃ w1,w1=(w.alloc (.cells (zL q).toArray 37)).alloc (.cells #[.int .i64 0,.int .i64 0,.string { data:=#[] },.slice none 0 0,.slice none 0 0] 31):=⟨_,rfl⟩
 have hB1:Below w.heap.size w w1:=by rw [hw1];exact B_alloc (B_alloc (Below.refl _ _) _) _
 have hX3:w1.heap[w.heap.size]?=some (.cells (zL q).toArray 37 (0,0)):=by rw [hw1];exact zy (zk _ _ rfl) _
 have hX4:w1.heap[w.heap.size+1]?=some (.cells #[.int .i64 0,.int .i64 0,.string { data:=#[] },.slice none 0 0,.slice none 0 0] 31 (0,0)):=by rw [hw1];exact zk _ _ (by simp)
 have k0:=(cell_of_row w1 w.heap.size 0 _ _ _ hX3).trans (show _=some (Value.int .i64 q.kd) from rfl)
 rw [hkd] at k0
 have hh1:=h.below hB1
 have hcr:=zgh D F cur (fun _=>0) q.mask w1.drew hh1.disk.drew (fun _ _=>rfl)
 obtain ⟨HW1,HB1,HX3,HX4,HH1,HCR,HO⟩:=zi7 hw1 hB1 hX3 hX4 hh1 hcr ho
 clear hw1 hB1 hX3 hX4 hh1 hcr ho h
 go_enter Tryz.func9,Tryz.ntmps9
 go_upto_region 1 with fail
 rw [<- HW1.out]
 go_upto_region 4 with fail
 have hS:w1.drew.heap[w.heap.size]?=some (.cells (zL q).toArray 37 (0,0))/\w1.drew.heap[H]?=some (.cells (hC D (fun r=>(ts r).t5) boots) 73 (0,0)):=⟨HX3.out,HH1.out.blk⟩
 refine wp_region_noPanic ?_
 refine PrintLast.start_ (n:=7) (S:=(fun w'=>w'.heap[w.heap.size]?=some (.cells (zL q).toArray 37 (0,0))/\w'.heap[H]?=some (.cells (hC D (fun r=>(ts r).t5) boots) 73 (0,0)))) (ds:=[6]) (bA 7 0) (by kernel_rfl) rfl (by kernel_rfl) hS (fun hHeld=>?_)
 refine pu 0 24 7 1 rfl rfl ?_
 refine pu 1 25 7 3 rfl rfl ?_
 refine pu 2 26 7 7 rfl rfl ?_
 refine tk 3 27 7 15 rfl rfl (Or.inl ⟨by rfl,fun _ h=>(by have k0:=(cell_of_row _ H 0 _ _ _ h.2).trans (zcG D _ boots);go_simp;with_reducible rfl)⟩) ?_
 refine pu 4 28 7 31 rfl rfl ?_
 refine tk 5 29 7 63 rfl rfl (Or.inl ⟨by rfl,fun _ h=>(by have k0:=(cell_of_row _ w.heap.size 8 _ _ _ h.1).trans (show _=some (Value.int .u64 q.mask) from rfl);go_simp;with_reducible rfl)⟩) ?_
 refine la 6 7 127 (some 30) rfl rfl (fun K hK=>?_)
 show Oper.wp _ ⟨some 30,_,_,_,_,_⟩ _ _ _ _
 refine zq 21 _ _ [.pointer (some ⟨D,0,none⟩),.int .u64 q.mask] rfl (by kernel_rfl) (by rfl) (HCR.out.mono ?_)
 rintro e2 w2 ⟨rfl,hD2,hk2⟩
 refine ⟨_,rfl,?_⟩
 refine hK.out _ _ ?_
 clear hK K
 try simp only [pS]
 refine PrintLast.done_ (by kernel_rfl) ?_
 refine NoPanic.normal ?_
 have hnF:∀ {x t:Nat} {C:Array Value},w1.heap[x]?=some (.cells C t (0,0))->t ∉ [81,118,86,120]->¬ F x:=fun hx ht hf=>ht (by have:=HH1.out.disk.tags hf;rw [zc hx] at this;exact this)
 have hx3:=qj (show w1.drew.heap[_]?=_ from HX3.out) hk2 (hnF HX3.out (by decide))
 have hx4:=qj (show w1.drew.heap[_]?=_ from HX4.out) hk2 (hnF HX4.out (by decide))
 have hxH:=qj (show w1.drew.heap[_]?=_ from HH1.out.blk) hk2 (hnF HH1.out.blk (by decide))
 have hbo:=zcp H D F cur (fun r=>(ts r).t5) ts boots o w2 hxH hD2 HH1.out.line HH1.out.bnd hbt HO.out HH1.out.base.1 HH1.out.base.2.1 (fun x hx=>Nat.lt_of_lt_of_le (HH1.out.base.2.2.2 x hx) hk2.size)
 have hkl2:zj bz w1 w2:=zj.of_drew (zj.keep HH1.out.base.2.1 (fun x t C ht hx=>qj (show w1.drew.heap[_]?=_ from hx) hk2 (hnF hx (fun h9=>ht (by
  simp only [List.mem_cons,List.not_mem_nil,or_false] at h9 ⊢
  omega)))) hk2)
 have kn:=(cell_of_row w2 w.heap.size 7 _ _ _ hx3).trans (show _=some (Value.int .i64 q.n) from rfl)
 have HBO:=hid hbo
 have HX4':=hid hx4
 have HKL2:=hid hkl2
 clear hnF hx3 hx4 hxH hbo hkl2 hk2 hD2 hS hHeld k0
 go_upto_region 12 with (go_at_call 20;(with_reducible refine HBO.out.mono ?_);rintro e3 w3 ⟨rfl,hk3,F3,cur3,ts3,hh3,hop3⟩)
 have hx43:=hk3 _ _ _ (by decide) HX4'.out
 obtain ⟨HX43,HH3,HK3,HOP3⟩:=zi4 hx43 hh3 hk3 hop3
 clear hx43 hh3 hk3 hop3
 go_wp2_with (show wpList _ _ _ (⟨none,.store 31 (.tmp 4) _,_,_,_,_⟩::_) _ _;refine zB rfl 31 (.tmp 4) (.tmp 48) rfl (w.heap.size+1) 0 31 _ (zG (qn 0)).toArray (by rfl) (by rfl) HX43.out (by simp [zG]) (by kernel_rfl) (by simp [zG,Value.oneCell']) ?_)
 refine ju (an:=qn 0) 4 rfl rfl rfl HX43.out rfl ⟨rfl,?_,F3,cur3,ts3,HH3.out.bar (qQ.setRow HX43.out _),HOP3.out⟩
 exact ((zj.below HB1.out).trans (HKL2.out.trans HK3.out)).setRow (by omega) _
end
end Go.Proofs.YtechnoogjhohfaaGreat
namespace Go.Proofs.YtechnoogjhohfaaGreat
theorem GM:∀ (N:Nat) (l:List Nat),l.Nodup->(∀ x,x∈l->x<N)->l.length<=N
 | 0,[],_,_=>Nat.le_refl _
 | 0,x::l,_,h=>absurd (h x (List.mem_cons_self ..)) (Nat.not_lt_zero _)
 | N+1,l,hn,h=>by
  have h1:=GM N (l.filter fun x=>!decide (x=N)) (hn.filter _) fun x hx=>by
   obtain ⟨h2,h3⟩:=List.mem_filter.1 hx
   have:=h x h2
   simp at h3
   omega
  have h2:∀ (l:List Nat),l.Nodup->l.length<=(l.filter fun x=>!decide (x=N)).length+1:=by
   intro l
   induction l with
   | nil=>intro _;simp
   | cons y l ih =>
    intro hn
    obtain ⟨h3,h4⟩:=List.nodup_cons.1 hn
    by_cases e:y=N
    ·subst e
     have h5:l.filter (fun x=>!decide (x=y))=l:=List.filter_eq_self.2 fun x hx=>by
      simp only [Bool.not_eq_true',decide_eq_false_iff_not]
      exact fun e=>h3 (e ▸ hx)
     rw [List.filter_cons_of_neg (by simp),h5,List.length_cons]
     exact Nat.le_refl _
    ·rw [List.filter_cons_of_pos (by simp [e]),List.length_cons,List.length_cons]
     have:=ih h4
     omega
  have:=h2 l hn
  omega
theorem zcu:∀ (N:Nat) (l:List Nat),(∀ x,x<N->x∈l)->N<=l.length
 | 0,_,_=>Nat.zero_le _
 | N+1,l,h=>by
  have h1:=zcu N (l.erase N) fun x hx=>(List.mem_erase_of_ne (by omega)).2 (h x (by omega))
  have h2:=h N (by omega)
  rw [List.length_erase_of_mem h2] at h1
  have:=List.length_pos_of_mem h2
  omega
def codes (its:List It):List Nat:=its.map fun x=>x.pg*5+x.sl
theorem vj.codes {its:List It} {C:Nat->List (Option Rw)} (h:vj its C):(codes its).Nodup/\(∀ x,x∈codes its->x<30):=by
 refine ⟨?_,fun x hx=>?_⟩
 ·unfold Go.Proofs.YtechnoogjhohfaaGreat.codes
  rw [List.nodup_iff_pairwise_ne,List.pairwise_map]
  refine List.Pairwise.imp_of_mem ?_ h.so
  intro a b ha hb hlt e
  obtain ⟨a1,a2,a3⟩:=(h.mem a).1 ha
  obtain ⟨b1,b2,b3⟩:=(h.mem b).1 hb
  have e1:a.pg=b.pg:=by omega
  have e2:a.sl=b.sl:=by omega
  rw [e1,e2,b3] at a3
  injection a3 with a3
  injection a3 with a3
  rw [a3] at hlt
  exact vN _ hlt
 ·obtain ⟨y,hy,rfl⟩:=List.mem_map.1 hx
  obtain ⟨a1,a2,_⟩:=(h.mem y).1 hy
  omega
theorem vj.free {its:List It} {C:Nat->List (Option Rw)} (h:vj its C) {n i:Nat} (hn:n<6) (hi:i<5) (hc:(C n)[i]?=some none):its.length<30:=by
 obtain ⟨h1,h2⟩:=h.codes
 have h3:n*5+i ∉ Go.Proofs.YtechnoogjhohfaaGreat.codes its:=fun hx=>by
  obtain ⟨y,hy,e⟩:=List.mem_map.1 hx
  obtain ⟨a1,a2,a3⟩:=(h.mem y).1 hy
  have e1:y.pg=n:=by omega
  have e2:y.sl=i:=by omega
  rw [e1,e2,hc] at a3
  injection a3 with a3
  cases a3
 have h4:=GM 30 ((n*5+i)::Go.Proofs.YtechnoogjhohfaaGreat.codes its) (List.nodup_cons.2 ⟨h3,h1⟩) fun x hx=>by
  rcases List.mem_cons.1 hx with rfl | hx
  ·omega
  ·exact h2 x hx
 have h5:(Go.Proofs.YtechnoogjhohfaaGreat.codes its).length=its.length:=by simp [Go.Proofs.YtechnoogjhohfaaGreat.codes]
 rw [List.length_cons,h5] at h4
 omega
theorem vj.le30 {its:List It} {C:Nat->List (Option Rw)} (h:vj its C):its.length<=30:=by
 obtain ⟨h1,h2⟩:=h.codes
 have:=GM 30 _ h1 h2
 simpa [Go.Proofs.YtechnoogjhohfaaGreat.codes] using this
theorem vj.full {its:List It} {C:Nat->List (Option Rw)} (h:vj its C) (hl:∀ k,k<6->(C k).length=5) (hf:∀ n i:Nat,n<6->i<5->¬ (C n)[i]?=some none):30<=its.length:=by
 have h3:∀ x,x<30->x∈Go.Proofs.YtechnoogjhohfaaGreat.codes its:=fun x hx=>by
  have hn:x / 5<6:=by omega
  have hi:x % 5<5:=by omega
  obtain ⟨o,hc⟩:∃ o,(C (x / 5))[x % 5]?=some o:=⟨_,List.getElem?_eq_getElem (by rw [hl _ hn];exact hi)⟩
  cases o with
  | none=>exact absurd hc (hf _ _ hn hi)
  | some r =>
   refine List.mem_map.2 ⟨⟨r,x / 5,x % 5⟩,(h.mem _).2 ⟨hn,hi,hc⟩,?_⟩
   simp only
   omega
 have h4:=zcu 30 _ h3
 simpa [Go.Proofs.YtechnoogjhohfaaGreat.codes] using h4
theorem Zp.eq {s:St} {T m n i:Nat} {its0:List It} {rw:Rw} {rs:List zI} {b:Option Rw} {x:zI} {C:Nat->List (Option Rw)} (h:Zp s T its0 rw rs m n i b x C):s.its=yZ its0 (qF its0 rw) ⟨rw,n,i⟩:=by
 refine QQ h.its.so (zJ.put (x:=⟨rw,n,i⟩) h.was.so (Cut.of_sorted h.was.so)) fun y=>?_
 rw [h.mem y,Qp h.was.so ⟨rw,n,i⟩ y]
structure zld (s s':St) (T:Nat) (rw:Rw):Prop where
 aft:∃ rs m n i b x C,Zp s' T s.its rw rs m n i b x C
 gen:s'.sto.gen<=s.sto.gen+1
 log:s'.sto.log.length+1580<=14336
 new:(∀ y,y∈s.its->¬ jh y.rw rw)->s.its.length<30/\s'.its.length=s.its.length+1
theorem ziL {s:St} {rs:List zI} {m T r nb:Nat} {nbs:Nat->Nat} {C:Nat->List (Option Rw)} {rw:Rw} (h:yx s rs m C) (ht:s.ts=one T Zo) (hpo:∀ n,(s.sto.page n).ok) (hok:rw.ok) (hl:s.sto.log.length<=14336) :
  ((s.put r nbs nb 1 0 rw).1=7/\(∃ m',yx (s.put r nbs nb 1 0 rw).2 rs m' C)/\(s.put r nbs nb 1 0 rw).2.ts=one T Zo/\(s.put r nbs nb 1 0 rw).2.its=s.its/\(s.put r nbs nb 1 0 rw).2.sto.gen=s.sto.gen/\(∀ y,y∈s.its->¬ jh y.rw rw)/\s.its.length=30) ∨
  ((s.put r nbs nb 1 0 rw).1=0/\zld s (s.put r nbs nb 1 0 rw).2 T rw):=by
 have hkb:Go.Proofs.YtechnoogjhohfaaGreat.keyB s.lk ((1:Nat):Int) rw.t (za rw.k)=true:=h.lk.keyB _ _
 have hks:yn (Go.Proofs.YtechnoogjhohfaaGreat.keyS s.lk ((1:Nat):Int) rw.t (za rw.k)):=h.lk.keyS _ _
 have hf:=Gu h.its.so ⟨rw.t,rw.k,[]⟩
 have hlen:∀ k,k<6->(C k).length=5:=fun k hk=>by rw [<- h.calm k hk];exact (hpo k).five
 unfold St.put
 rw [if_neg (by rw [hkb];simp),if_neg (by omega)]
 cases e:yB s.its ⟨rw.t,rw.k,[]⟩ with
 | some x =>
  obtain ⟨h1,h2⟩:=hf.1 x e
  obtain ⟨h3,h4,h5⟩:=(h.its.mem x).1 h1
  have hb1:yx ({ s with lk:=Go.Proofs.YtechnoogjhohfaaGreat.keyS s.lk ((1:Nat):Int) rw.t (za rw.k) }:St) rs m C:=⟨⟨h.pool,h.dur,h.calm,h.its⟩,h.closed,h.closedm,hks⟩
  obtain ⟨⟨rs',m',hb2⟩,hpg,hgen,hlog⟩:=hb1.ready (T:=T) (x:=Zo) ht rfl hl
  have hrd:=GP ({ s with lk:=Go.Proofs.YtechnoogjhohfaaGreat.keyS s.lk ((1:Nat):Int) rw.t (za rw.k) }:St)
  have hits:({ s with lk:=Go.Proofs.YtechnoogjhohfaaGreat.keyS s.lk ((1:Nat):Int) rw.t (za rw.k) }:St).ready.its=s.its:=hrd.1
  obtain ⟨⟨rs2,m2,x2,ha⟩,hg2,hl2⟩:=zbj (r:=r) (nb:=nb) (T:=T) (rw:=rw) hb2 (hrd.2.1.trans ht) (fun n=>by rw [hpg];exact hpo n) hok h3 h4 h5 (fun r' hr'=>by injection hr' with hr';rw [<- hr'];exact h2) (fun y hy hs=>by
   rw [hits] at hy
   have:=uW h.its.so hy h1 (hs.trans h2.symm)
   rw [this];exact ⟨rfl,rfl⟩) hlog
  rw [hits] at ha
  exact .inr ⟨rfl,⟨⟨rs2,m2,x.pg,x.sl,_,x2,C,ha⟩,by rw [hg2];exact hgen,hl2,fun hn=>absurd h2 (hn x h1)⟩⟩
 | none =>
  have hno:=hf.2 e
  have hkept:∀ k,jv (zH s.ts) k=[]:=fun k=>by rw [ht];exact zix rfl k
  obtain ⟨hs1,hsome,hnone⟩:=Yp (nbs:=nbs) hkept 6 0 h.pool
  cases e2:(zR s.ts nbs 6 0 s.sto).2 with
  | none =>
   have hfull:=hnone e2
   have hb1:=h.sto (s':={ s with lk:=Go.Proofs.YtechnoogjhohfaaGreat.keyS s.lk ((1:Nat):Int) rw.t (za rw.k),sto:=(zR s.ts nbs 6 0 s.sto).1 }) hs1 rfl hks
   have h30:=h.its.full hlen fun n i hn hi=>by rw [<- h.calm n hn];exact hfull n i (Nat.zero_le _) (by omega) hi
   have h31:=h.its.le30
   exact .inl ⟨rfl,hb1,ht,rfl,hs1.gen,fun y hy hs=>hno y hy hs,by omega⟩
  | some p =>
   obtain ⟨n,i⟩:=p
   obtain ⟨_,h3,h4,h5⟩:=hsome n i e2
   have hn6:n<6:=by omega
   obtain ⟨m1,hb1⟩:=h.sto (s':={ s with lk:=Go.Proofs.YtechnoogjhohfaaGreat.keyS s.lk ((1:Nat):Int) rw.t (za rw.k),sto:=(zR s.ts nbs 6 0 s.sto).1 }) hs1 rfl hks
   obtain ⟨⟨rs',m',hb2⟩,hpg,hgen,hlog⟩:=hb1.ready (T:=T) (x:=Zo) ht rfl (by show (zR s.ts nbs 6 0 s.sto).1.log.length<=14336;rw [hs1.log];exact hl)
   have hrd:=GP ({ s with lk:=Go.Proofs.YtechnoogjhohfaaGreat.keyS s.lk ((1:Nat):Int) rw.t (za rw.k),sto:=(zR s.ts nbs 6 0 s.sto).1 }:St)
   have hits:({ s with lk:=Go.Proofs.YtechnoogjhohfaaGreat.keyS s.lk ((1:Nat):Int) rw.t (za rw.k),sto:=(zR s.ts nbs 6 0 s.sto).1 }:St).ready.its=s.its:=hrd.1
   have hc:(C n)[i]?=some none:=by rw [<- h.calm n hn6];exact h5
   have hpg2:∀ k,(({ s with lk:=Go.Proofs.YtechnoogjhohfaaGreat.keyS s.lk ((1:Nat):Int) rw.t (za rw.k),sto:=(zR s.ts nbs 6 0 s.sto).1 }:St).ready.sto.page k).ok:=fun k=>by
    rw [hpg k]
    show ((zR s.ts nbs 6 0 s.sto).1.page k).ok
    rw [hs1.page]
    exact hpo k
   obtain ⟨⟨rs2,m2,x2,ha⟩,hg2,hl2⟩:=zbj (r:=r) (nb:=nb) (T:=T) (rw:=rw) hb2 (hrd.2.1.trans ht) hpg2 hok hn6 h4 hc (fun r' hr'=>by cases hr') (fun y hy hs=>by
    rw [hits] at hy
    exact absurd hs (hno y hy)) hlog
   rw [hits] at ha
   refine .inr ⟨rfl,⟨⟨rs2,m2,n,i,_,x2,C,ha⟩,?_,hl2,fun _=>⟨h.its.free hn6 h4 hc,?_⟩⟩⟩
   ·rw [hg2]
    refine Nat.le_trans hgen ?_
    show (zR s.ts nbs 6 0 s.sto).1.gen+1<=_
    rw [hs1.gen]
    exact Nat.le_refl _
   ·show (St.chg _ r nb 3 1 n i (some rw)).its.length=_
    rw [ha.eq]
    exact zbY h.its.so ⟨rw,n,i⟩ fun y hy=>hno y hy
def zhn:Nat->List (Option Rw):=fun _=>List.replicate 5 none
theorem zlg:yx GC [qo] 1 zhn:=by
 have hfr:∀ (i:Nat) (f:zu) (x:Nat × Nat × Pg),jt[i]?=some f->¬ f.pg=some x:=fun i f x hf hp=>by
  have:f∈jt:=List.mem_of_getElem? hf
  simp [jt,zu.none] at this
  subst this
  cases hp
 have hok:qi QD:=⟨rfl,Nat.zero_lt_succ _,fun i j n hi hj=>by
  obtain ⟨f,b,p,h1,h2⟩:=ZM hi
  exact absurd h2 (hfr i f _ h1),fun i f b n p hf hp _=>absurd hp (hfr i f _ hf),Nat.le_refl _⟩
 have hpg:∀ n,QD.page n=uL:=fun n=>yl fun i hi=>by
  obtain ⟨f,b,p,h1,h2⟩:=ZM hi
  exact absurd h2 (hfr i f _ h1)
 have hcalm:QU QD zhn:=fun n _=>by rw [hpg];rfl
 refine ⟨⟨hok,un.fresh (s:=QD) (by simp [qo]) (Qr qo).symm (congrArg List.length (Qr qo).symm) (fun n _=>(hpg n).symm) (fun n _=>?_) hcalm,hcalm,.nil,fun x=>⟨fun h=>(by cases h),fun h=>?_⟩⟩,jw.check,jw.check,yn.nil⟩
 ·show (QD.page n).mark<qD QD.gen QD.log.length
  rw [hpg]
  exact Nat.lt_of_lt_of_le (Nat.zero_lt_succ _) (Nat.succ_le_succ (Nat.zero_le _))
 ·obtain ⟨h1,h2,h3⟩:=h
  have:=List.mem_of_getElem? h3
  have:=List.eq_of_mem_replicate this
  cases this
theorem yx.opn {w:World} {B D L r m:Nat} {FL F:Nat->Prop} {cur:Nat->Nat->List UInt8} {s:St} {rs:List zI} {C:Nat->List (Option Rw)} (h:yx s rs m C) (hs:qc w B D L r FL F cur s.sto) (hg0:0<s.sto.gen) (hg:s.sto.gen+1<4294967296) :
  Jq (cur r) r ⟨s.sto.gen,s.sto.bank,rs.take m,s.sto.dp⟩:=by
 have hz:∀ i,uk (rs.take m) i=0:=fun i=>by unfold uk;rw [h.closedm.lsr i];simp
 have htk:s.sto.log.take s.sto.sure=zp (rs.take m):=by
  rw [h.dur.log,h.dur.sure]
  conv=>lhs;rw [<- List.take_append_drop m rs,zbG]
  rw [List.take_append_of_le_length (Nat.le_of_eq (by rw [List.take_append_drop])),List.take_append_drop,List.take_length]
 refine ⟨by rw [<- htk];exact hs.on,h.closedm.ok,hs.bank1,hg0,hg,?_,?_,hs.pgs,hs.dpok,fun i=>by rw [h.closedm.lsr i];exact Nat.zero_le _⟩
 ·rw [hz,hz,hz]
  have h1:=QN rs m
  have h2:=hs.len
  rw [h.dur.log] at h2
  simp only
  omega
 ·simp only [List.length_take]
  have:=h.dur.pos
  have:=h.dur.mle
  omega
theorem yx.reopen {w:World} {B D L r r' m:Nat} {FL F:Nat->Prop} {cur:Nat->Nat->List UInt8} {s:St} {rs:List zI} {C:Nat->List (Option Rw)} {nb1 nb2 Ts:Nat->Nat} {nb3:Nat->Nat->Nat} (h:yx s rs m C) (hs:qc w B D L r' FL F cur s.sto) :
  yx (yq r s.sto.gen s.sto.bank (rs.take m) s.sto.dp nb1 nb2 Ts nb3).packed [qo] 1 C/\(yq r s.sto.gen s.sto.bank (rs.take m) s.sto.dp nb1 nb2 Ts nb3).packed.ts=Qw/\(yq r s.sto.gen s.sto.bank (rs.take m) s.sto.dp nb1 nb2 Ts nb3).packed.its=s.its/\(yq r s.sto.gen s.sto.bank (rs.take m) s.sto.dp nb1 nb2 Ts nb3).packed.sto.gen=s.sto.gen+1:=by
 have hlen:∀ k,k<6->(C k).length=5:=fun k hk=>by rw [<- h.calm k hk];exact (Gg hs k).five
 have hll:(zp (rs.take m)).length<=14336:=by
  have h1:=QN rs m
  have h2:=hs.len
  rw [h.dur.log] at h2
  omega
 obtain ⟨hp,hts,hlk,hgen⟩:=zcS (r:=r) (bank:=s.sto.bank) (nb1:=nb1) (nb2:=nb2) (Ts:=Ts) (nb3:=nb3) (h.closedm.from0 s.sto.gen 0) (fun i=>by rw [h.closedm.lsr i]) h.dur.part (h.its.keys hlen) (fun n hn=>by
  have h1:=(zaV (qx s.sto.gen 0 rs) n (s.sto.dp n)).1
  rw [h.dur.full n hn] at h1
  have h2:=h.dur.mark n hn
  have h3:=hs.len
  refine Nat.lt_of_le_of_lt h1 (Nat.lt_of_lt_of_le h2 ?_)
  unfold qD
  exact Nat.add_le_add_right (Nat.add_le_add_left h3 _) 1) hll
 exact ⟨⟨hp,jw.check,jw.check,by rw [hlk];exact yn.nil⟩,hts,QQ hp.its.so h.its.so fun y=>(hp.its.mem y).trans (h.its.mem y).symm,hgen⟩
end Go.Proofs.YtechnoogjhohfaaGreat
namespace Go.Proofs.YtechnoogjhohfaaGreat
open Go.RowKit Go.Lib
open YtechnoogjhohfaaGreatW
section
variable {bz:Nat->Prop}
inductive Ph where
 | idle (its:List It)
 | began (its:List It)
 | did (was:List It) (rw:Rw) (its:List It)
def JJ (l:Tl):Ph->Nat->Prop
 | .idle its,G=>(∃ rs m C,yx l.s rs m C)/\l.s.ts=Qw/\l.s.its=its/\0<l.s.sto.gen/\l.s.sto.gen<=G/\l.s.sto.log.length+790<=14336
 | .began its,G=>(∃ rs m C T,yx l.s rs m C/\l.s.ts=one T Zo)/\l.s.its=its/\0<l.s.sto.gen/\l.s.sto.gen<=G/\l.s.sto.log.length+790<=14336
 | .did was rw its,G=>(∃ T rs m n i b x C,Zp l.s T was rw rs m n i b x C)/\l.s.its=its/\0<l.s.sto.gen/\l.s.sto.gen<=G/\l.s.sto.log.length+1580<=14336
inductive jG where
 | gone (ct:Nat)
 | live (ct:Nat) (ep nx:Int) (hs:List (Int × Int)) (p:Ph) (G:Nat)
def jG.is:jG->Tn->Prop
 | .gone ct,t=>t=⟨0,ct,none⟩
 | .live ct ep nx hs p G,t=>t.st=1/\t.ct=ct/\∃ l,t.live=some l/\l.ep=ep/\l.nx=nx/\l.hs=hs/\JJ l p G
theorem JJ.reF {l:Tl} {p:Ph} {G:Nat} (h:JJ l p G) (F:Nat->Prop):JJ (l.reF F) p G:=by cases p<;>exact h
theorem jG.reF {a:jG} {t:Tn} (h:a.is t) (F:Nat->Prop):a.is (t.reF F):=by
 cases a with
 | gone ct =>
  have h1:t=⟨0,ct,none⟩:=h
  subst h1
  exact rfl
 | live ct ep nx hs p G =>
  obtain ⟨h1,h2,l,h3,h4,h5,h6,h7⟩:=h
  refine ⟨h1,h2,l.reF F,?_,h4,h5,h6,h7.reF F⟩
  unfold Tn.reF
  rw [h3];rfl
def HS (bz:Nat->Prop) (w:World) (H D boots:Nat) (A:Nat->jG):Prop:=∃ F cur ts,zP bz w H D F cur ts boots/\∀ i,i<4->(A i).is (ts i)
theorem HS.bar {w w':World} {H D boots:Nat} {A:Nat->jG} (h:HS bz w H D boots A) (hb:qQ w w'):HS bz w' H D boots A:=by
 obtain ⟨F,cur,ts,h1,h2⟩:=h
 exact ⟨F,cur,ts,h1.bar hb,h2⟩
theorem HS.below {w w':World} {H D boots:Nat} {A:Nat->jG} (h:HS bz w H D boots A) (hb:Below w.heap.size w w'):HS bz w' H D boots A:=h.bar (qQ.below hb)
theorem HS.set {W:World} {H D boots r:Nat} {A:Nat->jG} {F':Nat->Prop} {cur':Nat->Nat->List UInt8} {ts:Nat->Tn} {t:Tn} {a:jG} (h:zP bz W H D F' cur' (yo ts F' r t) boots) (hA:∀ i,i<4->(A i).is (ts i)) (ha:a.is t):HS bz W H D boots (zE A r a):=by
 refine ⟨F',cur',_,h,fun i hi=>?_⟩
 by_cases e:i=r
 ·subst e;rw [qO,zf];exact ha
 ·rw [yt _ _ _ e,zm _ _ e];exact jG.reF (hA i hi) F'
theorem zly (t:Tn):t.t5.d=.bool false:=by
 unfold Tn.t5
 cases t.live<;>rfl
def bE:ByteArray:={ data:=#[] }
def qN (kd tn hd:Int):Rq:=⟨kd,tn,hd,0,bE,bE,bE,0,0,none,0,0⟩
def vV (kd tn hd:Int) (r:Rw):Rq:=⟨kd,tn,hd,r.t,za r.k,za r.v,bE,0,0,none,0,0⟩
def zkV:Rw:=⟨0,[],[]⟩
theorem zhd:zkV.ok:=⟨by decide,by decide,by decide⟩
def zlr (hd:Int):An:=⟨0,hd,bE,none,0,0,none,0,0⟩
theorem HS.do {H D r boots:Nat} {F:Nat->Prop} {cur:Nat->Nat->List UInt8} {ts:Nat->Tn} {q:Rq} {w:World} (P:An->World->Prop) (h:zP bz w H D F cur ts boots) (hr:r<4) (hk0:0<=q.kd) (hk:q.kd<=17) (ht:q.tn=r) (hP:∀ a W W',P a W->qQ W W'->P a W')
  (hserve:∀ W,Below w.heap.size w W->zP bz W H D F cur ts boots->Calls Tryz.prog 23 #[.pointer (some ⟨H,0,none⟩),.pointer (some ⟨H,1+r*5,none⟩),.agg (zL q).toArray] W fun e W'=>∃ a,e=.returned (.agg (zG a).toArray)/\a.er≠10/\zj bz W W'/\P a W') :
  Calls Tryz.prog 9 #[.pointer (some ⟨H,0,none⟩),.agg (zL q).toArray] w fun e W'=>∃ a,e=.returned (.agg (zG (if a.er=0 then a else qn a.er)).toArray)/\zj bz w W'/\P a W' :=
 zjA H D r (fun r=>(ts r).t5) boots q w P h.blk hr (zly _) hk0 hk ht hP fun W hW=>hserve W hW (h.below hW)
theorem zgj {H D r boots ct:Nat} {w:World} {A:Nat->jG} (h:HS bz w H D boots A) (hr:r<4) (ha:A r=.gone ct) (hct:ct+1<1000000) (hbt:boots<1000000) :
  Calls Tryz.prog 9 #[.pointer (some ⟨H,0,none⟩),.agg (zL (qN 0 r 0)).toArray] w fun e W=>e=.returned (.agg (zG (qn 0)).toArray)/\zj bz w W/\HS bz W H D boots (zE A r (.live (ct+1) (yA (ct+1) boots:Nat) 0 [] (.idle []) 1)):=by
 obtain ⟨F,cur,ts,hh,hA⟩:=h
 have hAr:ts r=⟨0,ct,none⟩:=by have:=hA r hr;rw [ha] at this;exact this
 refine Calls.mono (HS.do (P:=fun a W=>a=qn 0/\HS bz W H D boots (zE A r (.live (ct+1) (yA (ct+1) boots:Nat) 0 [] (.idle []) 1))) hh hr (by simp [qN]) (by simp [qN]) rfl (fun a W W' h k=>⟨h.1,h.2.bar k⟩) fun W hb0 hW=>?_) ?_
 ·refine zdk H D r F cur ts boots (qN 0 r 0) W _ hW hr (by rw [hAr]) rfl rfl (fun a W W' h k=>⟨h.1,h.2.bar k⟩) (by rw [hAr];exact hct) hbt ?_
  intro l F' cur' W' hs hep hnx hhs hh'
  rw [hAr] at hep hh'
  refine ⟨rfl,HS.set hh' hA ⟨rfl,rfl,l,rfl,hep,hnx,hhs,?_⟩⟩
  show JJ l (.idle []) 1
  unfold JJ
  rw [hs]
  refine ⟨⟨_,_,_,zlg⟩,rfl,rfl,Nat.one_pos,Nat.le_refl _,?_⟩
  have h1:=yM vT
  show (qu qo).length+790<=14336
  exact Nat.le_trans (Nat.add_le_add_right h1 790) (by decide)
 ·rintro e W ⟨a,rfl,hk,rfl,hs⟩
  exact ⟨rfl,hk,hs⟩
theorem zjB {H D r boots ct G:Nat} {ep nx:Int} {hs:List (Int × Int)} {p:Ph} {w:World} {A:Nat->jG} (h:HS bz w H D boots A) (hr:r<4) (ha:A r=.live ct ep nx hs p G) (hl6:hs.length<6) (he:0<=ep/\ep<8796093022208) (hn:0<=nx/\nx<1048575) :
  Calls Tryz.prog 9 #[.pointer (some ⟨H,0,none⟩),.agg (zL (qN 2 r 0)).toArray] w fun e W=>e=.returned (.agg (zG (zlr (ep*1048576+(nx+1)))).toArray)/\zj bz w W/\HS bz W H D boots (zE A r (.live ct ep (nx+1) (aput hs (ep*1048576+(nx+1)) 0) p G)):=by
 obtain ⟨F,cur,ts,hh,hA⟩:=h
 have hAr:=hA r hr
 rw [ha] at hAr
 obtain ⟨hst,hct,l,hl,rfl,rfl,rfl,hp⟩:=hAr
 refine Calls.mono (HS.do (P:=fun a W=>a=zlr (l.ep*1048576+(l.nx+1))/\HS bz W H D boots (zE A r (.live ct l.ep (l.nx+1) (aput l.hs (l.ep*1048576+(l.nx+1)) 0) p G))) hh hr (by simp [qN]) (by simp [qN]) rfl (fun a W W' h k=>⟨h.1,h.2.bar k⟩) fun W hb0 hW=>?_) ?_
 ·refine zfC H D r F cur ts boots l (qN 2 r 0) W _ hW hr hl rfl (fun a W W' h k=>⟨h.1,h.2.bar k⟩) (by omega) he hn (fun h6=>by omega) fun _ W' hh'=>⟨rfl,HS.set hh' hA ⟨hst,hct,_,rfl,rfl,rfl,rfl,?_⟩⟩
  cases p<;>exact hp
 ·rintro e W ⟨a,rfl,hk,rfl,hs⟩
  exact ⟨rfl,hk,hs⟩
end
section
variable {bz:Nat->Prop}
theorem zbi {s:St} (h:s.ts=Qw) (T:Nat):s.begin T=(1,{ s with ts:=one T Zo }):=by
 unfold St.begin
 rw [h]
 rfl
theorem zhV {H D r boots ct G:Nat} {ep nx hd:Int} {hs:List (Int × Int)} {its:List It} {w:World} {A:Nat->jG} (h:HS bz w H D boots A) (hr:r<4) (ha:A r=.live ct ep nx hs (.idle its) G) (hhd:iok hd) (hhas:qb hs hd=true) (hz:(zF hs hd).getD 0=0) :
  Calls Tryz.prog 9 #[.pointer (some ⟨H,0,none⟩),.agg (zL (qN 4 r hd)).toArray] w fun e W=>e=.returned (.agg (zG (qn 0)).toArray)/\zj bz w W/\HS bz W H D boots (zE A r (.live ct ep nx (aput hs hd 1) (.began its) G)):=by
 obtain ⟨F,cur,ts,hh,hA⟩:=h
 have hAr:=hA r hr
 rw [ha] at hAr
 obtain ⟨hst,hct,l,hl,rfl,rfl,rfl,hp⟩:=hAr
 obtain ⟨⟨rs,m,C,hb⟩,hts,hits,hg0,hg,hlog⟩:=hp
 refine Calls.mono (HS.do (P:=fun a W=>a=qn 0/\HS bz W H D boots (zE A r (.live ct l.ep l.nx (aput l.hs hd 1) (.began its) G))) hh hr (by simp [qN]) (by simp [qN]) rfl (fun a W W' h k=>⟨h.1,h.2.bar k⟩) fun W hb0 hW=>?_) ?_
 ·refine uJ H D r F cur ts boots l (qN 4 r hd) W _ hW hr hl (by simp [qN]) (by simp [qN]) hhd (fun a W W' h k=>⟨h.1,h.2.bar k⟩) (fun hn=>by rw [show (qN 4 r hd).hd=hd from rfl,hhas] at hn;cases hn) fun _ W' hW'=>?_
  refine zfD H D r F cur ts boots l (qN 4 r hd) W' _ (hW.below hW') hr hl rfl hhd hhas (by rw [show (qN 4 r hd).hd=hd from rfl,hz];omega) (fun a W W' h k=>⟨h.1,h.2.bar k⟩) (fun hn=>by rw [show (qN 4 r hd).hd=hd from rfl,hz] at hn;omega) (fun T _ hn=>by rw [zbi hts] at hn;cases hn) fun T _ _ b' W2 hh2=>?_
  rw [zbi hts] at hh2
  exact ⟨rfl,HS.set hh2 hA ⟨hst,hct,_,rfl,rfl,rfl,rfl,⟨rs,m,C,T,⟨⟨hb.pool,hb.dur,hb.calm,hb.its⟩,hb.closed,hb.closedm,hb.lk⟩,rfl⟩,hits,hg0,hg,hlog⟩⟩
 ·rintro e W ⟨a,rfl,hk,rfl,hs⟩
  exact ⟨rfl,hk,hs⟩
theorem vj.small {its:List It} {C:Nat->List (Option Rw)} (h:vj its C):its.length<=900/\∀ y,y∈its->y.pg<6/\y.sl<5:=⟨by have:=h.le30;omega,fun y hy=>by have:=(h.mem y).1 hy;exact ⟨this.1,this.2.1⟩⟩
theorem zbD (s:St):s.sto.gen<=s.ready.sto.gen:=by
 unfold St.ready
 split
 ·exact Nat.le_refl _
 ·show s.sto.gen<=s.sto.gen+1;omega
theorem zjV (s:St) (r:Nat) (nbs:Nat->Nat) (nb txn ops:Nat) (rw:Rw):s.sto.gen<=(s.put r nbs nb txn ops rw).2.sto.gen:=by
 have hc:∀ (s':St) (n i:Nat),(s'.ready.chg r nb 3 txn n i (some rw)).sto.gen=s'.ready.sto.gen:=fun s' n i=>(zaE s'.ready.sto r nb 3 txn n i (some rw)).2
 unfold St.put
 split
 ·exact Nat.le_refl _
 ·split
  ·exact Nat.le_refl _
  ·split
   ·rw [hc]
    refine Nat.le_trans ?_ (zbD _)
    exact Nat.le_refl _
   ·split
    ·exact Nat.le_of_eq Zd.symm
    ·rw [hc]
     refine Nat.le_trans ?_ (zbD _)
     exact Nat.le_of_eq Zd.symm
def YA (its its':List It) (rw:Rw):Prop:=(∃ n i,its'=yZ its (qF its rw) ⟨rw,n,i⟩)/\((∀ y,y∈its->¬ jh y.rw rw)->its.length<30/\its'.length=its.length+1)/\zJ its/\zJ its'/\its.length<=30/\its'.length<=30
theorem zkt {H D r boots ct G:Nat} {ep nx hd:Int} {hs:List (Int × Int)} {its:List It} {rw:Rw} {w:World} {A:Nat->jG} (h:HS bz w H D boots A) (hr:r<4) (ha:A r=.live ct ep nx hs (.began its) G) (hhd:iok hd) (hhas:qb hs hd=true) (hz:(zF hs hd).getD 0=1) (hok:rw.ok) (hG:G<=1000000) :
  Calls Tryz.prog 9 #[.pointer (some ⟨H,0,none⟩),.agg (zL (vV 6 r hd rw)).toArray] w fun e W=>zj bz w W /\
   ((e=.returned (.agg (zG (qn 7)).toArray)/\HS bz W H D boots (zE A r (.live ct ep nx hs (.began its) (G+1)))/\its.length=30/\∀ y,y∈its->¬ jh y.rw rw) ∨
    (e=.returned (.agg (zG (qn 0)).toArray)/\∃ its',HS bz W H D boots (zE A r (.live ct ep nx hs (.did its rw its') (G+1)))/\YA its its' rw)):=by
 obtain ⟨F,cur,ts,hh,hA⟩:=h
 have hAr:=hA r hr
 rw [ha] at hAr
 obtain ⟨hst,hct,l,hl,rfl,rfl,rfl,hp⟩:=hAr
 obtain ⟨⟨rs,m,C,T,hb,hts⟩,rfl,hg0,hg,hlog⟩:=hp
 obtain ⟨P,hP⟩:∃ P:An->World->Prop,P=fun a W=>(a=qn 7/\HS bz W H D boots (zE A r (.live ct l.ep l.nx l.hs (.began l.s.its) (G+1)))/\l.s.its.length=30/\∀ y,y∈l.s.its->¬ jh y.rw rw) ∨
    (a=qn 0/\∃ its',HS bz W H D boots (zE A r (.live ct l.ep l.nx l.hs (.did l.s.its rw its') (G+1)))/\YA l.s.its its' rw):=⟨_,rfl⟩
 have hbar:∀ a W W',P a W->qQ W W'->P a W':=fun a W W' h k=>by
  rw [hP] at h ⊢
  rcases h with ⟨h1,h2,h3⟩ | ⟨h1,its',h2,h3⟩
  ·exact .inl ⟨h1,h2.bar k,h3⟩
  ·exact .inr ⟨h1,its',h2.bar k,h3⟩
 refine Calls.mono (HS.do (P:=P) hh hr (by simp [vV]) (by simp [vV]) rfl hbar fun W hb0 hW=>?_) ?_
 ·refine uJ H D r F cur ts boots l (vV 6 r hd rw) W _ hW hr hl (by simp [vV]) (by simp [vV]) hhd hbar (fun hn=>by rw [show (vV 6 r hd rw).hd=hd from rfl,hhas] at hn;cases hn) fun _ W' hW'=>?_
  refine JH H D r F cur ts boots l (vV 6 r hd rw) W' _ (hW.below hW') hr hl (by simp [vV]) (by simp [vV]) hhd hbar (fun hn=>by rw [show (vV 6 r hd rw).hd=hd from rfl,hz] at hn;cases hn) fun _ W2 hW2=>?_
  rw [show (vV 6 r hd rw).hd=hd from rfl,hz]
  have hh2:=(hW.below hW').below hW2
  obtain ⟨hT,_⟩:=hh2.live r l hr hl
  have hpo:=Gg hT.sto.sto
  obtain ⟨hi9,hpos⟩:=hb.its.small
  refine zjd H D r F cur ts boots l (vV 6 r hd rw) rw 1 T Zo W2 P hh2 hr hl rfl rfl rfl rfl hok (by show (0:Nat)<=15;omega) hbar (Nat.le_refl _) (by omega) (by rw [hts];rfl) hb.lk.1 hb.its.so hi9 hpos (by omega) fun nbs nb b' cur' W3 hh3 hne=>?_
  have hsp:=ziL (r:=r) (nb:=nb) (nbs:=nbs) hb hts hpo hok hT.sto.sto.len
  rw [show Zo.ops=0 from rfl] at hh3 ⊢
  rw [hP]
  rcases hsp with ⟨h1,⟨m',h2⟩,h3,h4,h5,h6,h7⟩ | ⟨h1,h2⟩
  ·refine .inl ⟨by rw [h1];rfl,HS.set hh3 hA ⟨hst,hct,_,rfl,rfl,rfl,rfl,⟨rs,m',C,T,h2,h3⟩,h4,by rw [h5];exact hg0,by rw [h5];omega,?_⟩,h7,h6⟩
   have:(l.s.put r nbs nb 1 0 rw).2.sto.log=l.s.sto.log:=by rw [h2.dur.log,hb.dur.log]
   show (l.s.put r nbs nb 1 0 rw).2.sto.log.length+790<=14336
   rw [this];exact hlog
  ·obtain ⟨⟨rs',m',n,i,b,x,C',haf⟩,hgen,hl2,hnew⟩:=h2
   have hgl:l.s.sto.gen<=(l.s.put r nbs nb 1 0 rw).2.sto.gen:=zjV l.s r nbs nb 1 0 rw
   refine .inr ⟨by rw [h1];rfl,_,HS.set hh3 hA ⟨hst,hct,_,rfl,rfl,rfl,rfl,⟨T,rs',m',n,i,b,x,C',haf⟩,rfl,Nat.lt_of_lt_of_le hg0 hgl,Nat.le_trans hgen (Nat.succ_le_succ hg),hl2⟩,⟨n,i,haf.eq⟩,hnew,haf.was.so,haf.its.so,haf.was.le30,haf.its.le30⟩
 ·rintro e W ⟨a,rfl,hk,hs⟩
  rw [hP] at hs
  refine ⟨hk,?_⟩
  rcases hs with ⟨rfl,hs⟩ | ⟨rfl,hs⟩
  ·exact .inl ⟨rfl,hs⟩
  ·exact .inr ⟨rfl,hs⟩
end
section
variable {bz:Nat->Prop}
theorem zfB (H D r:Nat) (F:Nat->Prop) (cur:Nat->Nat->List UInt8) (ts:Nat->Tn) (boots:Nat) (q:Rq) (w:World) (P:An->World->Prop) (h:zP bz w H D F cur ts boots) (hr:r<4) (hl:(ts r).live=none)
  (hk0:q.kd≠0) (hk14:q.kd≠14) (hP:∀ a W W',P a W->qQ W W'->P a W') (hend:∀ W,Below w.heap.size w W->P (qn 3) W) :
  Calls Tryz.prog 23 #[.pointer (some ⟨H,0,none⟩),.pointer (some ⟨H,1+r*5,none⟩),.agg (zL q).toArray] w fun e W'=>∃ a,e=.returned (.agg (zG a).toArray)/\a.er≠10/\zj bz w W'/\P a W':=by
 have d0:(q.kd == 0)=false:=by simpa using hk0
 have d1:(q.kd == 14)=false:=by simpa using hk14
 obtain ⟨w1,hw1⟩:∃ w1,w1=uO w q:=⟨_,rfl⟩
 have hB1:Below w.heap.size w w1:=by rw [hw1];exact jE w q
 have hX5:w1.heap[w.heap.size]?=some (.cells (zL q).toArray 37 (0,0)):=by rw [hw1];exact vP w q
 have hX6:w1.heap[w.heap.size+1]?=some (.cells #[.int .i64 0,.int .i64 0,.string { data:=#[] },.slice none 0 0,.slice none 0 0] 31 (0,0)):=by rw [hw1];exact vO w q
 have k0:=(cell_of_row w1 w.heap.size 0 _ _ _ hX5).trans (show _=some (Value.int .i64 q.kd) from rfl)
 have hh1:=h.below hB1
 have hc:=Jw D (fun r=>(ts r).t5) boots r hr
 obtain ⟨hst0,hz⟩:=hh1.gone r hr hl
 have ht5:(ts r).t5=⟨.pointer none,.pointer none,.int .i64 0,.int .u64 (ts r).ct,.bool false⟩:=by unfold Tn.t5;rw [hl];simp only [hst0];rfl
 have c2:=(cell_of_row w1 H (1+r*5+2) _ _ _ hh1.blk).trans hc.2.2.1
 simp only [ht5] at c2
 have hw1u:(w.alloc (.cells (zL q).toArray 37)).alloc (.cells #[.int .i64 0,.int .i64 0,.string { data:=#[] },.slice none 0 0,.slice none 0 0] 31)=w1:=hw1.symm
 obtain ⟨HB1,HX5,HX6,HP,HW1⟩:=zi5 hB1 hX5 hX6 hP hw1u
 have HE:=hid (hend w1 hB1)
 clear hw1 hw1u hB1 hX5 hX6 hP hh1 h hend hz hst0 ht5 hc hk0 hk14
 go_enter Tryz.func23,Tryz.ntmps23
 go_upto_region 1 with fail
 rw [HW1.out]
 go_wp2_with (show wpList _ _ _ (⟨none,.store 31 (.tmp 6) _,_,_,_,_⟩::_) _ _;refine zB rfl 31 (.tmp 6) (.tmp 45) rfl (w.heap.size+1) 0 31 _ (zG (qn 3)).toArray (by rfl) (by rfl) HX6.out (by simp [zG]) (by kernel_rfl) (by simp [zG,Value.oneCell']) ?_)
 refine ju (an:=qn 3) 6 rfl rfl rfl HX6.out rfl ⟨qn 3,rfl,by decide,(zj.below HB1.out).setRow (by omega) _,?_⟩
 exact HP.out _ _ _ HE.out (qQ.setRow HX6.out _)
theorem JU {W W':World} {B n:Nat} {v:Value} {l:List Value} (h:W.ownsRow B 5 1 v n l) (hb:qQ W W'):W'.ownsRow B 5 1 v n l:=by
 refine zi h fun x hx=>?_
 rcases h.2 with ⟨h1,h2⟩ | ⟨g,cap,cur,hv,hB,hg,hrest⟩
 ·rw [h1] at hx;simp [Value.ownBlock] at hx
 ·rw [hv] at hx
  simp [Value.ownBlock] at hx
  subst hx
  exact hb.block _ (zd hg) (by rw [zc hg];decide)
theorem zcV {W:World} {B B' e s n:Nat} {v:Value} {l:List Value} (h:W.ownsRow B e s v n l) (hB:B'<=B):W.ownsRow B' e s v n l:=by
 refine ⟨h.1,?_⟩
 rcases h.2 with h1 | ⟨g,cap,cur,hv,hg,hrest⟩
 ·exact .inl h1
 ·exact .inr ⟨g,cap,cur,hv,Nat.le_trans hB hg,hrest⟩
def zls (A:Option Addr) (n c:Nat):An:=⟨0,0,bE,none,0,0,A,n,c⟩
theorem zgk {H D r boots ct G:Nat} {ep nx:Int} {hs:List (Int × Int)} {its:List It} {w:World} {A:Nat->jG} (h:HS bz w H D boots A) (hr:r<4) (ha:A r=.live ct ep nx hs (.idle its) G) (hrw:∀ y,y∈its->y.rw.t<=255/\y.rw.k.length<=15/\y.rw.v.length<=21) :
  Calls Tryz.prog 9 #[.pointer (some ⟨H,0,none⟩),.agg (zL (qN 13 r 0)).toArray] w fun e W=>∃ dA c,e=.returned (.agg (zG (zls dA (jQ (its.map (·.rw))).length c)).toArray)/\W.ownsRow w.heap.size 5 1 (.slice dA (jQ (its.map (·.rw))).length c) (jQ (its.map (·.rw))).length (zo (jQ (its.map (·.rw))))/\zj bz w W/\HS bz W H D boots A:=by
 obtain ⟨F,cur,ts,hh,hA⟩:=h
 have hAr:=hA r hr
 rw [ha] at hAr
 obtain ⟨hst,hct,l,hl,rfl,rfl,rfl,hp⟩:=hAr
 obtain ⟨⟨rs,m,C,hb⟩,hts,rfl,hg0,hg,hlog⟩:=hp
 have hop:(zH l.s.ts).length=0:=by rw [hts];rfl
 refine Calls.mono (HS.do (P:=fun a W=>∃ dA c,a=zls dA (jQ (l.s.its.map (·.rw))).length c/\W.ownsRow w.heap.size 5 1 (.slice dA (jQ (l.s.its.map (·.rw))).length c) (jQ (l.s.its.map (·.rw))).length (zo (jQ (l.s.its.map (·.rw))))/\HS bz W H D boots A) hh hr (by simp [qN]) (by simp [qN]) rfl (fun a W W' h k=>?_) fun W hb0 hW=>?_) ?_
 ·obtain ⟨dA,c,h1,h2,h3⟩:=h
  exact ⟨dA,c,h1,JU h2 k,h3.bar k⟩
 ·refine zdl H D r F cur ts boots l (qN 13 r 0) W _ hW hr hl rfl (fun a W W' h k=>?_) (by have:=hb.its.le30;omega) hrw (fun hn=>absurd hop hn) fun _ dA c W' hb' ho=>⟨dA,c,rfl,zcV ho hb0.size,F,cur,ts,hW.below hb',hA⟩
  obtain ⟨dA,c,h1,h2,h3⟩:=h
  exact ⟨dA,c,h1,JU h2 k,h3.bar k⟩
 ·rintro e W ⟨a,rfl,hk,dA,c,rfl,h2,h3⟩
  exact ⟨dA,c,rfl,h2,hk,h3⟩
end
section
variable {bz:Nat->Prop}
theorem zeP (s:St) (txn:Nat) (x:Tx) (ht:txn<=255):(s.commit txn x).sto.log.length<=s.sto.log.length+395:=by
 unfold St.commit
 simp only
 split
 ·omega
 ·show (s.sto.log++qu (qC txn)).length<=_
  rw [List.length_append]
  have:=yM (QI ht)
  omega
theorem zjz {H D r boots ct G:Nat} {ep nx hd:Int} {hs:List (Int × Int)} {p:Ph} {its:List It} {w:World} {A:Nat->jG} (h:HS bz w H D boots A) (hr:r<4) (ha:A r=.live ct ep nx hs p G) (hp':p=.began its∨∃ was rw,p=.did was rw its) (hhd:iok hd) (hhas:qb hs hd=true) (hz:(zF hs hd).getD 0=1) :
  Calls Tryz.prog 9 #[.pointer (some ⟨H,0,none⟩),.agg (zL (qN 11 r hd)).toArray] w fun e W=>e=.returned (.agg (zG (qn 0)).toArray)/\zj bz w W/\HS bz W H D boots (zE A r (.live ct ep nx (aput hs hd 0) (.idle its) G)):=by
 obtain ⟨F,cur,ts,hh,hA⟩:=h
 have hAr:=hA r hr
 rw [ha] at hAr
 obtain ⟨hst,hct,l,hl,rfl,rfl,rfl,hp⟩:=hAr
 have hfit:l.s.sto.log.length+790<=14336:=by
  rcases hp' with rfl | ⟨was,rw,rfl⟩
  ·exact hp.2.2.2.2
  ·have:=hp.2.2.2.2;omega
 have htx:∃ T x,l.s.ts=one T x/\JJ { l with s:=l.s.commit 1 x } (.idle its) G:=by
  rcases hp' with rfl | ⟨was,rw,rfl⟩
  ·obtain ⟨⟨rs,m,C,T,hb,hts⟩,hits,hg0,hg,hlog⟩:=hp
   obtain ⟨h1,h2,h3,h4⟩:=hb.commit0 hts rfl
   exact ⟨T,Zo,hts,⟨rs,m,C,h1⟩,h2,h3.trans hits,by simp only;rw [h4];exact hg0,by simp only;rw [h4];exact hg,by simp only;rw [h4];exact hlog⟩
  ·obtain ⟨⟨T,rs,m,n,i,b,x,C,haf⟩,hits,hg0,hg,hlog⟩:=hp
   obtain ⟨h1,h2,h3,h4⟩:=haf.commit
   refine ⟨T,_,haf.ts,⟨_,_,_,h1⟩,h2,h3.trans hits,by simp only;rw [h4];exact hg0,by simp only;rw [h4];exact hg,?_⟩
   have:=zeP l.s 1 ⟨[⟨n,i,b⟩],[],1⟩ (by decide)
   simp only
   omega
 obtain ⟨T,x,hts,hph⟩:=htx
 refine Calls.mono (HS.do (P:=fun a W=>a=qn 0/\HS bz W H D boots (zE A r (.live ct l.ep l.nx (aput l.hs hd 0) (.idle its) G))) hh hr (by simp [qN]) (by simp [qN]) rfl (fun a W W' h k=>⟨h.1,h.2.bar k⟩) fun W hb0 hW=>?_) ?_
 ·refine uJ H D r F cur ts boots l (qN 11 r hd) W _ hW hr hl (by simp [qN]) (by simp [qN]) hhd (fun a W W' h k=>⟨h.1,h.2.bar k⟩) (fun hn=>by rw [show (qN 11 r hd).hd=hd from rfl,hhas] at hn;cases hn) fun _ W' hW'=>?_
  refine JH H D r F cur ts boots l (qN 11 r hd) W' _ (hW.below hW') hr hl (by simp [qN]) (by simp [qN]) hhd (fun a W W' h k=>⟨h.1,h.2.bar k⟩) (fun hn=>by rw [show (qN 11 r hd).hd=hd from rfl,hz] at hn;cases hn) fun _ W2 hW2=>?_
  rw [show (qN 11 r hd).hd=hd from rfl,hz]
  refine zhD H D r F cur ts boots l (qN 11 r hd) zkV 1 T x W2 _ ((hW.below hW').below hW2) hr hl rfl rfl rfl rfl zhd (by show (0:Nat)<=15;omega) (fun a W W' h k=>⟨h.1,h.2.bar k⟩) (Nat.le_refl _) (by omega) (by rw [hts];rfl) (by omega) hhd hhas fun b' cur' W3 hh3=>⟨rfl,HS.set hh3 hA ⟨hst,hct,_,rfl,rfl,rfl,rfl,hph⟩⟩
 ·rintro e W ⟨a,rfl,hk,rfl,hs⟩
  exact ⟨rfl,hk,hs⟩
def jG.crash (boots:Nat):jG->jG
 | .gone ct=>.gone ct
 | .live ct _ _ _ (.idle its) G=>.live ct ((yA ct boots:Nat):Int) 0 [] (.idle its) (G+1)
 | a=>a
def jG.calm:jG->Prop
 | .gone _=>True
 | .live _ _ _ _ (.idle _) G=>G<=1000000
 | _=>False
def zlu (mask:Int):Rq:=⟨19,0,0,0,bE,bE,bE,0,mask,none,0,0⟩
theorem zeS {H D boots:Nat} {mask:Int} {w:World} {A:Nat->jG} (h:HS bz w H D boots A) (hbt:boots+1<1000000) (hA4:∀ r,r<4->(A r).calm) :
  Calls Tryz.prog 9 #[.pointer (some ⟨H,0,none⟩),.agg (zL (zlu mask)).toArray] w fun e W=>e=.returned (.agg (zG (qn 0)).toArray)/\zj bz w W/\HS bz W H D (boots+1) (fun r=>(A r).crash (boots+1)):=by
 obtain ⟨F,cur,ts,hh,hA⟩:=h
 have hex:∀ r,∃ o:zbb,r<4->(ts r).st=1->Jq (cur r) r o/\∀ t',Qf r o (boots+1) (ts r) t'->((A r).crash (boots+1)).is t':=by
  intro r
  by_cases hr:r<4
  ·have hAr:=hA r hr
   have hcr:=hA4 r hr
   cases ha:A r with
   | gone ct =>
    rw [ha] at hAr
    have h1:ts r=⟨0,ct,none⟩:=hAr
    refine ⟨⟨1,0,[],fun _=>uL⟩,fun _ hs=>?_⟩
    rw [h1] at hs
    cases hs
   | live ct ep nx hs p G =>
    rw [ha] at hAr hcr
    cases p with
    | began its=>exact hcr.elim
    | did was rw its=>exact hcr.elim
    | idle its =>
     obtain ⟨hst,hct,l,hl,_,_,_,⟨rs,m,C,hb⟩,hts,hits,hg0,hg,hlog⟩:=hAr
     have hG:G<=1000000:=hcr
     obtain ⟨hT,_⟩:=hh.live r l hr hl
     have hsto:=hT.sto.sto
     have hop:=hb.opn hsto hg0 (by omega)
     rw [hT.hr] at hop
     refine ⟨_,fun _ _=>⟨hop,fun t' ho=>?_⟩⟩
     obtain ⟨l',nb1,nb2,Ts,nb3,h1,h2,h3,h4,h5,h6,h7⟩:=ho.live hst
     obtain ⟨r1,r2,r3,r4⟩:=hb.reopen (r:=r) (nb1:=nb1) (nb2:=nb2) (Ts:=Ts) (nb3:=nb3) hsto
     refine ⟨ho.st.trans hst,ho.ct.trans hct,l',h1,by rw [h3,hct],h4,h5,?_⟩
     show JJ l' (.idle its) (G+1)
     unfold JJ
     simp only at h2
     rw [h2]
     refine ⟨⟨_,_,_,r1⟩,r2,r3.trans hits,by rw [r4];omega,by rw [r4];omega,?_⟩
     rw [r1.dur.log,Qr]
     have:=yM vT
     exact Nat.le_trans (Nat.add_le_add_right this 790) (by decide)
  ·exact ⟨⟨1,0,[],fun _=>uL⟩,fun h=>absurd h hr⟩
 obtain ⟨o,ho⟩:=Classical.skolem.1 hex
 refine (zhW H D F cur ts boots o (zlu mask) w hh rfl (Int.le_refl _) hbt fun r hr hs=>(ho r hr hs).1).mono ?_
 rintro e W ⟨rfl,hk,F',cur',ts',hh',hop⟩
 refine ⟨rfl,hk,F',cur',ts',hh',fun r hr=>?_⟩
 have h1:=hop r hr
 by_cases hs:(ts r).st=1
 ·exact (ho r hr hs).2 _ h1
 ·have hAr:=hA r hr
  cases ha:A r with
  | live ct ep nx hs' p G=>rw [ha] at hAr;exact absurd hAr.1 hs
  | gone ct =>
   rw [ha] at hAr
   have h2:ts r=⟨0,ct,none⟩:=hAr
   show ((A r).crash (boots+1)).is (ts' r)
   rw [ha]
   show ts' r=⟨0,ct,none⟩
   have e1:=h1.st
   have e2:=h1.ct
   have e3:=h1.gone (by rw [h2])
   rw [h2] at e1 e2
   cases e4:ts' r with
   | mk a b c =>
    rw [e4] at e1 e2 e3
    simp only at e1 e2 e3
    rw [e1,e2,e3]
end
section
variable {bz:Nat->Prop}
theorem zfp (v:Value) (l:List UInt8) (w:World) (hl:ze w v l) (hs:l.length<=1000000) :
  Calls Tryz.prog 40 #[v] w fun r w'=>r=.returned (.int .u32 (QK l))/\w'=w:=by
 obtain ⟨A,cv,rfl,hr,_,_⟩:=hl
 have HR:=hid hr
 clear hr
 go_enter Tryz.func40,Tryz.ntmps40
 go_upto_region 3 with fail
 go_loopw [3,4] (fun u v wr=>∃ k:Nat,k<=l.length/\v=.int .i64 k/\u=.int .u32 (QX 4294967295 (l.take k))/\wr=w) (fun _ v _=>((l.length:Int)-jl v).toNat)
 case atStart=>exact ⟨0,by omega,rfl,rfl,rfl⟩
 case round =>
  obtain ⟨k,hk,rfl,rfl,rfl⟩:=hrel
  by_cases hlt:k<l.length
  ·obtain ⟨ad,u,rfl,_,hx,hcell⟩:=HR.out.at_ hlt
   have hu:u=.int .u8 (l[k].toNat):=by
    have:(zo l)[k]?=some (.int .u8 (l[k].toNat)):=by simp [zo,hlt]
    rw [this] at hx
    injection hx with hx
    exact hx.symm
   subst hu
   have hs1:=zbk 4294967295 l k hlt
   have hlt2:=Yb (l.take k) 4294967295 (by omega)
   generalize QX 4294967295 (l.take k)=d at hs1 hlt2 ⊢
   generalize l[k]=b at hs1 hcell
   have hbt:=b.toNat_lt
   have hw:IntKind.u32.wrap (b.toNat:Int)=(b.toNat:Int):=by unfold IntKind.wrap;simp [IntKind.bits,IntKind.signed];omega
   have hx':=Gj d b.toNat hlt2 (by omega)
   obtain ⟨c0,hc0⟩:∃ c0,c0=d ^^^ b.toNat:=⟨_,rfl⟩
   rw [<- hc0] at hx'
   have h0:c0<4294967296:=by rw [hc0];exact Nat.xor_lt_two_pow (n:=32) hlt2 (by omega)
   obtain ⟨HC0,HS⟩:=zi2 hc0 hs1
   have hka:(0:Int)<=(k:Int):=by omega
   have hkb:(k:Int)<(l.length:Int):=by omega
   clear hs1 hx hc0
   go_upto_region 7 with fail
   clear hw hx' hka hkb hcell
   go_loopw [3,5] (fun v u wr'=>∃ j:Nat,j<=8/\u=.int .i64 j/\v=.int .u32 (vL j c0)/\wr'=wr) (fun _ u _=>((8:Int)-jl u).toNat)
   case atStart=>exact ⟨0,by omega,rfl,rfl,rfl⟩
   case round =>
    obtain ⟨j,hj,rfl,rfl,rfl⟩:=hrel
    by_cases hlt8:j<8
    ·have hl:=QJ c0 h0 j
     have hs:vL (j+1) c0=Zu (vL j c0):=rfl
     have HS2:=hid hs
     generalize vL j c0=e at hl HS2 ⊢
     clear hs
     have hx2:=Gj (e / 2) 3988292384 (by omega) (by omega)
     have q1:(j:Int)<8:=by omega
     by_cases h2:e % 2=1
     ·go_wp2
      refine ⟨⟨j+1,by omega,by go_num,?_,by trivial⟩,?_⟩
      ·rw [HS2.out]
       unfold Zu
       rw [if_pos h2,<- hx2]
       rfl
      ·simp [jl];omega
     ·have h20:e % 2=0:=by omega
      go_wp2
      refine ⟨⟨j+1,by omega,by go_num,?_,by trivial⟩,?_⟩
      ·rw [HS2.out]
       unfold Zu
       rw [if_neg h2]
       rfl
      ·simp [jl];omega
    ·obtain rfl:j=8:=by omega
     go_wp2_with fail
     refine ⟨⟨k+1,by omega,by go_num,by rw [HS.out,HC0.out];rfl,by trivial⟩,by simp [jl];omega⟩
  ·obtain rfl:k=l.length:=by omega
   rw [List.take_length]
   have hlt2:=Yb l 4294967295 (by omega)
   obtain ⟨d,hd⟩:∃ d,d=QX 4294967295 l:=⟨_,rfl⟩
   rw [<- hd] at hlt2 ⊢
   have HD:=hid hd
   clear hd
   go_wp2_with fail
   go_ret
   have hx:=Gj 4294967295 d (by omega) hlt2
   refine ⟨?_,rfl⟩
   show Ending.returned (.int .u32 (bits .xor .u32 ((4294967295:Nat):Int) (d:Int)))=_
   rw [hx]
   unfold QK
   rw [<- HD.out]
end
section
variable {bz:Nat->Prop}
theorem zfv (W:World):(Instr.buildSlice 29 2 #[(0,.int .u8 1),(1,.int .u8 1)]).run Tryz.prog W=.ok (.slice (some ⟨W.heap.size,0,none⟩) 2 2) (W.alloc (.cells #[.int .u8 1,.int .u8 1] 5)):=by
 obtain ⟨i0,hi,hz0,hz1,hz2⟩:=info_parts uE
 exact run_buildSlice W 29 5 2 #[(0,.int .u8 1),(1,.int .u8 1)] #[.int .u8 1,.int .u8 1] i0 _ Tryz.underlying29 hi hz0 (by omega) (by omega) (by rw [hz1];kernel_rfl)
theorem zfw (W:World):(Instr.buildSlice 29 4 #[(0,.int .u8 239),(1,.int .u8 86),(2,.int .u8 195),(3,.int .u8 19)]).run Tryz.prog W=.ok (.slice (some ⟨W.heap.size,0,none⟩) 4 4) (W.alloc (.cells #[.int .u8 239,.int .u8 86,.int .u8 195,.int .u8 19] 5)):=by
 obtain ⟨i0,hi,hz0,hz1,hz2⟩:=info_parts uE
 exact run_buildSlice W 29 5 4 #[(0,.int .u8 239),(1,.int .u8 86),(2,.int .u8 195),(3,.int .u8 19)] #[.int .u8 239,.int .u8 86,.int .u8 195,.int .u8 19] i0 _ Tryz.underlying29 hi hz0 (by omega) (by omega) (by rw [hz1];kernel_rfl)
theorem zeB {P:Program} {o:Oper} {a:Act} {w w1:World} {v:Value} (t n:Nat) (ps:Array (Nat × Operand)) (ho:o.op=.buildSlice t n ps) (vs:Array (Nat × Value)) (hv:ps.map (fun p=>(p.1,a.eval p.2))=vs) (hrun:(Instr.buildSlice t n vs).run P w=.ok v w1):(execOp a.eval o).run P w=.ok (.value v) w1:=by
 subst hv
 unfold execOp
 simp only [ho,Sem.run_bind,hrun,Result.andThen_ok,Sem.run_pure]
theorem ZT {w w':World} {B e k n:Nat} {v:Value} {xs:List Value} (h:w.ownsRow B e k v n xs) (hb:Below w.heap.size w w'):w'.ownsRow B e k v n xs:=zi h fun x hx=>by
 rcases h.2 with ⟨h1,h2⟩ | ⟨g,cap,cur,hv,hB,hg,hrest⟩
 ·rw [h1] at hx;simp [Value.ownBlock] at hx
 ·rw [hv] at hx
  simp [Value.ownBlock] at hx
  subst hx
  exact hb.block _ (zd hg)
theorem zgM {w:World} {B e k n:Nat} {v:Value} {xs:List Value} (h:w.ownsRow B e k v n xs) {g:Nat} (hv:v.ownBlock=some g):B<=g:=by
 rcases h.2 with ⟨h1,h2⟩ | ⟨g',cap,cur,h1,hB,hg,hrest⟩
 ·rw [h1] at hv;simp [Value.ownBlock] at hv
 ·rw [h1] at hv
  simp [Value.ownBlock] at hv
  omega
def zbM:Rw:=⟨1,[107],[118]⟩
def QC:Array Value:=#[.int .i64 1,.string (za [107]),.string (za [118])]
theorem zde (g:Nat) (w:World) (h:w.heap[g]?=some (.cells QC 34 (0,0))) :
  Calls Tryz.prog 24 #[.slice (some ⟨g,0,none⟩) 1 1] w fun e w'=>∃ v,e=.returned v/\w'.ownsRow w.heap.size 5 1 v 15 (zo (jQ [zbM]))/\Below w.heap.size w w':=by
 have k0:=(cell_of_row w g 0 _ _ _ h).trans (show _=some (Value.int .i64 1) from rfl)
 have k1:=(cell_of_row w g 1 _ _ _ h).trans (show _=some (Value.string (za [107])) from rfl)
 have k2:=(cell_of_row w g 2 _ _ _ h).trans (show _=some (Value.string (za [118])) from rfl)
 go_enter Tryz.func24,Tryz.ntmps24
 go_upto_region 2 with fail
 obtain ⟨w1,hw1⟩:∃ w1,w1=w.alloc (.cells #[.int .u8 84,.int .u8 78,.int .u8 77,.int .u8 49,.int .u8 0,.int .u8 1] 5):=⟨_,rfl⟩
 rw [<- hw1]
 have hb1:Below w.heap.size w w1:=by rw [hw1];exact B_alloc (Below.refl _ _) _
 have ho1:w1.ownsRow w.heap.size 5 1 (.slice (some ⟨w.heap.size,0,none⟩) 6 6) 6 (zo [84,78,77,49,0,1]):=by
  rw [hw1];exact zaO (xs:=zo [84,78,77,49,0,1]) (by simp [zo]) (by unfold maxLen;omega)
 have hg1:=zb h hb1 (zd h)
 obtain ⟨HB1,HO1,HG1⟩:=zi3 hb1 ho1 hg1
 clear hw1 hb1 ho1 hg1 k0 k1 k2
 go_upto_region 3 with fail
 refine wp_loop_rounds 2 ?_
 rw [rounds_succ]
 go_upto_region 5 with fail
 have hS:w1.drew.heap[g]?=some (.cells QC 34 (0,0)):=HG1.out
 refine wp_region_noPanic ?_
 refine PrintLast.start_ (n:=17) (S:=(fun w'=>w'.heap[g]?=some (.cells QC 34 (0,0)))) (ds:=[14,15]) (bA 17 0) (by kernel_rfl) rfl (by kernel_rfl) hS (fun hHeld=>?_)
 refine pu 0 21 17 1 rfl rfl ?_
 refine pu 1 22 17 3 rfl rfl ?_
 refine pu 2 23 17 7 rfl rfl ?_
 refine pu 3 24 17 15 rfl rfl ?_
 refine pu 4 25 17 31 rfl rfl ?_
 refine tk 5 26 17 63 rfl rfl (Or.inl ⟨by rfl,fun _ h=>(by have k0:=(cell_of_row _ g 0 _ _ _ h).trans (show _=some (Value.int .i64 1) from rfl);go_simp;with_reducible rfl)⟩) ?_
 refine tk 6 27 17 127 rfl rfl (vg 3 5 (.tmp 26) rfl (by rfl) (.int .i64 1) (.int .u8 1) (by rfl) (fun _ _=>by kernel_rfl)) ?_
 refine pu 7 28 17 255 rfl rfl ?_
 refine pu 8 29 17 511 rfl rfl ?_
 refine pu 9 30 17 1023 rfl rfl ?_
 refine pu 10 31 17 2047 rfl rfl ?_
 refine tk 11 32 17 4095 rfl rfl (Or.inl ⟨by rfl,fun _ h=>(by have k0:=(cell_of_row _ g 1 _ _ _ h).trans (show _=some (Value.string (za [107])) from rfl);go_simp;with_reducible rfl)⟩) ?_
 refine pu 12 33 17 8191 rfl rfl ?_
 refine tk 13 34 17 16383 rfl rfl (vg 3 5 (.tmp 33) rfl (by rfl) (.int .i64 1) (.int .u8 1) (by rfl) (fun _ _=>by kernel_rfl)) ?_
 refine la 14 17 32767 (some 35) rfl rfl (fun K hK=>?_)
 show Oper.wp _ ⟨some 35,_,_,_,_,_⟩ _ _ _ _
 refine vu (v:=.slice (some ⟨w1.heap.size,0,none⟩) 2 2) (w1:=w1.drew.alloc (.cells #[.int .u8 1,.int .u8 1] 5)) (zeB 29 2 #[(0,.tmp 27),(1,.tmp 34)] rfl #[(0,.int .u8 1),(1,.int .u8 1)] (by kernel_rfl) (zfv w1.drew)) ?_
 obtain ⟨w2,hw2⟩:∃ w2,w2=w1.drew.alloc (.cells #[.int .u8 1,.int .u8 1] 5):=⟨_,rfl⟩
 rw [<- hw2]
 have hb2:Below w1.heap.size w1.drew w2:=by rw [hw2];exact B_alloc (Below.refl w1.drew.heap.size w1.drew) _
 have hX2:w2.heap[w1.heap.size]?=some (.cells #[.int .u8 1,.int .u8 1] 5 (0,0)):=by rw [hw2];exact zk _ _ rfl
 have ho2:w2.ownsRow w.heap.size 5 1 (.slice (some ⟨w.heap.size,0,none⟩) 6 6) 6 (zo [84,78,77,49,0,1]):=ZT HO1.out.drew hb2
 refine hK.out _ _ ?_
 clear hK K
 try simp only [pS]
 refine la 15 17 65535 (some 36) rfl rfl (fun K hK=>?_)
 show Oper.wp _ ⟨some 36,_,_,_,_,_⟩ _ _ _ _
 refine uZ (.tmp 21) (.tmp 35) 29 5 1 1 rfl Tryz.underlying29 uD (by omega) _ 6 _ w.heap.size (by rfl) ho2 _ 2 2 _ _ (by rfl) (zx.of_block hX2 rfl) (by intro u hu;simp at hu;subst hu;rfl) (by omega) (by omega) (by have:=HB1.out.size;have:w1.heap.size<=w2.heap.size:=hb2.size;omega) ?_
 intro v3 w3 ho3 hg3 hob3
 refine hK.out _ _ ?_
 clear hK K
 try simp only [pS]
 refine pu 16 3 17 131071 rfl rfl ?_
 refine PrintLast.done_ (by kernel_rfl) ?_
 refine NoPanic.normal ?_
 have hlt:g<w.heap.size:=zd h
 have hz1:w.heap.size<=w1.heap.size:=HB1.out.size
 have hz2:w1.heap.size<=w2.heap.size:=hb2.size
 have hz3:w2.heap.size<=w3.heap.size:=hg3.size
 have hG3:w3.heap[g]?=some (.cells QC 34 (0,0)):=zX (zb (show w1.drew.heap[_]?=_ from HG1.out) hb2 (zd HG1.out)) hg3 (by simp [Value.ownBlock];omega)
 have ho3':w3.ownsRow w.heap.size 5 1 v3 8 (zo [84,78,77,49,0,1,1,1]):=ho3
 have hB2:Below w.heap.size w w2:=B_call HB1.out (yO hb2)
 have hB3:Below w.heap.size w w3:=jL hB2 ho2 hg3
 have k31:=(cell_of_row w3 g 1 _ _ _ hG3).trans (show _=some (Value.string (za [107])) from rfl)
 have HB3:=hid hB3
 have HO3:=hid ho3'
 have HG3:=hid hG3
 have hz3:w.heap.size<=w3.heap.size:=by omega
 clear hw2 hb2 hX2 ho2 ho3 hg3 hob3 hG3 ho3' hB2 hB3 hS hHeld HO1 HG1 HB1 hz1 hz2
 go_upto_region 7 with (show wpList _ _ _ (⟨some 43,_,_,_,_,_⟩::_) _ _;refine wpList_plain rfl fun K hK=>YS (.tmp 37) (.tmp 42) rfl v3 8 [84,78,77,49,0,1,1,1] w.heap.size (by rfl) HO3.out (za [107]) (by rfl) (by show 8+1<=1000000;omega) hz3 fun v4 w4 ho4 hg4=>hK _ _ ?_)
 have hG4:w4.heap[g]?=some (.cells QC 34 (0,0)):=zX HG3.out hg4 (fun e=>by
  have:=zgM HO3.out e
  omega)
 have hB4:Below w.heap.size w w4:=jL HB3.out HO3.out hg4
 have ho4':w4.ownsRow w.heap.size 5 1 v4 9 (zo [84,78,77,49,0,1,1,1,107]):=ho4
 have k42:=(cell_of_row w4 g 2 _ _ _ hG4).trans (show _=some (Value.string (za [118])) from rfl)
 have hsz:(za [118]).size=1:=rfl
 have hz4:w.heap.size<=w4.heap.size:=Nat.le_trans hz3 hg4.size
 have HB4:=hid hB4
 have HO4:=hid ho4'
 have HG4:=hid hG4
 clear hG4 hB4 ho4 ho4' hg4 k31 hz3 HO3 HG3 HB3
 go_upto_region 8 with (show wpList _ _ _ (⟨some 53,_,_,_,_,_⟩::_) _ _;refine wpList_plain rfl fun K hK=>uZ (.tmp 44) (.tmp 52) 29 5 1 1 rfl Tryz.underlying29 uD (by omega) v4 9 (zo [84,78,77,49,0,1,1,1,107]) w.heap.size (by rfl) (ZT HO4.out (B_alloc (Below.refl _ _) _)) (some ⟨w4.heap.size,0,none⟩) 1 1 [.int .u8 1] _ (by rfl) (zx.of_block (zk _ _ rfl) rfl) (by intro u hu;simp at hu;subst hu;rfl) (by omega) (by omega) (by simp;omega) fun v5 w5 ho5 hg5 hob5=>hK _ _ ?_)
 have hB45:Below w4.heap.size w4 (w4.alloc (.cells #[.int .u8 1] 5)):=B_alloc (Below.refl _ _) _
 have ho45:=ZT HO4.out hB45
 have hG5:w5.heap[g]?=some (.cells QC 34 (0,0)):=zX (zb HG4.out hB45 (zd HG4.out)) hg5 (fun e=>by
  have:=zgM HO4.out e
  omega)
 have hB5:Below w.heap.size w w5:=jL (B_call HB4.out hB45) ho45 hg5
 have ho5':w5.ownsRow w.heap.size 5 1 v5 10 (zo [84,78,77,49,0,1,1,1,107,1]):=ho5
 have k52:=(cell_of_row w5 g 2 _ _ _ hG5).trans (show _=some (Value.string (za [118])) from rfl)
 have hz5:w.heap.size<=w5.heap.size:=hB5.size
 have HB5:=hid hB5
 have HO5:=hid ho5'
 have HG5:=hid hG5
 clear hB45 ho45 hG5 hB5 ho5 ho5' hg5 hob5 k42 hz4 HO4 HG4 HB4
 go_upto_region 4 with (show wpList _ _ _ (⟨some 60,_,_,_,_,_⟩::_) _ _;refine wpList_plain rfl fun K hK=>YS (.tmp 54) (.tmp 59) rfl v5 10 [84,78,77,49,0,1,1,1,107,1] w.heap.size (by rfl) HO5.out (za [118]) (by rfl) (by show 10+1<=1000000;omega) hz5 fun v6 w6 ho6 hg6=>hK _ _ ?_)
 have hB6:Below w.heap.size w w6:=jL HB5.out HO5.out hg6
 have ho6':w6.ownsRow w.heap.size 5 1 v6 11 (zo [84,78,77,49,0,1,1,1,107,1,118]):=ho6
 have hz6:w.heap.size<=w6.heap.size:=hB6.size
 have hcrc:=zfp v6 [84,78,77,49,0,1,1,1,107,1,118] w6 (ze.of_own rfl ho6') (by simp)
 have hc2:QK [84,78,77,49,0,1,1,1,107,1,118]=4015440659:=by kernel_rfl
 rw [hc2] at hcrc
 have HB6:=hid hB6
 have HO6:=hid ho6'
 have HCRC:=hid hcrc
 clear hB6 ho6 ho6' hg6 k52 hz5 HO5 HG5 HB5 hcrc hc2 hsz
 go_upto_region 9 with fail
 rw [rounds_succ]
 go_upto_region 10 with (go_at_call 40;(with_reducible refine HCRC.out.mono ?_);rintro e7 w7 ⟨rfl,rfl⟩)
 go_wp2_with (first
  | (show wpList _ _ _ (⟨some 65,_,_,_,_,_⟩::_) _ _;refine zZ rfl _ _ (Ys .shr 108 110 (.tmp 64) (.const (.int .u64 24)) rfl (.int .u32 4015440659) (.int .u64 24) (.int .u32 239) (by rfl) (by rfl) (by kernel_rfl) (by kernel_rfl)) ?_)
  | (show wpList _ _ _ (⟨some 68,_,_,_,_,_⟩::_) _ _;refine zZ rfl _ _ (Ys .shr 108 110 (.tmp 67) (.const (.int .u64 16)) rfl (.int .u32 4015440659) (.int .u64 16) (.int .u32 61270) (by rfl) (by rfl) (by kernel_rfl) (by kernel_rfl)) ?_)
  | (show wpList _ _ _ (⟨some 71,_,_,_,_,_⟩::_) _ _;refine zZ rfl _ _ (Ys .shr 108 110 (.tmp 70) (.const (.int .u64 8)) rfl (.int .u32 4015440659) (.int .u64 8) (.int .u32 15685315) (by rfl) (by rfl) (by kernel_rfl) (by kernel_rfl)) ?_)
  | (show wpList _ _ _ (⟨some 66,_,_,_,_,_⟩::_) _ _;refine wpList_plain rfl fun K hK=>vR 108 5 (.tmp 65) rfl (.int .u32 239) (.int .u8 239) (by rfl) (by kernel_rfl) (hK _ _ ?_))
  | (show wpList _ _ _ (⟨some 69,_,_,_,_,_⟩::_) _ _;refine wpList_plain rfl fun K hK=>vR 108 5 (.tmp 68) rfl (.int .u32 61270) (.int .u8 86) (by rfl) (by kernel_rfl) (hK _ _ ?_))
  | (show wpList _ _ _ (⟨some 72,_,_,_,_,_⟩::_) _ _;refine wpList_plain rfl fun K hK=>vR 108 5 (.tmp 71) rfl (.int .u32 15685315) (.int .u8 195) (by rfl) (by kernel_rfl) (hK _ _ ?_))
  | (show wpList _ _ _ (⟨some 74,_,_,_,_,_⟩::_) _ _;refine wpList_plain rfl fun K hK=>vR 108 5 (.tmp 73) rfl (.int .u32 4015440659) (.int .u8 19) (by rfl) (by kernel_rfl) (hK _ _ ?_))
  | (show wpList _ _ _ (⟨some 75,_,_,_,_,_⟩::_) _ _;refine zZ rfl _ _ (zeB 29 4 #[(0,.tmp 66),(1,.tmp 69),(2,.tmp 72),(3,.tmp 74)] rfl #[(0,.int .u8 239),(1,.int .u8 86),(2,.int .u8 195),(3,.int .u8 19)] (by kernel_rfl) (zfw _)) ?_)
  | (show wpList _ _ _ (⟨some 76,_,_,_,_,_⟩::_) _ _;refine wpList_plain rfl fun K hK=>uZ (.tmp 63) (.tmp 75) 29 5 1 1 rfl Tryz.underlying29 uD (by omega) v6 11 (zo [84,78,77,49,0,1,1,1,107,1,118]) w.heap.size (by rfl) (ZT HO6.out (B_alloc (Below.refl _ _) _)) (some ⟨w7.heap.size,0,none⟩) 4 4 [.int .u8 239,.int .u8 86,.int .u8 195,.int .u8 19] _ (by rfl) (zx.of_block (zk _ _ rfl) rfl) (by intro u hu;simp at hu;rcases hu with rfl | rfl | rfl | rfl<;>rfl) (by omega) (by omega) (by simp;omega) fun v8 w8 ho8 hg8 hob8=>hK _ _ ?_))
 go_ret
 have hB67:Below w7.heap.size w7 (w7.alloc (.cells #[.int .u8 239,.int .u8 86,.int .u8 195,.int .u8 19] 5)):=B_alloc (Below.refl _ _) _
 refine ⟨v8,rfl,?_,jL (B_call HB6.out hB67) (ZT HO6.out hB67) hg8⟩
 have hpb:jQ [zbM]=[84,78,77,49,0,1,1,1,107,1,118,239,86,195,19]:=by kernel_rfl
 rw [hpb]
 exact ho8
end
section
variable {bz:Nat->Prop}
abbrev JD (kd tn hd rt:Int) (rk rv:ByteArray) (mask:Int):Array Value:=#[.int .i64 kd,.int .i64 tn,.int .i64 hd,.int .i64 rt,.string rk,.string rv,.string { data:=#[] },.int .i64 0,.int .u64 mask,.slice none 0 0]
abbrev ve (er hd:Int):Array Value:=#[.int .i64 er,.int .i64 hd,.string { data:=#[] },.slice none 0 0,.slice none 0 0]
theorem GF (h u v:Int):aput [(h,u)] h v=[(h,v)]:=by simp [aput,qb]
theorem ZK (h u:Int):qb [(h,u)] h=true:=by simp [qb]
theorem ZJ (h u:Int):(zF [(h,u)] h).getD 0=u:=by simp [zF]
def JM (ep:Int):Prop:=0<=ep/\ep<8796093022208
theorem JM.of {ct boots:Nat} (h1:ct<1000000) (h2:boots<1000000):JM ((yA ct boots:Nat):Int):=by
 have:=zgm h1 h2
 unfold JM
 omega
theorem HS.ct {w:World} {H D boots r ct G:Nat} {ep nx:Int} {hs:List (Int × Int)} {p:Ph} {A:Nat->jG} (h:HS bz w H D boots A) (hr:r<4) (ha:A r=.live ct ep nx hs p G):ct<1000000:=by
 obtain ⟨F,cur,ts,hh,hA⟩:=h
 have h1:=hA r hr
 rw [ha] at h1
 have h2:=(hh.bnd r hr).2
 rw [h1.2.1] at h2
 exact h2
def HS1 (bz:Nat->Prop) (w:World) (H D boots:Nat) (A:Nat->jG) (r:Nat) (a:jG) (A':Nat->jG):Prop:=HS bz w H D boots A'/\A' r=a/\∀ i,i≠r->A' i=A i
theorem HS1.of {w:World} {H D boots r:Nat} {A:Nat->jG} {a:jG} (h:HS bz w H D boots (zE A r a)):HS1 bz w H D boots A r a (zE A r a):=⟨h,zf _ _ _,fun i hi=>zm _ _ hi⟩
def zjs:jG->jG->Prop
 | .gone ct,x=>x=.gone ct
 | .live ct _ _ _ (.idle its) G,x=>∃ ep,JM ep/\x=.live ct ep 0 [] (.idle its) (G+1)
 | _,_=>True
section
variable {H D r boots ct G:Nat} {ep nx hd tn:Int} {its:List It} {w:World} {A:Nat->jG}
theorem zds (h:HS bz w H D boots A) (hr:r<4) (htn:tn=r) (ha:A r=.gone ct) (hct:ct+1<1000000) (hbt:boots<1000000) :
  Calls Tryz.prog 9 #[.pointer (some ⟨H,0,none⟩),.agg (JD 0 tn 0 0 { data:=#[] } { data:=#[] } 0)] w fun e W=>∃ ep A',e=.returned (.agg (ve 0 0))/\zj bz w W/\JM ep/\HS1 bz W H D boots A r (.live (ct+1) ep 0 [] (.idle []) 1) A':=by
 subst htn
 refine (zgj h hr ha hct hbt).mono ?_
 rintro e W ⟨rfl,hk,hs⟩
 exact ⟨_,_,rfl,hk,JM.of hct hbt,.of hs⟩
theorem zdt {p:Ph} (h:HS bz w H D boots A) (hr:r<4) (htn:tn=r) (ha:A r=.live ct ep nx [] p G) (he:JM ep) (hn:0<=nx/\nx<1048575) :
  Calls Tryz.prog 9 #[.pointer (some ⟨H,0,none⟩),.agg (JD 2 tn 0 0 { data:=#[] } { data:=#[] } 0)] w fun e W=>∃ hd A',e=.returned (.agg (ve 0 hd))/\0<hd/\iok hd/\zj bz w W/\HS1 bz W H D boots A r (.live ct ep (nx+1) [(hd,0)] p G) A':=by
 subst htn
 unfold JM at he
 refine (zjB h hr ha (by simp) he hn).mono ?_
 rintro e W ⟨rfl,hk,hs⟩
 exact ⟨ep*1048576+(nx+1),_,rfl,by omega,iok_of (by omega),hk,.of hs⟩
theorem zba (h:HS bz w H D boots A) (hr:r<4) (htn:tn=r) (ha:A r=.live ct ep nx [(hd,0)] (.idle its) G) (hhd:iok hd) :
  Calls Tryz.prog 9 #[.pointer (some ⟨H,0,none⟩),.agg (JD 4 tn hd 0 { data:=#[] } { data:=#[] } 0)] w fun e W=>∃ A',e=.returned (.agg (ve 0 0))/\zj bz w W/\HS1 bz W H D boots A r (.live ct ep nx [(hd,1)] (.began its) G) A':=by
 subst htn
 refine (zhV h hr ha hhd (ZK hd 0) (ZJ hd 0)).mono ?_
 rintro e W ⟨rfl,hk,hs⟩
 rw [GF] at hs
 exact ⟨_,rfl,hk,.of hs⟩
theorem zjr {rt:Int} {rk rv:ByteArray} {rw:Rw} (h:HS bz w H D boots A) (hr:r<4) (htn:tn=r) (ha:A r=.live ct ep nx [(hd,1)] (.began its) G) (hhd:iok hd) (hok:rw.ok) (hG:G<=1000000) (e1:rt=rw.t) (e2:rk=za rw.k) (e3:rv=za rw.v) :
  Calls Tryz.prog 9 #[.pointer (some ⟨H,0,none⟩),.agg (JD 6 tn hd rt rk rv 0)] w fun e W=>∃ A',zj bz w W /\
   ((e=.returned (.agg (ve 7 0))/\HS1 bz W H D boots A r (.live ct ep nx [(hd,1)] (.began its) (G+1)) A'/\its.length=30/\∀ y,y∈its->¬ jh y.rw rw) ∨
    (e=.returned (.agg (ve 0 0))/\∃ its',HS1 bz W H D boots A r (.live ct ep nx [(hd,1)] (.did its rw its') (G+1)) A'/\YA its its' rw)):=by
 subst htn e1 e2 e3
 refine (zkt h hr ha hhd (ZK hd 1) (ZJ hd 1) hok hG).mono ?_
 rintro e W ⟨hk,⟨rfl,h1,h2⟩ | ⟨rfl,its',h1,h2⟩⟩
 ·exact ⟨_,hk,.inl ⟨rfl,.of h1,h2⟩⟩
 ·exact ⟨_,hk,.inr ⟨rfl,its',.of h1,h2⟩⟩
theorem zeh {rt:Int} {rk rv:ByteArray} {rw:Rw} (h:HS bz w H D boots A) (hr:r<4) (htn:tn=r) (ha:A r=.live ct ep nx [(hd,1)] (.began []) G) (hhd:iok hd) (hok:rw.ok) (hG:G<=1000000) (e1:rt=rw.t) (e2:rk=za rw.k) (e3:rv=za rw.v) :
  Calls Tryz.prog 9 #[.pointer (some ⟨H,0,none⟩),.agg (JD 6 tn hd rt rk rv 0)] w fun e W=>∃ its A',e=.returned (.agg (ve 0 0))/\zj bz w W/\HS1 bz W H D boots A r (.live ct ep nx [(hd,1)] (.did [] rw its) (G+1)) A'/\its.map (·.rw)=[rw]:=by
 refine (zjr h hr htn ha hhd hok hG e1 e2 e3).mono ?_
 rintro e W ⟨A',hk,⟨_,_,h30,_⟩ | ⟨rfl,its,hs,⟨⟨n,i,he⟩,_⟩⟩⟩
 ·cases h30
 ·exact ⟨its,A',rfl,hk,hs,by rw [he];rfl⟩
theorem zhG {p:Ph} (h:HS bz w H D boots A) (hr:r<4) (htn:tn=r) (ha:A r=.live ct ep nx [(hd,1)] p G) (hp:p=.began its∨∃ was rw,p=.did was rw its) (hhd:iok hd) :
  Calls Tryz.prog 9 #[.pointer (some ⟨H,0,none⟩),.agg (JD 11 tn hd 0 { data:=#[] } { data:=#[] } 0)] w fun e W=>∃ A',e=.returned (.agg (ve 0 0))/\zj bz w W/\HS1 bz W H D boots A r (.live ct ep nx [(hd,0)] (.idle its) G) A':=by
 subst htn
 refine (zjz h hr ha hp hhd (ZK hd 1) (ZJ hd 1)).mono ?_
 rintro e W ⟨rfl,hk,hs⟩
 rw [GF] at hs
 exact ⟨_,rfl,hk,.of hs⟩
theorem zeL {mask:Int} (h:HS bz w H D boots A) (hbt:boots+1<1000000) (hA4:∀ r,r<4->(A r).calm) :
  Calls Tryz.prog 9 #[.pointer (some ⟨H,0,none⟩),.agg (JD 19 0 0 0 { data:=#[] } { data:=#[] } mask)] w fun e W=>∃ A',e=.returned (.agg (ve 0 0))/\zj bz w W/\HS bz W H D (boots+1) A'/\∀ r,r<4->zjs (A r) (A' r):=by
 refine (zeS h hbt hA4).mono ?_
 rintro e W ⟨rfl,hk,hs⟩
 refine ⟨_,rfl,hk,hs,fun r hr=>?_⟩
 cases ha:A r with
 | gone ct=>exact rfl
 | live ct ep nx hs' p G =>
  cases p with
  | idle its=>exact ⟨_,JM.of (h.ct hr ha) hbt,rfl⟩
  | began its=>exact trivial
  | did was rw its=>exact trivial
theorem zje {hs:List (Int × Int)} (h:HS bz w H D boots A) (hr:r<4) (htn:tn=r) (ha:A r=.live ct ep nx hs (.idle its) G) (hrw:∀ y,y∈its->y.rw.ok) :
  Calls Tryz.prog 9 #[.pointer (some ⟨H,0,none⟩),.agg (JD 13 tn 0 0 { data:=#[] } { data:=#[] } 0)] w fun e W=>∃ (L:List UInt8) (n:Nat) (dA:Option Addr) (c:Nat),L=jQ (its.map (·.rw))/\n=L.length/\e=.returned (.agg #[.int .i64 0,.int .i64 0,.string { data:=#[] },.slice none 0 0,.slice dA n c])/\W.ownsRow w.heap.size 5 1 (.slice dA n c) n (zo L)/\zj bz w W/\HS bz W H D boots A:=by
 subst htn
 refine (zgk h hr ha fun y hy=>⟨by have:=(hrw y hy).1;omega,(hrw y hy).2⟩).mono ?_
 rintro e W ⟨dA,c,h1,h2,h3⟩
 exact ⟨_,_,dA,c,rfl,rfl,h1,h2,h3⟩
end
theorem zgF (w:World):Calls Tryz.prog 8 #[] w fun e W=>∃ H D A,e=.returned (.pointer (some ⟨H,0,none⟩))/\HS (·<w.heap.size) W H D 1 A/\(∀ i,A i=.gone 0)/\zj (·<w.heap.size) w W:=by
 refine (zgq w).mono ?_
 rintro e W ⟨H,D,F,cur,ts,rfl,hh,hts,hk⟩
 exact ⟨H,D,fun _=>.gone 0,rfl,⟨F,cur,ts,hh,fun i hi=>hts i hi⟩,fun _=>rfl,hk⟩
end
section
variable {bz:Nat->Prop}
theorem zfo (g:Nat) (w:World) (h:w.heap[g]?=some (.cells QC 34 (0,0))) :
  Calls Tryz.prog 18 #[.slice (some ⟨g,0,none⟩) 1 1] w fun e w'=>∃ v,e=.returned v/\w'.ownsRow w.heap.size 5 1 v 15 (zo (jQ [zbM]))/\Below w.heap.size w w':=by
 have HR:=hid (zde g w h)
 clear h
 go_enter Tryz.func18,Tryz.ntmps18
 go_wp2_with (go_at_call 24;(with_reducible refine HR.out.mono ?_);rintro e1 w1 ⟨v,rfl,ho,hb⟩)
 go_ret
 exact ⟨v,rfl,ho,hb⟩
theorem zjo:jQ [zbM]=[84,78,77,49,0,1,1,1,107,1,118,239,86,195,19]:=by kernel_rfl
structure zfS (a b c d:Nat) (hd:Int) (dA:Option Addr) (dc:Nat) (L:List UInt8) (w':World):Prop where
 A:w'.heap[a]?=some (.cells (ve 0 hd) 31 (0,0))
 B:w'.heap[b]?=some (.cells (ve 0 0) 31 (0,0))
 C:w'.heap[c]?=some (.cells #[.int .i64 0,.int .i64 0,.string { data:=#[] },.slice none 0 0,.slice dA 15 dc] 31 (0,0))
 D:w'.heap[c+1]?=some (.cells (ve 3 0) 31 (0,0))
 own:w'.ownsRow d 5 1 (.slice dA 15 dc) 15 (zo L)
theorem zfS.below {a b c d dc:Nat} {hd:Int} {dA:Option Addr} {L:List UInt8} {w w':World} (h:zfS a b c d hd dA dc L w) (k:Below w.heap.size w w'):zfS a b c d hd dA dc L w' :=
 ⟨zb h.A k (zd h.A),zb h.B k (zd h.B),zb h.C k (zd h.C),zb h.D k (zd h.D),ZT h.own k⟩
theorem zfP {H D r boots ct:Nat} {tn:Int} {w:World} {A:Nat->jG} (Q:World->Prop) (hb:∀ W,Below w.heap.size w W->Q W) (hq:∀ W W',Q W->qQ W W'->Q W') (h:HS bz w H D boots A) (hr:r<4) (htn:tn=r) (ha:A r=.gone ct) :
  Calls Tryz.prog 9 #[.pointer (some ⟨H,0,none⟩),.agg (JD 13 tn 0 0 { data:=#[] } { data:=#[] } 0)] w fun e W=>e=.returned (.agg (ve 3 0))/\zj bz w W/\Q W:=by
 subst htn
 obtain ⟨F,cur,ts,hh,hA⟩:=h
 have hAr:ts r=⟨0,ct,none⟩:=by have:=hA r hr;rw [ha] at this;exact this
 refine Calls.mono (HS.do (q:=qN 13 r 0) (P:=fun a W=>a=qn 3/\Q W) hh hr (by simp [qN]) (by simp [qN]) rfl (fun a W W' h k=>⟨h.1,hq _ _ h.2 k⟩) fun W hb0 hW=>?_) ?_
 ·exact zfB H D r F cur ts boots (qN 13 r 0) W _ hW hr (by rw [hAr]) (by simp [qN]) (by simp [qN]) (fun a W W' h k=>⟨h.1,hq _ _ h.2 k⟩) fun W' hW'=>⟨rfl,hb _ (B_call hb0 hW')⟩
 ·rintro e W ⟨a,rfl,hk,rfl,hs⟩
  exact ⟨rfl,hk,hs⟩
theorem zhu (w:World):Calls Tryz.prog 7 #[] w fun e W=>e=.returned (.bool true)/\zj (·<w.heap.size) w W:=by
 have HNEW:=hid (zgF w)
 go_enter Tryz.func7,Tryz.ntmps7
 go_upto_region 2 with (go_at_call 8;(with_reducible refine HNEW.out.mono ?_);rintro e1 w1 ⟨H,D,A1,rfl,hs1,ha1,hk1⟩)
 have h2:=hid (zds hs1 (r:=2) (tn:=2) (by omega) rfl (ha1 2) (by omega) (by omega))
 obtain ⟨HK1,HA1⟩:=zi2 hk1 ha1
 clear hs1 hk1 ha1
 go_upto_region 3 with (go_at_call 9;(with_reducible refine h2.out.mono ?_);rintro e2 w2 ⟨ep,A2,rfl,hk2,hep,hs2⟩)
 have h3:=hid (zdt hs2.1 (r:=2) (tn:=2) (by omega) rfl hs2.2.1 hep (by decide))
 have HK2:=hid (HK1.out.trans hk2)
 have HA2:=hid fun i hi=>(hs2.2.2 i hi).trans (HA1.out i)
 clear hs2 hk2 h2 HK1 HA1 hep
 go_upto_region 4 with (first
  | (go_at_call 9;(with_reducible refine h3.out.mono ?_);rintro e3 w3 ⟨hd,A3,rfl,hd0,hdk,hk3,hs3⟩)
  | (show wpList _ _ _ (⟨none,.store 31 (.tmp 2) _,_,_,_,_⟩::_) _ _;refine zN rfl 31 (.tmp 2) (.tmp 12) rfl w3.heap.size rfl _ (ve 0 hd) (by rfl) (by rfl) (by kernel_rfl) (by rfl) (by simp [Value.oneCell']) ?_))
 obtain ⟨w4,hw4⟩:∃ w4,w4=w3.alloc (.cells (ve 0 hd) 31):=⟨_,rfl⟩
 rw [<- hw4]
 have hb4:Below w3.heap.size w3 w4:=by rw [hw4];exact B_alloc (Below.refl _ _) _
 have hA4:w4.heap[w3.heap.size]?=some (.cells (ve 0 hd) 31 (0,0)):=by rw [hw4];exact zk _ _ rfl
 have hs4:=hs3.1.below hb4
 have hk4:zj (·<w.heap.size) w w4:=HK2.out.trans (hk3.trans (zj.below hb4))
 have k4:=(cell_of_row w4 w3.heap.size 1 _ _ _ hA4).trans (show _=some (Value.int .i64 hd) from rfl)
 have h5:=hid (zba hs4 (r:=2) (tn:=2) (by omega) rfl hs3.2.1 hdk)
 have HA3:=hid fun i hi=>(hs3.2.2 i hi).trans (HA2.out i hi)
 obtain ⟨HA4,HK4⟩:=zi2 hA4 hk4
 clear hw4 hb4 hA4 hs4 hk4 hs3 hk3 h3 HA2 HK2
 go_upto_region 5 with (go_at_call 9;(with_reducible refine h5.out.mono ?_);rintro e5 w5 ⟨A5,rfl,hk5,hs5⟩)
 have hA5:=hk5 _ _ _ (by decide) HA4.out
 have k5:=(cell_of_row w5 w3.heap.size 1 _ _ _ hA5).trans (show _=some (Value.int .i64 hd) from rfl)
 have h6:=hid (zeh (rt:=1) (rk:={ data:=#[107] }) (rv:={ data:=#[118] }) (rw:=zbM) hs5.1 (r:=2) (tn:=2) (by omega) rfl hs5.2.1 hdk ⟨by decide,by decide,by decide⟩ (by omega) rfl rfl rfl)
 have HAA5:=hid fun i hi=>(hs5.2.2 i hi).trans (HA3.out i hi)
 have HA5:=hid hA5
 have HK5:=hid (HK4.out.trans hk5)
 clear hA5 hk5 hs5 h5 k4 HA4 HK4 HA3
 go_upto_region 6 with (go_at_call 9;(with_reducible refine h6.out.mono ?_);rintro e6 w6 ⟨its,A6,rfl,hk6,hs6,hits⟩)
 have hA6:=hk6 _ _ _ (by decide) HA5.out
 have k6:=(cell_of_row w6 w3.heap.size 1 _ _ _ hA6).trans (show _=some (Value.int .i64 hd) from rfl)
 have h7:=hid (zhG hs6.1 (r:=2) (tn:=2) (its:=its) (by omega) rfl hs6.2.1 (.inr ⟨_,_,rfl⟩) hdk)
 have HAA6:=hid fun i hi=>(hs6.2.2 i hi).trans (HAA5.out i hi)
 have HA6:=hid hA6
 have HK6:=hid (HK5.out.trans hk6)
 have HI:=hid hits
 clear hA6 hk6 hs6 h6 k5 hits HA5 HK5 HAA5
 go_upto_region 7 with (first
  | (go_at_call 9;(with_reducible refine h7.out.mono ?_);rintro e7 w7 ⟨A7,rfl,hk7,hs7⟩)
  | (show wpList _ _ _ (⟨none,.store 31 (.tmp 3) _,_,_,_,_⟩::_) _ _;refine zN rfl 31 (.tmp 3) (.tmp 28) rfl w7.heap.size rfl _ (ve 0 0) (by rfl) (by rfl) (by kernel_rfl) (by rfl) (by simp [Value.oneCell']) ?_))
 obtain ⟨w8,hw8⟩:∃ w8,w8=w7.alloc (.cells (ve 0 0) 31):=⟨_,rfl⟩
 rw [<- hw8]
 have hb8:Below w7.heap.size w7 w8:=by rw [hw8];exact B_alloc (Below.refl _ _) _
 have hB8:w8.heap[w7.heap.size]?=some (.cells (ve 0 0) 31 (0,0)):=by rw [hw8];exact zk _ _ rfl
 have hk78:zj (·<w.heap.size) w6 w8:=hk7.trans (zj.below hb8)
 have hA8:=hk78 _ _ _ (by decide) HA6.out
 have h9:=hid (zeL (mask:=0) (hs7.1.below hb8) (by omega) (by
  intro r hr
  by_cases e:r=2
  ·rw [e,hs7.2.1];show 1+1<=1000000;omega
  ·rw [hs7.2.2 r e,HAA6.out r e];exact trivial))
 obtain ⟨HA7,HA8,HB8⟩:=zi3 hs7 hA8 hB8
 have HK8:=hid (HK6.out.trans hk78)
 clear hw8 hb8 hB8 hk78 hA8 hs7 hk7 h7 k6 HA6 HK6
 go_upto_region 8 with (go_at_call 9;(with_reducible refine h9.out.mono ?_);rintro e9 w9 ⟨A9,rfl,hk9,hs9,hcr9⟩)
 have hc2:=hcr9 2 (by omega)
 rw [HA7.out.2.1] at hc2
 obtain ⟨ep2,_,hc2⟩:=hc2
 have hc1:=hcr9 1 (by omega)
 rw [HA7.out.2.2 1 (by omega),HAA6.out 1 (by omega)] at hc1
 have h10:=hid (zje hs9 (r:=2) (tn:=2) (its:=its) (by omega) rfl hc2 (by
  intro y hy
  have:y.rw∈its.map (·.rw):=List.mem_map.2 ⟨y,hy,rfl⟩
  rw [HI.out] at this
  rw [List.mem_singleton.1 this]
  exact ⟨by decide,by decide,by decide⟩))
 have hA9:=hk9 _ _ _ (by decide) HA8.out
 have hB9:=hk9 _ _ _ (by decide) HB8.out
 obtain ⟨HA9,HB9⟩:=zi2 hA9 hB9
 have HK9:=hid (HK8.out.trans hk9)
 have HC1:=hid hc1
 clear hA9 hB9 hs9 hk9 h9 hcr9 hc2 hc1 HA7 HAA6 HA8 HB8 HK8
 go_upto_region 9 with (first
  | (go_at_call 9;(first | ((with_reducible refine h11.out.mono ?_);rintro e11 w11 ⟨rfl,hk11,hown11⟩) | ((with_reducible refine h10.out.mono ?_);rintro e10 w10 ⟨L,n,dA,dc,hL,hn,rfl,hown10,hk10,hs10⟩;obtain ⟨HL,HN⟩:=zi2 hL hn;clear hL hn;have h11:=hid (zfP (fun W=>W.ownsRow w9.heap.size 5 1 (.slice dA n dc) n (zo L)) (fun W hW=>ZT hown10 hW) (fun W W' h k=>JU h k) hs10 (r:=1) (tn:=1) (ct:=0) (by omega) rfl HC1.out))))
  | (show wpList _ _ _ (⟨none,.store 31 (.tmp 4) _,_,_,_,_⟩::_) _ _;refine zB rfl 31 (.tmp 4) (.tmp 34) rfl w11.heap.size 0 31 _ #[.int .i64 0,.int .i64 0,.string { data:=#[] },.slice none 0 0,.slice dA n dc] (by rfl) (by rfl) (zy (zk _ _ rfl) _) (by simp) (by kernel_rfl) (by simp [Value.oneCell']) ?_)
  | (show wpList _ _ _ (⟨none,.store 31 (.tmp 5) _,_,_,_,_⟩::_) _ _;refine zB rfl 31 (.tmp 5) (.tmp 37) rfl (w11.heap.size+1) 0 31 _ (ve 3 0) (by rfl) (by rfl) ((setRow_other _ _ _ _ (by omega)).trans (zk _ _ (by simp))) (by simp) (by kernel_rfl) (by simp [Value.oneCell']) ?_))
 have hL:L=jQ [zbM]:=by rw [HL.out,HI.out]
 have hml:n=15:=by rw [HN.out,hL,zjo];rfl
 rw [hL] at hown11
 obtain ⟨w12,hw12⟩:∃ w12,w12=(((w11.alloc (.cells (ve 0 0) 31)).alloc (.cells (ve 0 0) 31)).setRow w11.heap.size #[.int .i64 0,.int .i64 0,.string { data:=#[] },.slice none 0 0,.slice dA n dc]).setRow (w11.heap.size+1) (ve 3 0):=⟨_,rfl⟩
 show Code.wp Tryz.prog _ _ _ ((((w11.alloc (.cells (ve 0 0) 31)).alloc (.cells (ve 0 0) 31)).setRow w11.heap.size #[.int .i64 0,.int .i64 0,.string { data:=#[] },.slice none 0 0,.slice dA n dc]).setRow (w11.heap.size+1) (ve 3 0))
 rw [<- hw12]
 rw [hml] at hw12
 have h1112:∀ x,x<w11.heap.size->w12.heap[x]?=w11.heap[x]?:=fun x hx=>by
  rw [hw12,setRow_other _ _ _ _ (by omega),setRow_other _ _ _ _ (by omega)]
  exact (B_alloc (B_alloc (Below.refl _ _) _) _).block x hx
 have hC12:w12.heap[w11.heap.size]?=some (.cells #[.int .i64 0,.int .i64 0,.string { data:=#[] },.slice none 0 0,.slice dA 15 dc] 31 (0,0)):=by
  rw [hw12,setRow_other _ _ _ _ (by omega)]
  exact setRow_heap _ _ _ _ 31 _ (zy (zk _ _ rfl) _)
 have hD12:w12.heap[w11.heap.size+1]?=some (.cells (ve 3 0) 31 (0,0)):=by
  rw [hw12]
  exact setRow_heap _ _ _ _ 31 _ ((setRow_other _ _ _ _ (by omega)).trans (zk _ _ (by simp)))
 have hA11:=hk11 _ _ _ (by decide) (hk10 _ _ _ (by decide) HA9.out)
 have hB11:=hk11 _ _ _ (by decide) (hk10 _ _ _ (by decide) HB9.out)
 have hA12:=(h1112 _ (zd hA11)).trans hA11
 have hB12:=(h1112 _ (zd hB11)).trans hB11
 have ho12:w12.ownsRow w9.heap.size 5 1 (.slice dA 15 dc) 15 (zo (jQ [zbM])):=by
  rw [hml] at hown11
  refine zi hown11 fun x hx=>h1112 x ?_
  rcases hown11.2 with ⟨h1,_⟩ | ⟨g',cap,cur,h1,_,hg,_⟩
  ·rw [h1] at hx;simp [Value.ownBlock] at hx
  ·rw [h1] at hx
   simp [Value.ownBlock] at hx
   subst hx
   exact zd hg
 have hz12:w12.heap.size=w11.heap.size+2:=by rw [hw12];simp
 have hk12:zj (·<w.heap.size) w w12:=by
  refine HK9.out.trans ((hk10.trans hk11).trans (zj.below ⟨by rw [hw12];rfl,by rw [hw12];rfl,by rw [hw12];rfl,by omega,fun x hx=>h1112 x hx⟩))
 obtain ⟨B,hBL⟩:∃ B,B=jQ [zbM]:=⟨_,rfl⟩
 have hbl:B.length=15:=by rw [hBL,zjo];rfl
 rw [<- hBL] at ho12
 have HRB:=hid (fun (g:Nat) (W:World) hg=>zfo g W hg)
 rw [<- hBL] at HRB
 have q0:decide ((0:Int)<hd)=true:=by simpa using hd0
 have hS:zfS w3.heap.size w7.heap.size w11.heap.size w9.heap.size hd dA dc B w12.drew:=⟨hA12,hB12,hC12,hD12,ho12⟩
 obtain ⟨HS12,HK12,HBL⟩:=zi3 hS hk12 hbl
 clear hA12 hB12 hC12 hD12 ho12 hk12 hbl hBL hA11 hB11 h1112 hw12 hz12 hown11 hown10 hk10 hk11 hs10 h10 h11 hL hml HL HN HA9 HB9 HK9 HC1 HI hd0
 refine wp_region_noPanic ?_
 refine PrintLast.start_ (n:=24) (S:=(fun w'=>zfS w3.heap.size w7.heap.size w11.heap.size w9.heap.size hd dA dc B w')) (ds:=[]) (bA 24 0) (by kernel_rfl) rfl (by kernel_rfl) hS (fun hHeld=>?_)
 refine pu 0 38 24 1 rfl rfl ?_
 refine tk 1 39 24 3 rfl rfl (Or.inl ⟨by rfl,fun _ h=>(by have k0:=(cell_of_row _ w3.heap.size 1 _ _ _ h.A).trans (show _=some (Value.int .i64 hd) from rfl);go_simp;with_reducible rfl)⟩) ?_
 refine pu 2 40 24 7 rfl rfl ?_
 refine pu 3 41 24 15 rfl rfl ?_
 refine pu 4 42 24 31 rfl rfl ?_
 refine tk 5 43 24 63 rfl rfl (Or.inl ⟨by rfl,fun _ h=>(by have k0:=(cell_of_row _ w7.heap.size 0 _ _ _ h.B).trans (show _=some (Value.int .i64 0) from rfl);go_simp;with_reducible rfl)⟩) ?_
 refine pu 6 44 24 127 rfl rfl ?_
 refine pu 7 45 24 255 rfl rfl ?_
 refine pu 8 46 24 511 rfl rfl ?_
 refine pu 9 47 24 1023 rfl rfl ?_
 refine tk 10 48 24 2047 rfl rfl (Or.inl ⟨by rfl,fun _ h=>(by have k0:=(cell_of_row _ w11.heap.size 4 _ _ _ h.C).trans (show _=some (Value.slice dA 15 dc) from rfl);go_simp;with_reducible rfl)⟩) ?_
 refine tk 11 49 24 4095 rfl rfl (vg 29 9 (.tmp 48) rfl (by rfl) (.slice dA 15 dc) (.string (za B)) (by rfl) (fun _ h=>vp (ze.of_own HBL.out.symm h.own))) ?_
 refine pu 12 50 24 8191 rfl rfl ?_
 refine on 13 24 16383 (some 51) rfl rfl (fun K hK=>?_)
 show Oper.wp _ ⟨some 51,_,_,_,_,_⟩ _ _ _ _
 refine vf 22 34 3 _ (.tmp 50) rfl (.agg QC) (by rfl) Tryz.underlying22 zcz (by rfl) (by omega) (by omega) ?_
 obtain ⟨w13,hw13⟩:∃ w13,w13=w12.drew.alloc (.cells QC 34):=⟨_,rfl⟩
 have hb13:Below w12.drew.heap.size w12.drew w13:=by rw [hw13];exact B_alloc (Below.refl _ _) _
 have hX13:w13.heap[w12.heap.size]?=some (.cells QC 34 (0,0)):=by rw [hw13];exact zk _ _ rfl
 rw [show (Value.agg QC).cells=QC from rfl,<- hw13]
 refine hK.out _ _ (hHeld.below hb13) (fun hHeld=>?_)
 clear hK K
 try simp only [pS]
 refine on 14 24 32767 (some 52) rfl rfl (fun K hK=>?_)
 show Oper.wp _ ⟨some 52,_,_,_,_,_⟩ _ _ _ _
 refine zq 18 _ _ [.slice (some ⟨w12.heap.size,0,none⟩) 1 1] rfl (by kernel_rfl) (by rfl) ((HRB.out w12.heap.size w13 hX13).mono ?_)
 rintro e14 w14 ⟨v14,rfl,ho14,hb14⟩
 refine ⟨_,rfl,?_⟩
 refine hK.out _ _ (hHeld.below hb14) (fun hHeld=>?_)
 clear hK K
 try simp only [pS]
 refine on 15 24 65535 (some 53) rfl rfl (fun K hK=>?_)
 show Oper.wp _ ⟨some 53,_,_,_,_,_⟩ _ _ _ _
 refine vR 29 9 (.tmp 52) rfl v14 (.string (za B)) (by rfl) (vp (ze.of_own HBL.out.symm ho14)) ?_
 refine hK.out _ _ hHeld (fun hHeld=>?_)
 clear hK K
 try simp only [pS]
 refine pu 16 54 24 131071 rfl rfl ?_
 refine pu 17 55 24 262143 rfl rfl ?_
 refine pu 18 56 24 524287 rfl rfl ?_
 refine pu 19 57 24 1048575 rfl rfl ?_
 refine tk 20 58 24 2097151 rfl rfl (Or.inl ⟨by rfl,fun _ h=>(by have k0:=(cell_of_row _ (w11.heap.size+1) 0 _ _ _ h.D).trans (show _=some (Value.int .i64 3) from rfl);go_simp;with_reducible rfl)⟩) ?_
 refine pu 21 59 24 4194303 rfl rfl ?_
 refine pu 22 60 24 8388607 rfl rfl ?_
 refine pu 23 0 24 16777215 rfl rfl ?_
 refine PrintLast.done_ (by kernel_rfl) ?_
 refine NoPanic.normal ?_
 have hkf:zj (·<w.heap.size) w w14:=HK12.out.trans ((zj.of_drew (zj.below hb13)).trans (zj.below hb14))
 have HKF:=hid hkf
 clear hkf hw13 hb13 hX13 ho14 hb14 hHeld hS
 go_wp2_with fail
 go_ret
 exact ⟨rfl,HKF.out⟩
end
section
variable {bz:Nat->Prop}
theorem zia (hd:Int) (W:World):(Instr.field 31 (.agg (ve 0 hd)) 1).run Tryz.prog W=.ok (.int .i64 hd) W:=by kernel_rfl
end
section
variable {bz:Nat->Prop}
theorem zju (x:Int) (m:Nat) (hm:m<9223372036854775808):∃ k:Nat,k<=m/\bits .and .i64 x (m:Int)=(k:Int):=by
 have e:bits .and .i64 x (m:Int)=IntKind.i64.wrap ((BitVec.ofInt 64 x &&& BitVec.ofInt 64 (m:Int)).toNat:Int):=rfl
 refine ⟨(BitVec.ofInt 64 x &&& BitVec.ofInt 64 (m:Int)).toNat,?_,?_⟩
 ·rw [BitVec.toNat_and]
  refine Nat.le_trans Nat.and_le_right ?_
  rw [BitVec.ofInt_natCast,BitVec.toNat_ofNat]
  exact Nat.mod_le _ _
 ·have h1:(BitVec.ofInt 64 x &&& BitVec.ofInt 64 (m:Int)).toNat<=m:=by
   rw [BitVec.toNat_and]
   refine Nat.le_trans Nat.and_le_right ?_
   rw [BitVec.ofInt_natCast,BitVec.toNat_ofNat]
   exact Nat.mod_le _ _
  rw [e,IntKind.wrap_i64]
  omega
theorem zj.fin {w W:World} (h:zj (·<w.heap.size) w W):Below w.heap.size w W:=⟨h.os,h.tape,h.output,h.size,fun x hx=>h.old x hx hx⟩
theorem zj.up {a b:Nat} {w W:World} (h:zj (·<b) w W) (hab:a<=b):zj (·<a) w W:=⟨h.t,h.os,h.tape,h.output,h.size,fun x h1 h2=>h.old x (Nat.lt_of_lt_of_le h1 hab) h2⟩
end
section
variable {bz:Nat->Prop}
theorem zjW (s:St) (txn t:Nat) (k:List UInt8):((s.read txn t k).2:Int)≠10:=by
 unfold St.read
 split
 ·simp
 ·unfold zkT
  split<;>simp
theorem zfO (H D r:Nat) (F:Nat->Prop) (cur:Nat->Nat->List UInt8) (ts:Nat->Tn) (boots:Nat) (l:Tl) (q:Rq) (rw:Rw) (txn T:Nat) (x:Tx) (w:World) (P:An->World->Prop) (h:zP bz w H D F cur ts boots) (hr:r<4) (hl:(ts r).live=some l)
  (hkd:q.kd=12) (hrt:q.rt=rw.t) (hrk:q.rk=za rw.k) (hrv:q.rv=za rw.v) (hok:rw.ok) (htt:q.tt.size<=15) (hP:∀ a W W',P a W->qQ W W'->P a W')
  (ht1:1<=txn) (ht3:txn<=3) (htx:l.s.ts[txn]?=some (some (T,x)))
  (hso:zJ l.s.its) (hil:l.s.its.length<=800) (dd:Nat) (hfit:l.s.sto.log.length+(if x.list=[] then 0 else (x.list.length+1)*395)+dd<=14336) (hhd:iok q.hd) (hhas:qb l.hs q.hd=true) (hend:∀ nbs b' cur' W,(l.s.abort l.a.r txn nbs x).sto.log.length+dd<=14336->zP bz W H D b'.F cur' (yo ts b'.F r { ts r with live:=some { l with b:=b',s:=l.s.abort l.a.r txn nbs x,hs:=aput l.hs q.hd 0 } }) boots->P (qn 0) W) :
  Calls Tryz.prog 75 #[.pointer (some ⟨H,0,none⟩),.pointer (some ⟨H,1+r*5,none⟩),.agg (zL q).toArray,.int .i64 txn] w fun e W'=>∃ a,e=.returned (.agg (zG a).toArray)/\a.er≠10/\zj bz w W'/\P a W':=by
 obtain ⟨w1,hw1⟩:∃ w1,w1=uO w q:=⟨_,rfl⟩
 have hB1:Below w.heap.size w w1:=by rw [hw1];exact jE w q
 have hX6:w1.heap[w.heap.size]?=some (.cells (zL q).toArray 37 (0,0)):=by rw [hw1];exact vP w q
 have hX8:w1.heap[w.heap.size+1]?=some (.cells #[.int .i64 0,.int .i64 0,.string { data:=#[] },.slice none 0 0,.slice none 0 0] 31 (0,0)):=by rw [hw1];exact vO w q
 have hw1u:(w.alloc (.cells (zL q).toArray 37)).alloc (.cells #[.int .i64 0,.int .i64 0,.string { data:=#[] },.slice none 0 0,.slice none 0 0] 31)=w1:=hw1.symm
 have hreq:(zL q)=[.int .i64 q.kd,.int .i64 q.tn,.int .i64 q.hd,.int .i64 rw.t,.string (za rw.k),.string (za rw.v),.string q.tt,.int .i64 q.n,.int .u64 q.mask,.slice q.dA q.dn q.dc]:=by unfold zL;rw [hrt,hrk,hrv]
 have HREQ:=hid hreq
 have HRT:=hid (Yq hok w1)
 obtain ⟨HB1,HX6,HX8⟩:=zi3 hB1 hX6 hX8
 have HROW:=hid (Gh hX6 hreq)
 obtain ⟨HW1,HP,HEND,H0⟩:=zi4 hw1u hP hend h
 clear hw1 hB1 hX6 hX8 hw1u hP hend h hreq
 have k6:=(cell_of_row w1 w.heap.size 6 _ _ _ HX6.out).trans (show _=some (Value.string q.tt) from rfl)
 have dtt:decide ((15:Int)<(q.tt.size:Int))=false:=by simp;omega
 unfold ui at HRT
 go_enter Tryz.func75,Tryz.ntmps75
 go_upto_region 1 with fail
 rw [HW1.out]
 go_upto_region 4 with (first
  | (show wpList _ _ _ (⟨some 11,_,_,_,_,_⟩::_) _ _;refine zZ rfl _ _ (qy 34 (.tmp 10) rfl w.heap.size 3 (by rfl) [.int .i64 rw.t,.string (za rw.k),.string (za rw.v)] _ HROW.out Tryz.underlying34 rfl (by kernel_rfl)) ?_)
  | (go_at_call 56;(with_reducible refine HRT.out.mono ?_);rintro e2 w2 ⟨rfl,hb2⟩;have k6':=qk k6 hb2 (uj k6)))
 obtain ⟨w3,hw3⟩:∃ w3,w3=w2.alloc (.cells #[.int .i64 0,.int .i64 0,.string { data:=#[] },.slice none 0 0,.slice none 0 0] 31):=⟨_,rfl⟩
 rw [<- hw3]
 have hb13:Below w1.heap.size w1 w3:=by rw [hw3];exact B_alloc hb2 _
 have hX9:w3.heap[w2.heap.size]?=some (.cells #[.int .i64 0,.int .i64 0,.string { data:=#[] },.slice none 0 0,.slice none 0 0] 31 (0,0)):=by rw [hw3];exact zk _ _ rfl
 have hX63:=zb HX6.out hb13 (zd HX6.out)
 have hX83:=zb HX8.out hb13 (zd HX8.out)
 have hb3:Below w.heap.size w w3:=B_call HB1.out hb13
 have hh3:=H0.out.below hb3
 have hlt9:w.heap.size+2<=w2.heap.size:=by
  have h1:=hb2.size
  have h2:w1.heap.size=w.heap.size+2:=by rw [<- HW1.out];simp
  omega
 obtain ⟨c0,c1,_,_,_⟩:=zO.tcell hh3 (Nat.le_refl _) hr hl
 have kk:=(cell_of_row w3 w.heap.size 0 _ _ _ hX63).trans (show _=some (Value.int .i64 q.kd) from rfl)
 rw [hkd] at kk
 obtain ⟨hT,hst⟩:=hh3.live r l hr hl
 have hTr:=hT.hr
 have hHn:¬ zS l.a l.b l.s H:=fun hx=>zO.notH hh3 hr hl (Qt hT hx) rfl
 have hHl:=zd hh3.blk
 obtain ⟨HHN,HHL,HH3,HT,HB3,HX9,HX63,HX83,HTR⟩:=zi9 hHn hHl hh3 hT hb3 hX9 hX63 hX83 hTr
 clear hw3 hb13 hb2 hX9 hX63 hX83 hb3 hh3 hT hst k6 k6' HRT hHn hHl hTr
 have HCM:=hid (zbd l.a l.b cur l.s txn T x w3 HT.out.sto ht1 ht3 htx hso hil dd hfit)
 go_upto_region 26 with (go_at_call 85;(with_reducible refine HCM.out.mono ?_);rintro e4 w4 ⟨rfl,nbs4,b4,cur4,hlog4,hA4,hE4⟩;have hkl:=zj.store (zO.stb HH3.out hr hl) HT.out.sto hE4;have hx9:=hkl _ _ _ (by decide) HX9.out;have f9:=frozen_of_row w4 w2.heap.size 0 _ _ hx9;have k9:=cell_of_row w4 w2.heap.size 0 _ _ _ hx9)
 have hx8:=hkl _ _ _ (by decide) HX83.out
 have hx6:=hkl _ _ _ (by decide) HX63.out
 have hh4:=HH3.out.store hr hl hA4 ⟨by have h9:=hE4.out;rw [HTR.out] at h9;exact h9,hE4.keep,hE4.new⟩
 obtain ⟨w5,hw5⟩:∃ w5,w5=w4.setCell ⟨w2.heap.size,0,none⟩ (.int .i64 0):=⟨_,rfl⟩
 rw [<- hw5]
 have hx95:w5.heap[w2.heap.size]?=some (.cells (zG (qn 0)).toArray 31 (0,0)):=by rw [hw5];exact QB hx9
 have hx85:w5.heap[w.heap.size+1]?=some (.cells #[.int .i64 0,.int .i64 0,.string { data:=#[] },.slice none 0 0,.slice none 0 0] 31 (0,0)):=by rw [hw5];exact (heap_setCell_other _ _ _ _ (by simp only;omega)).trans hx8
 have hx65:w5.heap[w.heap.size]?=some (.cells (zL q).toArray 37 (0,0)):=by rw [hw5];exact (heap_setCell_other _ _ _ _ (by simp only;omega)).trans hx6
 have hh5:=hh4.bar (qQ.setCell (o:=0) hx9 (.int .i64 0))
 rw [<- hw5] at hh5
 have hk5:zj bz w w5:=by rw [hw5];exact ((zj.below HB3.out).trans hkl).setCell (by omega) _
 have hl5:(yo ts b4.F r { ts r with live:=some { l with b:=b4,s:=l.s.abort l.a.r txn nbs4 x } } r).live=some { l with b:=b4,s:=l.s.abort l.a.r txn nbs4 x }:=by rw [qO]
 obtain ⟨_,d1,_,_,_⟩:=zO.tcell hh5.drew (Nat.le_refl _) hr hl5
 have hdk:=(hh5.drew.live r _ hr hl5).1.dk
 have hset:=Dk.set_hit l.kb l.km l.ep l.nx l.hs q.hd 0 hhd w5.drew hdk hhas
 have hS:w5.drew.cell? ⟨H,1+r*5+1,none⟩=some (.pointer (some ⟨l.kb,0,none⟩))/\w5.drew.heap[w.heap.size]?=some (.cells (zL q).toArray 37 (0,0)):=⟨d1,hx65⟩
 obtain ⟨HLG,HSET⟩:=zi2 hlog4 hset
 clear hlog4
 obtain ⟨HH5,HX95,HX85,HK5,HDK,HL5⟩:=zi6 hh5 hx95 hx85 hk5 hdk hl5
 clear hw5 hx95 hx85 hx65 hk5 hh4 hh5 hA4 hE4 hkl hx9 hx8 hx6 c0 c1 f9 k9 d1 hset hdk hl5
 refine wp_region_noPanic ?_
 refine PrintLast.start_ (n:=7) (S:=(fun w'=>w'.cell? ⟨H,1+r*5+1,none⟩=some (.pointer (some ⟨l.kb,0,none⟩))/\w'.heap[w.heap.size]?=some (.cells (zL q).toArray 37 (0,0)))) (ds:=[6]) (bA 7 0) (by kernel_rfl) rfl (by kernel_rfl) hS (fun hHeld=>?_)
 refine pu 0 148 7 1 rfl rfl ?_
 refine pu 1 149 7 3 rfl rfl ?_
 refine pu 2 150 7 7 rfl rfl ?_
 refine tk 3 151 7 15 rfl rfl (Or.inl ⟨by rfl,fun _ h=>(by have k0:=h.1;go_simp;with_reducible rfl)⟩) ?_
 refine pu 4 152 7 31 rfl rfl ?_
 refine tk 5 153 7 63 rfl rfl (Or.inl ⟨by rfl,fun _ h=>(by have k0:=(cell_of_row _ w.heap.size 2 _ _ _ h.2).trans (show _=some (Value.int .i64 q.hd) from rfl);go_simp;with_reducible rfl)⟩) ?_
 refine la 6 7 127 (some 154) rfl rfl (fun K hK=>?_)
 show Oper.wp _ ⟨some 154,_,_,_,_,_⟩ _ _ _ _
 refine zq 74 _ _ [.pointer (some ⟨l.kb,0,none⟩),.int .i64 q.hd,.int .i64 0] rfl (by kernel_rfl) (by rfl) (HSET.out.mono ?_)
 rintro e6 w6 ⟨rfl,hdk6,ht6⟩
 refine ⟨_,rfl,?_⟩
 refine hK.out _ _ ?_
 clear hK K
 try simp only [pS]
 refine PrintLast.done_ (by kernel_rfl) ?_
 refine NoPanic.normal ?_
 have ht6':zn (fun i=>i=l.kb∨i=l.km) w5.drew w6:=ht6.mono (fun i _ e=>.inr e)
 have hkl6:=zj.desk (zO.deskb HH3.out hr hl) HDK.out ht6'
 have hh6:=HH5.out.drew.desk hr HL5.out hdk6 ht6'
 have hx96:=hkl6 _ _ _ (by decide) (show w5.drew.heap[_]?=_ from HX95.out)
 have hx86:=hkl6 _ _ _ (by decide) (show w5.drew.heap[_]?=_ from HX85.out)
 rw [KT,qO] at hh6
 have hp6:=HEND.out nbs4 b4 cur4 w6 HLG.out hh6
 obtain ⟨HX95,HX85,HP5⟩:=zi3 hx96 hx86 hp6
 have HK5:=hid (HK5.out.trans (zj.of_drew hkl6))
 clear hx96 hx86 hp6 hh6 hkl6 ht6 ht6' hdk6 hS hHeld
 go_wp2_with (first
  | (show wpList _ _ _ (⟨some 155,_,_,_,_,_⟩::_) _ _;refine wpList_load_row rfl 31 (.tmp 9) rfl w2.heap.size (by rfl) 31 _ (0,0) _ HX95.out Tryz.underlying31 rfl (by kernel_rfl) ?_)
  | (show wpList _ _ _ (⟨none,.store 31 (.tmp 8) _,_,_,_,_⟩::_) _ _;refine zB rfl 31 (.tmp 8) (.tmp 155) rfl (w.heap.size+1) 0 31 _ (zG (qn 0)).toArray (by rfl) (by rfl) HX85.out (by simp [zG]) (by kernel_rfl) (by simp [zG,Value.oneCell']) ?_))
 refine ju (an:=(qn 0)) 8 rfl rfl rfl HX85.out rfl ⟨(qn 0),rfl,by decide,HK5.out.setRow (by omega) _,?_⟩
 exact HP.out _ _ _ HP5.out (qQ.setRow HX85.out _)
theorem zjc (H D r:Nat) (F:Nat->Prop) (cur:Nat->Nat->List UInt8) (ts:Nat->Tn) (boots:Nat) (l:Tl) (q:Rq) (rw:Rw) (txn T:Nat) (x:Tx) (w:World) (P:An->World->Prop) (h:zP bz w H D F cur ts boots) (hr:r<4) (hl:(ts r).live=some l)
  (hkd:q.kd=5) (hrt:q.rt=rw.t) (hrk:q.rk=za rw.k) (hrv:q.rv=za rw.v) (hok:rw.ok) (htt:q.tt.size<=15) (hP:∀ a W W',P a W->qQ W W'->P a W')
  (ht1:1<=txn) (ht3:txn<=3) (htx:l.s.ts[txn]?=some (some (T,x))) (hso:zJ l.s.its) (hil:l.s.its.length<=900)
  (hend:∀ b' W,zP bz W H D b'.F cur (yo ts b'.F r { ts r with live:=some { l with b:=b',s:=zfl l.s txn rw.t rw.k } }) boots->P ⟨(l.s.read txn rw.t rw.k).2,0,za (l.s.read txn rw.t rw.k).1,none,0,0,none,0,0⟩ W) :
  Calls Tryz.prog 75 #[.pointer (some ⟨H,0,none⟩),.pointer (some ⟨H,1+r*5,none⟩),.agg (zL q).toArray,.int .i64 txn] w fun e W'=>∃ a,e=.returned (.agg (zG a).toArray)/\a.er≠10/\zj bz w W'/\P a W':=by
 obtain ⟨w1,hw1⟩:∃ w1,w1=uO w q:=⟨_,rfl⟩
 have hB1:Below w.heap.size w w1:=by rw [hw1];exact jE w q
 have hX6:w1.heap[w.heap.size]?=some (.cells (zL q).toArray 37 (0,0)):=by rw [hw1];exact vP w q
 have hX8:w1.heap[w.heap.size+1]?=some (.cells #[.int .i64 0,.int .i64 0,.string { data:=#[] },.slice none 0 0,.slice none 0 0] 31 (0,0)):=by rw [hw1];exact vO w q
 have hw1u:(w.alloc (.cells (zL q).toArray 37)).alloc (.cells #[.int .i64 0,.int .i64 0,.string { data:=#[] },.slice none 0 0,.slice none 0 0] 31)=w1:=hw1.symm
 have hreq:(zL q)=[.int .i64 q.kd,.int .i64 q.tn,.int .i64 q.hd,.int .i64 rw.t,.string (za rw.k),.string (za rw.v),.string q.tt,.int .i64 q.n,.int .u64 q.mask,.slice q.dA q.dn q.dc]:=by unfold zL;rw [hrt,hrk,hrv]
 have HREQ:=hid hreq
 have HRT:=hid (Yq hok w1)
 obtain ⟨HB1,HX6,HX8⟩:=zi3 hB1 hX6 hX8
 have HROW:=hid (Gh hX6 hreq)
 obtain ⟨HW1,HP,HEND,H0⟩:=zi4 hw1u hP hend h
 clear hw1 hB1 hX6 hX8 hw1u hP hend h hreq
 have k6:=(cell_of_row w1 w.heap.size 6 _ _ _ HX6.out).trans (show _=some (Value.string q.tt) from rfl)
 have dtt:decide ((15:Int)<(q.tt.size:Int))=false:=by simp;omega
 unfold ui at HRT
 go_enter Tryz.func75,Tryz.ntmps75
 go_upto_region 1 with fail
 rw [HW1.out]
 go_upto_region 4 with (first
  | (show wpList _ _ _ (⟨some 11,_,_,_,_,_⟩::_) _ _;refine zZ rfl _ _ (qy 34 (.tmp 10) rfl w.heap.size 3 (by rfl) [.int .i64 rw.t,.string (za rw.k),.string (za rw.v)] _ HROW.out Tryz.underlying34 rfl (by kernel_rfl)) ?_)
  | (go_at_call 56;(with_reducible refine HRT.out.mono ?_);rintro e2 w2 ⟨rfl,hb2⟩;have k6':=qk k6 hb2 (uj k6)))
 obtain ⟨w3,hw3⟩:∃ w3,w3=w2.alloc (.cells #[.int .i64 0,.int .i64 0,.string { data:=#[] },.slice none 0 0,.slice none 0 0] 31):=⟨_,rfl⟩
 rw [<- hw3]
 have hb13:Below w1.heap.size w1 w3:=by rw [hw3];exact B_alloc hb2 _
 have hX9:w3.heap[w2.heap.size]?=some (.cells #[.int .i64 0,.int .i64 0,.string { data:=#[] },.slice none 0 0,.slice none 0 0] 31 (0,0)):=by rw [hw3];exact zk _ _ rfl
 have hX63:=zb HX6.out hb13 (zd HX6.out)
 have hX83:=zb HX8.out hb13 (zd HX8.out)
 have hb3:Below w.heap.size w w3:=B_call HB1.out hb13
 have hh3:=H0.out.below hb3
 have hlt9:w.heap.size+2<=w2.heap.size:=by
  have h1:=hb2.size
  have h2:w1.heap.size=w.heap.size+2:=by rw [<- HW1.out];simp
  omega
 obtain ⟨c0,c1,_,_,_⟩:=zO.tcell hh3 (Nat.le_refl _) hr hl
 have kk:=(cell_of_row w3 w.heap.size 0 _ _ _ hX63).trans (show _=some (Value.int .i64 q.kd) from rfl)
 rw [hkd] at kk
 obtain ⟨hT,hst⟩:=hh3.live r l hr hl
 have hTr:=hT.hr
 have hHn:¬ zS l.a l.b l.s H:=fun hx=>zO.notH hh3 hr hl (Qt hT hx) rfl
 have hHl:=zd hh3.blk
 obtain ⟨HHN,HHL,HH3,HT,HB3,HX9,HX63,HX83,HTR⟩:=zi9 hHn hHl hh3 hT hb3 hX9 hX63 hX83 hTr
 clear hw3 hb13 hb2 hX9 hX63 hX83 hb3 hh3 hT hst k6 k6' HRT hHn hHl hTr
 have HRD:=hid (zgU l.a l.b cur l.s txn rw.t rw.k w3.drew HT.out.sto.drew (by omega) (by have:=hok.1;omega) (by have:=hok.2.1;omega) hso hil)
 obtain ⟨rv,hrv'⟩:∃ rv,rv=l.s.read txn rw.t rw.k:=⟨_,rfl⟩
 rw [<- hrv'] at HRD HEND
 have HRV:=hid hrv'
 clear hrv'
 go_upto_region 6 with fail
 have hS:w3.drew.cell? ⟨H,1+r*5,none⟩=some (.pointer (some ⟨l.a.S,0,none⟩))/\w3.drew.heap[w.heap.size]?=some (.cells (zL q).toArray 37 (0,0)):=⟨c0,HX63.out⟩
 refine wp_region_noPanic ?_
 refine PrintLast.start_ (n:=19) (S:=(fun w'=>w'.cell? ⟨H,1+r*5,none⟩=some (.pointer (some ⟨l.a.S,0,none⟩))/\w'.heap[w.heap.size]?=some (.cells (zL q).toArray 37 (0,0)))) (ds:=[16,18]) (bA 19 0) (by kernel_rfl) rfl (by kernel_rfl) hS (fun hHeld=>?_)
 refine pu 0 27 19 1 rfl rfl ?_
 refine pu 1 28 19 3 rfl rfl ?_
 refine pu 2 29 19 7 rfl rfl ?_
 refine tk 3 30 19 15 rfl rfl (Or.inl ⟨by rfl,fun _ h=>(by have k0:=h.1;go_simp;with_reducible rfl)⟩) ?_
 refine pu 4 31 19 31 rfl rfl ?_
 refine pu 5 32 19 63 rfl rfl ?_
 refine pu 6 33 19 127 rfl rfl ?_
 refine tk 7 34 19 255 rfl rfl (Or.inl ⟨by rfl,fun _ h=>(by have k0:=(cell_of_row _ w.heap.size 3 _ _ _ h.2).trans (show _=some (Value.int .i64 rw.t) by rw [HREQ.out];rfl);go_simp;with_reducible rfl)⟩) ?_
 refine pu 8 35 19 511 rfl rfl ?_
 refine pu 9 36 19 1023 rfl rfl ?_
 refine tk 10 37 19 2047 rfl rfl (Or.inl ⟨by rfl,fun _ h=>(by have k0:=(cell_of_row _ w.heap.size 4 _ _ _ h.2).trans (show _=some (Value.string (za rw.k)) by rw [HREQ.out];rfl);go_simp;with_reducible rfl)⟩) ?_
 refine on 11 19 4095 (some 38) rfl rfl (fun K hK=>?_)
 show Oper.wp _ ⟨some 38,_,_,_,_,_⟩ _ _ _ _
 refine zq 112 _ _ [.pointer (some ⟨l.a.S,0,none⟩),.int .i64 txn,.int .i64 rw.t,.string (za rw.k)] rfl (by kernel_rfl) (by rfl) (HRD.out.mono ?_)
 rintro e4 w4 ⟨rfl,b4,hA4,hE4⟩
 refine ⟨_,rfl,?_⟩
 have hkl:=zj.store (zO.stb HH3.out hr hl) HT.out.sto.drew hE4
 refine hK.out _ _ ⟨(World.cell?_of_block (hE4.keep.block H HHL.out HHN.out)).trans hHeld.1,hkl _ _ _ (by decide) hHeld.2⟩ (fun hHeld=>?_)
 clear hK K
 try simp only [pS]
 refine pu 12 26 19 8191 rfl rfl ?_
 refine pu 13 39 19 16383 rfl rfl ?_
 refine pu 14 40 19 32767 rfl rfl ?_
 refine pu 15 41 19 65535 rfl rfl ?_
 refine la 16 19 131071 none rfl rfl (fun K hK=>?_)
 show Oper.wp _ ⟨none,_,_,_,_,_⟩ _ _ _ _
 have hx9:=hkl _ _ _ (by decide) (show w3.drew.heap[_]?=_ from HX9.out)
 refine jp 9 (.tmp 41) (.tmp 39) rfl w2.heap.size 2 _ 31 (.string (za rv.1)) (by rfl) (by rfl) (by kernel_rfl) hx9 (by simp) rfl ?_
 refine hK.out _ _ ?_
 clear hK K
 try simp only [pS]
 refine pu 17 42 19 262143 rfl rfl ?_
 refine la 18 19 524287 none rfl rfl (fun K hK=>?_)
 show Oper.wp _ ⟨none,_,_,_,_,_⟩ _ _ _ _
 have hx9':=heap_setCell_same w4 w2.heap.size 2 _ _ (.string (za rv.1)) hx9
 refine jp 28 (.tmp 42) (.tmp 40) rfl w2.heap.size 0 _ 31 (.int .i64 rv.2) (by rfl) (by rfl) (by kernel_rfl) hx9' (by simp) rfl ?_
 refine hK.out _ _ ?_
 clear hK K
 try simp only [pS]
 refine PrintLast.done_ (by kernel_rfl) ?_
 refine NoPanic.normal ?_
 have hx8:=hkl _ _ _ (by decide) (show w3.drew.heap[_]?=_ from HX83.out)
 have hh4:=HH3.out.store hr hl hA4 (by rw [HTR.out] at hE4;exact ⟨hE4.out,⟨hE4.keep.os,hE4.keep.tape,hE4.keep.output,hE4.keep.size,hE4.keep.block⟩,hE4.new⟩)
 obtain ⟨w5,hw5⟩:∃ w5,w5=(w4.setCell ⟨w2.heap.size,2,none⟩ (.string (za rv.1))).setCell ⟨w2.heap.size,0,none⟩ (.int .i64 rv.2):=⟨_,rfl⟩
 rw [<- hw5]
 have hx95:w5.heap[w2.heap.size]?=some (.cells (zG ⟨rv.2,0,za rv.1,none,0,0,none,0,0⟩).toArray 31 (0,0)):=by rw [hw5,heap_setCell_same _ _ 0 _ _ _ hx9'];rfl
 have hx85:w5.heap[w.heap.size+1]?=some (.cells #[.int .i64 0,.int .i64 0,.string { data:=#[] },.slice none 0 0,.slice none 0 0] 31 (0,0)):=by rw [hw5];exact ((heap_setCell_other _ _ _ _ (by simp only;omega)).trans (heap_setCell_other _ _ _ _ (by simp only;omega))).trans hx8
 have hk5:zj bz w w5:=by rw [hw5];exact (((zj.below HB3.out).trans (zj.of_drew hkl)).setCell (by omega) _).setCell (by omega) _
 have hh5:=(hh4.bar (qQ.setCell (o:=2) hx9 (.string (za rv.1)))).bar (qQ.setCell (o:=0) hx9' (.int .i64 rv.2))
 rw [<- hw5] at hh5
 have hp5:=HEND.out b4 w5 hh5
 obtain ⟨HX95,HX85,HK5,HP5⟩:=zi4 hx95 hx85 hk5 hp5
 clear hw5 hx95 hx85 hk5 hh4 hh5 hA4 hE4 hkl hx9 hx9' hx8 c0 c1 hp5 hS hHeld
 go_wp2_with (first
  | (show wpList _ _ _ (⟨some 155,_,_,_,_,_⟩::_) _ _;refine wpList_load_row rfl 31 (.tmp 9) rfl w2.heap.size (by rfl) 31 _ (0,0) _ HX95.out Tryz.underlying31 rfl (by kernel_rfl) ?_)
  | (show wpList _ _ _ (⟨none,.store 31 (.tmp 8) _,_,_,_,_⟩::_) _ _;refine zB rfl 31 (.tmp 8) (.tmp 155) rfl (w.heap.size+1) 0 31 _ (zG ⟨rv.2,0,za rv.1,none,0,0,none,0,0⟩).toArray (by rfl) (by rfl) HX85.out (by simp [zG]) (by kernel_rfl) (by simp [zG,Value.oneCell']) ?_))
 refine ju (an:=⟨rv.2,0,za rv.1,none,0,0,none,0,0⟩) 8 rfl rfl rfl HX85.out rfl ⟨⟨rv.2,0,za rv.1,none,0,0,none,0,0⟩,rfl,by rw [HRV.out];exact zjW _ _ _ _,HK5.out.setRow (by omega) _,?_⟩
 exact HP.out _ _ _ HP5.out (qQ.setRow HX85.out _)
end
section
variable {bz:Nat->Prop}
theorem zhh (H D r:Nat) (F:Nat->Prop) (cur:Nat->Nat->List UInt8) (ts:Nat->Tn) (boots:Nat) (l:Tl) (q:Rq) (w:World) (P:An->World->Prop) (h:zP bz w H D F cur ts boots) (hr:r<4) (hl:(ts r).live=some l)
  (hkd:q.kd=3) (hhd:iok q.hd) (hhas:qb l.hs q.hd=true) (h0:(zF l.hs q.hd).getD 0=0) (hP:∀ a W W',P a W->qQ W W'->P a W')
  (hdone:∀ W,zP bz W H D F cur (yo ts F r { ts r with live:=some { l with nx:=l.nx,hs:=adel l.hs q.hd } }) boots->P (qn 0) W) :
  Calls Tryz.prog 39 #[.pointer (some ⟨H,0,none⟩),.pointer (some ⟨H,1+r*5,none⟩),.agg (zL q).toArray] w fun e W'=>∃ a,e=.returned (.agg (zG a).toArray)/\a.er≠10/\zj bz w W'/\P a W':=by
 obtain ⟨w1,hw1⟩:∃ w1,w1=uO w q:=⟨_,rfl⟩
 have hB1:Below w.heap.size w w1:=by rw [hw1];exact jE w q
 have hX5:w1.heap[w.heap.size]?=some (.cells (zL q).toArray 37 (0,0)):=by rw [hw1];exact vP w q
 have hX6:w1.heap[w.heap.size+1]?=some (.cells #[.int .i64 0,.int .i64 0,.string { data:=#[] },.slice none 0 0,.slice none 0 0] 31 (0,0)):=by rw [hw1];exact vO w q
 have k0:=(cell_of_row w1 w.heap.size 0 _ _ _ hX5).trans (show _=some (Value.int .i64 q.kd) from rfl)
 rw [hkd] at k0
 have hh1:=h.below hB1
 obtain ⟨c0,c1,_,_,_⟩:=zO.tcell hh1 (by omega) hr hl
 obtain ⟨hT,hst⟩:=hh1.live r l hr hl
 have hdk:Dk.DeskAt w1.drew l.kb l.km l.ep l.nx l.hs:=hT.dk.below (Below.refl _ _).drew (DeskAt.tags hT.dk).2.2.1 (DeskAt.tags hT.dk).2.2.2
 have htxn:=Dk.txn_any l.kb l.km l.ep l.nx l.hs q.hd hhd w1.drew hdk
 rw [h0] at htxn
 have hdk2:Dk.DeskAt w1.drew.drew l.kb l.km l.ep l.nx l.hs:=hdk.below (Below.refl _ _).drew (DeskAt.tags hdk).2.2.1 (DeskAt.tags hdk).2.2.2
 have hsh:=Dk.shut_free l.kb l.km l.ep l.nx l.hs q.hd hhd w1.drew.drew hdk2 hhas h0
 have hw1u:(w.alloc (.cells (zL q).toArray 37)).alloc (.cells #[.int .i64 0,.int .i64 0,.string { data:=#[] },.slice none 0 0,.slice none 0 0] 31)=w1:=hw1.symm
 have hS:w1.drew.cell? ⟨H,1+r*5+1,none⟩=some (.pointer (some ⟨l.kb,0,none⟩))/\w1.drew.heap[w.heap.size]?=some (.cells (zL q).toArray 37 (0,0)):=⟨c1,hX5⟩
 obtain ⟨HTX,HSH,HB1,HX5,HX6,HP,HDO,HW1,HH1⟩:=zi9 htxn hsh hB1 hX5 hX6 hP hdone hw1u hh1
 obtain ⟨HDK,HC1⟩:=zi2 hdk2 c1
 clear hw1 hw1u hB1 hX5 hX6 hP hdone htxn hsh hh1 hdk hdk2 h hT hst c1 h0
 go_enter Tryz.func39,Tryz.ntmps39
 go_upto_region 1 with fail
 rw [HW1.out]
 refine wp_region_noPanic ?_
 refine PrintLast.start_ (n:=8) (S:=(fun w'=>w'.cell? ⟨H,1+r*5+1,none⟩=some (.pointer (some ⟨l.kb,0,none⟩))/\w'.heap[w.heap.size]?=some (.cells (zL q).toArray 37 (0,0)))) (ds:=[6]) (bA 8 0) (by kernel_rfl) rfl (by kernel_rfl) hS (fun hHeld=>?_)
 refine pu 0 9 8 1 rfl rfl ?_
 refine pu 1 10 8 3 rfl rfl ?_
 refine pu 2 11 8 7 rfl rfl ?_
 refine tk 3 12 8 15 rfl rfl (Or.inl ⟨by rfl,fun _ h=>(by have k0:=h.1;go_simp;with_reducible rfl)⟩) ?_
 refine pu 4 13 8 31 rfl rfl ?_
 refine tk 5 14 8 63 rfl rfl (Or.inl ⟨by rfl,fun _ h=>(by have k0:=(cell_of_row _ w.heap.size 2 _ _ _ h.2).trans (show _=some (Value.int .i64 q.hd) from rfl);go_simp;with_reducible rfl)⟩) ?_
 refine la 6 8 127 (some 15) rfl rfl (fun K hK=>?_)
 show Oper.wp _ ⟨some 15,_,_,_,_,_⟩ _ _ _ _
 refine zq 71 _ _ [.pointer (some ⟨l.kb,0,none⟩),.int .i64 q.hd] rfl (by kernel_rfl) (by rfl) (HTX.out.mono ?_)
 rintro e2 w2 ⟨rfl,hw2⟩
 subst hw2
 refine ⟨_,rfl,?_⟩
 refine hK.out _ _ ?_
 clear hK K
 try simp only [pS]
 refine pu 7 7 8 255 rfl rfl ?_
 refine PrintLast.done_ (by kernel_rfl) ?_
 refine NoPanic.normal ?_
 clear hHeld hS
 go_upto_region 4 with fail
 have hS:w1.drew.drew.cell? ⟨H,1+r*5+1,none⟩=some (.pointer (some ⟨l.kb,0,none⟩))/\w1.drew.drew.heap[w.heap.size]?=some (.cells (zL q).toArray 37 (0,0)):=⟨HC1.out,HX5.out⟩
 refine wp_region_noPanic ?_
 refine PrintLast.start_ (n:=8) (S:=(fun w'=>w'.cell? ⟨H,1+r*5+1,none⟩=some (.pointer (some ⟨l.kb,0,none⟩))/\w'.heap[w.heap.size]?=some (.cells (zL q).toArray 37 (0,0)))) (ds:=[6]) (bA 8 0) (by kernel_rfl) rfl (by kernel_rfl) hS (fun hHeld=>?_)
 refine pu 0 20 8 1 rfl rfl ?_
 refine pu 1 21 8 3 rfl rfl ?_
 refine pu 2 22 8 7 rfl rfl ?_
 refine tk 3 23 8 15 rfl rfl (Or.inl ⟨by rfl,fun _ h=>(by have k0:=h.1;go_simp;with_reducible rfl)⟩) ?_
 refine pu 4 24 8 31 rfl rfl ?_
 refine tk 5 25 8 63 rfl rfl (Or.inl ⟨by rfl,fun _ h=>(by have k0:=(cell_of_row _ w.heap.size 2 _ _ _ h.2).trans (show _=some (Value.int .i64 q.hd) from rfl);go_simp;with_reducible rfl)⟩) ?_
 refine la 6 8 127 (some 26) rfl rfl (fun K hK=>?_)
 show Oper.wp _ ⟨some 26,_,_,_,_,_⟩ _ _ _ _
 refine zq 72 _ _ [.pointer (some ⟨l.kb,0,none⟩),.int .i64 q.hd] rfl (by kernel_rfl) (by rfl) (HSH.out.mono ?_)
 rintro e3 w3 ⟨rfl,hdk3,ht3⟩
 refine ⟨_,rfl,?_⟩
 refine hK.out _ _ ?_
 clear hK K
 try simp only [pS]
 refine pu 7 27 8 255 rfl rfl ?_
 refine PrintLast.done_ (by kernel_rfl) ?_
 refine NoPanic.normal ?_
 have ht3':zn (fun i=>i=l.kb∨i=l.km) w1.drew.drew w3:=ht3.mono (fun i _ e=>.inr e)
 have hkl:zj bz w1 w3:=zj.of_drew (zj.of_drew (zj.desk (zO.deskb HH1.out hr hl) HDK.out ht3'))
 have hx6:=hkl _ _ _ (by decide) HX6.out
 have hh3:=HH1.out.drew.drew.desk hr hl hdk3 ht3'
 have hp3:=HDO.out w3 hh3
 obtain ⟨HX63,HP3⟩:=zi2 hx6 hp3
 have HK3:=hid ((zj.below HB1.out).trans hkl)
 clear hkl hx6 hh3 hp3 hdk3 ht3 ht3' hHeld hS
 go_wp2_with (show wpList _ _ _ (⟨none,.store 31 (.tmp 6) _,_,_,_,_⟩::_) _ _;refine zB rfl 31 (.tmp 6) (.tmp 29) rfl (w.heap.size+1) 0 31 _ (zG (qn 0)).toArray (by rfl) (by rfl) HX63.out (by simp [zG]) (by kernel_rfl) (by simp [zG,Value.oneCell']) ?_)
 refine ju (an:=qn 0) 6 rfl rfl rfl HX63.out rfl ⟨qn 0,rfl,by decide,HK3.out.setRow (by omega) _,?_⟩
 exact HP.out _ _ _ HP3.out (qQ.setRow HX63.out _)
end
section
variable {bz:Nat->Prop}
theorem zhU {H D r boots ct G:Nat} {ep nx hd:Int} {hs:List (Int × Int)} {p:Ph} {its:List It} {w:World} {A:Nat->jG} (h:HS bz w H D boots A) (hr:r<4) (ha:A r=.live ct ep nx hs p G) (hp':p=.began its∨∃ rw its',p=.did its rw its') (hhd:iok hd) (hhas:qb hs hd=true) (hz:(zF hs hd).getD 0=1) :
  Calls Tryz.prog 9 #[.pointer (some ⟨H,0,none⟩),.agg (zL (qN 12 r hd)).toArray] w fun e W=>e=.returned (.agg (zG (qn 0)).toArray)/\zj bz w W/\HS bz W H D boots (zE A r (.live ct ep nx (aput hs hd 0) (.idle its) G)):=by
 obtain ⟨F,cur,ts,hh,hA⟩:=h
 have hAr:=hA r hr
 rw [ha] at hAr
 obtain ⟨hst,hct,l,hl,rfl,rfl,rfl,hp⟩:=hAr
 obtain ⟨hT,_⟩:=hh.live r l hr hl
 have hpo:=Gg hT.sto.sto
 have htx:∃ T x,l.s.ts=one T x/\zJ l.s.its/\l.s.its.length<=800/\(l.s.sto.log.length+(if x.list=[] then 0 else (x.list.length+1)*395)+790<=14336)/\∀ nbs,(l.s.abort l.a.r 1 nbs x).sto.log.length+790<=14336->JJ { l with s:=l.s.abort l.a.r 1 nbs x } (.idle its) G:=by
  rcases hp' with rfl | ⟨rw,its',rfl⟩
  ·obtain ⟨⟨rs,m,C,T,hb,hts⟩,hits,hg0,hg,hlog⟩:=hp
   refine ⟨T,Zo,hts,hb.its.so,by have:=hb.its.le30;omega,by rw [if_pos (show Zo.list=[] from rfl)];omega,fun nbs hl2=>?_⟩
   obtain ⟨h1,h2,h3,h4⟩:=hb.abort0 (r:=l.a.r) (nbs:=nbs) hts rfl
   exact ⟨⟨rs,m,C,h1⟩,h2,h3.trans hits,by simp only;rw [h4];exact hg0,by simp only;rw [h4];exact hg,hl2⟩
  ·obtain ⟨⟨T,rs,m,n,i,b,x,C,haf⟩,hits,hg0,hg,hlog⟩:=hp
   refine ⟨T,_,haf.ts,haf.its.so,by have:=haf.its.le30;omega,by rw [if_neg (by simp)];simp only [List.length_cons,List.length_nil];omega,fun nbs hl2=>?_⟩
   obtain ⟨⟨rs',h1⟩,h2,h3,h4⟩:=haf.abort (r:=l.a.r) (nbs:=nbs) hpo
   exact ⟨⟨rs',m,C,h1⟩,h2,h3,by simp only;rw [h4];exact hg0,by simp only;rw [h4];exact hg,hl2⟩
 obtain ⟨T,x,hts,hso,hil,hfit,hph⟩:=htx
 refine Calls.mono (HS.do (P:=fun a W=>a=qn 0/\HS bz W H D boots (zE A r (.live ct l.ep l.nx (aput l.hs hd 0) (.idle its) G))) hh hr (by simp [qN]) (by simp [qN]) rfl (fun a W W' h k=>⟨h.1,h.2.bar k⟩) fun W hb0 hW=>?_) ?_
 ·refine uJ H D r F cur ts boots l (qN 12 r hd) W _ hW hr hl (by simp [qN]) (by simp [qN]) hhd (fun a W W' h k=>⟨h.1,h.2.bar k⟩) (fun hn=>by rw [show (qN 12 r hd).hd=hd from rfl,hhas] at hn;cases hn) fun _ W' hW'=>?_
  refine JH H D r F cur ts boots l (qN 12 r hd) W' _ (hW.below hW') hr hl (by simp [qN]) (by simp [qN]) hhd (fun a W W' h k=>⟨h.1,h.2.bar k⟩) (fun hn=>by rw [show (qN 12 r hd).hd=hd from rfl,hz] at hn;cases hn) fun _ W2 hW2=>?_
  rw [show (qN 12 r hd).hd=hd from rfl,hz]
  refine zfO H D r F cur ts boots l (qN 12 r hd) zkV 1 T x W2 _ ((hW.below hW').below hW2) hr hl rfl rfl rfl rfl zhd (by show (0:Nat)<=15;omega) (fun a W W' h k=>⟨h.1,h.2.bar k⟩) (Nat.le_refl _) (by omega) (by rw [hts];rfl) hso hil 790 hfit hhd hhas fun nbs b' cur' W3 hl3 hh3=>⟨rfl,HS.set hh3 hA ⟨hst,hct,_,rfl,rfl,rfl,rfl,hph nbs hl3⟩⟩
 ·rintro e W ⟨a,rfl,hk,rfl,hs⟩
  exact ⟨rfl,hk,hs⟩
def zlt (v:List UInt8):An:=⟨0,0,za v,none,0,0,none,0,0⟩
theorem zks {H D r boots ct G:Nat} {ep nx hd:Int} {hs:List (Int × Int)} {its:List It} {x:It} {rw:Rw} {w:World} {A:Nat->jG} (h:HS bz w H D boots A) (hr:r<4) (ha:A r=.live ct ep nx hs (.began its) G) (hhd:iok hd) (hhas:qb hs hd=true) (hz:(zF hs hd).getD 0=1) (hok:rw.ok) (hx:x∈its) (hs':jh x.rw rw) :
  Calls Tryz.prog 9 #[.pointer (some ⟨H,0,none⟩),.agg (zL (vV 5 r hd rw)).toArray] w fun e W=>e=.returned (.agg (zG (zlt x.rw.v)).toArray)/\zj bz w W/\HS bz W H D boots (zE A r (.live ct ep nx hs (.began its) G)):=by
 obtain ⟨F,cur,ts,hh,hA⟩:=h
 have hAr:=hA r hr
 rw [ha] at hAr
 obtain ⟨hst,hct,l,hl,rfl,rfl,rfl,hp⟩:=hAr
 obtain ⟨⟨rs,m,C,T,hb,hts⟩,rfl,hg0,hg,hlog⟩:=hp
 have hrd:l.s.read 1 rw.t rw.k=(x.rw.v,0):=by
  unfold St.read
  have ht:Go.Proofs.YtechnoogjhohfaaGreat.takeB l.s.lk ((1:Nat):Int) (((rw.t:Nat):Int),za rw.k,false) 1=true:=hb.lk.takeB _ _
  rw [if_neg (by rw [ht];simp),zeU hb.its.so hx (r:=⟨rw.t,rw.k,[]⟩) hs']
  rfl
 refine Calls.mono (HS.do (P:=fun a W=>a=zlt x.rw.v/\HS bz W H D boots (zE A r (.live ct l.ep l.nx l.hs (.began l.s.its) G))) hh hr (by simp [vV]) (by simp [vV]) rfl (fun a W W' h k=>⟨h.1,h.2.bar k⟩) fun W hb0 hW=>?_) ?_
 ·refine uJ H D r F cur ts boots l (vV 5 r hd rw) W _ hW hr hl (by simp [vV]) (by simp [vV]) hhd (fun a W W' h k=>⟨h.1,h.2.bar k⟩) (fun hn=>by rw [show (vV 5 r hd rw).hd=hd from rfl,hhas] at hn;cases hn) fun _ W' hW'=>?_
  refine JH H D r F cur ts boots l (vV 5 r hd rw) W' _ (hW.below hW') hr hl (by simp [vV]) (by simp [vV]) hhd (fun a W W' h k=>⟨h.1,h.2.bar k⟩) (fun hn=>by rw [show (vV 5 r hd rw).hd=hd from rfl,hz] at hn;cases hn) fun _ W2 hW2=>?_
  rw [show (vV 5 r hd rw).hd=hd from rfl,hz]
  refine zjc H D r F cur ts boots l (vV 5 r hd rw) rw 1 T Zo W2 _ ((hW.below hW').below hW2) hr hl rfl rfl rfl rfl hok (by show (0:Nat)<=15;omega) (fun a W W' h k=>⟨h.1,h.2.bar k⟩) (Nat.le_refl _) (by omega) (by rw [hts];rfl) hb.its.so (by have:=hb.its.le30;omega) fun b' W3 hh3=>?_
  rw [hrd]
  obtain ⟨m',hb'⟩:=hb.sto (s':=zfl l.s 1 rw.t rw.k) (vG.refl hb.pool) rfl (hb.lk.takeS _ (by decide))
  exact ⟨rfl,HS.set hh3 hA ⟨hst,hct,_,rfl,rfl,rfl,rfl,⟨rs,m',C,T,hb',hts⟩,rfl,hg0,hg,hlog⟩⟩
 ·rintro e W ⟨a,rfl,hk,rfl,hs⟩
  exact ⟨rfl,hk,hs⟩
theorem zjC {H D r boots ct G:Nat} {ep nx hd:Int} {hs:List (Int × Int)} {p:Ph} {w:World} {A:Nat->jG} (h:HS bz w H D boots A) (hr:r<4) (ha:A r=.live ct ep nx hs p G) (hhd:iok hd) (hhas:qb hs hd=true) (hz:(zF hs hd).getD 0=0) :
  Calls Tryz.prog 9 #[.pointer (some ⟨H,0,none⟩),.agg (zL (qN 3 r hd)).toArray] w fun e W=>e=.returned (.agg (zG (qn 0)).toArray)/\zj bz w W/\HS bz W H D boots (zE A r (.live ct ep nx (adel hs hd) p G)):=by
 obtain ⟨F,cur,ts,hh,hA⟩:=h
 have hAr:=hA r hr
 rw [ha] at hAr
 obtain ⟨hst,hct,l,hl,rfl,rfl,rfl,hp⟩:=hAr
 refine Calls.mono (HS.do (P:=fun a W=>a=qn 0/\HS bz W H D boots (zE A r (.live ct l.ep l.nx (adel l.hs hd) p G))) hh hr (by simp [qN]) (by simp [qN]) rfl (fun a W W' h k=>⟨h.1,h.2.bar k⟩) fun W hb0 hW=>?_) ?_
 ·refine uJ H D r F cur ts boots l (qN 3 r hd) W _ hW hr hl (by simp [qN]) (by simp [qN]) hhd (fun a W W' h k=>⟨h.1,h.2.bar k⟩) (fun hn=>by rw [show (qN 3 r hd).hd=hd from rfl,hhas] at hn;cases hn) fun _ W' hW'=>?_
  refine zhh H D r F cur ts boots l (qN 3 r hd) W' _ (hW.below hW') hr hl rfl hhd hhas hz (fun a W W' h k=>⟨h.1,h.2.bar k⟩) fun W2 hh2=>⟨rfl,HS.set hh2 hA ⟨hst,hct,_,rfl,rfl,rfl,rfl,?_⟩⟩
  cases p<;>exact hp
 ·rintro e W ⟨a,rfl,hk,rfl,hs⟩
  exact ⟨rfl,hk,hs⟩
section
variable {H D r boots ct G:Nat} {ep nx hd tn:Int} {its:List It} {w:World} {A:Nat->jG}
theorem zeK {p:Ph} (h:HS bz w H D boots A) (hr:r<4) (htn:tn=r) (ha:A r=.live ct ep nx [(hd,1)] p G) (hp:p=.began its∨∃ rw its',p=.did its rw its') (hhd:iok hd) :
  Calls Tryz.prog 9 #[.pointer (some ⟨H,0,none⟩),.agg (JD 12 tn hd 0 { data:=#[] } { data:=#[] } 0)] w fun e W=>∃ A',e=.returned (.agg (ve 0 0))/\zj bz w W/\HS1 bz W H D boots A r (.live ct ep nx [(hd,0)] (.idle its) G) A':=by
 subst htn
 refine (zhU h hr ha hp hhd (ZK hd 1) (ZJ hd 1)).mono ?_
 rintro e W ⟨rfl,hk,hs⟩
 rw [GF] at hs
 exact ⟨_,rfl,hk,.of hs⟩
theorem zlq {rt:Int} {rk rv:ByteArray} {rw:Rw} {x:It} (h:HS bz w H D boots A) (hr:r<4) (htn:tn=r) (ha:A r=.live ct ep nx [(hd,1)] (.began its) G) (hhd:iok hd) (hok:rw.ok) (hx:x∈its) (hs':jh x.rw rw) (e1:rt=rw.t) (e2:rk=za rw.k) (e3:rv=za rw.v) :
  Calls Tryz.prog 9 #[.pointer (some ⟨H,0,none⟩),.agg (JD 5 tn hd rt rk rv 0)] w fun e W=>∃ A',e=.returned (.agg #[.int .i64 0,.int .i64 0,.string (za x.rw.v),.slice none 0 0,.slice none 0 0])/\zj bz w W/\HS1 bz W H D boots A r (.live ct ep nx [(hd,1)] (.began its) G) A':=by
 subst htn e1 e2 e3
 refine (zks h hr ha hhd (ZK hd 1) (ZJ hd 1) hok hx hs').mono ?_
 rintro e W ⟨rfl,hk,hs⟩
 exact ⟨_,rfl,hk,.of hs⟩
theorem zhH {p:Ph} (h:HS bz w H D boots A) (hr:r<4) (htn:tn=r) (ha:A r=.live ct ep nx [(hd,0)] p G) (hhd:iok hd) :
  Calls Tryz.prog 9 #[.pointer (some ⟨H,0,none⟩),.agg (JD 3 tn hd 0 { data:=#[] } { data:=#[] } 0)] w fun e W=>∃ A',e=.returned (.agg (ve 0 0))/\zj bz w W/\HS1 bz W H D boots A r (.live ct ep nx [] p G) A':=by
 subst htn
 refine (zjC h hr ha hhd (ZK hd 0) (ZJ hd 0)).mono ?_
 rintro e W ⟨rfl,hk,hs⟩
 rw [show adel [(hd,(0:Int))] hd=[] by simp [adel]] at hs
 exact ⟨_,rfl,hk,.of hs⟩
end
end
end Go.Proofs.YtechnoogjhohfaaGreat
