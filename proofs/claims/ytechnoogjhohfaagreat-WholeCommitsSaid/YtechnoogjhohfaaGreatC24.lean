/-
  Joined by a program from texts written one by one: part 24 of the walk through the program and of the law behind it.
-/
import Derived.Test.YtechnoogjhohfaaGreatC23
import Derived.LoopN
set_option maxRecDepth 100000
set_option maxHeartbeats 6400000
set_option linter.unusedVariables false
set_option linter.unusedSimpArgs false
namespace Go.Proofs.YtechnoogjhohfaaGreat
open Go.RowKit Go.Lib
open YtechnoogjhohfaaGreatW
section
variable {bz:Nat->Prop}
theorem zg.line {w w':World} {F':Nat->Prop} {cur cur':Nat->Nat->List UInt8} {a:Va} {b:Vb} {s:St} (h:zg w a b cur s) (hs:∀ x,KF a b s x->w'.heap[x]?=w.heap[x]?) (hz:w.heap.size<=w'.heap.size) (hD:qr w' a.D F' cur') (ho:∀ q,1<=q->cur' a.r q=cur a.r q):zg w' a { b with F:=F' } cur' s:=by
 refine ⟨(hs _ (.inl rfl)).trans h.row,?_,zi h.its fun x hx=>hs x (.inr (.inr (.inr (.inl hx)))),h.tab.same (hs _ (.inl rfl)) (fun i x hx=>hs x (.inr (.inr (.inr (.inr (.inl ⟨i,hx⟩)))))) hz,h.lk.same (hs _ (.inr (.inl rfl))) (fun x hx=>hs x (.inr (.inr (.inl hx)))) hz,h.lkM⟩
 refine ⟨h.sto.pool.same fun x hx=>hs x (.inr (.inr (.inr (.inr (.inr (.inr hx)))))),h.sto.lane.same (fun x hx=>hs x (.inr (.inr (.inr (.inr (.inr (.inl hx))))))) hz,hD,h.sto.on.congr (fun q h1 _=>ho q h1) h.sto.bank1,?_,h.sto.r4,h.sto.bank1,h.sto.gen32,h.sto.len,h.sto.sure_,h.sto.dpok,h.sto.fok⟩
 intro n hn i hi
 rw [ho _ (by omega)]
 exact h.sto.pgs n hn i hi
theorem zdy (H D r:Nat) (F:Nat->Prop) (cur:Nat->Nat->List UInt8) (ts:Nat->Tn) (boots:Nat) (q:Rq) (w:World) (P:An->World->Prop) (h:zP bz w H D F cur ts boots) (hr:r<4) (hl:(ts r).live=none) (htn:q.tn=r)
  (hP:∀ a W W',P a W->qQ W W'->P a W') (hct:(ts r).ct+1<1000000) (hbt:boots<1000000)
  (hend:∀ l F' cur' W,l.s=GC->l.ep=((yA ((ts r).ct+1) boots:Nat):Int)->l.nx=0->l.hs=[]->zP bz W H D F' cur' (yo ts F' r ⟨1,(ts r).ct+1,some l⟩) boots->P (qn 0) W) :
  Calls Tryz.prog 28 #[.pointer (some ⟨H,0,none⟩),.pointer (some ⟨H,1+r*5,none⟩),.agg (zL q).toArray,.slice none 0 0] w fun e W'=>∃ a,e=.returned (.agg (zG a).toArray)/\a.er≠10/\zj bz w W'/\P a W':=by
 obtain ⟨w1,hw1⟩:∃ w1,w1=uO w q:=⟨_,rfl⟩
 have hB1:Below w.heap.size w w1:=by rw [hw1];exact jE w q
 have hX6:w1.heap[w.heap.size]?=some (.cells (zL q).toArray 37 (0,0)):=by rw [hw1];exact vP w q
 have hX8:w1.heap[w.heap.size+1]?=some (.cells #[.int .i64 0,.int .i64 0,.string { data:=#[] },.slice none 0 0,.slice none 0 0] 31 (0,0)):=by rw [hw1];exact vO w q
 have hw1u:(w.alloc (.cells (zL q).toArray 37)).alloc (.cells #[.int .i64 0,.int .i64 0,.string { data:=#[] },.slice none 0 0,.slice none 0 0] 31)=w1:=hw1.symm
 have hh1:=h.below hB1
 obtain ⟨hst0,hz⟩:=hh1.gone r hr hl
 have hc:=Jw D (fun r=>(ts r).t5) boots r hr
 have ht5:(ts r).t5=⟨.pointer none,.pointer none,.int .i64 0,.int .u64 (ts r).ct,.bool false⟩:=by unfold Tn.t5;rw [hl];simp only [hst0];rfl
 have c2:=(cell_of_row w1 H (1+r*5+2) _ _ _ hh1.blk).trans hc.2.2.1
 have c3:=(cell_of_row w1 H (1+r*5+3) _ _ _ hh1.blk).trans hc.2.2.2.1
 simp only [ht5] at c2 c3
 have cD:=(cell_of_row w1 H 0 _ _ _ hh1.blk).trans (zcG D (fun r=>(ts r).t5) boots)
 have hsn:=zhv D r F cur w1.drew hh1.disk.drew hr (fun q h1 h2=>hz q (by omega) h2)
 have hS:w1.drew.cell? ⟨H,0,none⟩=some (.pointer (some ⟨D,0,none⟩))/\w1.drew.heap[w.heap.size]?=some (.cells (zL q).toArray 37 (0,0)):=⟨cD,hX6⟩
 obtain ⟨cn,hcn⟩:∃ cn,cn=(ts r).ct+1:=⟨_,rfl⟩
 have hcw:IntKind.u64.wrap ((((ts r).ct:Nat):Int)+1)=(cn:Int):=by rw [show ((((ts r).ct:Nat):Int)+1)=(cn:Int) by omega];exact jW _ (by omega)
 rw [<- hcn] at hct hend
 have HCN:=hid hcn
 clear hcn
 obtain ⟨HSN,HB1,HX6,HX8,HP,HEND,HW1,HH1⟩:=zi8 hsn hB1 hX6 hX8 hP hend hw1u hh1
 have HHL:=hid (zd hh1.blk)
 clear hw1 hw1u hB1 hX6 hX8 hP hend hh1 h hsn hz hst0 hc ht5 cD
 go_enter Tryz.func28,Tryz.ntmps28
 go_upto_region 1 with fail
 rw [HW1.out]
 go_upto_region 3 with fail
 refine wp_region_noPanic ?_
 refine PrintLast.start_ (n:=12) (S:=(fun w'=>w'.cell? ⟨H,0,none⟩=some (.pointer (some ⟨D,0,none⟩))/\w'.heap[w.heap.size]?=some (.cells (zL q).toArray 37 (0,0)))) (ds:=[6]) (bA 12 0) (by kernel_rfl) rfl (by kernel_rfl) hS (fun hHeld=>?_)
 refine pu 0 22 12 1 rfl rfl ?_
 refine pu 1 23 12 3 rfl rfl ?_
 refine pu 2 24 12 7 rfl rfl ?_
 refine tk 3 25 12 15 rfl rfl (Or.inl ⟨by rfl,fun _ h=>(by have k0:=h.1;go_simp;with_reducible rfl)⟩) ?_
 refine pu 4 26 12 31 rfl rfl ?_
 refine tk 5 27 12 63 rfl rfl (Or.inl ⟨by rfl,fun _ h=>(by have k0:=(cell_of_row _ w.heap.size 1 _ _ _ h.2).trans (show _=some (Value.int .i64 r) by rw [<- htn];rfl);go_simp;with_reducible rfl)⟩) ?_
 refine la 6 12 127 (some 28) rfl rfl (fun K hK=>?_)
 show Oper.wp _ ⟨some 28,_,_,_,_,_⟩ _ _ _ _
 refine zq 46 _ _ [.pointer (some ⟨D,0,none⟩),.int .i64 r] rfl (by kernel_rfl) (by rfl) (HSN.out.mono ?_)
 rintro e2 w2 ⟨a,b,cur1,rfl,haD,har,hA2,hout2,hk2,hn2,hown2⟩
 refine ⟨_,rfl,?_⟩
 refine hK.out _ _ ?_
 clear hK K
 try simp only [pS]
 refine pu 7 21 12 255 rfl rfl ?_
 refine pu 8 29 12 511 rfl rfl ?_
 refine pu 9 30 12 1023 rfl rfl ?_
 refine pu 10 9 12 2047 rfl rfl ?_
 refine pu 11 10 12 4095 rfl rfl ?_
 refine PrintLast.done_ (by kernel_rfl) ?_
 refine NoPanic.normal ?_
 have hx6:=qj (show w1.drew.heap[_]?=_ from HX6.out) hk2 (fun hf=>by have:=HH1.out.disk.tags hf;rw [zc HX6.out] at this;simp at this)
 have hx8:=qj (show w1.drew.heap[_]?=_ from HX8.out) hk2 (fun hf=>by have:=HH1.out.disk.tags hf;rw [zc HX8.out] at this;simp at this)
 have hxH:=qj (show w1.drew.heap[_]?=_ from HH1.out.blk) hk2 (fun hf=>by have:=HH1.out.disk.tags hf;rw [zc HH1.out.blk] at this;simp at this)
 have c3':=(cell_of_row w2 H (1+r*5+3) _ _ _ hxH).trans ((cell_of_row w1 H (1+r*5+3) _ _ _ HH1.out.blk).symm.trans c3)
 have HX6':=hid hx6
 have HX8':=hid hx8
 obtain ⟨HXH,HA2,HOUT2,HK2,HN2,HOWN2,HAD,HAR⟩:=zi8 hxH hA2 hout2 hk2 hn2 hown2 haD har
 clear hx6 hx8 hxH hA2 hout2 hk2 hn2 hown2 hHeld hS c2 c3 haD har
 go_upto_region 5 with fail
 refine wp_loop_rounds 1 ?_
 rw [rounds_succ]
 go_upto_region 14 with fail
 go_upto_region 16 with (show wpList _ _ _ (⟨none,.store 68 _ _,_,_,_,_⟩::_) _ _;refine zN rfl 68 (.tmp 13) (.tmp 68) rfl w2.heap.size rfl _ #[.int .i64 1,.int .u64 cn] (by rfl) (by rfl) (by kernel_rfl) (by rfl) (by simp [Value.oneCell']) ?_)
 obtain ⟨w3,hw3⟩:∃ w3,w3=w2.alloc (.cells #[.int .i64 1,.int .u64 cn] 68):=⟨_,rfl⟩
 rw [<- hw3]
 have hb3:Below w2.heap.size w2 w3:=by rw [hw3];exact B_alloc (Below.refl _ _) _
 have hL3:w3.heap[w2.heap.size]?=some (.cells #[.int .i64 1,.int .u64 cn] 68 (0,0)):=by rw [hw3];exact zk _ _ rfl
 have hx63:=zb HX6'.out hb3 (zd HX6'.out)
 have hx83:=zb HX8'.out hb3 (zd HX8'.out)
 have hxH3:=zb HXH.out hb3 (zd HXH.out)
 have hA3:=HA2.out.below hb3
 have hdk3:qr w3 D b.F cur1:=by have:=hA3.sto.disk;rw [HAD.out] at this;exact this
 have hrw:=zau D b.F cur1 r 1 cn w3.drew hdk3.drew hr (by omega) (by omega)
 have hrw':Calls Tryz.prog 50 #[.pointer (some ⟨D,0,none⟩),.int .i64 r,.agg #[.int .i64 1,.int .u64 cn]] w3.drew _:=hrw
 have hS:w3.drew.cell? ⟨H,0,none⟩=some (.pointer (some ⟨D,0,none⟩))/\w3.drew.heap[w.heap.size]?=some (.cells (zL q).toArray 37 (0,0))/\w3.drew.heap[w2.heap.size]?=some (.cells #[.int .i64 1,.int .u64 cn] 68 (0,0)):=⟨(cell_of_row w3 H 0 _ _ _ hxH3).trans (zcG _ _ _),hx63,hL3⟩
 have HRW:=hid hrw'
 obtain ⟨HB3,HL3,HX83,HXH3,HA3,HD3⟩:=zi6 hb3 hL3 hx83 hxH3 hA3 hdk3
 clear hw3 hb3 hL3 hx63 hx83 hxH3 hA3 hdk3 hrw hrw' c3'
 refine wp_region_noPanic ?_
 refine PrintLast.start_ (n:=9) (S:=(fun w'=>w'.cell? ⟨H,0,none⟩=some (.pointer (some ⟨D,0,none⟩))/\w'.heap[w.heap.size]?=some (.cells (zL q).toArray 37 (0,0))/\w'.heap[w2.heap.size]?=some (.cells #[.int .i64 1,.int .u64 cn] 68 (0,0)))) (ds:=[7]) (bA 9 0) (by kernel_rfl) rfl (by kernel_rfl) hS (fun hHeld=>?_)
 refine pu 0 71 9 1 rfl rfl ?_
 refine pu 1 72 9 3 rfl rfl ?_
 refine pu 2 73 9 7 rfl rfl ?_
 refine tk 3 74 9 15 rfl rfl (Or.inl ⟨by rfl,fun _ h=>(by have k0:=h.1;go_simp;with_reducible rfl)⟩) ?_
 refine pu 4 75 9 31 rfl rfl ?_
 refine tk 5 76 9 63 rfl rfl (Or.inl ⟨by rfl,fun _ h=>(by have k0:=(cell_of_row _ w.heap.size 1 _ _ _ h.2.1).trans (show _=some (Value.int .i64 r) by rw [<- htn];rfl);go_simp;with_reducible rfl)⟩) ?_
 refine tk 6 77 9 127 rfl rfl (qE 68 (.tmp 13) rfl (by rfl) w2.heap.size (by rfl) 68 #[.int .i64 1,.int .u64 cn] (0,0) _ (fun _ h=>h.2.2) Tryz.underlying68 rfl (by kernel_rfl)) ?_
 refine la 7 9 255 (some 78) rfl rfl (fun K hK=>?_)
 show Oper.wp _ ⟨some 78,_,_,_,_,_⟩ _ _ _ _
 refine zq 50 _ _ [.pointer (some ⟨D,0,none⟩),.int .i64 r,.agg #[.int .i64 1,.int .u64 cn]] rfl (by kernel_rfl) (by rfl) (HRW.out.mono ?_)
 rintro e4 w4 ⟨rfl,F4,hD4,hk4,hn4⟩
 refine ⟨_,rfl,?_⟩
 refine hK.out _ _ ?_
 clear hK K
 try simp only [pS]
 refine pu 8 10 9 511 rfl rfl ?_
 refine PrintLast.done_ (by kernel_rfl) ?_
 refine NoPanic.normal ?_
 have hnF:∀ {x t:Nat} {C:Array Value},w3.heap[x]?=some (.cells C t (0,0))->t ∉ [81,118,86,120]->¬ b.F x:=fun hx ht hf=>ht (by have:=HD3.out.tags hf;rw [zc hx] at this;exact this)
 have hL4:=qj (show w3.drew.heap[_]?=_ from HL3.out) hk4 (hnF HL3.out (by decide))
 have hx84:=qj (show w3.drew.heap[_]?=_ from HX83.out) hk4 (hnF HX83.out (by decide))
 have hxH4:=qj (show w3.drew.heap[_]?=_ from HXH3.out) hk4 (hnF HXH3.out (by decide))
 have hA4:zg w4 a { b with F:=F4 } (vq cur1 r 0 (jc (yw 1 cn))) GC:=HA3.out.drew.line (fun x hx=>hk4.block x (HA3.out.lt (.inl hx)) (HA3.out.notF hx)) hk4.size (by rw [HAD.out];exact hD4) (fun q0 hq=>by
  unfold vq
  rw [HAR.out,zf,zm _ _ (by omega)])
 have hep:=zbm H D 1 cn boots _ w4.drew (show w4.drew.heap[_]?=_ from hxH4) hct hbt
 have hep':Calls Tryz.prog 45 #[.pointer (some ⟨H,0,none⟩),.agg #[.int .i64 1,.int .u64 cn]] w4.drew _:=hep
 have HEP:=hid hep'
 obtain ⟨HL4,HX84,HXH4,HA4,HD4,HK4,HN4⟩:=zi7 hL4 hx84 hxH4 hA4 hD4 hk4 hn4
 clear hnF hL4 hx84 hxH4 hA4 hep hep' hD4 hk4 hn4 hS hHeld
 go_upto_region 19 with fail
 have hS:w4.drew.heap[w2.heap.size]?=some (.cells #[.int .i64 1,.int .u64 cn] 68 (0,0))/\w4.drew.heap[H]?=some (.cells (hC D (fun r=>(ts r).t5) boots) 73 (0,0)):=⟨HL4.out,HXH4.out⟩
 refine wp_region_noPanic ?_
 refine PrintLast.start_ (n:=10) (S:=(fun w'=>w'.heap[w2.heap.size]?=some (.cells #[.int .i64 1,.int .u64 cn] 68 (0,0))/\w'.heap[H]?=some (.cells (hC D (fun r=>(ts r).t5) boots) 73 (0,0)))) (ds:=[9]) (bA 10 0) (by kernel_rfl) rfl (by kernel_rfl) hS (fun hHeld=>?_)
 refine pu 0 83 10 1 rfl rfl ?_
 refine pu 1 84 10 3 rfl rfl ?_
 refine pu 2 85 10 7 rfl rfl ?_
 refine tk 3 86 10 15 rfl rfl (qE 68 (.tmp 13) rfl (by rfl) w2.heap.size (by rfl) 68 #[.int .i64 1,.int .u64 cn] (0,0) _ (fun _ h=>h.1) Tryz.underlying68 rfl (by kernel_rfl)) ?_
 refine tk 6 89 10 79 rfl rfl (qE 68 (.tmp 13) rfl (by rfl) w2.heap.size (by rfl) 68 #[.int .i64 1,.int .u64 cn] (0,0) _ (fun _ h=>h.1) Tryz.underlying68 rfl (by kernel_rfl)) ?_
 refine on 4 10 95 (some 87) rfl rfl (fun K hK=>?_)
 show Oper.wp _ ⟨some 87,_,_,_,_,_⟩ _ _ _ _
 refine zq 45 _ _ [.pointer (some ⟨H,0,none⟩),.agg #[.int .i64 1,.int .u64 cn]] rfl (by kernel_rfl) (by rfl) (HEP.out.mono ?_)
 rintro e5 w5 ⟨rfl,hb5⟩
 refine ⟨_,rfl,?_⟩
 refine hK.out _ _ ⟨zb hHeld.1 hb5 (zd hHeld.1),zb hHeld.2 hb5 (zd hHeld.2)⟩ (fun hHeld=>?_)
 clear hK K
 try simp only [pS]
 refine on 5 10 127 (some 88) rfl rfl (fun K hK=>?_)
 show Oper.wp _ ⟨some 88,_,_,_,_,_⟩ _ _ _ _
 refine zq 44 _ _ [.int .i64 (yA cn boots)] rfl (by kernel_rfl) (by rfl) ((Dk.new_any (yA cn boots) w5).mono ?_)
 rintro e6 w6 ⟨rfl,hdk6,hb6,hz6⟩
 refine ⟨_,rfl,?_⟩
 refine hK.out _ _ ⟨zb hHeld.1 hb6 (zd hHeld.1),zb hHeld.2 hb6 (zd hHeld.2)⟩ (fun hHeld=>?_)
 clear hK K
 try simp only [pS]
 refine pu 7 90 10 255 rfl rfl ?_
 refine pu 8 91 10 511 rfl rfl ?_
 refine la 9 10 1023 none rfl rfl (fun K hK=>?_)
 show Oper.wp _ ⟨none,_,_,_,_,_⟩ _ _ _ _
 have hxH6:=zb (zb (show w4.drew.heap[H]?=_ from HXH4.out) hb5 (zd HXH4.out)) hb6 (Nat.lt_of_lt_of_le (zd HXH4.out) hb5.size)
 refine um 70 (.tmp 91) (.tmp 90) rfl H (1+r*5) 73 _ #[.pointer (some ⟨a.S,0,none⟩),.pointer (some ⟨w5.heap.size+1,0,none⟩),.int .i64 1,.int .u64 cn,.bool false] (by rfl) (by rfl) hxH6 (by rw [Yh];simp;omega) (by kernel_rfl) (by simp [Value.oneCell']) ?_
 refine hK.out _ _ ?_
 clear hK K
 try simp only [pS]
 refine PrintLast.done_ (by kernel_rfl) ?_
 refine NoPanic.normal ?_
 obtain ⟨l,hl'⟩:∃ l:Tl,l=⟨a,{ b with F:=F4 },GC,w5.heap.size+1,w5.heap.size,((yA cn boots:Nat):Int),0,[]⟩:=⟨_,rfl⟩
 obtain ⟨w7,hw7⟩:∃ w7,w7=w6.setRow H (hC D (zE (fun i=>(ts i).t5) r (Tn.t5 ⟨1,cn,some l⟩)) boots):=⟨_,rfl⟩
 have hput:=zgo D (fun i=>(ts i).t5) boots r hr (Tn.t5 ⟨1,cn,some l⟩)
 have hw7u:w6.setRow H (List.take (1+r*5) (hC D (fun r=>(ts r).t5) boots).toList++[Value.pointer (some ⟨a.S,0,none⟩),Value.pointer (some ⟨w5.heap.size+1,0,none⟩),Value.int .i64 1,Value.int .u64 cn,Value.bool false]++List.drop (1+r*5+5) (hC D (fun r=>(ts r).t5) boots).toList).toArray=w7:=by
  rw [hw7,<- hput,hl'];rfl
 have hxH6:=zb (zb (show w4.drew.heap[H]?=_ from HXH4.out) hb5 (zd HXH4.out)) hb6 (Nat.lt_of_lt_of_le (zd HXH4.out) hb5.size)
 have hz5:w4.heap.size<=w5.heap.size:=hb5.size
 have hz6':=hb6.size
 have hz4:w3.heap.size<=w4.heap.size:=HK4.out.size
 have hz3:=HB3.out.size
 have hz2:w1.heap.size<=w2.heap.size:=HK2.out.size
 have hz1:=HB1.out.size
 have hz7:w7.heap.size=w6.heap.size:=by rw [hw7];simp
 have hb46:Below w4.heap.size w4.drew w6:=hb5.trans (hb6.mono hz5)
 have h67:∀ x,x≠H->w7.heap[x]?=w6.heap[x]?:=fun x hx=>by rw [hw7];exact setRow_other w6 H x _ hx
 have hnH:∀ x,zS a { b with F:=F4 } GC x->x≠H:=fun x hx e=>by
  subst e
  exact HA4.out.notTag (zc HXH4.out) (by decide) hx
 have h47:∀ x,x<w4.heap.size->x≠H->w7.heap[x]?=w4.heap[x]?:=fun x hx hn=>(h67 x hn).trans (hb46.block x hx)
 have hsto7:zg w7 a { b with F:=F4 } (vq cur1 r 0 (jc (yw 1 cn))) GC:=HA4.out.same (fun x hx=>h47 x (HA4.out.lt hx) (hnH x hx)) (by omega)
 have hD7:qr w7 D F4 (vq cur1 r 0 (jc (yw 1 cn))):=by have:=hsto7.sto.disk;rw [HAD.out] at this;exact this
 have hbz1:∀ x,w1.heap.size<=x->¬ bz x:=fun x hx=>HH1.out.newb hx
 have hbF2:∀ x,b.F x->¬ bz x:=fun x hx=>(HN2.out x hx).elim (HH1.out.base.2.1 x) (fun h9=>by have h10:w1.heap.size<=x:=h9;exact hbz1 x h10)
 have hbF4:∀ x,F4 x->¬ bz x:=fun x hx=>(HN4.out x hx).elim (hbF2 x) (fun h9=>by have h10:w3.heap.size<=x:=h9;exact hbz1 x (by omega))
 have hbl7:∀ (l':Tl) (x:Nat),(some l:Option Tl)=some l'->QF l' x->¬ bz x:=fun l' x e hx=>by
  injection e with e
  subst e
  rw [hl'] at hx
  rcases hx with hx | hx | hx
  ·have h9:w1.heap.size<=x:=HOWN2.out x hx
   exact hbz1 x h9
  ·have h9:x=w5.heap.size+1:=hx
   exact hbz1 x (by omega)
  ·have h9:x=w5.heap.size:=hx
   exact hbz1 x (by omega)
 have hh7:zP bz w7 H D F4 (vq cur1 r 0 (jc (yw 1 cn))) (yo ts F4 r ⟨1,cn,some l⟩) boots:=by
  refine zP.of_c (zO.step (k':=4) (boots':=boots) HH1.out ⟨1,cn,some l⟩ hr (fun i hi _=>hi) ?_ hD7 ?_ ⟨Nat.le_refl _,hct⟩ ?_ (fun e=>by cases e) ?_ ?_ (by omega) ?_ hbF4 hbl7) ?_
  ·rw [hw7];exact setRow_heap w6 H _ _ 73 _ hxH6
  ·unfold vq;rw [zf,zf]
  ·intro l2 e
   injection e with e
   subst e
   refine ⟨?_,rfl⟩
   rw [hl']
   refine ⟨hsto7,HAD.out,HAR.out,rfl,?_,?_⟩
   ·have hHl:=zd HXH4.out
    exact Dk.DeskAt.same hdk6 (h67 _ (by simp only;omega)) (h67 _ (by simp only;omega))
   ·intro hx
    have:=HA4.out.lt hx
    simp only at this
    omega
  ·intro i l2 x hi hir hli hx
   obtain ⟨h2,_⟩:=HH1.out.live i l2 hi hli
   have hlt:=(h2.tags x hx).2
   have hnF:=h2.notF hx
   have hnF2:¬ b.F x:=fun hf=>(HN2.out x hf).elim hnF (fun h9=>by have h10:w1.heap.size<=x:=h9;omega)
   have e1:w2.heap[x]?=w1.heap[x]?:=HK2.out.block x hlt hnF
   have e2:w3.heap[x]?=w2.heap[x]?:=HB3.out.block x (by omega)
   have e3:w4.heap[x]?=w3.heap[x]?:=HK4.out.block x (show x<w3.heap.size by omega) hnF2
   rw [h47 x (by omega) (zO.notH HH1.out hi hli (.inl hx)),e3,e2,e1]
  ·intro i q0 hi
   unfold vq
   rw [zm _ _ hi]
   exact HOUT2.out i q0 (.inl hi)
  ·intro l2 x e hx i l3 hi hir hli hy
   injection e with e
   subst e
   have hlt:=((HH1.out.live i l3 hi hli).1.tags x hy).2
   rw [hl'] at hx
   rcases hx with hx | hx | hx
   ·have h9:w1.heap.size<=x:=HOWN2.out x hx
    omega
   ·have h9:x=w5.heap.size+1:=hx
    omega
   ·have h9:x=w5.heap.size:=hx
    omega
  ·funext i
   by_cases e:i=r
   ·subst e;rw [zf,qO]
   ·rw [zm _ _ e,yt _ _ _ e,Tn.reF_t5]
 have hkF:∀ {W W':World} {G:Nat->Prop},(∀ x,G x->¬ bz x)->(∀ x,G x->qp W x∈[81,118,86,120])->zr G W W'->zj bz W W':=fun hb hG hk=>zj.keep hb (fun x t c ht hx=>qj hx hk (fun hf=>ht (by
  have h9:=hG x hf
  rw [zc hx] at h9
  simp only [List.mem_cons,List.not_mem_nil,or_false] at h9 ⊢
  omega))) hk
 have hk12:zj bz w1 w2:=zj.of_drew (hkF (W:=w1.drew) HH1.out.base.2.1 (fun x hx=>HH1.out.disk.tags hx) HK2.out)
 have hk34:zj bz w3 w4:=zj.of_drew (hkF (W:=w3.drew) hbF2 (fun x hx=>HD3.out.tags hx) HK4.out)
 have hk46:zj bz w4 w6:=zj.of_drew (zj.below (A:=w4.drew) hb46)
 have hk67:zj bz w6 w7:=⟨fun x t c ht hx=>(h67 x (fun e=>by
  subst e
  rw [hxH6] at hx
  injection hx with hx
  injection hx with _ hx
  subst hx
  exact ht (by decide))).trans hx,by rw [hw7];rfl,by rw [hw7];rfl,by rw [hw7];rfl,by omega,fun x h1 _=>h67 x (fun e=>HH1.out.base.1 (e ▸ h1))⟩
 have hk7:zj bz w w7:=(zj.below HB1.out).trans (hk12.trans ((zj.below HB3.out).trans (hk34.trans (hk46.trans hk67))))
 have hx87:=hk67 _ _ _ (by decide) (hk46 _ _ _ (by decide) HX84.out)
 have hp7:=HEND.out l F4 _ w7 (by rw [hl']) (by rw [hl']) (by rw [hl']) (by rw [hl']) hh7
 obtain ⟨HW7,HK7,HX87,HP7⟩:=zi4 hw7u hk7 hx87 hp7
 clear hl' hw7 hput hw7u hxH6 hz5 hz6' hz4 hz3 hz2 hz1 hz7 hb46 h67 hnH h47 hsto7 hD7 hh7 hkF hk12 hk34 hk46 hk67 hk7 hx87 hp7 hb5 hdk6 hb6 hz6 hHeld hS
 refine (by assumption:∀ a w,Code.wp Tryz.prog (Code.seq _ _) _ a w->_) _ _ ?_
 rw [show ((#[Value.pointer (some ⟨a.S,0,none⟩),Value.pointer (some ⟨w5.heap.size+1,0,none⟩),Value.int .i64 1,Value.int .u64 cn,Value.bool false]:Array Value).size)=5 from rfl,HW7.out]
 go_wp2_with (show wpList _ _ _ (⟨none,.store 31 (.tmp 8) _,_,_,_,_⟩::_) _ _;refine zB rfl 31 (.tmp 8) (.tmp 92) rfl (w.heap.size+1) 0 31 _ (zG (qn 0)).toArray (by rfl) (by rfl) HX87.out (by simp [zG]) (by kernel_rfl) (by simp [zG,Value.oneCell']) ?_)
 refine ju (an:=qn 0) 8 rfl rfl rfl HX87.out rfl ⟨qn 0,rfl,by decide,HK7.out.setRow (by omega) _,?_⟩
 exact HP.out _ _ _ HP7.out (qQ.setRow HX87.out _)
end
end Go.Proofs.YtechnoogjhohfaaGreat
namespace Go.Proofs.YtechnoogjhohfaaGreat
theorem zcP {K V:Type} [DecidableEq K] {l:List (K × V)} {x:K} {v:V} {p:K × V} (h:p∈aput l x v):p=(x,v)∨p∈l:=by
 unfold aput at h
 split at h
 ·obtain ⟨q,hq,rfl⟩:=List.mem_map.1 h
  split
  ·exact .inl rfl
  ·exact .inr hq
 ·rcases List.mem_append.1 h with h | h
  ·exact .inr h
  ·exact .inl (List.mem_singleton.1 h)
def yn (M:Lk):Prop:=WF M/\∀ p,p∈M->∀ q,q∈p.2->q.1=(1:Int)
theorem yn.nil:yn []:=⟨WF.nil,fun p hp=>by cases hp⟩
theorem yn.held {M:Lk} (h:yn M) (n:Nm):∀ q,q∈zW M n->q.1=(1:Int):=fun q hq=>by
 unfold zW at hq
 cases e:zF M n with
 | none=>rw [e] at hq;cases hq
 | some L=>rw [e] at hq;exact h.2 _ (qP e) q hq
theorem yn.hm {M:Lk} (h:yn M) (n:Nm) {o:Int} (ho:o≠1):hm M n o=0:=by
 by_cases e:Go.Proofs.YtechnoogjhohfaaGreat.hm M n o=0
 ·exact e
 ·exact absurd (h.held n (o,Go.Proofs.YtechnoogjhohfaaGreat.hm M n o) ((zeV h.1).2 ⟨rfl,e⟩)) ho
theorem yn.takeM {M:Lk} (h:yn M) (n:Nm) {mode:Int} (hm0:mode≠0):yn (takeM M 1 n mode):=by
 refine ⟨h.1.takeM 1 n hm0,fun p hp q hq=>?_⟩
 rcases zcP hp with rfl | hp
 ·rcases zcP hq with rfl | hq
  ·rfl
  ·exact h.held n q hq
 ·exact h.2 p hp q hq
theorem yn.dropM {M:Lk} (h:yn M) (who:Int):yn (dropM M who):=by
 refine ⟨h.1.dropM who,fun p hp q hq=>?_⟩
 obtain ⟨hp1,_⟩:=List.mem_filter.1 hp
 obtain ⟨p',hp',rfl⟩:=List.mem_map.1 hp1
 exact h.2 p' hp' q (List.filter_sublist.subset hq)
theorem yn.takeB {M:Lk} (h:yn M) (n:Nm) (mode:Int):takeB M 1 n mode=true:=(zhw h.1 1 n mode).2 fun o ho hne=>absurd (h.hm n ho) hne
theorem yn.keyB {M:Lk} (h:yn M) (t:Int) (k:ByteArray):keyB M 1 t k=true:=by
 unfold Go.Proofs.YtechnoogjhohfaaGreat.keyB
 rw [h.takeB,(h.takeM (zD t) (by decide)).takeB];rfl
theorem yn.keyS {M:Lk} (h:yn M) (t:Int) (k:ByteArray):yn (keyS M 1 t k):=by
 unfold Go.Proofs.YtechnoogjhohfaaGreat.keyS
 rw [if_pos (h.keyB t k)]
 exact (h.takeM _ (by decide)).takeM _ (by decide)
theorem yn.takeS {M:Lk} (h:yn M) (n:Nm) {mode:Int} (hm0:mode≠0):yn (takeS M 1 n mode):=by
 unfold Go.Proofs.YtechnoogjhohfaaGreat.takeS
 split
 ·exact h.takeM n hm0
 ·exact h
structure jw (rs:List zI):Prop where
 ok:∀ x,x∈rs->x.ok
 k7:∀ x,x∈rs->x.kind≠7
 done:∀ i,uG rs i=⟨[],false⟩
theorem jw.lsr {rs:List zI} (h:jw rs) (i:Nat):lsr rs i=⟨[],false⟩:=by
 unfold Go.Proofs.YtechnoogjhohfaaGreat.lsr
 split
 ·exact h.done i
 ·rfl
theorem zdF:∀ (es:List (Nat × zI)),(∀ e,e∈es->e.2.kind≠7)->vF es=0:=by
 intro es
 have:∀ (es:List (Nat × zI)) (a:Nat),(∀ e,e∈es->e.2.kind≠7)->es.foldl (fun a e=>if e.2.kind=7 then Ky e.1 e.2.dirty else a) a=a:=by
  intro es
  induction es with
  | nil=>intros;rfl
  | cons e es ih =>
   intro a h
   rw [List.foldl_cons,if_neg (h e (List.mem_cons_self ..))]
   exact ih a fun e' he=>h e' (List.mem_cons_of_mem _ he)
 exact this es 0
theorem zcA (gen:Nat):∀ (rs:List zI) (n:Nat) (e:Nat × zI),e∈qx gen n rs->e.2∈rs
 | [],n,e,h=>by cases h
 | x::rs,n,e,h=>by
  rcases List.mem_cons.1 h with rfl | h
  ·exact List.mem_cons_self ..
  ·exact List.mem_cons_of_mem _ (zcA gen rs _ e h)
theorem jw.from0 {rs:List zI} (h:jw rs) (gen n:Nat):vF (qx gen n rs)=0:=zdF _ fun e he=>h.k7 _ (zcA gen rs n e he)
theorem jw.check:jw [qo]:=by
 refine ⟨fun x hx=>?_,fun x hx=>?_,fun i=>?_⟩
 ·rw [List.mem_singleton.1 hx];exact vT
 ·rw [List.mem_singleton.1 hx];decide
 ·unfold uG
  simp only [List.foldl_cons,List.foldl_nil]
  split
  ·unfold YW.step;simp [qo]
  ·rfl
theorem zbu (a b:List zI) (i:Nat):uG (a++b) i=b.foldl (fun s x=>if x.txn=i/\x.kind≠7 then s.step x else s) (uG a i):=by simp [uG]
theorem jw.commit {rs:List zI} (h:jw rs) {x:zI} (hx:x.ok) (h3:x.kind=3) (ht:x.txn=1):jw (rs++[x,qC 1]):=by
 refine ⟨fun y hy=>?_,fun y hy=>?_,fun i=>?_⟩
 ·rcases List.mem_append.1 hy with hy | hy
  ·exact h.ok y hy
  ·simp only [List.mem_cons,List.not_mem_nil,or_false] at hy
   rcases hy with rfl | rfl
   ·exact hx
   ·exact QI (by decide)
 ·rcases List.mem_append.1 hy with hy | hy
  ·exact h.k7 y hy
  ·simp only [List.mem_cons,List.not_mem_nil,or_false] at hy
   rcases hy with rfl | rfl
   ·omega
   ·simp [qC]
 ·rw [zbu,h.done i]
  simp only [List.foldl_cons,List.foldl_nil,ht]
  by_cases e:1=i
  ·subst e
   simp [YW.step,qC,h3]
  ·simp [e,qC]
theorem jw.abort {rs:List zI} (h:jw rs) {x y:zI} (hx:x.ok) (h3:x.kind=3) (ht:x.txn=1) (hy:y.ok) (h4:y.kind=4) (hty:y.txn=1):jw (rs++[x,y,yW 1]):=by
 refine ⟨fun z hz=>?_,fun z hz=>?_,fun i=>?_⟩
 ·rcases List.mem_append.1 hz with hz | hz
  ·exact h.ok z hz
  ·simp only [List.mem_cons,List.not_mem_nil,or_false] at hz
   rcases hz with rfl | rfl | rfl
   ·exact hx
   ·exact hy
   ·exact Ga (by decide)
 ·rcases List.mem_append.1 hz with hz | hz
  ·exact h.k7 z hz
  ·simp only [List.mem_cons,List.not_mem_nil,or_false] at hz
   rcases hz with rfl | rfl | rfl
   ·omega
   ·omega
   ·simp [yW]
 ·rw [zbu,h.done i]
  simp only [List.foldl_cons,List.foldl_nil,ht,hty]
  by_cases e:1=i
  ·subst e
   simp [YW.step,yW,h3,h4]
  ·simp [e,yW]
theorem Gu {its:List It} (hs:zJ its) (r:Rw):(∀ x,yB its r=some x->x∈its/\jh x.rw r)/\(yB its r=none->∀ x,x∈its->¬ jh x.rw r):=by
 have hf:=Zw hs r
 have hfa:∀ x,its[qF its r]?=some x->qv its (qF its r) r=(vw x.rw r == 0):=fun x hx=>by unfold qv;rw [hx]
 unfold yB
 cases e:its[qF its r]? with
 | none =>
  refine ⟨fun x hx=>(by cases hx),fun _=>hf.2.1 (by unfold qv;rw [e])⟩
 | some y =>
  simp only
  by_cases h0:vw y.rw r=0
  ·rw [if_pos h0]
   refine ⟨fun x hx=>?_,fun h=>by cases h⟩
   injection hx with hx
   subst hx
   exact ⟨List.mem_of_getElem? e,(Jm _ _).1 h0⟩
  ·rw [if_neg h0]
   refine ⟨fun x hx=>(by cases hx),fun _=>hf.2.1 (by rw [hfa y e];simpa using h0)⟩
theorem zeU {its:List It} (hs:zJ its) {x:It} (hx:x∈its) {r:Rw} (h:jh x.rw r):yB its r=some x:=by
 have hf:=Gu hs r
 cases e:yB its r with
 | none=>exact absurd h (hf.2 e x hx)
 | some y =>
  obtain ⟨h1,h2⟩:=hf.1 y e
  rw [uW hs h1 hx (h2.trans h.symm)]
theorem Yp {ts:qL} {nbs:Nat->Nat} (hkept:∀ k,jv (zH ts) k=[]):∀ (g k:Nat) {s:zl},qi s->vG s (zR ts nbs g k s).1/\(∀ n i,(zR ts nbs g k s).2=some (n,i)->k<=n/\n<k+g/\i<5/\(s.page n).slots[i]?=some none)/\((zR ts nbs g k s).2=none->∀ n i:Nat,k<=n->n<k+g->i<5->¬ (s.page n).slots[i]?=some none)
 | 0,k,s,h=>⟨.refl h,fun n i e=>(by cases e),fun _ n i h1 h2=>by omega⟩
 | g+1,k,s,h=>by
  have h1:=YP h (nbs k) k
  have hfr:∀ (l:List (Option Rw)) (f j:Nat),(∀ i,jS l [] f j=some i->j<=i/\i<j+f/\l[i]?=some none)/\(jS l [] f j=none->∀ i:Nat,j<=i->i<j+f->¬ l[i]?=some none):=by
   intro l f
   induction f with
   | zero=>intro j;exact ⟨fun i e=>(by simp [jS] at e),fun _ i h1 h2=>by omega⟩
   | succ f ih =>
    intro j
    by_cases e:l[j]?=some none
    ·rw [Kc e (by simp)]
     refine ⟨fun i hi=>?_,fun h=>by cases h⟩
     injection hi with hi
     subst hi
     exact ⟨Nat.le_refl _,by omega,e⟩
    ·rw [Qz (fun h=>e h.1)]
     refine ⟨fun i hi=>?_,fun h i h1 h2=>?_⟩
     ·have:=(ih (j+1)).1 i hi;exact ⟨by omega,by omega,this.2.2⟩
     ·by_cases e2:i=j
      ·subst e2;exact e
      ·exact (ih (j+1)).2 h i (by omega) (by omega)
  have hfk:uR (s.page k) (jv (zH ts) k)=jS (s.page k).slots [] 5 0:=by rw [hkept k];rfl
  cases e:uR (s.page k) (jv (zH ts) k) with
  | some i =>
   rw [Yo e]
   rw [hfk] at e
   have:=(hfr _ _ _).1 i e
   refine ⟨h1,fun n j hj=>?_,fun h=>by cases h⟩
   injection hj with hj
   cases hj
   exact ⟨Nat.le_refl _,by omega,by omega,this.2.2⟩
  | none =>
   rw [Yn e]
   rw [hfk] at e
   have h2:=(hfr _ _ _).2 e
   obtain ⟨h3,h4,h5⟩:=Yp hkept g (k+1) h1.ok
   refine ⟨h1.trans h3,fun n i hi=>?_,fun hn n i h6 h7 h8=>?_⟩
   ·have:=h4 n i hi
    rw [h1.page] at this
    exact ⟨by omega,by omega,this.2.2.1,this.2.2.2⟩
   ·by_cases e2:n=k
    ·subst e2;exact h2 i (Nat.zero_le _) (by omega)
    ·have:=h5 hn n i (by omega) (by omega) h8
     rw [h1.page] at this
     exact this
structure yx (s:St) (rs:List zI) (m:Nat) (C:Nat->List (Option Rw)):Prop extends zjj s rs m C where
 closed:jw rs
 closedm:jw (rs.take m)
 lk:yn s.lk
def one (T:Nat) (x:Tx):qL:=[none,some (T,x),none,none]
theorem yx.sto {s s':St} {rs:List zI} {m:Nat} {C:Nat->List (Option Rw)} (h:yx s rs m C) (hs:vG s.sto s'.sto) (hi:s'.its=s.its) (hl:yn s'.lk):∃ m',yx s' rs m' C:=by
 obtain ⟨m',hm,hd⟩:=h.dur.soft hs h.calm
 refine ⟨m',⟨⟨hs.ok,hd,fun n hn=>by rw [hs.page];exact h.calm n hn,by rw [hi];exact h.its⟩,h.closed,?_,hl⟩⟩
 rcases hm with rfl | rfl
 ·exact h.closedm
 ·rw [List.take_length];exact h.closed
theorem KD (T:Nat) (x:Tx):zH (one T x)=[(1,T,x)]:=rfl
theorem zix {T:Nat} {x:Tx} (h:x.list=[]) (k:Nat):jv (zH (one T x)) k=[]:=by
 rw [KD]
 simp [jv,h,vY]
theorem ziz {T:Nat} {x:Tx} (h:x.list=[]):qY (one T x)=[qo]:=by
 unfold qY
 rw [KD]
 simp [yr,h]
theorem ziy {T:Nat} {x:Tx} (h:x.list=[]):Jx (one T x)=1975:=by
 unfold Jx
 rw [KD]
 simp [jK,h]
theorem yx.ready {s:St} {rs:List zI} {m T:Nat} {x:Tx} {C:Nat->List (Option Rw)} (h:yx s rs m C) (ht:s.ts=one T x) (hx:x.list=[]) (hl:s.sto.log.length<=14336):(∃ rs' m',yx s.ready rs' m' C)/\(∀ n,s.ready.sto.page n=s.sto.page n)/\s.ready.sto.gen<=s.sto.gen+1/\s.ready.sto.log.length+1975<=14336:=by
 unfold St.ready
 rw [ht,ziy hx]
 split
 ·rename_i hfit
  exact ⟨⟨rs,m,h⟩,fun _=>rfl,Nat.le_succ _,by omega⟩
 ·have h6:=zby h.pool (one T x)
  rw [ziz hx] at h6
  have hpg:∀ n,(s.sto.pack (one T x)).page n=s.sto.page n:=h6.page
  have hc:QU (s.sto.pack (one T x)) C:=fun n hn=>by rw [hpg];exact h.calm n hn
  have hlen:(zp [qo]).length<=395:=by rw [Qr];exact yM vT
  have hlen2:(zp [qo]).length+1975<=14336:=Nat.le_trans (Nat.add_le_add_right hlen 1975) (by decide)
  refine ⟨⟨[qo],1,⟨⟨h6.ok,un.fresh (s:=s.sto) (by simp [qo]) h6.log h6.sure (fun n hn=>(h6.dp n hn).trans (h6.page n).symm) (fun n hn=>?_) hc,hc,h.its⟩,jw.check,jw.check,h.lk⟩⟩,hpg,by show (s.sto.pack (one T x)).gen<=_;rw [h6.gen];exact Nat.le_refl _,by show (s.sto.pack (one T x)).log.length+1975<=14336;rw [h6.log];exact hlen2⟩
  rw [hpg,h6.gen]
  have h9:=h.dur.mark n hn
  generalize (s.sto.page n).mark=M at h9
  generalize (s.sto.pack (one T x)).log.length=L
  have e1:qD s.sto.gen s.sto.log.length=s.sto.gen*1048576+s.sto.log.length+1:=rfl
  have e2:qD (s.sto.gen+1) L=(s.sto.gen+1)*1048576+L+1:=rfl
  rw [e1] at h9
  rw [e2]
  generalize s.sto.log.length=K at h9 hl
  exact zbv h9 hl
structure Zp (s:St) (T:Nat) (its0:List It) (rw:Rw) (rs:List zI) (m n i:Nat) (b:Option Rw) (x:zI) (C:Nat->List (Option Rw)):Prop where
 pool:qi s.sto
 dur:un s.sto (rs++[x]) m C
 mle:m<=rs.length
 calm:QU s.sto (zE C n ((C n).set i (some rw)))
 was:vj its0 C
 its:vj s.its (zE C n ((C n).set i (some rw)))
 closed:jw rs
 closedm:jw (rs.take m)
 lk:yn s.lk
 ts:s.ts=one T ⟨[⟨n,i,b⟩],[],1⟩
 n6:n<6
 i5:i<5
 len:∀ k,k<6->(C k).length=5
 old:(C n)[i]?=some b
 oldk:∀ r,b=some r->jh r rw
 new:∀ y,y∈its0->jh y.rw rw->y.pg=n/\y.sl=i
 bok:qX b
 here:qU s.sto.fs n≠none
 xok:x.ok
 x3:x.kind=3
 x1:x.txn=1
theorem zbj {s:St} {rs:List zI} {m T n i r nb:Nat} {C:Nat->List (Option Rw)} {rw:Rw} {b:Option Rw} (h:yx s rs m C) (ht:s.ts=one T Zo) (hpo:∀ n,(s.sto.page n).ok) (hok:rw.ok) (hn:n<6) (hi:i<5) (hb:(C n)[i]?=some b) (hbk:∀ r,b=some r->jh r rw) (hnew:∀ y,y∈s.its->jh y.rw rw->y.pg=n/\y.sl=i) (hl:s.sto.log.length+1975<=14336) :
  (∃ rs m x,Zp (s.chg r nb 3 1 n i (some rw)) T s.its rw rs m n i b x C)/\(s.chg r nb 3 1 n i (some rw)).sto.gen=s.sto.gen/\(s.chg r nb 3 1 n i (some rw)).sto.log.length+1580<=14336:=by
 have hcs:=GH h.pool r nb 3 1 n i (some rw)
 obtain ⟨m',hm',hd⟩:=h.dur.soft hcs.soft h.calm
 have hxok:(jH r 3 1 n i (s.sto.get nb n) (s.sto.page n) (some rw)).ok:=Kr (hpo n) (.inl rfl) (by omega) hn hi hok
 have hd2:=hd.chg hcs (.inl rfl) rfl rfl rfl hn
 have hcl:jw (rs.take m'):=by
  rcases hm' with rfl | rfl
  ·exact h.closedm
  ·rw [List.take_length];exact h.closed
 have hsl:(s.sto.page n).slots=C n:=h.calm n hn
 have hbf:ji (s.sto.page n) i=((C n)[i]?).getD none:=by unfold ji;rw [hsl]
 have hbf2:ji (s.sto.page n) i=b:=by rw [hbf,hb];rfl
 have hlen:∀ k,k<6->(C k).length=5:=fun k hk=>by rw [<- h.calm k hk];exact (hpo k).five
 have hle:=yM hxok
 refine ⟨⟨rs,m',_,⟨hcs.ok,hd2,hd.mle,fun k hk=>?_,h.its,?_,h.closed,hcl,h.lk,?_,hn,hi,hlen,hb,hbk,hnew,by rw [<- hbf2];exact Gr (hpo n) i,hcs.here,hxok,rfl,rfl⟩⟩,hcs.gen,?_⟩
 ·show ((s.sto.chg r nb 3 1 n i (some rw)).page k).slots=_
  by_cases e:k=n
  ·subst e
   rw [hcs.page,zf]
   show (s.sto.page k).slots.set i (some rw)=_
   rw [hsl]
  ·rw [hcs.other k e,zm _ _ e];exact h.calm k hk
 ·show vj (yp (qR s.its (ji (s.sto.page n) i)) (some rw) n i) _
  rw [hbf]
  exact h.its.chg hn hi hlen fun b' hb' x hx hs=>by
   injection hb' with hb'
   subst hb'
   exact hnew x hx hs
 ·show (if (3:Nat)=3 then zfj s.ts 1 ⟨n,i,ji (s.sto.page n) i⟩ else s.ts)=_
  rw [if_pos rfl,ht,hbf2]
  rfl
 ·show (s.sto.chg r nb 3 1 n i (some rw)).log.length+1580<=14336
  rw [hcs.log,List.length_append]
  omega
theorem Zp.mem {s:St} {T m n i:Nat} {its0:List It} {rw:Rw} {rs:List zI} {b:Option Rw} {x:zI} {C:Nat->List (Option Rw)} (h:Zp s T its0 rw rs m n i b x C) (y:It):y∈s.its↔y=⟨rw,n,i⟩∨y∈its0/\¬ jh y.rw rw:=by
 have hil:i<(C n).length:=by rw [h.len n h.n6];exact h.i5
 have hC:∀ y:It,((zE C n ((C n).set i (some rw))) y.pg)[y.sl]?=if y.pg=n/\y.sl=i then some (some rw) else (C y.pg)[y.sl]?:=fun y=>by
  by_cases e:y.pg=n
  ·rw [e,zf]
   by_cases e2:y.sl=i
   ·rw [e2,List.getElem?_set_self hil,if_pos ⟨rfl,rfl⟩]
   ·rw [List.getElem?_set_ne (Ne.symm e2),if_neg (fun h=>e2 h.2)]
  ·rw [zm _ _ e,if_neg (fun h=>e h.1)]
 rw [h.its.mem y,hC y]
 constructor
 ·rintro ⟨h1,h2,h3⟩
  split at h3
  ·rename_i h4
   injection h3 with h3
   injection h3 with h3
   refine .inl ?_
   cases y
   simp only at h4 h3
   rw [h4.1,h4.2,h3]
  ·rename_i h4
   have h5:y∈its0:=(h.was.mem y).2 ⟨h1,h2,h3⟩
   exact .inr ⟨h5,fun hs=>h4 (h.new y h5 hs)⟩
 ·rintro (rfl | ⟨h1,h2⟩)
  ·exact ⟨h.n6,h.i5,by rw [if_pos ⟨rfl,rfl⟩]⟩
  ·obtain ⟨h3,h4,h5⟩:=(h.was.mem y).1 h1
   refine ⟨h3,h4,?_⟩
   rw [if_neg,h5]
   rintro ⟨h6,h7⟩
   rw [h6,h7,h.old] at h5
   injection h5 with h5
   exact h2 (h.oldk _ h5)
theorem Zp.commit {s:St} {T m n i:Nat} {its0:List It} {rw:Rw} {rs:List zI} {b:Option Rw} {x:zI} {C:Nat->List (Option Rw)} (h:Zp s T its0 rw rs m n i b x C) :
  yx (s.commit 1 ⟨[⟨n,i,b⟩],[],1⟩) (rs++[x,qC 1]) (rs++[x,qC 1]).length (zE C n ((C n).set i (some rw)))/\(s.commit 1 ⟨[⟨n,i,b⟩],[],1⟩).ts=Qw/\(s.commit 1 ⟨[⟨n,i,b⟩],[],1⟩).its=s.its/\(s.commit 1 ⟨[⟨n,i,b⟩],[],1⟩).sto.gen=s.sto.gen:=by
 have hsto:(s.commit 1 ⟨[⟨n,i,b⟩],[],1⟩).sto=(s.sto.logged (qC 1)).synced:=by
  unfold St.commit
  simp only
  rw [if_neg (by simp)]
 have hok1:qi (s.sto.logged (qC 1)):=⟨h.pool.three,h.pool.hand,h.pool.uniq,h.pool.clean,by have:=h.pool.sure;simp only [zl.logged,List.length_append];omega⟩
 have hok2:qi (s.sto.logged (qC 1)).synced:=⟨h.pool.three,h.pool.hand,h.pool.uniq,h.pool.clean,Nat.le_refl _⟩
 have hd1:un (s.sto.logged (qC 1)) (rs++[x]++[qC 1]) m C:=h.dur.more (qC 1) rfl rfl rfl rfl fun k hk=>(Gi (by simp [qC])).symm
 have hd2:un (s.sto.logged (qC 1)).synced (rs++[x]++[qC 1]) (rs++[x]++[qC 1]).length (zE C n ((C n).set i (some rw))):=hd1.sync rfl rfl rfl rfl (fun _=>rfl) h.calm
 have he:rs++[x]++[qC 1]=rs++[x,qC 1]:=by simp
 rw [he] at hd2
 have hcl:=h.closed.commit h.xok h.x3 h.x1
 refine ⟨⟨⟨by rw [hsto];exact hok2,by rw [hsto];exact hd2,by rw [hsto];exact h.calm,h.its⟩,hcl,by rw [List.take_length];exact hcl,h.lk.dropM 1⟩,?_,rfl,by rw [hsto];rfl⟩
 show s.ts.set 1 none=Qw
 rw [h.ts]
 rfl
theorem yx.commit0 {s:St} {rs:List zI} {m T:Nat} {x:Tx} {C:Nat->List (Option Rw)} (h:yx s rs m C) (ht:s.ts=one T x) (hx:x.list=[]):yx (s.commit 1 x) rs m C/\(s.commit 1 x).ts=Qw/\(s.commit 1 x).its=s.its/\(s.commit 1 x).sto=s.sto:=by
 have hsto:(s.commit 1 x).sto=s.sto:=by unfold St.commit;simp only;rw [if_pos hx]
 refine ⟨⟨⟨by rw [hsto];exact h.pool,by rw [hsto];exact h.dur,by rw [hsto];exact h.calm,h.its⟩,h.closed,h.closedm,h.lk.dropM 1⟩,?_,rfl,hsto⟩
 show s.ts.set 1 none=Qw
 rw [ht]
 rfl
theorem yx.abort0 {s:St} {rs:List zI} {m T r:Nat} {nbs:Nat->Nat} {x:Tx} {C:Nat->List (Option Rw)} (h:yx s rs m C) (ht:s.ts=one T x) (hx:x.list=[]):yx (s.abort r 1 nbs x) rs m C/\(s.abort r 1 nbs x).ts=Qw/\(s.abort r 1 nbs x).its=s.its/\(s.abort r 1 nbs x).sto=s.sto:=by
 have hu:St.undos r 1 nbs 0 x.list.length s=s:=by rw [hx];rfl
 have hsto:(s.abort r 1 nbs x).sto=s.sto:=by unfold St.abort;simp only;rw [if_pos hx]
 have hits:(s.abort r 1 nbs x).its=s.its:=by show (St.undos r 1 nbs 0 x.list.length s).its=_;rw [hu]
 have hlk:(s.abort r 1 nbs x).lk=dropM s.lk 1:=by show dropM (St.undos r 1 nbs 0 x.list.length s).lk _=_;rw [hu];rfl
 have hts:(s.abort r 1 nbs x).ts=s.ts.set 1 none:=by show (St.undos r 1 nbs 0 x.list.length s).ts.set 1 none=_;rw [hu]
 refine ⟨⟨⟨by rw [hsto];exact h.pool,by rw [hsto];exact h.dur,by rw [hsto];exact h.calm,by rw [hits];exact h.its⟩,h.closed,h.closedm,by rw [hlk];exact h.lk.dropM 1⟩,?_,hits,hsto⟩
 rw [hts,ht]
 rfl
theorem Zp.abort {s:St} {T m n i r:Nat} {nbs:Nat->Nat} {its0:List It} {rw:Rw} {rs:List zI} {b:Option Rw} {x:zI} {C:Nat->List (Option Rw)} (h:Zp s T its0 rw rs m n i b x C) (hpo:∀ n,(s.sto.page n).ok) :
  (∃ rs',yx (s.abort r 1 nbs ⟨[⟨n,i,b⟩],[],1⟩) rs' m C)/\(s.abort r 1 nbs ⟨[⟨n,i,b⟩],[],1⟩).ts=Qw/\(s.abort r 1 nbs ⟨[⟨n,i,b⟩],[],1⟩).its=its0/\(s.abort r 1 nbs ⟨[⟨n,i,b⟩],[],1⟩).sto.gen=s.sto.gen:=by
 have hu:St.undos r 1 nbs 0 1 s={ s.chg r (nbs 0) 4 1 n i b with ts:=one T ⟨[],[],1⟩ }:=by
  show s.undo1 r (nbs 0) 1=_
  unfold St.undo1
  rw [h.ts]
  rfl
 have hcs:=GH h.pool r (nbs 0) 4 1 n i b
 obtain ⟨h1,h2⟩:=zhQ h.pool r (nbs 0) 4 1 n i b h.here
 have hyok:(jH r 4 1 n i (s.sto.get (nbs 0) n) (s.sto.page n) b).ok:=Kr (hpo n) (.inr rfl) (by omega) h.n6 h.i5 h.bok
 have hsg:=zcF (nbs 0) n h.here
 have hd0:un (s.sto.get (nbs 0) n) (rs++[x]) m C:=by
  have hs:=hcs.soft
  refine ⟨hs.log.trans h.dur.log,h.dur.pos,h.dur.mle,hsg.1.trans h.dur.sure,fun k hk=>?_,fun k hk=>?_,fun k hk=>?_⟩
  ·rw [hs.gen,hsg.2,hs.page];exact h.dur.full k hk
  ·rw [hs.gen,hsg.2];exact h.dur.part k hk
  ·rw [hs.page,hs.gen,hs.log];exact h.dur.mark k hk
 have hd1:=hd0.chg hcs (.inr rfl) rfl rfl rfl h.n6
 have hd2:un ((s.sto.chg r (nbs 0) 4 1 n i b).logged (yW 1)) (rs++[x]++[jH r 4 1 n i (s.sto.get (nbs 0) n) (s.sto.page n) b]++[yW 1]) m C:=hd1.more (yW 1) rfl rfl rfl rfl fun k hk=>(Gi (by simp [yW])).symm
 have hsto:(s.abort r 1 nbs ⟨[⟨n,i,b⟩],[],1⟩).sto=(s.sto.chg r (nbs 0) 4 1 n i b).logged (yW 1):=by
  unfold St.abort
  simp only [List.length_singleton]
  rw [if_neg (by simp),hu]
  rfl
 have hil:i<(C n).length:=by rw [h.len n h.n6];exact h.i5
 have hsl:(s.sto.page n).slots=(C n).set i (some rw):=by have:=h.calm n h.n6;rw [zf] at this;exact this
 have hbf:ji (s.sto.page n) i=some rw:=by unfold ji;rw [hsl,List.getElem?_set_self hil];rfl
 have hback:(C n).set i b=C n:=by
  refine List.ext_getElem? fun j=>?_
  by_cases e:j=i
  ·subst e;rw [List.getElem?_set_self hil,h.old]
  ·rw [List.getElem?_set_ne (Ne.symm e)]
 have hcalm:QU ((s.sto.chg r (nbs 0) 4 1 n i b).logged (yW 1)) C:=fun k hk=>by
  show ((s.sto.chg r (nbs 0) 4 1 n i b).page k).slots=C k
  by_cases e:k=n
  ·subst e
   rw [hcs.page]
   show (s.sto.page k).slots.set i b=_
   rw [hsl,List.set_set]
   exact hback
  ·rw [hcs.other k e]
   have:=h.calm k hk
   rw [zm _ _ e] at this
   exact this
 have hits:(s.abort r 1 nbs ⟨[⟨n,i,b⟩],[],1⟩).its=yp (qR s.its (some rw)) b n i:=by
  show (St.undos r 1 nbs 0 1 s).its=_
  rw [hu]
  show yp (qR s.its (ji (s.sto.page n) i)) b n i=_
  rw [hbf]
 have hcorr:vj (s.abort r 1 nbs ⟨[⟨n,i,b⟩],[],1⟩).its C:=by
  have hl2:∀ k,k<6->((zE C n ((C n).set i (some rw))) k).length=5:=fun k hk=>by
   by_cases e:k=n
   ·subst e;rw [zf,List.length_set];exact h.len k hk
   ·rw [zm _ _ e];exact h.len k hk
  have h3:=h.its.chg (o:=b) h.n6 h.i5 hl2 fun b' hb' y hy hs=>by
   subst hb'
   rcases (h.mem y).1 hy with rfl | ⟨h4,h5⟩
   ·exact ⟨rfl,rfl⟩
   ·exact absurd (hs.trans (h.oldk b' rfl)) h5
  rw [zf,List.getElem?_set_self hil] at h3
  rw [hits]
  refine h3.congr fun k hk=>?_
  by_cases e:k=n
  ·subst e;rw [zf,List.set_set,hback]
  ·rw [zm _ _ e,zm _ _ e]
 have hcl:=h.closed.abort h.xok h.x3 h.x1 hyok rfl rfl
 have he:rs++[x]++[jH r 4 1 n i (s.sto.get (nbs 0) n) (s.sto.page n) b]++[yW 1]=rs++[x,jH r 4 1 n i (s.sto.get (nbs 0) n) (s.sto.page n) b,yW 1]:=by simp
 rw [he] at hd2
 have hlk:(s.abort r 1 nbs ⟨[⟨n,i,b⟩],[],1⟩).lk=dropM s.lk 1:=by show dropM (St.undos r 1 nbs 0 1 s).lk _=_;rw [hu];rfl
 have hok:qi ((s.sto.chg r (nbs 0) 4 1 n i b).logged (yW 1)):=⟨hcs.ok.three,hcs.ok.hand,hcs.ok.uniq,hcs.ok.clean,by have:=hcs.ok.sure;simp only [zl.logged,List.length_append];omega⟩
 refine ⟨⟨_,⟨⟨by rw [hsto];exact hok,by rw [hsto];exact hd2,by rw [hsto];exact hcalm,hcorr⟩,hcl,?_,by rw [hlk];exact h.lk.dropM 1⟩⟩,?_,QQ hcorr.so h.was.so fun y=>(hcorr.mem y).trans (h.was.mem y).symm,by rw [hsto];exact hcs.gen⟩
 ·rw [List.take_append_of_le_length h.mle];exact h.closedm
 ·show (St.undos r 1 nbs 0 1 s).ts.set 1 none=Qw
  rw [hu]
  rfl
end Go.Proofs.YtechnoogjhohfaaGreat
namespace Go.Proofs.YtechnoogjhohfaaGreat
open Go.RowKit Go.Lib
open YtechnoogjhohfaaGreatW
section
variable {bz:Nat->Prop}
theorem zdk (H D r:Nat) (F:Nat->Prop) (cur:Nat->Nat->List UInt8) (ts:Nat->Tn) (boots:Nat) (q:Rq) (w:World) (P:An->World->Prop) (h:zP bz w H D F cur ts boots) (hr:r<4) (hl:(ts r).live=none) (htn:q.tn=r)
  (hkd:q.kd=0) (hP:∀ a W W',P a W->qQ W W'->P a W') (hct:(ts r).ct+1<1000000) (hbt:boots<1000000)
  (hend:∀ l F' cur' W,l.s=GC->l.ep=((yA ((ts r).ct+1) boots:Nat):Int)->l.nx=0->l.hs=[]->zP bz W H D F' cur' (yo ts F' r ⟨1,(ts r).ct+1,some l⟩) boots->P (qn 0) W) :
  Calls Tryz.prog 23 #[.pointer (some ⟨H,0,none⟩),.pointer (some ⟨H,1+r*5,none⟩),.agg (zL q).toArray] w fun e W'=>∃ a,e=.returned (.agg (zG a).toArray)/\a.er≠10/\zj bz w W'/\P a W':=by
 obtain ⟨w1,hw1⟩:∃ w1,w1=uO w q:=⟨_,rfl⟩
 have hB1:Below w.heap.size w w1:=by rw [hw1];exact jE w q
 have hX5:w1.heap[w.heap.size]?=some (.cells (zL q).toArray 37 (0,0)):=by rw [hw1];exact vP w q
 have hX6:w1.heap[w.heap.size+1]?=some (.cells #[.int .i64 0,.int .i64 0,.string { data:=#[] },.slice none 0 0,.slice none 0 0] 31 (0,0)):=by rw [hw1];exact vO w q
 have k0:=(cell_of_row w1 w.heap.size 0 _ _ _ hX5).trans (show _=some (Value.int .i64 q.kd) from rfl)
 rw [hkd] at k0
 have hh1:=h.below hB1
 have hc:=Jw D (fun r=>(ts r).t5) boots r hr
 obtain ⟨hst0,hz⟩:=hh1.gone r hr hl
 have ht5:(ts r).t5=⟨.pointer none,.pointer none,.int .i64 0,.int .u64 (ts r).ct,.bool false⟩:=by unfold Tn.t5;rw [hl];simp only [hst0];rfl
 have c2:=(cell_of_row w1 H (1+r*5+2) _ _ _ hh1.blk).trans hc.2.2.1
 simp only [ht5] at c2
 have hw1u:(w.alloc (.cells (zL q).toArray 37)).alloc (.cells #[.int .i64 0,.int .i64 0,.string { data:=#[] },.slice none 0 0,.slice none 0 0] 31)=w1:=hw1.symm
 have hcr:=zdy H D r F cur ts boots q w1 P hh1 hr hl htn hP hct hbt hend
 obtain ⟨HB1,HX5,HX6,HP,HW1,HCR⟩:=zi6 hB1 hX5 hX6 hP hw1u hcr
 clear hw1 hw1u hB1 hX5 hX6 hP hh1 h hend hcr hz hst0 ht5 hc htn
 go_enter Tryz.func23,Tryz.ntmps23
 go_upto_region 1 with fail
 rw [HW1.out]
 go_wp2_with (first
  | (show wpList _ _ _ (⟨some 23,_,_,_,_,_⟩::_) _ _;refine wpList_load_row rfl 37 (.tmp 5) rfl w.heap.size (by rfl) 37 _ (0,0) _ HX5.out Tryz.underlying37 rfl (by kernel_rfl) ?_)
  | (go_at_call 28;(with_reducible refine HCR.out.mono ?_);rintro e2 w2 ⟨an,rfl,hne,hkl,hp2⟩;have hx6:=hkl _ _ _ (by decide) HX6.out)
  | (show wpList _ _ _ (⟨none,.store 31 (.tmp 6) _,_,_,_,_⟩::_) _ _;refine zB rfl 31 (.tmp 6) (.tmp 24) rfl (w.heap.size+1) 0 31 _ (zG an).toArray (by rfl) (by rfl) hx6 (by simp [zG]) (by kernel_rfl) (by simp [zG,Value.oneCell']) ?_))
 refine ju (an:=an) 6 rfl rfl rfl hx6 rfl ⟨an,rfl,hne,((zj.below HB1.out).trans hkl).setRow (by omega) _,?_⟩
 exact HP.out _ _ _ hp2 (qQ.setRow hx6 _)
end
end Go.Proofs.YtechnoogjhohfaaGreat
