/-
  Joined by a program from texts written one by one: part 22 of the walk through the program and of the law behind it.
-/
import Derived.Test.YtechnoogjhohfaaGreatC21
import Derived.Test.YtechnoogjhohfaaGreatC12
import Derived.Deep.Cut
import Derived.Deep.CutRange
import Derived.WalkLawsBesides
import Derived.WalkSpells
set_option maxRecDepth 100000
set_option maxHeartbeats 6400000
set_option linter.unusedVariables false
set_option linter.unusedSimpArgs false
namespace Go.Proofs.YtechnoogjhohfaaGreat
open Go.RowKit Go.Lib
open YtechnoogjhohfaaGreatW
theorem GX (a:Va) (b:Vb) (cur:Nat->Nat->List UInt8) (s:St) (kind txn n slot T:Nat) (x:Tx) (o:Option Rw) (w:World) (h:zg w a b cur s) (hkd:kind=3∨kind=4) (ht1:1<=txn) (ht3:txn<=3) (htx:s.ts[txn]?=some (some (T,x))) (hx8:kind=3->x.ops<8)
  (hn:n<6) (hsl:slot<5) (ho:qX o) (hso:zJ s.its) (hil:s.its.length<=900) (hfit:s.sto.log.length+395<=14336) :
  Calls Tryz.prog 92 #[.pointer (some ⟨a.S,0,none⟩),.int .i64 kind,.int .i64 txn,.int .i64 n,.int .i64 slot,.string (za (zt o))] w fun e w'=>e=.returned (.int .i64 0)/\∃ nb b' cur',w.heap.size<=nb/\zg w' a b' cur' (s.chg a.r nb kind txn n slot o)/\qa w w' (zS a b s) (zS a b' (s.chg a.r nb kind txn n slot o)) cur cur' a.r:=by
 have k6:=h.c6
 have HG:=hid (Gb a.B a.D a.L a.r n b.FL b.F cur s.sto w h.sto hn)
 obtain ⟨H,HO⟩:=zi2 h ho
 clear h
 go_enter Tryz.func92,Tryz.ntmps92
 go_upto_region 4 with (go_at_call 121;(with_reducible refine HG.out.mono ?_);rintro e1 w1 ⟨nb,F1,cur1,rfl,hnb,hs1,he1⟩)
 obtain ⟨k,f,hfd,hfk,hfp⟩:=ZQ (s:=s.sto) nb n H.out.sto.pool.three H.out.sto.pool.hand
 obtain ⟨hgl,hgg,hgb⟩:=vM s.sto nb n
 obtain ⟨hA1,hE1⟩:=H.out.stoStep hs1 he1
 obtain ⟨blk,hblk⟩:∃ blk,blk=s.sto.blk nb n:=⟨_,rfl⟩
 obtain ⟨p,hp⟩:∃ p,p=s.sto.page n:=⟨_,rfl⟩
 rw [<- hblk,<- hp] at hfp
 rw [<- hblk]
 have hmem:=List.mem_of_getElem? hfk
 have hpg:=hs1.pool.pages f hmem blk n p hfp
 obtain ⟨_,hpok⟩:=hs1.fok f hmem blk n p hfp
 obtain ⟨bf,hbf⟩:∃ bf,bf=ji p slot:=⟨_,rfl⟩
 have hbs:p.slots[slot]?=some bf:=by
  rw [hbf];unfold ji
  obtain ⟨y,hy⟩:∃ y,p.slots[slot]?=some y:=⟨_,List.getElem?_eq_getElem (by rw [hpok.five];exact hsl)⟩
  rw [hy];rfl
 have hbok:qX bf:=hpok.rows bf (List.mem_of_getElem? hbs)
 have HSL:=hid (zdm blk slot bf w1 (qf.slot hpg hpok hbs) hbok (zd hpg) hsl)
 obtain ⟨HA1,HE1,HPG,HPOK,HBOK,HFD,HFK,HFP,HGL⟩:=zi9 hA1 hE1 hpg hpok hbok hfd hfk hfp hgl
 obtain ⟨HGG,HP,HBF,HMEM⟩:=zi4 hgg hp hbf hmem
 clear hfd hfk hfp hgl hgg hgb hA1 hE1 hblk hp hmem hpg hpok hbf hbs hbok hs1 he1 k6
 obtain ⟨rc,hrc⟩:∃ rc:List UInt8->Array Value,rc=fun im=>#[.int .i64 kind,.int .i64 txn,.int .i64 n,.int .i64 slot,.string (za (zt bf)),.string (za (zt o)),.string (za im),.slice none 0 0]:=⟨_,rfl⟩
 have HRC:=hid hrc
 clear hrc
 have HCL:=hid (zgd a.B a.D a.r a.L (s.sto.get nb n).hand n (s.sto.get nb n).fs (w1.alloc (.cells (rc []) 144)) (HA1.out.sto.pool.below (B_alloc (Below.refl _ _) _)))
 have k6:=jI HA1.out.c6 (.cells (rc []) 144)
 go_upto_if 47 with (first
  | (go_at_call 134;(with_reducible refine HSL.out.mono ?_);rintro e2 w2 ⟨rfl,hw2⟩;subst w2)
  | (show wpList _ _ _ (⟨none,.store 144 _ _,_,_,_,_⟩::_) _ _;refine zN rfl 144 (.tmp 15) (.tmp 41) rfl w1.heap.size rfl _ (rc []) (by rfl) (by rw [HRC.out];rfl) (by rw [HRC.out];kernel_rfl) (by rw [HRC.out];rfl) (by rw [HRC.out];simp [Value.oneCell']) ?_)
  | (go_at_call 135;(with_reducible refine HCL.out.mono ?_);rintro e3 w3 ⟨rfl,hw3⟩;subst w3))
 obtain ⟨im,him⟩:∃ im,im=if Ql (s.sto.get nb n).fs n then qz a.r n p else []:=⟨_,rfl⟩
 have HIM:=hid him
 clear him
 go_cut [14] from 21 (fun s14 wc=>s14=.int .i64 0/\Below w1.heap.size w1 wc/\wc.heap[w1.heap.size]?=some (.cells (rc im) 144 (0,0)))
 case first =>
  have hE:=zk w1 (.cells (rc []) 144) rfl
  have hB:=B_alloc (Below.refl _ w1) (.cells (rc []) 144)
  have hPB:=zy HPG.out (.cells (rc []) 144)
  have hr4:=HA1.out.sto.r4
  cases hcl:Ql (s.sto.get nb n).fs n with
  | false =>
   have hi2:im=[]:=by rw [HIM.out,hcl];rfl
   obtain ⟨HI2,HE,HB⟩:=zi3 hi2 hE hB
   clear hi2 hE hB hPB
   go_wp2_with fail
   go_meet
   case rel=>rw [HI2.out];exact ⟨rfl,HB.out,HE.out⟩
  | true =>
   have hi2:im=qz a.r n p:=by rw [HIM.out,hcl];rfl
   obtain ⟨HI2,HE,HB,HPB⟩:=zi4 hi2 hE hB hPB
   have hsz:(zK a.r n p).toArray.size=203:=by rw [List.size_toArray];exact ug HPOK.out
   have HSZ:=hid hsz
   clear hi2 hE hB hPB hsz
   go_wp2_with (first
    | (show wpList _ _ _ (⟨some 50,_,_,_,_,_⟩::_) _ _;refine wpList_load_row rfl 204 (.tmp 49) rfl blk (by rfl) 204 _ (0,0) _ HPB.out Tryz.underlying204 rfl (by rw [HSZ.out];kernel_rfl) ?_)
    | (go_at_call 136;(with_reducible refine (Gy a.r n p _ HPOK.out (by omega) (by omega)).mono ?_);rintro e4 w4 ⟨v4,rfl,hin4,hb4⟩)
    | (show wpList _ _ _ (⟨some 52,_,_,_,_,_⟩::_) _ _;refine wpList_plain rfl fun _ hK=>vR 29 9 (.tmp 51) rfl v4 (.string (za (qz a.r n p))) (by rfl) (vp hin4) (hK _ _ ?_))
    | (show wpList _ _ _ (⟨none,.store 9 _ _,_,_,_,_⟩::_) _ _;refine vC rfl 9 (.tmp 53) (.tmp 52) rfl w1.heap.size 6 (rc []) 144 (.string (za (qz a.r n p))) (by rfl) (by rfl) (by kernel_rfl) (zb HE.out hb4 (by simp)) (by rw [HRC.out];simp) rfl ?_))
   go_meet
   case rel =>
    rw [HI2.out]
    refine ⟨rfl,B_set (B_call HB.out hb4) (p:=⟨w1.heap.size,6,none⟩) (Nat.le_refl _) _,?_⟩
    rw [heap_setCell_same _ _ 6 _ _ _ (zb HE.out hb4 (by simp)),HRC.out]
    rfl
 case rest =>
  obtain ⟨rfl,hbc,hEc⟩:=hcut
  have hAc:=HA1.out.below hbc
  obtain ⟨X,hX⟩:∃ X,X=jH a.r kind txn n slot (s.sto.get nb n) p o:=⟨_,rfl⟩
  have hXv:ZB X (.slice none 0 0)=.agg (rc im):=by
   rw [hX,HRC.out,HIM.out]
   show ZB ⟨kind,txn,n,slot,ji p slot,o,_,[]⟩ _=_
   rw [<- HBF.out]
   rfl
  have hXok:X.ok:=by
   rw [hX]
   refine ⟨by simp only [jH];omega,by simp only [jH];omega,by simp only [jH];omega,hn,hsl,by simp only [jH];rw [<- HBF.out];exact HBOK.out,HO.out,?_,.inl rfl,by simp [jH]⟩
   simp only [jH]
   split
   ·exact .inr (jY HPOK.out)
   ·exact .inl rfl
  have hfx:(s.sto.get nb n).log.length+(qu X).length<=14336:=by rw [HGL.out];have:=yM hXok;omega
  have hla:=Gw a.L a.D a.r (s.sto.get nb n).gen (s.sto.get nb n).bank (s.sto.get nb n).log (s.sto.get nb n).sure b.FL X (.slice none 0 0) wc.drew hAc.drew.sto.lane hXok (by rw [show X.dirty=[] by rw [hX];rfl];exact vE.nil _) hAc.sto.gen32 hfx
  rw [hXv,HGG.out,HGL.out] at hla
  have HLA:=hid hla
  have hS:wc.drew.cell? ⟨a.S,5,none⟩=some (.pointer (some ⟨a.L,0,none⟩))/\wc.drew.heap[w1.heap.size]?=some (.cells (rc im) 144 (0,0)):=⟨hAc.drew.c5,hEc⟩
  obtain ⟨HAc,HEc,HX,HBc,HFX⟩:=zi5 hAc hEc hX hbc hfx
  have hrz:(rc im).size=8:=by rw [HRC.out];rfl
  have HRZ:=hid hrz
  clear hAc hEc hX hXv hla hbc hXok hfx hrz
  go_upto_region 7 with fail
  refine wp_region_noPanic ?_
  refine PrintLast.start_ (n:=11) (S:=(fun w'=>w'.cell? ⟨a.S,5,none⟩=some (.pointer (some ⟨a.L,0,none⟩))/\w'.heap[w1.heap.size]?=some (.cells (rc im) 144 (0,0)))) (ds:=[5]) (bA 11 0) (by kernel_rfl) rfl (by kernel_rfl) hS (fun hHeld=>?_)
  refine pu 0 55 11 1 rfl rfl ?_
  refine pu 1 56 11 3 rfl rfl ?_
  refine pu 2 57 11 7 rfl rfl ?_
  refine tq 3 58 11 15 rfl rfl ?_
  refine tk 4 59 11 31 rfl rfl (qE 144 (.tmp 15) rfl (by rfl) w1.heap.size (by rfl) 144 (rc im) (0,0) _ (fun _ h=>h.2) Tryz.underlying144 rfl (by rw [HRZ.out];kernel_rfl)) ?_
  refine la 5 11 63 (some 60) rfl rfl (fun K hK=>?_)
  show Oper.wp _ ⟨some 60,_,_,_,_,_⟩ _ _ _ _
  refine zq 64 _ _ [.pointer (some ⟨a.L,0,none⟩),.agg (rc im)] rfl (by kernel_rfl) (by rfl) (HLA.out.mono ?_)
  rintro e5 w5 ⟨rfl,FL5,hL5,hk5,hn5⟩
  refine ⟨_,rfl,?_⟩
  refine hK.out _ _ ?_
  clear hK K
  try simp only [pS]
  refine pu 6 54 11 127 rfl rfl ?_
  refine pu 7 61 11 255 rfl rfl ?_
  refine pu 8 62 11 511 rfl rfl ?_
  refine pu 9 16 11 1023 rfl rfl ?_
  refine pu 10 14 11 2047 rfl rfl ?_
  refine PrintLast.done_ (by kernel_rfl) ?_
  refine NoPanic.normal ?_
  rw [<- HGG.out,<- HGL.out] at hL5
  obtain ⟨hst5,he5⟩:=HAc.out.drew.sto.logStep hL5 hk5 hn5 HFX.out
  obtain ⟨hA5,hE5⟩:=HAc.out.drew.stoStep hst5 he5
  have hbx5:w5.heap[w1.heap.size]?=some (.cells (rc im) 144 (0,0)):=(hk5.block _ (zd HEc.out) (fun hx=>by
   have h9:=HAc.out.sto.lane.tag _ hx
   rw [zc HEc.out] at h9;simp at h9)).trans HEc.out
  have hEw5:qa w w5 (zS a b s) _ cur cur1 a.r:=(HE1.out.call HBc.out.drew).trans hE5
  have k4:w5.cell? ⟨w1.heap.size,4,none⟩=some (.string (za (zt bf))):=by rw [cell_of_row _ _ 4 _ _ _ hbx5,HRC.out];rfl
  have hbsz:(za (zt bf)).size<=100000:=by rw [qt];rcases Js HBOK.out with h | h<;>rw [h]<;>simp
  obtain ⟨vb,W6,hconv,hinb,hbW⟩:=YD w5 (za (zt bf)) hbsz
  rw [JZ] at hinb
  have hdec:=JB vb bf HBOK.out W6 hinb
  unfold zhS at hdec
  obtain ⟨HDEC,HBW,HA5,HEW5,HBX5⟩:=zi5 hdec hbW hA5 hEw5 hbx5
  clear hL5 hst5 he5 hA5 hE5 hEw5 hk5 hn5 hbx5 hbsz hinb hbW hdec hHeld hS
  go_upto_if 74 with (first
   | (go_at_call 137;(with_reducible refine HDEC.out.mono ?_);rintro e6 w6 ⟨rfl,hb6⟩)
   | (show wpList _ _ _ (⟨none,.store 34 _ _,_,_,_,_⟩::_) _ _;refine zN rfl 34 (.tmp 17) (.tmp 71) rfl w6.heap.size rfl _ (Qy bf) (by rfl) (by rfl) (by rw [Ju];kernel_rfl) (by rw [Ju];rfl) (zcv bf) ?_))
  have hb7:Below w5.heap.size w5 (w6.alloc (.cells (Qy bf) 34)):=B_alloc (B_call HBW.out hb6) _
  obtain ⟨w7,hw7⟩:∃ w7,w6.alloc (.cells (Qy bf) 34)=w7:=⟨_,rfl⟩
  have hd7:w7.heap[w6.heap.size]?=some (.cells (Qy bf) 34 (0,0)):=by rw [<- hw7];exact zk _ _ rfl
  rw [hw7] at hb7
  have HA7:=hid (HA5.out.below hb7)
  obtain ⟨HB7,HD7⟩:=zi2 hb7 hd7
  rw [hw7]
  clear hw7 hb7 hd7 hb6 hconv k4
  go_cut [14] from 21 (fun s14 wc=>s14=.int .i64 0/\∃ v',zg wc a { FL:=FL5,F:=F1,G:=b.G,v:=v',T:=b.T } cur1 { sto:=(s.sto.get nb n).logged X,its:=qR s.its bf,ts:=s.ts,lk:=s.lk }/\qa w7 wc (zS a { b with FL:=FL5,F:=F1 } { s with sto:=(s.sto.get nb n).logged X }) (zS a { FL:=FL5,F:=F1,G:=b.G,v:=v',T:=b.T } { sto:=(s.sto.get nb n).logged X,its:=qR s.its bf,ts:=s.ts,lk:=s.lk }) cur1 cur1 a.r)
  case first =>
   cases bf with
   | none =>
    have d0:zcw none=9:=rfl
    go_wp2_with fail
    go_meet
    case rel=>exact ⟨rfl,b.v,HA7.out,qa.refl _ _ _ _⟩
   | some r0 =>
    have d0:zcw (some r0)=0:=rfl
    have hrm:=zfq a.S 7 r0.t r0.k b.v s.its (qF s.its ⟨r0.t,r0.k,[]⟩) w7.drew HA7.out.drew.idx (by omega) (Cut.of_sorted hso)
    have HRM:=hid hrm
    clear hrm
    go_upto_region 12 with fail
    have hS:w7.drew.heap[w6.heap.size]?=some (.cells #[.int .i64 r0.t,.string (za r0.k),.string (za r0.v)] 34 (0,0)):=HD7.out
    refine wp_region_noPanic ?_
    refine PrintLast.start_ (n:=8) (S:=(fun w'=>w'.heap[w6.heap.size]?=some (.cells #[.int .i64 r0.t,.string (za r0.k),.string (za r0.v)] 34 (0,0)))) (ds:=[7]) (bA 8 0) (by kernel_rfl) rfl (by kernel_rfl) hS (fun hHeld=>?_)
    refine pu 0 75 8 1 rfl rfl ?_
    refine pu 1 76 8 3 rfl rfl ?_
    refine pu 2 77 8 7 rfl rfl ?_
    refine pu 3 78 8 15 rfl rfl ?_
    refine tk 4 79 8 31 rfl rfl (Or.inl ⟨by rfl,fun _ h=>(by have k0:=(cell_of_row _ w6.heap.size 0 _ _ _ h).trans (show _=some (Value.int .i64 r0.t) from rfl);go_simp;with_reducible rfl)⟩) ?_
    refine pu 5 80 8 63 rfl rfl ?_
    refine tk 6 81 8 127 rfl rfl (Or.inl ⟨by rfl,fun _ h=>(by have k0:=(cell_of_row _ w6.heap.size 1 _ _ _ h).trans (show _=some (Value.string (za r0.k)) from rfl);go_simp;with_reducible rfl)⟩) ?_
    refine la 7 8 255 (some 82) rfl rfl (fun K hK=>?_)
    show Oper.wp _ ⟨some 82,_,_,_,_,_⟩ _ _ _ _
    refine zq 138 _ _ [.pointer (some ⟨a.S,7,none⟩),.int .i64 r0.t,.string (za r0.k)] rfl (by kernel_rfl) (by rfl) (HRM.out.mono ?_)
    rintro e8 w8 ⟨rfl,w0,v',hw8,hk8,hv8,hi8⟩
    refine ⟨_,rfl,?_⟩
    refine hK.out _ _ ?_
    clear hK K
    try simp only [pS]
    refine PrintLast.done_ (by kernel_rfl) ?_
    refine NoPanic.normal ?_
    obtain ⟨hA8,hE8⟩:=HA7.out.drew.idxStep hw8 hk8 (fun q hq=>.inl (by rw [<- hv8];exact hq)) hi8
    obtain ⟨HA8,HE8⟩:=zi2 hA8 hE8
    clear hA8 hE8 hw8 hk8 hv8 hi8 hHeld hS
    go_wp2_with fail
    go_meet
    case rel=>exact ⟨rfl,v',HA8.out,HE8.out.of_drew⟩
  case rest =>
   obtain ⟨rfl,v1,hA8,hE8⟩:=hcut
   have HX8:=hid (HA7.out.box (zb HBX5.out HB7.out (zd HBX5.out)) hE8)
   have hpg8:qf wc blk a.r n p:=hA8.sto.pool.pages f HMEM.out blk n p HFP.out
   have HSET:=hid (zeE blk a.r n slot p o wc hpg8 HPOK.out HO.out hsl)
   have HA8:=hid hA8
   have HE8:=hid (((HEW5.out.call HB7.out)).trans hE8)
   clear hA8 hE8 hpg8
   go_upto_region 14 with (go_at_call 125;(with_reducible refine HSET.out.mono ?_);rintro e9 w9 ⟨rfl,hset9,hk9⟩)
   obtain ⟨m,hm⟩:∃ m,m=qD s.sto.gen s.sto.log.length:=⟨_,rfl⟩
   rw [<- hm]
   have hneB:blk≠a.B:=HA8.out.sto.pool.ne HMEM.out HFP.out
   have hneS:a.S≠blk:=fun e=>by
    have h9:=zc HA8.out.row
    rw [e,zc (HA8.out.sto.pool.pages f HMEM.out blk n p HFP.out)] at h9;cases h9
   have k6:=ue HA8.out.c6 hk9 hneS
   have hfok:(({ pg:=some (blk,n,p.set slot o),since:=f.since,again:=f.again }:zu)).num=f.num:=by simp [zu.num,HFP.out]
   have hp9:zQ w9 a.B a.D a.r a.L ((s.sto.get nb n).fs.set k ⟨some (blk,n,p.set slot o),f.since,f.again⟩) (s.sto.get nb n).hand:=by
    refine HA8.out.sto.pool.put (f:=f) HFK.out ?_ HA8.out.sto.pool.hand ?_ ?_ ?_
    ·have hpc:qs a.D a.r a.L ((s.sto.get nb n).fs.set k ⟨some (blk,n,p.set slot o),f.since,f.again⟩) (s.sto.get nb n).hand=qs a.D a.r a.L (s.sto.get nb n).fs (s.sto.get nb n).hand:=ZU HFK.out (by simp [zV,zu.adr,HFP.out])
     show w9.heap[a.B]?=some (.cells (qs a.D a.r a.L ((s.sto.get nb n).fs.set k ⟨some (blk,n,p.set slot o),f.since,f.again⟩) (s.sto.get nb n).hand).toArray 200 (0,0))
     rw [hpc]
     exact qj HA8.out.sto.pool.blk hk9 (fun e=>hneB e.symm)
    ·intro b' n' p' he
     injection he with he;cases he
     exact hset9
    ·intro j g b' n' p' hj hg hgp
     refine hk9.block _ (zd (HA8.out.sto.pool.pages g (List.mem_of_getElem? hg) b' n' p' hgp)) (fun e=>hj ?_)
     exact HA8.out.sto.pool.apart j k g f b' n' p' n p hg HFK.out hgp (by rw [e];exact HFP.out)
    ·intro b' n' p' he
     injection he with he;cases he
     exact .inl ⟨_,_,HFP.out⟩
   have HTOU:=hid (zbO a.B a.D a.r a.L (s.sto.get nb n).hand n m _ w9 hp9)
   obtain ⟨HM,HSET9,HK9⟩:=zi3 hm hset9 hk9
   clear hm hset9 hk9 hp9 hneB hneS hfok
   go_upto_region 15 with (go_at_call 126;(with_reducible refine HTOU.out.mono ?_);rintro e10 w10 ⟨rfl,htch,hk10⟩)
   have hmlt:m≠0/\m<18446744073709551616:=by
    have h1:=HA8.out.sto.gen32
    have h2:(s.sto.get nb n).gen=s.sto.gen:=HGG.out
    have h3:s.sto.gen<4294967296:=by rw [<- h2];exact h1
    rw [HM.out];unfold qD;omega
   obtain ⟨hst10,he10⟩:=HA8.out.sto.rowStep (k:=k) (f:=f) HFD.out HFK.out HFP.out HSET9.out HK9.out htch hk10 hmlt.1 hmlt.2 HO.out
   obtain ⟨hA10,hE10⟩:=HA8.out.stoStep hst10 he10
   have hEw10:=HE8.out.trans hE10
   have HX10:=hid (HA8.out.box HX8.out hE10)
   have hsto:((s.sto.get nb n).logged X).setRow n slot o m=s.sto.chg a.r nb kind txn n slot o:=by
    rw [HX.out,HM.out,HP.out];rfl
   simp only [hsto] at hA10 hEw10
   have hbsz:(za (zt o)).size<=100000:=by rw [qt];rcases Js HO.out with h | h<;>rw [h]<;>simp
   obtain ⟨vb2,W12,hconv,hinb,hbW⟩:=YD w10 (za (zt o)) hbsz
   rw [JZ] at hinb
   have hdec:=JB vb2 o HO.out W12 hinb
   unfold zhS at hdec
   obtain ⟨HDEC2,HBW2,HA10,HE10⟩:=zi4 hdec hbW hA10 hEw10
   clear hbsz hinb hbW hdec hst10 he10 hA10 hE10 hEw10 hsto htch hk10 hmlt k6
   go_upto_if 101 with (first
    | (go_at_call 137;(with_reducible refine HDEC2.out.mono ?_);rintro e12 w12 ⟨rfl,hb12⟩)
    | (show wpList _ _ _ (⟨none,.store 34 _ _,_,_,_,_⟩::_) _ _;refine zN rfl 34 (.tmp 19) (.tmp 98) rfl w12.heap.size rfl _ (Qy o) (by rfl) (by rfl) (by rw [Ju];kernel_rfl) (by rw [Ju];rfl) (zcv o) ?_))
   have hb13:Below w10.heap.size w10 (w12.alloc (.cells (Qy o) 34)):=B_alloc (B_call HBW2.out hb12) _
   obtain ⟨w13,hw13⟩:∃ w13,w12.alloc (.cells (Qy o) 34)=w13:=⟨_,rfl⟩
   have hd13:w13.heap[w12.heap.size]?=some (.cells (Qy o) 34 (0,0)):=by rw [<- hw13];exact zk _ _ rfl
   rw [hw13] at hb13
   have HA13:=hid (HA10.out.below hb13)
   obtain ⟨HB13,HD13⟩:=zi2 hb13 hd13
   rw [hw13]
   clear hw13 hb13 hd13 hb12 hconv
   have hsr:zJ (qR s.its bf)/\(qR s.its bf).length<=900:=by
    cases bf with
    | none=>exact ⟨hso,hil⟩
    | some r0 =>
     refine ⟨zJ.rem hso,?_⟩
     simp only [qR,uI]
     split
     ·rw [List.length_eraseIdx];split<;>omega
     ·exact hil
   have HSR:=hid hsr
   clear hsr
   go_cut [14] from 21 (fun s14 wc=>s14=.int .i64 0/\∃ v',zg wc a { FL:=FL5,F:=F1,G:=b.G,v:=v',T:=b.T } cur1 { sto:=s.sto.chg a.r nb kind txn n slot o,its:=yp (qR s.its bf) o n slot,ts:=s.ts,lk:=s.lk }/\qa w13 wc (zS a { FL:=FL5,F:=F1,G:=b.G,v:=v1,T:=b.T } { sto:=s.sto.chg a.r nb kind txn n slot o,its:=qR s.its bf,ts:=s.ts,lk:=s.lk }) (zS a { FL:=FL5,F:=F1,G:=b.G,v:=v',T:=b.T } { sto:=s.sto.chg a.r nb kind txn n slot o,its:=yp (qR s.its bf) o n slot,ts:=s.ts,lk:=s.lk }) cur1 cur1 a.r)
   case first =>
    cases o with
    | none =>
     have d0:zcw none=9:=rfl
     go_wp2_with fail
     go_meet
     case rel=>exact ⟨rfl,v1,HA13.out,qa.refl _ _ _ _⟩
    | some r1 =>
     have d0:zcw (some r1)=0:=rfl
     have hpt:=zey a.S 7 v1 (qR s.its bf) ⟨r1,n,slot⟩ (qF (qR s.its bf) r1) w13.drew HA13.out.drew.idx (by have:=HSR.out.2;omega) (Cut.of_sorted HSR.out.1)
     have HPT:=hid hpt
     clear hpt
     go_upto_region 17 with fail
     have hS:w13.drew.heap[w12.heap.size]?=some (.cells #[.int .i64 r1.t,.string (za r1.k),.string (za r1.v)] 34 (0,0)):=HD13.out
     refine wp_region_noPanic ?_
     refine PrintLast.start_ (n:=8) (S:=(fun w'=>w'.heap[w12.heap.size]?=some (.cells #[.int .i64 r1.t,.string (za r1.k),.string (za r1.v)] 34 (0,0)))) (ds:=[7]) (bA 8 0) (by kernel_rfl) rfl (by kernel_rfl) hS (fun hHeld=>?_)
     refine pu 0 102 8 1 rfl rfl ?_
     refine pu 1 103 8 3 rfl rfl ?_
     refine pu 2 104 8 7 rfl rfl ?_
     refine tk 3 105 8 15 rfl rfl (qE 34 (.tmp 19) rfl (by rfl) w12.heap.size (by rfl) 34 #[.int .i64 r1.t,.string (za r1.k),.string (za r1.v)] (0,0) _ (fun _ h=>h) Tryz.underlying34 rfl (by kernel_rfl)) ?_
     refine pu 4 106 8 31 rfl rfl ?_
     refine pu 5 107 8 63 rfl rfl ?_
     refine pu 6 108 8 127 rfl rfl ?_
     refine la 7 8 255 (some 109) rfl rfl (fun K hK=>?_)
     show Oper.wp _ ⟨some 109,_,_,_,_,_⟩ _ _ _ _
     refine zq 128 _ _ [.pointer (some ⟨a.S,7,none⟩),.agg #[.int .i64 r1.t,.string (za r1.k),.string (za r1.v),.int .i64 n,.int .i64 slot]] rfl (by kernel_rfl) (by rfl) (HPT.out.mono ?_)
     rintro e14 w14 ⟨rfl,w0,v',hw14,hk14,hv14,hi14⟩
     refine ⟨_,rfl,?_⟩
     refine hK.out _ _ ?_
     clear hK K
     try simp only [pS]
     refine PrintLast.done_ (by kernel_rfl) ?_
     refine NoPanic.normal ?_
     obtain ⟨hA14,hE14⟩:=HA13.out.drew.idxStep hw14 hk14 (fun q hq=>hv14.elim (fun e=>.inl (by rw [<- e];exact hq)) (fun ⟨q',e,hle⟩=>.inr (by rw [e] at hq;cases hq;exact hle))) hi14
     obtain ⟨HA14,HE14⟩:=zi2 hA14 hE14
     clear hA14 hE14 hw14 hk14 hv14 hi14 hHeld hS
     go_wp2_with fail
     go_meet
     case rel=>exact ⟨rfl,v',HA14.out,HE14.out.of_drew⟩
   case rest =>
    obtain ⟨rfl,v2,hA15,hE15⟩:=hcut
    have HX15:=hid (HA13.out.box (zb HX10.out HB13.out (zd HX10.out)) hE15)
    have HA15:=hid hA15
    have HE15:=hid ((HE10.out.call HB13.out).trans hE15)
    clear hA15 hE15
    rcases hkd with rfl | rfl
    ·obtain ⟨c,hc⟩:∃ c:Chg,c=⟨n,slot,bf⟩:=⟨_,rfl⟩
     have hfin:s.chg a.r nb 3 txn n slot o={ sto:=s.sto.chg a.r nb 3 txn n slot o,its:=yp (qR s.its bf) o n slot,ts:=s.ts.set txn (some (T,⟨x.list++[c],x.saves,x.ops+1⟩)),lk:=s.lk }:=by
      unfold St.chg
      rw [<- HP.out,<- HBF.out,if_pos rfl,hc]
      simp only [zfj,htx]
     obtain ⟨htxA,hxok⟩:=HA15.out.tab.tx txn T x htx
     have hget:=Yg a.S txn s.ts (some (T,x)) wc.drew HA15.out.drew.tab.row ht1 ht3 htx
     have hpush:=zjT T x c (b.G txn) wc.drew (HA15.out.drew.tab.tx txn T x htx).1 hxok (hx8 rfl)
     simp only [Option.map_some] at hget
     obtain ⟨HGET,HPUSH,HFIN,HC,HXOK⟩:=zi5 hget hpush hfin hc hxok
     clear hget hpush hfin hc htxA hxok
     go_upto_region 19 with fail
     have hS:wc.drew.heap[w1.heap.size]?=some (.cells (rc im) 144 (0,0)):=HX15.out
     refine wp_region_noPanic ?_
     refine PrintLast.start_ (n:=11) (S:=(fun w'=>w'.heap[w1.heap.size]?=some (.cells (rc im) 144 (0,0)))) (ds:=[10]) (bA 11 0) (by kernel_rfl) rfl (by kernel_rfl) hS (fun hHeld=>?_)
     refine pu 0 112 11 1 rfl rfl ?_
     refine pu 1 113 11 3 rfl rfl ?_
     refine pu 2 114 11 7 rfl rfl ?_
     refine pu 3 115 11 15 rfl rfl ?_
     refine pu 5 117 11 47 rfl rfl ?_
     refine pu 6 118 11 111 rfl rfl ?_
     refine pu 7 119 11 239 rfl rfl ?_
     refine tk 8 120 11 495 rfl rfl (Or.inl ⟨by rfl,fun w' h=>(by have k0:w'.cell? ⟨w1.heap.size,4,none⟩=some (.string (za (zt bf))):=(by rw [cell_of_row w' w1.heap.size 4 _ _ _ h,HRC.out];rfl);go_simp;with_reducible rfl)⟩) ?_
     refine pu 9 121 11 1007 rfl rfl ?_
     refine on 4 11 1023 (some 116) rfl rfl (fun K hK=>?_)
     show Oper.wp _ ⟨some 116,_,_,_,_,_⟩ _ _ _ _
     refine zq 88 _ _ [.pointer (some ⟨a.S,1,none⟩),.int .i64 txn] rfl (by kernel_rfl) (by rfl) (HGET.out.mono ?_)
     rintro e16 w16 ⟨rfl,hw16⟩
     subst hw16
     refine ⟨_,rfl,?_⟩
     refine hK.out _ _ hHeld (fun hHeld=>?_)
     clear hK K
     try simp only [pS]
     refine la 10 11 2047 (some 122) rfl rfl (fun K hK=>?_)
     show Oper.wp _ ⟨some 122,_,_,_,_,_⟩ _ _ _ _
     refine zq 139 _ _ [.pointer (some ⟨T,0,none⟩),.agg (zw c).toArray] rfl (by kernel_rfl) (by rw [HC.out];rfl) (HPUSH.out.mono ?_)
     rintro e17 w17 ⟨rfl,G',htx17,hk17,hn17⟩
     refine ⟨_,rfl,?_⟩
     refine hK.out _ _ ?_
     clear hK K
     try simp only [pS]
     refine PrintLast.done_ (by kernel_rfl) ?_
     refine NoPanic.normal ?_
     have hok17:({ list:=x.list++[c],saves:=x.saves,ops:=x.ops+1 }:Tx).ok:=by
      have h8:=hx8 rfl
      refine ⟨by show x.ops+1<=8;omega,by have:=HXOK.out.len;simp only [List.length_append,List.length_singleton];omega,HXOK.out.s4,fun d hd=>?_⟩
      rcases List.mem_append.1 hd with hd | hd
      ·exact HXOK.out.chg d hd
      ·rw [List.mem_singleton.1 hd,HC.out];exact ⟨hn,hsl,HBOK.out⟩
     obtain ⟨hA17,hE17⟩:=HA15.out.drew.txStep htx htx17 hok17 hk17 hn17
     have HA17:=hid hA17
     have HE17:=hid (HE15.out.trans hE17.of_drew)
     clear hA17 hE17 htx17 hk17 hn17 hok17 hHeld hS
     go_wp2_with fail
     go_ret
     refine ⟨rfl,nb,hnb,{ FL:=FL5,F:=F1,G:=zE b.G txn G',v:=v2,T:=b.T },cur1,?_⟩
     rw [HFIN.out]
     exact ⟨HA17.out,HE17.out⟩
    ·have hfin:s.chg a.r nb 4 txn n slot o={ sto:=s.sto.chg a.r nb 4 txn n slot o,its:=yp (qR s.its bf) o n slot,ts:=s.ts,lk:=s.lk }:=by
      unfold St.chg
      rw [<- HP.out,<- HBF.out];rfl
     have HFIN:=hid hfin
     clear hfin
     go_wp2_with fail
     go_ret
     refine ⟨rfl,nb,{ FL:=FL5,F:=F1,G:=b.G,v:=v2,T:=b.T },cur1,hnb,?_⟩
     rw [HFIN.out]
     exact ⟨HA15.out,HE15.out⟩
def zR (ts:qL) (nbs:Nat->Nat):Nat->Nat->zl->zl × Option (Nat × Nat)
 | 0,_,s=>(s,none)
 | g+1,k,s=>match uR (s.page k) (jv (zH ts) k) with
  | some i=>(s.get (nbs k) k,some (k,i))
  | none=>zR ts nbs g (k+1) (s.get (nbs k) k)
def zcX:Option (Nat × Nat)->Value
 | some (k,i)=>.tuple #[.int .i64 k,.int .i64 i,.int .i64 0]
 | none=>.tuple #[.int .i64 0,.int .i64 0,.int .i64 7]
theorem Yo {ts:qL} {nbs:Nat->Nat} {g k i:Nat} {s:zl} (h:uR (s.page k) (jv (zH ts) k)=some i):zR ts nbs (g+1) k s=(s.get (nbs k) k,some (k,i)):=by simp only [zR,h]
theorem Yn {ts:qL} {nbs:Nat->Nat} {g k:Nat} {s:zl} (h:uR (s.page k) (jv (zH ts) k)=none):zR ts nbs (g+1) k s=zR ts nbs g (k+1) (s.get (nbs k) k):=by simp only [zR,h]
theorem zfg (a:Va) (b:Vb) (cur:Nat->Nat->List UInt8) (s:St) (w:World) (h:zg w a b cur s) :
  Calls Tryz.prog 91 #[.pointer (some ⟨a.S,0,none⟩)] w fun e w'=>∃ nbs b' cur',e=.returned (zcX (zR s.ts nbs 6 0 s.sto).2)/\zg w' a b' cur' { s with sto:=(zR s.ts nbs 6 0 s.sto).1 }/\qa w w' (zS a b s) (zS a b' { s with sto:=(zR s.ts nbs 6 0 s.sto).1 }) cur cur' a.r:=by
 have H:=hid h
 obtain ⟨R,hR⟩:∃ R:Nat->World->Prop,R=fun k wr=>∃ (nbs:Nat->Nat) (sk:zl) (b':Vb) (cur':Nat->Nat->List UInt8),(∀ nbs':Nat->Nat,(∀ j,j<k->nbs' j=nbs j)->zR s.ts nbs' 6 0 s.sto=zR s.ts nbs' (6-k) k sk)/\zg wr a b' cur' { s with sto:=sk }/\qa w wr (zS a b s) (zS a b' { s with sto:=sk }) cur cur' a.r:=⟨_,rfl⟩
 have hR0:R 0 w:=by rw [hR];exact ⟨fun _=>0,s.sto,b,cur,fun _ _=>rfl,h,qa.refl _ _ _ _⟩
 obtain ⟨E,hE⟩:∃ E:Ending->World->Prop,E=fun e w'=>∃ nbs b' cur',e=.returned (zcX (zR s.ts nbs 6 0 s.sto).2)/\zg w' a b' cur' { s with sto:=(zR s.ts nbs 6 0 s.sto).1 }/\qa w w' (zS a b s) (zS a b' { s with sto:=(zR s.ts nbs 6 0 s.sto).1 }) cur cur' a.r:=⟨_,rfl⟩
 rw [<- hE]
 obtain ⟨HR,HR0,HE⟩:=zi3 hR hR0 hE
 clear h hR hR0 hE
 go_enter Tryz.func91,Tryz.ntmps91
 go_upto_region 2 with fail
 go_loopw [9] (fun u wr=>∃ k:Nat,k<=6/\u=.int .i64 k/\R k wr) (fun u _=>(6-jl u).toNat)
 case atStart=>exact ⟨0,Nat.zero_le _,rfl,HR0.out⟩
 case round =>
  obtain ⟨k,hk,rfl,hrk⟩:=hrel
  rw [HR.out] at hrk
  obtain ⟨nbs,sk,bk,curk,hpl,hA,hEf⟩:=hrk
  by_cases hlt:k<6
  ·have q1:(k:Int)<6:=by omega
   have x2:IntKind.i64.wrap ((k:Int)+1)=(k:Int)+1:=by rw [IntKind.wrap_i64];omega
   have HG:=hid (Gb a.B a.D a.L a.r k bk.FL bk.F curk sk wr hA.sto hlt)
   have k6:=hA.c6
   obtain ⟨HA,HEF,HPL⟩:=zi3 hA hEf hpl
   clear hA hEf hpl
   go_upto_region 7 with (go_at_call 121;(with_reducible refine HG.out.mono ?_);rintro e1 w1 ⟨nb,F1,cur1,rfl,hnb,hs1,he1⟩)
   obtain ⟨kf,f,hfd,hfk,hfp⟩:=ZQ (s:=sk) nb k HA.out.sto.pool.three HA.out.sto.pool.hand
   obtain ⟨hA1,hE1⟩:=HA.out.stoStep hs1 he1
   have hpg:=hs1.pool.pages f (List.mem_of_getElem? hfk) _ _ _ hfp
   have hpok:=(hs1.fok f (List.mem_of_getElem? hfk) _ _ _ hfp).2
   have HKE:=hid (zik a.S k s.ts bk.G w1 hA1.tab)
   have hle:(jv (zH s.ts) k).length<=10000:=by
    have e1:=GL (zH s.ts) k
    have e2:=hA1.tab.chgs_le _ (Nat.le_refl _)
    have e3:=jP s.ts 0
    have e4:=hA1.tab.len
    rw [List.take_length] at e2
    simp only at e2 e4
    have:(zH s.ts).length<=4:=by rw [<- e4];exact e3
    omega
   have HA1:=hid hA1
   have HE1:=hid (HEF.out.trans hE1)
   obtain ⟨HPG,HPOK⟩:=zi2 hpg hpok
   clear hfd hfk hfp hA1 hE1 hpg hpok hs1 he1 k6
   obtain ⟨fr,hfr⟩:∃ fr,fr=uR (sk.page k) (jv (zH s.ts) k):=⟨_,rfl⟩
   have HFR:=hid hfr
   clear hfr
   go_upto_if 32 with (first
    | (go_at_call 133;(with_reducible refine HKE.out.mono ?_);rintro e2 w2 ⟨v2,rfl,hv2,hb2⟩;obtain ⟨A2,c2,rfl⟩:=own_slice hv2;have HFREE:=hid (zif _ a.r k _ A2 c2 _ w2 (show qf w2 _ _ _ _ from zb (show w1.heap[_]?=_ from HPG.out) hb2 (zd (show w1.heap[_]?=_ from HPG.out))) HPOK.out (zx.of_own hv2) hle);rw [<- HFR.out] at HFREE)
    | (go_at_call 132;(with_reducible refine HFREE.out.mono ?_);rintro e3 w3 ⟨rfl,hw3⟩;subst w3))
   have HA2:=hid (HA1.out.below hb2)
   have HE2:=hid (HE1.out.call hb2)
   clear hb2 hv2 hle
   cases fr with
   | some i =>
    have q2:(0:Int)<=(i:Int):=by omega
    have o1:ziE (some i)=(i:Int):=rfl
    go_wp2_with fail
    refine ⟨rfl,_,results_tmp3 rfl _ _ _,?_⟩
    rw [HE.out]
    have hfin:zR s.ts (zE nbs k nb) 6 0 s.sto=(sk.get nb k,some (k,i)):=by
     rw [HPL.out (zE nbs k nb) (fun j hj=>zm _ _ (by omega)),show 6-k=(5-k)+1 by omega,Yo HFR.out.symm,zf]
    refine ⟨zE nbs k nb,?_⟩
    rw [hfin]
    exact ⟨_,_,rfl,HA2.out,HE2.out⟩
   | none =>
    have o1:ziE none=-1:=rfl
    go_wp2_with fail
    go_roundw
    case rel =>
     refine ⟨k+1,by omega,by simp,?_⟩
     rw [HR.out]
     refine ⟨zE nbs k nb,sk.get nb k,_,_,fun nbs' hn=>?_,HA2.out,HE2.out⟩
     rw [HPL.out nbs' (fun j hj=>by rw [hn j (by omega),zm _ _ (by omega)]),show 6-k=(6-(k+1))+1 by omega,Yn HFR.out.symm,hn k (by omega),zf]
    case measure=>simp [jl];omega
  ·have hke:k=6:=by omega
   subst hke
   obtain ⟨HA,HEF,HPL⟩:=zi3 hA hEf hpl
   clear hA hEf hpl
   go_wp2_with fail
   refine ⟨rfl,_,results_tmp3 rfl _ _ _,?_⟩
   rw [HE.out]
   have hfin:=HPL.out nbs (fun _ _=>rfl)
   refine ⟨nbs,?_⟩
   rw [hfin]
   exact ⟨_,_,rfl,HA.out,HEF.out⟩
section
theorem Yi {n:Nat} (h:n<=1000000):iok (n:Int):=iok_of ⟨by omega,by omega⟩
section
variable {w:World} {a:Va} {b:Vb} {cur:Nat->Nat->List UInt8} {s:St}
theorem zkH (h:zg w a b cur s) (hW:WF s.lk) {txn t:Nat} {k:List UInt8} (hx:txn<=1000) (ht:t<=1000) (hk:k.length<=1000) :
  Calls Tryz.prog 87 #[.pointer (some ⟨a.K,0,none⟩),.int .i64 txn,.int .i64 t,.string (za k),.bool true] w fun e w'=>e=.returned (.bool (keyB s.lk txn t (za k)))/\∃ b',zg w' a b' cur { s with lk:=keyS s.lk txn t (za k) }/\qa w w' (zS a b s) (zS a b' { s with lk:=keyS s.lk txn t (za k) }) cur cur a.r:=by
 have hc:=zlj a.LB a.K a.bm b.T txn t (za k) (Yi (by omega)) (by rw [qt];unfold maxLen;omega) (Yi (by omega)) w h.lk (by rw [<- h.lkM];exact hW)
 refine hc.mono ?_
 rintro e w' ⟨rfl,T',h1,h2,h3,h4⟩
 obtain ⟨hA,hE⟩:=h.lkStep h1 h4 h3
 rw [h2,<- h.lkM] at hA hE
 rw [<- h.lkM]
 exact ⟨rfl,_,hA,hE⟩
theorem zjX (h:zg w a b cur s) {txn t:Nat} {k:List UInt8} (hx:txn<=1000) (ht:t<=1000) (hk:k.length<=1000) :
  Calls Tryz.prog 87 #[.pointer (some ⟨a.K,0,none⟩),.int .i64 txn,.int .i64 t,.string (za k),.bool false] w fun e w'=>e=.returned (.bool (takeB s.lk txn (t,za k,false) 1))/\∃ b',zg w' a b' cur { s with lk:=takeS s.lk txn (t,za k,false) 1 }/\qa w w' (zS a b s) (zS a b' { s with lk:=takeS s.lk txn (t,za k,false) 1 }) cur cur a.r:=by
 have hc:=zkU a.LB a.K a.bm b.T txn t (za k) (Yi (by omega)) (by rw [qt];unfold maxLen;omega) (Yi (by omega)) w h.lk
 refine hc.mono ?_
 rintro e w' ⟨rfl,T',h1,h2,h3,h4⟩
 obtain ⟨hA,hE⟩:=h.lkStep h1 h4 h3
 rw [h2,<- h.lkM] at hA hE
 rw [<- h.lkM]
 exact ⟨rfl,_,hA,hE⟩
theorem KY (h:zg w a b cur s) {txn:Nat} (hx:txn<=1000) :
  Calls Tryz.prog 96 #[.pointer (some ⟨a.K,0,none⟩),.int .i64 txn] w fun e w'=>e=.returned (.tuple #[])/\∃ b',zg w' a b' cur { s with lk:=dropM s.lk txn }/\qa w w' (zS a b s) (zS a b' { s with lk:=dropM s.lk txn }) cur cur a.r:=by
 have hc:=zku a.LB a.K a.bm b.T txn (Yi (by omega)) w h.lk
 refine hc.mono ?_
 rintro e w' ⟨rfl,T',h1,h2,h3,h4⟩
 obtain ⟨hA,hE⟩:=h.lkStep h1 (fun X hX hb ho=>⟨h3.block X hX (fun hy=>hy.elim (fun hy=>hy.elim hb (fun ⟨p,hp,e⟩=>ho p hp e)) (fun hy=>by omega)),h4 X ho⟩) h3
 rw [h2,<- h.lkM] at hA hE
 exact ⟨rfl,_,hA,hE⟩
theorem GZ (h:zg w a b cur s) {n:Nat} (h1:1<=n) (h3:n<=3) :
  Calls Tryz.prog 95 #[.pointer (some ⟨a.S,1,none⟩),.int .i64 n] w fun e w'=>e=.returned (.tuple #[])/\∃ b',zg w' a b' cur { s with ts:=s.ts.set n none }/\qa w w' (zS a b s) (zS a b' { s with ts:=s.ts.set n none }) cur cur a.r:=by
 obtain ⟨o,ho⟩:∃ o,s.ts[n]?=some o:=⟨_,List.getElem?_eq_getElem (by rw [h.tab.len];omega)⟩
 refine (zjE a.S n s.ts o w h.tab.row h1 h3 ho).mono ?_
 rintro e w' ⟨rfl,rfl⟩
 obtain ⟨hA,hE⟩:=h.tabStep (o:=none) (G':=fun _=>False) (Below.refl _ w) h1 h3 (fun _ hx=>hx.elim) (fun _ _ e=>by cases e) (fun _ _ hx=>hx)
 exact ⟨rfl,_,hA,hE⟩
end
def zl.synced (s:zl):zl:={ s with sure:=s.log.length }
theorem zie (a:Va) (b:Vb) (cur:Nat->Nat->List UInt8) (s:St) (w:World) (h:zg w a b cur s) :
  Calls Tryz.prog 66 #[.pointer (some ⟨a.L,0,none⟩)] w fun e w'=>e=.returned (.int .i64 0)/\∃ b' cur',zg w' a b' cur' { s with sto:=s.sto.synced }/\qa w w' (zS a b s) (zS a b' { s with sto:=s.sto.synced }) cur cur' a.r:=by
 have hst:=h.sto
 refine (zag a.D b.F b.FL cur a.L a.r s.sto.gen s.sto.bank s.sto.log s.sto.sure w hst.lane hst.disk hst.on hst.r4 hst.bank1 hst.gen32 hst.len hst.sure_).mono ?_
 rintro e w' ⟨rfl,F',cur',hL,hD,hon,hso,hk,hn⟩
 have hpl:∀ x,ya a.B s.sto.fs x->w'.heap[x]?=w.heap[x]?:=fun x hx=>hk.block x (hst.pool.lt hx) (fun hy=>by
  have h9:=hst.pool.tag hx
  rcases hy with hy | hy
  ·have:=hst.lane.tag x hy;simp at h9 this;omega
  ·have:=hst.disk.tags hy;simp at h9 this;omega)
 have hst':qc w' a.B a.D a.L a.r b.FL F' cur' s.sto.synced:=by
  refine ⟨hst.pool.same hpl,hL,hD,?_,fun n hn i hi=>?_,hst.r4,hst.bank1,hst.gen32,hst.len,Nat.le_refl _,hst.dpok,hst.fok⟩
  ·show jN (cur' a.r) s.sto.gen s.sto.bank (s.sto.log.take s.sto.log.length)
   rw [List.take_length];exact hon
  ·exact (hso a.r _ (.inr (.inr (by omega)))).trans (hst.pgs n hn i hi)
 have he:qa w w' (qG a.B b.FL b.F s.sto) (qG a.B b.FL F' s.sto.synced) cur cur' a.r:=by
  refine ⟨fun r' q h=>hso r' q (h.imp id .inl),hk.wide (fun x hx=>hx.elim (fun h=>.inl (.inl h)) (fun h=>.inl (.inr h))),fun x hx=>?_⟩
  rcases hx with (hx | hx) | hx
  ·exact .inl (.inl (.inl hx))
  ·exact (hn x hx).imp (fun h=>.inl (.inr h)) id
  ·exact .inl (.inr hx)
 obtain ⟨hA,hE⟩:=h.stoStep hst' he
 exact ⟨rfl,_,cur',hA,hE⟩
theorem zbh (a:Va) (b:Vb) (cur:Nat->Nat->List UInt8) (s:St) (x:zI) (dv:Value) (w:World) (h:zg w a b cur s) (hx:x.ok) (hdv:vE w dv x.dirty) (hfit:s.sto.log.length+(qu x).length<=14336) :
  Calls Tryz.prog 64 #[.pointer (some ⟨a.L,0,none⟩),ZB x dv] w fun e w'=>e=.returned (.tuple #[.int .u64 (qD s.sto.gen s.sto.log.length),.int .i64 0])/\∃ b',zg w' a b' cur { s with sto:=s.sto.logged x }/\qa w w' (zS a b s) (zS a b' { s with sto:=s.sto.logged x }) cur cur a.r:=by
 refine (Gw a.L a.D a.r s.sto.gen s.sto.bank s.sto.log s.sto.sure b.FL x dv w h.sto.lane hx hdv h.sto.gen32 hfit).mono ?_
 rintro e w' ⟨rfl,FL',hL,hk,hn⟩
 obtain ⟨hst',he⟩:=h.sto.logStep hL hk hn hfit
 obtain ⟨hA,hE⟩:=h.stoStep hst' he
 exact ⟨rfl,_,hA,hE⟩
def qC (txn:Nat):zI:=⟨5,txn,0,0,none,none,[],[]⟩
def St.commit (s:St) (txn:Nat) (x:Tx):St :=
 { s with sto:=if x.list=[] then s.sto else (s.sto.logged (qC txn)).synced,ts:=s.ts.set txn none,lk:=dropM s.lk txn }
theorem QI {txn:Nat} (h:txn<=255):(qC txn).ok:=⟨by simp [qC],by simp [qC],h,by simp [qC],by simp [qC],trivial,trivial,.inl rfl,.inl rfl,by simp [qC]⟩
theorem zeO (a:Va) (b:Vb) (cur:Nat->Nat->List UInt8) (s:St) (txn T:Nat) (x:Tx) (w:World) (h:zg w a b cur s) (ht1:1<=txn) (ht3:txn<=3) (htx:s.ts[txn]?=some (some (T,x))) (hfit:s.sto.log.length+395<=14336) :
  Calls Tryz.prog 49 #[.pointer (some ⟨a.S,0,none⟩),.int .i64 txn] w fun e w'=>e=.returned (.int .i64 0)/\∃ b' cur',zg w' a b' cur' (s.commit txn x)/\qa w w' (zS a b s) (zS a b' (s.commit txn x)) cur cur' a.r:=by
 have hget:=Yg a.S txn s.ts (some (T,x)) w h.tab.row ht1 ht3 htx
 simp only [Option.map_some] at hget
 obtain ⟨htxA,hxok⟩:=h.tab.tx txn T x htx
 have HGET:=hid hget
 have HLEN:=hid (zcO T x (b.G txn) w htxA)
 have H:=hid h
 have k5:=h.c5
 obtain ⟨n,hn⟩:∃ n,n=x.list.length:=⟨_,rfl⟩
 rw [<- hn] at HLEN
 have HN:=hid hn
 clear h hget htxA hxok hn
 cases n with
 | zero =>
  have hl:x.list=[]:=List.eq_nil_of_length_eq_zero HN.out.symm
  have hS:s.commit txn x={ s with ts:=s.ts.set txn none,lk:=dropM s.lk txn }:=by unfold St.commit;rw [if_pos hl]
  have HS:=hid hS
  clear hl hS
  go_enter Tryz.func49,Tryz.ntmps49
  go_upto_region 9 with (first
   | (go_at_call 88;(with_reducible refine HGET.out.mono ?_);rintro e1 w1 ⟨rfl,hw1⟩;subst w1)
   | (go_at_call 94;(with_reducible refine HLEN.out.mono ?_);rintro e2 w2 ⟨rfl,hw2⟩;subst w2)
   | (go_at_call 95;(with_reducible refine (GZ H.out ht1 ht3).mono ?_);rintro e3 w3 ⟨rfl,b3,hA3,hE3⟩))
  have k0:=hA3.c0
  obtain ⟨HA3,HE3⟩:=zi2 hA3 hE3
  clear hA3 hE3
  go_wp2_with (go_at_call 96;(with_reducible refine (KY HA3.out (by omega)).mono ?_);rintro e4 w4 ⟨rfl,b4,hA4,hE4⟩)
  go_ret
  rw [HS.out]
  exact ⟨rfl,b4,cur,hA4,HE3.out.trans hE4⟩
 | succ m =>
  have hl:x.list≠[]:=fun e=>by rw [e] at HN;exact absurd HN.out (by simp)
  have hS:s.commit txn x={ s with sto:=(s.sto.logged (qC txn)).synced,ts:=s.ts.set txn none,lk:=dropM s.lk txn }:=by unfold St.commit;rw [if_neg hl]
  have q1:(0:Int)<((m:Int)+1):=by omega
  have hap:=zbh a b cur s (qC txn) (.slice none 0 0) w H.out (QI (by omega)) (vE.nil _) (by have:=yM (QI (txn:=txn) (by omega));omega)
  rw [show ZB (qC txn) (.slice none 0 0)=.agg #[.int .i64 5,.int .i64 txn,.int .i64 0,.int .i64 0,.string { data:=#[] },.string { data:=#[] },.string { data:=#[] },.slice none 0 0] from rfl] at hap
  obtain ⟨HAP,HS⟩:=zi2 hap hS
  clear hl hS hap
  go_enter Tryz.func49,Tryz.ntmps49
  go_upto_region 5 with (first
   | (go_at_call 88;(with_reducible refine HGET.out.mono ?_);rintro e1 w1 ⟨rfl,hw1⟩;subst w1)
   | (go_at_call 94;(with_reducible refine HLEN.out.mono ?_);rintro e2 w2 ⟨rfl,hw2⟩;subst w2)
   | (go_at_call 64;(with_reducible refine HAP.out.mono ?_);rintro e5 w5 ⟨rfl,b5,hA5,hE5⟩))
  have k5':=hA5.c5
  obtain ⟨HA5,HE5⟩:=zi2 hA5 hE5
  clear hA5 hE5
  go_upto_region 8 with (go_at_call 66;(with_reducible refine (zie a b5 cur _ w5 HA5.out).mono ?_);rintro e6 w6 ⟨rfl,b6,cur6,hA6,hE6⟩)
  have HA6:=hid hA6
  have HE6:=hid (HE5.out.trans hE6)
  clear hA6 hE6 k5'
  go_upto_region 9 with (go_at_call 95;(with_reducible refine (GZ HA6.out ht1 ht3).mono ?_);rintro e3 w3 ⟨rfl,b3,hA3,hE3⟩)
  have k0:=hA3.c0
  have HA3:=hid hA3
  have HE3:=hid (HE6.out.trans hE3)
  clear hA3 hE3
  go_wp2_with (go_at_call 96;(with_reducible refine (KY HA3.out (by omega)).mono ?_);rintro e4 w4 ⟨rfl,b4,hA4,hE4⟩)
  go_ret
  rw [HS.out]
  exact ⟨rfl,b4,cur6,hA4,HE3.out.trans hE4⟩
end
def yB (its:List It) (r:Rw):Option It:=match its[qF its r]? with
 | some x=>if vw x.rw r=0 then some x else none
 | none=>none
def uu:Option It->Array Value
 | some x=>(zC x).toArray
 | none=>#[.int .i64 0,.string { data:=#[] },.string { data:=#[] },.int .i64 0,.int .i64 0]
theorem QZ (o:Option It):(uu o).size=5:=by cases o<;>rfl
theorem Gd (o:Option It):(uu o).all (·.oneCell')=true:=by cases o<;>simp [uu,zC,Value.oneCell']
theorem zic (its:List It) (r:Rw):Jv its r (qF its r)=(.agg (uu (yB its r)),(yB its r).isSome):=by
 unfold Jv yB
 cases its[qF its r]? with
 | none=>rfl
 | some x =>
  simp only
  split<;>rfl
theorem zeq {w:World} {a:Va} {b:Vb} {cur:Nat->Nat->List UInt8} {s:St} (h:zg w a b cur s) (hs:zJ s.its) (hl:s.its.length<=900) (t:Nat) (k:List UInt8) :
  Calls Tryz.prog 90 #[.pointer (some ⟨a.S,7,none⟩),.int .i64 t,.string (za k)] w fun e w'=>e=.returned (.tuple #[.agg (uu (yB s.its ⟨t,k,[]⟩)),.bool (yB s.its ⟨t,k,[]⟩).isSome])/\Below w.heap.size w w':=by
 have:=zid a.S 7 t k b.v s.its (qF s.its ⟨t,k,[]⟩) w h.c7 h.its (by omega) (Cut.of_sorted hs)
 rw [zic] at this
 exact this
def St.put (s:St) (r:Nat) (nbs:Nat->Nat) (nb txn ops:Nat) (rw:Rw):Nat × St :=
 if keyB s.lk txn rw.t (za rw.k)=false then (6,s)
 else if 8<=ops then (8,{ s with lk:=keyS s.lk txn rw.t (za rw.k) })
 else match yB s.its ⟨rw.t,rw.k,[]⟩ with
  | some x=>(0,({ s with lk:=keyS s.lk txn rw.t (za rw.k) }:St).ready.chg r nb 3 txn x.pg x.sl (some rw))
  | none=>match (zR s.ts nbs 6 0 s.sto).2 with
   | none=>(7,{ s with lk:=keyS s.lk txn rw.t (za rw.k),sto:=(zR s.ts nbs 6 0 s.sto).1 })
   | some (n,i)=>(0,({ s with lk:=keyS s.lk txn rw.t (za rw.k),sto:=(zR s.ts nbs 6 0 s.sto).1 }:St).ready.chg r nb 3 txn n i (some rw))
theorem GP (s:St):s.ready.its=s.its/\s.ready.ts=s.ts/\s.ready.lk=s.lk:=by
 unfold St.ready;split<;>exact ⟨rfl,rfl,rfl⟩
def pN:Option (Nat × Nat)->Nat
 | some (n,_)=>n
 | none=>0
def pI:Option (Nat × Nat)->Nat
 | some (_,i)=>i
 | none=>0
def ziG:Option (Nat × Nat)->Int
 | some _=>0
 | none=>7
theorem zgO (o:Option (Nat × Nat)):zcX o=.tuple #[.int .i64 (pN o),.int .i64 (pI o),.int .i64 (ziG o)]:=by
 rcases o with _ | ⟨n,i⟩<;>rfl
theorem Gv {l:List (Option Rw)} {but:List Nat}:∀ {k i j:Nat},jS l but k i=some j->j<i+k
 | 0,i,j,h=>by simp [jS] at h
 | k+1,i,j,h=>by
  unfold jS at h
  split at h
  ·injection h with h;omega
  ·have:=Gv h;omega
theorem KH {ts:qL} {nbs:Nat->Nat}:∀ {g k:Nat} {s:zl} {n i:Nat},(zR ts nbs g k s).2=some (n,i)->n<k+g/\i<5
 | 0,k,s,n,i,h=>by simp [zR] at h
 | g+1,k,s,n,i,h=>by
  unfold zR at h
  split at h
  ·rename_i j hj
   simp only [Option.some.injEq,Prod.mk.injEq] at h
   obtain ⟨rfl,rfl⟩:=h
   have:=Gv hj
   exact ⟨by omega,by omega⟩
  ·have:=KH h;omega
theorem Zd {ts:qL} {nbs:Nat->Nat}:∀ {g k:Nat} {s:zl},(zR ts nbs g k s).1.gen=s.gen
 | 0,k,s=>rfl
 | g+1,k,s=>by
  unfold zR
  split
  ·exact (vM s _ _).2.1
  ·exact Zd.trans (vM s _ _).2.1
theorem zgW {w:World} {a:Va} {b:Vb} {cur:Nat->Nat->List UInt8} {s:St} (h:zg w a b cur s):s.ready.sto.log.length+395<=14336:=by
 unfold St.ready
 split
 ·rename_i hle
  unfold Jx at hle;omega
 ·have h1:=h.tab.packLen
  have h2:=GQ (fun r hr=>(h.tab.packOk r hr).1)
  show (zp (qY s.ts)).length+395<=14336
  omega
theorem zil {M:Lk} {txn t:Nat} {k:ByteArray} (h:keyB M txn t k=false):keyS M txn t k=M:=by unfold keyS;rw [if_neg (by rw [h];simp)]
theorem zg.notT {w:World} {a:Va} {b:Vb} {cur:Nat->Nat->List UInt8} {s:St} (h:zg w a b cur s) {x t:Nat} {C:Array Value} (hx:w.heap[x]?=some (.cells C t (0,0))) (hn:t ∉ [103,222,100001,136,208,150,3,200,204,194,5,81,118,86,120]):¬ zS a b s x:=fun hy=>by
 obtain ⟨t1,t2,t3,t4,t5,t6⟩:=h.tags
 have ht:=zc hx
 simp only [List.mem_cons,List.not_mem_nil,or_false,not_or] at hn t5 t6
 rcases hy with (rfl | rfl | hy | hy | ⟨i,hy⟩ | hy | hy) | hy
 ·rw [t1] at ht;omega
 ·rw [t2] at ht;omega
 ·rw [t3 x hy] at ht;omega
 ·rw [t4 x hy] at ht;omega
 ·have:=t5 i x hy;rw [ht] at this;omega
 ·have:=t6 x (.inl (.inl hy));rw [ht] at this;omega
 ·have:=t6 x (.inr hy);rw [ht] at this;omega
 ·have:=t6 x (.inl (.inr hy));rw [ht] at this;omega
theorem qa.notIn {w w':World} {M M':Nat->Prop} {cur cur':Nat->Nat->List UInt8} {r x:Nat} (h:qa w w' M M' cur cur' r) (hx:¬ M x) (hlt:x<w.heap.size):¬ M' x:=fun hy=>(h.new x hy).elim hx (fun h=>by omega)
theorem qa.blk {w w':World} {M M':Nat->Prop} {cur cur':Nat->Nat->List UInt8} {r x:Nat} {o:Obj} (h:qa w w' M M' cur cur' r) (hx:¬ M x) (ho:w.heap[x]?=some o):w'.heap[x]?=some o:=(h.keep.block x (Qn ho) hx).trans ho
theorem zkS (a:Va) (b:Vb) (cur:Nat->Nat->List UInt8) (s:St) (txn T:Nat) (x:Tx) (rw:Rw) (w:World) (h:zg w a b cur s) (ht1:1<=txn) (ht3:txn<=3) (htx:s.ts[txn]?=some (some (T,x))) (hrw:rw.ok) (hW:WF s.lk)
  (hso:zJ s.its) (hil:s.its.length<=900) (hpos:∀ y,y∈s.its->y.pg<6/\y.sl<5) (hgen:s.sto.gen+1<4294967296) :
  Calls Tryz.prog 48 #[.pointer (some ⟨a.S,0,none⟩),.int .i64 txn,.agg #[.int .i64 rw.t,.string (za rw.k),.string (za rw.v)]] w fun e w'=>∃ nbs nb b' cur',e=.returned (.int .i64 (s.put a.r nbs nb txn x.ops rw).1)/\zg w' a b' cur' (s.put a.r nbs nb txn x.ops rw).2/\qa w w' (zS a b s) (zS a b' (s.put a.r nbs nb txn x.ops rw).2) cur cur' a.r:=by
 obtain ⟨w1,hw1⟩:∃ w1,w1=w.alloc (.cells #[.int .i64 rw.t,.string (za rw.k),.string (za rw.v)] 34):=⟨_,rfl⟩
 have hb1:Below w.heap.size w w1:=by rw [hw1];exact B_alloc (Below.refl _ _) _
 have hX1:w1.heap[w.heap.size]?=some (.cells #[.int .i64 rw.t,.string (za rw.k),.string (za rw.v)] 34 (0,0)):=by rw [hw1];exact zk _ _ rfl
 have hA1:=h.below hb1
 have HKEY:=hid (zkH hA1.drew hW (txn:=txn) (t:=rw.t) (k:=rw.k) (by omega) (by have:=hrw.1;omega) (by have:=hrw.2.1;omega))
 obtain ⟨HA1,HB1,HX1⟩:=zi3 hA1 hb1 hX1
 have hS:w1.drew.cell? ⟨a.S,0,none⟩=some (.pointer (some ⟨a.K,0,none⟩))/\w1.drew.heap[w.heap.size]?=some (.cells #[.int .i64 rw.t,.string (za rw.k),.string (za rw.v)] 34 (0,0)):=⟨hA1.c0,hX1⟩
 have H:=hid h
 clear h hb1 hX1 hA1
 go_enter Tryz.func48,Tryz.ntmps48
 go_upto_region 1 with fail
 rw [<- hw1]
 clear hw1
 refine wp_region_noPanic ?_
 refine PrintLast.start_ (n:=11) (S:=(fun w'=>w'.cell? ⟨a.S,0,none⟩=some (.pointer (some ⟨a.K,0,none⟩))/\w'.heap[w.heap.size]?=some (.cells #[.int .i64 rw.t,.string (za rw.k),.string (za rw.v)] 34 (0,0)))) (ds:=[9]) (bA 11 0) (by kernel_rfl) rfl (by kernel_rfl) hS (fun hHeld=>?_)
 refine pu 0 11 11 1 rfl rfl ?_
 refine pu 1 12 11 3 rfl rfl ?_
 refine pu 2 13 11 7 rfl rfl ?_
 refine tq 3 14 11 15 rfl rfl ?_
 refine pu 4 15 11 31 rfl rfl ?_
 refine pu 5 16 11 63 rfl rfl ?_
 refine tk 6 17 11 127 rfl rfl (Or.inl ⟨by rfl,fun _ h=>(by have k0:=(cell_of_row _ w.heap.size 0 _ _ _ h.2).trans (show _=some (Value.int .i64 rw.t) from rfl);go_simp;with_reducible rfl)⟩) ?_
 refine pu 7 18 11 255 rfl rfl ?_
 refine tk 8 19 11 511 rfl rfl (Or.inl ⟨by rfl,fun _ h=>(by have k0:=(cell_of_row _ w.heap.size 1 _ _ _ h.2).trans (show _=some (Value.string (za rw.k)) from rfl);go_simp;with_reducible rfl)⟩) ?_
 refine la 9 11 1023 (some 20) rfl rfl (fun K hK=>?_)
 show Oper.wp _ ⟨some 20,_,_,_,_,_⟩ _ _ _ _
 refine zq 87 _ _ [.pointer (some ⟨a.K,0,none⟩),.int .i64 txn,.int .i64 rw.t,.string (za rw.k),.bool true] rfl (by kernel_rfl) (by rfl) (HKEY.out.mono ?_)
 rintro e2 w2 ⟨rfl,b2,hA2,hE2⟩
 refine ⟨_,rfl,?_⟩
 refine hK.out _ _ ?_
 clear hK K
 try simp only [pS]
 refine pu 10 21 11 2047 rfl rfl ?_
 refine PrintLast.done_ (by kernel_rfl) ?_
 refine NoPanic.normal ?_
 have hX2:w2.heap[w.heap.size]?=some (.cells #[.int .i64 rw.t,.string (za rw.k),.string (za rw.v)] 34 (0,0)):=hE2.blk (HA1.out.drew.notT HX1.out (by decide)) HX1.out
 have hN2:¬ zS a b2 { s with lk:=keyS s.lk txn rw.t (za rw.k) } w.heap.size:=hE2.notIn (HA1.out.drew.notT HX1.out (by decide)) (zd HX1.out)
 have HA2:=hid hA2
 have HE2:=hid (((qa.refl _ _ _ _).call HB1.out.drew).trans hE2)
 obtain ⟨HX2,HN2⟩:=zi2 hX2 hN2
 clear hA2 hE2 hX2 hN2 hHeld hS
 cases hk:keyB s.lk txn rw.t (za rw.k) with
 | false =>
  have HK:=hid hk
  clear hk
  go_wp2_with fail
  go_ret
  refine ⟨fun _=>0,0,b2,cur,?_⟩
  unfold St.put
  rw [if_pos HK.out]
  have hA:=HA2.out
  have hE:=HE2.out
  rw [zil HK.out] at hA hE
  exact ⟨rfl,hA,hE⟩
 | true =>
  have hget:=Yg a.S txn s.ts (some (T,x)) w2 HA2.out.tab.row ht1 ht3 htx
  simp only [Option.map_some] at hget
  obtain ⟨htxA,hxok⟩:=HA2.out.tab.tx txn T x htx
  have HGET:=hid hget
  have HFULL:=hid (zjF T x (b2.G txn) w2 htxA)
  obtain ⟨HXOK,HK⟩:=zi2 hxok hk
  clear hk hget htxA hxok
  by_cases h8:8<=x.ops
  ·have d8:decide (8<=x.ops)=true:=decide_eq_true h8
   go_wp2_with (first
    | (go_at_call 88;(with_reducible refine HGET.out.mono ?_);rintro e3 w3 ⟨rfl,hw3⟩;subst w3)
    | (go_at_call 89;(with_reducible refine HFULL.out.mono ?_);rintro e4 w4 ⟨rfl,hw4⟩;subst w4))
   go_ret
   refine ⟨fun _=>0,0,b2,cur,?_⟩
   unfold St.put
   rw [if_neg (by rw [HK.out];simp),if_pos h8]
   exact ⟨rfl,HA2.out,HE2.out⟩
  ·have d8:decide (8<=x.ops)=false:=decide_eq_false h8
   go_upto_region 5 with (first
    | (go_at_call 88;(with_reducible refine HGET.out.mono ?_);rintro e3 w3 ⟨rfl,hw3⟩;subst w3)
    | (go_at_call 89;(with_reducible refine HFULL.out.mono ?_);rintro e4 w4 ⟨rfl,hw4⟩;subst w4))
   have hput:∀ nbs nb,s.put a.r nbs nb txn x.ops rw=match yB s.its ⟨rw.t,rw.k,[]⟩ with
    | some y=>(0,({ s with lk:=keyS s.lk txn rw.t (za rw.k) }:St).ready.chg a.r nb 3 txn y.pg y.sl (some rw))
    | none=>match (zR s.ts nbs 6 0 s.sto).2 with
     | none=>(7,{ s with lk:=keyS s.lk txn rw.t (za rw.k),sto:=(zR s.ts nbs 6 0 s.sto).1 })
     | some (n,i)=>(0,({ s with lk:=keyS s.lk txn rw.t (za rw.k),sto:=(zR s.ts nbs 6 0 s.sto).1 }:St).ready.chg a.r nb 3 txn n i (some rw)):=fun nbs nb=>by
    unfold St.put
    rw [if_neg (by rw [HK.out];simp),if_neg h8]
   have HPUT:=hid hput
   obtain ⟨fi,hfi⟩:∃ fi,fi=yB s.its ⟨rw.t,rw.k,[]⟩:=⟨_,rfl⟩
   have HFI:=hid hfi
   have hfind:∀ W,Below w2.heap.size w2 W->Calls Tryz.prog 90 #[.pointer (some ⟨a.S,7,none⟩),.int .i64 rw.t,.string (za rw.k)] W fun e w'=>e=.returned (.tuple #[.agg (uu fi),.bool fi.isSome])/\Below W.heap.size W w':=fun W hb=>by
    rw [hfi];exact zeq (HA2.out.below hb) hso hil rw.t rw.k
   have HFIND:=hid hfind
   have k1:=(cell_of_row _ w.heap.size 0 _ _ _ HX2.out).trans (show _=some (Value.int .i64 rw.t) from rfl)
   have k2:=(cell_of_row _ w.heap.size 1 _ _ _ HX2.out).trans (show _=some (Value.string (za rw.k)) from rfl)
   clear hput hfi hfind
   go_cut [7,8] from 11 (fun s7 s8 wc=>∃ X,s7=.pointer (some ⟨X,0,none⟩)/\s8=.bool fi.isSome/\w2.heap.size<=X/\wc.heap[X]?=some (.cells (uu fi) 136 (0,0))/\Below w2.heap.size w2 wc)
   case first =>
    have hS:w2.drew.cell? ⟨w.heap.size,0,none⟩=some (.int .i64 rw.t)/\w2.drew.cell? ⟨w.heap.size,1,none⟩=some (.string (za rw.k))/\Below w2.heap.size w2 w2.drew:=⟨k1,k2,(Below.refl _ _).drew⟩
    refine wp_region_noPanic ?_
    refine PrintLast.start_ (n:=14) (S:=(fun w'=>w'.cell? ⟨w.heap.size,0,none⟩=some (.int .i64 rw.t)/\w'.cell? ⟨w.heap.size,1,none⟩=some (.string (za rw.k))/\Below w2.heap.size w2 w')) (ds:=[12]) (bA 14 0) (by kernel_rfl) rfl (by kernel_rfl) hS (fun hHeld=>?_)
    refine pu 0 29 14 1 rfl rfl ?_
    refine pu 1 30 14 3 rfl rfl ?_
    refine pu 2 31 14 7 rfl rfl ?_
    refine pu 3 32 14 15 rfl rfl ?_
    refine tk 4 33 14 31 rfl rfl (Or.inl ⟨by rfl,fun _ h=>(by have k0:=h.1;go_simp;with_reducible rfl)⟩) ?_
    refine pu 5 34 14 63 rfl rfl ?_
    refine tk 6 35 14 127 rfl rfl (Or.inl ⟨by rfl,fun _ h=>(by have k0:=h.2.1;go_simp;with_reducible rfl)⟩) ?_
    refine PrintLast.two_ (i:=7) (j:=11) (Ni:=some 36) (Nj:=some 7) (bA 14 255) (bA 14 2175) rfl rfl rfl rfl (by kernel_rfl) (by simp) (by simp) (fun K hK=>?_) (fun K hK=>?_)
    ·rw [if_pos (by rfl)]
     show Oper.wp _ ⟨some 36,_,_,_,_,_⟩ _ _ _ _
     have hHeld0:=hHeld
     refine zq 90 _ _ [.pointer (some ⟨a.S,7,none⟩),.int .i64 rw.t,.string (za rw.k)] rfl (by kernel_rfl) (by rfl) ((HFIND.out _ hHeld.2.2).mono ?_)
     rintro e5 w5 ⟨rfl,hb5⟩
     refine ⟨_,rfl,?_⟩
     refine hK.out _ _ ⟨qk hHeld.1 hb5 (uj hHeld.1),qk hHeld.2.1 hb5 (uj hHeld.2.1),B_call hHeld.2.2 hb5⟩ (fun hHeld=>?_)
     clear hK K
     try simp only [pS]
     refine pu 8 28 14 511 rfl rfl ?_
     refine pu 9 37 14 1023 rfl rfl ?_
     refine pu 10 38 14 2047 rfl rfl ?_
     refine on 11 14 4095 (some 7) rfl rfl (fun K hK=>?_)
     show Oper.wp _ ⟨some 7,_,_,_,_,_⟩ _ _ _ _
     refine YR 136 rfl _ rfl (.agg (uu none)) (by kernel_rfl) ?_
     refine hK.out _ _ ⟨jI hHeld.1 _,jI hHeld.2.1 _,B_alloc hHeld.2.2 _⟩ (fun hHeld=>?_)
     clear hK K
     try simp only [pS]
     refine la 12 14 8191 none rfl rfl (fun K hK=>?_)
     show Oper.wp _ ⟨none,_,_,_,_,_⟩ _ _ _ _
     refine uC 136 (.tmp 7) (.tmp 37) rfl _ rfl _ (uu fi) (by rfl) (by rfl) (by rw [QZ];kernel_rfl) (by rw [QZ];rfl) (Gd fi) ?_
     refine hK.out _ _ ?_
     clear hK K
     try simp only [pS]
     refine pu 13 8 14 16383 rfl rfl ?_
     refine PrintLast.done_ (by kernel_rfl) ?_
     refine NoPanic.normal ?_
     have HX:=hid (zk w5 (.cells (uu fi) 136) rfl)
     have HB:=hid (B_alloc (B_call hHeld0.2.2 hb5) (.cells (uu fi) 136))
     have HZ:=hid (Nat.le_trans hHeld0.2.2.size hb5.size)
     clear hHeld hHeld0 hS hb5
     go_wp2_with fail
     go_meet
     case rel=>exact ⟨_,rfl,rfl,HZ.out,HX.out,HB.out⟩
    ·rw [if_pos (by rfl)]
     show Oper.wp _ ⟨some 7,_,_,_,_,_⟩ _ _ _ _
     refine YR 136 rfl _ rfl (.agg (uu none)) (by kernel_rfl) ?_
     refine hK.out _ _ ⟨jI hHeld.1 _,jI hHeld.2.1 _,B_alloc hHeld.2.2 _⟩ (fun hHeld=>?_)
     clear hK K
     try simp only [pS]
     refine on 7 14 2303 (some 36) rfl rfl (fun K hK=>?_)
     show Oper.wp _ ⟨some 36,_,_,_,_,_⟩ _ _ _ _
     have hHeld0:=hHeld
     refine zq 90 _ _ [.pointer (some ⟨a.S,7,none⟩),.int .i64 rw.t,.string (za rw.k)] rfl (by kernel_rfl) (by rfl) ((HFIND.out _ hHeld.2.2).mono ?_)
     rintro e5 w5 ⟨rfl,hb5⟩
     refine ⟨_,rfl,?_⟩
     refine hK.out _ _ ⟨qk hHeld.1 hb5 (uj hHeld.1),qk hHeld.2.1 hb5 (uj hHeld.2.1),B_call hHeld.2.2 hb5⟩ (fun hHeld=>?_)
     clear hK K
     try simp only [pS]
     refine pu 8 28 14 2559 rfl rfl ?_
     refine pu 9 37 14 3071 rfl rfl ?_
     refine pu 10 38 14 4095 rfl rfl ?_
     refine la 12 14 8191 none rfl rfl (fun K hK=>?_)
     show Oper.wp _ ⟨none,_,_,_,_,_⟩ _ _ _ _
     refine wp_store_row 136 (.tmp 7) (.tmp 37) rfl w2.drew.heap.size (uu fi) (by rfl) (by rfl) 136 _ (zb (zk w2.drew (.cells (uu none) 136) rfl) hb5 (by simp)) (by rw [QZ];kernel_rfl) ((QZ none).trans (QZ fi).symm) (Gd fi) ?_
     refine hK.out _ _ ?_
     clear hK K
     try simp only [pS]
     refine pu 13 8 14 16383 rfl rfl ?_
     refine PrintLast.done_ (by kernel_rfl) ?_
     refine NoPanic.normal ?_
     have HX:=hid (setRow_heap w5 w2.drew.heap.size _ (uu fi) 136 _ (zb (zk w2.drew (.cells (uu none) 136) rfl) hb5 (by simp)))
     have HB:=hid (below_setRow (B_call hHeld0.2.2 hb5) (show w2.heap.size<=w2.drew.heap.size from Nat.le_refl _) (uu fi))
     clear hHeld hHeld0 hS hb5
     go_wp2_with fail
     go_meet
     case rel=>exact ⟨_,rfl,rfl,Nat.le_refl _,HX.out,HB.out⟩
   case rest =>
    obtain ⟨X,rfl,rfl,hXge,hX,hbc⟩:=hcut
    have hAc:=HA2.out.below hbc
    have hNX:¬ zS a b2 { s with lk:=keyS s.lk txn rw.t (za rw.k) } X:=fun hy=>by have:=HA2.out.lt hy;omega
    obtain ⟨HAc,HX,HNX,HBc⟩:=zi4 hAc hX hNX hbc
    have HEc:=hid (HE2.out.call hbc)
    have HXc:=hid (zb HX2.out hbc (zd HX2.out))
    clear hAc hX hNX hbc k1 k2
    go_upto_if 40 with fail
    go_cut [7] from 11 (fun s7 wd=>s7=.pointer (some ⟨X,0,none⟩)/\∃ (nbs:Nat->Nat) (b6:Vb) (cur6:Nat->Nat->List UInt8) (sto6:zl) (n i:Nat) (C:Array Value),wd.heap[X]?=some (.cells C 136 (0,0))/\C[3]?=some (.int .i64 n)/\C[4]?=some (.int .i64 i)/\n<6/\i<5/\zg wd a b6 cur6 { sto:=sto6,its:=s.its,ts:=s.ts,lk:=keyS s.lk txn rw.t (za rw.k) }/\qa w wd (zS a b s) (zS a b6 { sto:=sto6,its:=s.its,ts:=s.ts,lk:=keyS s.lk txn rw.t (za rw.k) }) cur cur6 a.r/\¬ zS a b6 { sto:=sto6,its:=s.its,ts:=s.ts,lk:=keyS s.lk txn rw.t (za rw.k) } X/\wd.heap[w.heap.size]?=some (.cells #[.int .i64 rw.t,.string (za rw.k),.string (za rw.v)] 34 (0,0))/\sto6.gen=s.sto.gen/\(∀ nb,s.put a.r nbs nb txn x.ops rw=(0,({ sto:=sto6,its:=s.its,ts:=s.ts,lk:=keyS s.lk txn rw.t (za rw.k) }:St).ready.chg a.r nb 3 txn n i (some rw))))
    case first =>
     cases fi with
     | some y =>
      have hy:y∈s.its:=by
       have h9:=HFI.out
       unfold yB at h9
       split at h9
       ·rename_i z hz
        split at h9
        ·injection h9 with h9;rw [h9];exact List.mem_of_getElem? hz
        ·cases h9
       ·cases h9
      have HY:=hid (hpos y hy)
      go_wp2_with fail
      go_meet
      case rel=>exact ⟨rfl,fun _=>0,b2,cur,s.sto,y.pg,y.sl,_,HX.out,rfl,rfl,HY.out.1,HY.out.2,HAc.out,HEc.out,HNX.out,HXc.out,rfl,fun nb=>by rw [HPUT.out,<- HFI.out]⟩
     | none =>
      have hpl:=zfg a b2 cur { s with lk:=keyS s.lk txn rw.t (za rw.k) } wc HAc.out
      simp only [zgO] at hpl
      have HPLA:=hid hpl
      clear hpl
      go_upto_if 50 with (first
       | (go_at_call 91;(with_reducible refine HPLA.out.mono ?_);rintro e6 w6 ⟨nbs,b6,cur6,rfl,hA6,hE6⟩;have hx6:=hE6.blk HNX.out HX.out)
       | (show wpList _ _ _ (⟨none,.store 3 (.tmp 47) _,_,_,_,_⟩::_) _ _;refine vC rfl 3 (.tmp 47) (.tmp 44) rfl X 3 _ 136 _ (by rfl) (by rfl) (by kernel_rfl) hx6 (by simp [uu]) rfl ?_)
       | (show wpList _ _ _ (⟨none,.store 3 (.tmp 48) _,_,_,_,_⟩::_) _ _;refine vC rfl 3 (.tmp 48) (.tmp 45) rfl X 4 _ 136 _ (by rfl) (by rfl) (by kernel_rfl) (heap_setCell_same _ _ 3 _ _ _ hx6) (by simp [uu]) rfl ?_))
      obtain ⟨o,ho⟩:∃ o,o=(zR s.ts nbs 6 0 s.sto).2:=⟨_,rfl⟩
      have HO:=hid ho
      have hE7:=HEc.out.trans hE6
      have hN6:=hE6.notIn HNX.out (zd HX.out)
      have hx7:=hE6.blk (HAc.out.notT HXc.out (by decide)) HXc.out
      have hNE:¬ w.heap.size=X:=fun e=>by
       have h9:=zc HXc.out
       rw [e,zc HX.out] at h9;exact absurd h9 (by decide)
      obtain ⟨HX6,HA6,HE7,HN6,HX7⟩:=zi5 hx6 hA6 hE7 hN6 hx7
      clear hx6 hA6 hE6 hE7 hN6 hx7
      rw [<- ho]
      clear ho
      obtain ⟨w7,hw7⟩:∃ w7,(w6.setCell ⟨X,3,none⟩ (.int .i64 (pN o))).setCell ⟨X,4,none⟩ (.int .i64 (pI o))=w7:=⟨_,rfl⟩
      have hx8:w7.heap[X]?=some (.cells ((((uu none).setIfInBounds 3 (.int .i64 (pN o))).setIfInBounds 4 (.int .i64 (pI o)))) 136 (0,0)):=by
       rw [<- hw7,heap_setCell_same _ _ 4 _ _ _ (heap_setCell_same _ _ 3 _ _ _ HX6.out)]
      have hoth:∀ q,q≠X->w7.heap[q]?=w6.heap[q]?:=fun q hq=>by rw [<- hw7];exact (heap_setCell_other _ _ _ _ hq).trans (heap_setCell_other _ _ _ _ hq)
      have hz7:w7.heap.size=w6.heap.size:=by rw [<- hw7];simp
      have hA7:=HA6.out.same (w':=w7) (fun q hq=>hoth q (fun e=>HN6.out (e ▸ hq))) (by omega)
      have hXw:w.heap.size<=X:=by
       have h1:=HE2.out.keep.size
       omega
      have hE8:qa w w7 (zS a b s) (zS a b6 { s with sto:=(zR s.ts nbs 6 0 s.sto).1,lk:=keyS s.lk txn rw.t (za rw.k) }) cur cur6 a.r :=
       ⟨HE7.out.out,⟨by rw [<- hw7];exact HE7.out.keep.os,by rw [<- hw7];exact HE7.out.keep.tape,by rw [<- hw7];exact HE7.out.keep.output,by have:=HE7.out.keep.size;omega,fun q hq hn=>(hoth q (by omega)).trans (HE7.out.keep.block q hq hn)⟩,HE7.out.new⟩
      obtain ⟨HA7,HE8,HX8⟩:=zi3 hA7 hE8 hx8
      have hx9:=(hoth _ hNE).trans HX7.out
      have HX9:=hid hx9
      rw [hw7]
      clear hA7 hE8 hx8 hoth hx9 hw7 hz7
      rcases o with _ | ⟨n,i⟩
      ·have d0:ziG none=7:=rfl
       go_wp2_with fail
       go_ret
       refine ⟨nbs,0,b6,cur6,?_⟩
       rw [HPUT.out,<- HFI.out]
       simp only [<- HO.out]
       exact ⟨rfl,HA7.out,HE8.out⟩
      ·have d0:ziG (some (n,i))=0:=rfl
       have hlt:=KH HO.out.symm
       go_wp2_with fail
       go_meet
       case rel=>exact ⟨rfl,nbs,b6,cur6,(zR s.ts nbs 6 0 s.sto).1,n,i,_,HX8.out,rfl,rfl,by omega,hlt.2,HA7.out,HE8.out,HN6.out,HX9.out,Zd,fun nb=>by rw [HPUT.out,<- HFI.out];simp only [<- HO.out]⟩
    case rest =>
     obtain ⟨rfl,nbs,b6,cur6,sto6,n,i,C,hX,hC1,hC2,hn,hi,hA,hE,hN,hX9,hg6,hp⟩:=hcut
     have HRDY:=hid (zgV a b6 cur6 _ wc hA (by show sto6.gen+1 < _;rw [hg6];exact hgen))
     obtain ⟨HX,HC1,HC2,HE,HN⟩:=zi5 hX hC1 hC2 hE hN
     have HNE:=hid (hA.notT hX9 (by decide))
     obtain ⟨HX9,HP⟩:=zi2 hX9 hp
     have HFIT:=hid (zgW hA)
     clear hX hC1 hC2 hA hE hN hX9 hp
     go_upto_region 14 with (go_at_call 63;(with_reducible refine HRDY.out.mono ?_);rintro e8 w8 ⟨rfl,b8,cur8,hA8,hE8⟩)
     obtain ⟨s8,hs8⟩:∃ s8,s8=({ sto:=sto6,its:=s.its,ts:=s.ts,lk:=keyS s.lk txn rw.t (za rw.k) }:St).ready:=⟨_,rfl⟩
     have hits:s8.its=s.its/\s8.ts=s.ts/\s8.lk=keyS s.lk txn rw.t (za rw.k):=by rw [hs8];exact GP _
     rw [<- hs8] at hA8 hE8 HFIT
     have hx8:=hE8.blk HN.out HX.out
     have hx9:=hE8.blk HNE.out HX9.out
     have c3:w8.drew.cell? ⟨X,3,none⟩=some (.int .i64 n):=(cell_of_row w8.drew X 3 _ _ _ hx8).trans HC1.out
     have c4:w8.drew.cell? ⟨X,4,none⟩=some (.int .i64 i):=(cell_of_row w8.drew X 4 _ _ _ hx8).trans HC2.out
     have hS:w8.drew.cell? ⟨X,3,none⟩=some (.int .i64 n)/\w8.drew.cell? ⟨X,4,none⟩=some (.int .i64 i)/\w8.drew.heap[w.heap.size]?=some (.cells #[.int .i64 rw.t,.string (za rw.k),.string (za rw.v)] 34 (0,0))/\Below w8.heap.size w8 w8.drew:=⟨c3,c4,hx9,(Below.refl _ _).drew⟩
     have HA8:=hid hA8
     have HE8:=hid (HE.out.trans hE8)
     obtain ⟨HS8,HITS⟩:=zi2 hs8 hits
     clear hA8 hE8 hs8 hits hx8 hx9 c3 c4
     refine wp_region_noPanic ?_
     refine PrintLast.start_ (n:=11) (S:=(fun w'=>w'.cell? ⟨X,3,none⟩=some (.int .i64 n)/\w'.cell? ⟨X,4,none⟩=some (.int .i64 i)/\w'.heap[w.heap.size]?=some (.cells #[.int .i64 rw.t,.string (za rw.k),.string (za rw.v)] 34 (0,0))/\Below w8.heap.size w8 w')) (ds:=[9]) (bA 11 0) (by kernel_rfl) rfl (by kernel_rfl) hS (fun hHeld=>?_)
     refine pu 0 57 11 1 rfl rfl ?_
     refine pu 1 58 11 3 rfl rfl ?_
     refine pu 2 59 11 7 rfl rfl ?_
     refine tk 3 60 11 15 rfl rfl (Or.inl ⟨by rfl,fun _ h=>(by have k0:=h.1;go_simp;with_reducible rfl)⟩) ?_
     refine pu 4 61 11 31 rfl rfl ?_
     refine tk 5 62 11 63 rfl rfl (Or.inl ⟨by rfl,fun _ h=>(by have k0:=h.2.1;go_simp;with_reducible rfl)⟩) ?_
     refine tk 6 63 11 127 rfl rfl (qE 34 (.tmp 5) rfl (by rfl) w.heap.size (by rfl) 34 #[.int .i64 rw.t,.string (za rw.k),.string (za rw.v)] (0,0) _ (fun _ h=>h.2.2.1) Tryz.underlying34 rfl (by kernel_rfl)) ?_
     refine on 7 11 255 (some 64) rfl rfl (fun K hK=>?_)
     show Oper.wp _ ⟨some 64,_,_,_,_,_⟩ _ _ _ _
     refine zq 93 _ _ [.agg #[.int .i64 rw.t,.string (za rw.k),.string (za rw.v)]] rfl (by kernel_rfl) (by rfl) ((KP hrw w8.drew).mono ?_)
     rintro e9 w9 ⟨v9,rfl,hown9,hb9⟩
     obtain ⟨A9,c9,rfl⟩:=own_slice hown9
     have hin9:ze w9 (.slice A9 40 c9) (jJ rw):=ze.of_own (ZW hrw).symm hown9
     refine ⟨_,rfl,?_⟩
     refine hK.out _ _ ⟨qk hHeld.1 hb9 (uj hHeld.1),qk hHeld.2.1 hb9 (uj hHeld.2.1),zb hHeld.2.2.1 hb9 (zd hHeld.2.2.1),B_call hHeld.2.2.2 hb9⟩ (fun hHeld=>?_)
     clear hK K
     try simp only [pS]
     refine on 8 11 511 (some 65) rfl rfl (fun K hK=>?_)
     show Oper.wp _ ⟨some 65,_,_,_,_,_⟩ _ _ _ _
     refine vR 29 9 (.tmp 64) rfl (.slice A9 40 c9) (.string (za (jJ rw))) (by rfl) (vp hin9) ?_
     refine hK.out _ _ hHeld (fun hHeld=>?_)
     clear hK K
     try simp only [pS]
     refine la 9 11 1023 (some 66) rfl rfl (fun K hK=>?_)
     show Oper.wp _ ⟨some 66,_,_,_,_,_⟩ _ _ _ _
     refine zq 92 _ _ [.pointer (some ⟨a.S,0,none⟩),.int .i64 3,.int .i64 txn,.int .i64 n,.int .i64 i,.string (za (jJ rw))] rfl (by kernel_rfl) (by rfl) ((GX a b8 cur8 s8 3 txn n i T x (some rw) w9 (HA8.out.below hHeld.2.2.2) (.inl rfl) ht1 ht3 (by rw [HITS.out.2.1];exact htx) (fun _=>by omega) hn hi hrw (by rw [HITS.out.1];exact hso) (by rw [HITS.out.1];exact hil) HFIT.out).mono ?_)
     rintro e10 w10 ⟨rfl,nb,b10,cur10,hnb,hA10,hE10⟩
     refine ⟨_,rfl,?_⟩
     refine hK.out _ _ ?_
     clear hK K
     try simp only [pS]
     refine pu 10 6 11 2047 rfl rfl ?_
     refine PrintLast.done_ (by kernel_rfl) ?_
     refine NoPanic.normal ?_
     have HA10:=hid hA10
     have HE10:=hid ((HE8.out.call hHeld.2.2.2).trans hE10)
     clear hA10 hE10 hHeld hS
     go_wp2_with fail
     go_ret
     refine ⟨nbs,nb,b10,cur10,?_⟩
     rw [HP.out,<- HS8.out]
     exact ⟨rfl,HA10.out,HE10.out⟩
def Qw:qL:=[none,none,none,none]
def QD:zl:=⟨jt,0,1,0,qu qo,(qu qo).length,fun _=>uL⟩
def GC:St:=⟨QD,[],Qw,[]⟩
theorem uo.zero {c:Nat->List UInt8} {r n:Nat} (h:∀ q,514<=q->q<538->c q=zs 64) (hn:n<6):uo c r n uL:=fun i hi=>by
 rw [h _ (by omega) (by omega)]
 have:qz r n uL=zs 256:=by unfold qz;rw [if_pos (show uL.mark=0 from rfl)]
 rw [this]
 unfold zs
 rw [List.drop_replicate,List.take_replicate]
 congr 1
 omega
theorem zg.fresh {w:World} {a:Va} {FL F:Nat->Prop} {cur:Nat->Nat->List UInt8} {sto:zl}
  (hrow:w.heap[a.S]?=some (.cells (yG a Qw (.slice none 0 0)).toArray 103 (0,0))) (hs:qc w a.B a.D a.L a.r FL F cur sto) (hl:zM w a.LB a.K a.bm []) :
  zg w a ⟨FL,F,fun _ _=>False,.slice none 0 0,[]⟩ cur ⟨sto,[],Qw,[]⟩ :=
 ⟨hrow,hs,World.ownsRow_nil _ _ _ _,⟨rfl,rfl,⟨_,hrow,fun i hi=>YO hi⟩,fun i b x hx=>(by
  have:i<4:=(List.getElem?_eq_some_iff.1 hx).1
  obtain rfl | rfl | rfl | rfl:i=0∨i=1∨i=2∨i=3:=by omega
  all_goals simp [Qw] at hx),fun _ _ _ _ h=>h.elim,fun _ _ _ h=>h⟩,hl,rfl⟩
theorem zhv (D r:Nat) (F:Nat->Prop) (cur:Nat->Nat->List UInt8) (w:World) (hD:qr w D F cur) (hr:r<4) (hz:∀ q,514<=q->q<538->cur r q=zs 64) :
  Calls Tryz.prog 46 #[.pointer (some ⟨D,0,none⟩),.int .i64 r] w fun e w'=>∃ (a:Va) (b:Vb) (cur':Nat->Nat->List UInt8),e=.returned (.tuple #[.pointer (some ⟨a.S,0,none⟩),.int .i64 0])/\a.D=D/\a.r=r/\zg w' a b cur' GC/\yd cur cur' r/\zr F w w'/\qh w F b.F/\∀ x,KF a b GC x->w.heap.size<=x:=by
 have HLN:=hid (zin D F cur r w hD hr)
 go_enter Tryz.func46,Tryz.ntmps46
 go_upto_region 4 with (go_at_call 86;(with_reducible refine HLN.out.mono ?_);rintro e1 w1 ⟨L,F1,FL,cur1,rfl,hL,hD1,hon,hso,hk1,hn1,hfl⟩)
 have HNEW:=hid (new_any w1)
 go_wp2_with (first
  | (go_at_call 79;(with_reducible refine HNEW.out.mono ?_);rintro e2 w2 ⟨rfl,hlk,hb2,hz2⟩;have HZ2:=hid hz2;clear hz2)
  | (go_at_call 80;(with_reducible refine (zcY D r L w2).mono ?_);rintro e3 w3 ⟨rfl,hp3,hb3⟩))
 go_ret2
 obtain ⟨T,hT,hTM⟩:=hlk
 have hT0:T=[]:=by
  cases T with
  | nil=>rfl
  | cons p l=>simp [zh] at hTM
 subst hT0
 obtain ⟨a,ha⟩:∃ a:Va,a=⟨w3.heap.size,w1.heap.size+1,w1.heap.size,w1.heap.size+2,L,w2.heap.size,D,r⟩:=⟨_,rfl⟩
 have hb13:Below w1.heap.size w1 w3:=B_call hb2 hb3
 have hb14:=B_alloc hb13 (.cells #[.pointer (some ⟨w1.heap.size+1,0,none⟩),.pointer none,.pointer none,.pointer none,.pointer none,.pointer (some ⟨L,0,none⟩),.pointer (some ⟨w2.heap.size,0,none⟩),.slice none 0 0,.int .i64 r] 103)
 have hst:qc (w3.alloc (.cells #[.pointer (some ⟨w1.heap.size+1,0,none⟩),.pointer none,.pointer none,.pointer none,.pointer none,.pointer (some ⟨L,0,none⟩),.pointer (some ⟨w2.heap.size,0,none⟩),.slice none 0 0,.int .i64 r] 103)) w2.heap.size D L r FL F1 cur1 QD:=by
  refine ⟨hp3.below (B_alloc (Below.refl _ _) _),hL.below hb14,zv.below hD1 hb14,?_,fun n hn=>uo.zero (fun q h1 h2=>(hso r q (.inr (.inr h1))).trans (hz q h1 h2)) hn,hr,by decide,by decide,?_,Nat.le_refl _,fun _=>zkP,?_⟩
  ·show jN (cur1 r) 1 0 ((qu qo).take (qu qo).length)
   rw [List.take_length];exact hon
  ·have:=yM vT;show (qu qo).length<=14336;omega
  ·intro f hf b n p hp
   simp only [QD,jt,List.mem_cons,List.not_mem_nil,or_false,or_self] at hf
   subst hf
   cases hp
 have hA:=zg.fresh (w:=w3.alloc (.cells #[.pointer (some ⟨w1.heap.size+1,0,none⟩),.pointer none,.pointer none,.pointer none,.pointer none,.pointer (some ⟨L,0,none⟩),.pointer (some ⟨w2.heap.size,0,none⟩),.slice none 0 0,.int .i64 r] 103)) (a:=a) (FL:=FL) (F:=F1) (cur:=cur1) (sto:=QD) (by rw [ha];exact zk w3 _ rfl) (by rw [ha];exact hst) (by rw [ha];exact (hT.below hb3).below (B_alloc (Below.refl _ _) _))
 have hz1:=hk1.size
 have hz3:=hb13.size
 have HZ:=HZ2.out
 refine ⟨a,⟨FL,F1,fun _ _=>False,.slice none 0 0,[]⟩,cur1,by rw [ha];rfl,by rw [ha],by rw [ha],hA,fun r' q h=>hso r' q (h.imp id .inl),hk1.call hb14,hn1,?_⟩
 rintro x (rfl | rfl | hx | hx | ⟨i,hx⟩ | hx | hx)
 ·rw [ha];show _<=w3.heap.size;omega
 ·rw [ha];show _<=w1.heap.size+1;omega
 ·rw [ha] at hx
  rcases hx with rfl | ⟨p,hp,_⟩
  ·exact hz1
  ·cases hp
 ·cases hx
 ·exact hx.elim
 ·exact hfl x hx
 ·rcases hx with rfl | ⟨f,hf,n,p,hp⟩
  ·rw [ha];show _<=w2.heap.size;omega
  ·simp only [GC,QD,jt,List.mem_cons,List.not_mem_nil,or_false,or_self] at hf
   subst hf
   cases hp
def Yj (its:List It) (k:Nat):Array Value:=match its[k]? with
 | some x=>#[.agg (zC x).toArray]
 | none=>#[.agg #[]]
theorem zdI (its:List It) (k:Nat):(Yj its k).size=1:=by unfold Yj;split<;>rfl
theorem zbq {its:List It} {k:Nat} {x:It} (h:its[k]?=some x):Yj its k=#[.agg (zC x).toArray]:=by simp [Yj,h]
theorem zkq (X o:Nat) (v:Value) (its:List It) (I:Nat->World->Prop) (hl:its.length<=1000) (hI:∀ k W,I k W->QG W X o v its):zeM Tryz.prog 61 #[.pointer (some ⟨X,o,none⟩)] #[] its.length (Yj its) I:=by
 intro l J w hJI hJB hst h0
 show Calls Tryz.prog 61 #[.pointer (some ⟨X,o,none⟩),.func (.yield l) #[] #[]] w _
 have HST:=hid hst
 have HI:=hid (fun k W h=>hI k W (hJI k W h))
 have H0:=hid h0
 clear hJI hJB hst h0 hI
 go_enter Tryz.func61,Tryz.ntmps61
 go_upto_region 1 with fail
 go_loopw [4] (fun u wr=>∃ k:Nat,k<=its.length/\u=.int .i64 k/\J k wr) (fun u _=>(its.length-jl u).toNat)
 case atStart=>exact ⟨0,Nat.zero_le _,rfl,H0.out⟩
 case round =>
  obtain ⟨k,hk,rfl,hik⟩:=hrel
  have hidx:=HI.out k wr hik
  have HLEN:=hid (zjM X o v its wr hidx)
  by_cases hlt:k<its.length
  ·have q0:(0:Int)<=(k:Int):=by omega
   have q1:(k:Int)<(its.length:Int):=by omega
   obtain ⟨x,hx⟩:∃ x,its[k]?=some x:=⟨_,List.getElem?_eq_getElem hlt⟩
   obtain ⟨A,c,rfl⟩:=own_slice hidx.its
   obtain ⟨g,rfl,_,hg,_,_,hrng⟩:=qg.range hidx.its hx
   have hcell:=hidx.cell
   have HR:=hid hrng
   have hy:=HST.out k wr hlt hik
   rw [zbq hx] at hy
   have HY:=hid hy
   have x2:IntKind.i64.wrap ((k:Int)+1)=(k:Int)+1:=by rw [IntKind.wrap_i64];omega
   clear hrng hik hidx hx hy
   go_upto_region 3 with (go_at_call 101;(with_reducible refine HLEN.out.mono ?_);rintro e1 w9 ⟨rfl,hw9⟩;subst w9)
   refine Jk (pre:=[_,_,_,_,_,_,_,_]) (post:=[_]) rfl rfl rfl (fun _ _ h=>h) ?_
   go_wp2_with (show wpList _ _ _ (⟨some 18,_,_,_,_,_⟩::_) _ _;refine zZ rfl _ _ (qy 136 (.tmp 17) rfl g (k*5) (by rfl) (zC x) _ HR.out Tryz.underlying136 rfl (by kernel_rfl)) ?_)
   refine ⟨l,.tmp 11,_,_,_,rfl,by rfl,by rfl,YU HY.out ?_⟩
   rintro e1 w5 ⟨rfl,hj5⟩
   refine ⟨_,rfl,?_⟩
   go_wp2_with fail
   refine (by assumption:∀ a w,Code.wp Tryz.prog (Code.cond (.tmp 20) Code.ret Code.skip) _ a w->_) _ _ ?_
   go_wp2_with fail
   go_roundw
   case rel=>exact ⟨k+1,by omega,by simp,hj5⟩
   case measure=>simp [jl];omega
  ·have hke:k=its.length:=by omega
   have q1:¬ ((k:Int)<(its.length:Int)):=by omega
   obtain ⟨HIK,HKE⟩:=zi2 hik hke
   clear hik hke hidx
   go_wp2_with (go_at_call 101;(with_reducible refine HLEN.out.mono ?_);rintro e1 w9 ⟨rfl,hw9⟩;subst w9)
   refine uN rfl rfl ?_
   rw [<- HKE.out]
   exact ⟨⟨_,rfl⟩,HIK.out⟩
def ja (r:Rw):List Value:=[.int .i64 r.t,.string (za r.k),.string (za r.v)]
def jU (l:List Rw):List Value:=l.flatMap ja
theorem zcg (l:List Rw) (r:Rw):jU (l++[r])=jU l++ja r:=by simp [jU]
theorem zee (r:Rw):∀ u∈ja r,u.oneCell'=true:=by
 intro u hu;simp only [ja,List.mem_cons,List.not_mem_nil,or_false] at hu
 rcases hu with rfl | rfl | rfl<;>rfl
theorem zcz:yU Tryz.prog 34 3 40:=yU.of (by kernel_rfl)
theorem zkd (a:Va) (b:Vb) (cur:Nat->Nat->List UInt8) (s:St) (w:World) (h:zg w a b cur s) (hl:s.its.length<=900) :
  Calls Tryz.prog 33 #[.pointer (some ⟨a.S,0,none⟩)] w fun e w'=>∃ v,e=.returned v/\w'.ownsRow w.heap.size 34 3 v s.its.length (jU (s.its.map (·.rw)))/\Below w.heap.size w w':=by
 have H:=hid h
 clear h
 refine uQ Tryz.func33 rfl ?_
 simp only [Tryz.ntmps33,List.size_toArray,List.length_cons,List.length_nil,Nat.reduceAdd,Nat.reduceSub,Array.replicate_succ,Array.replicate_zero,List.push_toArray,List.append_toArray,List.nil_append,List.cons_append]
 go_wp2_with fail
 refine Jp (gf:=61) (bound:=#[.pointer (some ⟨a.S,7,none⟩)]) (caps:=#[]) (by rfl) (by kernel_rfl) s.its.length (Yj s.its) (zdI s.its) (fun k W=>Below w.heap.size w W/\w.heap.size+3<=W.heap.size/\∃ v,W.heap[w.heap.size]?=some (.cells #[v] 22 (0,0))/\W.ownsRow (w.heap.size+3) 34 3 v k (jU ((s.its.map (·.rw)).take k))) ?h0 ?hput ?hbel (zkq a.S 7 b.v s.its _ (by omega) (fun k W hW=>(H.out.below hW.1).idx)) ?hround ?hend
 case h0=>exact fun rec=>⟨B_alloc (B_alloc (B_alloc (Below.refl _ _) _) _) _,by simp,_,zy (zy (zk _ _ rfl) _) _,by rw [List.take_zero];exact World.ownsRow_nil _ _ _ _⟩
 case hput =>
  rintro k W o ⟨h1,h2,v,h4,h5⟩ hl
  refine ⟨Below.put h1 (by simp<;>omega) o,by simpa using h2,v,(World.putObj_heap_other (by simp<;>omega)).trans h4,zi h5 fun q hq=>World.putObj_heap_other (by have:=(h5.lt q hq).1;simp<;>omega)⟩
 case hbel =>
  rintro k W W' ⟨h1,h2,v,h4,h5⟩ hb
  exact ⟨B_call h1 hb,Nat.le_trans h2 hb.size,v,zb h4 hb (zd h4),zi h5 fun q hq=>hb.block q (h5.lt q hq).2⟩
 case hround =>
  rintro k W hk ⟨h1,h2,v,h4,h5⟩ hl
  obtain ⟨x,hx⟩:∃ p,s.its[k]?=some p:=⟨_,List.getElem?_eq_getElem hk⟩
  rw [zbq hx]
  simp only [List.zip_toArray,List.zip_cons_cons,List.zip_nil_right,List.foldl_toArray,List.foldl_cons,List.foldl_nil,List.setIfInBounds_toArray,List.set_cons_succ,List.set_cons_zero]
  refine ym (vr _) 0 rfl (fun _ _ h=>h) ?_
  go_wp2_with (show wpList _ _ _ (⟨none,.store 136 _ _,_,_,_,_⟩::_) _ _;refine zN rfl 136 (.tmp 5) (.tmp 11) rfl W.heap.size rfl _ (zC x).toArray (by rfl) (by rfl) (by kernel_rfl) (by rfl) (by simp [zC,Value.oneCell']) ?_)
  have hW1:=(Below.refl W.heap.size W).alloc (Nat.le_refl _) (.cells (zC x).toArray 136)
  refine ⟨uP.below hW1 (by simp at hl ⊢;omega),fun o=>?_⟩
  refine wpIn_block ?_
  obtain ⟨W2,hW2⟩:∃ W2,(W.alloc (.cells (zC x).toArray 136)).putObj (w.heap.size+1+1) o=W2:=⟨_,rfl⟩
  rw [hW2]
  simp only [World.size_alloc] at hl
  have hB2:Below w.heap.size w W2:=by rw [<- hW2];exact Below.put (B_alloc h1 _) (by omega) o
  have hz2:W2.heap.size=W.heap.size+1:=by rw [<- hW2];simp
  have hx2:W2.heap[W.heap.size]?=some (.cells (zC x).toArray 136 (0,0)):=by rw [<- hW2];exact (World.putObj_heap_other (by omega)).trans (zk _ _ rfl)
  have ho2:W2.heap[w.heap.size]?=some (.cells #[v] 22 (0,0)):=by rw [<- hW2];exact (World.putObj_heap_other (by omega)).trans (zy h4 _)
  have hv2:W2.ownsRow (w.heap.size+3) 34 3 v k (jU ((s.its.map (·.rw)).take k)):=by rw [<- hW2];exact zi h5 fun q hq=>(World.putObj_heap_other (by have:=(h5.lt q hq).1;omega)).trans (Below.heap_alloc _ _ q (h5.lt q hq).2)
  obtain ⟨A5,c5,rfl⟩:=own_slice hv2
  have f5:=(cell_of_row W2 w.heap.size 0 _ _ _ ho2).trans (show _=some (Value.slice A5 k c5) from rfl)
  have hrng:W2.rangeAt W.heap.size 0 (ja x.rw):=by
   intro j u hj
   have hj3:j<3:=(List.getElem?_eq_some_iff.1 hj).1
   rw [cell_of_row W2 W.heap.size _ _ _ _ hx2,Nat.zero_add,<- hj]
   obtain rfl | rfl | rfl:j=0∨j=1∨j=2:=by omega
   all_goals rfl
  have hrd:=zx.of_list (zk W2 (.cells (ja x.rw).toArray 34) rfl) (size:=3) (n:=1) rfl
  have hG6:(W2.alloc (.cells (ja x.rw).toArray 34)).ownsRow (w.heap.size+3) 34 3 (.slice A5 k c5) k (jU ((s.its.map (·.rw)).take k)):=zi hv2 fun q hq=>Below.heap_alloc _ _ q (hv2.lt q hq).2
  obtain ⟨HRNG,HRD,HG6,HO2,HB2⟩:=zi5 hrng hrd hG6 ho2 hB2
  clear hrng hrd hG6 ho2 hB2 h1 h4 h5 hW2 hx2
  refine ym (vr _) 0 rfl (fun _ _ h=>h) ?_
  go_wp2_with (first
   | (show wpList _ _ _ (⟨some 14,_,_,_,_,_⟩::_) _ _;refine zZ rfl _ _ (qy 34 (.tmp 13) rfl W.heap.size 0 (by rfl) (ja x.rw) _ HRNG.out Tryz.underlying34 rfl (by kernel_rfl)) ?_)
   | (show wpList _ _ _ (⟨some 15,_,_,_,_,_⟩::_) _ _;refine wpList_plain rfl fun _ hK=>vf 22 34 3 40 (.tmp 14) rfl (.agg (ja x.rw).toArray) (by rfl) Tryz.underlying22 zcz (by rfl) (by omega) (by omega) (hK _ _ ?_))
   | (show wpList _ _ _ (⟨some 16,_,_,_,_,_⟩::_) _ _;refine qW rfl (.tmp 12) (.tmp 15) 22 34 3 40 rfl Tryz.underlying22 zcz (by omega) _ _ _ (w.heap.size+3) (by rfl) HG6.out _ 1 _ _ _ (by rfl) HRD.out (zee _) (by omega) (by omega) (by simp;omega) ?_;intro v8 w8 hown8 hg8 ho8;obtain ⟨A8,c8,rfl⟩:=own_slice hown8;have g58:=zX (zy HO2.out _) hg8 (fun e=>by have:=(HG6.out.lt _ e).1;omega);have k58:=frozen_of_row w8 w.heap.size 0 _ _ g58;have k59:=cell_of_row w8 w.heap.size 0 _ _ _ g58))
  have hst8:(w8.setCell ⟨w.heap.size,0,none⟩ (.slice A8 (k+1) c8)).heap[w.heap.size]?=some (.cells #[.slice A8 (k+1) c8] 22 (0,0)):=by rw [heap_setCell_same _ _ 0 _ _ _ g58];rfl
  have hgo:∀ q,q<W2.heap.size->(Value.slice A5 k c5).ownBlock≠some q->q≠w.heap.size->(w8.setCell ⟨w.heap.size,0,none⟩ (.slice A8 (k+1) c8)).heap[q]?=W2.heap[q]?:=fun q h1 h2 h3 =>
   (heap_setCell_other _ _ _ _ h3).trans ((hg8.block q (by simp;omega) (fun e=>h2 e.symm)).trans (Below.heap_alloc _ _ q h1))
  have hz8:W2.heap.size+1<=w8.heap.size:=by have:=hg8.size;simpa using this
  refine ⟨⟨?_,by simp;omega,_,hst8,?_⟩,by simp;omega,hgo _ (by omega) (fun e=>by have:=(HG6.out.lt _ e).1;omega) (by omega),hgo _ (by omega) (fun e=>by have:=(HG6.out.lt _ e).1;omega) (by omega)⟩
  ·exact B_set ((B_alloc HB2.out _).grown hg8 (by simp;omega) (fun q e=>by have:=(HG6.out.lt _ e).1;omega)) (p:=⟨w.heap.size,0,none⟩) (Nat.le_refl _) _
  ·obtain ⟨hlx,hxx⟩:=List.getElem?_eq_some_iff.1 hx
   rw [List.take_succ_eq_append_getElem (by rw [List.length_map];exact hlx),List.getElem_map,hxx,zcg]
   exact own_set1 hown8 (fun e=>by have:=(hown8.lt _ e).1;omega) _ _
 case hend =>
  rintro W ⟨h1,h2,v,h4,h5⟩ hD
  rw [List.take_of_length_le (by simp)] at h5
  obtain ⟨A,c,rfl⟩:=own_slice h5
  have k0:=(cell_of_row W w.heap.size 0 _ _ _ h4).trans (show _=some (Value.slice A s.its.length c) from rfl)
  simp only [World.size_alloc] at hD
  obtain ⟨HD,H5⟩:=zi2 hD h5
  clear hD h4 h5
  refine (by assumption:∀ a w,Code.wp Tryz.prog (Code.seq _ _) _ a w->_) _ _ ?_
  go_wp2_with fail
  refine ⟨by simp,.inl ⟨_,_,rfl,run_takeDeferred HD.out,?_⟩⟩
  refine ⟨_,results_tmp rfl _ _ _,_,rfl,?_,Below.put h1 (by omega) _⟩
  exact qT (zi H5.out fun q hq=>World.putObj_heap_other (by have:=(H5.out.lt q hq).1;omega)) (by omega)
theorem Gg {w:World} {B D L r:Nat} {FL F:Nat->Prop} {cur:Nat->Nat->List UInt8} {s:zl} (h:qc w B D L r FL F cur s) (n:Nat):(s.page n).ok:=by
 unfold zl.page
 cases hf:qU s.fs n with
 | none=>exact h.dpok n
 | some k =>
  obtain ⟨f,b,p,h1,h2⟩:=vX hf
  simp only [Option.bind_some,h1,h2]
  exact (h.fok f (List.mem_of_getElem? h1) b n p h2).2
theorem Gr {p:Pg} (h:p.ok) (slot:Nat):qX (ji p slot):=by
 unfold ji
 cases hs:p.slots[slot]? with
 | none=>trivial
 | some o=>exact h.rows o (List.mem_of_getElem? hs)
theorem Kr {r kind txn n slot:Nat} {s1:zl} {p:Pg} {o:Option Rw} (hp:p.ok) (hk:kind=3∨kind=4) (ht:txn<=255) (hn:n<6) (hs:slot<5) (ho:qX o):(jH r kind txn n slot s1 p o).ok:=by
 refine ⟨by simp only [jH];omega,by simp only [jH];omega,ht,hn,hs,Gr hp slot,ho,?_,.inl rfl,by simp [jH]⟩
 simp only [jH]
 split
 ·exact .inr (jY hp)
 ·exact .inl rfl
theorem QO (s:zl) (n slot:Nat) (o:Option Rw) (m:Nat):(s.setRow n slot o m).log=s.log/\(s.setRow n slot o m).gen=s.gen:=by
 unfold zl.setRow
 split
 ·exact ⟨rfl,rfl⟩
 ·split
  ·exact ⟨rfl,rfl⟩
  ·split<;>exact ⟨rfl,rfl⟩
theorem zaE (s:zl) (r nb kind txn n slot:Nat) (o:Option Rw):(s.chg r nb kind txn n slot o).log=s.log++qu (jH r kind txn n slot (s.get nb n) (s.page n) o)/\(s.chg r nb kind txn n slot o).gen=s.gen:=by
 unfold zl.chg
 rw [(QO _ _ _ _ _).1,(QO _ _ _ _ _).2]
 exact ⟨by simp only [zl.logged,(vM s nb n).1],(vM s nb n).2.1⟩
theorem Qo {its:List It} (h:zJ its) (bf af:Option Rw) (n slot:Nat):zJ (yp (qR its bf) af n slot)/\(yp (qR its bf) af n slot).length<=its.length+1:=by
 have h1:zJ (qR its bf)/\(qR its bf).length<=its.length:=by
  cases bf with
  | none=>exact ⟨h,Nat.le_refl _⟩
  | some b =>
   refine ⟨zJ.rem h,?_⟩
   simp only [qR,uI]
   split
   ·rw [List.length_eraseIdx];split<;>omega
   ·exact Nat.le_refl _
 cases af with
 | none=>exact ⟨h1.1,by have:=h1.2;show (qR its bf).length<=_;omega⟩
 | some x =>
  refine ⟨zJ.put h1.1 (Cut.of_sorted h1.1),?_⟩
  have:=h1.2
  simp only [yp,yZ]
  split
  ·rw [List.length_set];omega
  ·rw [Zm];omega
def St.undo1 (s:St) (r nb txn:Nat):St:=match s.ts[txn]? with
 | some (some (T,x))=>match x.list.getLast? with
  | some c=>{ s.chg r nb 4 txn c.pg c.sl c.before with ts:=s.ts.set txn (some (T,⟨x.list.dropLast,x.saves,x.ops⟩)) }
  | none=>s
 | _=>s
def St.undos (r txn:Nat) (nbs:Nat->Nat):Nat->Nat->St->St
 | _,0,s=>s
 | j,m+1,s=>St.undos r txn nbs (j+1) m (s.undo1 r (nbs j) txn)
theorem zjw (a:Va) (b:Vb) (cur:Nat->Nat->List UInt8) (s:St) (txn T n d:Nat) (x:Tx) (w:World) (h:zg w a b cur s) (ht1:1<=txn) (ht3:txn<=3) (htx:s.ts[txn]?=some (some (T,x))) (hso:zJ s.its) (hil:s.its.length<=800) (hn:n<=x.list.length) (hfit:s.sto.log.length+(x.list.length-n)*395+d<=14336) :
  Calls Tryz.prog 129 #[.pointer (some ⟨a.S,0,none⟩),.int .i64 txn,.int .i64 n] w fun e w'=>e=.returned (.int .i64 0)/\∃ nbs b' cur',(∃ x':Tx,(St.undos a.r txn nbs 0 (x.list.length-n) s).ts[txn]?=some (some (T,x')))/\zJ (St.undos a.r txn nbs 0 (x.list.length-n) s).its/\(St.undos a.r txn nbs 0 (x.list.length-n) s).its.length<=810/\(St.undos a.r txn nbs 0 (x.list.length-n) s).sto.log.length+d<=14336/\zg w' a b' cur' (St.undos a.r txn nbs 0 (x.list.length-n) s)/\qa w w' (zS a b s) (zS a b' (St.undos a.r txn nbs 0 (x.list.length-n) s)) cur cur' a.r:=by
 have hxok:=(h.tab.tx txn T x htx).2
 have hget:=Yg a.S txn s.ts (some (T,x)) w h.tab.row ht1 ht3 htx
 simp only [Option.map_some] at hget
 have HGET:=hid hget
 obtain ⟨N,hN⟩:∃ N,N=x.list.length:=⟨_,rfl⟩
 have hN8:N<=8:=by have:=hxok.len;have:=hxok.n8;omega
 obtain ⟨R,hR⟩:∃ R:Nat->World->Prop,R=fun j wr=>∃ (nbs:Nat->Nat) (sj:St) (bj:Vb) (curj:Nat->Nat->List UInt8) (xj:Tx),(∀ nbs':Nat->Nat,(∀ i,i<j->nbs' i=nbs i)->St.undos a.r txn nbs' 0 (N-n) s=St.undos a.r txn nbs' j (N-n-j) sj)/\zg wr a bj curj sj/\qa w wr (zS a b s) (zS a bj sj) cur curj a.r/\sj.ts[txn]?=some (some (T,xj))/\xj.list.length=N-j/\zJ sj.its/\sj.its.length<=800+j/\sj.sto.log.length+(N-n-j)*395+d<=14336:=⟨_,rfl⟩
 have hR0:R 0 w:=by rw [hR];exact ⟨fun _=>0,s,b,cur,x,fun _ _=>rfl,h,qa.refl _ _ _ _,htx,hN.symm,hso,hil,by rw [hN];exact hfit⟩
 rw [<- hN] at hn ⊢
 obtain ⟨HR,HR0⟩:=zi2 hR hR0
 clear h hget hR hR0 hN hxok hfit
 go_enter Tryz.func129,Tryz.ntmps129
 go_upto_region 2 with (go_at_call 88;(with_reducible refine HGET.out.mono ?_);rintro e1 w1 ⟨rfl,hw1⟩;subst w1)
 go_loopg [] (N-n) (fun g wr=>∃ j:Nat,j+g=N-n/\R j wr)
 case atStart=>exact ⟨0,by omega,HR0.out⟩
 case round =>
  obtain ⟨j,hj,hrj⟩:=hrel
  rw [HR.out] at hrj
  obtain ⟨nbs,sj,bj,curj,xj,hun,hA,hE,htj,hlj,hsj,hij,hfj⟩:=hrj
  obtain ⟨htxA,hxok⟩:=hA.tab.tx txn T xj htj
  have HLEN:=hid (zcO T xj (bj.G txn) wr htxA)
  obtain ⟨lj,hlj2⟩:∃ lj,lj=xj.list.length:=⟨_,rfl⟩
  rw [<- hlj2] at HLEN
  have hljn:lj=N-j:=by rw [hlj2];exact hlj
  by_cases hlt:n<lj
  ·have q1:(n:Int)<(lj:Int):=by omega
   obtain ⟨l,c,hlc⟩:∃ l c,xj.list=l++[c]:=by
    have hne:xj.list≠[]:=fun e=>by rw [e] at hlj2;simp at hlj2;omega
    exact ⟨xj.list.dropLast,xj.list.getLast hne,(List.dropLast_concat_getLast hne).symm⟩
   have hll:lj=l.length+1:=by rw [hlj2,hlc];simp
   have hat:xj.list[l.length]?=some c:=by rw [hlc];simp
   have hcok:=hxok.chg c (by rw [hlc];simp)
   have hchg:=fun W (hb:Below wr.heap.size wr W)=>GX a bj curj sj 4 txn c.pg c.sl T xj c.before W (hA.below hb) (.inr rfl) ht1 ht3 htj (fun e=>by cases e) hcok.1 hcok.2.1 hcok.2.2 hsj (by omega) (by omega)
   have HLI:=hid (zet T xj (bj.G txn) wr htxA (by omega))
   obtain ⟨HUN,HA,HE,HTJ,HXOK,HCHG,HLC,HAT,HLJ2⟩:=zi9 hun hA hE htj hxok hchg hlc hat hlj2
   obtain ⟨HLJN,HLL⟩:=zi2 hljn hll
   have q2:(0:Int)<=(l.length:Int):=by omega
   have q3:(l.length:Int)<(lj:Int):=by omega
   have x2:IntKind.i64.wrap ((lj:Int)-1)=(l.length:Int):=by rw [IntKind.wrap_i64];omega
   rw [<- hlj2] at HLI
   clear hun hA hE htj htxA hchg hlc hat hlj2 hlj hll hljn
   go_upto_region 4 with (first
    | (go_at_call 94;(with_reducible refine HLEN.out.mono ?_);rintro e2 w2 ⟨rfl,hw2⟩;subst w2)
    | (go_at_call 69;(with_reducible refine HLI.out.mono ?_);rintro e3 w3 ⟨u,rfl,hu,hb3⟩;obtain ⟨A3,c3,rfl⟩:=own_slice hu))
   obtain ⟨g,rfl,hg,hgc,hrng⟩:=Jz hu HAT.out
   obtain ⟨HRNG,HB3⟩:=zi2 hrng hb3
   have f1:=(cell_of_row _ w3.heap.size 0 _ _ _ (zk w3 (.cells (zw c).toArray 150) rfl)).trans (show _=some (Value.int .i64 c.pg) from rfl)
   have f2:=(cell_of_row _ w3.heap.size 1 _ _ _ (zk w3 (.cells (zw c).toArray 150) rfl)).trans (show _=some (Value.int .i64 c.sl) from rfl)
   have f3:=(cell_of_row _ w3.heap.size 2 _ _ _ (zk w3 (.cells (zw c).toArray 150) rfl)).trans (show _=some (Value.string (za (zt c.before))) from rfl)
   have HCH:Hid (Calls Tryz.prog 92 #[.pointer (some ⟨a.S,0,none⟩),.int .i64 4,.int .i64 txn,.int .i64 c.pg,.int .i64 c.sl,.string (za (zt c.before))] _ _):=hid (HCHG.out _ (B_alloc HB3.out (.cells (zw c).toArray 150)))
   clear hrng hb3 hu
   go_upto_region 8 with (first
    | (show wpList _ _ _ (⟨some 27,_,_,_,_,_⟩::_) _ _;refine zZ rfl _ _ (qy 150 (.tmp 26) rfl g (l.length*3) (by rfl) (zw c) _ HRNG.out Tryz.underlying150 rfl (by kernel_rfl)) ?_)
    | (show wpList _ _ _ (⟨none,.store 150 _ _,_,_,_,_⟩::_) _ _;refine zN rfl 150 (.tmp 9) (.tmp 27) rfl w3.heap.size rfl _ (zw c).toArray (by rfl) (by rfl) (by kernel_rfl) (by rfl) (by simp [zw,Value.oneCell']) ?_)
    | (go_at_call 92;(with_reducible refine HCH.out.mono ?_);rintro e4 w4 ⟨rfl,nb,b4,cur4,hnb,hA4,hE4⟩))
   have hts4:(sj.chg a.r nb 4 txn c.pg c.sl c.before).ts=sj.ts:=rfl
   obtain ⟨htx4,_⟩:=hA4.tab.tx txn T xj (by rw [hts4];exact HTJ.out)
   have HPOP:=hid (zkQ T xj l c (b4.G txn) w4 htx4 HXOK.out HLC.out)
   have HA4:=hid hA4
   have HE4:=hid ((HE.out.call (B_alloc HB3.out (.cells (zw c).toArray 150))).trans hE4)
   clear hA4 hE4 htx4 hts4 f1 f2 f3
   go_wp2_with (go_at_call 151;(with_reducible refine HPOP.out.mono ?_);rintro e5 w5 ⟨rfl,G',htx5,hk5,hn5⟩)
   obtain ⟨hA5,hE5⟩:=HA4.out.txStep (x':=⟨l,xj.saves,xj.ops⟩) HTJ.out htx5 ⟨HXOK.out.n8,by have:=HXOK.out.len;rw [HLC.out] at this;simp only [List.length_append,List.length_singleton] at this;show l.length<=xj.ops;omega,HXOK.out.s4,fun d hd=>HXOK.out.chg d (by rw [HLC.out];exact List.mem_append_left _ hd)⟩ hk5 hn5
   have hund:sj.undo1 a.r nb txn={ sj.chg a.r nb 4 txn c.pg c.sl c.before with ts:=sj.ts.set txn (some (T,⟨l,xj.saves,xj.ops⟩)) }:=by
    unfold St.undo1
    simp only [HTJ.out,HLC.out,List.getLast?_append,List.getLast?_singleton,Option.some_or,List.dropLast_concat]
   have hE6:=HE4.out.trans hE5
   have hA6:=hA5
   rw [show ({ (sj.chg a.r nb 4 txn c.pg c.sl c.before) with ts:=(sj.chg a.r nb 4 txn c.pg c.sl c.before).ts.set txn (some (T,⟨l,xj.saves,xj.ops⟩)) }:St)=sj.undo1 a.r nb txn from hund.symm] at hA6 hE6
   go_roundg (N-n-(j+1))
   case measure=>have:=HLJN.out;omega
   case rel =>
    have hljn:=HLJN.out
    refine ⟨j+1,by have:=HLL.out;omega,?_⟩
    rw [HR.out]
    refine ⟨zE nbs j nb,sj.undo1 a.r nb txn,_,_,⟨l,xj.saves,xj.ops⟩,fun nbs' hnn=>?_,hA6,hE6,?_,by have:=HLL.out;show l.length=N-(j+1);omega,?_,?_,?_⟩
    ·rw [HUN.out nbs' (fun i hi=>by rw [hnn i (by omega),zm _ _ (by omega)]),show N-n-j=(N-n-(j+1))+1 by omega]
     simp only [St.undos]
     rw [hnn j (by omega),zf]
    ·rw [hund]
     exact List.getElem?_set_self (List.getElem?_eq_some_iff.1 HTJ.out).1
    ·rw [hund];exact (Qo hsj _ _ _ _).1
    ·rw [hund]
     have:=(Qo hsj (ji (sj.sto.page c.pg) c.sl) c.before c.pg c.sl).2
     show (yp (qR sj.its (ji (sj.sto.page c.pg) c.sl)) c.before c.pg c.sl).length<=_
     omega
    ·rw [hund]
     show (sj.sto.chg a.r nb 4 txn c.pg c.sl c.before).log.length+_+d<=_
     rw [(zaE _ _ _ _ _ _ _ _).1,List.length_append]
     have h1:=yM (Kr (r:=a.r) (kind:=4) (txn:=txn) (n:=c.pg) (slot:=c.sl) (s1:=sj.sto.get nb c.pg) (o:=c.before) (Gg HA.out.sto c.pg) (.inr rfl) (by omega) hcok.1 hcok.2.1 hcok.2.2)
     omega
  ·have q1:¬ ((n:Int)<(lj:Int)):=by omega
   obtain ⟨HUN,HA,HE⟩:=zi3 hun hA hE
   clear hun hA hE htxA hlj2 hlj
   go_wp2_with (go_at_call 94;(with_reducible refine HLEN.out.mono ?_);rintro e2 w2 ⟨rfl,hw2⟩;subst w2)
   go_ret
   have hfin:=HUN.out nbs (fun _ _=>rfl)
   rw [show N-n-j=0 by omega] at hfin
   refine ⟨rfl,nbs,?_⟩
   rw [hfin]
   exact ⟨_,_,⟨xj,htj⟩,hsj,(show sj.its.length<=810 by omega),(show sj.sto.log.length+d<=14336 by omega),HA.out,HE.out⟩
def yW (txn:Nat):zI:=⟨6,txn,0,0,none,none,[],[]⟩
theorem Ga {txn:Nat} (h:txn<=255):(yW txn).ok:=⟨by simp [yW],by simp [yW],h,by simp [yW],by simp [yW],trivial,trivial,.inl rfl,.inl rfl,by simp [yW]⟩
def St.abort (s:St) (r txn:Nat) (nbs:Nat->Nat) (x:Tx):St :=
 { sto:=if x.list=[] then s.sto else (St.undos r txn nbs 0 x.list.length s).sto.logged (yW txn),its:=(St.undos r txn nbs 0 x.list.length s).its,ts:=(St.undos r txn nbs 0 x.list.length s).ts.set txn none,lk:=dropM (St.undos r txn nbs 0 x.list.length s).lk txn }
theorem zbd (a:Va) (b:Vb) (cur:Nat->Nat->List UInt8) (s:St) (txn T:Nat) (x:Tx) (w:World) (h:zg w a b cur s) (ht1:1<=txn) (ht3:txn<=3) (htx:s.ts[txn]?=some (some (T,x))) (hso:zJ s.its) (hil:s.its.length<=800) (dd:Nat) (hfit:s.sto.log.length+(if x.list=[] then 0 else (x.list.length+1)*395)+dd<=14336) :
  Calls Tryz.prog 85 #[.pointer (some ⟨a.S,0,none⟩),.int .i64 txn] w fun e w'=>e=.returned (.int .i64 0)/\∃ nbs b' cur',(s.abort a.r txn nbs x).sto.log.length+dd<=14336/\zg w' a b' cur' (s.abort a.r txn nbs x)/\qa w w' (zS a b s) (zS a b' (s.abort a.r txn nbs x)) cur cur' a.r:=by
 have hget:=Yg a.S txn s.ts (some (T,x)) w h.tab.row ht1 ht3 htx
 simp only [Option.map_some] at hget
 obtain ⟨htxA,hxok⟩:=h.tab.tx txn T x htx
 have HGET:=hid hget
 have HLEN:=hid (zcO T x (b.G txn) w htxA)
 have H:=hid h
 obtain ⟨d,hd⟩:∃ d,d=if x.list=[] then dd else 395+dd:=⟨_,rfl⟩
 have hlog:=h.sto.len
 have hbk:=zjw a b cur s txn T 0 d x w h ht1 ht3 htx hso hil (Nat.zero_le _) (by
  rw [hd];split
  ·rename_i he;rw [if_pos he] at hfit;rw [he];simp;omega
  ·rename_i he;rw [if_neg he] at hfit;omega)
 rw [Nat.sub_zero] at hbk
 have HBK:Hid (Calls Tryz.prog 129 #[.pointer (some ⟨a.S,0,none⟩),.int .i64 txn,.int .i64 0] _ _):=hid hbk
 obtain ⟨n,hn⟩:∃ n,n=x.list.length:=⟨_,rfl⟩
 rw [<- hn] at HLEN HBK
 obtain ⟨HN,HD⟩:=zi2 hn hd
 clear h hget htxA hxok hn hd hbk hfit
 cases n with
 | zero =>
  have hl:x.list=[]:=List.eq_nil_of_length_eq_zero HN.out.symm
  have HL:=hid hl
  clear hl
  go_enter Tryz.func85,Tryz.ntmps85
  go_upto_region 9 with (first
   | (go_at_call 88;(with_reducible refine HGET.out.mono ?_);rintro e1 w1 ⟨rfl,hw1⟩;subst w1)
   | (go_at_call 94;(with_reducible refine HLEN.out.mono ?_);rintro e2 w2 ⟨rfl,hw2⟩;subst w2)
   | (go_at_call 129;(with_reducible refine HBK.out.mono ?_);rintro e3 w3 ⟨rfl,nbs,b3,cur3,⟨x3,hx3⟩,_,_,hf3,hA3,hE3⟩))
  obtain ⟨HA3,HE3⟩:=zi2 hA3 hE3
  clear hA3 hE3
  go_upto_region 10 with (go_at_call 95;(with_reducible refine (GZ HA3.out ht1 ht3).mono ?_);rintro e4 w4 ⟨rfl,b4,hA4,hE4⟩)
  have k0:=hA4.c0
  have HA4:=hid hA4
  have HE4:=hid (HE3.out.trans hE4)
  clear hA4 hE4
  go_wp2_with (go_at_call 96;(with_reducible refine (KY HA4.out (by omega)).mono ?_);rintro e5 w5 ⟨rfl,b5,hA5,hE5⟩)
  go_ret
  have hfin:s.abort a.r txn nbs x={ sto:=(St.undos a.r txn nbs 0 0 s).sto,its:=(St.undos a.r txn nbs 0 0 s).its,ts:=(St.undos a.r txn nbs 0 0 s).ts.set txn none,lk:=dropM (St.undos a.r txn nbs 0 0 s).lk txn }:=by
   unfold St.abort
   rw [if_pos HL.out,<- HN.out];rfl
  refine ⟨rfl,nbs,b5,cur3,?_⟩
  rw [hfin]
  exact ⟨by have h9:=hf3;rw [HD.out,if_pos HL.out] at h9;exact h9,hA5,HE4.out.trans hE5⟩
 | succ m =>
  have hl:x.list≠[]:=fun e=>by rw [e] at HN;exact absurd HN.out (by simp)
  have hd395:d=395+dd:=by rw [HD.out,if_neg hl]
  obtain ⟨HD3,HL⟩:=zi2 hd395 hl
  have q1:(0:Int)<((m:Int)+1):=by omega
  clear hl hd395
  go_enter Tryz.func85,Tryz.ntmps85
  go_upto_region 6 with (first
   | (go_at_call 88;(with_reducible refine HGET.out.mono ?_);rintro e1 w1 ⟨rfl,hw1⟩;subst w1)
   | (go_at_call 94;(with_reducible refine HLEN.out.mono ?_);rintro e2 w2 ⟨rfl,hw2⟩;subst w2)
   | (go_at_call 129;(with_reducible refine HBK.out.mono ?_);rintro e3 w3 ⟨rfl,nbs,b3,cur3,⟨x3,hx3⟩,_,_,hf3,hA3,hE3⟩))
  have k5:=hA3.c5
  have hap:=zbh a b3 cur3 _ (yW txn) (.slice none 0 0) w3 hA3 (Ga (by omega)) (vE.nil _) (by have:=yM (Ga (txn:=txn) (by omega));rw [HD3.out] at hf3;omega)
  rw [show ZB (yW txn) (.slice none 0 0)=.agg #[.int .i64 6,.int .i64 txn,.int .i64 0,.int .i64 0,.string { data:=#[] },.string { data:=#[] },.string { data:=#[] },.slice none 0 0] from rfl] at hap
  obtain ⟨HAP,HE3⟩:=zi2 hap hE3
  clear hA3 hE3 hap
  go_upto_region 9 with (go_at_call 64;(with_reducible refine HAP.out.mono ?_);rintro e5 w5 ⟨rfl,b5,hA5,hE5⟩)
  have HA5:=hid hA5
  have HE5:=hid (HE3.out.trans hE5)
  clear hA5 hE5
  go_upto_region 10 with (go_at_call 95;(with_reducible refine (GZ HA5.out ht1 ht3).mono ?_);rintro e4 w4 ⟨rfl,b4,hA4,hE4⟩)
  have k0:=hA4.c0
  have HA4:=hid hA4
  have HE4:=hid (HE5.out.trans hE4)
  clear hA4 hE4
  go_wp2_with (go_at_call 96;(with_reducible refine (KY HA4.out (by omega)).mono ?_);rintro e6 w6 ⟨rfl,b6,hA6,hE6⟩)
  go_ret
  have hfin:s.abort a.r txn nbs x={ sto:=(St.undos a.r txn nbs 0 (m+1) s).sto.logged (yW txn),its:=(St.undos a.r txn nbs 0 (m+1) s).its,ts:=(St.undos a.r txn nbs 0 (m+1) s).ts.set txn none,lk:=dropM (St.undos a.r txn nbs 0 (m+1) s).lk txn }:=by
   unfold St.abort
   rw [if_neg HL.out,<- HN.out]
  refine ⟨rfl,nbs,b6,cur3,?_⟩
  rw [hfin]
  refine ⟨?_,hA6,HE4.out.trans hE6⟩
  have h9:=yM (Ga (txn:=txn) (by omega))
  have h8:=hf3
  rw [HD3.out] at h8
  show ((St.undos a.r txn nbs 0 (m+1) s).sto.log++qu (yW txn)).length+dd<=14336
  rw [List.length_append]
  omega
def zfl (s:St) (txn t:Nat) (k:List UInt8):St:={ s with lk:=takeS s.lk txn (t,za k,false) 1 }
def zkT:Option It->List UInt8 × Nat
 | some x=>(x.rw.v,0)
 | none=>([],5)
def St.read (s:St) (txn t:Nat) (k:List UInt8):List UInt8 × Nat :=
 if takeB s.lk txn (t,za k,false) 1=false then ([],6)
 else zkT (yB s.its ⟨t,k,[]⟩)
theorem zgU (a:Va) (b:Vb) (cur:Nat->Nat->List UInt8) (s:St) (txn t:Nat) (k:List UInt8) (w:World) (h:zg w a b cur s) (ht:txn<=1000) (htt:t<=1000) (hk:k.length<=1000) (hso:zJ s.its) (hil:s.its.length<=900) :
  Calls Tryz.prog 112 #[.pointer (some ⟨a.S,0,none⟩),.int .i64 txn,.int .i64 t,.string (za k)] w fun e w'=>e=.returned (.tuple #[.string (za (s.read txn t k).1),.int .i64 (s.read txn t k).2])/\∃ b',zg w' a b' cur (zfl s txn t k)/\qa w w' (zS a b s) (zS a b' (zfl s txn t k)) cur cur a.r:=by
 have HRD:=hid (zjX h ht htt hk)
 have k0:=h.c0
 clear h
 cases hb:takeB s.lk txn (t,za k,false) 1 with
 | false =>
  have hr:s.read txn t k=([],6):=by unfold St.read;rw [if_pos hb]
  rw [hb] at HRD
  have HR:=hid hr
  clear hr hb
  go_enter Tryz.func112,Tryz.ntmps112
  go_wp2_with (go_at_call 87;(with_reducible refine HRD.out.mono ?_);rintro e1 w1 ⟨rfl,b1,hA1,hE1⟩)
  go_ret2
  rw [HR.out]
  exact ⟨rfl,b1,hA1,hE1⟩
 | true =>
  rw [hb] at HRD
  obtain ⟨fi,hfi⟩:∃ fi,fi=yB s.its ⟨t,k,[]⟩:=⟨_,rfl⟩
  have hr:s.read txn t k=zkT fi:=by unfold St.read;rw [if_neg (by rw [hb];simp),hfi]
  obtain ⟨HR,HFI⟩:=zi2 hr hfi
  clear hr hb hfi
  go_enter Tryz.func112,Tryz.ntmps112
  go_upto_region 3 with (go_at_call 87;(with_reducible refine HRD.out.mono ?_);rintro e1 w1 ⟨rfl,b1,hA1,hE1⟩)
  have hf:=zeq hA1 hso hil t k
  rw [<- HFI.out] at hf
  obtain ⟨HF,HA1,HE1⟩:=zi3 hf hA1 hE1
  clear hf hA1 hE1
  cases fi with
  | none =>
   go_wp2_with (first
    | (go_at_call 90;(with_reducible refine HF.out.mono ?_);rintro e2 w2 ⟨rfl,hb2⟩)
    | (show wpList _ _ _ (⟨none,.store 136 _ _,_,_,_,_⟩::_) _ _;refine zN rfl 136 (.tmp 10) (.tmp 28) rfl w2.heap.size rfl _ (uu none) (by rfl) (by rfl) (by kernel_rfl) (by rfl) (Gd none) ?_))
   go_ret2
   rw [HR.out]
   exact ⟨rfl,b1,(HA1.out.below (B_alloc hb2 _)),HE1.out.call (B_alloc hb2 _)⟩
  | some x =>
   go_upto_region 6 with (first
    | (go_at_call 90;(with_reducible refine HF.out.mono ?_);rintro e2 w2 ⟨rfl,hb2⟩)
    | (show wpList _ _ _ (⟨none,.store 136 _ _,_,_,_,_⟩::_) _ _;refine zN rfl 136 (.tmp 10) (.tmp 28) rfl w2.heap.size rfl _ (uu (some x)) (by rfl) (by rfl) (by kernel_rfl) (by rfl) (Gd (some x)) ?_))
   have f2:=(cell_of_row _ w2.heap.size 2 _ _ _ (zk w2 (.cells (uu (some x)) 136) rfl)).trans (show _=some (Value.string (za x.rw.v)) from rfl)
   go_wp2_with fail
   go_ret2
   rw [HR.out]
   exact ⟨rfl,b1,(HA1.out.below (B_alloc hb2 _)),HE1.out.call (B_alloc hb2 _)⟩
def yw (st cnt:Nat):List UInt8:=zz 1 st++zz 4 cnt
theorem KA (st cnt:Nat):(yw st cnt).length=5:=by simp [yw,zA]
def zah (st cnt:Nat):Value:=.agg #[.int .i64 st,.int .u64 cnt]
theorem zjG:Tryz.prog.eqGuardType Tryz.prog.depth 68=false:=by kernel_rfl
theorem zlk (st cnt:Nat):∃ b,∀ W,(binOp .neq 68 (.agg #[.int .i64 st,.int .u64 cnt]) (.agg #[.int .i64 0,.int .u64 0])).run Tryz.prog W=.ok (.bool b) W:=by
 by_cases h1:(st:Int)=0
 ·by_cases h2:(cnt:Int)=0
  ·exact ⟨false,fun W=>by rw [h1,h2];kernel_rfl⟩
  ·refine ⟨true,fun W=>?_⟩
   rw [h1]
   go_simp
   omega
 ·refine ⟨true,fun W=>?_⟩
  go_simp
  omega
theorem zgZ (D:Nat) (F:Nat->Prop) (cur:Nat->Nat->List UInt8) (r st cnt:Nat) (w:World) (hD:qr w D F cur) (hr:r<4) (hl:cur r 0=jc (yw st cnt)) (hst:st<=2) (hc:cnt<4294967296) :
  Calls Tryz.prog 76 #[.pointer (some ⟨D,0,none⟩),.int .i64 r] w fun e w'=>e=.returned (.tuple #[zah st cnt,.int .i64 0])/\Below w.heap.size w w':=by
 have hD1:=hD.below (B_alloc (Below.refl _ w) (.cells #[.int .i64 0,.int .u64 0] 68))
 have hrd:=ZV D F cur (fun _=>0) r 0 _ hD1 (by omega) (by omega) (by omega) (by omega)
 simp only [Int.toNat_natCast,Int.toNat_zero] at hrd
 rw [hl] at hrd
 have hpl:(jc (yw st cnt)).length=64:=zbz (by rw [KA];omega)
 have hsp:jc (yw st cnt)=zz 1 st++(zz 4 cnt++zs 59):=by
  unfold jc
  rw [KA]
  simp [yw]
 obtain ⟨HRD,HPL,HSP⟩:=zi3 hrd hpl hsp
 have HX:=hid (zk w (.cells #[.int .i64 0,.int .u64 0] 68) rfl)
 clear hrd hpl hsp hD1 hl
 go_enter Tryz.func76,Tryz.ntmps76
 go_upto_region 4 with (go_at_call 117;(with_reducible refine HRD.out.mono ?_);rintro e1 w1 ⟨v1,rfl,hown1,hb1⟩)
 have hin1:=ze.of_own HPL.out.symm hown1
 rw [HSP.out] at hin1
 have HN:=hid (Je v1 _ w1 hin1)
 have HB1:=hid hb1
 clear hin1 hown1 hb1
 go_upto_region 5 with (go_at_call 51;(with_reducible refine HN.out.mono ?_);rintro e2 w2 ⟨rfl,hrd2,hb2⟩)
 have HB2:=hid hb2
 have HN1:=hid (Zn w1.heap.size st (zz 4 cnt++zs 59) w2 hrd2 (by omega) (by rw [List.length_append,zA];simp [zs]))
 clear hrd2 hb2
 have x1:IntKind.i64.wrap (st:Int)=st:=by rw [IntKind.wrap_i64];omega
 have hlC:(zah st cnt)=.agg #[.int .i64 st,.int .u64 cnt]:=rfl
 go_upto_region 6 with (first
  | (go_at_call 52;(with_reducible refine HN1.out.mono ?_);rintro e3 w3 ⟨rfl,hrd3,hg3⟩;have HG3:=hid hg3;have HN4:=hid (Ge w1.heap.size cnt (zs 59) w3 hrd3 hc (by simp [zs]));clear hrd3 hg3)
  | (go_at_call 52;(with_reducible refine HN4.out.mono ?_);rintro e4 w4 ⟨rfl,hrd4,hg4⟩;have HG4:=hid hg4;clear hrd4 hg4)
  | (show wpList _ _ _ (⟨none,.store 68 (.tmp 9) _,_,_,_,_⟩::_) _ _;refine zN rfl 68 (.tmp 9) (.tmp 27) rfl w4.heap.size rfl _ #[.int .i64 st,.int .u64 cnt] (by rfl) (by rfl) (by kernel_rfl) (by rfl) (by simp [Value.oneCell']) ?_))
 have hbw:Below w.heap.size w (w4.alloc (.cells #[.int .i64 st,.int .u64 cnt] 68)):=by
  have hz1:=HB1.out.size
  simp at hz1
  exact B_alloc (((B_call (B_call (B_alloc (Below.refl _ w) _) HB1.out) HB2.out).grown HG3.out (by have:=HB2.out.size;omega) (fun q e=>by cases e;omega)).grown HG4.out (by have:=HB2.out.size;have:=HG3.out.size;omega) (fun q e=>by cases e;omega)) _
 have hY:=zk w4 (.cells #[.int .i64 st,.int .u64 cnt] 68) rfl
 have hbx:(w4.alloc (.cells #[.int .i64 st,.int .u64 cnt] 68)).heap[w.heap.size]?=some (.cells #[.int .i64 0,.int .u64 0] 68 (0,0)):=by
  have hz1:=HB1.out.size
  simp at hz1
  have h1:=zb HX.out HB1.out (by simp)
  have h2:=zb h1 HB2.out (zd h1)
  have h3:=zX h2 HG3.out (fun e=>by injection e with e;omega)
  exact zy (zX h3 HG4.out (fun e=>by injection e with e;omega)) _
 have y0:=(cell_of_row _ w4.heap.size 0 _ _ _ hY).trans (show _=some (Value.int .i64 st) from rfl)
 have q1:¬ ((2:Int)<(st:Int)):=by omega
 obtain ⟨bq,hbq⟩:=zlk st cnt
 obtain ⟨HBQ,HBW,HY,HBX⟩:=zi4 hbq hbw hY hbx
 clear hbw hY hbx hbq
 go_upto_if 35 with (first
  | (show wpList _ _ _ (⟨some 30,_,_,_,_,_⟩::_) _ _;refine zZ rfl _ _ (Ys .neq 68 68 (.tmp 28) (.tmp 29) rfl (.agg #[.int .i64 st,.int .u64 cnt]) (.agg #[.int .i64 0,.int .u64 0]) _ (by rfl) (by rfl) (zeC _ .neq 68 _ _ _ _ zjG) (HBQ.out _)) ?_)
  | (show wpList _ _ _ (⟨some 28,_,_,_,_,_⟩::_) _ _;refine wpList_load_row rfl 68 (.tmp 9) rfl _ (by rfl) 68 _ (0,0) _ HY.out Tryz.underlying68 rfl (by kernel_rfl) ?_))
 all_goals (go_wp2_with (first
  | (show wpList _ _ _ (⟨some 37,_,_,_,_,_⟩::_) _ _;refine wpList_load_row rfl 68 (.tmp 9) rfl _ (by rfl) 68 _ (0,0) _ HY.out Tryz.underlying68 rfl (by kernel_rfl) ?_)
  | (show wpList _ _ _ (⟨none,.store 68 (.tmp 4) _,_,_,_,_⟩::_) _ _;refine wpList_store_row rfl 68 (.tmp 4) (.tmp 37) rfl w.heap.size #[.int .i64 st,.int .u64 cnt] (by rfl) (by rfl) 68 _ HBX.out (by kernel_rfl) (by rfl) (by simp [Value.oneCell']) ?_)))
 all_goals exact jO 4 5 68 rfl rfl w.heap.size 68 #[.int .i64 st,.int .u64 cnt] (0,0) _ (.int .i64 0) rfl rfl (setRow_heap _ _ _ _ _ _ HBX.out) Tryz.underlying68 rfl (by kernel_rfl) ⟨rfl,below_setRow HBW.out (Nat.le_refl _) _⟩
theorem zbK (D:Nat) (F:Nat->Prop) (cur:Nat->Nat->List UInt8) (r:Nat) (w:World) (hD:qr w D F cur) (hr:r<4) :
  Calls Tryz.prog 77 #[.pointer (some ⟨D,0,none⟩),.int .i64 r] w fun e w'=>e=.returned (.int .i64 0)/\∃ F',qr w' D F' (yb cur r 1 538)/\zr F w w'/\qh w F F':=by
 have hw:Calls Tryz.prog 110 #[.pointer (some ⟨D,0,none⟩),.int .i64 r,.int .i64 1,.int .i64 538] w _:=GS D F cur (fun _=>0) r 1 538 w hD hr (by omega) (Nat.zero_le _)
 have HW:=hid hw
 clear hw
 go_enter Tryz.func77,Tryz.ntmps77
 go_wp2_with (go_at_call 110;(with_reducible refine HW.out.mono ?_);rintro e1 w1 ⟨rfl,F1,hD1,hk1,hn1⟩)
 go_ret
 refine ⟨rfl,F1,?_,hk1,hn1⟩
 have:zE (fun _=>0) r 0=(fun _:Nat=>0):=by funext i;unfold zE;split<;>rfl
 rw [this] at hD1
 exact hD1
theorem zau (D:Nat) (F:Nat->Prop) (cur:Nat->Nat->List UInt8) (r st cnt:Nat) (w:World) (hD:qr w D F cur) (hr:r<4) (hst:st<=2) (hc:cnt<4294967296) :
  Calls Tryz.prog 50 #[.pointer (some ⟨D,0,none⟩),.int .i64 r,.agg #[.int .i64 st,.int .u64 cnt]] w fun e w'=>e=.returned (.int .i64 0)/\∃ F',qr w' D F' (vq cur r 0 (jc (yw st cnt)))/\zr F w w'/\qh w F F':=by
 have HX:=hid (zk w (.cells #[.int .i64 st,.int .u64 cnt] 68) rfl)
 have HD:=hid hD
 go_enter Tryz.func50,Tryz.ntmps50
 go_upto_region 1 with fail
 have x1:IntKind.u64.wrap (st:Int)=st:=jW _ (by omega)
 have hS:(w.alloc (.cells #[.int .i64 st,.int .u64 cnt] 68)).drew.heap[w.heap.size]?=some (.cells #[.int .i64 st,.int .u64 cnt] 68 (0,0))/\Below w.heap.size w (w.alloc (.cells #[.int .i64 st,.int .u64 cnt] 68)).drew:=⟨HX.out,(B_alloc (Below.refl _ _) _).drew⟩
 refine wp_region_noPanic ?_
 refine PrintLast.start_ (n:=11) (S:=(fun w'=>w'.heap[w.heap.size]?=some (.cells #[.int .i64 st,.int .u64 cnt] 68 (0,0))/\Below w.heap.size w w')) (ds:=[9]) (bA 11 0) (by kernel_rfl) rfl (by kernel_rfl) hS (fun hHeld=>?_)
 refine pu 0 8 11 1 rfl rfl ?_
 refine pu 1 9 11 3 rfl rfl ?_
 refine pu 2 10 11 7 rfl rfl ?_
 refine tk 3 11 11 15 rfl rfl (Or.inl ⟨by rfl,fun _ h=>(by have k0:=(cell_of_row _ w.heap.size 0 _ _ _ h.1).trans (show _=some (Value.int .i64 st) from rfl);go_simp;with_reducible rfl)⟩) ?_
 refine tk 4 12 11 31 rfl rfl (Or.inl ⟨by rfl,fun _ _=>(by go_simp;with_reducible rfl)⟩) ?_
 refine pu 6 14 11 95 rfl rfl ?_
 refine tk 7 15 11 223 rfl rfl (Or.inl ⟨by rfl,fun _ h=>(by have k0:=(cell_of_row _ w.heap.size 1 _ _ _ h.1).trans (show _=some (Value.int .u64 cnt) from rfl);go_simp;with_reducible rfl)⟩) ?_
 refine on 5 11 255 (some 13) rfl rfl (fun K hK=>?_)
 show Oper.wp _ ⟨some 13,_,_,_,_,_⟩ _ _ _ _
 refine zq 59 _ _ [.slice none 0 0,.int .i64 1,.int .u64 st] rfl (by kernel_rfl) (by rfl) ((yF (.slice none 0 0) [] 1 st _ (ze.nil _) (by omega) (by omega) (by simp)).mono ?_)
 rintro e2 w2 ⟨v2,rfl,hown2,hb2⟩
 refine ⟨_,rfl,?_⟩
 refine hK.out _ _ ⟨zb hHeld.1 hb2 (zd hHeld.1),B_call hHeld.2 hb2⟩ (fun hHeld=>?_)
 clear hK K
 try simp only [pS]
 refine on 8 11 511 (some 16) rfl rfl (fun K hK=>?_)
 show Oper.wp _ ⟨some 16,_,_,_,_,_⟩ _ _ _ _
 refine zq 59 _ _ [v2,.int .i64 4,.int .u64 cnt] rfl (by kernel_rfl) (by rfl) ((yF v2 (zz 1 st) 4 cnt w2 (ze.of_own (by rw [zA];rfl) hown2) (by omega) (by omega) (by rw [zA];omega)).mono ?_)
 rintro e3 w3 ⟨v3,rfl,hown3,hb3⟩
 have HDW:=hid ((HD.out.below hHeld.2).below hb3)
 refine ⟨_,rfl,?_⟩
 refine hK.out _ _ ⟨zb hHeld.1 hb3 (zd hHeld.1),B_call hHeld.2 hb3⟩ (fun hHeld=>?_)
 clear hK K
 try simp only [pS]
 refine la 9 11 1023 (some 17) rfl rfl (fun K hK=>?_)
 show Oper.wp _ ⟨some 17,_,_,_,_,_⟩ _ _ _ _
 refine zq 97 _ _ [.pointer (some ⟨D,0,none⟩),.int .i64 r,.int .i64 0,v3] rfl (by kernel_rfl) (by rfl) ((Qx D F cur (fun _=>0) r 0 v3 (yw st cnt) w3 HDW.out (by omega) (by omega) (by omega) (by omega) (ze.of_own (by simp [yw,zA]) hown3) (by rw [KA];omega) (Nat.zero_le _)).mono ?_)
 rintro e4 w4 ⟨rfl,F4,hD4,hk4,hn4⟩
 refine ⟨_,rfl,?_⟩
 refine hK.out _ _ ?_
 clear hK K
 try simp only [pS]
 refine pu 10 7 11 2047 rfl rfl ?_
 refine PrintLast.done_ (by kernel_rfl) ?_
 refine NoPanic.normal ?_
 simp only [Int.toNat_natCast,Int.toNat_zero] at hD4
 have hb:=ud D F4 (vq cur r 0 (jc (yw st cnt))) (QV (fun _=>0) r) r w4 hD4 (by omega) (by omega) (by simp only [Int.toNat_natCast];unfold QV;rw [zf];show 0+1<=100000;omega)
 have HBAR:=hid hb
 have HK:=hid ((zr.of_below (M:=F) hHeld.2).trans hk4 (fun _ h=>.inl h))
 have HN:=hid (qh.mono (show qh w3 F F4 from hn4) hHeld.2.size)
 clear hb hD4 hk4 hn4 hHeld hS hown2 hown3 hb2 hb3
 go_wp2_with (go_at_call 98;(with_reducible refine HBAR.out.mono ?_);rintro e5 w5 ⟨rfl,hD5,hk5⟩)
 go_ret
 refine ⟨rfl,F4,?_,HK.out.next hk5 HN.out,HN.out⟩
 have:zE (QV (fun _=>0) r) r 0=(fun _:Nat=>0):=by funext i;unfold QV zE;split<;>rfl
 rw [Int.toNat_natCast,this] at hD5
 exact hD5
def vQ (cur:Nat->Nat->List UInt8) (r st cnt:Nat):Nat->Nat->List UInt8 :=
 if st=1 then cur else if st=2 then vq (yb cur r 1 538) r 0 (jc (yw 0 cnt)) else yb cur r 1 538
def zfE (st:Nat):Nat:=if st=2 then 0 else st
theorem zea (D:Nat) (F:Nat->Prop) (cur:Nat->Nat->List UInt8) (r st cnt:Nat) (w:World) (hD:qr w D F cur) (hr:r<4) (hl:cur r 0=jc (yw st cnt)) (hst:st<=2) (hc:cnt<4294967296) :
  Calls Tryz.prog 42 #[.pointer (some ⟨D,0,none⟩),.int .i64 r] w fun e w'=>e=.returned (.tuple #[zah (zfE st) cnt,.int .i64 0])/\∃ F',qr w' D F' (vQ cur r st cnt)/\zr F w w'/\qh w F F':=by
 have HX:=hid (zk w (.cells #[.int .i64 0,.int .u64 0] 68) rfl)
 have hb0:=B_alloc (Below.refl _ w) (.cells #[.int .i64 0,.int .u64 0] 68)
 have hrd:=zgZ D F cur r st cnt _ (hD.below hb0) hr hl hst hc
 unfold zah at hrd ⊢
 obtain ⟨HRD,HB0,HD⟩:=zi3 hrd hb0 hD
 clear hrd hb0 hD hl
 go_enter Tryz.func42,Tryz.ntmps42
 go_upto_region 2 with (first
  | (go_at_call 76;(with_reducible refine HRD.out.mono ?_);rintro e1 w1 ⟨rfl,hb1⟩)
  | (show wpList _ _ _ (⟨none,.store 68 (.tmp 6) _,_,_,_,_⟩::_) _ _;refine zN rfl 68 (.tmp 6) (.tmp 13) rfl w1.heap.size rfl _ #[.int .i64 st,.int .u64 cnt] (by rfl) (by rfl) (by kernel_rfl) (by rfl) (by simp [Value.oneCell']) ?_))
 obtain ⟨w2,hw2⟩:∃ w2,w1.alloc (.cells #[.int .i64 st,.int .u64 cnt] 68)=w2:=⟨_,rfl⟩
 have hY:w2.heap[w1.heap.size]?=some (.cells #[.int .i64 st,.int .u64 cnt] 68 (0,0)):=by rw [<- hw2];exact zk _ _ rfl
 have hX2:w2.heap[w.heap.size]?=some (.cells #[.int .i64 0,.int .u64 0] 68 (0,0)):=by rw [<- hw2];exact zy (zb HX.out hb1 (by simp)) _
 have hb2:Below w.heap.size w w2:=by rw [<- hw2];exact B_alloc (B_call HB0.out hb1) _
 have hsz1:w.heap.size<w1.heap.size:=by have:=hb1.size;simp at this;omega
 have hne:w.heap.size≠w1.heap.size:=by omega
 have hD2:=HD.out.below hb2
 have y0:=(cell_of_row _ w1.heap.size 0 _ _ _ hY).trans (show _=some (Value.int .i64 st) from rfl)
 obtain ⟨HY,HX2,HB2,HD2⟩:=zi4 hY hX2 hb2 hD2
 rw [hw2]
 clear hw2 hY hX2 hb2 hb1 hD2
 obtain rfl | rfl | rfl:st=1∨st=0∨st=2:=by omega
 ·have hcur:vQ cur r 1 cnt=cur:=rfl
  have HC:=hid hcur
  clear hcur
  go_wp2_with (first
   | (show wpList _ _ _ (⟨some 22,_,_,_,_,_⟩::_) _ _;refine wpList_load_row rfl 68 (.tmp 6) rfl _ (by rfl) 68 _ (0,0) _ HY.out Tryz.underlying68 rfl (by kernel_rfl) ?_)
   | (show wpList _ _ _ (⟨none,.store 68 (.tmp 4) _,_,_,_,_⟩::_) _ _;refine wpList_store_row rfl 68 (.tmp 4) (.tmp 22) rfl w.heap.size #[.int .i64 (1:Nat),.int .u64 cnt] (by rfl) (by rfl) 68 _ HX2.out (by kernel_rfl) (by rfl) (by simp [Value.oneCell']) ?_))
  refine jO 4 5 68 rfl rfl w.heap.size 68 #[.int .i64 (1:Nat),.int .u64 cnt] (0,0) _ (.int .i64 0) rfl rfl (setRow_heap _ _ _ _ _ _ HX2.out) Tryz.underlying68 rfl (by kernel_rfl) ?_
  rw [HC.out]
  exact ⟨rfl,F,HD2.out.same (fun k hk=>setRow_other _ _ _ _ (fun e=>by have:=HD.out.lt k hk;omega)) (by simp),(zr.of_below (M:=F) HB2.out).setRow (.inr (Nat.le_refl _)) _,qh.refl _ _⟩
 ·have hcur:vQ cur r 0 cnt=yb cur r 1 538:=rfl
  have HC:=hid hcur
  clear hcur
  go_upto_if 33 with (go_at_call 77;(with_reducible refine (zbK D F cur r w2 HD2.out hr).mono ?_);rintro e3 w3 ⟨rfl,F3,hD3,hk3,hn3⟩;have y3:=ue y0 hk3 (fun hF=>by have h9:=zv.tags HD2.out hF;rw [zc HY.out] at h9;simp at h9))
  have HY4:=hid (qj HY.out hk3 (fun hF=>by have h9:=zv.tags HD2.out hF;rw [zc HY.out] at h9;simp at h9))
  have HX4:=hid (qj HX2.out hk3 (fun hF=>by have h9:=zv.tags HD2.out hF;rw [zc HX2.out] at h9;simp at h9))
  obtain ⟨HD3,HK3,HN3⟩:=zi3 hD3 hk3 hn3
  clear hD3 hk3 hn3 y3 y0
  go_wp2_with (first
   | (show wpList _ _ _ (⟨some 39,_,_,_,_,_⟩::_) _ _;refine wpList_load_row rfl 68 (.tmp 6) rfl _ (by rfl) 68 _ (0,0) _ HY4.out Tryz.underlying68 rfl (by kernel_rfl) ?_)
   | (show wpList _ _ _ (⟨none,.store 68 (.tmp 4) _,_,_,_,_⟩::_) _ _;refine wpList_store_row rfl 68 (.tmp 4) (.tmp 39) rfl w.heap.size #[.int .i64 (0:Nat),.int .u64 cnt] (by rfl) (by rfl) 68 _ HX4.out (by kernel_rfl) (by rfl) (by simp [Value.oneCell']) ?_))
  refine jO 4 5 68 rfl rfl w.heap.size 68 #[.int .i64 (0:Nat),.int .u64 cnt] (0,0) _ (.int .i64 0) rfl rfl (setRow_heap _ _ _ _ _ _ HX4.out) Tryz.underlying68 rfl (by kernel_rfl) ?_
  rw [HC.out]
  refine ⟨rfl,F3,HD3.out.same (fun k hk=>setRow_other _ _ _ _ (fun e=>?_)) (by simp),((zr.of_below (M:=F) HB2.out).trans HK3.out (fun _ h=>.inl h)).setRow (.inr (Nat.le_refl _)) _,HN3.out.mono HB2.out.size⟩
  have h9:=zv.tags HD3.out hk
  rw [e,zc HX4.out] at h9
  simp at h9
 ·have hcur:vQ cur r 2 cnt=vq (yb cur r 1 538) r 0 (jc (yw 0 cnt)):=rfl
  have HC:=hid hcur
  clear hcur
  go_upto_if 33 with (go_at_call 77;(with_reducible refine (zbK D F cur r w2 HD2.out hr).mono ?_);rintro e3 w3 ⟨rfl,F3,hD3,hk3,hn3⟩;have y3:=ue y0 hk3 (fun hF=>by have h9:=zv.tags HD2.out hF;rw [zc HY.out] at h9;simp at h9))
  have HY3:=hid (qj HY.out hk3 (fun hF=>by have h9:=zv.tags HD2.out hF;rw [zc HY.out] at h9;simp at h9))
  have HX3:=hid (qj HX2.out hk3 (fun hF=>by have h9:=zv.tags HD2.out hF;rw [zc HX2.out] at h9;simp at h9))
  have hY4:(w3.setCell ⟨w1.heap.size,0,none⟩ (.int .i64 0)).heap[w1.heap.size]?=some (.cells #[.int .i64 0,.int .u64 cnt] 68 (0,0)):=by rw [heap_setCell_same _ _ 0 _ _ _ HY3.out];rfl
  have hD4:qr (w3.setCell ⟨w1.heap.size,0,none⟩ (.int .i64 0)) D F3 (yb cur r 1 538):=hD3.same (fun k hk=>heap_setCell_other _ _ _ _ (fun e=>by
   have h9:=zv.tags hD3 hk
   rw [show k=w1.heap.size from e,zc HY3.out] at h9
   simp at h9)) (by simp)
  have HY4':=hid hY4
  have HX4':=hid ((heap_setCell_other (w:=w3) ⟨w1.heap.size,0,none⟩ _ (.int .i64 0) hne).trans HX3.out)
  have hwr:Calls Tryz.prog 50 #[.pointer (some ⟨D,0,none⟩),.int .i64 r,.agg #[.int .i64 0,.int .u64 cnt]] (w3.setCell ⟨w1.heap.size,0,none⟩ (.int .i64 0)) _:=zau D F3 (yb cur r 1 538) r 0 cnt _ hD4 hr (by omega) hc
  have HWR:=hid hwr
  clear hwr
  obtain ⟨HD4,HK3,HN3⟩:=zi3 hD4 hk3 hn3
  have y4:=(cell_of_row _ w1.heap.size 0 _ _ _ HY3.out).trans (show _=some (Value.int .i64 (2:Nat)) from rfl)
  have yf:=frozen_of_row w3 w1.heap.size 0 _ _ HY3.out
  clear hD3 hk3 hn3 hY4 hD4 y3
  go_wp2_with (first
   | (show wpList _ _ _ (⟨none,.store 3 _ _,_,_,_,_⟩::_) _ _;refine vC rfl 3 (.tmp 34) (.const (.int .i64 0)) rfl w1.heap.size 0 _ 68 (.int .i64 0) (by rfl) (by rfl) (by kernel_rfl) HY3.out (by simp) rfl ?_)
   | (show wpList _ _ _ (⟨some 37,_,_,_,_,_⟩::_) _ _;refine wpList_load_row rfl 68 (.tmp 6) rfl _ (by rfl) 68 #[.int .i64 0,.int .u64 cnt] (0,0) _ HY4'.out Tryz.underlying68 rfl (by kernel_rfl) ?_)
   | (go_at_call 50;(with_reducible refine HWR.out.mono ?_);rintro e4 w4 ⟨rfl,F4,hD4,hk4,hn4⟩;have HY4:=hid (qj HY4'.out hk4 (fun hF=>by have h9:=zv.tags HD4.out hF;rw [zc HY4'.out] at h9;simp at h9));have HX4:=hid (qj HX4'.out hk4 (fun hF=>by have h9:=zv.tags HD4.out hF;rw [zc HX4'.out] at h9;simp at h9));obtain ⟨HD5,HK4,HN4⟩:=zi3 hD4 hk4 hn4;clear hD4 hk4 hn4 y4)
   | (show wpList _ _ _ (⟨some 39,_,_,_,_,_⟩::_) _ _;refine wpList_load_row rfl 68 (.tmp 6) rfl _ (by rfl) 68 _ (0,0) _ HY4.out Tryz.underlying68 rfl (by kernel_rfl) ?_)
   | (show wpList _ _ _ (⟨none,.store 68 (.tmp 4) _,_,_,_,_⟩::_) _ _;refine wpList_store_row rfl 68 (.tmp 4) (.tmp 39) rfl w.heap.size #[.int .i64 0,.int .u64 cnt] (by rfl) (by rfl) 68 _ HX4.out (by kernel_rfl) (by rfl) (by simp [Value.oneCell']) ?_))
  refine jO 4 5 68 rfl rfl w.heap.size 68 #[.int .i64 0,.int .u64 cnt] (0,0) _ (.int .i64 0) rfl rfl (setRow_heap _ _ _ _ _ _ HX4.out) Tryz.underlying68 rfl (by kernel_rfl) ?_
  rw [HC.out]
  have hk5:zr F w w4:=(((zr.of_below (M:=F) HB2.out).trans HK3.out (fun _ h=>.inl h)).set (p:=⟨w1.heap.size,0,none⟩) (.inr (Nat.le_of_lt hsz1)) (.int .i64 0)).next HK4.out (HN3.out.mono HB2.out.size)
  refine ⟨rfl,F4,HD5.out.same (fun k hk=>setRow_other _ _ _ _ (fun e=>?_)) (by simp),hk5.setRow (.inr (Nat.le_refl _)) _,fun x hx=>?_⟩
  ·have h9:=zv.tags HD5.out hk
   rw [e,zc HX4.out] at h9
   simp at h9
  ·rcases HN4.out x hx with h | h
   ·exact (HN3.out.mono HB2.out.size) x h
   ·have h1:=HK3.out.size
    have h2:=HB2.out.size
    simp at h
    exact .inr (by omega)
def ql:List (Option Rw)->Nat->List (Nat × Rw)
 | [],_=>[]
 | none::l,i=>ql l (i+1)
 | some x::l,i=>(i,x)::ql l (i+1)
def yE (p:Pg):List (Nat × Rw):=ql p.slots 0
theorem uA:∀ (a b:List (Option Rw)) (i:Nat),ql (a++b) i=ql a i++ql b (i+a.length)
 | [],b,i=>by simp [ql]
 | none::a,b,i=>by simp only [List.cons_append,ql,uA a b,List.length_cons];rw [show i+1+a.length=i+(a.length+1) by omega]
 | some x::a,b,i=>by simp only [List.cons_append,ql,uA a b,List.length_cons];rw [show i+1+a.length=i+(a.length+1) by omega]
theorem zce {ts:List (Option Rw)} {i:Nat} (h:ts[i]?=some none):ql (ts.take (i+1)) 0=ql (ts.take i) 0:=by
 obtain ⟨hl,hx⟩:=List.getElem?_eq_some_iff.1 h
 rw [List.take_succ_eq_append_getElem hl,hx,uA];simp [ql]
theorem Kh {ts:List (Option Rw)} {i:Nat} {x:Rw} (h:ts[i]?=some (some x)):ql (ts.take (i+1)) 0=ql (ts.take i) 0++[(i,x)]:=by
 obtain ⟨hl,hx⟩:=List.getElem?_eq_some_iff.1 h
 rw [List.take_succ_eq_append_getElem hl,hx,uA]
 simp [ql,Nat.min_eq_left (Nat.le_of_lt hl)]
theorem zeb {ts:List (Option Rw)} {i:Nat} {x:Rw} (h:ts[i]?=some (some x)):(ql ts 0)[(ql (ts.take i) 0).length]?=some (i,x):=by
 have h1:ql ts 0=ql (ts.take (i+1)) 0++ql (ts.drop (i+1)) (0+(ts.take (i+1)).length):=by
  conv=>lhs;rw [<- List.take_append_drop (i+1) ts]
  exact uA _ _ 0
 rw [h1,Kh h,List.append_assoc,List.getElem?_append_right (Nat.le_refl _)]
 simp
def Ym (p:Pg) (k:Nat):Array Value:=match (yE p)[k]? with
 | some (i,r)=>#[.int .i64 i,.agg #[.int .i64 r.t,.string (za r.k),.string (za r.v)]]
 | none=>#[.int .i64 0,.agg #[]]
theorem zdR (p:Pg) (k:Nat):(Ym p k).size=2:=by unfold Ym;split<;>rfl
theorem zbA {p:Pg} {k i:Nat} {r:Rw} (h:(yE p)[k]?=some (i,r)):Ym p k=#[.int .i64 i,.agg #[.int .i64 r.t,.string (za r.k),.string (za r.v)]]:=by simp [Ym,h]
theorem zkc (b t n:Nat) (p:Pg) (I:Nat->World->Prop) (hp:p.ok) (hI:∀ k W,I k W->qf W b t n p):zeM Tryz.prog 127 #[.pointer (some ⟨b,0,none⟩)] #[] (yE p).length (Ym p) I:=by
 intro l J w hJI hJB hst h0
 show Calls Tryz.prog 127 #[.pointer (some ⟨b,0,none⟩),.func (.yield l) #[] #[]] w _
 have HST:=hid hst
 have HI:=hid (fun k W h=>hI k W (hJI k W h))
 obtain ⟨HBB,H0,HP⟩:=zi3 hJB h0 hp
 clear hJI hJB hst h0 hI hp
 go_enter Tryz.func127,Tryz.ntmps127
 go_upto_region 2 with fail
 go_loopw [4,5,6,9] (fun _ _ _ u wr=>∃ k:Nat,k<=5/\u=.int .i64 k/\J (ql (p.slots.take k) 0).length wr) (fun _ _ _ u _=>(5-jl u).toNat)
 case atStart=>exact ⟨0,Nat.zero_le _,rfl,by simpa [ql] using H0.out⟩
 case round =>
  obtain ⟨k,hk,rfl,hik⟩:=hrel
  by_cases hlt:k<5
  ·have q1:(k:Int)<5:=by omega
   have hpg:=HI.out _ wr hik
   obtain ⟨o,ho⟩:∃ o,p.slots[k]?=some o:=⟨_,List.getElem?_eq_getElem (by have:=HP.out.five;omega)⟩
   have hco:=HP.out.rows o (List.mem_of_getElem? ho)
   have HBIN:=hid (ze.of_range (n:=40) (qf.slot hpg HP.out ho) (zd hpg) (jz hco).symm (by rw [jz hco];omega))
   obtain ⟨HIK,HO,HCO⟩:=zi3 hik ho hco
   clear hik hpg ho hco
   cases o with
   | none =>
    go_wp2_with (go_at_call 137;(with_reducible refine (JC _ wr HBIN.out).mono ?_);rintro e1 wb ⟨rfl,hbb⟩;have HB2:=hid hbb;clear hbb)
    go_roundw
    case rel=>exact ⟨k+1,by omega,by simp,by rw [zce HO.out];exact HBB.out _ wr _ HIK.out (B_alloc HB2.out _)⟩
    case measure=>simp [jl];omega
   | some r =>
    have hdec:=Ze _ r HCO.out wr HBIN.out
    unfold ui at hdec
    have HDEC:=hid hdec
    clear hdec
    go_upto_region 5 with (go_at_call 137;(with_reducible refine HDEC.out.mono ?_);rintro e1 wb ⟨rfl,hbb⟩;have HB2:=hid hbb;clear hbb)
    have hat:=zeb HO.out
    have hy:=HST.out _ _ (List.getElem?_eq_some_iff.1 hat).1 (HBB.out _ wr _ HIK.out (B_alloc HB2.out (.cells #[.int .i64 r.t,.string (za r.k),.string (za r.v)] 34)))
    rw [zbA hat] at hy
    have HY:=hid hy
    clear hat hy
    refine Jk (pre:=[_,_,_,_,_,_]) (post:=[_,_]) rfl rfl rfl (fun _ _ h=>h) ?_
    go_wp2_with fail
    refine ⟨by rfl,l,.tmp 25,_,_,_,rfl,by rfl,by rfl,YU HY.out ?_⟩
    rintro e1 w5 ⟨rfl,hj5⟩
    refine ⟨_,rfl,?_⟩
    go_wp2_with fail
    refine (by assumption:∀ a w,Code.wp Tryz.prog (Code.cond (.tmp 30) Code.ret Code.skip) _ a w->_) _ _ ?_
    go_wp2_with fail
    go_roundw
    case rel=>exact ⟨k+1,by omega,by simp,by rw [Kh HO.out,List.length_append];exact hj5⟩
    case measure=>simp [jl];omega
  ·have hke:k=5:=by omega
   subst hke
   have HIK:=hid hik
   clear hik
   go_wp2_with fail
   refine uN rfl rfl ?_
   refine ⟨⟨_,rfl⟩,?_⟩
   have h9:=HIK.out
   rw [List.take_of_length_le (by rw [HP.out.five];omega)] at h9
   exact h9
def ye (l:List (Nat × Obj)) (w:World) (M:Nat->Prop):Prop:=∀ p∈l,w.heap[p.1]?=some p.2/\¬ M p.1
theorem ye.eff {l:List (Nat × Obj)} {w w':World} {M M':Nat->Prop} {cur cur':Nat->Nat->List UInt8} {r:Nat} (h:ye l w M) (he:qa w w' M M' cur cur' r):ye l w' M':=fun p hp =>
 ⟨he.blk (h p hp).2 (h p hp).1,he.notIn (h p hp).2 (zd (h p hp).1)⟩
theorem ye.below {l:List (Nat × Obj)} {w w':World} {M:Nat->Prop} (h:ye l w M) (hb:Below w.heap.size w w'):ye l w' M:=fun p hp =>
 ⟨zb (h p hp).1 hb (zd (h p hp).1),(h p hp).2⟩
theorem ye.cons {l:List (Nat × Obj)} {w:World} {M:Nat->Prop} {k:Nat} {o:Obj} (hk:w.heap[k]?=some o) (hn:¬ M k) (h:ye l w M):ye ((k,o)::l) w M:=fun p hp=>by
 rcases List.mem_cons.1 hp with rfl | hp
 ·exact ⟨hk,hn⟩
 ·exact h p hp
theorem ye.nil {w:World} {M:Nat->Prop}:ye [] w M:=fun _ h=>by simp at h
theorem ye.put {l:List (Nat × Obj)} {w:World} {M:Nat->Prop} (h:ye l w M) {x:Nat} (hx:∀ p∈l,p.1≠x) (o:Obj):ye l (w.putObj x o) M:=fun p hp =>
 ⟨(World.putObj_heap_other (hx p hp)).trans (h p hp).1,(h p hp).2⟩
def KC (r:Nat):Deferred:={ target:=.collected r,args:=#[] }
def QS (r:Nat):Nat × Obj:=(r,.deferred (some []))
theorem Kz {P:Program} {F:Fence} {n:Nat} {fn:Func} {tmps:Array Value} {R:Ending->World->Prop} {u:FrameMode} (hu:u≠.run) (K:World->Prop) (hend:∀ W,K W->LeavesInM F n P fn tmps R [] u W) :
  ∀ (rs:List Nat) (W:World),(∀ W,∀ r∈rs,W.heap[r]?=some (.deferred (some []))->K W->K (W.putObj r (.deferred none)))->rs.Nodup->(∀ r∈rs,W.heap[r]?=some (.deferred (some [])))->K W->LeavesInM F n P fn tmps R (rs.map KC) u W
 | [],W,_,_,_,h=>hend W h
 | r::rs,W,hK,hn,hr,h=>by
  obtain ⟨hn1,hn2⟩:=List.nodup_cons.1 hn
  refine ⟨hu,.inl ⟨r,_,rfl,run_takeDeferred (hr r (by simp)),?_⟩⟩
  exact Kz hu K hend rs _ (fun W q hq=>hK W q (by simp [hq])) hn2 (fun q hq=>(World.putObj_heap_other (fun e=>hn1 (by rw [<- e];exact hq))).trans (hr q (by simp [hq]))) (hK W r (by simp) (hr r (by simp)) h)
def je (n:Nat) (l:List (Nat × Rw)) (its:List It):List It:=l.foldl (fun its p=>yp its (some p.2) n p.1) its
def zes (s:St) (nb n:Nat):St:={ s with sto:=s.sto.get nb n,its:=je n (yE (s.sto.page n)) s.its }
def qe (nbs:Nat->Nat):Nat->St->St
 | 0,s=>s
 | k+1,s=>zes (qe nbs k s) (nbs k) k
theorem Ke {nbs nbs':Nat->Nat}:∀ {k:Nat} {s:St},(∀ j,j<k->nbs' j=nbs j)->qe nbs' k s=qe nbs k s
 | 0,_,_=>rfl
 | k+1,s,h=>by
  simp only [qe]
  rw [Ke (fun j hj=>h j (by omega)),h k (Nat.lt_succ_self k)]
theorem zcH {its:List It} (h:zJ its) (x:Rw) (n slot:Nat):zJ (yp its (some x) n slot)/\(yp its (some x) n slot).length<=its.length+1 :=
 Qo h none (some x) n slot
theorem zaL (n:Nat) (l:List (Nat × Rw)) (p:Nat × Rw) (its:List It):je n (l++[p]) its=yp (je n l its) (some p.2) n p.1:=by simp [je]
theorem zaM {n k:Nat} {l:List (Nat × Rw)} {p:Nat × Rw} {its:List It} (h:l[k]?=some p):je n (l.take (k+1)) its=yp (je n (l.take k) its) (some p.2) n p.1:=by
 obtain ⟨hl,hx⟩:=List.getElem?_eq_some_iff.1 h
 rw [List.take_succ_eq_append_getElem hl,hx,zaL]
theorem Jb {n:Nat}:∀ (l:List (Nat × Rw)) {its:List It},zJ its->zJ (je n l its)/\(je n l its).length<=its.length+l.length
 | [],its,h=>⟨h,Nat.le_refl _⟩
 | p::l,its,h=>by
  have h1:=zcH h p.2 n p.1
  have h2:=Jb (n:=n) l h1.1
  refine ⟨h2.1,?_⟩
  have h3:=h2.2
  have h4:=h1.2
  simp only [List.length_cons]
  show (je n l (yp its (some p.2) n p.1)).length<=_
  omega
theorem Jl:∀ (l:List (Option Rw)) (i:Nat),(ql l i).length<=l.length
 | [],_=>Nat.le_refl _
 | none::l,i=>by have:=Jl l (i+1);simp [ql];omega
 | some x::l,i=>by have:=Jl l (i+1);simp [ql];omega
theorem zal {p:Pg} (h:p.ok):(yE p).length<=5:=by have:=Jl p.slots 0;rw [h.five] at this;exact this
theorem zgA (a:Va) (b:Vb) (cur:Nat->Nat->List UInt8) (s:St) (w:World) (h:zg w a b cur s) (hso:zJ s.its) (hil:s.its.length<=800) :
  Calls Tryz.prog 83 #[.pointer (some ⟨a.S,0,none⟩)] w fun e w'=>e=.returned (.int .i64 0)/\∃ nbs b' cur',zJ (qe nbs 6 s).its/\(qe nbs 6 s).its.length<=s.its.length+30/\zg w' a b' cur' (qe nbs 6 s)/\qa w w' (zS a b s) (zS a b' (qe nbs 6 s)) cur cur' a.r:=by
 have H:=hid h
 have h0:¬ zS a b s w.heap.size:=fun hx=>by have:=h.lt hx;omega
 obtain ⟨R,hR⟩:∃ R:List Deferred->Nat->World->Prop,R=fun ds k wr=>∃ (rs:List Nat) (nbs:Nat->Nat) (b':Vb) (cur':Nat->Nat->List UInt8),ds=rs.map KC/\rs.Nodup/\(∀ q∈rs,w.heap.size<q)/\zg wr a b' cur' (qe nbs k s)/\zJ (qe nbs k s).its/\(qe nbs k s).its.length<=s.its.length+5*k/\qa w wr (zS a b s) (zS a b' (qe nbs k s)) cur cur' a.r/\ye ((w.heap.size,.cells #[.pointer (some ⟨a.S,0,none⟩)] 65)::rs.map QS) wr (zS a b' (qe nbs k s)):=⟨_,rfl⟩
 have hR0:R [] 0 (w.alloc (.cells #[.pointer (some ⟨a.S,0,none⟩)] 65)):=by
  rw [hR]
  exact ⟨[],fun _=>0,b,cur,rfl,List.nodup_nil,fun _ h=>by simp at h,h.below (B_alloc (Below.refl _ _) _),hso,Nat.le_add_right _ _,(qa.refl _ _ _ _).call (B_alloc (Below.refl _ _) _),ye.cons (zk _ _ rfl) h0 ye.nil⟩
 obtain ⟨HR,HR0,HSO⟩:=zi3 hR hR0 hso
 clear h h0 hR hR0 hso
 refine uQ Tryz.func83 rfl ?_
 simp only [Tryz.ntmps83,List.size_toArray,List.length_cons,List.length_nil,Nat.reduceAdd,Nat.reduceSub,Array.replicate_succ,Array.replicate_zero,List.push_toArray,List.append_toArray,List.nil_append,List.cons_append]
 go_upto_region 2 with fail
 refine wp_loop (fun a' w'=>∃ u3 u4 u5 u6 u7 u8 u9 u10 u11 u12 u13 u14 u15 u16 u17 u18 u19 u20 u21 u22 u23 u24 u25 u26 u27 u28 u29 u30 u31 u32 u33 u34 u35:Value,∃ ds:List Deferred,(∃ k:Nat,k<=6/\u8=.int .i64 k/\R ds k w')/\a'={ tmps:=[.pointer (some ⟨a.S,0,none⟩),.pointer (some ⟨w.heap.size,0,none⟩),.int .i64 0,u3,u4,u5,u6,u7,u8,u9,u10,u11,u12,u13,u14,u15,u16,u17,u18,u19,u20,u21,u22,u23,u24,u25,u26,u27,u28,u29,u30,u31,u32,u33,u34,u35].toArray,defers:=ds }) (fun a' _=>(6-jl (a'.tmps.getD 8 undef)).toNat) ?start ?round
 case start =>
  (repeat apply Exists.intro)
  refine ⟨?_,rfl⟩
  exact ⟨0,Nat.zero_le _,rfl,HR0.out⟩
 case round =>
  rintro _ wr ⟨u3,u4,u5,u6,u7,u8,u9,u10,u11,u12,u13,u14,u15,u16,u17,u18,u19,u20,u21,u22,u23,u24,u25,u26,u27,u28,u29,u30,u31,u32,u33,u34,u35,ds,⟨k,hk,rfl,hrk⟩,rfl⟩
  rw [HR.out] at hrk
  obtain ⟨rs,nbs,b1,cur1,rfl,hnd,hgt,hA,hso1,hln,hE,hS⟩:=hrk
  by_cases hlt:k<6
  ·have q1:(k:Int)<6:=by omega
   have x2:IntKind.i64.wrap ((k:Int)+1)=(k:Int)+1:=by rw [IntKind.wrap_i64];omega
   have hN:¬ zS a b1 (qe nbs k s) wr.heap.size:=fun hx=>by have:=hA.lt hx;omega
   obtain ⟨w1,hw1⟩:∃ w1,w1=wr.alloc (.cells #[.int .i64 k] 3):=⟨_,rfl⟩
   have hB1:Below wr.heap.size wr w1:=by rw [hw1];exact B_alloc (Below.refl _ _) _
   have hN1:w1.heap[wr.heap.size]?=some (.cells #[.int .i64 k] 3 (0,0)):=by rw [hw1];exact zk _ _ rfl
   have HA1:=hid (hA.below hB1)
   have HE1:=hid (hE.call hB1)
   have HS1:=hid (ye.cons hN1 hN (hS.below hB1))
   obtain ⟨HSO1,HLN1,HND,HGT⟩:=zi4 hso1 hln hnd hgt
   clear hA hE hS hN hN1 hso1 hln hnd hgt
   have hS:=(And.intro HA1.out.drew.c6 (And.intro (show w1.drew.heap[w.heap.size]?=_ from (HS1.out _ (.tail _ (.head _))).1) (show w1.drew.heap[wr.heap.size]?=_ from (HS1.out _ (.head _)).1)))
   have HGET:=hid (Gb a.B a.D a.L a.r k b1.FL b1.F cur1 (qe nbs k s).sto w1.drew HA1.out.drew.sto hlt)
   have HW1:=hid hw1
   clear hw1 hB1
   go_upto_region 4 with fail
   rw [<- HW1.out]
   refine wp_region_noPanic ?_
   refine PrintLast.start_ (n:=11) (S:=(fun w'=>w'.cell? ⟨a.S,6,none⟩=some (.pointer (some ⟨a.B,0,none⟩))/\w'.heap[w.heap.size]?=some (.cells #[.pointer (some ⟨a.S,0,none⟩)] 65 (0,0))/\w'.heap[wr.heap.size]?=some (.cells #[.int .i64 k] 3 (0,0)))) (ds:=[5]) (bA 11 0) (by kernel_rfl) rfl (by kernel_rfl) hS (fun hHeld=>?_)
   refine tk 0 12 11 1 rfl rfl (Or.inl ⟨by rfl,fun _ h=>(by have k0:=(cell_of_row _ w.heap.size 0 _ _ _ h.2.1).trans (show _=some (Value.pointer (some ⟨a.S,0,none⟩)) from rfl);go_simp;with_reducible rfl)⟩) ?_
   refine pu 1 13 11 3 rfl rfl ?_
   refine pu 2 14 11 7 rfl rfl ?_
   refine tk 3 15 11 15 rfl rfl (Or.inl ⟨by rfl,fun _ h=>(by have k0:=h.1;go_simp;with_reducible rfl)⟩) ?_
   refine tk 4 16 11 31 rfl rfl (Or.inl ⟨by rfl,fun _ h=>(by have k0:=(cell_of_row _ wr.heap.size 0 _ _ _ h.2.2).trans (show _=some (Value.int .i64 k) from rfl);go_simp;with_reducible rfl)⟩) ?_
   refine la 5 11 63 (some 17) rfl rfl (fun K hK=>?_)
   show Oper.wp _ ⟨some 17,_,_,_,_,_⟩ _ _ _ _
   refine zq 121 _ _ [.pointer (some ⟨a.B,0,none⟩),.int .i64 k] rfl (by kernel_rfl) (by rfl) (HGET.out.mono ?_)
   rintro e2 w2 ⟨nb,F2,cur2,rfl,hnb,hs2,he2⟩
   refine ⟨_,rfl,?_⟩
   refine hK.out _ _ ?_
   clear hK K
   try simp only [pS]
   refine pu 6 11 11 127 rfl rfl ?_
   refine pu 7 18 11 255 rfl rfl ?_
   refine pu 8 19 11 511 rfl rfl ?_
   refine pu 9 4 11 1023 rfl rfl ?_
   refine pu 10 5 11 2047 rfl rfl ?_
   refine PrintLast.done_ (by kernel_rfl) ?_
   refine NoPanic.normal ?_
   obtain ⟨kf,f,hfd,hfk,hfp⟩:=ZQ (s:=(qe nbs k s).sto) nb k HA1.out.sto.pool.three HA1.out.sto.pool.hand
   have hmem:=List.mem_of_getElem? hfk
   have hpok:=(hs2.fok f hmem _ _ _ hfp).2
   obtain ⟨hA2,hE2⟩:=HA1.out.drew.stoStep hs2 he2
   have hS2:ye _ w2 _:=ye.eff (show ye _ w1.drew _ from HS1.out) hE2
   obtain ⟨T,hT⟩:∃ T,T=qe nbs k s:=⟨_,rfl⟩
   rw [<- hT] at hA2 hE2 hS2 hfp hfk hpok
   obtain ⟨sj,hsj⟩:∃ sj:Nat->St,sj=fun j=>{ T with sto:=T.sto.get nb k,its:=je k ((yE (T.sto.page k)).take j) T.its }:=⟨_,rfl⟩
   have hM1:¬ zS a { b1 with FL:=b1.FL,F:=F2 } { T with sto:=T.sto.get nb k } w2.heap.size:=fun hx=>by have:=hA2.lt hx;omega
   have hM2:¬ zS a { b1 with FL:=b1.FL,F:=F2 } { T with sto:=T.sto.get nb k } (w2.heap.size+1):=fun hx=>by have:=hA2.lt hx;omega
   obtain ⟨I,hI⟩:∃ I:Nat->World->Prop,I=fun j W=>∃ bj:Vb,w2.heap.size+2<=W.heap.size/\zg W a bj cur2 (sj j)/\qa w2 W (zS a { b1 with FL:=b1.FL,F:=F2 } { T with sto:=T.sto.get nb k }) (zS a bj (sj j)) cur2 cur2 a.r/\ye ((wr.heap.size,.cells #[.int .i64 k] 3)::(w.heap.size,.cells #[.pointer (some ⟨a.S,0,none⟩)] 65)::rs.map QS) W (zS a bj (sj j))/\¬ zS a bj (sj j) w2.heap.size/\¬ zS a bj (sj j) (w2.heap.size+1):=⟨_,rfl⟩
   obtain ⟨HE2,HFP,HFK,HPOK,HSJ,HT,HI,HA2,HS2⟩:=zi9 hE2 hfp hfk hpok hsj hT hI hA2 hS2
   obtain ⟨HM1,HM2⟩:=zi2 hM1 hM2
   clear hE2 hfp hfk hpok hsj hT hI hA2 hS2 hM1 hM2 hs2 he2 hfd hmem
   go_wp2_with fail
   refine Jp (gf:=127) (bound:=#[.pointer (some ⟨(qe nbs k s).sto.blk nb k,0,none⟩)]) (caps:=#[]) (by rfl) (by kernel_rfl) (yE (T.sto.page k)).length (Ym (T.sto.page k)) (zdR _) I ?h0 ?hput ?hbel (zkc _ a.r k (T.sto.page k) _ HPOK.out ?hpg) ?hround ?hend
   case h0 =>
    intro rec
    rw [HI.out]
    have hb:Below w2.heap.size w2 ((w2.alloc (.deferred (some []))).alloc (.loop rec)):=B_alloc (B_alloc (Below.refl _ _) _) _
    refine ⟨{ b1 with FL:=b1.FL,F:=F2 },by simp,?_⟩
    rw [show sj 0={ T with sto:=T.sto.get nb k } by rw [HSJ.out];rfl]
    exact ⟨HA2.out.below hb,(qa.refl _ _ _ _).call hb,HS2.out.below hb,HM1.out,HM2.out⟩
   case hput =>
    intro j W o hj hl
    rw [HI.out] at hj ⊢
    obtain ⟨bj,h1,h2,h3,h4,h5,h6⟩:=hj
    refine ⟨bj,by simpa using h1,h2.same (fun x hx=>World.putObj_heap_other (fun e=>h6 (e ▸ hx))) (by simp),h3.put (by omega) o,h4.put (fun p hp e=>?_) o,h5,h6⟩
    have:=zd (HS2.out p hp).1
    omega
   case hbel =>
    intro j W W' hj hb
    rw [HI.out] at hj ⊢
    obtain ⟨bj,h1,h2,h3,h4,h5,h6⟩:=hj
    exact ⟨bj,Nat.le_trans h1 hb.size,h2.below hb,h3.call hb,h4.below hb,h5,h6⟩
   case hpg =>
    intro j W hj
    rw [HI.out] at hj
    obtain ⟨bj,h1,h2,h3,h4,h5,h6⟩:=hj
    rw [<- HT.out]
    have h7:=h2.sto
    rw [show (sj j).sto=T.sto.get nb k by rw [HSJ.out]] at h7
    exact h7.pool.pages f (List.mem_of_getElem? HFK.out) _ _ _ HFP.out
   case hround =>
    rintro j W hj hI hl
    rw [HI.out] at hI
    obtain ⟨bj,h1,h2,h3,h4,h5,h6⟩:=hI
    obtain ⟨⟨i,x⟩,hx⟩:∃ p,(yE (T.sto.page k))[j]?=some p:=⟨_,List.getElem?_eq_getElem hj⟩
    rw [zbA hx]
    simp only [List.zip_toArray,List.zip_cons_cons,List.zip_nil_right,List.foldl_toArray,List.foldl_cons,List.foldl_nil,List.setIfInBounds_toArray,List.set_cons_succ,List.set_cons_zero]
    refine wpIn_seq ?_
    refine ym (vr _) 0 rfl (fun _ _ h=>h) ?_
    go_wp2_with fail
    refine ym (vr _) 0 rfl (fun _ _ h=>h) ?_
    go_wp2_with (show wpList _ _ _ (⟨none,.store 34 _ _,_,_,_,_⟩::_) _ _;refine zN rfl 34 (.tmp 7) (.tmp 26) rfl W.heap.size rfl _ #[.int .i64 x.t,.string (za x.k),.string (za x.v)] (by rfl) (by rfl) (by kernel_rfl) (by rfl) (by simp [Value.oneCell']) ?_)
    have hW1:Below W.heap.size W (W.alloc (.cells #[.int .i64 x.t,.string (za x.k),.string (za x.v)] 34)):=B_alloc (Below.refl _ _) _
    refine ⟨uP.below hW1 (by omega),fun o=>?_⟩
    refine wpIn_block ?_
    obtain ⟨W2,hW2⟩:∃ W2,(W.alloc (.cells #[.int .i64 x.t,.string (za x.k),.string (za x.v)] 34)).putObj (w2.heap.size+1) o=W2:=⟨_,rfl⟩
    rw [hW2]
    have hB2:∀ q,q<W.heap.size->q≠w2.heap.size+1->W2.heap[q]?=W.heap[q]?:=fun q hq hn=>by rw [<- hW2];exact (World.putObj_heap_other hn).trans (Below.heap_alloc _ _ _ hq)
    have hx2:W2.heap[W.heap.size]?=some (.cells #[.int .i64 x.t,.string (za x.k),.string (za x.v)] 34 (0,0)):=by rw [<- hW2];exact (World.putObj_heap_other (by omega)).trans (zk _ _ rfl)
    have hz2:W2.heap.size=W.heap.size+1:=by rw [<- hW2];simp
    have hA2:zg W2 a bj cur2 (sj j):=h2.same (fun q hq=>hB2 q (h2.lt hq) (fun e=>h6 (e ▸ hq))) (by omega)
    have hE2:qa w2 W2 (zS a { b1 with FL:=b1.FL,F:=F2 } { T with sto:=T.sto.get nb k }) (zS a bj (sj j)) cur2 cur2 a.r:=by rw [<- hW2];exact (h3.call hW1).put (by omega) o
    have hS2:ye ((wr.heap.size,.cells #[.int .i64 k] 3)::(w.heap.size,.cells #[.pointer (some ⟨a.S,0,none⟩)] 65)::rs.map QS) W2 (zS a bj (sj j)):=by
     rw [<- hW2]
     refine (h4.below hW1).put (fun p hp e=>?_) o
     have:=zd (HS2.out p hp).1
     omega
    have hidx:=hA2.drew.idx
    obtain ⟨ij,hij⟩:∃ ij,ij=je k ((yE (T.sto.page k)).take j) T.its:=⟨_,rfl⟩
    have hsi:(sj j).its=ij:=by rw [hij,HSJ.out]
    have hok:=Jb (n:=k) ((yE (T.sto.page k)).take j) (show zJ T.its by rw [HT.out];exact HSO1.out)
    rw [<- hij] at hok
    have hl5:=zal HPOK.out
    have hTl:T.its.length<=s.its.length+5*k:=by rw [HT.out];exact HLN1.out
    have hil1:ij.length<=900:=by have:=hok.2;rw [List.length_take] at this;omega
    rw [hsi] at hidx
    have hpt:=zey a.S 7 bj.v ij ⟨x,k,i⟩ (qF ij x) W2.drew hidx (by omega) (Cut.of_sorted hok.1)
    have hS:W2.drew.heap[w.heap.size]?=some (.cells #[.pointer (some ⟨a.S,0,none⟩)] 65 (0,0))/\W2.drew.heap[wr.heap.size]?=some (.cells #[.int .i64 k] 3 (0,0))/\W2.drew.heap[W.heap.size]?=some (.cells #[.int .i64 x.t,.string (za x.k),.string (za x.v)] 34 (0,0)):=⟨(hS2 (w.heap.size,_) (.tail _ (.head _))).1,(hS2 (wr.heap.size,_) (.head _)).1,hx2⟩
    have hstep:(sj (j+1)).its=yp ij (some x) k i:=by rw [HSJ.out,hij];exact zaM hx
    obtain ⟨HPT,HA3,HE3,HS3,HSTEP,H1,H5,H6,HZ2⟩:=zi9 hpt hA2 hE2 hS2 hstep h1 h5 h6 hz2
    obtain ⟨HW2,HIJ⟩:=zi2 hW2 hsi
    clear hpt hA2 hE2 hS2 hstep h1 h2 h3 h4 h5 h6 hz2 hW2 hB2 hx2 hidx hok hl5 hTl hil1 hij hx hsi hW1
    refine zdn (vr _) (n:=8) (S:=(fun w'=>w'.heap[w.heap.size]?=some (.cells #[.pointer (some ⟨a.S,0,none⟩)] 65 (0,0))/\w'.heap[wr.heap.size]?=some (.cells #[.int .i64 k] 3 (0,0))/\w'.heap[W.heap.size]?=some (.cells #[.int .i64 x.t,.string (za x.k),.string (za x.v)] 34 (0,0)))) (ds:=[7]) (bA 8 0) rfl (fun _ _ h=>h) (by kernel_rfl) rfl (by kernel_rfl) hS (fun hHeld=>?_)
    refine tk 0 27 8 1 rfl rfl (Or.inl ⟨by rfl,fun _ h=>(by have k0:=(cell_of_row _ w.heap.size 0 _ _ _ h.1).trans (show _=some (Value.pointer (some ⟨a.S,0,none⟩)) from rfl);go_simp;with_reducible rfl)⟩) ?_
    refine pu 1 28 8 3 rfl rfl ?_
    refine pu 2 29 8 7 rfl rfl ?_
    refine tk 3 30 8 15 rfl rfl (qE 34 (.tmp 7) rfl (by rfl) W.heap.size (by rfl) 34 #[.int .i64 x.t,.string (za x.k),.string (za x.v)] (0,0) _ (fun _ h=>h.2.2) Tryz.underlying34 rfl (by kernel_rfl)) ?_
    refine tk 4 31 8 31 rfl rfl (Or.inl ⟨by rfl,fun _ h=>(by have k0:=(cell_of_row _ wr.heap.size 0 _ _ _ h.2.1).trans (show _=some (Value.int .i64 k) from rfl);go_simp;with_reducible rfl)⟩) ?_
    refine pu 5 32 8 63 rfl rfl ?_
    refine pu 6 33 8 127 rfl rfl ?_
    refine la 7 8 255 (some 34) rfl rfl (fun K hK=>?_)
    show Oper.wp _ ⟨some 34,_,_,_,_,_⟩ _ _ _ _
    refine zq 128 _ _ [.pointer (some ⟨a.S,7,none⟩),.agg #[.int .i64 x.t,.string (za x.k),.string (za x.v),.int .i64 k,.int .i64 i]] rfl (by kernel_rfl) (by rfl) (HPT.out.mono ?_)
    rintro e14 w14 ⟨rfl,w0,v',hw14,hk14,hv14,hi14⟩
    refine ⟨_,rfl,?_⟩
    refine hK.out _ _ ?_
    clear hK K
    try simp only [pS]
    refine PrintLast.done_ (by kernel_rfl) ?_
    obtain ⟨hA4,hE4⟩:=HA3.out.drew.idxStep hw14 hk14 (fun q hq=>hv14.elim (fun e=>.inl (by rw [<- e];exact hq)) (fun ⟨q',e,hle⟩=>.inr (by rw [e] at hq;cases hq;exact hle))) hi14
    have hj1:({ sj j with its:=yZ ij (qF ij x) ⟨x,k,i⟩ }:St)=sj (j+1):=by
     have h8:=HSTEP.out
     rw [HSJ.out] at h8 ⊢
     simp only at h8 ⊢
     rw [h8]
     rfl
    rw [hj1] at hA4 hE4
    have hlt2:w2.heap.size+1<W2.drew.heap.size:=by show _<W2.heap.size;have:=HZ2.out;have:=H1.out;omega
    refine ⟨?_,hE4.keep.size,hE4.keep.block _ (by omega) H5.out,hE4.keep.block _ hlt2 H6.out⟩
    rw [HI.out]
    exact ⟨_,by have:=hE4.keep.size;omega,hA4,HE3.out.trans hE4.of_drew,ye.eff (show ye _ W2.drew _ from HS3.out) hE4,hE4.notIn H5.out (by omega),hE4.notIn H6.out hlt2⟩
   case hend =>
    intro W hI hD
    rw [HI.out] at hI
    obtain ⟨bj,h1,h2,h3,h4,h5,h6⟩:=hI
    have hln:=Jb (n:=k) (yE (T.sto.page k)) (show zJ T.its by rw [HT.out];exact HSO1.out)
    have hl5:=zal HPOK.out
    have hTl:T.its.length<=s.its.length+5*k:=by rw [HT.out];exact HLN1.out
    have hfin:sj (yE (T.sto.page k)).length=qe (zE nbs k nb) (k+1) s:=by
     rw [qe,zf,Ke (nbs:=nbs) (fun j hj=>zm _ _ (by omega)),<- HT.out,HSJ.out]
     simp only [List.take_length]
     rfl
    have hfin2:(qe (zE nbs k nb) (k+1) s).its=je k (yE (T.sto.page k)) T.its:=by
     rw [<- hfin,HSJ.out];simp only [List.take_length]
    rw [hfin] at h2 h3 h4
    have HF:=hid (show R (KC w2.heap.size::rs.map KC) (k+1) W from by
     rw [HR.out]
     refine ⟨w2.heap.size::rs,zE nbs k nb,bj,cur2,rfl,List.nodup_cons.2 ⟨fun hm=>?_,HND.out⟩,fun q hq=>?_,h2,by rw [hfin2];exact hln.1,by rw [hfin2];have:=hln.2;omega,(show qa w w1 _ (zS a b1 T) _ _ _ by rw [HT.out];exact HE1.out).trans (HE2.out.of_drew.trans h3),?_⟩
     ·have:=zd (HS2.out (QS w2.heap.size) (.tail _ (.tail _ (List.mem_map_of_mem hm)))).1
      simp [QS] at this
     ·rcases List.mem_cons.1 hq with rfl | hq
      ·exact zd (HS2.out (w.heap.size,_) (.tail _ (.head _))).1
      ·exact HGT.out q hq
     ·intro p hp
      rcases List.mem_cons.1 hp with rfl | hp
      ·exact h4 _ (.tail _ (.head _))
      ·rcases List.mem_cons.1 hp with rfl | hp
       ·exact ⟨hD,h2.notDef hD⟩
       ·exact h4 p (.tail _ (.tail _ hp)))
    clear h1 h2 h3 h4 h5 h6 hln hl5 hTl hfin hfin2 hD
    refine (by assumption:∀ a w,Code.wp Tryz.prog (Code.region _ _ _) _ a w->_) _ _ ?_
    go_wp2_with fail
    refine ⟨?_,?measure⟩
    ·(repeat apply Exists.intro)
     refine ⟨?rel,rfl⟩
     exact ⟨k+1,by omega,by simp,HF.out⟩
    ·simp [jl];omega
  ·have hke:k=6:=by omega
   subst hke
   obtain ⟨HA,HE,HS,HND,HGT,HSO6,HLN6⟩:=zi7 hA hE hS hnd hgt hso1 hln
   clear hA hE hS hnd hgt hln hso1
   go_wp2_with fail
   show LeavesInM Fence.wide 0 Tryz.prog _ _ _ (rs.map KC) .returning wr
   refine Kz (by simp) (fun W=>∃ nbs b' cur',zJ (qe nbs 6 s).its/\(qe nbs 6 s).its.length<=s.its.length+30/\zg W a b' cur' (qe nbs 6 s)/\qa w W (zS a b s) (zS a b' (qe nbs 6 s)) cur cur' a.r) ?_ rs wr ?_ HND.out (fun q hq=>(HS.out (QS q) (.tail _ (List.mem_map_of_mem hq))).1) ⟨_,_,_,HSO6.out,HLN6.out,HA.out,HE.out⟩
   ·rintro W ⟨nbs,b',cur',h3,h4,h1,h2⟩
    exact ⟨_,results_tmp rfl _ _ _,rfl,nbs,b',cur',h3,h4,h1,h2⟩
   ·rintro W q hq hD ⟨nbs,b',cur',h3,h4,h1,h2⟩
    exact ⟨nbs,b',cur',h3,h4,h1.same (fun x hx=>World.putObj_heap_other (fun e=>h1.notDef hD (e ▸ hx))) (by simp),h2.put (Nat.le_of_lt (HGT.out q hq)) _⟩
theorem zg.redo {w w9:World} {a:Va} {b:Vb} {cur:Nat->Nat->List UInt8} {s:St} (h:zg w a b cur s) {k blk n slot:Nat} {f:zu} {p:Pg} {o:Option Rw} (hfk:s.sto.fs[k]?=some f) (hfp:f.pg=some (blk,n,p)) (hset9:qf w9 blk a.r n (p.set slot o)) (hk9:zr (fun x=>x=blk) w w9) :
  zQ w9 a.B a.D a.r a.L (s.sto.fs.set k ⟨some (blk,n,p.set slot o),f.since,f.again⟩) s.sto.hand/\w9.cell? ⟨a.S,6,none⟩=some (.pointer (some ⟨a.B,0,none⟩)):=by
 have hmem:=List.mem_of_getElem? hfk
 have hneB:blk≠a.B:=h.sto.pool.ne hmem hfp
 have hneS:a.S≠blk:=fun e=>by
  have h9:=zc h.row
  rw [e,zc (h.sto.pool.pages f hmem blk n p hfp)] at h9;cases h9
 refine ⟨?_,ue h.c6 hk9 hneS⟩
 refine h.sto.pool.put (f:=f) hfk ?_ h.sto.pool.hand ?_ ?_ ?_
 ·have hpc:qs a.D a.r a.L (s.sto.fs.set k ⟨some (blk,n,p.set slot o),f.since,f.again⟩) s.sto.hand=qs a.D a.r a.L s.sto.fs s.sto.hand:=ZU hfk (by simp [zV,zu.adr,hfp])
  show w9.heap[a.B]?=some (.cells (qs a.D a.r a.L (s.sto.fs.set k ⟨some (blk,n,p.set slot o),f.since,f.again⟩) s.sto.hand).toArray 200 (0,0))
  rw [hpc]
  exact qj h.sto.pool.blk hk9 (fun e=>hneB e.symm)
 ·intro b' n' p' he
  injection he with he;cases he
  exact hset9
 ·intro j g b' n' p' hj hg hgp
  refine hk9.block _ (zd (h.sto.pool.pages g (List.mem_of_getElem? hg) b' n' p' hgp)) (fun e=>hj ?_)
  exact h.sto.pool.apart j k g f b' n' p' n p hg hfk hgp (by rw [e];exact hfp)
 ·intro b' n' p' he
  injection he with he;cases he
  exact .inl ⟨_,_,hfp⟩
def zl.redo (s:zl) (nb fr pl:Nat) (x:zI):zl :=
 if fr<=pl/\(s.page x.page).mark<pl then (s.get nb x.page).setRow x.page x.slot x.after pl else s.get nb x.page
def St.redo (s:St) (nb fr pl:Nat) (x:zI):St:=if x.kind=3∨x.kind=4 then { s with sto:=s.sto.redo nb fr pl x } else s
def ua (fr:Nat) (A:Nat->Option Addr) (n c:Nat->Nat) (o:Nat->Bool):List Value:=[.int .u64 fr,.slice (A 0) (n 0) (c 0),.slice (A 1) (n 1) (c 1),.slice (A 2) (n 2) (c 2),.slice (A 3) (n 3) (c 3),.bool (o 0),.bool (o 1),.bool (o 2),.bool (o 3)]
def Zh (pl:Nat) (x:zI) (dA:Option Addr) (dn dc:Nat):List Value:=[.int .u64 pl,.int .i64 x.kind,.int .i64 x.txn,.int .i64 x.page,.int .i64 x.slot,.string (za (zt x.before)),.string (za (zt x.after)),.string (za x.image),.slice dA dn dc]
theorem zfU (fr:Nat) (A:Nat->Option Addr) (n c:Nat->Nat) (o:Nat->Bool) (pl:Nat) (x:zI) (dA:Option Addr) (dn dc:Nat) (mark:Nat) (w:World) :
  Calls Tryz.prog 122 #[.agg (ua fr A n c o).toArray,.agg (Zh pl x dA dn dc).toArray,.int .u64 mark,.bool false] w fun r w'=>r=.returned (.bool (decide (x.kind=3∨x.kind=4) && decide (fr<=pl/\mark<pl)))/\Below w.heap.size w w':=by
 have h:=Rs.again_any fr (.slice (A 0) (n 0) (c 0)) (.slice (A 1) (n 1) (c 1)) (.slice (A 2) (n 2) (c 2)) (.slice (A 3) (n 3) (c 3)) (o 0) (o 1) (o 2) (o 3) ⟨pl,x.kind,x.txn,x.page,x.slot,za (zt x.before),za (zt x.after),za x.image,.slice dA dn dc,[]⟩ mark false w
 refine Calls.mono h ?_
 rintro e w' ⟨rfl,hb⟩
 refine ⟨?_,hb⟩
 congr 2
 unfold Rs.againB
 simp only [Bool.false_eq_true,if_false]
 have e1:((x.kind:Int)=3)↔x.kind=3:=by omega
 have e2:((x.kind:Int)=4)↔x.kind=4:=by omega
 have e3:((fr:Int)<=(pl:Int))↔fr<=pl:=by omega
 have e4:((mark:Int)<(pl:Int))↔mark<pl:=by omega
 simp only [e1,e2,e3,e4,Bool.decide_or,Bool.decide_and,Bool.and_assoc]
theorem zhK (a:Va) (b:Vb) (cur:Nat->Nat->List UInt8) (s:St) (fr:Nat) (A:Nat->Option Addr) (pn pc:Nat->Nat) (po:Nat->Bool) (pl:Nat) (x:zI) (dA:Option Addr) (dn dc:Nat) (w:World) (h:zg w a b cur s) (hx:x.ok) (hp0:pl≠0) (hp:pl<18446744073709551616) :
  Calls Tryz.prog 82 #[.pointer (some ⟨a.S,0,none⟩),.agg (ua fr A pn pc po).toArray,.agg (Zh pl x dA dn dc).toArray] w fun e w'=>e=.returned (.int .i64 0)/\∃ nb b' cur',zg w' a b' cur' (s.redo nb fr pl x)/\qa w w' (zS a b s) (zS a b' (s.redo nb fr pl x)) cur cur' a.r:=by
 obtain ⟨H,HX⟩:=zi2 h hx
 clear h hx
 obtain ⟨w1,hw1⟩:∃ w1,w1=(w.alloc (.cells (ua fr A pn pc po).toArray 164)).alloc (.cells (Zh pl x dA dn dc).toArray 167):=⟨_,rfl⟩
 have hB1:Below w.heap.size w w1:=by rw [hw1];exact B_alloc (B_alloc (Below.refl _ _) _) _
 have hX4:w1.heap[w.heap.size]?=some (.cells (ua fr A pn pc po).toArray 164 (0,0)):=by rw [hw1];exact zy (zk _ _ rfl) _
 have hX5:w1.heap[w.heap.size+1]?=some (.cells (Zh pl x dA dn dc).toArray 167 (0,0)):=by rw [hw1];exact zk _ _ (by simp)
 have kk:=(cell_of_row w1 (w.heap.size+1) 1 _ _ _ hX5).trans (show _=some (Value.int .i64 x.kind) from rfl)
 unfold ua Zh at *
 obtain ⟨HB1,HX4,HX5,HW1⟩:=zi4 hB1 hX4 hX5 hw1
 clear hB1 hX4 hX5 hw1
 by_cases hk:x.kind=3∨x.kind=4
 ·have HG:=hid (Gb a.B a.D a.L a.r x.page b.FL b.F cur s.sto w1.drew (H.out.below HB1.out).drew.sto HX.out.page)
  have hA1:=H.out.below HB1.out
  have hS:=(And.intro hA1.drew.c6 (show w1.drew.heap[w.heap.size+1]?=_ from HX5.out))
  have HA1:=hid hA1
  have hS1:ye [(w.heap.size,.cells (ua fr A pn pc po).toArray 164),(w.heap.size+1,.cells (Zh pl x dA dn dc).toArray 167)] w1.drew (zS a b s) :=
   ye.cons HX4.out (fun hx=>by have:=H.out.lt hx;omega) (ye.cons HX5.out (fun hx=>by have:=H.out.lt hx;omega) ye.nil)
  have HS1:=hid hS1
  have hRD:∀ nb,s.redo nb fr pl x={ s with sto:=s.sto.redo nb fr pl x }:=fun nb=>by unfold St.redo;rw [if_pos hk]
  have HRD:=hid hRD
  clear hA1 hS1 hRD
  have HK:=hid hk
  obtain ⟨K,hK,hk34⟩:∃ K:Int,(x.kind:Int)=K/\(K=3∨K=4):=⟨_,rfl,by omega⟩
  rw [hK] at kk
  clear hk hK
  rcases hk34 with rfl | rfl
  all_goals
   go_enter Tryz.func82,Tryz.ntmps82
   go_upto_region 1 with fail
   rw [<- HW1.out]
   go_upto_region 3 with fail
   refine wp_region_noPanic ?_
   refine PrintLast.start_ (n:=13) (S:=(fun w'=>w'.cell? ⟨a.S,6,none⟩=some (.pointer (some ⟨a.B,0,none⟩))/\w'.heap[w.heap.size+1]?=some (.cells (Zh pl x dA dn dc).toArray 167 (0,0)))) (ds:=[7]) (bA 13 0) (by kernel_rfl) rfl (by kernel_rfl) hS (fun hHeld=>?_)
   refine pu 0 24 13 1 rfl rfl ?_
   refine pu 1 25 13 3 rfl rfl ?_
   refine pu 2 26 13 7 rfl rfl ?_
   refine tk 3 27 13 15 rfl rfl (Or.inl ⟨by rfl,fun _ h=>(by have k0:=h.1;go_simp;with_reducible rfl)⟩) ?_
   refine pu 4 28 13 31 rfl rfl ?_
   refine pu 5 29 13 63 rfl rfl ?_
   refine tk 6 30 13 127 rfl rfl (Or.inl ⟨by rfl,fun _ h=>(by have k0:=(cell_of_row _ (w.heap.size+1) 3 _ _ _ h.2).trans (show _=some (Value.int .i64 x.page) from rfl);go_simp;with_reducible rfl)⟩) ?_
   refine la 7 13 255 (some 31) rfl rfl (fun K hK=>?_)
   show Oper.wp _ ⟨some 31,_,_,_,_,_⟩ _ _ _ _
   refine zq 121 _ _ [.pointer (some ⟨a.B,0,none⟩),.int .i64 x.page] rfl (by kernel_rfl) (by rfl) (HG.out.mono ?_)
   rintro e2 w2 ⟨nb,F2,cur2,rfl,hnb,hs2,he2⟩
   refine ⟨_,rfl,?_⟩
   refine hK.out _ _ ?_
   clear hK K
   try simp only [pS]
   refine pu 8 23 13 511 rfl rfl ?_
   refine pu 9 32 13 1023 rfl rfl ?_
   refine pu 10 33 13 2047 rfl rfl ?_
   refine pu 11 7 13 4095 rfl rfl ?_
   refine pu 12 8 13 8191 rfl rfl ?_
   refine PrintLast.done_ (by kernel_rfl) ?_
   refine NoPanic.normal ?_
   obtain ⟨k,f,hfd,hfk,hfp⟩:=ZQ (s:=s.sto) nb x.page HA1.out.sto.pool.three HA1.out.sto.pool.hand
   obtain ⟨hA2,hE2⟩:=HA1.out.drew.stoStep hs2 he2
   have hS2:=HS1.out.eff hE2
   obtain ⟨blk,hblk⟩:∃ blk,blk=s.sto.blk nb x.page:=⟨_,rfl⟩
   obtain ⟨p,hp⟩:∃ p,p=s.sto.page x.page:=⟨_,rfl⟩
   rw [<- hblk,<- hp] at hfp
   rw [<- hblk]
   have hmem:=List.mem_of_getElem? hfk
   have hpg:=hs2.pool.pages f hmem blk x.page p hfp
   obtain ⟨_,hpok⟩:=hs2.fok f hmem blk x.page p hfp
   have km:=(cell_of_row w2 blk 0 _ _ _ hpg).trans (show _=some (Value.int .u64 p.mark) from rfl)
   have HAG:=hid (zfU fr A pn pc po pl x dA dn dc p.mark w2)
   obtain ⟨R,hR⟩:∃ R:Bool,R=decide (fr<=pl/\p.mark<pl):=⟨_,rfl⟩
   rw [<- hR] at HAG
   have h34:decide (x.kind=3∨x.kind=4)=true:=by simpa using HK.out
   rw [h34,Bool.true_and] at HAG
   have HA2:=hid hA2
   have HE2:=hid (((qa.refl _ _ _ _).call HB1.out.drew).trans hE2)
   obtain ⟨HS2,HPG,HPOK,HFD,HFK,HFP,HP,HR,HMEM⟩:=zi9 hS2 hpg hpok hfd hfk hfp hp hR hmem
   clear hfd hfk hfp hA2 hE2 hblk hp hmem hpg hpok hs2 he2 hR hS2 h34 hS
   go_upto_if 54 with (first
    | (show wpList _ _ _ (⟨some 49,_,_,_,_,_⟩::_) _ _;refine wpList_load_row rfl 164 (.tmp 4) rfl w.heap.size (by rfl) 164 _ (0,0) _ (HS2.out (w.heap.size,_) (.head _)).1 Tryz.underlying164 rfl (by kernel_rfl) ?_)
    | (show wpList _ _ _ (⟨some 50,_,_,_,_,_⟩::_) _ _;refine wpList_load_row rfl 167 (.tmp 5) rfl (w.heap.size+1) (by rfl) 167 _ (0,0) _ (HS2.out (w.heap.size+1,_) (.tail _ (.head _))).1 Tryz.underlying167 rfl (by kernel_rfl) ?_)
    | (go_at_call 122;(with_reducible refine HAG.out.mono ?_);rintro e3 w3 ⟨rfl,hb3⟩))
   have HA3:=hid (HA2.out.below hb3)
   have HE3:=hid (HE2.out.call hb3)
   have HS3:=hid (HS2.out.below hb3)
   have HPG3:=hid (show qf w3 blk a.r x.page p from zb (show w2.heap[_]?=_ from HPG.out) hb3 (zd (show w2.heap[_]?=_ from HPG.out)))
   clear hb3 km
   cases R with
   | false =>
    have hno:¬ (fr<=pl/\p.mark<pl):=by simpa using HR.out.symm
    have hfin:s.redo nb fr pl x={ s with sto:=s.sto.get nb x.page }:=by
     rw [HRD.out];unfold zl.redo;rw [<- HP.out,if_neg hno]
    have HF:=hid hfin
    clear hfin hno
    go_wp2_with fail
    refine ⟨rfl,_,results_tmp rfl _ _ _,rfl,nb,?_⟩
    rw [HF.out]
    exact ⟨_,_,HA3.out,HE3.out⟩
   | true =>
    have hyes:fr<=pl/\p.mark<pl:=by simpa using HR.out.symm
    have hfin:s.redo nb fr pl x={ s with sto:=(s.sto.get nb x.page).setRow x.page x.slot x.after pl }:=by
     rw [HRD.out];unfold zl.redo;rw [<- HP.out,if_pos hyes]
    have HF:=hid hfin
    clear hfin hyes
    have f3:=(cell_of_row w3 (w.heap.size+1) 4 _ _ _ (HS3.out (w.heap.size+1,_) (.tail _ (.head _))).1).trans (show _=some (Value.int .i64 x.slot) from rfl)
    have f5:=(cell_of_row w3 (w.heap.size+1) 6 _ _ _ (HS3.out (w.heap.size+1,_) (.tail _ (.head _))).1).trans (show _=some (Value.string (za (zt x.after))) from rfl)
    have HSET:=hid (zeE blk a.r x.page x.slot p x.after w3 HPG3.out HPOK.out HX.out.after HX.out.slot)
    go_upto_region 20 with (go_at_call 125;(with_reducible refine HSET.out.mono ?_);rintro e9 w9 ⟨rfl,hset9,hk9⟩)
    obtain ⟨hp9,k6⟩:=HA3.out.redo HFK.out HFP.out hset9 hk9
    have hne5:w.heap.size+1≠blk:=fun e=>(HS3.out (w.heap.size+1,_) (.tail _ (.head _))).2 (.inl (.inr (.inr (.inr (.inr (.inr (.inr (.inr ⟨f,HMEM.out,_,_,by rw [HFP.out,e]⟩))))))))
    have hX9:w9.heap[w.heap.size+1]?=_:=(hk9.block _ (zd (HS3.out (w.heap.size+1,_) (.tail _ (.head _))).1) hne5).trans (HS3.out (w.heap.size+1,_) (.tail _ (.head _))).1
    have HTOU:=hid (zbO a.B a.D a.r a.L (s.sto.get nb x.page).hand x.page pl _ w9.drew (hp9.below (Below.refl _ _).drew))
    have hS:=(And.intro (show w9.drew.cell? ⟨a.S,6,none⟩=_ from k6) (show w9.drew.heap[w.heap.size+1]?=_ from hX9))
    obtain ⟨HSET9,HK9⟩:=zi2 hset9 hk9
    clear hset9 hk9 hp9 k6 hX9 hne5 f3 f5
    go_upto_region 20 with fail
    refine wp_region_noPanic ?_
    refine PrintLast.start_ (n:=10) (S:=(fun w'=>w'.cell? ⟨a.S,6,none⟩=some (.pointer (some ⟨a.B,0,none⟩))/\w'.heap[w.heap.size+1]?=some (.cells (Zh pl x dA dn dc).toArray 167 (0,0)))) (ds:=[9]) (bA 10 0) (by kernel_rfl) rfl (by kernel_rfl) hS (fun hHeld=>?_)
    refine pu 0 94 10 1 rfl rfl ?_
    refine pu 1 95 10 3 rfl rfl ?_
    refine pu 2 96 10 7 rfl rfl ?_
    refine tk 3 97 10 15 rfl rfl (Or.inl ⟨by rfl,fun _ h=>(by have k0:=h.1;go_simp;with_reducible rfl)⟩) ?_
    refine pu 4 98 10 31 rfl rfl ?_
    refine pu 5 99 10 63 rfl rfl ?_
    refine tk 6 100 10 127 rfl rfl (Or.inl ⟨by rfl,fun _ h=>(by have k0:=(cell_of_row _ (w.heap.size+1) 3 _ _ _ h.2).trans (show _=some (Value.int .i64 x.page) from rfl);go_simp;with_reducible rfl)⟩) ?_
    refine pu 7 101 10 255 rfl rfl ?_
    refine tk 8 102 10 511 rfl rfl (Or.inl ⟨by rfl,fun _ h=>(by have k0:=(cell_of_row _ (w.heap.size+1) 0 _ _ _ h.2).trans (show _=some (Value.int .u64 pl) from rfl);go_simp;with_reducible rfl)⟩) ?_
    refine la 9 10 1023 (some 103) rfl rfl (fun K hK=>?_)
    show Oper.wp _ ⟨some 103,_,_,_,_,_⟩ _ _ _ _
    refine zq 126 _ _ [.pointer (some ⟨a.B,0,none⟩),.int .i64 x.page,.int .u64 pl] rfl (by kernel_rfl) (by rfl) (HTOU.out.mono ?_)
    rintro e10 w10 ⟨rfl,htch,hk10⟩
    refine ⟨_,rfl,?_⟩
    refine hK.out _ _ ?_
    clear hK K
    try simp only [pS]
    refine PrintLast.done_ (by kernel_rfl) ?_
    refine NoPanic.normal ?_
    obtain ⟨hst10,he10⟩:=HA3.out.sto.rowStep (k:=k) (f:=f) (w4:=w9.drew) HFD.out HFK.out HFP.out HSET9.out HK9.out.drew htch hk10 hp0 hp HX.out.after
    obtain ⟨hA10,hE10⟩:=HA3.out.stoStep hst10 he10
    have hR10:∃ nb b' cur',zg w10 a b' cur' (s.redo nb fr pl x)/\qa w w10 (zS a b s) (zS a b' (s.redo nb fr pl x)) cur cur' a.r:=by
     refine ⟨nb,?_⟩
     rw [HF.out]
     exact ⟨_,_,hA10,HE3.out.trans hE10⟩
    have HR10:=hid hR10
    clear hst10 he10 hA10 hE10 htch hk10 hR10 hHeld hS
    go_wp2_with fail
    refine ⟨rfl,_,results_tmp rfl _ _ _,rfl,HR10.out⟩
 ·have hk3:¬ ((x.kind:Int)=3):=by omega
  have hk4:¬ ((x.kind:Int)=4):=by omega
  have d3:((x.kind:Int) != 3)=true:=by simp;omega
  have d4:((x.kind:Int) != 4)=true:=by simp;omega
  have hR:∃ nb b' cur',zg w1 a b' cur' (s.redo nb fr pl x)/\qa w w1 (zS a b s) (zS a b' (s.redo nb fr pl x)) cur cur' a.r:=by
   refine ⟨0,b,cur,?_⟩
   rw [show s.redo 0 fr pl x=s by unfold St.redo;rw [if_neg hk]]
   exact ⟨H.out.below HB1.out,(qa.refl _ _ _ _).call HB1.out⟩
  have HR:=hid hR
  clear hR
  go_enter Tryz.func82,Tryz.ntmps82
  go_upto_region 1 with fail
  rw [<- HW1.out]
  go_wp2_with fail
  exact ⟨rfl,_,results_tmp rfl _ _ _,rfl,HR.out⟩
theorem zft {o:Oper} {a:Act} {w:World} (x:Operand) (ho:o.op=.box 208 x) (p q r:Value) (hx:a.eval x=.agg #[p,q,r]) (h1:p.oneCell'=true) (h2:q.oneCell'=true) (h3:r.oneCell'=true) :
  (execOp a.eval o).run Tryz.prog w=.ok (.value (.pointer (some ⟨w.heap.size,0,none⟩))) (w.alloc (.cells #[p,q,r] 208)):=by
 unfold execOp
 simp only [ho,hx]
 simp [go_sem,Instr.box]
theorem zir (S n:Nat) (ts:qL) (L:List Chg) (A:Option Addr) (c B:Nat) (w:World) (h:yg w S ts) (h4:ts.length=4) (h1:1<=n) (h3:n<=3) (hr:zx w B 3 A L.length (zY L)) (hL:L.length<=1000) :
  Calls Tryz.prog 84 #[.pointer (some ⟨S,1,none⟩),.int .i64 n,.slice A L.length c] w fun e w'=>e=.returned (.tuple #[])/\∃ w1 C G',Below w.heap.size w w1/\w'=w1.setCell ⟨S,1+n,none⟩ (.pointer (some ⟨C,0,none⟩))/\vn w1 C ⟨L,[],L.length⟩ G'/\∀ x,G' x->w.heap.size<=x:=by
 have q1:(1:Int)<=(n:Int):=by omega
 have q3:(n:Int)<=3:=by omega
 have d1:decide ((1:Int)<=(n:Int))=true:=by simpa using q1
 have d3:decide ((n:Int)<=3)=true:=by simpa using q3
 have q0:(0:Int)<=(n:Int):=by omega
 have q4:(n:Int)<4:=by omega
 obtain ⟨o,ho⟩:∃ o,ts[n]?=some o:=⟨_,List.getElem?_eq_getElem (by omega)⟩
 obtain ⟨CC,hCC,hC4⟩:=h
 have hsz:1+n<CC.size:=by
  have:=hC4 n (by omega)
  rw [show (jV ts)[n]?=some (.pointer (o.map fun p=>⟨p.1,0,none⟩)) by simp [jV,ho]] at this
  exact (Array.getElem?_eq_some_iff.1 this).1
 obtain ⟨HR,HCC,HSZ⟩:=zi3 hr hCC hsz
 clear hr hCC hC4 ho
 go_enter Tryz.func84,Tryz.ntmps84
 go_upto_region 1 with fail
 have hS:True:=trivial
 refine wp_region_noPanic ?_
 refine PrintLast.start_ (n:=12) (S:=(fun _=>True)) (ds:=[11]) (bA 12 0) (by kernel_rfl) rfl (by kernel_rfl) hS (fun hHeld=>?_)
 refine pu 0 12 12 1 rfl rfl ?_
 refine pu 1 13 12 3 rfl rfl ?_
 refine pu 2 14 12 7 rfl rfl ?_
 refine pu 4 16 12 23 rfl rfl ?_
 refine pu 5 17 12 55 rfl rfl ?_
 refine pu 8 20 12 311 rfl rfl ?_
 refine pu 9 21 12 823 rfl rfl ?_
 refine on 3 12 831 (some 15) rfl rfl (fun K hK=>?_)
 show Oper.wp _ ⟨some 15,_,_,_,_,_⟩ _ _ _ _
 refine uZ (.const (.slice none 0 0)) (.tmp 14) 147 150 3 32 rfl Tryz.underlying147 Yc (by omega) (.slice none 0 0) 0 [] w.heap.size (by rfl) (World.ownsRow_nil _ _ _ _) _ L.length _ _ B (by rfl) HR.out (zcs _) (by omega) (by omega) (Nat.le_refl _) ?_
 intro v1 w1 hown hg ho1
 rw [Nat.zero_add,List.nil_append] at hown
 obtain ⟨A1,c1,rfl⟩:=own_slice hown
 refine hK.out _ _ trivial (fun hHeld=>?_)
 clear hK K
 try simp only [pS]
 refine pu 6 18 12 895 rfl rfl ?_
 refine on 7 12 1023 (some 19) rfl rfl (fun K hK=>?_)
 show Oper.wp _ ⟨some 19,_,_,_,_,_⟩ _ _ _ _
 refine vu (zft (.tmp 18) rfl (.slice A1 L.length c1) (.slice none 0 0) (.int .i64 L.length) (by rfl) rfl rfl rfl) ?_
 refine hK.out _ _ trivial (fun hHeld=>?_)
 clear hK K
 try simp only [pS]
 refine pu 10 22 12 2047 rfl rfl ?_
 refine la 11 12 4095 none rfl rfl (fun K hK=>?_)
 show Oper.wp _ ⟨none,_,_,_,_,_⟩ _ _ _ _
 have hg1:Below w.heap.size w w1:=yO ((Below.refl _ w.drew).grown hg (Nat.le_refl _) (fun q e=>by cases e))
 have hg2:Below w.heap.size w (w1.alloc (.cells #[.slice A1 L.length c1,.slice none 0 0,.int .i64 L.length] 208)):=B_alloc hg1 _
 refine jp 93 (.tmp 22) (.tmp 19) rfl S (1+n) CC 103 (.pointer (some ⟨w1.heap.size,0,none⟩)) (by rfl) (by rfl) (by kernel_rfl) (zb HCC.out hg2 (zd HCC.out)) HSZ.out rfl ?_
 refine hK.out _ _ ?_
 clear hK K
 try simp only [pS]
 refine PrintLast.done_ (by kernel_rfl) ?_
 refine NoPanic.normal ?_
 have hg1:Below w.heap.size w w1:=yO ((Below.refl _ w.drew).grown hg (Nat.le_refl _) (fun q e=>by cases e))
 have hg2:=B_alloc hg1 (.cells #[.slice A1 L.length c1,.slice none 0 0,.int .i64 L.length] 208)
 have hz1:=hg1.size
 have how:(w1.alloc (.cells #[.slice A1 L.length c1,.slice none 0 0,.int .i64 L.length] 208)).ownsRow w.heap.size 150 3 (.slice A1 L.length c1) L.length (zY L):=zi hown fun q hq=>Below.heap_alloc _ _ q (hown.lt q hq).2
 refine uN rfl rfl ⟨rfl,_,w1.heap.size,fun x=>x=w1.heap.size∨(Value.slice A1 L.length c1).ownBlock=some x,hg2,rfl,⟨⟨_,.slice none 0 0,zk _ _ rfl,qT how (Nat.zero_le _),World.ownsRow_nil _ _ _ _,fun k hk=>.inr hk,fun k hk=>by cases hk⟩,.inl rfl,?_,?_⟩,?_⟩
 ·rintro k (rfl | hk)
  ·simp
  ·exact (how.lt k hk).2
 ·rintro k (rfl | hk)
  ·rw [zc (zk _ _ rfl)];decide
  ·rw [own_tag how hk];decide
 ·rintro k (rfl | hk)
  ·exact hz1
  ·exact (how.lt k hk).1
theorem zjN {w:World} {a:Va} {b:Vb} {cur:Nat->Nat->List UInt8} {s:St} (h:zg w a b cur s) {n:Nat} (h1:1<=n) (h3:n<=3) (L:List Chg) (A:Option Addr) (c B:Nat) (hr:zx w B 3 A L.length (zY L)) (hL:L.length<=8) (hok:∀ c,c∈L->c.pg<6/\c.sl<5/\qX c.before) :
  Calls Tryz.prog 84 #[.pointer (some ⟨a.S,1,none⟩),.int .i64 n,.slice A L.length c] w fun e w'=>e=.returned (.tuple #[])/\∃ b' T,zg w' a b' cur { s with ts:=s.ts.set n (some (T,⟨L,[],L.length⟩)) }/\qa w w' (zS a b s) (zS a b' { s with ts:=s.ts.set n (some (T,⟨L,[],L.length⟩)) }) cur cur a.r:=by
 refine (zir a.S n s.ts L A c B w h.tab.row h.tab.len h1 h3 hr (by omega)).mono ?_
 rintro e w' ⟨rfl,w1,C,G',hb,rfl,htx,hG⟩
 obtain ⟨hA,hE⟩:=h.tabStep (o:=some (C,⟨L,[],L.length⟩)) (G':=G') hb h1 h3 hG (fun _ _ e=>by cases e;exact ⟨htx,⟨hL,Nat.le_refl _,by simp,hok⟩⟩) (fun e=>by cases e)
 exact ⟨rfl,_,C,hA,hE⟩
structure YW where
 l:List Chg
 o:Bool
def YW.step (s:YW) (x:zI):YW :=
 if x.kind=2∨x.kind=3 then ⟨s.l++[⟨x.page,x.slot,x.before⟩],true⟩ else if x.kind=4 then ⟨s.l.dropLast,s.o⟩ else if x.kind=5∨x.kind=6 then ⟨[],false⟩ else s
def uG (rs:List zI) (i:Nat):YW:=rs.foldl (fun s x=>if x.txn=i/\x.kind≠7 then s.step x else s) ⟨[],false⟩
def lsr (rs:List zI) (i:Nat):YW:=if 1<=i/\i<=3 then uG rs i else ⟨[],false⟩
def Ky (a:Nat) (l:List Nat):Nat:=l.foldl (fun a d=>if 0<d then (if d<a then d else a) else a) a
def vF (es:List (Nat × zI)):Nat:=es.foldl (fun a e=>if e.2.kind=7 then Ky e.1 e.2.dirty else a) 0
def zkr (c:Chg):Rs.Chg:=⟨c.pg,c.sl,za (zt c.before)⟩
def jR (e:Ent):Rs.Ent:=⟨e.pl,e.rc.kind,e.rc.txn,e.rc.page,e.rc.slot,za (zt e.rc.before),za (zt e.rc.after),za e.rc.image,e.dv,e.rc.dirty.map Int.ofNat⟩
theorem zdA (es:List Ent):jo es=Rs.rowOf (es.map jR):=by
 unfold jo Rs.rowOf
 rw [List.flatMap_map]
 rfl
theorem ziq (a:Nat) (l:List Nat):Rs.leastOf (a:Int) (l.map Int.ofNat)=(Ky a l:Int):=by
 induction l generalizing a with
 | nil=>rfl
 | cons d l ih =>
  show Rs.leastOf (if (0:Int)<Int.ofNat d then (if Int.ofNat d<(a:Int) then Int.ofNat d else (a:Int)) else (a:Int)) (l.map Int.ofNat)=(Ky (if 0<d then (if d<a then d else a) else a) l:Int)
  rw [<- ih]
  congr 1
  have e1:((0:Int)<Int.ofNat d)↔0<d:=by simp
  have e2:(Int.ofNat d<(a:Int))↔d<a:=by simp
  simp only [e1,e2]
  split
  ·split<;>rfl
  ·rfl
theorem zdE (es:List (Nat × zI)) (e:Nat × zI):vF (es++[e])=if e.2.kind=7 then Ky e.1 e.2.dirty else vF es:=by simp [vF]
theorem YH (rs:List zI) (x:zI) (i:Nat):uG (rs++[x]) i=if x.txn=i/\x.kind≠7 then (uG rs i).step x else uG rs i:=by simp [uG]
def Jd (s:YW):Rs.One:=⟨s.l.map zkr,s.o⟩
theorem zkZ (s:YW) (e:Ent):(Jd s).step (jR e)=Jd (s.step e.rc):=by
 unfold Rs.One.step YW.step
 have e2:((jR e).kd=2)↔e.rc.kind=2:=by simp only [jR];omega
 have e3:((jR e).kd=3)↔e.rc.kind=3:=by simp only [jR];omega
 have e4:((jR e).kd=4)↔e.rc.kind=4:=by simp only [jR];omega
 have e5:((jR e).kd=5)↔e.rc.kind=5:=by simp only [jR];omega
 have e6:((jR e).kd=6)↔e.rc.kind=6:=by simp only [jR];omega
 simp only [e2,e3,e4,e5,e6]
 split
 ·simp [Jd,Rs.Ent.chg,jR,zkr]
 ·split
  ·simp [Jd,List.map_dropLast]
  ·split<;>rfl
theorem zhk {t i:Nat} (h1:1<=i) (h3:i<=3):(i=Rs.slotOf (t:Int))↔t=i:=by
 unfold Rs.slotOf
 split<;>omega
theorem GO:∀ (n:Nat) (es:List Ent),es.length=n->(Rs.planOf (es.map jR)).fr=(vF (es.map fun e=>(e.pl,e.rc)):Int)/\∀ i,1<=i->i<=3->(Rs.planOf (es.map jR)).s i=Jd (uG (es.map (·.rc)) i)
 | 0,es,h=>by
  have:es=[]:=List.eq_nil_of_length_eq_zero h
  subst this
  exact ⟨rfl,fun _ _ _=>rfl⟩
 | n+1,es,h=>by
  obtain ⟨es',e,rfl⟩:∃ es' e,es=es'++[e]:=⟨es.dropLast,es.getLast (fun e=>by rw [e] at h;simp at h),(List.dropLast_concat_getLast _).symm⟩
  have ih:=GO n es' (by simpa using h)
  simp only [List.map_append,List.map_cons,List.map_nil]
  rw [Rs.planOf_snoc,zdE]
  have e7:((jR e).kd=7)↔e.rc.kind=7:=by simp only [jR];omega
  by_cases h7:e.rc.kind=7
  ·rw [Rs.Pln.step_mark _ _ (e7.2 h7),if_pos h7]
   refine ⟨ziq _ _,fun i h1 h3=>?_⟩
   rw [YH,if_neg (fun h=>h.2 h7)]
   exact ih.2 i h1 h3
  ·rw [Rs.Pln.step_of _ _ (fun h=>h7 (e7.1 h)),if_neg h7]
   refine ⟨ih.1,fun i h1 h3=>?_⟩
   rw [YH]
   show (if i=Rs.slotOf (jR e).tx then _ else _)=_
   have hsl:i=Rs.slotOf (jR e).tx↔e.rc.txn=i:=zhk (t:=e.rc.txn) h1 h3
   by_cases ht:e.rc.txn=i
   ·rw [if_pos (hsl.2 ht),if_pos ⟨ht,h7⟩,ih.2 i h1 h3,zkZ]
   ·rw [if_neg (fun h=>ht (hsl.1 h)),if_neg (fun h=>ht h.1)]
    exact ih.2 i h1 h3
theorem zfW (es:List Ent) {i:Nat} (hi:i<4):(Rs.anal (es.map jR)).s i=Jd (lsr (es.map (·.rc)) i):=by
 unfold Rs.anal lsr
 simp only
 by_cases h0:i=0
 ·subst h0;rfl
 ·rw [if_neg h0,if_pos ⟨by omega,by omega⟩]
  exact (GO _ es rfl).2 i (by omega) (by omega)
theorem zjy {w:World} {B:Nat} {e:Ent} (h:w.ownsRow B 35 1 e.dv e.rc.dirty.length (ZF e.rc.dirty)):Rs.DirtyAt w (jR e):=by
 rcases h.2 with ⟨h1,h2⟩ | ⟨g,cap,cur,hv,hB,hg,hc,hm,hl,hcur⟩
 ·exact .inl ⟨h1,by simp [jR,List.eq_nil_of_length_eq_zero h2]⟩
 ·refine .inr ⟨g,0,cap,cur,35,by simp [jR,hv],by decide,by decide,by decide,hg,by simp [jR];omega,fun i hi=>?_⟩
  have hi':i<e.rc.dirty.length:=by simpa [jR] using hi
  have:(cur.toList.take (e.rc.dirty.length*1))[i]?=some (Value.int .u64 (e.rc.dirty[i]:Nat)):=by
   rw [hcur];simp [ZF,hi']
  rw [List.getElem?_take] at this
  split at this
  ·rw [Nat.zero_add]
   simp only [jR,List.getD,List.getElem?_map,List.getElem?_eq_getElem hi',Option.map_some,Option.getD_some]
   simpa using this
  ·cases this
theorem ziM (r:zI):11<=(qu r).length:=by
 simp only [qu,yN,uV,ZA,vi,List.length_append,zA,List.length_cons,List.length_nil];omega
theorem zbH:∀ (rs:List zI),rs.length*11<=(zp rs).length
 | []=>by simp [zp]
 | r::rs=>by
  have h1:=zbH rs
  have h2:=ziM r
  show _<=(qu r++zp rs).length
  rw [List.length_append,List.length_cons]
  omega
theorem Ya.rows {w:World} {B:Nat} {A:Option Addr} {n c:Nat} {es:List Ent} (h:Ya w B (.slice A n c) es) (hn:es.length=n):Rs.RowsAt w A (es.map jR):=by
 refine Rs.RowsAt.of_own (B:=B) (n:=n) (c:=c) ?_ (by simpa using hn) ?_
 ·have:=h.own
  rw [zdA,hn] at this
  exact this
 ·intro e he
  obtain ⟨e',h1,rfl⟩:=List.mem_map.1 he
  exact zjy (h.dirty e' h1)
theorem zdv (A:Option Addr) (n c B:Nat) (es:List Ent) (w:World) (hn:es.length=n) (hlen:n<=2000) (h:Ya w B (.slice A n c) es) :
  Calls Tryz.prog 81 #[.slice A n c] w fun e w'=>∃ (PA:Nat->Option Addr) (pc:Nat->Nat),e=.returned (.agg (ua (vF (es.map fun e=>(e.pl,e.rc))) PA (fun i=>(lsr (es.map (·.rc)) i).l.length) pc (fun i=>(lsr (es.map (·.rc)) i).o)).toArray) /\
   (∀ i,1<=i->i<=3->w'.ownsRow w.heap.size 150 3 (.slice (PA i) (lsr (es.map (·.rc)) i).l.length (pc i)) (lsr (es.map (·.rc)) i).l.length (zY (lsr (es.map (·.rc)) i).l))/\Below w.heap.size w w':=by
 refine (Rs.analyse_any A n c (es.map jR) w (by simpa using hn) hlen (h.rows hn)).mono ?_
 rintro r w' ⟨⟨V,rfl,hV⟩,hb⟩
 have hs:∀ i,1<=i->i<4->(Rs.planOf (es.map jR)).s i=Jd (lsr (es.map (·.rc)) i):=fun i h1 h4=>by
  have:=zfW es h4
  rw [<- this]
  unfold Rs.anal
  simp only
  rw [if_neg (by omega)]
 have hw:∀ i,i<4->∃ (PA:Option Addr) (pc:Nat),(if i=0 then Value.slice none 0 0 else V i)=.slice PA (lsr (es.map (·.rc)) i).l.length pc/\(1<=i->w'.ownsRow w.heap.size 150 3 (.slice PA (lsr (es.map (·.rc)) i).l.length pc) (lsr (es.map (·.rc)) i).l.length (zY (lsr (es.map (·.rc)) i).l)):=by
  intro i hi
  by_cases h0:i=0
  ·subst h0
   exact ⟨none,0,rfl,fun h=>by omega⟩
  ·have h1:=hV i (by omega) hi
   rw [hs i (by omega) hi] at h1
   obtain ⟨PA,pc,e⟩:=own_slice h1
   rw [if_neg h0]
   have e2:(Jd (lsr (es.map (·.rc)) i)).l.length=(lsr (es.map (·.rc)) i).l.length:=by simp [Jd]
   have e3:Rs.chgs (Jd (lsr (es.map (·.rc)) i)).l=zY (lsr (es.map (·.rc)) i).l:=by simp only [Jd,Rs.chgs,zY,List.flatMap_map];rfl
   rw [e2] at e
   rw [e2,e3,e] at h1
   exact ⟨PA,pc,e,fun _=>h1⟩
 obtain ⟨PA,pc,hP⟩:=Rs.four (P:=fun i PA pc=>(if i=0 then Value.slice none 0 0 else V i)=.slice PA (lsr (es.map (·.rc)) i).l.length pc/\(1<=i->w'.ownsRow w.heap.size 150 3 (.slice PA (lsr (es.map (·.rc)) i).l.length pc) (lsr (es.map (·.rc)) i).l.length (zY (lsr (es.map (·.rc)) i).l))) hw
 refine ⟨PA,pc,?_,fun i h1 h3=>(hP i (by omega)).2 h1,hb⟩
 have e:∀ i,i<4->(fun i=>if i=0 then Value.slice none 0 0 else V i) i=Value.slice (PA i) (lsr (es.map (·.rc)) i).l.length (pc i):=fun i hi=>(hP i hi).1
 have ef:(Rs.planOf (es.map jR)).fr=(vF (es.map fun e=>(e.pl,e.rc)):Int):=(GO _ es rfl).1
 have eo:∀ i,i<4->(if i=0 then (⟨[],false⟩:Rs.One) else (Rs.planOf (es.map jR)).s i).o=(lsr (es.map (·.rc)) i).o:=fun i hi=>by
  have:=zfW es hi
  unfold Rs.anal at this
  simp only at this
  rw [this];rfl
 unfold Rs.planCells ua
 rw [e 0 (by omega),e 1 (by omega),e 2 (by omega),e 3 (by omega)]
 dsimp only
 rw [ef,eo 0 (by omega),eo 1 (by omega),eo 2 (by omega),eo 3 (by omega)]
def jy (nbs:Nat->Nat) (fr:Nat) (es:List (Nat × zI)):Nat->St->St
 | 0,s=>s
 | j+1,s=>match es[j]? with
  | some e=>(jy nbs fr es j s).redo (nbs j) fr e.1 e.2
  | none=>jy nbs fr es j s
theorem KM {nbs nbs':Nat->Nat} {fr:Nat} {es:List (Nat × zI)}:∀ {k:Nat} {s:St},(∀ j,j<k->nbs' j=nbs j)->jy nbs' fr es k s=jy nbs fr es k s
 | 0,_,_=>rfl
 | k+1,s,h=>by
  simp only [jy]
  rw [KM (fun j hj=>h j (by omega)),h k (Nat.lt_succ_self k)]
def zfc (r:Nat) (rs:List zI) (n T:Nat) (nbs:Nat->Nat) (s:St):St :=
 if (lsr rs n).o then ({ s with ts:=s.ts.set n (some (T,⟨(lsr rs n).l,[],(lsr rs n).l.length⟩)) }:St).abort r n nbs ⟨(lsr rs n).l,[],(lsr rs n).l.length⟩ else s
def jX (r:Nat) (rs:List zI) (Ts:Nat->Nat) (nbs:Nat->Nat->Nat):Nat->St->St
 | 0,s=>s
 | k+1,s=>zfc r rs k (Ts k) (nbs k) (jX r rs Ts nbs k s)
theorem KB {r:Nat} {rs:List zI} {Ts Ts':Nat->Nat} {nbs nbs':Nat->Nat->Nat}:∀ {k:Nat} {s:St},(∀ j,j<k->Ts' j=Ts j/\nbs' j=nbs j)->jX r rs Ts' nbs' k s=jX r rs Ts nbs k s
 | 0,_,_=>rfl
 | k+1,s,h=>by
  simp only [jX]
  rw [KB (fun j hj=>h j (by omega)),(h k (Nat.lt_succ_self k)).1,(h k (Nat.lt_succ_self k)).2]
def zdo (gen bank:Nat) (rs:List zI) (dp:Nat->Pg):zl:=⟨jt,0,gen,bank,zp rs,(zp rs).length,dp⟩
def uX (gen bank:Nat) (rs:List zI) (dp:Nat->Pg):St:=⟨zdo gen bank rs dp,[],Qw,[]⟩
def yq (r gen bank:Nat) (rs:List zI) (dp:Nat->Pg) (nb1 nb2 Ts:Nat->Nat) (nb3:Nat->Nat->Nat):St :=
 jX r rs Ts nb3 4 (qe nb2 6 (jy nb1 (vF (qx gen 0 rs)) (qx gen 0 rs) rs.length (uX gen bank rs dp)))
def St.packed (s:St):St:={ s with sto:=s.sto.pack s.ts }
def uk (rs:List zI) (n:Nat):Nat:=if (lsr rs n).o=false∨(lsr rs n).l=[] then 0 else ((lsr rs n).l.length+1)*395
theorem ziN (s:St) (nb fr pl:Nat) (x:zI):(s.redo nb fr pl x).its=s.its/\(s.redo nb fr pl x).ts=s.ts/\(s.redo nb fr pl x).sto.log=s.sto.log/\(s.redo nb fr pl x).sto.gen=s.sto.gen/\(s.redo nb fr pl x).lk=s.lk:=by
 unfold St.redo
 split
 ·refine ⟨rfl,rfl,?_,?_,rfl⟩
  ·show (s.sto.redo nb fr pl x).log=_
   unfold zl.redo
   split
   ·rw [(QO _ _ _ _ _).1,(vM _ _ _).1]
   ·rw [(vM _ _ _).1]
  ·show (s.sto.redo nb fr pl x).gen=_
   unfold zl.redo
   split
   ·rw [(QO _ _ _ _ _).2,(vM _ _ _).2.1]
   ·rw [(vM _ _ _).2.1]
 ·exact ⟨rfl,rfl,rfl,rfl,rfl⟩
theorem YN (nbs:Nat->Nat) (fr:Nat) (es:List (Nat × zI)) (s:St):∀ j,(jy nbs fr es j s).its=s.its/\(jy nbs fr es j s).ts=s.ts/\(jy nbs fr es j s).sto.log=s.sto.log/\(jy nbs fr es j s).sto.gen=s.sto.gen/\(jy nbs fr es j s).lk=s.lk
 | 0=>⟨rfl,rfl,rfl,rfl,rfl⟩
 | j+1=>by
  have ih:=YN nbs fr es s j
  simp only [jy]
  split
  ·have h:=ziN (jy nbs fr es j s) (nbs j) fr (by assumption:Nat × zI).1 (by assumption:Nat × zI).2
   exact ⟨h.1.trans ih.1,h.2.1.trans ih.2.1,h.2.2.1.trans ih.2.2.1,h.2.2.2.1.trans ih.2.2.2.1,h.2.2.2.2.trans ih.2.2.2.2⟩
  ·exact ih
theorem JR (nbs:Nat->Nat) (s:St):∀ k,(qe nbs k s).sto.log=s.sto.log/\(qe nbs k s).sto.gen=s.sto.gen/\(qe nbs k s).ts=s.ts/\(qe nbs k s).lk=s.lk
 | 0=>⟨rfl,rfl,rfl,rfl⟩
 | k+1=>by
  have ih:=JR nbs s k
  simp only [qe,zes]
  exact ⟨(vM _ _ _).1.trans ih.1,(vM _ _ _).2.1.trans ih.2.1,ih.2.2.1,ih.2.2.2⟩
theorem zhB {s:St} (h:zJ s.its) (r nb txn:Nat):zJ (s.undo1 r nb txn).its/\(s.undo1 r nb txn).its.length<=s.its.length+1/\(s.undo1 r nb txn).sto.gen=s.sto.gen:=by
 unfold St.undo1
 split
 ·split
  ·have h1:=Qo h (ji (s.sto.page (by assumption:Chg).pg) (by assumption:Chg).sl) (by assumption:Chg).before (by assumption:Chg).pg (by assumption:Chg).sl
   exact ⟨h1.1,h1.2,(zaE _ _ _ _ _ _ _ _).2⟩
  ·exact ⟨h,by omega,rfl⟩
 ·exact ⟨h,by omega,rfl⟩
theorem zbP (r txn:Nat) (nbs:Nat->Nat):∀ (m j:Nat) {s:St},zJ s.its->zJ (St.undos r txn nbs j m s).its/\(St.undos r txn nbs j m s).its.length<=s.its.length+m/\(St.undos r txn nbs j m s).sto.gen=s.sto.gen
 | 0,_,s,h=>⟨h,by simp [St.undos],rfl⟩
 | m+1,j,s,h=>by
  have h1:=zhB h r (nbs j) txn
  have h2:=zbP r txn nbs m (j+1) h1.1
  exact ⟨h2.1,by have:=h1.2.1;have:=h2.2.1;simp only [St.undos];omega,h2.2.2.trans h1.2.2⟩
theorem zfT {s:St} (h:zJ s.its) (r txn:Nat) (nbs:Nat->Nat) (x:Tx):zJ (s.abort r txn nbs x).its/\(s.abort r txn nbs x).its.length<=s.its.length+x.list.length/\(s.abort r txn nbs x).sto.gen=s.sto.gen:=by
 have h1:=zbP r txn nbs x.list.length 0 h
 refine ⟨h1.1,h1.2.1,?_⟩
 unfold St.abort
 simp only
 split
 ·rfl
 ·exact h1.2.2
theorem zis {rs:List zI} (hok:∀ x,x∈rs->x.ok) (i:Nat):∀ c,c∈(lsr rs i).l->c.pg<6/\c.sl<5/\qX c.before:=by
 have key:∀ (n:Nat) (rs:List zI),rs.length=n->(∀ x,x∈rs->x.ok)->∀ c,c∈(uG rs i).l->c.pg<6/\c.sl<5/\qX c.before:=by
  intro n
  induction n with
  | zero =>
   intro rs hl _ c hc
   have:rs=[]:=List.eq_nil_of_length_eq_zero hl
   subst this
   simp [uG] at hc
  | succ n ih =>
   intro rs hl hok c hc
   obtain ⟨rs',x,rfl⟩:∃ rs' x,rs=rs'++[x]:=⟨rs.dropLast,rs.getLast (fun e=>by rw [e] at hl;simp at hl),(List.dropLast_concat_getLast _).symm⟩
   have ih':=ih rs' (by simpa using hl) (fun y hy=>hok y (by simp [hy]))
   have hx:=hok x (by simp)
   rw [YH] at hc
   split at hc
   ·unfold YW.step at hc
    split at hc
    ·rcases List.mem_append.1 hc with hc | hc
     ·exact ih' c hc
     ·simp only [List.mem_singleton] at hc;subst hc;exact ⟨hx.page,hx.slot,hx.before⟩
    ·split at hc
     ·exact ih' c (List.dropLast_sublist _ |>.subset hc)
     ·split at hc
      ·simp at hc
      ·exact ih' c hc
   ·exact ih' c hc
 intro c hc
 unfold lsr at hc
 split at hc
 ·exact key _ rs rfl hok c hc
 ·simp at hc
theorem zhY (l:List Ent):(jo l).length=l.length*9:=by
 induction l with
 | nil=>rfl
 | cons e l ih=>show (jj e++jo l).length=_;rw [List.length_append,ih];simp [jj];omega
theorem zeo:∀ (l:List Ent) (k:Nat) (x:Ent) (j:Nat),l[k]?=some x->j<9->(jo l)[k*9+j]?=(jj x)[j]?
 | [],k,x,j,h,_=>by simp at h
 | e::l,0,x,j,h,hj=>by
  simp at h;subst h
  show (jj e++jo l)[_]?=_
  rw [List.getElem?_append_left (by simp [jj];omega)];simp
 | e::l,k+1,x,j,h,hj=>by
  have ih:=zeo l k x j (by simpa using h) hj
  show (jj e++jo l)[_]?=_
  rw [List.getElem?_append_right (by simp [jj];omega),<- ih]
  congr 1
  simp [jj];omega
theorem zeT {w:World} {B:Nat} {A:Option Addr} {n c:Nat} {l:List Ent} (h:w.ownsRow B 167 9 (.slice A n c) n (jo l)) {k:Nat} {x:Ent} (hx:l[k]?=some x):∃ g,A=some ⟨g,0,none⟩/\g<w.heap.size/\n<=c/\w.rangeAt g (k*9) (jj x):=by
 have hl:=(List.getElem?_eq_some_iff.1 hx).1
 obtain ⟨h0,h⟩:=h
 rw [zhY] at h0
 rcases h with ⟨_,hn⟩ | ⟨g,cap,cur,hv,_,hh,h1,_,h3,h4⟩
 ·omega
 ·injection hv with e1 e2 e3
  subst e1 e3
  refine ⟨g,rfl,zd hh,h1,fun j v hj=>?_⟩
  have hj5:j<9:=by have:=(List.getElem?_eq_some_iff.1 hj).1;simpa [jj] using this
  rw [cell_of_row w g _ cur 167 (0,0) hh]
  have h9:=(zeo l k x j hx hj5).trans hj
  rw [<- h4,List.getElem?_take_of_lt (by omega)] at h9
  rw [<- Array.getElem?_toList];exact h9
theorem zg.notTag {w:World} {a:Va} {b:Vb} {cur:Nat->Nat->List UInt8} {s:St} (h:zg w a b cur s) {x t:Nat} (ht:qp w x=t) (hn:t ∉ [103,222,100001,136,208,150,3,200,204,194,5,81,118,86,120]):¬ zS a b s x:=fun hy=>by
 obtain ⟨t1,t2,t3,t4,t5,t6⟩:=h.tags
 simp only [List.mem_cons,List.not_mem_nil,or_false,not_or] at hn t5 t6
 rcases hy with (rfl | rfl | hy | hy | ⟨i,hy⟩ | hy | hy) | hy
 ·rw [t1] at ht;omega
 ·rw [t2] at ht;omega
 ·rw [t3 x hy] at ht;omega
 ·rw [t4 x hy] at ht;omega
 ·have:=t5 i x hy;omega
 ·have:=t6 x (.inl (.inl hy));omega
 ·have:=t6 x (.inr hy);omega
 ·have:=t6 x (.inl (.inr hy));omega
theorem zbl {gen:Nat}:∀ (rs:List zI) (n:Nat) (e:Nat × zI),e∈qx gen n rs->(∃ m,m<=n+(zp rs).length/\e.1=qD gen m)/\e.2∈rs
 | [],n,e,h=>by simp [qx] at h
 | r::rs,n,e,h=>by
  have hl:(zp (r::rs)).length=(qu r).length+(zp rs).length:=by simp [zp]
  rcases List.mem_cons.1 h with rfl | h
  ·exact ⟨⟨n,by omega,rfl⟩,by simp⟩
  ·obtain ⟨⟨m,h1,h2⟩,h3⟩:=zbl rs _ e h
   exact ⟨⟨m,by omega,h2⟩,by simp [h3]⟩
theorem zaa (gen:Nat):∀ (rs:List zI) (n:Nat),(qx gen n rs).map (·.2)=rs
 | [],_=>rfl
 | r::rs,n=>by simp [qx,zaa gen rs]
def yQ (rs:List zI) (n:Nat):Nat:=(if n<=1 then uk rs 1 else 0)+(if n<=2 then uk rs 2 else 0)+(if n<=3 then uk rs 3 else 0)
theorem Kf (rs:List zI) {n:Nat} (h1:1<=n) (h3:n<=3):yQ rs n=uk rs n+yQ rs (n+1):=by
 obtain rfl | rfl | rfl:n=1∨n=2∨n=3:=by omega
 all_goals simp [yQ]
 all_goals omega
theorem zbZ (rs:List zI):yQ rs 0=yQ rs 1:=by simp [yQ]
theorem zjS {fr:Nat} {A:Nat->Option Addr} {pn pc:Nat->Nat} {po:Nat->Bool} {n:Nat} (hn:n<4):(ua fr A pn pc po).toArray[5+n]?=some (.bool (po n)):=by
 match n,hn with
 | 0,_=>rfl
 | 1,_=>rfl
 | 2,_=>rfl
 | 3,_=>rfl
theorem zjR {fr:Nat} {A:Nat->Option Addr} {pn pc:Nat->Nat} {po:Nat->Bool} {n:Nat} (hn:n<4):(ua fr A pn pc po).toArray[1+n]?=some (.slice (A n) (pn n) (pc n)):=by
 match n,hn with
 | 0,_=>rfl
 | 1,_=>rfl
 | 2,_=>rfl
 | 3,_=>rfl
theorem zfL (D r gen bank:Nat) (rs:List zI) (dp:Nat->Pg) (F:Nat->Prop) (cur:Nat->Nat->List UInt8) (w:World) (hD:qr w D F cur) (hr:r<4) (hon:jN (cur r) gen bank (zp rs)) (hok:∀ x,x∈rs->x.ok) (hbank:bank<=1) (hg0:0<gen) (hg:gen+1<4294967296)
  (hb:(zp rs).length+(uk rs 1+uk rs 2+uk rs 3)<=14336) (hne:0<rs.length) (hp:∀ n,n<6->uo (cur r) r n (dp n)) (hdp:∀ n,(dp n).ok) (h8:∀ i,(lsr rs i).l.length<=8) :
  Calls Tryz.prog 43 #[.pointer (some ⟨D,0,none⟩),.int .i64 r] w fun e w'=>∃ (a:Va) (b:Vb) (cur':Nat->Nat->List UInt8) (nb1 nb2 Ts:Nat->Nat) (nb3:Nat->Nat->Nat),e=.returned (.tuple #[.pointer (some ⟨a.S,0,none⟩),.int .i64 0])/\a.D=D/\a.r=r/\zg w' a b cur' (yq r gen bank rs dp nb1 nb2 Ts nb3).packed/\qa w w' F (zS a b (yq r gen bank rs dp nb1 nb2 Ts nb3).packed) cur cur' r/\zJ (yq r gen bank rs dp nb1 nb2 Ts nb3).its/\(yq r gen bank rs dp nb1 nb2 Ts nb3).its.length<=62:=by
 have HLO:=hid (zgw D F cur r gen bank rs w hD hon hok hr hbank hg0 (by omega) (by omega) hne)
 have hmin:=zbH rs
 have hlen:(zp rs).length<=14336:=by omega
 obtain ⟨HON,HOK,HP,HDP,H8,HB⟩:=zi6 hon hok hp hdp h8 hb
 clear hon hok hp hdp h8 hb hD
 go_enter Tryz.func43,Tryz.ntmps43
 go_upto_region 4 with (go_at_call 78;(with_reducible refine HLO.out.mono ?_);rintro e1 w1 ⟨L,v,F1,FL,es,rfl,hL,hD1,hents,hmap,hk1,hn1,hfl⟩)
 have hel:es.length=rs.length:=by have:=congrArg List.length hmap;rw [List.length_map,YE] at this;exact this
 obtain ⟨A,cE,rfl⟩:=own_slice hents.own
 have HNEW:=hid (new_any w1)
 obtain ⟨HENT,HMAP,HEL,HL,HD1,HK1,HN1,HFL⟩:=zi8 hents hmap hel hL hD1 hk1 hn1 hfl
 clear hents hmap hel hL hD1 hk1 hn1 hfl
 go_upto_region 5 with (first
  | (go_at_call 79;(with_reducible refine HNEW.out.mono ?_);rintro e2 w2 ⟨rfl,hlk,hb2,hz2⟩;have HZ2:=hid hz2;clear hz2)
  | (go_at_call 80;(with_reducible refine (zcY D r L w2).mono ?_);rintro e3 w3 ⟨rfl,hp3,hb3⟩))
 obtain ⟨T,hT,hTM⟩:=hlk
 have hT0:T=[]:=by
  cases T with
  | nil=>rfl
  | cons p l=>simp [zh] at hTM
 subst hT0
 obtain ⟨a,ha⟩:∃ a:Va,a=⟨w3.heap.size,w1.heap.size+1,w1.heap.size,w1.heap.size+2,L,w2.heap.size,D,r⟩:=⟨_,rfl⟩
 obtain ⟨w4,hw4⟩:∃ w4,w4=w3.alloc (.cells #[.pointer (some ⟨w1.heap.size+1,0,none⟩),.pointer none,.pointer none,.pointer none,.pointer none,.pointer (some ⟨L,0,none⟩),.pointer (some ⟨w2.heap.size,0,none⟩),.slice none 0 0,.int .i64 r] 103):=⟨_,rfl⟩
 have hb13:Below w1.heap.size w1 w3:=B_call hb2 hb3
 have hb14:Below w1.heap.size w1 w4:=by rw [hw4];exact B_alloc hb13 _
 have hst:qc w4 w2.heap.size D L r FL F1 cur (zdo gen bank rs dp):=by
  refine ⟨hp3.below (by rw [hw4];exact B_alloc (Below.refl _ _) _),HL.out.below hb14,zv.below HD1.out hb14,?_,HP.out,hr,hbank,(by show gen < _;omega),(by show (zp rs).length<=_;have:=HB.out;omega),Nat.le_refl _,HDP.out,?_⟩
  ·show jN (cur r) gen bank ((zp rs).take (zp rs).length)
   rw [List.take_length];exact HON.out
  ·intro f hf b n p hp
   simp only [zdo,jt,List.mem_cons,List.not_mem_nil,or_false,or_self] at hf
   subst hf
   cases hp
 have hA:=zg.fresh (w:=w4) (a:=a) (FL:=FL) (F:=F1) (cur:=cur) (sto:=zdo gen bank rs dp) (by rw [ha,hw4];exact zk w3 _ rfl) (by rw [ha];exact hst) (by rw [ha,hw4];exact (hT.below hb3).below (B_alloc (Below.refl _ _) _))
 have hz13:=hb13.size
 have hown:∀ x,KF a ⟨FL,F1,fun _ _=>False,.slice none 0 0,[]⟩ (uX gen bank rs dp) x->w.heap.size<=x:=by
  have hz1:=HK1.out.size
  have HZ:=HZ2.out
  have hz2:=hb2.size
  rintro x (rfl | rfl | hx | hx | ⟨i,hx⟩ | hx | hx)
  ·rw [ha];show _<=w3.heap.size;omega
  ·rw [ha];show _<=w1.heap.size+1;omega
  ·rw [ha] at hx
   rcases hx with rfl | ⟨p,hp,_⟩
   ·exact hz1
   ·cases hp
  ·cases hx
  ·exact hx.elim
  ·exact HFL.out x hx
  ·rcases hx with rfl | ⟨f,hf,n,p,hp⟩
   ·rw [ha];show _<=w2.heap.size;omega
   ·simp only [uX,zdo,jt,List.mem_cons,List.not_mem_nil,or_false,or_self] at hf
    subst hf
    cases hp
 have hAS:a.S=w3.heap.size:=by rw [ha]
 have hent4:Ya w4 w.heap.size (.slice A es.length cE) es:=⟨zi HENT.out.own fun q hq=>hb14.block q (HENT.out.own.lt q hq).2,fun e he=>zi (HENT.out.dirty e he) fun q hq=>hb14.block q ((HENT.out.dirty e he).lt q hq).2,HENT.out.ok⟩
 have han:=zdv A es.length cE w.heap.size es w4 rfl (by rw [HEL.out];omega) hent4
 have hrc:es.map (·.rc)=rs:=by
  have h9:=congrArg (List.map (·.2)) HMAP.out
  rw [List.map_map,zaa] at h9
  exact h9
 rw [HMAP.out,hrc] at han
 obtain ⟨HAN,HRC⟩:=zi2 han hrc
 clear hrc
 obtain ⟨HA,HOWN⟩:=zi2 hA hown
 have HKW:=hid (HK1.out.call hb14)
 have HENT4:=hid hent4
 have hADr:a.D=D/\a.r=r:=by rw [ha];exact ⟨rfl,rfl⟩
 have HADR:=hid hADr
 rw [<- hw4,<- hAS]
 have HAS:=hid hAS
 clear hTM hp3 hb2 hb3 ha hw4 hb13 hb14 hst hA hz13 hown hent4 han hADr hT hAS
 go_upto_region 6 with (first
  | (go_at_call 81;(with_reducible refine HAN.out.mono ?_);rintro e5 w5 ⟨PA,pc,rfl,hPL,hb5⟩)
  | (show wpList _ _ _ (⟨none,.store 164 _ _,_,_,_,_⟩::_) _ _;refine zN rfl 164 (.tmp 10) (.tmp 38) rfl w5.heap.size rfl _ (ua _ _ _ _ _).toArray (by rfl) (by rfl) (by kernel_rfl) (by rfl) (by simp [ua,Value.oneCell']) ?_))
 obtain ⟨w0,hw0⟩:∃ w0,w0=w5.alloc (.cells (ua (vF (qx gen 0 rs)) PA (fun i=>(lsr rs i).l.length) pc (fun i=>(lsr rs i).o)).toArray 164):=⟨_,rfl⟩
 have hb40:Below w4.heap.size w4 w0:=by rw [hw0];exact B_alloc hb5 _
 have hPB:w0.heap[w5.heap.size]?=some (.cells (ua (vF (qx gen 0 rs)) PA (fun i=>(lsr rs i).l.length) pc (fun i=>(lsr rs i).o)).toArray 164 (0,0)):=by rw [hw0];exact zk _ _ rfl
 have hA0:=HA.out.below hb40
 obtain ⟨b0,hb0⟩:∃ b0:Vb,b0=⟨FL,F1,fun _ _=>False,.slice none 0 0,[]⟩:=⟨_,rfl⟩
 rw [<- hb0] at hA0
 have hPL0:∀ i,1<=i->i<=3->w0.ownsRow w4.heap.size 150 3 (.slice (PA i) (lsr rs i).l.length (pc i)) (lsr rs i).l.length (zY (lsr rs i).l)/\∀ q,(Value.slice (PA i) (lsr rs i).l.length (pc i)).ownBlock=some q->¬ zS a b0 (uX gen bank rs dp) q:=fun i h1 h3=>by
  have h9:=hPL i h1 h3
  refine ⟨zi h9 fun q hq=>by rw [hw0];exact Below.heap_alloc _ _ _ (h9.lt q hq).2,fun q hq hx=>?_⟩
  have h8:=HA.out.lt (by rw [hb0] at hx;exact hx)
  have:=(h9.lt q hq).1
  omega
 have hEO:w0.ownsRow w.heap.size 167 9 (.slice A es.length cE) es.length (jo es):=zi HENT4.out.own fun q hq=>hb40.block q (HENT4.out.own.lt q hq).2
 have hEN:∀ q,(Value.slice A es.length cE).ownBlock=some q->¬ zS a b0 (uX gen bank rs dp) q:=fun q hq=>hA0.notTag (own_tag hEO hq) (by decide)
 have hPN:=hA0.notT hPB (by decide)
 have hPBl:=zd hPB
 obtain ⟨PB,hPBe⟩:∃ PB,PB=w5.heap.size:=⟨_,rfl⟩
 rw [<- hPBe] at hPB hPN hPBl
 rw [<- hw0,<- hPBe]
 have HKW0:=hid (HKW.out.call hb40)
 obtain ⟨HA0,HPB,HPN,HPL,HEO,HEN⟩:=zi6 hA0 hPB hPN hPL0 hEO hEN
 have HOWN0:Hid (∀ x,KF a b0 (uX gen bank rs dp) x->w.heap.size<=x):=by rw [hb0];exact HOWN
 have hbF:b0.F=F1:=by rw [hb0]
 have HBF:=hid hbF
 clear hb40 hA0 hPB hPN hPL0 hEO hEN hw0 hPBe hb0 hPL hb5 hbF
 obtain ⟨E,hE⟩:∃ E,E=qx gen 0 rs:=⟨_,rfl⟩
 rw [<- hE]
 obtain ⟨fr,hfr⟩:∃ fr,fr=vF E:=⟨_,rfl⟩
 obtain ⟨R,hR⟩:∃ R:Nat->World->Prop,R=fun j wr=>∃ (nbs:Nat->Nat) (b':Vb) (cur':Nat->Nat->List UInt8),zg wr a b' cur' (jy nbs fr E j (uX gen bank rs dp))/\qa w0 wr (zS a b0 (uX gen bank rs dp)) (zS a b' (jy nbs fr E j (uX gen bank rs dp))) cur cur' r:=⟨_,rfl⟩
 have hR0:R 0 w0:=by rw [hR];exact ⟨fun _=>0,b0,cur,HA0.out,qa.refl _ _ _ _⟩
 obtain ⟨HR,HR0,HE,HFR⟩:=zi4 hR hR0 hE hfr
 clear hR hR0 hE hfr
 go_upto_region 7 with fail
 go_loopw [41] (fun u wr=>∃ j:Nat,j<=es.length/\u=.int .i64 j/\R j wr) (fun u _=>(es.length-jl u).toNat)
 case atStart=>exact ⟨0,Nat.zero_le _,rfl,HR0.out⟩
 case round =>
  obtain ⟨j,hj,rfl,hrj⟩:=hrel
  rw [HR.out] at hrj
  obtain ⟨nbs,bj,curj,hAj,hEj⟩:=hrj
  by_cases hlt:j<es.length
  ·obtain ⟨x,hx⟩:∃ x,es[j]?=some x:=⟨_,List.getElem?_eq_getElem hlt⟩
   have hmem:=List.mem_of_getElem? hx
   obtain ⟨dA,dc,hdv⟩:=own_slice (HENT.out.dirty x hmem)
   have hcl:jj x=Zh x.pl x.rc dA x.rc.dirty.length dc:=by unfold jj Zh;rw [hdv]
   have hEOj:wr.ownsRow w.heap.size 167 9 (.slice A es.length cE) es.length (jo es):=zi HEO.out fun q hq=>hEj.keep.block q (HEO.out.lt q hq).2 (HEN.out q hq)
   obtain ⟨g,rfl,hgl,hgc,hrng⟩:=zeT hEOj hx
   rw [hcl] at hrng
   have hEx:E[j]?=some (x.pl,x.rc):=by rw [HE.out,<- HMAP.out,List.getElem?_map,hx];rfl
   obtain ⟨⟨pm,hpm,hpl⟩,hrm⟩:=zbl rs 0 _ (by rw [<- HE.out];exact List.mem_of_getElem? hEx)
   have hp0:x.pl≠0/\x.pl<18446744073709551616:=by simp only at hpl;rw [hpl];unfold qD;omega
   have hPBj:=hEj.blk HPN.out HPB.out
   obtain ⟨w7,hw7⟩:∃ w7,w7=wr.alloc (.cells (Zh x.pl x.rc dA x.rc.dirty.length dc).toArray 167):=⟨_,rfl⟩
   have hb7:Below wr.heap.size wr w7:=by rw [hw7];exact B_alloc (Below.refl _ _) _
   have hX7:w7.heap[wr.heap.size]?=some (.cells (Zh x.pl x.rc dA x.rc.dirty.length dc).toArray 167 (0,0)):=by rw [hw7];exact zk _ _ rfl
   have HAG:=hid (zhK a bj curj _ fr PA (fun i=>(lsr rs i).l.length) pc (fun i=>(lsr rs i).o) x.pl x.rc dA x.rc.dirty.length dc w7 (hAj.below hb7) (HENT.out.ok x hmem) hp0.1 hp0.2)
   have hst:∀ nbs',jy nbs' fr E (j+1) (uX gen bank rs dp)=(jy nbs' fr E j (uX gen bank rs dp)).redo (nbs' j) fr x.pl x.rc:=fun nbs'=>by simp only [jy,hEx]
   have q0:(0:Int)<=(j:Int):=by omega
   have q1:(j:Int)<(es.length:Int):=by omega
   have x2:IntKind.i64.wrap ((j:Int)+1)=(j:Int)+1:=by have:=HEL.out;rw [IntKind.wrap_i64];omega
   obtain ⟨HRNG,HW7,HX7⟩:=zi3 hrng hw7 hX7
   have HPB7:=hid (zb hPBj hb7 (zd hPBj))
   have HST:=hid hst
   have HE7:=hid (hEj.call hb7)
   have HPS7:=hid (show w7.heap[PB]?=some (.cells (ua fr PA (fun i=>(lsr rs i).l.length) pc (fun i=>(lsr rs i).o)).toArray 164 (0,0)) by rw [HFR.out,HE.out];exact HPB7.out)
   clear hx hmem hdv hcl hEOj hrng hEx hpl hrm hp0 hPBj hw7 hb7 hX7 hst hAj hEj hpm
   go_upto_region 9 with (first
    | (show wpList _ _ _ (⟨some 44,_,_,_,_,_⟩::_) _ _;refine zZ rfl _ _ (qy 167 (.tmp 43) rfl g (j*9) (by rfl) (Zh x.pl x.rc dA x.rc.dirty.length dc) _ HRNG.out Tryz.underlying167 rfl (by kernel_rfl)) ?_)
    | (show wpList _ _ _ (⟨none,.store 167 _ _,_,_,_,_⟩::_) _ _;refine zN rfl 167 (.tmp 12) (.tmp 44) rfl wr.heap.size rfl _ (Zh x.pl x.rc dA x.rc.dirty.length dc).toArray (by rfl) (by rfl) (by kernel_rfl) (by rfl) (by simp [Zh,Value.oneCell']) ?_))
   rw [<- HW7.out]
   go_wp2_with (first
    | (show wpList _ _ _ (⟨some 46,_,_,_,_,_⟩::_) _ _;refine wpList_load_row rfl 164 (.tmp 10) rfl PB (by rfl) 164 _ (0,0) _ HPS7.out Tryz.underlying164 rfl (by kernel_rfl) ?_)
    | (show wpList _ _ _ (⟨some 47,_,_,_,_,_⟩::_) _ _;refine wpList_load_row rfl 167 (.tmp 12) rfl wr.heap.size (by rfl) 167 _ (0,0) _ HX7.out Tryz.underlying167 rfl (by kernel_rfl) ?_)
    | (go_at_call 82;(with_reducible refine HAG.out.mono ?_);rintro e8 w8 ⟨rfl,nb,b8,cur8,hA8,hE8⟩))
   have hR1:R (j+1) w8:=by
    rw [HR.out]
    refine ⟨zE nbs j nb,b8,cur8,?_⟩
    rw [HST.out,zf,KM (nbs:=nbs) (fun i hi=>zm _ _ (by omega))]
    exact ⟨hA8,HE7.out.trans (by rw [<- HADR.out.2];exact hE8)⟩
   have HR1:=hid hR1
   clear hA8 hE8 hR1
   go_wp2_with fail
   go_roundw
   case rel=>exact ⟨j+1,by omega,by simp,HR1.out⟩
   case measure=>simp [jl];omega
  ·have hje:j=es.length:=by omega
   subst hje
   obtain ⟨s1,hs1⟩:∃ s1,s1=jy nbs fr E es.length (uX gen bank rs dp):=⟨_,rfl⟩
   rw [<- hs1] at hAj hEj
   obtain ⟨t1,t2,t3,t4,t5⟩:=YN nbs fr E (uX gen bank rs dp) es.length
   rw [<- hs1] at t1 t2 t3 t4 t5
   have HLE:=hid (zgA a bj curj s1 wr hAj (by rw [t1];exact List.Pairwise.nil) (by rw [t1];simp [uX]))
   obtain ⟨HEJ,HS1,HT1,HT2,HT3,HT4⟩:=zi6 hEj hs1 t1 t2 t3 t4
   clear hAj hEj hs1 t1 t2 t3 t4 t5 hj hlt
   go_upto_region 17 with (go_at_call 83;(with_reducible refine HLE.out.mono ?_);rintro e2 w2 ⟨rfl,nb2,b2,cur2,hso2,hil2,hA2,hE2⟩)
   obtain ⟨s2,hs2⟩:∃ s2,s2=qe nb2 6 s1:=⟨_,rfl⟩
   rw [<- hs2] at hA2 hE2 hso2 hil2
   obtain ⟨u1,u2,u3,u4⟩:=JR nb2 s1 6
   rw [<- hs2] at u1 u2 u3 u4
   obtain ⟨R2,hR2⟩:∃ R2:Nat->World->Prop,R2=fun n wr=>∃ (Ts:Nat->Nat) (nb3:Nat->Nat->Nat) (b':Vb) (cur':Nat->Nat->List UInt8),zg wr a b' cur' (jX r rs Ts nb3 n s2)/\qa w0 wr (zS a b0 (uX gen bank rs dp)) (zS a b' (jX r rs Ts nb3 n s2)) cur cur' r/\zJ (jX r rs Ts nb3 n s2).its/\(jX r rs Ts nb3 n s2).its.length<=30+8*n/\(jX r rs Ts nb3 n s2).sto.log.length+yQ rs n<=14336/\(jX r rs Ts nb3 n s2).sto.gen=gen:=⟨_,rfl⟩
   have hR20:R2 0 w2:=by
    rw [hR2]
    refine ⟨fun _=>0,fun _ _=>0,b2,cur2,hA2,HEJ.out.trans (by rw [<- HADR.out.2];exact hE2),hso2,?_,?_,?_⟩
    ·rw [HT1.out] at hil2;show s2.its.length<=30+8*0;simpa [uX] using hil2
    ·show s2.sto.log.length+_<=_
     rw [u1,HT3.out]
     show (zp rs).length+_<=_
     have:=HB.out
     simp [yQ];omega
    ·show s2.sto.gen=gen
     rw [u2,HT4.out];rfl
   obtain ⟨HR2,HR20,HS2⟩:=zi3 hR2 hR20 hs2
   clear hA2 hE2 hso2 hil2 u1 u2 u3 u4 hR2 hR20 hs2
   go_loopw [58] (fun u wr=>∃ n:Nat,n<=4/\u=.int .i64 n/\R2 n wr) (fun u _=>(4-jl u).toNat)
   case atStart=>exact ⟨0,Nat.zero_le _,rfl,HR20.out⟩
   case round =>
    obtain ⟨n,hn,rfl,hrn⟩:=hrel
    rw [HR2.out] at hrn
    obtain ⟨Ts,nb3,bn,curn,hAn,hEn,hson,hiln,hlgn,hgen⟩:=hrn
    by_cases hlt:n<4
    ·have q1:(n:Int)<4:=by omega
     have q0:(0:Int)<=(n:Int):=by omega
     have x2:IntKind.i64.wrap ((n:Int)+1)=(n:Int)+1:=by rw [IntKind.wrap_i64];omega
     have hPBn:=hEn.blk HPN.out HPB.out
     have kO:=(cell_of_row wr PB (5+n) _ _ _ hPBn).trans (zjS hlt)
     have kL:=(cell_of_row wr PB (1+n) _ _ _ hPBn).trans (zjR hlt)
     obtain ⟨o,ho⟩:∃ o,o=(lsr rs n).o:=⟨_,rfl⟩
     rw [<- ho] at kO
     obtain ⟨lv,hlv⟩:∃ lv,lv=Value.slice (PA n) (lsr rs n).l.length (pc n):=⟨_,rfl⟩
     rw [<- hlv] at kL
     have HLV:=hid hlv
     clear hlv
     cases o with
     | false =>
      have hls:∀ Ts' nb',jX r rs Ts' nb' (n+1) s2=jX r rs Ts' nb' n s2:=fun Ts' nb'=>by
       simp only [jX,zfc,<- ho,Bool.false_eq_true,if_false]
      have hl0:yQ rs (n+1)<=yQ rs n:=by
       by_cases h1:1<=n
       ·rw [Kf rs h1 (by omega)];omega
       ·have:n=0:=by omega
        subst this
        rw [zbZ];exact Nat.le_refl _
      have hR1:R2 (n+1) wr:=by
       rw [HR2.out]
       refine ⟨Ts,nb3,bn,curn,?_⟩
       rw [hls]
       exact ⟨hAn,hEn,hson,by omega,by omega,hgen⟩
      have HR1:=hid hR1
      clear hls hl0 hR1 ho hAn hEn hson hiln hlgn hgen hPBn
      go_wp2_with fail
      go_roundw
      case rel=>exact ⟨n+1,by omega,by simp,HR1.out⟩
      case measure=>simp [jl];omega
     | true =>
      have h1:1<=n:=by
       rcases Nat.eq_zero_or_pos n with h | h
       ·subst h;simp [lsr] at ho
       ·exact h
      have h3:n<=3:=by omega
      have hrd:zx wr.drew wr.drew.heap.size 3 (PA n) (lsr rs n).l.length (zY (lsr rs n).l) :=
       zx.of_own (zi (HPL.out n h1 h3).1 fun q hq=>hEn.keep.block q ((HPL.out n h1 h3).1.lt q hq).2 ((HPL.out n h1 h3).2 q hq))
      have hls:=zjN hAn.drew h1 h3 (lsr rs n).l (PA n) (pc n) _ hrd (H8.out n) (zis HOK.out n)
      rw [<- HLV.out] at hls
      obtain ⟨HLS,HO,HAn,HEn,HSOn,HILn,HLGn,HGEN⟩:=zi8 hls ho hAn hEn hson hiln hlgn hgen
      have hS:wr.drew.cell? ⟨PB,1+n,none⟩=some lv:=kL
      clear hrd hls ho hAn hEn hson hiln hlgn hgen hPBn kL
      go_upto_region 20 with fail
      refine wp_region_noPanic ?_
      refine PrintLast.start_ (n:=9) (S:=(fun w'=>w'.cell? ⟨PB,1+n,none⟩=some lv)) (ds:=[8]) (bA 9 0) (by kernel_rfl) rfl (by kernel_rfl) hS (fun hHeld=>?_)
      refine pu 0 66 9 1 rfl rfl ?_
      refine pu 1 67 9 3 rfl rfl ?_
      refine pu 2 68 9 7 rfl rfl ?_
      refine pu 3 69 9 15 rfl rfl ?_
      refine pu 4 70 9 31 rfl rfl ?_
      refine pu 5 71 9 63 rfl rfl ?_
      refine pu 6 72 9 127 rfl rfl ?_
      refine tk 7 73 9 255 rfl rfl (Or.inl ⟨by rfl,fun _ h=>(by have k0:=h;go_simp;with_reducible rfl)⟩) ?_
      refine la 8 9 511 (some 74) rfl rfl (fun K hK=>?_)
      show Oper.wp _ ⟨some 74,_,_,_,_,_⟩ _ _ _ _
      refine zq 84 _ _ [.pointer (some ⟨a.S,1,none⟩),.int .i64 n,lv] rfl (by kernel_rfl) (by rfl) (HLS.out.mono ?_)
      rintro e3 w3 ⟨rfl,b3,T3,hA3,hE3⟩
      refine ⟨_,rfl,?_⟩
      refine hK.out _ _ ?_
      clear hK K
      try simp only [pS]
      refine PrintLast.done_ (by kernel_rfl) ?_
      refine NoPanic.normal ?_
      obtain ⟨sn,hsn⟩:∃ sn,sn=jX r rs Ts nb3 n s2:=⟨_,rfl⟩
      rw [<- hsn] at hA3 hE3
      have hsoN:=HSOn.out
      have hilN:=HILn.out
      have hlgN:=HLGn.out
      have hgenN:=HGEN.out
      rw [<- hsn] at hsoN hilN hlgN hgenN
      have h4n:sn.ts.length=4:=by rw [hsn];exact HAn.out.tab.len
      have hlo:uk rs n=if (lsr rs n).l=[] then 0 else ((lsr rs n).l.length+1)*395:=by
       unfold uk;rw [<- HO.out];simp
      have hab:=zbd a b3 curn { sn with ts:=sn.ts.set n (some (T3,⟨(lsr rs n).l,[],(lsr rs n).l.length⟩)) } n T3 ⟨(lsr rs n).l,[],(lsr rs n).l.length⟩ w3 hA3 h1 h3 (List.getElem?_set_self (by omega)) hsoN (show sn.its.length<=800 by omega) (yQ rs (n+1)) (by
       rw [Kf rs h1 h3,hlo] at hlgN
       show sn.sto.log.length+(if (lsr rs n).l=[] then 0 else ((lsr rs n).l.length+1)*395)+yQ rs (n+1)<=14336
       omega)
      have hits:=fun nbs=>zfT (s:={ sn with ts:=sn.ts.set n (some (T3,⟨(lsr rs n).l,[],(lsr rs n).l.length⟩)) }) hsoN r n nbs ⟨(lsr rs n).l,[],(lsr rs n).l.length⟩
      have hls:∀ nbs,jX r rs (zE Ts n T3) (zE nb3 n nbs) (n+1) s2=({ sn with ts:=sn.ts.set n (some (T3,⟨(lsr rs n).l,[],(lsr rs n).l.length⟩)) }:St).abort r n nbs ⟨(lsr rs n).l,[],(lsr rs n).l.length⟩:=fun nbs=>by
       simp only [jX]
       rw [zf,zf,KB (Ts:=Ts) (nbs:=nb3) (fun i hi=>⟨zm _ _ (by omega),zm _ _ (by omega)⟩),<- hsn]
       unfold zfc
       rw [<- HO.out];simp
      obtain ⟨HAB,HLS2,HITS⟩:=zi3 hab hls hits
      rw [HADR.out.2] at hE3
      have hE3':=hE3.of_drew
      rw [hsn] at hE3'
      have HE3:=hid (HEn.out.trans hE3')
      clear hE3'
      obtain ⟨HSN,HILN,HGN⟩:=zi3 hsn hilN hgenN
      clear hA3 hE3 hab hls hits hsn hsoN hilN hlgN hgenN h4n hlo hS hHeld
      go_upto_region 24 with (go_at_call 85;(with_reducible refine HAB.out.mono ?_);rintro e4 w4 ⟨rfl,nbs4,b4,cur4,hlg4,hA4,hE4⟩)
      have hR1:R2 (n+1) w4:=by
       rw [HR2.out]
       refine ⟨zE Ts n T3,zE nb3 n nbs4,b4,cur4,?_⟩
       rw [HLS2.out]
       rw [HADR.out.2] at hA4 hE4 hlg4
       have h9:=HITS.out nbs4
       have h10:=H8.out n
       have h11:=HILN.out
       refine ⟨hA4,HE3.out.trans (by rw [HSN.out] at hE4 ⊢;exact hE4),h9.1,?_,hlg4,h9.2.2.trans HGN.out⟩
       have h12:_<=sn.its.length+(lsr rs n).l.length:=h9.2.1
       omega
      have HR1:=hid hR1
      clear hlg4 hA4 hE4 hR1
      go_wp2_with fail
      go_roundw
      case rel=>exact ⟨n+1,by omega,by simp,HR1.out⟩
      case measure=>simp [jl];omega
    ·have hne4:n=4:=by omega
     subst hne4
     obtain ⟨s3,hs3⟩:∃ s3,s3=jX r rs Ts nb3 4 s2:=⟨_,rfl⟩
     rw [<- hs3] at hAn hEn hson hiln hlgn hgen
     have HPK:=hid (zcW a bn curn s3 wr hAn (by rw [hgen];exact hg))
     have HEn:=hid hEn
     have hfin:yq r gen bank rs dp nbs nb2 Ts nb3=s3:=by
      unfold yq
      rw [hs3,HS2.out,HS1.out,HFR.out,HE.out,HEL.out]
     obtain ⟨HFIN,HSO3,HIL3⟩:=zi3 hfin hson hiln
     clear hs3 hAn hEn hson hiln hlgn hgen hfin
     go_wp2_with (go_at_call 37;(with_reducible refine HPK.out.mono ?_);rintro e5 w5 ⟨rfl,b5,cur5,hA5,hE5⟩)
     go_ret2
     have hE05:=HEn.out.trans (by rw [<- HADR.out.2];exact hE5)
     have hk0:=HKW0.out
     refine ⟨a,b5,cur5,nbs,nb2,Ts,nb3,rfl,HADR.out.1,HADR.out.2,?_⟩
     rw [HFIN.out]
     have hst0:∀ x,zS a b0 (uX gen bank rs dp) x->F x∨w.heap.size<=x:=fun x hx=>by
      rcases hx with hx | hx
      ·exact .inr (HOWN0.out x hx)
      ·rw [HBF.out] at hx;exact HN1.out x hx
     refine ⟨hA5,⟨hE05.out,⟨?_,?_,?_,Nat.le_trans hk0.size hE05.keep.size,fun k hk hn=>?_⟩,fun x hx=>?_⟩,HSO3.out,by have:=HIL3.out;omega⟩
     ·exact hE05.keep.os.trans hk0.os
     ·exact hE05.keep.tape.trans hk0.tape
     ·exact hE05.keep.output.trans hk0.output
     ·refine (hE05.keep.block k (Nat.lt_of_lt_of_le hk hk0.size) (fun hx=>?_)).trans (hk0.block k hk hn)
      rcases hst0 k hx with h | h
      ·exact hn h
      ·omega
     ·rcases hE05.new x hx with h | h
      ·exact hst0 x h
      ·exact .inr (Nat.le_trans hk0.size h)
end Go.Proofs.YtechnoogjhohfaaGreat
namespace Go.Proofs.YtechnoogjhohfaaGreat.Dk
open Go.RowKit Go.Maps Go.Proofs.YtechnoogjhohfaaGreat
theorem iok_of {x:Int} (h:-9223372036854775808<=x/\x<=9223372036854775807):iok x:=WalkArith.wf_i64 h
theorem zbx (a:Nat) (ha:a<9223372036854775808):(BitVec.ofInt 64 (a:Int)).toNat=a:=by
 rw [BitVec.ofInt_natCast,BitVec.toNat_ofNat];exact Nat.mod_eq_of_lt (by omega)
theorem i64_or_nat (a b:Nat) (ha:a<9223372036854775808) (hb:b<9223372036854775808):bits .or .i64 (a:Int) (b:Int)=((a ||| b:Nat):Int):=by
 have hx:a ||| b<2 ^ 63:=Nat.or_lt_two_pow (by omega) (by omega)
 show IntKind.i64.wrap ((BitVec.ofInt 64 (a:Int) ||| BitVec.ofInt 64 (b:Int)).toNat:Int)=_
 rw [BitVec.toNat_or,zbx a ha,zbx b hb,IntKind.wrap_i64]
 omega
theorem zjQ {ep nx:Int} (he:0<=ep/\ep<8796093022208) (hn:0<=nx/\nx<1048575):bits .or .i64 (ep*1048576) (nx+1)=ep*1048576+(nx+1):=by
 obtain ⟨e,rfl⟩:=Int.eq_ofNat_of_zero_le he.1
 obtain ⟨n,rfl⟩:=Int.eq_ofNat_of_zero_le hn.1
 have h:=i64_or_nat (e*1048576) (n+1) (by omega) (by omega)
 have h2:e*1048576 ||| (n+1)=e*1048576+(n+1):=by
  have:=Nat.two_pow_add_eq_or_of_lt (i:=20) (b:=n+1) (by omega) e
  have e3:e*1048576=2 ^ 20*e:=by omega
  rw [e3];exact this.symm
 rw [h2] at h
 have e1:((e*1048576:Nat):Int)=(e:Int)*1048576:=by omega
 have e2:((n+1:Nat):Int)=(n:Int)+1:=by omega
 rw [e1,e2,Int.natCast_add,e1,e2] at h
 exact h
structure DeskAt (w:World) (b m:Nat) (ep nx:Int) (l:List (Int × Int)):Prop where
 blk:w.heap[b]?=some (.cells #[.int .i64 ep,.int .i64 nx,.map (some m)] 139 (0,0))
 map:zU w yP iok yP m l
theorem DeskAt.ne {w:World} {b m:Nat} {ep nx:Int} {l:List (Int × Int)} (h:DeskAt w b m ep nx l):m≠b:=by
 rintro rfl
 obtain ⟨es,clock,hb,_⟩:=h.map
 rw [h.blk] at hb;cases hb
theorem has_any (b m:Nat) (ep nx:Int) (l:List (Int × Int)) (x:Int) (hx:iok x) (w:World) (h:DeskAt w b m ep nx l) :
  Calls Tryz.prog 38 #[.pointer (some ⟨b,0,none⟩),.int .i64 x] w fun e w'=>e=.returned (.bool (qb l x))/\w=w':=by
 have c2:w.cell? ⟨b,2,none⟩=some (.map (some m)):=cell_of_row w b 2 _ _ _ h.blk
 have hm:=h.map
 clear h
 go_enter Tryz.func38,Tryz.ntmps38
 go_wp2_with (first
  | (at_lookup;refine Km _ rfl _ _ 137 3 rfl ut Tryz.underlying137 0 (YV _) rfl hm x rfl hx ?_))
 go_ret
 exact ⟨rfl,rfl⟩
theorem txn_any (b m:Nat) (ep nx:Int) (l:List (Int × Int)) (x:Int) (hx:iok x) (w:World) (h:DeskAt w b m ep nx l) :
  Calls Tryz.prog 71 #[.pointer (some ⟨b,0,none⟩),.int .i64 x] w fun e w'=>e=.returned (.int .i64 ((zF l x).getD 0))/\w=w':=by
 have c2:w.cell? ⟨b,2,none⟩=some (.map (some m)):=cell_of_row w b 2 _ _ _ h.blk
 have hm:=h.map
 clear h
 go_enter Tryz.func71,Tryz.ntmps71
 go_wp2_with (first
  | (at_lookup;refine Jo _ rfl _ _ 137 3 rfl ut Tryz.underlying137 0 (YV _) rfl hm x rfl hx ?_))
 go_ret
 exact ⟨rfl,rfl⟩
theorem set_hit (b m:Nat) (ep nx:Int) (l:List (Int × Int)) (x y:Int) (hx:iok x) (w:World) (h:DeskAt w b m ep nx l) (hh:qb l x=true) :
  Calls Tryz.prog 74 #[.pointer (some ⟨b,0,none⟩),.int .i64 x,.int .i64 y] w fun e w'=>e=.returned (.tuple #[])/\DeskAt w' b m ep nx (aput l x y)/\zn (·=m) w w':=by
 have c2:w.cell? ⟨b,2,none⟩=some (.map (some m)):=cell_of_row w b 2 _ _ _ h.blk
 have hne:=h.ne
 have hm:=h.map
 have hb:=h.blk
 have hH:=hid h
 clear h
 have hc:=has_any b m ep nx l x hx w hH.out
 rw [hh] at hc
 go_enter Tryz.func74,Tryz.ntmps74
 go_wp2_with (first
  | (go_at_call 38;refine hc.mono ?_;rintro e w' ⟨rfl,rfl⟩)
  | (at_mapUpdate;refine yu _ rfl _ _ _ 137 3 rfl ut Tryz.underlying137 rfl hm x rfl hx y rfl ?_;intro w1 h1 t1))
 go_end0
 refine ⟨rfl,⟨?_,h1⟩,(zn.refl _ _).turned t1 (.inr rfl)⟩
 have:=((zn.refl (·=m) w).turned t1 (.inr rfl)).block b (Array.getElem?_eq_some_iff.1 hb).1 (fun e=>hne e.symm)
 exact this.trans hb
theorem shut_free (b m:Nat) (ep nx:Int) (l:List (Int × Int)) (x:Int) (hx:iok x) (w:World) (h:DeskAt w b m ep nx l) (hh:qb l x=true) (h0:(zF l x).getD 0=0) :
  Calls Tryz.prog 72 #[.pointer (some ⟨b,0,none⟩),.int .i64 x] w fun e w'=>e=.returned (.bool true)/\DeskAt w' b m ep nx (adel l x)/\zn (·=m) w w':=by
 have c2:w.cell? ⟨b,2,none⟩=some (.map (some m)):=cell_of_row w b 2 _ _ _ h.blk
 have hc:=has_any b m ep nx l x hx w h
 rw [hh] at hc
 have hm:=h.map
 have hb:=h.blk
 have hne:=h.ne
 have H0:=hid h0
 clear h h0 hh
 go_enter Tryz.func72,Tryz.ntmps72
 go_wp2_with (first
  | (go_at_call 38;refine hc.mono ?_;rintro e w' ⟨rfl,rfl⟩)
  | (at_lookup;refine Jo _ rfl _ _ 137 3 rfl ut Tryz.underlying137 0 (YV _) rfl hm x rfl hx ?_;rw [H0.out];simp only [yP])
  | (at_delete;refine vt _ rfl _ _ 137 3 rfl ut Tryz.underlying137 rfl hm x rfl hx ?_;intro w1 h1 t1))
 go_ret
 refine ⟨rfl,⟨?_,h1⟩,(zn.refl _ _).turned t1 (.inr rfl)⟩
 have:=((zn.refl (·=m) w).turned t1 (.inr rfl)).block b (Array.getElem?_eq_some_iff.1 hb).1 (fun e=>hne e.symm)
 exact this.trans hb
theorem new_any (ep:Int) (w:World) :
  Calls Tryz.prog 44 #[.int .i64 ep] w fun e w'=>e=.returned (.pointer (some ⟨w.heap.size+1,0,none⟩))/\DeskAt w' (w.heap.size+1) w.heap.size ep 0 []/\Below w.heap.size w w'/\w'.heap.size=w.heap.size+2:=by
 have hmm:=@run_makeMap Tryz.prog
 go_enter Tryz.func44,Tryz.ntmps44
 go_wp2
 go_ret
 exact ⟨rfl,⟨by simpa using heap_alloc_new (w.alloc (.map #[] 0)) _,(zU.made w _ _ _).alloc _⟩,((Below.refl _ _).alloc (Nat.le_refl _) _).alloc (by simp) _,by simp⟩
theorem open_full (b m:Nat) (ep nx:Int) (l:List (Int × Int)) (w:World) (h:DeskAt w b m ep nx l) (h6:l.length=6) :
  Calls Tryz.prog 34 #[.pointer (some ⟨b,0,none⟩)] w fun e w'=>e=.returned (.int .i64 0)/\w=w':=by
 have c2:w.cell? ⟨b,2,none⟩=some (.map (some m)):=cell_of_row w b 2 _ _ _ h.blk
 have hm:=h.map
 have H6:=hid h6
 clear h h6
 go_enter Tryz.func34,Tryz.ntmps34
 go_wp2_with (first
  | (at_len;refine QE _ rfl _ 137 3 rfl Tryz.underlying137 rfl hm ?_;rw [H6.out]))
 go_ret
 exact ⟨rfl,rfl⟩
theorem open_more (b m:Nat) (ep nx:Int) (l:List (Int × Int)) (w:World) (h:DeskAt w b m ep nx l) (h6:l.length<6) (he:0<=ep/\ep<8796093022208) (hn:0<=nx/\nx<1048575) :
  Calls Tryz.prog 34 #[.pointer (some ⟨b,0,none⟩)] w fun e w'=>e=.returned (.int .i64 (ep*1048576+(nx+1)))/\DeskAt w' b m ep (nx+1) (aput l (ep*1048576+(nx+1)) 0)/\zn (fun i=>i=b∨i=m) w w':=by
 have c0:w.cell? ⟨b,0,none⟩=some (.int .i64 ep):=cell_of_row w b 0 _ _ _ h.blk
 have c1:w.cell? ⟨b,1,none⟩=some (.int .i64 nx):=cell_of_row w b 1 _ _ _ h.blk
 have c2:w.cell? ⟨b,2,none⟩=some (.map (some m)):=cell_of_row w b 2 _ _ _ h.blk
 have f1:w.frozen? ⟨b,1,none⟩=false:=by simp [World.frozen?,h.blk]
 have hm:=h.map
 have hl:((l.length:Int) == 6)=false:=by simp;omega
 have hne:=h.ne
 have hb:=h.blk
 have hm2:∀ n,zU ((w.setCell ⟨b,1,none⟩ (.int .i64 (nx+1))).drewN n) yP iok yP m l:=fun n=>hm.setCell (p:=⟨b,1,none⟩) hne _
 have hor:bits .or .i64 (ep*1048576) (nx+1)=ep*1048576+(nx+1):=zjQ he hn
 clear h h6
 go_enter Tryz.func34,Tryz.ntmps34
 go_wp2_with (first
  | (at_len;refine QE _ rfl _ 137 3 rfl Tryz.underlying137 rfl hm ?_))
 go_quiet (fail)
 go_wp2_with (first
  | (at_mapUpdate;refine yu _ rfl _ _ _ 137 3 rfl ut Tryz.underlying137 rfl (hm2 _) (ep*1048576+(nx+1)) rfl (iok_of (by omega)) 0 rfl ?_;intro w1 h1 t1))
 go_ret
 have hT:=(((zn.refl (fun i=>i=b∨i=m) w).setCell (p:=⟨b,1,none⟩) (.inr (.inl rfl)) (.int .i64 (nx+1))).drewN nq)
 refine ⟨rfl,⟨?_,h1⟩,hT.turned t1 (.inr (.inr rfl))⟩
 have h2:=((zn.refl (·=m) _).turned t1 (.inr rfl)).block b (by simpa [World.setCell] using (Array.getElem?_eq_some_iff.1 hb).1) (fun e=>hne e.symm)
 rw [h2]
 simp [World.setCell,Array.getElem?_modify,hb]
theorem DeskAt.below {B:Nat} {w w':World} {b m:Nat} {ep nx:Int} {l:List (Int × Int)} (h:DeskAt w b m ep nx l) (k:Below B w w') (hb:b<B) (hm:m<B):DeskAt w' b m ep nx l :=
 ⟨(k.block b hb).trans h.blk,h.map.below k hm⟩
end Go.Proofs.YtechnoogjhohfaaGreat.Dk
