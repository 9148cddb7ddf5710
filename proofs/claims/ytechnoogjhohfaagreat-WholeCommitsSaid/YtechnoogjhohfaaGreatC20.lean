/-
  Joined by a program from texts written one by one: part 20 of the walk through the program and of the law behind it.
-/
import Derived.BigQuiet
import Derived.BigRegion
import Derived.Deep.AppendLies
import Derived.Deep.DeepCutAuto
import Derived.Deep.QuietTactic
import Derived.Deep.RegionHeld3
import Derived.Laws.BytesArg
import Derived.Laws.CopyOwn
import Derived.OwnWalk
import Derived.ProofKit
import Derived.Test.YtechnoogjhohfaaGreatRows
import Derived.WalkKit
import Derived.WalkSmall
set_option maxRecDepth 100000
set_option maxHeartbeats 6400000
set_option linter.unusedVariables false
set_option linter.unusedSimpArgs false
namespace Go.Proofs.YtechnoogjhohfaaGreat.Rs
open Go.RowKit
theorem hid {p:Prop} (h:p):Hid p:=h
theorem zi2 {a b:Prop} (A:a) (B:b):Hid a/\Hid b:=⟨A,B⟩
theorem zi3 {a b c:Prop} (A:a) (B:b) (C:c):Hid a/\Hid b/\Hid c:=⟨A,B,C⟩
theorem zi4 {a b c d:Prop} (A:a) (B:b) (C:c) (D:d):Hid a/\Hid b/\Hid c/\Hid d:=⟨A,B,C,D⟩
theorem zi5 {a b c d e:Prop} (A:a) (B:b) (C:c) (D:d) (E:e):Hid a/\Hid b/\Hid c/\Hid d/\Hid e:=⟨A,B,C,D,E⟩
theorem zi6 {a b c d e f:Prop} (A:a) (B:b) (C:c) (D:d) (E:e) (F:f):Hid a/\Hid b/\Hid c/\Hid d/\Hid e/\Hid f:=⟨A,B,C,D,E,F⟩
theorem zi7 {a b c d e f g:Prop} (A:a) (B:b) (C:c) (D:d) (E:e) (F:f) (G:g):Hid a/\Hid b/\Hid c/\Hid d/\Hid e/\Hid f/\Hid g:=⟨A,B,C,D,E,F,G⟩
theorem zi8 {a b c d e f g h:Prop} (A:a) (B:b) (C:c) (D:d) (E:e) (F:f) (G:g) (H:h):Hid a/\Hid b/\Hid c/\Hid d/\Hid e/\Hid f/\Hid g/\Hid h:=⟨A,B,C,D,E,F,G,H⟩
theorem zi9 {a b c d e f g h i:Prop} (A:a) (B:b) (C:c) (D:d) (E:e) (F:f) (G:g) (H:h) (I:i):Hid a/\Hid b/\Hid c/\Hid d/\Hid e/\Hid f/\Hid g/\Hid h/\Hid i:=⟨A,B,C,D,E,F,G,H,I⟩
def iok (x:Int):Prop:=(Lit.int .i64 x).wf=true
end Go.Proofs.YtechnoogjhohfaaGreat.Rs
namespace Go.Proofs.YtechnoogjhohfaaGreat.Rs
open Go.RowKit
structure Ent where
 pl:Int
 kd:Int
 tx:Int
 pg:Int
 sl:Int
 bf:ByteArray
 af:ByteArray
 im:ByteArray
 dv:Value
 dl:List Int
def Ent.cells (e:Ent):List Value:=[.int .u64 e.pl,.int .i64 e.kd,.int .i64 e.tx,.int .i64 e.pg,.int .i64 e.sl,.string e.bf,.string e.af,.string e.im,e.dv]
def Ent.val (e:Ent):Value:=.agg #[.int .u64 e.pl,.int .i64 e.kd,.int .i64 e.tx,.int .i64 e.pg,.int .i64 e.sl,.string e.bf,.string e.af,.string e.im,e.dv]
def DirtyAt (w:World) (e:Ent):Prop :=
 (e.dv=.slice none 0 0/\e.dl=[])∨∃ g off cap cs t,e.dv=.slice (some ⟨g,off,none⟩) e.dl.length cap/\t≠144/\t≠167/\t≠150/\w.heap[g]?=some (.cells cs t (0,0))/\e.dl.length<=maxLen/\∀ i,i<e.dl.length->cs[off+i]?=some (.int .u64 (e.dl.getD i 0))
theorem DirtyAt.below {w w':World} {e:Ent} (h:DirtyAt w e) (b:Below w.heap.size w w'):DirtyAt w' e:=by
 rcases h with h | ⟨g,off,cap,cs,t,h1,h0,h2,h3,h4,h5⟩
 ·exact .inl h
 ·exact .inr ⟨g,off,cap,cs,t,h1,h0,h2,h3,(b.block g (Array.getElem?_eq_some_iff.1 h4).1).trans h4,h5⟩
def leastOf (a:Int) (l:List Int):Int:=l.foldl (fun a d=>if 0<d then (if d<a then d else a) else a) a
theorem zcM (a:Int) (l:List Int) (i:Nat) (hi:i<l.length):leastOf a (l.take (i+1))=if 0<l.getD i 0 then (if l.getD i 0<leastOf a (l.take i) then l.getD i 0 else leastOf a (l.take i)) else leastOf a (l.take i):=by
 have e:l.take (i+1)=l.take i++[l.getD i 0]:=by
  rw [List.take_add_one,List.getD,List.getElem?_eq_getElem hi];rfl
 unfold leastOf
 rw [e,List.foldl_append];rfl
theorem zhj (e:Ent) (w:World) (hd:DirtyAt w e):Calls Tryz.prog 120 #[e.val] w fun r w'=>r=.returned (.int .u64 (leastOf e.pl e.dl))/\Below w.heap.size w w':=by
 obtain ⟨pl,kd,tx,pg,sl,bf,af,im,dv,dl⟩:=e
 unfold Ent.val
 rcases hd with ⟨h1,h2⟩ | ⟨g,off,cap,cs,t,h1,h0,h2,h3,h4,h5,h6⟩
 ·simp only at h1 h2
  subst h1 h2
  simp only
  go_enter Tryz.func120,Tryz.ntmps120
  go_wp2
  refine wp_loop_rounds 1 ?_
  rw [rounds_succ]
  go_wp2
  go_ret
  exact ⟨rfl,(Below.refl _ _).alloc (Nat.le_refl _) _⟩
 ·simp only at h1 h5 h6
  subst h1
  simp only
  have hlt:=(Array.getElem?_eq_some_iff.1 h4).1
  have H6:=hid h6
  clear h6
  go_enter Tryz.func120,Tryz.ntmps120
  go_wp2
  generalize hW:w.alloc _=W
  have hb:Below w.heap.size w W:=by rw [<- hW];exact (Below.refl _ _).alloc (Nat.le_refl _) _
  have h4':W.heap[g]?=some (.cells cs t (0,0)):=(hb.block g hlt).trans h4
  clear hW h4
  obtain ⟨n,hn⟩:∃ n,n=dl.length:=⟨_,rfl⟩
  have h5':n<=9223372036854775807:=by rw [hn];exact h5
  have HN:=hid hn
  rw [<- hn] at H6 ⊢
  clear hn h5
  go_loopw [3,12] (fun u v wr=>∃ k:Nat,k<=n/\u=.int .u64 (leastOf pl (dl.take k))/\v=.int .i64 k/\wr=W) (fun _ v _=>((n:Int)-intOf v).toNat)
  case atStart=>exact ⟨0,by omega,rfl,rfl,rfl⟩
  case round =>
   obtain ⟨i,hi,rfl,rfl,rfl⟩:=hrel
   by_cases hlt2:i<n
   ·obtain ⟨d,hdd⟩:∃ d,d=dl.getD i 0:=⟨_,rfl⟩
    have hc:wr.cell? ⟨g,off+i,none⟩=some (.int .u64 d):=by
     rw [cell_of_row wr g (off+i) _ _ _ h4',H6.out i hlt2,hdd]
    have hls:=zcM pl dl i (by rw [<- HN.out];exact hlt2)
    rw [<- hdd] at hls
    clear hdd
    by_cases hp:0<d
    ·have hdp:decide (0<d)=true:=by simpa using hp
     rw [if_pos hp] at hls
     have HL:=hid hls
     clear hls
     go_wp2
     go_roundw
     case rel=>exact ⟨i+1,by omega,by rw [HL.out],by go_num,by trivial⟩
     case measure=>simp [intOf];omega
    ·have hdp:decide (0<d)=false:=by simpa using hp
     rw [if_neg hp] at hls
     have HL:=hid hls
     clear hls
     go_wp2
     go_roundw
     case rel=>exact ⟨i+1,by omega,by rw [HL.out],by go_num,by trivial⟩
     case measure=>simp [intOf];omega
   ·obtain rfl:i=n:=by omega
    go_wp2
    go_ret
    have:dl.take i=dl:=by rw [HN.out,List.take_length]
    rw [this]
    exact ⟨rfl,hb⟩
def againB (fr:Int) (e:Ent) (mark:Int) (torn:Bool):Bool :=
 (decide (e.kd=3) || decide (e.kd=4)) && decide (fr<=e.pl) && (if torn=true then !e.im.toList.isEmpty else decide (mark<e.pl))
theorem again_any (fr:Int) (v0 v1 v2 v3:Value) (o0 o1 o2 o3:Bool) (e:Ent) (mark:Int) (torn:Bool) (w:World) :
  Calls Tryz.prog 122 #[.agg #[.int .u64 fr,v0,v1,v2,v3,.bool o0,.bool o1,.bool o2,.bool o3],e.val,.int .u64 mark,.bool torn] w fun r w'=>r=.returned (.bool (againB fr e mark torn))/\Below w.heap.size w w':=by
 obtain ⟨pl,kd,tx,pg,sl,bf,af,im,dv,dl⟩:=e
 obtain ⟨B,hB⟩:∃ B,againB fr ⟨pl,kd,tx,pg,sl,bf,af,im,dv,dl⟩ mark torn=B:=⟨_,rfl⟩
 rw [hB]
 have HB:=hid hB
 clear hB
 unfold Ent.val
 simp only
 go_enter Tryz.func122,Tryz.ntmps122
 go_wp2
 all_goals
  go_ret
  refine ⟨?_,((Below.refl _ _).alloc (Nat.le_refl _) _).alloc (by simp) _⟩
  have hb:=HB.out
  unfold againB at hb
  rw [<- hb]
  clear hb HB
  congr 2
  first
   | (simp;omega)
   | (simp [*];done)
   | (simp [*];omega)
end Go.Proofs.YtechnoogjhohfaaGreat.Rs
namespace Go.Proofs.YtechnoogjhohfaaGreat.Rs
open Go.RowKit
theorem B_alloc {a w:World} (h:Below a.heap.size a w) (o:Obj):Below a.heap.size a (w.alloc o):=h.alloc h.size o
theorem B_set {a w:World} (h:Below a.heap.size a w) {p:Addr} (hp:a.heap.size<=p.block) (u:Value):Below a.heap.size a (w.setCell p u):=h.setCell hp u
theorem B_call {a w w':World} (h:Below a.heap.size a w) (k:Below w.heap.size w w'):Below a.heap.size a w':=h.trans (k.mono h.size)
theorem qB {w:World} {o:Obj} {p:Addr} {v:Value} (h:w.cell? p=some v):(w.alloc o).cell? p=some v:=by
 rw [World.cell?_alloc_lt _ _ _ (World.block_lt_of_cell? _ _ h)];exact h
theorem GG {w w':World} {k:Nat} {o:Obj} (b:Below w.heap.size w w') (h:w.heap[k]?=some o):w'.heap[k]?=some o:=(b.block k (Array.getElem?_eq_some_iff.1 h).1).trans h
theorem yV {w w':World} {p:Addr} {v:Value} (b:Below w.heap.size w w') (h:w.cell? p=some v):w'.cell? p=some v:=(b.cell (World.block_lt_of_cell? _ _ h)).trans h
theorem jq {w:World} {b o b' o':Nat} {u v:Value} (hq:b≠b') (h:w.cell? ⟨b',o',none⟩=some v):(w.setCell ⟨b,o,none⟩ u).cell? ⟨b',o',none⟩=some v:=(World.cell?_setCell_far w _ _ u hq).trans h
theorem zgb {w:World} {k:Nat} {o o':Obj} (h:w.heap[k]?=some o):(w.alloc o').heap[k]?=some o:=(Below.heap_alloc w o' k (Array.getElem?_eq_some_iff.1 h).1).trans h
theorem ZN {w:World} {k:Nat} {o o':Obj} (h:w.heap[k]?=some o):(w.alloc o').drew.heap[k]?=some o:=zgb h
theorem DirtyAt.slice {w:World} {e:Ent} (h:DirtyAt w e):∃ A n c,e.dv=.slice A n c:=by
 rcases h with h | ⟨_,_,_,_,_,h,_⟩
 ·exact ⟨_,_,_,h.1⟩
 ·exact ⟨_,_,_,h⟩
def rowOf (es:List Ent):List Value:=es.flatMap Ent.cells
theorem zkJ (w:World) (o1 o2:Obj):((w.alloc o1).alloc o2).heap[w.heap.size+1]?=some o2:=by
 have:=heap_alloc_new (w.alloc o1) o2
 rwa [World.size_alloc] at this
theorem zgL {w w':World} {B:Nat} {e:TypeId} {k:Nat} {v:Value} {n:Nat} {xs:List Value} (h:w.ownsRow B e k v n xs) (hb:Below w.heap.size w w'):w'.ownsRow B e k v n xs :=
 h.kept (row:=none) ⟨hb.os,hb.tape,hb.output,hb.size,fun j hj _=>hb.block j hj⟩ (by cases hv:v.ownBlock<;>simp)
end Go.Proofs.YtechnoogjhohfaaGreat.Rs
namespace Go.Proofs.YtechnoogjhohfaaGreat.Rs
open Go.RowKit
structure Chg where
 pg:Int
 sl:Int
 bf:ByteArray
deriving DecidableEq
def Chg.cells (c:Chg):List Value:=[.int .i64 c.pg,.int .i64 c.sl,.string c.bf]
def Ent.chg (e:Ent):Chg:=⟨e.pg,e.sl,e.bf⟩
structure One where
 l:List Chg
 o:Bool
def One.step (s:One) (e:Ent):One :=
 if e.kd=2∨e.kd=3 then ⟨s.l++[e.chg],true⟩ else if e.kd=4 then ⟨s.l.dropLast,s.o⟩ else if e.kd=5∨e.kd=6 then ⟨[],false⟩ else s
def slotOf (t:Int):Nat:=if t<1∨3<t then 0 else t.toNat
structure Pln where
 fr:Int
 s:Nat->One
def Pln.step (p:Pln) (e:Ent):Pln :=
 if e.kd=7 then ⟨leastOf e.pl e.dl,p.s⟩ else ⟨p.fr,fun n=>if n=slotOf e.tx then (p.s n).step e else p.s n⟩
def zfi:Pln:=⟨0,fun _=>⟨[],false⟩⟩
def planOf (es:List Ent):Pln:=es.foldl Pln.step zfi
end Go.Proofs.YtechnoogjhohfaaGreat.Rs
namespace Go.Proofs.YtechnoogjhohfaaGreat.Rs
open Go.RowKit
def chgs (l:List Chg):List Value:=l.flatMap Chg.cells
def planCells (p:Pln) (V:Nat->Value):Array Value:=#[.int .u64 p.fr,V 0,V 1,V 2,V 3,.bool (p.s 0).o,.bool (p.s 1).o,.bool (p.s 2).o,.bool (p.s 3).o]
structure qA (B:Nat) (w:World) (g:Nat) (V:Nat->Value) (p:Pln):Prop where
 blk:w.heap[g]?=some (.cells (planCells p V) 164 (0,0))
 own:∀ i,i<4->w.ownsRow B 150 3 (V i) (p.s i).l.length (chgs (p.s i).l)
 apart:∀ i j,i<4->j<4->i≠j->(V i).ownBlock=none∨(V i).ownBlock≠(V j).ownBlock
theorem own_ne {w:World} {B:Nat} {v:Value} {n:Nat} {xs:List Value} {e:TypeId} {s:Nat} (h:w.ownsRow B e s v n xs) {g:Nat} {cs:Array Value} {t:TypeId} (hg:w.heap[g]?=some (.cells cs t (0,0))) (ht:t≠e):v.ownBlock≠some g:=by
 intro hb
 rcases h.2 with ⟨rfl,_⟩ | ⟨g',cap,cur,rfl,_,hh,_⟩
 ·simp [Value.ownBlock] at hb
 ·have:g'=g:=by simpa [Value.ownBlock] using hb
  subst this
  rw [hg] at hh
  injection hh with hh
  injection hh with _ hh
  exact ht hh
theorem Gf {w:World} {B:Nat} {v:Value} {n:Nat} {xs:List Value} {e:TypeId} {s:Nat} (h:w.ownsRow B e s v n xs) {g:Nat} {cs:Array Value} {t:TypeId} (hg:w.heap[g]?=some (.cells cs t (0,0))) (ht:t≠e) (o:Nat) (u:Value):(w.setCell ⟨g,o,none⟩ u).ownsRow B e s v n xs :=
 h.kept (row:=some g) ⟨rfl,rfl,rfl,by simp,fun k _ hk=>heap_setCell_other w ⟨g,o,none⟩ k u (fun e=>hk (by simp [e]))⟩ (.inr (own_ne h hg ht))
theorem own_slice {w:World} {B:Nat} {v:Value} {n:Nat} {xs:List Value} {e:TypeId} {s:Nat} (h:w.ownsRow B e s v n xs):∃ A c,v=.slice A n c:=by
 rcases h.2 with ⟨rfl,rfl⟩ | ⟨g',cap,cur,rfl,_⟩
 ·exact ⟨_,_,rfl⟩
 ·exact ⟨_,_,rfl⟩
section
variable {B:Nat} {w w':World} {g:Nat} {V:Nat->Value} {p:Pln}
theorem qA.lt (h:qA B w g V p):g<w.heap.size:=(Array.getElem?_eq_some_iff.1 h.blk).1
theorem qA.ne (h:qA B w g V p) {i:Nat} (hi:i<4):(V i).ownBlock≠some g:=own_ne (h.own i hi) h.blk (by decide)
theorem qA.below (h:qA B w g V p) (b:Below w.heap.size w w'):qA B w' g V p :=
 ⟨GG b h.blk,fun i hi=>zgL (h.own i hi) b,h.apart⟩
theorem qA.cell (h:qA B w g V p) {i:Nat} (hi:i<4):w.cell? ⟨g,1+i,none⟩=some (V i):=by
 rw [cell_of_row w g _ _ _ _ h.blk]
 match i,hi with
 | 0,_=>rfl
 | 1,_=>rfl
 | 2,_=>rfl
 | 3,_=>rfl
theorem qA.opn (h:qA B w g V p) {i:Nat} (hi:i<4):w.cell? ⟨g,5+i,none⟩=some (.bool (p.s i).o):=by
 rw [cell_of_row w g _ _ _ _ h.blk]
 match i,hi with
 | 0,_=>rfl
 | 1,_=>rfl
 | 2,_=>rfl
 | 3,_=>rfl
theorem qA.from (h:qA B w g V p):w.cell? ⟨g,0,none⟩=some (.int .u64 p.fr):=cell_of_row w g _ _ _ _ h.blk
theorem qA.frozen (h:qA B w g V p) (i:Nat):w.frozen? ⟨g,i,none⟩=false:=frozen_of_row w g i _ _ h.blk
theorem qA.congr {V':Nat->Value} {p':Pln} (h:qA B w g V p) (hV:∀ i,i<4->V' i=V i) (hf:p'.fr=p.fr) (hp:∀ i,i<4->p'.s i=p.s i):qA B w g V' p':=by
 refine ⟨?_,?_,?_⟩
 ·rw [h.blk];unfold planCells
  rw [hf,hV 0 (by omega),hV 1 (by omega),hV 2 (by omega),hV 3 (by omega),hp 0 (by omega),hp 1 (by omega),hp 2 (by omega),hp 3 (by omega)]
 ·intro i hi;rw [hV i hi,hp i hi];exact h.own i hi
 ·intro i j hi hj hij;rw [hV i hi,hV j hj];exact h.apart i j hi hj hij
theorem qA.putL (h:qA B w g V p) {k:Nat} (hk:k<4) {v:Value} {l:List Chg} (hgr:w.grownBy w' (V k).ownBlock) (hv:w'.ownsRow B 150 3 v l.length (chgs l))
  (hap:v.ownBlock=none∨v.ownBlock=(V k).ownBlock∨∃ gg,v.ownBlock=some gg/\w.heap.size<=gg) :
  qA B (w'.setCell ⟨g,1+k,none⟩ v) g (fun i=>if i=k then v else V i) ⟨p.fr,fun i=>if i=k then ⟨l,(p.s k).o⟩ else p.s i⟩:=by
 have hb:w'.heap[g]?=some (.cells (planCells p V) 164 (0,0)):=(hgr.block g h.lt (Ne.symm (h.ne hk))).trans h.blk
 have hvi:∀ i,i<4->i≠k->v.ownBlock=none∨v.ownBlock≠(V i).ownBlock:=by
  intro i hi hne
  rcases hap with hap | hap | ⟨gg,hap,hge⟩
  ·exact .inl hap
  ·rw [hap]
   exact h.apart k i hk hi (Ne.symm hne)
  ·right
   rw [hap]
   intro e
   have:=(h.own i hi).lt gg e.symm
   omega
 refine ⟨?_,?_,?_⟩
 ·rw [heap_setCell_same w' g _ _ _ _ hb]
  match k,hk with
  | 0,_=>rfl
  | 1,_=>rfl
  | 2,_=>rfl
  | 3,_=>rfl
 ·intro i hi
  try dsimp only
  by_cases hik:i=k
  ·rw [if_pos hik,if_pos hik]
   exact Gf hv hb (by decide) _ _
  ·rw [if_neg hik,if_neg hik]
   refine Gf ((h.own i hi).kept hgr ?_) hb (by decide) _ _
   exact h.apart i k hi hk hik
 ·intro i j hi hj hij
  try dsimp only
  by_cases hik:i=k
  ·have hjk:j≠k:=fun e=>hij (hik.trans e.symm)
   rw [if_pos hik,if_neg hjk]
   exact hvi j hj hjk
  ·rw [if_neg hik]
   by_cases hjk:j=k
   ·rw [if_pos hjk]
    rcases hvi i hi hik with hn | hn
    ·rw [hn]
     cases hVi:(V i).ownBlock with
     | none=>exact .inl rfl
     | some x=>exact .inr (by simp)
    ·exact .inr (Ne.symm hn)
   ·rw [if_neg hjk]
    exact h.apart i j hi hj hij
theorem qA.putO (h:qA B w g V p) {k:Nat} (hk:k<4) (o:Bool) :
  qA B (w.setCell ⟨g,5+k,none⟩ (.bool o)) g V ⟨p.fr,fun i=>if i=k then ⟨(p.s k).l,o⟩ else p.s i⟩:=by
 refine ⟨?_,?_,h.apart⟩
 ·rw [heap_setCell_same w g _ _ _ _ h.blk]
  match k,hk with
  | 0,_=>rfl
  | 1,_=>rfl
  | 2,_=>rfl
  | 3,_=>rfl
 ·intro i hi
  have:=Gf (h.own i hi) h.blk (by decide) (5+k) (.bool o)
  by_cases hik:i=k
  ·subst hik;simpa using this
  ·simpa [if_neg hik] using this
theorem qA.putF (h:qA B w g V p) (x:Int):qA B (w.setCell ⟨g,0,none⟩ (.int .u64 x)) g V ⟨x,p.s⟩:=by
 refine ⟨?_,fun i hi=>Gf (h.own i hi) h.blk (by decide) _ _,h.apart⟩
 rw [heap_setCell_same w g _ _ _ _ h.blk]
 rfl
theorem qA.put (h:qA B w g V p) {k:Nat} (hk:k<4) {v:Value} {l:List Chg} (o:Bool) (hgr:w.grownBy w' (V k).ownBlock) (hv:w'.ownsRow B 150 3 v l.length (chgs l))
  (hap:v.ownBlock=none∨v.ownBlock=(V k).ownBlock∨∃ gg,v.ownBlock=some gg/\w.heap.size<=gg) :
  qA B ((w'.setCell ⟨g,1+k,none⟩ v).setCell ⟨g,5+k,none⟩ (.bool o)) g (fun i=>if i=k then v else V i) ⟨p.fr,fun i=>if i=k then ⟨l,o⟩ else p.s i⟩:=by
 refine ((h.putL hk hgr hv hap).putO hk o).congr (fun _ _=>rfl) rfl fun i _=>?_
 by_cases hik:i=k<;>simp [hik]
end
theorem planOf_snoc (es:List Ent) (e:Ent):planOf (es++[e])=(planOf es).step e:=by
 unfold planOf;rw [List.foldl_append];rfl
theorem zdU (es:List Ent) (i:Nat) (hi:i<es.length):planOf (es.take (i+1))=(planOf (es.take i)).step es[i]:=by
 rw [<- planOf_snoc,List.take_add_one,List.getElem?_eq_getElem hi];rfl
theorem One.step_len (s:One) (e:Ent):(s.step e).l.length<=s.l.length+1:=by
 unfold One.step
 split
 ·simp
 ·split
  ·simp;omega
  ·split
   ·simp
   ·omega
theorem zfh (es:List Ent) (k:Nat):((planOf es).s k).l.length<=es.length:=by
 obtain ⟨n,hn⟩:∃ n,n=es.length:=⟨_,rfl⟩
 induction n generalizing es with
 | zero =>
  obtain rfl:es=[]:=List.eq_nil_of_length_eq_zero hn.symm
  simp [planOf,zfi]
 | succ n ih =>
  have hd:=List.dropLast_concat_getLast (l:=es) (by intro h;subst h;simp at hn)
  rw [<- hd,planOf_snoc]
  have:=ih es.dropLast (by simp;omega)
  have hl:(es.dropLast++[es.getLast (by intro h;subst h;simp at hn)]).length=es.dropLast.length+1:=by simp
  rw [hl]
  unfold Pln.step
  split
  ·dsimp only;omega
  ·dsimp only
   split
   ·exact Nat.le_trans (One.step_len _ _) (by omega)
   ·omega
def zck (w:World) (b o:Nat) (e:Ent):Prop :=
 w.cell? ⟨b,o,none⟩=some (.int .u64 e.pl)/\w.cell? ⟨b,o+1,none⟩=some (.int .i64 e.kd)/\w.cell? ⟨b,o+2,none⟩=some (.int .i64 e.tx)/\w.cell? ⟨b,o+3,none⟩=some (.int .i64 e.pg)/\w.cell? ⟨b,o+4,none⟩=some (.int .i64 e.sl) /\
 w.cell? ⟨b,o+5,none⟩=some (.string e.bf)/\w.cell? ⟨b,o+6,none⟩=some (.string e.af)/\w.cell? ⟨b,o+7,none⟩=some (.string e.im)/\w.cell? ⟨b,o+8,none⟩=some e.dv
theorem zck.below {w w':World} {b o:Nat} {e:Ent} (h:zck w b o e) (k:Below w.heap.size w w'):zck w' b o e:=by
 obtain ⟨h0,h1,h2,h3,h4,h5,h6,h7,h8⟩:=h
 exact ⟨yV k h0,yV k h1,yV k h2,yV k h3,yV k h4,yV k h5,yV k h6,yV k h7,yV k h8⟩
def RowsAt (w:World) (A:Option Addr) (es:List Ent):Prop:=∀ i (h:i<es.length),∃ b off,A=some ⟨b,off,none⟩/\zck w b (off+i*9) es[i]/\DirtyAt w es[i]
theorem ziO (es:List Ent):∀ (i:Nat) (h:i<es.length) (j:Nat),j<9->(rowOf es)[i*9+j]?=(es[i]).cells[j]?:=by
 induction es with
 | nil=>intro i h;simp at h
 | cons e es ih =>
  intro i h j hj
  show (Ent.cells e++rowOf es)[_]?=_
  cases i with
  | zero=>rw [List.getElem?_append_left (by simp [Ent.cells];omega)];simp
  | succ i =>
   rw [List.getElem?_append_right (by simp [Ent.cells];omega)]
   have:=ih i (by simpa using h) j hj
   rw [show (i+1)*9+j-(Ent.cells e).length=i*9+j by simp [Ent.cells];omega,this]
   rfl
theorem RowsAt.of_own {w:World} {B n c:Nat} {A:Option Addr} {es:List Ent} (h:w.ownsRow B 167 9 (.slice A n c) n (rowOf es)) (hn:es.length=n) (hd:∀ e∈es,DirtyAt w e):RowsAt w A es:=by
 subst hn
 intro i hi
 rcases h.2 with ⟨_,h0⟩ | ⟨g,cap,cur,hv,_⟩
 ·omega
 ·injection hv with hA _ hc
  subst hA hc
  have:=fun j (hj:j<9)=>(h.cellAt (i*9+j) (by omega)).trans (ziO es i hi j hj)
  refine ⟨g,0,rfl,?_,hd _ (List.getElem_mem hi)⟩
  rw [Nat.zero_add]
  exact ⟨this 0 (by omega),this 1 (by omega),this 2 (by omega),this 3 (by omega),this 4 (by omega),this 5 (by omega),this 6 (by omega),this 7 (by omega),this 8 (by omega)⟩
end Go.Proofs.YtechnoogjhohfaaGreat.Rs
namespace Go.Proofs.YtechnoogjhohfaaGreat.Rs
open Go.RowKit
theorem zky:(Tryz.prog.info? 150).map (fun i=>(i.zero,i.size,i.bytes))=some (some (.agg #[.int .i64 0,.int .i64 0,.string ByteArray.empty]),3,32):=by kernel_rfl
theorem zhm (t:Int):slotOf t<4:=by unfold slotOf;split<;>omega
theorem zhl {t:Int} (h:1<=t) (h3:t<=3):t=(slotOf t:Int):=by unfold slotOf;rw [if_neg (by omega)];omega
theorem zfG {t:Int} (h:t<1∨3<t):slotOf t=0:=by unfold slotOf;rw [if_pos h]
def zam:Array Value:=planCells zfi (fun _=>.slice none 0 0)
theorem zgp {w:World} {X:Nat} {t:TypeId} {a0 a1 a2 a3 a4 a5 a6 a7 a8 b0 b1 b2 b3 b4 b5 b6 b7 b8:Value} (h:w.heap[X]?=some (.cells #[a0,a1,a2,a3,a4,a5,a6,a7,a8] t (0,0))) :
  (((((((((w.setCell ⟨X,0,none⟩ b0).setCell ⟨X,1,none⟩ b1).setCell ⟨X,2,none⟩ b2).setCell ⟨X,3,none⟩ b3).setCell ⟨X,4,none⟩ b4).setCell ⟨X,5,none⟩ b5).setCell ⟨X,6,none⟩ b6).setCell ⟨X,7,none⟩ b7).setCell ⟨X,8,none⟩ b8).heap[X]?=some (.cells #[b0,b1,b2,b3,b4,b5,b6,b7,b8] t (0,0)):=by
 have h0:(w.setCell ⟨X,0,none⟩ b0).heap[X]?=some (.cells #[b0,a1,a2,a3,a4,a5,a6,a7,a8] t (0,0)):=by
  have:=heap_setCell_same w X 0 _ t b0 h
  simpa using this
 generalize w.setCell ⟨X,0,none⟩ b0=w1 at h0 ⊢
 have h1:(w1.setCell ⟨X,1,none⟩ b1).heap[X]?=some (.cells #[b0,b1,a2,a3,a4,a5,a6,a7,a8] t (0,0)):=by
  have:=heap_setCell_same w1 X 1 _ t b1 h0
  simpa using this
 generalize w1.setCell ⟨X,1,none⟩ b1=w2 at h1 ⊢
 have h2:(w2.setCell ⟨X,2,none⟩ b2).heap[X]?=some (.cells #[b0,b1,b2,a3,a4,a5,a6,a7,a8] t (0,0)):=by
  have:=heap_setCell_same w2 X 2 _ t b2 h1
  simpa using this
 generalize w2.setCell ⟨X,2,none⟩ b2=w3 at h2 ⊢
 have h3:(w3.setCell ⟨X,3,none⟩ b3).heap[X]?=some (.cells #[b0,b1,b2,b3,a4,a5,a6,a7,a8] t (0,0)):=by
  have:=heap_setCell_same w3 X 3 _ t b3 h2
  simpa using this
 generalize w3.setCell ⟨X,3,none⟩ b3=w4 at h3 ⊢
 have h4:(w4.setCell ⟨X,4,none⟩ b4).heap[X]?=some (.cells #[b0,b1,b2,b3,b4,a5,a6,a7,a8] t (0,0)):=by
  have:=heap_setCell_same w4 X 4 _ t b4 h3
  simpa using this
 generalize w4.setCell ⟨X,4,none⟩ b4=w5 at h4 ⊢
 have h5:(w5.setCell ⟨X,5,none⟩ b5).heap[X]?=some (.cells #[b0,b1,b2,b3,b4,b5,a6,a7,a8] t (0,0)):=by
  have:=heap_setCell_same w5 X 5 _ t b5 h4
  simpa using this
 generalize w5.setCell ⟨X,5,none⟩ b5=w6 at h5 ⊢
 have h6:(w6.setCell ⟨X,6,none⟩ b6).heap[X]?=some (.cells #[b0,b1,b2,b3,b4,b5,b6,a7,a8] t (0,0)):=by
  have:=heap_setCell_same w6 X 6 _ t b6 h5
  simpa using this
 generalize w6.setCell ⟨X,6,none⟩ b6=w7 at h6 ⊢
 have h7:(w7.setCell ⟨X,7,none⟩ b7).heap[X]?=some (.cells #[b0,b1,b2,b3,b4,b5,b6,b7,a8] t (0,0)):=by
  have:=heap_setCell_same w7 X 7 _ t b7 h6
  simpa using this
 generalize w7.setCell ⟨X,7,none⟩ b7=w8 at h7 ⊢
 have h8:(w8.setCell ⟨X,8,none⟩ b8).heap[X]?=some (.cells #[b0,b1,b2,b3,b4,b5,b6,b7,b8] t (0,0)):=by
  have:=heap_setCell_same w8 X 8 _ t b8 h7
  simpa using this
 generalize w8.setCell ⟨X,8,none⟩ b8=w9 at h8 ⊢
 exact h8
theorem own_set1 {w:World} {B X:Nat} {v:Value} {n:Nat} {xs:List Value} {e:TypeId} {s:Nat} (h:w.ownsRow B e s v n xs) (hne:v.ownBlock≠some X) (o:Nat) (u:Value):(w.setCell ⟨X,o,none⟩ u).ownsRow B e s v n xs :=
 h.kept (row:=some X) ⟨rfl,rfl,rfl,by simp,fun k _ hk=>heap_setCell_other w ⟨X,o,none⟩ k u (fun e=>hk (by simp [e]))⟩ (.inr hne)
theorem zgN {w:World} {B X:Nat} {v:Value} {n:Nat} {xs:List Value} {e:TypeId} {s:Nat} (h:w.ownsRow B e s v n xs) (hne:v.ownBlock≠some X) (b0 b1 b2 b3 b4 b5 b6 b7 b8:Value) :
  (((((((((w.setCell ⟨X,0,none⟩ b0).setCell ⟨X,1,none⟩ b1).setCell ⟨X,2,none⟩ b2).setCell ⟨X,3,none⟩ b3).setCell ⟨X,4,none⟩ b4).setCell ⟨X,5,none⟩ b5).setCell ⟨X,6,none⟩ b6).setCell ⟨X,7,none⟩ b7).setCell ⟨X,8,none⟩ b8).ownsRow B e s v n xs:=own_set1 (own_set1 (own_set1 (own_set1 (own_set1 (own_set1 (own_set1 (own_set1 (own_set1 h hne _ _) hne _ _) hne _ _) hne _ _) hne _ _) hne _ _) hne _ _) hne _ _) hne _ _
theorem zkX:(Tryz.prog.info? 164).map (·.size)=some 9:=by kernel_rfl
theorem Pln.step_of (p:Pln) (e:Ent) (h:e.kd≠7):p.step e=⟨p.fr,fun n=>if n=slotOf e.tx then (p.s n).step e else p.s n⟩:=by
 unfold Pln.step;rw [if_neg h]
theorem ziV (pl kd tx pg sl:Int) (bf af im:ByteArray) (A:Option Addr) (n c:Nat) (dl:List Int) (w:World) (hd:DirtyAt w ⟨pl,kd,tx,pg,sl,bf,af,im,.slice A n c,dl⟩) :
  Calls Tryz.prog 120 #[.agg #[.int .u64 pl,.int .i64 kd,.int .i64 tx,.int .i64 pg,.int .i64 sl,.string bf,.string af,.string im,.slice A n c]] w fun r w'=>r=.returned (.int .u64 (leastOf pl dl))/\Below w.heap.size w w' :=
 zhj ⟨pl,kd,tx,pg,sl,bf,af,im,.slice A n c,dl⟩ w hd
theorem Pln.step_mark (p:Pln) (e:Ent) (h:e.kd=7):p.step e=⟨leastOf e.pl e.dl,p.s⟩:=if_pos h
theorem zaf (w:World) (r:Option Nat):w.grownBy w r:=⟨rfl,rfl,rfl,Nat.le_refl _,fun _ _ _=>rfl⟩
theorem One.step_end {s:One} {e:Ent} (h:e.kd=5∨e.kd=6):s.step e=⟨[],false⟩:=by
 unfold One.step
 rw [if_neg (by omega),if_neg (by omega),if_pos h]
theorem One.step_undo {s:One} {e:Ent} (h:e.kd=4):s.step e=⟨s.l.dropLast,s.o⟩:=by
 unfold One.step
 rw [if_neg (by omega),if_pos h]
theorem One.step_more {s:One} {e:Ent} (h:e.kd=2∨e.kd=3):s.step e=⟨s.l++[e.chg],true⟩:=if_pos h
theorem One.step_none {s:One} {e:Ent} (h1:¬ (e.kd=2∨e.kd=3)) (h2:e.kd≠4) (h3:¬ (e.kd=5∨e.kd=6)):s.step e=s:=by
 unfold One.step
 rw [if_neg h1,if_neg h2,if_neg h3]
theorem chgs_snoc (l:List Chg) (c:Chg):chgs (l++[c])=chgs l++c.cells:=by
 unfold chgs;rw [List.flatMap_append];simp
theorem zdx (l:List Chg):(chgs l).length=l.length*3:=by
 induction l with
 | nil=>rfl
 | cons c l ih =>
  show (Chg.cells c++chgs l).length=_
  rw [List.length_append,ih];simp [Chg.cells];omega
theorem zbB {w wc w1:World} {V:Nat->Value} {p:Pln} {k nk ck2 gg cap:Nat} {Ak:Option Addr} {pg sl:Int} {bf:ByteArray} {xs:List Value} {o:Obj} (HP:qA w.heap.size wc (w.heap.size+1) V p) (hk4:k<4)
  (hV:V k=.slice Ak nk ck2) (hn:nk=(p.s k).l.length) (hxs:xs=chgs (p.s k).l) (HB:Below w.heap.size w wc) (HR:wc.heap[w.heap.size]?=some (.cells zam 164 (0,0)))
  (hgrow:(wc.alloc o).drew.grownBy w1 (Value.slice Ak nk ck2).ownBlock)
  (hown1:w1.ownsRow w.heap.size 150 3 (.slice (some ⟨gg,0,none⟩) (nk+1) cap) (nk+1) (xs++[.int .i64 pg,.int .i64 sl,.string bf])) (hat:(Value.slice Ak nk ck2).ownBlock=some gg∨gg=wc.heap.size+1) :
  qA w.heap.size ((w1.setCell ⟨w.heap.size+1,1+k,none⟩ (.slice (some ⟨gg,0,none⟩) (nk+1) cap)).setCell ⟨w.heap.size+1,5+k,none⟩ (.bool true)) (w.heap.size+1)
   (fun i=>if i=k then .slice (some ⟨gg,0,none⟩) (nk+1) cap else V i) ⟨p.fr,fun i=>if i=k then ⟨(p.s k).l++[⟨pg,sl,bf⟩],true⟩ else p.s i⟩ /\
  Below w.heap.size w ((w1.setCell ⟨w.heap.size+1,1+k,none⟩ (.slice (some ⟨gg,0,none⟩) (nk+1) cap)).setCell ⟨w.heap.size+1,5+k,none⟩ (.bool true)) /\
  ((w1.setCell ⟨w.heap.size+1,1+k,none⟩ (.slice (some ⟨gg,0,none⟩) (nk+1) cap)).setCell ⟨w.heap.size+1,5+k,none⟩ (.bool true)).heap[w.heap.size]?=some (.cells zam 164 (0,0)):=by
 have hlt:=HP.lt
 have hown:=HP.own k hk4
 rw [hV,<- hn] at hown
 have hgr:wc.grownBy w1 (V k).ownBlock:=by
  rw [hV]
  exact ⟨hgrow.os,hgrow.tape,hgrow.output,Nat.le_trans (by simp) hgrow.size,fun j hj hne=>(hgrow.block j (by simp;omega) hne).trans (Below.heap_alloc wc o j hj)⟩
 have hbW:Below w.heap.size w (wc.alloc o).drew:=(B_alloc HB o).drew
 have hb1:Below w.heap.size w w1:=hbW.grown hgrow hbW.size fun j hj=>(hown.lt j hj).1
 refine ⟨HP.put hk4 true hgr ?_ ?_,B_set (B_set hb1 (Nat.le_succ _) _) (Nat.le_succ _) _,?_⟩
 ·rw [List.length_append,<- hn,chgs_snoc,<- hxs]
  exact hown1
 ·rcases hat with hat | hat
  ·exact .inr (.inl (by rw [hV];exact hat.symm))
  ·exact .inr (.inr ⟨gg,rfl,by omega⟩)
 ·exact (Below.heap_setCell _ _ _ _ (by show _≠w.heap.size+1;omega)).trans ((Below.heap_setCell _ _ _ _ (by show _≠w.heap.size+1;omega)).trans
   ((hgrow.block _ (by simp;omega) (Ne.symm (own_ne hown HR (by decide)))).trans (ZN HR)))
theorem analyse_any (A:Option Addr) (n cap:Nat) (es:List Ent) (w:World) (hn:es.length=n) (hlen:n<=2000) (hrow:RowsAt w A es) :
  Calls Tryz.prog 81 #[.slice A n cap] w fun r w'=>(∃ V:Nat->Value,r=.returned (.agg (planCells ⟨(planOf es).fr,fun i=>if i=0 then ⟨[],false⟩ else (planOf es).s i⟩ (fun i=>if i=0 then .slice none 0 0 else V i))) /\
   (∀ i,1<=i->i<4->w'.ownsRow w.heap.size 150 3 (V i) ((planOf es).s i).l.length (chgs ((planOf es).s i).l)))/\Below w.heap.size w w':=by
 obtain ⟨i0,hi,hz0,hz1,hz2⟩:=info_parts zky
 obtain ⟨HN,HROW⟩:=zi2 hn hrow
 clear hn hrow
 go_enter Tryz.func81,Tryz.ntmps81
 go_wp2
 generalize hW:(w.alloc _).alloc _=W
 have hb:Below w.heap.size w W:=by rw [<- hW];exact B_alloc (B_alloc (Below.refl _ _) _) _
 have hres:W.heap[w.heap.size]?=some (.cells zam 164 (0,0)):=by
  rw [<- hW,Below.heap_alloc _ _ _ (by simp),heap_alloc_new];rfl
 have hplan:qA w.heap.size W (w.heap.size+1) (fun _=>.slice none 0 0) zfi:=by
  refine ⟨?_,fun i _=>World.ownsRow_nil _ _ _ _,fun _ _ _ _ _=>.inl rfl⟩
  rw [<- hW]
  exact zkJ _ _ _
 clear hW
 go_loopw [10] (fun u wr=>∃ (k:Nat) (V:Nat->Value),k<=n/\u=.int .i64 k/\qA w.heap.size wr (w.heap.size+1) V (planOf (es.take k))/\Below w.heap.size w wr/\wr.heap[w.heap.size]?=some (.cells zam 164 (0,0))) (fun u _=>((n:Int)-intOf u).toNat)
 case atStart=>exact ⟨0,_,by omega,rfl,hplan,hb,hres⟩
 case round =>
  obtain ⟨i,V,hile,rfl,hP,hbl,hres⟩:=hrel
  by_cases hlt:i<n
  ·obtain ⟨b,off,hA,hE,hD⟩:=HROW.out i (by rw [HN.out];exact hlt)
   subst hA
   have hE2:=hE.below hbl
   have hD2:=hD.below hbl
   have hstep:=zdU es i (by rw [HN.out];exact hlt)
   have hlen2:=fun k=>zfh (es.take i) k
   rw [List.length_take,HN.out,Nat.min_eq_left (by omega)] at hlen2
   clear hE hD
   obtain ⟨e,he⟩:∃ e,e=es[i]'(by rw [HN.out];exact hlt):=⟨_,rfl⟩
   rw [<- he] at hE2 hD2 hstep
   clear he
   obtain ⟨A1,n1,c1,hdv⟩:=hD2.slice
   obtain ⟨a0,a1,a2,a3,a4,a5,a6,a7,a8⟩:=hE2
   obtain ⟨pl,kd,tx,pg,sl,bf,af,im,dv,dl⟩:=e
   simp only at hdv a0 a1 a2 a3 a4 a5 a6 a7 a8
   subst hdv
   obtain ⟨HST,HL⟩:=zi2 hstep hlen2
   clear hstep hlen2
   go_upto_region 6 with fail
   have hAB:Below wr.heap.size wr (wr.alloc (.cells #[.int .u64 pl,.int .i64 kd,.int .i64 tx,.int .i64 pg,.int .i64 sl,.string bf,.string af,.string im,.slice A1 n1 c1] 167)):=B_alloc (Below.refl _ _) _
   have hgb:=heap_alloc_new wr (.cells #[.int .u64 pl,.int .i64 kd,.int .i64 tx,.int .i64 pg,.int .i64 sl,.string bf,.string af,.string im,.slice A1 n1 c1] 167)
   generalize wr.alloc (.cells #[.int .u64 pl,.int .i64 kd,.int .i64 tx,.int .i64 pg,.int .i64 sl,.string bf,.string af,.string im,.slice A1 n1 c1] 167)=W2 at hAB hgb ⊢
   have hP:=hP.below hAB
   have hD:=hD2.below hAB
   have hbl2:=B_call hbl hAB
   have hres2:=GG hAB hres
   obtain ⟨B1,hB1⟩:∃ B1,B1=wr.heap.size:=⟨_,rfl⟩
   rw [<- hB1] at hgb ⊢
   clear hB1 hAB hD2 a0 a1 a2 a3 a4 a5 a6 a7 a8 hres hbl
   obtain ⟨HP,HD,HB,HR⟩:=zi4 hP hD hbl2 hres2
   clear hP hD hbl2 hres2
   go_cut [22] (fun s wx=>s=.bool (decide (tx<1∨3<tx))/\wx=W2)
   case first =>
    by_cases h1:tx<1
    ·have d1:decide (tx<1)=true:=by simpa using h1
     go_wp2_with fail
     go_meet
     exact ⟨by simp [h1],rfl⟩
    ·have d1:decide (tx<1)=false:=by simpa using h1
     by_cases h2:3<tx
     ·have d2:decide (3<tx)=true:=by simpa using h2
      go_wp2_with fail
      go_meet
      exact ⟨by simp [h2],rfl⟩
     ·have d2:decide (3<tx)=false:=by simpa using h2
      go_wp2_with fail
      go_meet
      exact ⟨by simp [h1,h2],rfl⟩
   case rest =>
    obtain ⟨rfl,rfl⟩:=hcut
    obtain ⟨k,hk⟩:∃ k,k=slotOf tx:=⟨_,rfl⟩
    have hk4:k<4:=by rw [hk];exact zhm tx
    go_upto_if 22 with fail
    go_cut [6] (fun s wx=>s=.int .i64 (k:Int)/\wx=wc)
    case first =>
     by_cases h:tx<1∨3<tx
     ·have d1:decide (tx<1∨3<tx)=true:=by simpa using h
      go_wp2_with fail
      go_meet
      exact ⟨by rw [hk,zfG h];rfl,rfl⟩
     ·have d1:decide (tx<1∨3<tx)=false:=by simpa using h
      go_wp2_with fail
      go_meet
      exact ⟨by rw [hk,<- zhl (by omega) (by omega)],rfl⟩
    case rest =>
     obtain ⟨rfl,rfl⟩:=hcut
     have x1:wc.cell? ⟨B1,1,none⟩=some (.int .i64 kd):=cell_of_row wc _ 1 _ _ _ hgb
     have ck:=HP.out.cell hk4
     have fk:=HP.out.frozen (1+k)
     obtain ⟨Ak,ck2,hVk⟩:=own_slice (HP.out.own k hk4)
     obtain ⟨nk,hnk⟩:∃ nk,nk=((planOf (es.take i)).s k).l.length:=⟨_,rfl⟩
     rw [<- hnk] at hVk
     have hnk2:nk<=i:=by rw [hnk];exact HL.out k
     obtain ⟨HK,HVK,HNK⟩:=zi3 hk hVk hnk
     rw [hVk] at ck
     clear hk hVk hnk
     by_cases h7:kd=7
     ·subst h7
      have x0:wc.cell? ⟨B1,0,none⟩=some (.int .u64 pl):=cell_of_row wc _ 0 _ _ _ hgb
      have x2:wc.cell? ⟨B1,2,none⟩=some (.int .i64 tx):=cell_of_row wc _ 2 _ _ _ hgb
      have x3:wc.cell? ⟨B1,3,none⟩=some (.int .i64 pg):=cell_of_row wc _ 3 _ _ _ hgb
      have x4:wc.cell? ⟨B1,4,none⟩=some (.int .i64 sl):=cell_of_row wc _ 4 _ _ _ hgb
      have x5:wc.cell? ⟨B1,5,none⟩=some (.string bf):=cell_of_row wc _ 5 _ _ _ hgb
      have x6:wc.cell? ⟨B1,6,none⟩=some (.string af):=cell_of_row wc _ 6 _ _ _ hgb
      have x7:wc.cell? ⟨B1,7,none⟩=some (.string im):=cell_of_row wc _ 7 _ _ _ hgb
      have x8:wc.cell? ⟨B1,8,none⟩=some (.slice A1 n1 c1):=cell_of_row wc _ 8 _ _ _ hgb
      go_wp2_with (go_at_call 120;(with_reducible refine (ziV pl 7 tx pg sl bf af im A1 n1 c1 dl _ HD.out).mono ?_);rintro r w1 ⟨rfl,hb1⟩;have hP1:=HP.out.below hb1;have g0:=hP1.from;have e0:=hP1.frozen 0)
      go_roundw
      case rel =>
       refine ⟨i+1,V,by omega,by go_num,?_,?_,?_⟩
       ·rw [HST.out,Pln.step_mark _ _ rfl]
        exact hP1.putF _
       ·exact B_set (B_call HB.out hb1) (Nat.le_succ _) _
       ·exact (Below.heap_setCell _ _ _ _ (by show _≠w.heap.size+1;omega)).trans (GG hb1 HR.out)
      case measure=>simp [intOf];omega
     ·by_cases h56:kd=5∨kd=6
      ·have cok:=HP.out.opn hk4
       have fok:=HP.out.frozen (5+k)
       have hk0:(k:Int)<4:=by omega
       have hfin:=HP.out.put hk4 (v:=.slice none 0 0) (l:=[]) false (zaf _ _) (World.ownsRow_nil _ _ _ _) (.inl rfl)
       have HF:=hid hfin
       clear hfin
       rcases h56 with rfl | rfl
       all_goals
        go_wp2_with fail
        go_roundw
        case rel =>
         refine ⟨i+1,fun j=>if j=k then .slice none 0 0 else V j,by omega,by go_num,?_,?_,?_⟩
         ·rw [HST.out,Pln.step_of _ _ h7]
          refine HF.out.congr (fun _ _=>rfl) rfl fun j _=>?_
          dsimp only
          rw [HK.out]
          split
          ·rw [One.step_end (by simp)]
          ·rfl
         ·exact B_set (B_set HB.out (Nat.le_succ _) _) (Nat.le_succ _) _
         ·exact (Below.heap_setCell _ _ _ _ (by show _≠w.heap.size+1;omega)).trans ((Below.heap_setCell _ _ _ _ (by show _≠w.heap.size+1;omega)).trans HR.out)
        case measure=>simp [intOf];omega
      ·by_cases h4:kd=4
       ·subst h4
        by_cases hz:nk=0
        ·subst hz
         go_wp2_with fail
         go_roundw
         case rel =>
          refine ⟨i+1,V,by omega,by go_num,?_,HB.out,HR.out⟩
          rw [HST.out,Pln.step_of _ _ h7]
          refine HP.out.congr (fun _ _=>rfl) rfl fun j _=>?_
          dsimp only
          split
          ·rename_i hj
           rw [One.step_undo rfl,hj,<- HK.out]
           have h0:=HNK.out
           rw [show ((planOf (es.take i)).s k).l.dropLast=((planOf (es.take i)).s k).l by rw [List.eq_nil_of_length_eq_zero h0.symm];rfl]
          ·rfl
         case measure=>simp [intOf];omega
        ·obtain ⟨m,rfl⟩:∃ m,nk=m+1:=⟨nk-1,by omega⟩
         have hown:=HP.out.own k hk4
         rw [<- HNK.out,HVK.out] at hown
         obtain ⟨gk,cap2,hf,_,_⟩:=hown.form (by omega)
         have hcap:m+1<=ck2:=by
          rcases hown.2 with ⟨_,h0⟩ | ⟨_,_,_,hv,_,_,hle,_⟩
          ·omega
          ·injection hv with _ _ hv;omega
         injection hf with hf _ hcc
         subst hf hcc
         have hne:((planOf (es.take i)).s k).l≠[]:=by
          intro h0
          have:=HNK.out
          rw [h0] at this;simp at this
         have hdl:((planOf (es.take i)).s k).l.dropLast.length=m:=by rw [List.length_dropLast,<- HNK.out,Nat.add_sub_cancel]
         have hpop:wc.ownsRow w.heap.size 150 3 (.slice (some ⟨gk,0,none⟩) m ck2) ((planOf (es.take i)).s k).l.dropLast.length (chgs ((planOf (es.take i)).s k).l.dropLast):=by
          rw [hdl]
          rw [<- List.dropLast_concat_getLast hne,chgs_snoc] at hown
          exact ownsRow_pop (by rw [zdx,hdl]) hown
         have HPOP:=hid hpop
         clear hown hpop hne hdl
         have HC:=hid hcap
         have hd0:decide ((0:Int)<((m+1:Nat):Int))=true:=by simp
         go_wp2_with fail
         refine ⟨⟨i+1,fun j=>if j=k then .slice (some ⟨gk,0,none⟩) m ck2 else V j,by omega,by go_num,?_,?_,?_⟩,?_⟩
         ·rw [HST.out,Pln.step_of _ _ h7]
          refine (HP.out.putL hk4 (zaf _ _) HPOP.out (.inr (.inl (by rw [HVK.out];rfl)))).congr (fun _ _=>rfl) rfl fun j _=>?_
          dsimp only
          rw [HK.out]
          split
          ·rename_i hj
           rw [One.step_undo rfl,hj]
          ·rfl
         ·exact B_set HB.out (Nat.le_succ _) _
         ·exact (Below.heap_setCell _ _ _ _ (by show _≠w.heap.size+1;omega)).trans HR.out
         ·simp [intOf];omega
       ·by_cases h23:kd=2∨kd=3
        ·have cok:=HP.out.opn hk4
         have fok:=HP.out.frozen (5+k)
         have x3:wc.cell? ⟨B1,3,none⟩=some (.int .i64 pg):=cell_of_row wc _ 3 _ _ _ hgb
         have x4:wc.cell? ⟨B1,4,none⟩=some (.int .i64 sl):=cell_of_row wc _ 4 _ _ _ hgb
         have x5:wc.cell? ⟨B1,5,none⟩=some (.string bf):=cell_of_row wc _ 5 _ _ _ hgb
         have hown:=HP.out.own k hk4
         rw [<- HNK.out,HVK.out] at hown
         obtain ⟨xs,hxs⟩:∃ xs,xs=chgs ((planOf (es.take i)).s k).l:=⟨_,rfl⟩
         rw [<- hxs] at hown
         have HXS:=hid hxs
         clear hxs
         have hk0:(0:Int)<=(k:Int):=by omega
         have hk1:(k:Int)<4:=by omega
         have hne:=HP.out.ne hk4
         rw [HVK.out] at hne
         have hlP:=HP.out.lt
         have hlB:=World.block_lt_of_cell? _ _ x1
         have hnB:(Value.slice Ak nk ck2).ownBlock≠some B1:=own_ne hown hgb (by decide)
         have hbs:=HB.out.size
         have cka:(wc.alloc (.cells #[.int .i64 pg,.int .i64 sl,.string bf] 150)).cell? ⟨w.heap.size+1,1+k,none⟩=some (.slice Ak nk ck2):=qB ck
         have hgB:w.heap.size+1≠B1:=by
          intro h
          have:=HP.out.blk
          rw [h,hgb] at this
          injection this with this
          injection this with _ this
          exact absurd this (by decide)
         rcases h23 with rfl | rfl
         all_goals
          go_wp2_with fail
          refine wp_region_noPanic ?_
          refine wp_region_held_drew (S:=(fun w'=>w'.cell? ⟨B1,3,none⟩=some (.int .i64 pg)/\w'.cell? ⟨B1,4,none⟩=some (.int .i64 sl)/\w'.cell? ⟨B1,5,none⟩=some (.string bf))) (by kernel_rfl) ⟨x3,x4,x5⟩ (fun hHeld=>?_)
          refine wpAnyH_take (i:=0) (oi:=_) (v:=?_) rfl (by kernel_rfl) (by kernel_rfl) (by kernel_rfl) (fun _ _ _ h=>h) (Or.inl ⟨by rfl,?_⟩) (by assumption) ?_
          rotate_left
          ·(intro w hSw;(try dsimp only at hSw);go_simp;try with_reducible rfl)
          try simp only [pS]
          refine wpAnyH_take (i:=1) (oi:=_) (v:=?_) rfl (by kernel_rfl) (by kernel_rfl) (by kernel_rfl) (fun _ _ _ h=>h) (Or.inl ⟨by rfl,?_⟩) (by assumption) ?_
          rotate_left
          ·(intro w hSw;(try dsimp only at hSw);go_simp;try with_reducible rfl)
          try simp only [pS]
          refine wpAnyH_take (i:=2) (oi:=_) (v:=?_) rfl (by kernel_rfl) (by kernel_rfl) (by kernel_rfl) (fun _ _ _ h=>h) (Or.inl ⟨by rfl,?_⟩) (by assumption) ?_
          rotate_left
          ·(intro w hSw;(try dsimp only at hSw);go_simp;try with_reducible rfl)
          try simp only [pS]
          refine wpAnyH_take (i:=3) (oi:=_) (v:=?_) rfl (by kernel_rfl) (by kernel_rfl) (by kernel_rfl) (fun _ _ _ h=>h) (Or.inl ⟨by rfl,?_⟩) (by assumption) ?_
          rotate_left
          ·(intro w hSw;(try dsimp only at hSw);go_simp;try with_reducible rfl)
          try simp only [pS]
          refine wpAnyH_take (i:=4) (oi:=_) (v:=?_) rfl (by kernel_rfl) (by kernel_rfl) (by kernel_rfl) (fun _ _ _ h=>h) (Or.inl ⟨by rfl,?_⟩) (by assumption) ?_
          rotate_left
          ·(intro w hSw;(try dsimp only at hSw);go_simp;try with_reducible rfl)
          try simp only [pS]
          refine wpAnyH_take (i:=6) (oi:=_) (v:=?_) rfl (by kernel_rfl) (by kernel_rfl) (by kernel_rfl) (fun _ _ _ h=>h) (Or.inl ⟨by rfl,?_⟩) (by assumption) ?_
          rotate_left
          ·(intro w hSw;(try dsimp only at hSw);go_simp;try with_reducible rfl)
          try simp only [pS]
          refine wpAnyH_take (i:=7) (oi:=_) (v:=?_) rfl (by kernel_rfl) (by kernel_rfl) (by kernel_rfl) (fun _ _ _ h=>h) (Or.inl ⟨by rfl,?_⟩) (by assumption) ?_
          rotate_left
          ·(intro w hSw;(try dsimp only at hSw);go_simp;try with_reducible rfl)
          try simp only [pS]
          refine wpAnyH_take (i:=8) (oi:=_) (v:=?_) rfl (by kernel_rfl) (by kernel_rfl) (by kernel_rfl) (fun _ _ _ h=>h) (Or.inl ⟨by rfl,?_⟩) (by assumption) ?_
          rotate_left
          ·(intro w hSw;(try dsimp only at hSw);go_simp;try with_reducible rfl)
          try simp only [pS]
          refine wpAnyH_take (i:=9) (oi:=_) (v:=?_) rfl (by kernel_rfl) (by kernel_rfl) (by kernel_rfl) (fun _ _ _ h=>h) (Or.inl ⟨by rfl,?_⟩) (by assumption) ?_
          rotate_left
          ·(intro w hSw;(try dsimp only at hSw);go_simp;try with_reducible rfl)
          try simp only [pS]
          refine wpAnyH_take (i:=10) (oi:=_) (v:=?_) rfl (by kernel_rfl) (by kernel_rfl) (by kernel_rfl) (fun _ _ _ h=>h) (Or.inl ⟨by rfl,?_⟩) (by assumption) ?_
          rotate_left
          ·(intro w hSw;(try dsimp only at hSw);go_simp;try with_reducible rfl)
          try simp only [pS]
          refine wpAnyH_take (i:=11) (oi:=_) (v:=?_) rfl (by kernel_rfl) (by kernel_rfl) (by kernel_rfl) (fun _ _ _ h=>h) (Or.inl ⟨by rfl,?_⟩) (by assumption) ?_
          rotate_left
          ·(intro w hSw;(try dsimp only at hSw);go_simp;try with_reducible rfl)
          try simp only [pS]
          refine wpAnyH_take (i:=12) (oi:=_) (v:=?_) rfl (by kernel_rfl) (by kernel_rfl) (by kernel_rfl) (fun _ _ _ h=>h) (Or.inl ⟨by rfl,?_⟩) (by assumption) ?_
          rotate_left
          ·(intro w hSw;(try dsimp only at hSw);go_simp;try with_reducible rfl)
          try simp only [pS]
          refine wpAnyH_take (i:=13) (oi:=_) (v:=?_) rfl (by kernel_rfl) (by kernel_rfl) (by kernel_rfl) (fun _ _ _ h=>h) (Or.inl ⟨by rfl,?_⟩) (by assumption) ?_
          rotate_left
          ·(intro w hSw;(try dsimp only at hSw);go_simp;try with_reducible rfl)
          try simp only [pS]
          refine wpAnyH_take (i:=14) (oi:=_) (v:=?_) rfl (by kernel_rfl) (by kernel_rfl) (by kernel_rfl) (fun _ _ _ h=>h) (Or.inl ⟨by rfl,?_⟩) (by assumption) ?_
          rotate_left
          ·(intro w hSw;(try dsimp only at hSw);go_simp;try with_reducible rfl)
          try simp only [pS]
          refine wpAnyH_take (i:=15) (oi:=_) (v:=?_) rfl (by kernel_rfl) (by kernel_rfl) (by kernel_rfl) (fun _ _ _ h=>h) (Or.inl ⟨by rfl,?_⟩) (by assumption) ?_
          rotate_left
          ·(intro w hSw;(try dsimp only at hSw);go_simp;try with_reducible rfl)
          try simp only [pS]
          refine wpAnyH_take (i:=18) (oi:=_) (v:=?_) rfl (by kernel_rfl) (by kernel_rfl) (by kernel_rfl) (fun _ _ _ h=>h) (Or.inl ⟨by rfl,?_⟩) (by assumption) ?_
          rotate_left
          ·(intro w hSw;(try dsimp only at hSw);go_simp;try with_reducible rfl)
          try simp only [pS]
          refine wpAnyH_take (i:=21) (oi:=_) (v:=?_) rfl (by kernel_rfl) (by kernel_rfl) (by kernel_rfl) (fun _ _ _ h=>h) (Or.inl ⟨by rfl,?_⟩) (by assumption) ?_
          rotate_left
          ·(intro w hSw;(try dsimp only at hSw);go_simp;try with_reducible rfl)
          try simp only [pS]
          refine wpAnyH_ready (rs:=[5,16]) (by kernel_rfl) (by simp) ?_
          refine AllReadyH.cons (o:=_) rfl (fun K hK=>?_) ?_
          ·go_simp
           refine hK.out _ _ ⟨x3,x4,x5⟩ (fun hHeld=>?_)
           clear hK K
           try simp only [pS]
           refine wpAnyH_ready (rs:=[16]) (by kernel_rfl) (by simp) ?_
           refine AllReadyH.cons (o:=_) rfl (fun K hK=>?_) AllReadyH.nil
           go_simp
           refine hK.out _ _ ⟨qB x3,qB x4,qB x5⟩ (fun hHeld=>?_)
           clear hK K
           try simp only [pS]
           refine wpAnyH_ready (rs:=[17]) (by kernel_rfl) (by simp) ?_
           refine AllReadyH.cons (o:=_) rfl (fun K hK=>?_) AllReadyH.nil
           refine step_append_lies _ (by rfl) _ _ _ (by rfl) w.heap.size 150 i0 _ 3 32 Tryz.underlying147 hi hz0 hz1 hz2 rfl (by omega) (.slice Ak nk ck2) nk xs (by rfl) ((hown.alloc _).drew)
            ⟨wc.heap.size,0,none⟩ 1 1 [.int .i64 pg,.int .i64 sl,.string bf] (by rfl) (by rfl) (World.news_of_block (cs:=#[.int .i64 pg,.int .i64 sl,.string bf]) (t:=150) (fr:=(0,0)) (heap_alloc_new wc _)) (by simp [Value.oneCell'])
            (by omega) (by unfold maxLen;omega) (by omega) (by simp;omega) (wc.heap.size+1) (by simp) ?_
           intro gg cap w1 hown1 hgrow hat hlt
           have hb1:w1.heap[w.heap.size+1]?=some (.cells (planCells (planOf (es.take i)) V) 164 (0,0)):=(hgrow.block _ (by simp;omega) (Ne.symm hne)).trans (ZN HP.out.blk)
           have z1:w1.cell? ⟨w.heap.size+1,1+k,none⟩=some (.slice Ak nk ck2):=by
            rw [hgrow.cell_far _ (by simp;omega) (Ne.symm hne)]
            exact qB ck
           have z2:w1.cell? ⟨w.heap.size+1,5+k,none⟩=some (.bool ((planOf (es.take i)).s k).o):=by
            rw [hgrow.cell_far _ (by simp;omega) (Ne.symm hne)]
            exact qB cok
           have y3:w1.cell? ⟨B1,3,none⟩=some (.int .i64 pg):=by
            rw [hgrow.cell_far _ (by simp;omega) (Ne.symm hnB)]
            exact qB x3
           have y4:w1.cell? ⟨B1,4,none⟩=some (.int .i64 sl):=by
            rw [hgrow.cell_far _ (by simp;omega) (Ne.symm hnB)]
            exact qB x4
           have y5:w1.cell? ⟨B1,5,none⟩=some (.string bf):=by
            rw [hgrow.cell_far _ (by simp;omega) (Ne.symm hnB)]
            exact qB x5
           have z3:=frozen_of_row w1 _ (1+k) _ _ hb1
           have z4:=frozen_of_row w1 _ (5+k) _ _ hb1
           refine hK.out _ _ ⟨y3,y4,y5⟩ (fun hHeld=>?_)
           clear hK K
           try simp only [pS]
           refine wpAnyH_take (i:=19) (oi:=_) (v:=?_) rfl (by kernel_rfl) (by kernel_rfl) (by kernel_rfl) (fun _ _ _ h=>h) (Or.inl ⟨by rfl,?_⟩) (by assumption) ?_
           rotate_left
           ·(intro w hSw;(try dsimp only at hSw);go_simp;try with_reducible rfl)
           try simp only [pS]
           refine wpAnyH_ready (rs:=[20]) (by kernel_rfl) (by simp) ?_
           refine AllReadyH.cons (o:=_) rfl (fun K hK=>?_) AllReadyH.nil
           go_simp
           refine hK.out _ _ ⟨jq hgB y3,jq hgB y4,jq hgB y5⟩ (fun hHeld=>?_)
           clear hK K
           try simp only [pS]
           refine wpAnyH_take (i:=22) (oi:=_) (v:=?_) rfl (by kernel_rfl) (by kernel_rfl) (by kernel_rfl) (fun _ _ _ h=>h) (Or.inl ⟨by rfl,?_⟩) (by assumption) ?_
           rotate_left
           ·(intro w hSw;(try dsimp only at hSw);go_simp;try with_reducible rfl)
           try simp only [pS]
           refine wpAnyH_ready (rs:=[23]) (by kernel_rfl) (by simp) ?_
           refine AllReadyH.cons (o:=_) rfl (fun K hK=>?_) AllReadyH.nil
           go_simp
           refine hK.out _ _ ⟨jq hgB (jq hgB y3),jq hgB (jq hgB y4),jq hgB (jq hgB y5)⟩ (fun hHeld=>?_)
           clear hK K
           try simp only [pS]
           refine wpAnyH_done (by kernel_rfl) ?_ _
           refine NoPanic.normal ?_
           have HM:=hid (zbB HP.out hk4 HVK.out HNK.out HXS.out HB.out HR.out hgrow hown1 hat)
           clear hgrow hown1 hat hHeld
           go_wp2_with fail
           refine ⟨⟨i+1,fun j=>if j=k then .slice (some ⟨gg,0,none⟩) (nk+1) cap else V j,by omega,by go_num,?_,HM.out.2⟩,?_⟩
           ·rw [HST.out,Pln.step_of _ _ h7]
            refine HM.out.1.congr (fun _ _=>rfl) rfl fun j _=>?_
            dsimp only
            rw [HK.out]
            split
            ·rename_i hj
             rw [One.step_more (by simp),hj]
             rfl
            ·rfl
           ·simp [intOf];omega
          ·refine AllReadyH.cons (o:=_) rfl (fun K hK=>?_) AllReadyH.nil
           go_simp
           refine hK.out _ _ ⟨qB x3,qB x4,qB x5⟩ (fun hHeld=>?_)
           clear hK K
           try simp only [pS]
           refine wpAnyH_ready (rs:=[5]) (by kernel_rfl) (by simp) ?_
           refine AllReadyH.cons (o:=_) rfl (fun K hK=>?_) AllReadyH.nil
           go_simp
           refine hK.out _ _ ⟨qB x3,qB x4,qB x5⟩ (fun hHeld=>?_)
           clear hK K
           try simp only [pS]
           refine wpAnyH_ready (rs:=[17]) (by kernel_rfl) (by simp) ?_
           refine AllReadyH.cons (o:=_) rfl (fun K hK=>?_) AllReadyH.nil
           refine step_append_lies _ (by rfl) _ _ _ (by rfl) w.heap.size 150 i0 _ 3 32 Tryz.underlying147 hi hz0 hz1 hz2 rfl (by omega) (.slice Ak nk ck2) nk xs (by rfl) ((hown.alloc _).drew)
            ⟨wc.heap.size,0,none⟩ 1 1 [.int .i64 pg,.int .i64 sl,.string bf] (by rfl) (by rfl) (World.news_of_block (cs:=#[.int .i64 pg,.int .i64 sl,.string bf]) (t:=150) (fr:=(0,0)) (heap_alloc_new wc _)) (by simp [Value.oneCell'])
            (by omega) (by unfold maxLen;omega) (by omega) (by simp;omega) (wc.heap.size+1) (by simp) ?_
           intro gg cap w1 hown1 hgrow hat hlt
           have hb1:w1.heap[w.heap.size+1]?=some (.cells (planCells (planOf (es.take i)) V) 164 (0,0)):=(hgrow.block _ (by simp;omega) (Ne.symm hne)).trans (ZN HP.out.blk)
           have z1:w1.cell? ⟨w.heap.size+1,1+k,none⟩=some (.slice Ak nk ck2):=by
            rw [hgrow.cell_far _ (by simp;omega) (Ne.symm hne)]
            exact qB ck
           have z2:w1.cell? ⟨w.heap.size+1,5+k,none⟩=some (.bool ((planOf (es.take i)).s k).o):=by
            rw [hgrow.cell_far _ (by simp;omega) (Ne.symm hne)]
            exact qB cok
           have y3:w1.cell? ⟨B1,3,none⟩=some (.int .i64 pg):=by
            rw [hgrow.cell_far _ (by simp;omega) (Ne.symm hnB)]
            exact qB x3
           have y4:w1.cell? ⟨B1,4,none⟩=some (.int .i64 sl):=by
            rw [hgrow.cell_far _ (by simp;omega) (Ne.symm hnB)]
            exact qB x4
           have y5:w1.cell? ⟨B1,5,none⟩=some (.string bf):=by
            rw [hgrow.cell_far _ (by simp;omega) (Ne.symm hnB)]
            exact qB x5
           have z3:=frozen_of_row w1 _ (1+k) _ _ hb1
           have z4:=frozen_of_row w1 _ (5+k) _ _ hb1
           refine hK.out _ _ ⟨y3,y4,y5⟩ (fun hHeld=>?_)
           clear hK K
           try simp only [pS]
           refine wpAnyH_take (i:=19) (oi:=_) (v:=?_) rfl (by kernel_rfl) (by kernel_rfl) (by kernel_rfl) (fun _ _ _ h=>h) (Or.inl ⟨by rfl,?_⟩) (by assumption) ?_
           rotate_left
           ·(intro w hSw;(try dsimp only at hSw);go_simp;try with_reducible rfl)
           try simp only [pS]
           refine wpAnyH_ready (rs:=[20]) (by kernel_rfl) (by simp) ?_
           refine AllReadyH.cons (o:=_) rfl (fun K hK=>?_) AllReadyH.nil
           go_simp
           refine hK.out _ _ ⟨jq hgB y3,jq hgB y4,jq hgB y5⟩ (fun hHeld=>?_)
           clear hK K
           try simp only [pS]
           refine wpAnyH_take (i:=22) (oi:=_) (v:=?_) rfl (by kernel_rfl) (by kernel_rfl) (by kernel_rfl) (fun _ _ _ h=>h) (Or.inl ⟨by rfl,?_⟩) (by assumption) ?_
           rotate_left
           ·(intro w hSw;(try dsimp only at hSw);go_simp;try with_reducible rfl)
           try simp only [pS]
           refine wpAnyH_ready (rs:=[23]) (by kernel_rfl) (by simp) ?_
           refine AllReadyH.cons (o:=_) rfl (fun K hK=>?_) AllReadyH.nil
           go_simp
           refine hK.out _ _ ⟨jq hgB (jq hgB y3),jq hgB (jq hgB y4),jq hgB (jq hgB y5)⟩ (fun hHeld=>?_)
           clear hK K
           try simp only [pS]
           refine wpAnyH_done (by kernel_rfl) ?_ _
           refine NoPanic.normal ?_
           have HM:=hid (zbB HP.out hk4 HVK.out HNK.out HXS.out HB.out HR.out hgrow hown1 hat)
           clear hgrow hown1 hat hHeld
           go_wp2_with fail
           refine ⟨⟨i+1,fun j=>if j=k then .slice (some ⟨gg,0,none⟩) (nk+1) cap else V j,by omega,by go_num,?_,HM.out.2⟩,?_⟩
           ·rw [HST.out,Pln.step_of _ _ h7]
            refine HM.out.1.congr (fun _ _=>rfl) rfl fun j _=>?_
            dsimp only
            rw [HK.out]
            split
            ·rename_i hj
             rw [One.step_more (by simp),hj]
             rfl
            ·rfl
           ·simp [intOf];omega
        ·have n2:(kd == 2)=false:=by simp;omega
         have n3:(kd == 3)=false:=by simp;omega
         have n4:(kd == 4)=false:=by simp;omega
         have n5:(kd == 5)=false:=by simp;omega
         have n6:(kd == 6)=false:=by simp;omega
         have n7:(kd == 7)=false:=by simp;omega
         go_wp2_with fail
         go_roundw
         case rel =>
          refine ⟨i+1,V,by omega,by go_num,?_,HB.out,HR.out⟩
          rw [HST.out,Pln.step_of _ _ h7]
          refine HP.out.congr (fun _ _=>rfl) rfl fun j _=>?_
          dsimp only
          rw [One.step_none h23 h4 h56]
          split<;>rfl
         case measure=>simp [intOf];omega
  ·obtain rfl:i=n:=by omega
   have c0:=hP.cell (i:=0) (by omega)
   have f0:=hP.frozen 1
   have c5:=hP.opn (i:=0) (by omega)
   have f5:=hP.frozen 5
   have hP2:=hP.put (k:=0) (w':=wr) (v:=.slice none 0 0) (l:=[]) (by omega) false ⟨rfl,rfl,rfl,Nat.le_refl _,fun _ _ _=>rfl⟩ (World.ownsRow_nil _ _ _ _) (.inl rfl)
   simp only [Nat.add_zero] at c0 c5 hP2
   obtain ⟨A0,n0,hV0⟩:=own_slice (hP.own 0 (by omega))
   rw [hV0] at c0
   clear hV0
   have HP2:=hid hP2
   clear hP2
   go_upto_region 23 with fail
   have hP2:=HP2.out
   have hb2:Below w.heap.size w ((wr.setCell ⟨w.heap.size+1,1,none⟩ (.slice none 0 0)).setCell ⟨w.heap.size+1,5,none⟩ (.bool false)):=B_set (B_set hbl (Nat.le_succ _) _) (Nat.le_succ _) _
   have hr2:((wr.setCell ⟨w.heap.size+1,1,none⟩ (.slice none 0 0)).setCell ⟨w.heap.size+1,5,none⟩ (.bool false)).heap[w.heap.size]?=some (.cells zam 164 (0,0)) :=
    (Below.heap_setCell _ _ _ _ (by show _≠w.heap.size+1;omega)).trans ((Below.heap_setCell _ _ _ _ (by show _≠w.heap.size+1;omega)).trans hres)
   have hT:es.take i=es:=by rw [<- HN.out,List.take_length]
   rw [hT] at hP2
   generalize ((wr.setCell ⟨w.heap.size+1,1,none⟩ (.slice none 0 0)).setCell ⟨w.heap.size+1,5,none⟩ (.bool false))=W2 at hP2 hb2 hr2 ⊢
   clear HP2 hP c0 f0 c5 f5 hres hT hbl
   obtain ⟨A1,k1,hV1⟩:=own_slice (hP2.own 1 (by omega))
   obtain ⟨A2,k2,hV2⟩:=own_slice (hP2.own 2 (by omega))
   obtain ⟨A3,k3,hV3⟩:=own_slice (hP2.own 3 (by omega))
   have hown:∀ i,1<=i->i<4->W2.ownsRow w.heap.size 150 3 (V i) ((planOf es).s i).l.length (chgs ((planOf es).s i).l):=by
    intro i h1 h4
    have:=hP2.own i h4
    simpa only [if_neg (show i≠0 by omega)] using this
   simp only [if_neg (show (1:Nat)≠0 by omega),if_neg (show (2:Nat)≠0 by omega),if_neg (show (3:Nat)≠0 by omega)] at hV1 hV2 hV3
   have hblk:=hP2.blk
   have hcs:planCells ⟨(planOf es).fr,fun i=>if i=0 then ⟨[],false⟩ else (planOf es).s i⟩ (fun i=>if i=0 then .slice none 0 0 else V i)=#[.int .u64 (planOf es).fr,.slice none 0 0,.slice A1 ((planOf es).s 1).l.length k1,.slice A2 ((planOf es).s 2).l.length k2,.slice A3 ((planOf es).s 3).l.length k3,.bool false,.bool ((planOf es).s 1).o,.bool ((planOf es).s 2).o,.bool ((planOf es).s 3).o]:=by
    unfold planCells
    simp [hV1,hV2,hV3]
   rw [hcs] at hblk
   obtain ⟨HCS,HOWN⟩:=zi2 hcs hown
   clear hcs hown hV1 hV2 hV3 hP2
   have x0:W2.cell? ⟨w.heap.size+1,0,none⟩=some (.int .u64 (planOf es).fr):=cell_of_row W2 _ 0 _ _ _ hblk
   have r0:W2.cell? ⟨w.heap.size,0,none⟩=some (.int .u64 0):=cell_of_row W2 _ 0 _ _ _ hr2
   have q0:W2.frozen? ⟨w.heap.size,0,none⟩=false:=frozen_of_row W2 _ 0 _ _ hr2
   have x1:W2.cell? ⟨w.heap.size+1,1,none⟩=some (.slice none 0 0):=cell_of_row W2 _ 1 _ _ _ hblk
   have r1:W2.cell? ⟨w.heap.size,1,none⟩=some (.slice none 0 0):=cell_of_row W2 _ 1 _ _ _ hr2
   have q1:W2.frozen? ⟨w.heap.size,1,none⟩=false:=frozen_of_row W2 _ 1 _ _ hr2
   have x2:W2.cell? ⟨w.heap.size+1,2,none⟩=some (.slice A1 ((planOf es).s 1).l.length k1):=cell_of_row W2 _ 2 _ _ _ hblk
   have r2:W2.cell? ⟨w.heap.size,2,none⟩=some (.slice none 0 0):=cell_of_row W2 _ 2 _ _ _ hr2
   have q2:W2.frozen? ⟨w.heap.size,2,none⟩=false:=frozen_of_row W2 _ 2 _ _ hr2
   have x3:W2.cell? ⟨w.heap.size+1,3,none⟩=some (.slice A2 ((planOf es).s 2).l.length k2):=cell_of_row W2 _ 3 _ _ _ hblk
   have r3:W2.cell? ⟨w.heap.size,3,none⟩=some (.slice none 0 0):=cell_of_row W2 _ 3 _ _ _ hr2
   have q3:W2.frozen? ⟨w.heap.size,3,none⟩=false:=frozen_of_row W2 _ 3 _ _ hr2
   have x4:W2.cell? ⟨w.heap.size+1,4,none⟩=some (.slice A3 ((planOf es).s 3).l.length k3):=cell_of_row W2 _ 4 _ _ _ hblk
   have r4:W2.cell? ⟨w.heap.size,4,none⟩=some (.slice none 0 0):=cell_of_row W2 _ 4 _ _ _ hr2
   have q4:W2.frozen? ⟨w.heap.size,4,none⟩=false:=frozen_of_row W2 _ 4 _ _ hr2
   have x5:W2.cell? ⟨w.heap.size+1,5,none⟩=some (.bool false):=cell_of_row W2 _ 5 _ _ _ hblk
   have r5:W2.cell? ⟨w.heap.size,5,none⟩=some (.bool false):=cell_of_row W2 _ 5 _ _ _ hr2
   have q5:W2.frozen? ⟨w.heap.size,5,none⟩=false:=frozen_of_row W2 _ 5 _ _ hr2
   have x6:W2.cell? ⟨w.heap.size+1,6,none⟩=some (.bool ((planOf es).s 1).o):=cell_of_row W2 _ 6 _ _ _ hblk
   have r6:W2.cell? ⟨w.heap.size,6,none⟩=some (.bool false):=cell_of_row W2 _ 6 _ _ _ hr2
   have q6:W2.frozen? ⟨w.heap.size,6,none⟩=false:=frozen_of_row W2 _ 6 _ _ hr2
   have x7:W2.cell? ⟨w.heap.size+1,7,none⟩=some (.bool ((planOf es).s 2).o):=cell_of_row W2 _ 7 _ _ _ hblk
   have r7:W2.cell? ⟨w.heap.size,7,none⟩=some (.bool false):=cell_of_row W2 _ 7 _ _ _ hr2
   have q7:W2.frozen? ⟨w.heap.size,7,none⟩=false:=frozen_of_row W2 _ 7 _ _ hr2
   have x8:W2.cell? ⟨w.heap.size+1,8,none⟩=some (.bool ((planOf es).s 3).o):=cell_of_row W2 _ 8 _ _ _ hblk
   have r8:W2.cell? ⟨w.heap.size,8,none⟩=some (.bool false):=cell_of_row W2 _ 8 _ _ _ hr2
   have q8:W2.frozen? ⟨w.heap.size,8,none⟩=false:=frozen_of_row W2 _ 8 _ _ hr2
   have HH:=hid (zgp (b0:=(.int .u64 (planOf es).fr)) (b1:=(.slice none 0 0)) (b2:=(.slice A1 ((planOf es).s 1).l.length k1)) (b3:=(.slice A2 ((planOf es).s 2).l.length k2)) (b4:=(.slice A3 ((planOf es).s 3).l.length k3)) (b5:=(.bool false)) (b6:=(.bool ((planOf es).s 1).o)) (b7:=(.bool ((planOf es).s 2).o)) (b8:=(.bool ((planOf es).s 3).o)) hr2)
   obtain ⟨HB,HR⟩:=zi2 hb2 hr2
   clear hblk hr2 hb2
   go_wp2_with fail
   refine bodyPost_ret (results_cell_row rfl _ _ w.heap.size 164 _ _ _ rfl HH.out Tryz.underlying164 rfl zkX) rfl ?_
   refine ⟨⟨V,by rw [HCS.out],fun i h1 h4=>?_⟩,?_⟩
   ·exact zgN (HOWN.out i h1 h4) (own_ne (HOWN.out i h1 h4) HR.out (by decide)) _ _ _ _ _ _ _ _ _
   ·exact B_set (B_set (B_set (B_set (B_set (B_set (B_set (B_set (B_set HB.out (Nat.le_refl _) _) (Nat.le_refl _) _) (Nat.le_refl _) _) (Nat.le_refl _) _) (Nat.le_refl _) _) (Nat.le_refl _) _) (Nat.le_refl _) _) (Nat.le_refl _) _) (Nat.le_refl _) _
end Go.Proofs.YtechnoogjhohfaaGreat.Rs
namespace Go.Proofs.YtechnoogjhohfaaGreat.Rs
open Go.RowKit
def anal (es:List Ent):Pln:=⟨(planOf es).fr,fun i=>if i=0 then ⟨[],false⟩ else (planOf es).s i⟩
theorem chgs_at (l:List Chg):∀ (i:Nat) (h:i<l.length) (j:Nat),j<3->(chgs l)[i*3+j]?=(l[i]).cells[j]?:=by
 induction l with
 | nil=>intro i h;simp at h
 | cons e es ih =>
  intro i h j hj
  show (Chg.cells e++chgs es)[_]?=_
  cases i with
  | zero=>rw [List.getElem?_append_left (by simp [Chg.cells];omega)];simp
  | succ i =>
   rw [List.getElem?_append_right (by simp [Chg.cells];omega)]
   have:=ih i (by simpa using h) j hj
   rw [show (i+1)*3+j-(Chg.cells e).length=i*3+j by simp [Chg.cells];omega,this]
   rfl
theorem four {P:Nat->Option Addr->Nat->Prop} (h:∀ i,i<4->∃ A c,P i A c):∃ (A:Nat->Option Addr) (c:Nat->Nat),∀ i,i<4->P i (A i) (c i):=by
 obtain ⟨A0,c0,h0⟩:=h 0 (by omega)
 obtain ⟨A1,c1,h1⟩:=h 1 (by omega)
 obtain ⟨A2,c2,h2⟩:=h 2 (by omega)
 obtain ⟨A3,c3,h3⟩:=h 3 (by omega)
 refine ⟨fun i=>match i with | 0=>A0 | 1=>A1 | 2=>A2 | _=>A3,fun i=>match i with | 0=>c0 | 1=>c1 | 2=>c2 | _=>c3,fun i hi=>?_⟩
 match i,hi with
 | 0,_=>exact h0
 | 1,_=>exact h1
 | 2,_=>exact h2
 | 3,_=>exact h3
end Go.Proofs.YtechnoogjhohfaaGreat.Rs
