/-
  Joined by a program from texts written one by one: part 18 of the walk through the program and of the law behind it.
-/
import Derived.Test.YtechnoogjhohfaaGreatC17
import Derived.DeepKeys4
import Derived.StillTailTactics
import Derived.Test.YtechnoogjhohfaaGreatRows
import Derived.WalkLawsBesides
import Derived.WalkSpells
set_option maxRecDepth 100000
set_option maxHeartbeats 6400000
set_option linter.unusedVariables false
set_option linter.unusedSimpArgs false
namespace Go.Proofs.YtechnoogjhohfaaGreat
open Go.RowKit Go.Maps
abbrev Nm:=Int × ByteArray × Bool
abbrev jn:=List (Int × Int)
def yP (x:Int):Value:=.int .i64 x
def iok (x:Int):Prop:=(Lit.int .i64 x).wf=true
theorem ut:Zq Tryz.prog 3 yP iok:=⟨int_keyed Tryz.underlying3,fun x hx=>⟨_,keyOf_int_mk Tryz.underlying3 hx⟩,fun x y h=>by unfold yP at h;injection h⟩
theorem YV (w:World):(zeroValue 3).run Tryz.prog w=.ok (yP 0) w:=by kernel_rfl
theorem iok_of {x:Int} (h:-9223372036854775808<=x/\x<=9223372036854775807):iok x:=WalkArith.wf_i64 h
def vB (n:Nm):Value:=.agg #[.int .i64 n.1,.string n.2.1,.bool n.2.2]
def Jf (n:Nm):Prop:=iok n.1/\n.2.1.size<=maxLen
def Jg (o:Option Nat):Value:=.map o
theorem zjL:laidOutB Tryz.prog=true:=by kernel_rfl
theorem zjp:235<Tryz.prog.types.size:=of_decide_eq_true (by kernel_rfl)
theorem zkK:Keyed Tryz.prog 235:=Keyed.of_law (Go.deep_law_laid zjL (m:=3) (by omega) zjp (by kernel_rfl) (by kernel_rfl))
theorem zjP {P : Program} {k a b c : TypeId} {fs : Array Field} {f0 f1 f2 : Field} (hk : P.underlying k = some (.struct fs)) (hfs : fs = #[f0, f1, f2]) (e0 : f0.type = a /\ f0.offset = 0 /\ (f0.name != "_") = true) (e1 : f1.type = b /\ f1.offset = 1 /\ (f1.name != "_") = true) (e2 : f2.type = c /\ f2.offset = 2 /\ (f2.name != "_") = true)
  (kt:P.keyType k=true) (hc:P.cellsOf k=3) (ha:P.underlying a=some (.int .i64)) (hb:P.underlying b=some .string) (hcc:P.underlying c=some .bool) (ca:P.cellsOf a=1) (cb:P.cellsOf b=1) (cc:P.cellsOf c=1) (hsz:∃ m,P.types.size=m+1)
  (n:Nm) (h1:(Lit.int .i64 n.1).wf=true) (h2:n.2.1.size<=maxLen):∃ l,keyOf P k (vB n)=some l:=by
 obtain ⟨m,hm⟩:=hsz
 subst hfs
 obtain ⟨rfl,o0,n0⟩:=e0
 obtain ⟨rfl,o1,n1⟩:=e1
 obtain ⟨rfl,o2,n2⟩:=e2
 refine ⟨.string (keyBytes [.int .i64 n.1,.string n.2.1.data.toList,.bool n.2.2]),?_⟩
 simp only [bne_iff_ne,ne_eq] at n0 n1 n2
 simp [keyOf,hk,kt,vB,Value.formed,hc,hm,Value.cells,Program.keyLits,ha,hb,hcc,ca,cb,cc,h1,h2,o0,o1,o2,n0,n1,n2]
theorem zhs:∃ m,Tryz.prog.types.size=m+1:=⟨Tryz.prog.types.size-1,by have:=zjp;omega⟩
theorem zlx (n:Nm) (h:Jf n):∃ l,keyOf Tryz.prog 235 (vB n)=some l :=
 zjP Tryz.underlying235 rfl ⟨rfl,rfl,by decide⟩ ⟨rfl,rfl,by decide⟩ ⟨rfl,rfl,by decide⟩ (by kernel_rfl) (by kernel_rfl) Tryz.underlying3 Tryz.underlying9 Tryz.underlying4 (by kernel_rfl) (by kernel_rfl) (by kernel_rfl) zhs n h.1 h.2
theorem JS:Zq Tryz.prog 235 vB Jf:=⟨zkK,zlx,fun x y h=>by
 unfold vB at h
 obtain ⟨a,b,c⟩:=x
 obtain ⟨a',b',c'⟩:=y
 simp at h
 obtain ⟨rfl,rfl,rfl⟩:=h
 rfl⟩
theorem Yy (w:World):(zeroValue 137).run Tryz.prog w=.ok (Jg none) w:=by kernel_rfl
abbrev Lk:=List (Nm × jn)
def zW (M:Lk) (n:Nm):jn:=(zF M n).getD []
def vo (a b:Int):Int:=if a=0∨a=b then b else if b=0 then a else 3
def Zv (a b:Int):Bool:=decide (a=b) && !decide (a=3)
def Qk (h:jn) (who want:Int):Bool:=h.any fun p=>!decide (p.1=who) && !Zv want p.2
def vz (M:Lk) (who:Int) (n:Nm) (mode:Int):Int:=vo ((zF (zW M n) who).getD 0) mode
def takeM (M:Lk) (who:Int) (n:Nm) (mode:Int):Lk:=aput M n (aput (zW M n) who (vz M who n mode))
def dropM (M:Lk) (who:Int):Lk:=(M.map fun p=>(p.1,adel p.2 who)).filter fun p=>!p.2.isEmpty
theorem zcq (a b:Int) (w:World):Calls Tryz.prog 152 #[.int .i64 a,.int .i64 b] w fun e w'=>e=.returned (.int .i64 (vo a b))/\w'=w:=by
 by_cases h1:a=0
 ·have h1':(a == 0)=true:=by simpa using h1
  have e:vo a b=b:=by unfold vo;rw [if_pos (.inl h1)]
  rw [e]
  clear h1 e
  go_enter Tryz.func152,Tryz.ntmps152
  go_wp2
  go_ret
  exact ⟨rfl,rfl⟩
 ·have h1':(a == 0)=false:=by simpa using h1
  by_cases h2:a=b
  ·have h2':(a == b)=true:=by simpa using h2
   have e:vo a b=b:=by unfold vo;rw [if_pos (.inr h2)]
   rw [e]
   clear h1 h2 e
   go_enter Tryz.func152,Tryz.ntmps152
   go_wp2
   go_ret
   exact ⟨rfl,rfl⟩
  ·have h2':(a == b)=false:=by simpa using h2
   by_cases h3:b=0
   ·have h3':(b == 0)=true:=by simpa using h3
    have e:vo a b=a:=by unfold vo;rw [if_neg (fun h=>h.elim h1 h2),if_pos h3]
    rw [e]
    clear h1 h2 h3 e
    go_enter Tryz.func152,Tryz.ntmps152
    go_wp2
    go_ret
    exact ⟨rfl,rfl⟩
   ·have h3':(b == 0)=false:=by simpa using h3
    have e:vo a b=3:=by unfold vo;rw [if_neg (fun h=>h.elim h1 h2),if_neg h3]
    rw [e]
    clear h1 h2 h3 e
    go_enter Tryz.func152,Tryz.ntmps152
    go_wp2
    go_ret
    exact ⟨rfl,rfl⟩
theorem zcC (a b:Int) (w:World):Calls Tryz.prog 153 #[.int .i64 a,.int .i64 b] w fun e w'=>e=.returned (.bool (Zv a b))/\w=w':=by
 by_cases h1:a=b
 ·have h1':(a == b)=true:=by simpa using h1
  by_cases h2:a=3
  ·have h2':(a != 3)=false:=by simpa using h2
   have e:Zv a b=false:=by unfold Zv;rw [decide_eq_true h2];simp
   rw [e]
   clear h1 h2 e
   go_enter Tryz.func153,Tryz.ntmps153
   go_wp2
   go_ret
   exact ⟨rfl,rfl⟩
  ·have h2':(a != 3)=true:=by simpa using h2
   have e:Zv a b=true:=by unfold Zv;rw [decide_eq_true h1,decide_eq_false h2];rfl
   rw [e]
   clear h1 h2 e
   go_enter Tryz.func153,Tryz.ntmps153
   go_wp2
   go_ret
   exact ⟨rfl,rfl⟩
 ·have h1':(a == b)=false:=by simpa using h1
  have e:Zv a b=false:=by unfold Zv;rw [decide_eq_false h1];rfl
  rw [e]
  clear h1 e
  go_enter Tryz.func153,Tryz.ntmps153
  go_wp2
  go_ret
  exact ⟨rfl,rfl⟩
section
theorem vW {K V V':Type} [DecidableEq K] (g:V->V') (l:List (K × V)) (x:K):zF (l.map fun p=>(p.1,g p.2)) x=(zF l x).map g:=by
 induction l with
 | nil=>rfl
 | cons p l ih=>rw [List.map_cons,jd,jd,ih];by_cases h:p.1=x<;>simp [h]
theorem zhL {K V V':Type} [DecidableEq K] (g:V->V') (l:List (K × V)) (x:K):qb (l.map fun p=>(p.1,g p.2)) x=qb l x:=by
 rw [jA,jA,vW];cases zF l x<;>rfl
theorem GE {K V V':Type} [DecidableEq K] (g:V->V') (l:List (K × V)) (x:K) (v:V):aput (l.map fun p=>(p.1,g p.2)) x (g v)=(aput l x v).map fun p=>(p.1,g p.2):=by
 unfold aput
 rw [zhL]
 by_cases h:qb l x=true
 ·rw [if_pos h,if_pos h,List.map_map,List.map_map]
  refine List.map_congr_left fun p _=>?_
  simp only [Function.comp]
  by_cases h2:p.1=x<;>simp [h2]
 ·rw [if_neg h,if_neg h,List.map_append];rfl
theorem GD {K V V':Type} [DecidableEq K] (g:V->V') (l:List (K × V)) (x:K):adel (l.map fun p=>(p.1,g p.2)) x=(adel l x).map fun p=>(p.1,g p.2):=by
 unfold adel;rw [List.filter_map];rfl
abbrev Tb:=List (Nm × (Nat × jn))
structure zM (w:World) (B b bm:Nat) (T:Tb):Prop where
 blk:w.heap[b]?=some (.cells #[.map (some bm)] 222 (0,0))
 outer:zU w vB Jf Jg bm (T.map fun p=>(p.1,(fun q:Nat × jn=>some q.1) p.2))
 inner:∀ p∈T,zU w yP iok yP p.2.1 p.2.2
 base:∀ p∈T,B<=p.2.1
 apart:T.Pairwise fun p q=>p.2.1≠q.2.1
 low:bm<B
 blow:b<B
 size:B<=w.heap.size
def zh (T:Tb):Lk:=T.map fun p=>(p.1,(fun q:Nat × jn=>q.2) p.2)
def zjt (w:World) (B b bm:Nat) (M:Lk):Prop:=∃ T,zM w B b bm T/\M=zh T
section
variable {w w':World} {B b bm:Nat} {T:Tb}
theorem zM.ne (h:zM w B b bm T):bm≠b:=by
 rintro rfl
 obtain ⟨es,clock,hb,_⟩:=h.outer
 rw [h.blk] at hb;cases hb
theorem zM.below (h:zM w B b bm T) (k:Below w.heap.size w w'):zM w' B b bm T :=
 ⟨(k.block b (Array.getElem?_eq_some_iff.1 h.blk).1).trans h.blk,h.outer.below k h.outer.lt,fun p hp=>(h.inner p hp).below k (h.inner p hp).lt,h.base,h.apart,h.low,h.blow,Nat.le_trans h.size k.size⟩
theorem zM.apartT (h:zM w B b bm T):js T:=by
 have:=h.outer.apart
 unfold js at this ⊢
 rw [List.pairwise_map] at this
 exact this
theorem zM.get (h:zM w B b bm T) {n:Nm} {bi:Nat} {l:jn} (hg:zF T n=some (bi,l)):zU w yP iok yP bi l/\B<=bi :=
 ⟨h.inner _ (qP hg),h.base _ (qP hg)⟩
theorem uU (T:Tb) (n:Nm):zF (zh T) n=(zF T n).map fun q=>q.2:=vW _ T n
theorem uT {T:Tb} {n:Nm} {bi:Nat} {l:jn} (hg:zF T n=some (bi,l)):zW (zh T) n=l:=by
 unfold zW;rw [uU,hg];rfl
theorem Qd {T:Tb} {n:Nm} (hg:zF T n=none):zW (zh T) n=[]:=by
 unfold zW;rw [uU,hg];rfl
theorem zM.change (h:zM w B b bm T) {n:Nm} {bi:Nat} {l l':jn} (hg:zF T n=some (bi,l)) (t:zn (fun i=>i=bi) w w') (hm:zU w' yP iok yP bi l'):zM w' B b bm (aput T n (bi,l')):=by
 have hin:=h.get hg
 have hbm:¬ bm=bi:=by have:=h.low;omega
 have hbb:¬ b=bi:=by have:=h.blow;omega
 have hh:qb T n=true:=by rw [jA,hg];rfl
 have hout:zU w' vB Jf Jg bm (T.map fun p=>(p.1,(fun q:Nat × jn=>some q.1) p.2)):=h.outer.turns t hbm
 have hsame:(aput T n (bi,l')).map (fun p=>(p.1,(fun q:Nat × jn=>some q.1) p.2))=T.map fun p=>(p.1,(fun q:Nat × jn=>some q.1) p.2):=by
  unfold aput
  rw [if_pos hh,List.map_map]
  refine List.map_congr_left fun p hp=>?_
  simp only [Function.comp]
  by_cases e:p.1=n
  ·have:p=(n,(bi,l)):=by
    have h1:=Zg h.apartT hp
    rw [e,hg] at h1
    injection h1 with h1
    obtain ⟨p1,p2⟩:=p
    simp only at e h1
    rw [e,<- h1]
   rw [if_pos e,this]
  ·rw [if_neg e]
 have hmem:∀ p∈aput T n (bi,l'),p=(n,(bi,l'))∨(p∈T/\p.1≠n):=by
  intro p hp
  unfold aput at hp
  rw [if_pos hh] at hp
  obtain ⟨q,hq,rfl⟩:=List.mem_map.1 hp
  by_cases e:q.1=n
  ·rw [if_pos e];exact .inl rfl
  ·rw [if_neg e];exact .inr ⟨hq,e⟩
 have hblk:∀ p∈T,p.1≠n->p.2.1≠bi:=by
  intro p hp hne e
  have h1:(n,(bi,l))∈T:=qP hg
  have hpw:=h.apart
  have key:∀ {L:Tb},L.Pairwise (fun p q=>p.2.1≠q.2.1)->∀ x∈L,∀ y∈L,x.2.1=y.2.1->x=y:=by
   intro L hL
   induction L with
   | nil=>intro x hx;cases hx
   | cons z L ih =>
    obtain ⟨hz,hL'⟩:=List.pairwise_cons.1 hL
    intro x hx y hy hxy
    rcases List.mem_cons.1 hx with rfl | hx'<;>rcases List.mem_cons.1 hy with rfl | hy'
    ·rfl
    ·exact absurd hxy (hz y hy')
    ·exact absurd hxy.symm (hz x hx')
    ·exact ih hL' x hx' y hy' hxy
  have:=key hpw p hp _ h1 e
  exact hne (by rw [this])
 refine ⟨(t.block b (Array.getElem?_eq_some_iff.1 h.blk).1 hbb).trans h.blk,by rw [hsame];exact hout,?_,?_,?_,h.low,h.blow,Nat.le_trans h.size t.size⟩
 ·intro p hp
  rcases hmem p hp with rfl | ⟨hp',hne⟩
  ·exact hm
  ·exact (h.inner p hp').turns t (hblk p hp' hne)
 ·intro p hp
  rcases hmem p hp with rfl | ⟨hp',_⟩
  ·exact hin.2
  ·exact h.base p hp'
 ·have e2:(aput T n (bi,l')).map (fun p=>p.2.1)=T.map fun p=>p.2.1:=by
   have:=congrArg (List.map fun q:Nm × Option Nat=>q.2) hsame
   rw [List.map_map,List.map_map] at this
   have h3:((aput T n (bi,l')).map (fun p=>p.2.1)).map some=(T.map fun p=>p.2.1).map some:=by
    rw [List.map_map,List.map_map];exact this
   exact (List.map_inj_right (fun x y h=>by injection h)).1 h3
  have h1:(T.map fun p=>p.2.1).Nodup:=by unfold List.Nodup;rw [List.pairwise_map];exact h.apart
  rw [<- e2] at h1
  unfold List.Nodup at h1
  rw [List.pairwise_map] at h1
  exact h1
theorem zM.more (h:zM w B b bm T) {n:Nm} (hn:qb T n=false) {bi:Nat} {l:jn} (hbi:w.heap.size<=bi) (t:zn (fun i=>i=bm) w w') (hm:zU w' yP iok yP bi l)
  (hout:zU w' vB Jf Jg bm (aput (T.map fun p=>(p.1,(fun q:Nat × jn=>some q.1) p.2)) n (some bi))):zM w' B b bm (aput T n (bi,l)):=by
 have hbb:¬ b=bm:=fun e=>h.ne e.symm
 have hlt:∀ p∈T,p.2.1<w.heap.size:=fun p hp=>(h.inner p hp).lt
 have hbs:=h.size
 refine ⟨(t.block b (Array.getElem?_eq_some_iff.1 h.blk).1 hbb).trans h.blk,?_,?_,?_,?_,h.low,h.blow,Nat.le_trans h.size t.size⟩
 ·rw [<- GE (fun q:Nat × jn=>some q.1)];exact hout
 ·intro p hp
  rw [ZL _ hn] at hp
  rcases List.mem_append.1 hp with hp | hp
  ·exact (h.inner p hp).turns t (by have:=h.base p hp;have:=h.low;omega)
  ·simp at hp;subst hp;exact hm
 ·intro p hp
  rw [ZL _ hn] at hp
  rcases List.mem_append.1 hp with hp | hp
  ·exact h.base p hp
  ·simp at hp;subst hp;show B<=bi;omega
 ·rw [ZL _ hn]
  refine List.pairwise_append.2 ⟨h.apart,by simp,?_⟩
  intro p hp q hq
  simp at hq;subst hq
  have:=hlt p hp
  show p.2.1≠bi
  omega
end
theorem qV.left_eq {K V:Type} {f:K->Value} {ok:K->Prop} {g:V->Value} {w:World} {b r:Nat} {l left:List (K × V)} (h:qV w f ok g b r l left):w.rangeLeft b r=left.length:=by
 obtain ⟨es,clock,since,seen,c0,hb,_,_,_,hr,_,_,_,hl,_⟩:=h
 have:=congrArg List.length hl
 simp only [List.length_map,Array.length_toList] at this
 simp only [World.rangeLeft,hb,hr]
 exact this
theorem ZS {K V:Type} [DecidableEq K] {l:List (K × V)} {p:K × V} (h:p∈l):(adel l p.1).length<l.length:=by
 unfold adel
 exact List.length_filter_lt_length_iff_exists.2 ⟨p,h,by simp⟩
end
theorem YC (h:jn) (who want:Int):Qk h who want=true↔∃ p∈h,p.1≠who/\Zv want p.2=false:=by
 unfold Qk;rw [List.any_eq_true]
 constructor
 ·rintro ⟨p,hp,hb⟩;simp at hb;exact ⟨p,hp,hb.1,hb.2⟩
 ·rintro ⟨p,hp,h1,h2⟩;exact ⟨p,hp,by simp [h1,h2]⟩
theorem zhy (B b bm:Nat) (T:Tb) (who mode:Int) (n:Nm) (bi:Nat) (l:jn) (hg:zF T n=some (bi,l)) (hn:Jf n) (hw:iok who) (w:World) (h:zM w B b bm T) :
  Calls Tryz.prog 130 #[.pointer (some ⟨b,0,none⟩),.int .i64 who,vB n,.int .i64 mode] w fun e w' =>
   (Qk l who (vo ((zF l who).getD 0) mode)=true/\e=.returned (.bool false)/\Below w.heap.size w w') ∨
   (Qk l who (vo ((zF l who).getD 0) mode)=false/\e=.returned (.bool true)/\zM w' B b bm (aput T n (bi,aput l who (vo ((zF l who).getD 0) mode)))/\zn (fun i=>i=bi) w w'):=by
 obtain ⟨want,hwant⟩:∃ want,vo ((zF l who).getD 0) mode=want:=⟨_,rfl⟩
 rw [hwant]
 obtain ⟨nt,nk,nw⟩:=n
 have hblk0:(w.alloc (.cells #[.int .i64 nt,.string nk,.bool nw] 235)).heap[w.heap.size]?=some (.cells #[.int .i64 nt,.string nk,.bool nw] 235 (0,0)):=heap_alloc_new w _
 have hB0:Below w.heap.size w (w.alloc (.cells #[.int .i64 nt,.string nk,.bool nw] 235)):=(Below.refl _ _).alloc (Nat.le_refl _) _
 have hA:=h.below hB0
 have hsz:(w.alloc (.cells #[.int .i64 nt,.string nk,.bool nw] 235)).heap.size=w.heap.size+1:=by simp
 unfold vB
 go_enter Tryz.func130,Tryz.ntmps130
 go_wp2_with fail
 generalize w.alloc (.cells #[.int .i64 nt,.string nk,.bool nw] 235)=W at hblk0 hB0 hA hsz ⊢
 obtain ⟨s,hs⟩:∃ s,s=w.heap.size:=⟨_,rfl⟩
 rw [<- hs] at hblk0 hsz ⊢
 have k0:W.cell? ⟨s,0,none⟩=some (.int .i64 nt):=cell_of_row W s 0 _ _ _ hblk0
 have k1:W.cell? ⟨s,1,none⟩=some (.string nk):=cell_of_row W s 1 _ _ _ hblk0
 have k2:W.cell? ⟨s,2,none⟩=some (.bool nw):=cell_of_row W s 2 _ _ _ hblk0
 have c0:W.cell? ⟨b,0,none⟩=some (.map (some bm)):=cell_of_row W b 0 _ _ _ hA.blk
 have hin:=hA.get hg
 have hl1:∀ W':World,W'.heap=W.heap->(Instr.lookup 220 (.map (some bm)) (.agg #[.int .i64 nt,.string nk,.bool nw]) false).run Tryz.prog W'=.ok (.map (some bi)) W':=by
  intro W' hW'
  have:=(hA.outer.of_block (w':=W') (by rw [hW'])).lookup JS Tryz.underlying220 (v0:=none) (Yy _) hn false
  rw [vW (fun q:Nat × jn=>some q.1),hg] at this
  exact this
 have hl2:∀ n,(Instr.lookup 137 (.map (some bi)) (.int .i64 who) false).run Tryz.prog (W.drewN n)=.ok (.int .i64 ((zF l who).getD 0)) (W.drewN n):=by
  intro n
  exact (hin.1.drewN n).lookup ut Tryz.underlying137 (v0:=0) (YV _) hw false
 have hl1n:∀ n,(Instr.lookup 220 (.map (some bm)) (.agg #[.int .i64 nt,.string nk,.bool nw]) false).run Tryz.prog (W.drewN n)=.ok (.map (some bi)) (W.drewN n):=fun n=>hl1 _ rfl
 obtain ⟨HL1,HS⟩:=zi2 hl1 hs
 clear hl1 hs
 go_quiet ((go_at_call 152;exact Calls.quiet_of_same (zcq _ _ _)))
 rw [hwant]
 have HW:=hid hwant
 clear hwant hl1n hl2
 go_wp2_with fail
 have hA2:zM (W.drewN nq) B b bm T:=hA.below ⟨rfl,rfl,rfl,Nat.le_refl _,fun _ _=>rfl⟩
 have hB2:Below w.heap.size w (W.drewN nq):=hB0.trans ⟨rfl,rfl,rfl,Nat.le_refl _,fun _ _=>rfl⟩
 have hblk2:(W.drewN nq).heap[s]?=_:=hblk0
 have hsz2:(W.drewN nq).heap.size=s+1:=hsz
 have hl2:∀ W':World,W'.heap=(W.drewN nq).heap->(Instr.lookup 220 (.map (some bm)) (.agg #[.int .i64 nt,.string nk,.bool nw]) false).run Tryz.prog W'=.ok (.map (some bi)) W':=HL1.out
 clear k0 k1 k2 c0 hin hA hB0 hblk0 hsz HL1
 generalize W.drewN nq=W2 at hA2 hB2 hblk2 hsz2 hl2 ⊢
 have k0:W2.cell? ⟨s,0,none⟩=some (.int .i64 nt):=cell_of_row W2 s 0 _ _ _ hblk2
 have k1:W2.cell? ⟨s,1,none⟩=some (.string nk):=cell_of_row W2 s 1 _ _ _ hblk2
 have k2:W2.cell? ⟨s,2,none⟩=some (.bool nw):=cell_of_row W2 s 2 _ _ _ hblk2
 have c0:W2.cell? ⟨b,0,none⟩=some (.map (some bm)):=cell_of_row W2 b 0 _ _ _ hA2.blk
 have hin:=hA2.get hg
 have HSZ:=hid hsz2
 clear hsz2
 have hl3:(Instr.lookup 220 (.map (some bm)) (.agg #[.int .i64 nt,.string nk,.bool nw]) false).run Tryz.prog W2.drew=.ok (.map (some bi)) W2.drew:=hl2 _ rfl
 have HL2:=hid hl2
 clear hl2
 go_still_tail 6,(by kernel_rfl)
 clear hl3
 change wpList _ _ _ _ _ W2.drew
 refine ZG _ rfl _ 137 3 rfl Tryz.underlying137 rfl hin.1.drew ?_
 intro w3 hr3 t3 s3
 go_frame
 go_wp2_with fail
 have er:W2.drew.heap.size=s+1:=HSZ.out
 rw [er] at hr3 s3 ⊢
 have hT3:zn (fun _=>False) W2 w3:=((zn.refl (fun _=>False) W2).drew).trans t3
 have hB23:Below W2.heap.size W2 w3:=hT3.below (Nat.le_refl _) (fun _ _ h=>h)
 have hA3:=hA2.below hB23
 have hs1:s<W2.heap.size:=by have:=HSZ.out;omega
 have hsw:w.heap.size<=s:=by have:=HS.out;omega
 have hblk3:=(hB23.block s hs1).trans hblk2
 have hB3:Below w.heap.size w w3:=hB2.trans (hB23.mono hB2.size)
 have hl4:∀ W':World,W'.heap[bm]?=w3.heap[bm]?->(Instr.lookup 220 (.map (some bm)) (.agg #[.int .i64 nt,.string nk,.bool nw]) false).run Tryz.prog W'=.ok (.map (some bi)) W':=by
  intro W' hW'
  have:=(hA3.outer.of_block (w':=W') hW').lookup JS Tryz.underlying220 (v0:=none) (Yy _) hn false
  rw [vW (fun q:Nat × jn=>some q.1),hg] at this
  exact this
 have HL4:=hid hl4
 have hin3:=hA3.get hg
 have hbi:bi<s:=by have h1:=(h.get hg).1.lt;have:=HS.out;omega
 clear k0 k1 k2 c0 hin hA2 hB2 hblk2 HL2 t3 hT3 hB23 er hl4 s3
 go_loopw [8] (fun v wr=>∃ left,v=.bool false/\qV wr yP iok yP bi (s+1) l left/\(∀ p∈l,p∈left∨¬(p.1≠who/\Zv want p.2=false))/\zn (fun i=>i=s+1) w3 wr) (fun _ wr=>wr.rangeLeft bi (s+1))
 case atStart=>exact ⟨l,rfl,hr3,fun p hp=>.inl hp,zn.refl _ _⟩
 case round =>
  clear hr3
  obtain ⟨left,rfl,hrg,hpass,ht⟩:=hrel
  go_wp2_with (first
   | (at_next;refine Yv _ rfl _ rfl ut.inj rfl hrg ?_ ?_))
  ·intro hleft
   have hB5:Below w.heap.size w wr:=hB3.trans (ht.below hB3.size (by intro i hi e;omega))
   have hA5:=h.below hB5
   have hs3:s<w3.heap.size:=(Array.getElem?_eq_some_iff.1 hblk3).1
   have hblk5:wr.heap[s]?=some (.cells #[.int .i64 nt,.string nk,.bool nw] 235 (0,0)):=(ht.block s hs3 (by omega)).trans hblk3
   have hl6:∀ W':World,W'.heap[bm]?=wr.heap[bm]?->(Instr.lookup 220 (.map (some bm)) (.agg #[.int .i64 nt,.string nk,.bool nw]) false).run Tryz.prog W'=.ok (.map (some bi)) W':=by
    intro W' hW'
    have hbm3:bm<w3.heap.size:=hA3.outer.lt
    have hbms:bm<s:=by have:=h.outer.lt;have:=HS.out;omega
    exact HL4.out W' (hW'.trans (ht.block bm hbm3 (by omega)))
   have hbar:Qk l who want=false:=by
    cases hb:Qk l who want with
    | false=>rfl
    | true =>
     obtain ⟨p,hp,h1,h2⟩:=(YC _ _ _).1 hb
     rcases hpass p hp with h3 | h3
     ·rw [hleft] at h3;cases h3
     ·exact absurd ⟨h1,h2⟩ h3
   have k0:wr.cell? ⟨s,0,none⟩=some (.int .i64 nt):=cell_of_row wr s 0 _ _ _ hblk5
   have k1:wr.cell? ⟨s,1,none⟩=some (.string nk):=cell_of_row wr s 1 _ _ _ hblk5
   have k2:wr.cell? ⟨s,2,none⟩=some (.bool nw):=cell_of_row wr s 2 _ _ _ hblk5
   have c0:wr.cell? ⟨b,0,none⟩=some (.map (some bm)):=cell_of_row wr b 0 _ _ _ hA5.blk
   have hl7:∀ n,(Instr.lookup 220 (.map (some bm)) (.agg #[.int .i64 nt,.string nk,.bool nw]) false).run Tryz.prog (wr.drewN n)=.ok (.map (some bi)) (wr.drewN n):=fun n=>hl6 _ rfl
   have hnil:∀ W':World,(binOp .eql 137 (.map (some bi)) (.map none)).run Tryz.prog W'=.ok (.bool false) W':=fun W'=>run_eql_map_nil W' 137 3 3 (some bi) Tryz.underlying137
   obtain ⟨HBAR,HL6⟩:=zi2 hbar hl6
   clear hleft hpass hl6 hbar hblk3 hs3 hA3 hin3 HL4 hs1
   go_wp2_with fail
   go_quiet (fail)
   go_wp2_with fail
   have hB7:Below w.heap.size w (wr.drewN nq):=hB5.trans ⟨rfl,rfl,rfl,Nat.le_refl _,fun _ _=>rfl⟩
   have hblk7:(wr.drewN nq).heap[s]?=some (.cells #[.int .i64 nt,.string nk,.bool nw] 235 (0,0)):=hblk5
   have hl8:∀ W':World,W'.heap=(wr.drewN nq).heap->(Instr.lookup 220 (.map (some bm)) (.agg #[.int .i64 nt,.string nk,.bool nw]) false).run Tryz.prog W'=.ok (.map (some bi)) W':=fun W' hW'=>HL6.out W' (by rw [hW'];rfl)
   clear k0 k1 k2 c0 hl7 hB5 hA5 hblk5 HL6 hrg ht hB3 hnil
   generalize wr.drewN nq=W7 at hB7 hblk7 hl8 ⊢
   have hA7:=h.below hB7
   have k0:W7.cell? ⟨s,0,none⟩=some (.int .i64 nt):=cell_of_row W7 s 0 _ _ _ hblk7
   have k1:W7.cell? ⟨s,1,none⟩=some (.string nk):=cell_of_row W7 s 1 _ _ _ hblk7
   have k2:W7.cell? ⟨s,2,none⟩=some (.bool nw):=cell_of_row W7 s 2 _ _ _ hblk7
   have c0:W7.cell? ⟨b,0,none⟩=some (.map (some bm)):=cell_of_row W7 b 0 _ _ _ hA7.blk
   have hl9:(Instr.lookup 220 (.map (some bm)) (.agg #[.int .i64 nt,.string nk,.bool nw]) false).run Tryz.prog W7.drew=.ok (.map (some bi)) W7.drew:=hl8 _ rfl
   have hin7:=hA7.get hg
   clear hl8
   go_still_tail 8,(by kernel_rfl)
   clear hl9
   change wpList _ _ _ _ _ W7.drew
   refine yu _ rfl _ _ _ 137 3 rfl ut Tryz.underlying137 rfl hin7.1.drew who rfl hw want rfl ?_
   intro w9 h9 t9
   go_frame
   go_wp2_with fail
   go_ret
   have hT9:zn (fun i=>i=bi) W7 w9:=((zn.refl _ _).drew).turned t9 (.inr rfl)
   have hT:zn (fun i=>i=bi) w w9:=(zn.of_below hB7).trans hT9
   exact .inr ⟨HBAR.out,rfl,h.change hg hT h9,hT⟩
  ·intro pk pv hp w4 hr4 t4 s4 hen
   have hpl:=hrg.sub.subset hp
   simp only [yP] at hen ⊢
   have hmeas:(adel left pk).length<left.length:=ZS hp
   obtain ⟨HR,HPASS⟩:=zi2 hr4 hpass
   clear hr4 hpass
   by_cases hpk:pk=who
   ·have hpk':(pk != who)=false:=by simpa using hpk
    have HPK:=hid hpk
    clear hpk
    go_wp2
    go_roundw
    case rel =>
     refine ⟨adel left pk,rfl,HR.out,fun q hq=>?_,ht.trans t4⟩
     rcases HPASS.out q hq with h1 | h1
     ·by_cases e:q.1=pk
      ·exact .inr fun h2=>h2.1 (e.trans HPK.out)
      ·exact .inl (List.mem_filter.2 ⟨h1,by simp [e]⟩)
     ·exact .inr h1
    case measure=>rw [hrg.left_eq,HR.out.left_eq];exact hmeas
   ·have hpk':(pk != who)=true:=by simpa using hpk
    have HPK:=hid hpk
    clear hpk
    by_cases hf:Zv want pv=true
    ·have HF:=hid hf
     clear hf
     go_wp2_with (first
      | (go_at_call 153;refine (zcC _ _ _).mono ?_;rintro e w' ⟨rfl,rfl⟩;rw [HF.out]))
     go_roundw
     case rel =>
      refine ⟨adel left pk,rfl,HR.out,fun q hq=>?_,ht.trans t4⟩
      rcases HPASS.out q hq with h1 | h1
      ·by_cases e:q.1=pk
       ·have e2:q=(pk,pv):=by
         have a1:=Zg hrg.map.apart hq
         have a2:=Zg hrg.map.apart hpl
         rw [e] at a1
         simp only at a2
         rw [a2] at a1
         injection a1 with a1
         obtain ⟨q1,q2⟩:=q
         simp only at e a1
         rw [e,<- a1]
        refine .inr fun h2=>?_
        rw [e2] at h2
        have h3:=h2.2
        simp only at h3
        rw [HF.out] at h3
        cases h3
       ·exact .inl (List.mem_filter.2 ⟨h1,by simp [e]⟩)
      ·exact .inr h1
     case measure=>rw [hrg.left_eq,HR.out.left_eq];exact hmeas
    ·have hf':Zv want pv=false:=by simpa using hf
     have HF:=hid hf'
     clear hf hf'
     go_wp2_with (first
      | (go_at_call 153;refine (zcC _ _ _).mono ?_;rintro e w' ⟨rfl,rfl⟩;rw [HF.out]))
     go_ret
     refine .inl ⟨(YC _ _ _).2 ⟨_,hpl,HPK.out,HF.out⟩,rfl,hB3.trans ?_⟩
     exact (ht.trans t4).below hB3.size (by intro i hi e;omega)
end Go.Proofs.YtechnoogjhohfaaGreat
