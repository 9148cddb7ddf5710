/-
  Joined by a program from texts written one by one: part 3 of the walk through the program and of the law behind it.
-/
import Derived.Test.YtechnoogjhohfaaGreatC2
import Derived.Laws.BytesArg
import Derived.Laws.IdiomStrings
set_option maxRecDepth 100000
set_option maxHeartbeats 6400000
set_option linter.unusedVariables false
set_option linter.unusedSimpArgs false
namespace Go.Proofs.YtechnoogjhohfaaGreat
open Go.RowKit Go.Lib
def za (l:List UInt8):ByteArray:=⟨l.toArray⟩
theorem jr {w:World} {v:Value} {l:List UInt8} (h:ze w v l):(convert 29 9 v).run Tryz.prog w=.ok (.string (za l)) w:=by
 obtain ⟨A,c,rfl,hr,_,_⟩:=h
 rcases A with _ | ad
 ·have h0:l.length=0:=by
   rcases Nat.eq_zero_or_pos l.length with h0 | h0
   ·exact h0
   ·obtain ⟨_,e,_⟩:=hr.2 h0
    cases e
  obtain rfl:l=[]:=List.eq_nil_of_length_eq_zero h0
  exact run_convert_bytes_nil (P:=Tryz.prog) w 29 5 Tryz.underlying29 Tryz.underlying5 _ _ 9 Tryz.underlying9
 ·refine run_convert_bytes_back (P:=Tryz.prog) w 29 9 5 ad c l Tryz.underlying29 Tryz.underlying5 Tryz.underlying9 fun j hj=>?_
  obtain ⟨ad',u,e,_,hx,hc⟩:=hr.at_ hj
  injection e with e
  subst e
  rw [hc,<- hx]
  simp [zo,hj]
theorem ziR (G:Nat) (b:UInt8) (s r:List UInt8) (w:World) (h:jg w G (b::(s++r)) false) (hb:b.toNat=s.length) (hs:(b::(s++r)).length<=1000000) :
  Calls Tryz.prog 54 #[.pointer (some ⟨G,0,none⟩)] w fun r' w'=>r'=.returned (.string (za s))/\jg w' G r false/\w.grownBy w' (some G):=by
 have HH:=hid h
 have hlt:=b.toNat_lt
 have hn:YI ((b::(s++r)).take 1)=s.length:=by rw [<- hb];simp [YI]
 have hk:(s.length:Int)<=((s++r).length:Int):=by simp;omega
 have HN:=hid hn
 have hs2:(s++r).length<=1000000:=by simp at hs ⊢;omega
 have hsl:s.length<256:=by omega
 clear h hn
 go_enter Tryz.func54,Tryz.ntmps54
 go_wp2_with (first
  | (go_at_call 52;(with_reducible refine (zgI G (b::(s++r)) 1 w HH.out (by omega) (by omega) (by simp;omega) hs).mono ?_);rintro r1 w1 ⟨rfl,hR,hg⟩;rw [show (1:Int).toNat=1 from rfl,HN.out];simp only [show (1:Int).toNat=1 from rfl,List.drop_succ_cons,List.drop_zero] at hR)
  | (go_at_call 99;go_loud ((with_reducible refine (zeH G (s++r) s.length w1 hR (by omega) hk hs2).mono ?_);rintro r2 w2 ⟨v,rfl,hown,hR2,hg2⟩;have hown':w2.ownsRow w1.heap.size 5 1 v s.length (zo s):=(by simpa using hown);have hcv:=jr (ze.of_own rfl hown'))))
 go_ret
 simp at hR2
 exact ⟨rfl,hR2,hg.trans hg2⟩
def KO (t:Int) (k v:ByteArray):Bool:=decide (0<=t) && decide (t<4) && decide ((k.size:Int)<=15) && decide ((v.size:Int)<=21)
theorem zgY (t:Int) (k v:ByteArray) (w:World):Calls Tryz.prog 56 #[.agg #[.int .i64 t,.string k,.string v]] w fun r w'=>r=.returned (.bool (KO t k v))/\Below w.heap.size w w':=by
 obtain ⟨b,hb⟩:∃ b,b=KO t k v:=⟨_,rfl⟩
 rw [<- hb]
 have HB:=hid hb
 clear hb
 go_enter Tryz.func56,Tryz.ntmps56
 go_wp2
 all_goals
  go_ret
  refine ⟨?_,B_alloc (Below.refl _ _) _⟩
  rw [HB.out]
  show Ending.returned (Value.bool _)=Ending.returned (Value.bool _)
  unfold KO
  congr 2
  first
   | (simp [*];done)
   | (simp [*];omega)
def QM (t1:Int) (k1:ByteArray) (t2:Int) (k2:ByteArray):Bool:=decide (t1<t2) || (t1 == t2 && Op.bytesLess k1.toList k2.toList)
theorem Jc (t1 t2:Int) (k1 v1 k2 v2:ByteArray) (w:World):Calls Tryz.prog 57 #[.agg #[.int .i64 t1,.string k1,.string v1],.agg #[.int .i64 t2,.string k2,.string v2]] w fun r w'=>r=.returned (.bool (QM t1 k1 t2 k2))/\Below w.heap.size w w':=by
 obtain ⟨b,hb⟩:∃ b,b=QM t1 k1 t2 k2:=⟨_,rfl⟩
 rw [<- hb]
 have HB:=hid hb
 clear hb
 go_enter Tryz.func57,Tryz.ntmps57
 go_wp2
 all_goals
  go_ret
  refine ⟨?_,B_alloc (B_alloc (Below.refl _ _) _) _⟩
  rw [HB.out]
  show Ending.returned (Value.bool _)=Ending.returned (Value.bool _)
  unfold QM
  congr 2
  first
   | (simp [*];done)
   | (simp [*];omega)
def Zu (c:Nat):Nat:=if c % 2=1 then (c / 2) ^^^ 3988292384 else c / 2
def vL:Nat->Nat->Nat
 | 0,c=>c
 | k+1,c=>Zu (vL k c)
def KX (c:Nat) (b:UInt8):Nat:=vL 8 (c ^^^ b.toNat)
theorem zfZ (f:BinOp) (g:Nat->Nat->Nat) (a b:Nat) (h:bits f .u32 (a:Int) (b:Int)=IntKind.u32.wrap ((g a b:Nat):Int)) (hg:g a b<4294967296):bits f .u32 (a:Int) (b:Int)=((g a b:Nat):Int):=by
 rw [h];unfold IntKind.wrap;simp [IntKind.bits,IntKind.signed];omega
theorem Gj (a b:Nat) (ha:a<4294967296) (hb:b<4294967296):bits .xor .u32 (a:Int) (b:Int)=((a ^^^ b:Nat):Int):=by
 refine zfZ .xor (· ^^^ ·) a b ?_ (Nat.xor_lt_two_pow (n:=32) ha hb)
 have e:bits .xor .u32 (a:Int) (b:Int)=IntKind.u32.wrap ((BitVec.ofInt 32 (a:Int) ^^^ BitVec.ofInt 32 (b:Int)).toNat:Int):=rfl
 rw [e,BitVec.toNat_xor,BitVec.ofInt_natCast,BitVec.ofInt_natCast,BitVec.toNat_ofNat,BitVec.toNat_ofNat,Nat.mod_eq_of_lt (by omega),Nat.mod_eq_of_lt (by omega)]
theorem zle (a:Nat) (ha:a<4294967296):bits .and .u32 (a:Int) 1=((a % 2:Nat):Int):=by
 have e:bits .and .u32 (a:Int) ((1:Nat):Int)=IntKind.u32.wrap ((BitVec.ofInt 32 (a:Int) &&& BitVec.ofInt 32 ((1:Nat):Int)).toNat:Int):=rfl
 have h:=zfZ .and (· &&& ·) a 1 (by rw [e,BitVec.toNat_and,BitVec.ofInt_natCast,BitVec.ofInt_natCast,BitVec.toNat_ofNat,BitVec.toNat_ofNat,Nat.mod_eq_of_lt (by omega),Nat.mod_eq_of_lt (by omega)]) (Nat.lt_of_le_of_lt Nat.and_le_left ha)
 rw [<- Nat.and_one_is_mod]
 exact h
theorem zgi (c:Nat) (h:c<4294967296):Zu c<4294967296:=by
 unfold Zu
 split
 ·exact Nat.xor_lt_two_pow (n:=32) (by omega) (by omega)
 ·omega
theorem QJ (c:Nat) (h:c<4294967296):∀ k,vL k c<4294967296
 | 0=>h
 | k+1=>zgi _ (QJ c h k)
theorem zeQ (c:Nat) (b:UInt8) (h:c<4294967296):KX c b<4294967296:=by
 have:=b.toNat_lt
 exact QJ _ (Nat.xor_lt_two_pow (n:=32) h (by omega)) 8
theorem ziY (c:Nat) (b:UInt8) (w:World) (hc:c<4294967296):Calls Tryz.prog 100 #[.int .u32 c,.int .u8 b.toNat] w fun r w'=>r=.returned (.int .u32 (KX c b))/\w'=w:=by
 have hbt:=b.toNat_lt
 have hw:IntKind.u32.wrap (b.toNat:Int)=(b.toNat:Int):=by unfold IntKind.wrap;simp [IntKind.bits,IntKind.signed];omega
 have hx:=Gj c b.toNat hc (by omega)
 obtain ⟨c0,hc0⟩:∃ c0,c0=c ^^^ b.toNat:=⟨_,rfl⟩
 rw [<- hc0] at hx
 have h0:c0<4294967296:=by rw [hc0];exact Nat.xor_lt_two_pow (n:=32) hc (by omega)
 have HC0:=hid hc0
 clear hc0
 go_enter Tryz.func100,Tryz.ntmps100
 go_wp2
 go_loopw [0,9] (fun v u wr=>∃ k:Nat,k<=8/\u=.int .i64 k/\v=.int .u32 (vL k c0)/\wr=w) (fun _ u _=>((8:Int)-intOf u).toNat)
 case atStart=>exact ⟨0,by omega,rfl,rfl,rfl⟩
 case round =>
  obtain ⟨k,hk,rfl,rfl,rfl⟩:=hrel
  by_cases hlt:k<8
  ·have hl:=QJ c0 h0 k
   have hs:vL (k+1) c0=Zu (vL k c0):=rfl
   have HS:=hid hs
   generalize vL k c0=d at hl HS ⊢
   clear hs
   have ha:=zle d hl
   have hx2:=Gj (d / 2) 3988292384 (by omega) (by omega)
   by_cases h2:d % 2=1
   ·go_wp2
    refine ⟨⟨k+1,by omega,by go_num,?_,by trivial⟩,?_⟩
    ·rw [HS.out]
     unfold Zu
     rw [if_pos h2,<- hx2]
     rfl
    ·simp [intOf];omega
   ·have h20:d % 2=0:=by omega
    go_wp2
    refine ⟨⟨k+1,by omega,by go_num,?_,by trivial⟩,?_⟩
    ·rw [HS.out]
     unfold Zu
     rw [if_neg h2]
     rfl
    ·simp [intOf];omega
  ·obtain rfl:k=8:=by omega
   go_wp2
   go_ret
   rw [HC0.out]
   exact ⟨rfl,rfl⟩
def QX (c:Nat) (l:List UInt8):Nat:=l.foldl KX c
theorem Yb (l:List UInt8):∀ c,c<4294967296->QX c l<4294967296:=by
 induction l with
 | nil=>intro c h;exact h
 | cons b l ih=>intro c h;exact ih _ (zeQ c b h)
theorem zbk (c:Nat) (l:List UInt8) (i:Nat) (hi:i<l.length):QX c (l.take (i+1))=KX (QX c (l.take i)) l[i]:=by
 unfold QX
 rw [List.take_add_one,List.getElem?_eq_getElem hi,List.foldl_append];rfl
def QK (l:List UInt8):Nat:=4294967295 ^^^ QX 4294967295 l
theorem zkj (g off c:Nat) (v:Value) (l:List UInt8) (w:World) (hc:w.cell? ⟨g,off,none⟩=some v) (hl:ze w v l) (hs:l.length<=1000000) :
  Calls Tryz.prog 53 #[.slice (some ⟨g,off,none⟩) 1 c] w fun r w'=>r=.returned (.int .u32 (QK l))/\w'=w:=by
 obtain ⟨A,cv,rfl,hr,_,_⟩:=hl
 have HR:=hid hr
 clear hr
 go_enter Tryz.func53,Tryz.ntmps53
 go_wp2
 refine wp_loop_rounds 2 ?_
 rw [rounds_succ]
 go_wp2
 go_loopw [3,16] (fun u v wr=>∃ k:Nat,k<=l.length/\v=.int .i64 k/\u=.int .u32 (QX 4294967295 (l.take k))/\wr=w) (fun _ v _=>((l.length:Int)-intOf v).toNat)
 case atStart=>exact ⟨0,by omega,rfl,rfl,rfl⟩
 case round =>
  obtain ⟨k,hk,rfl,rfl,rfl⟩:=hrel
  by_cases hlt:k<l.length
  ·obtain ⟨ad,u,rfl,_,hx,hcell⟩:=HR.out.at_ hlt
   have hu:u=.int .u8 (l[k].toNat):=by
    have:(zo l)[k]?=some (.int .u8 (l[k].toNat)):=by simp [zo,hlt]
    rw [this] at hx
    injection hx with hx
    exact hx.symm
   subst hu
   have hs1:=zbk 4294967295 l k hlt
   have hlt2:=Yb (l.take k) 4294967295 (by omega)
   generalize QX 4294967295 (l.take k)=d at hs1 hlt2 ⊢
   generalize l[k]=b at hs1 hcell
   have HS:=hid hs1
   have hka:(0:Int)<=(k:Int):=by omega
   have hkb:(k:Int)<(l.length:Int):=by omega
   clear hs1 hx
   go_wp2_with (go_at_call 100;(with_reducible refine (ziY d b wr hlt2).mono ?_);rintro r w1 ⟨rfl,rfl⟩)
   go_roundw
   case rel=>exact ⟨k+1,by omega,by go_num,by rw [HS.out],by trivial⟩
   case measure=>simp [intOf];omega
  ·obtain rfl:k=l.length:=by omega
   rw [List.take_length]
   have hlt2:=Yb l 4294967295 (by omega)
   obtain ⟨d,hd⟩:∃ d,d=QX 4294967295 l:=⟨_,rfl⟩
   rw [<- hd] at hlt2 ⊢
   have HD:=hid hd
   clear hd
   go_wp2
   rw [rounds_succ]
   go_wp2
   go_ret
   have hx:=Gj 4294967295 d (by omega) hlt2
   refine ⟨?_,rfl⟩
   show Ending.returned (.int .u32 (bits .xor .u32 ((4294967295:Nat):Int) (d:Int)))=_
   rw [hx]
   unfold QK
   rw [<- HD.out]
def GV (s:ByteArray):Bool:=s.toList.isEmpty || decide ((s.size:Int)=40)
theorem Jt (s:ByteArray) (w:World):Calls Tryz.prog 142 #[.string s] w fun r w'=>r=.returned (.bool (GV s))/\w'=w:=by
 obtain ⟨b,hb⟩:∃ b,b=GV s:=⟨_,rfl⟩
 rw [<- hb]
 have HB:=hid hb
 clear hb
 go_enter Tryz.func142,Tryz.ntmps142
 go_wp2
 all_goals
  go_ret
  refine ⟨?_,rfl⟩
  show Ending.returned (Value.bool _)=Ending.returned (Value.bool _)
  have hb:=HB.out
  unfold GV at hb
  rw [hb]
  first
   | (simp [*];done)
   | (congr 2;done)
   | (congr 2;simp [*];done)
end Go.Proofs.YtechnoogjhohfaaGreat
