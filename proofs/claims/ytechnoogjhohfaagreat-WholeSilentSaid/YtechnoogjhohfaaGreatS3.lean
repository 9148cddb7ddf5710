import Derived.Test.YtechnoogjhohfaaGreatS2
import Derived.Laws.BytesArg
import Derived.Laws.IdiomStrings
set_option maxRecDepth 100000
set_option maxHeartbeats 6400000
set_option linter.unusedVariables false
set_option linter.unusedSimpArgs false
namespace Go.Proofs.YtechnoogjhohfaaGreat
open Go.RowKit Go.Lib
def zb (l:List UInt8):ByteArray:=⟨l.toArray⟩
theorem yh {w:World} {v:Value} {l:List UInt8} (h:zj w v l):(convert 29 9 v).run Tryz.prog w=.ok (.string (zb l)) w:=by
 obtain ⟨A,c,rfl,D,_,_⟩:=h;rcases A with _ | ad
 ·have h0:l.length=0:=by
   rcases Nat.eq_zero_or_pos l.length with h0 | h0
   ·exact h0
   ·obtain ⟨_,e,_⟩:=D.2 h0;cases e
  obtain rfl:l=[]:=yd h0;exact run_convert_bytes_nil (P:=Tryz.prog) w 29 5 Tryz.underlying29 Tryz.underlying5 _ _ 9 Tryz.underlying9
 ·refine run_convert_bytes_back (P:=Tryz.prog) w 29 9 5 ad c l Tryz.underlying29 Tryz.underlying5 Tryz.underlying9 fun j z=>?_;obtain ⟨O,u,e,_,L,E⟩:=D.cb z;injection e with e;subst e;rw [E,<- L];simp [zD,z]
theorem znE (l:List UInt8) (h:1<=l.length):QG (l.take 1)=(l[0]'(by omega)).toNat:=by
 cases l with
 | nil=>simp at h
 | cons b l=>simp [QG]
theorem znY (G:Nat) (b:UInt8) (s r:List UInt8) (w:World) (h:jw w G (b::(s++r)) false) (hb:b.toNat=s.length) (hs:(b::(s++r)).length<=1000000) :
  Calls Tryz.prog 54 #[.pointer (some ⟨G,0,none⟩)] w fun r' w'=>r'=.returned (.string (zb s))/\jw w' G r false/\w.grownBy w' (some G):=by
 have E:=hid h;have a1:=b.toNat_lt;have D:QG ((b::(s++r)).take 1)=s.length:=by rw [<- hb];simp [QG]
 have U:(s.length:Int)<=((s++r).length:Int):=by simp;omega
 have L:=hid D;have Z:(s++r).length<=1000000:=by simp at hs ⊢;omega
 have a3:s.length<256:=by omega
 clear h D;go_enter Tryz.func54,Tryz.ntmps54;go_wp2_with (first|(go_at_call 52;(with_reducible refine (zag G (b::(s++r)) 1 w E.o (by omega) (by omega) (by simp;omega) hs).mono ?_);rintro r1 w1 ⟨rfl,u,O⟩;rw [show (1:Int).toNat=1 from rfl,L.o];simp only [show (1:Int).toNat=1 from rfl,List.drop_succ_cons,List.drop_zero] at u)|(go_at_call 99;go_loud ((with_reducible refine (zfq G (s++r) s.length w1 u (by omega) U Z).mono ?_);rintro r2 w2 ⟨v,rfl,X,z,R⟩;have Y:w2.ownsRow w1.heap.size 5 1 v s.length (zD s):=(by simpa using X);have a0:=yh (zj.aj rfl Y))));go_ret;simp at z;exact ⟨rfl,z,O.trans R⟩
def vK (t:Int) (k v:ByteArray):Bool:=decide (0<=t) && decide (t<4) && decide ((k.size:Int)<=15) && decide ((v.size:Int)<=21)
theorem YV (t:Int) (k v:ByteArray) (w:World):Calls Tryz.prog 56 #[.agg #[.int .i64 t,.string k,.string v]] w fun r w'=>r=.returned (.bool (vK t k v))/\zd w w':=by
 obtain ⟨b,hb⟩:∃ b,b=vK t k v:=⟨_,rfl⟩;rw [<- hb];have h:=hid hb;clear hb;go_enter Tryz.func56,Tryz.ntmps56;go_wp2
 all_goals
  go_ret;refine ⟨?_,B_alloc (Below.refl _ _) _⟩;rw [h.o];show Ending.returned (Value.bool _)=Ending.returned (Value.bool _);unfold vK;congr 2
  first
   | (simp [*];done)
   | (simp [*];omega)
def QW (h:Int) (z:ByteArray) (u:Int) (D:ByteArray):Bool:=decide (h<u) || (h == u && Op.bytesLess z.toList D.toList)
theorem Yq (z D:Int) (h L u O:ByteArray) (w:World):Calls Tryz.prog 57 #[.agg #[.int .i64 z,.string h,.string L],.agg #[.int .i64 D,.string u,.string O]] w fun r w'=>r=.returned (.bool (QW z h D u))/\zd w w':=by
 obtain ⟨b,hb⟩:∃ b,b=QW z h D u:=⟨_,rfl⟩;rw [<- hb];have E:=hid hb;clear hb;go_enter Tryz.func57,Tryz.ntmps57;go_wp2
 all_goals
  go_ret;refine ⟨?_,B_alloc (B_alloc (Below.refl _ _) _) _⟩;rw [E.o];show Ending.returned (Value.bool _)=Ending.returned (Value.bool _);unfold QW;congr 2
  first
   | (simp [*];done)
   | (simp [*];omega)
def JR (c:Nat):Nat:=if c % 2=1 then (c / 2) ^^^ 3988292384 else c / 2
def ZF:Nat->Nat->Nat
 | 0,c=>c
 | k+1,c=>JR (ZF k c)
def zcr (c:Nat) (b:UInt8):Nat:=ZF 8 (c ^^^ b.toNat)
theorem zlf (f:BinOp) (g:Nat->Nat->Nat) (a b:Nat) (h:bits f .u32 (a:Int) (b:Int)=IntKind.u32.wrap ((g a b:Nat):Int)) (u:g a b<4294967296):bits f .u32 (a:Int) (b:Int)=((g a b:Nat):Int):=by rw [h];unfold IntKind.wrap;simp [IntKind.bits,IntKind.signed];omega
theorem zcF (a b:Nat) (h:a<4294967296) (hb:b<4294967296):bits .xor .u32 (a:Int) (b:Int)=((a ^^^ b:Nat):Int):=by refine zlf .xor (· ^^^ ·) a b ?_ (Nat.xor_lt_two_pow (n:=32) h hb);have e:bits .xor .u32 (a:Int) (b:Int)=IntKind.u32.wrap ((BitVec.ofInt 32 (a:Int) ^^^ BitVec.ofInt 32 (b:Int)).toNat:Int):=rfl;rw [e,BitVec.toNat_xor,BitVec.ofInt_natCast,BitVec.ofInt_natCast,BitVec.toNat_ofNat,BitVec.toNat_ofNat,Nat.mod_eq_of_lt (by omega),Nat.mod_eq_of_lt (by omega)]
theorem zqX (a:Nat) (u:a<4294967296):bits .and .u32 (a:Int) 1=((a % 2:Nat):Int):=by have e:bits .and .u32 (a:Int) ((1:Nat):Int)=IntKind.u32.wrap ((BitVec.ofInt 32 (a:Int) &&& BitVec.ofInt 32 ((1:Nat):Int)).toNat:Int):=rfl;have h:=zlf .and (· &&& ·) a 1 (by rw [e,BitVec.toNat_and,BitVec.ofInt_natCast,BitVec.ofInt_natCast,BitVec.toNat_ofNat,BitVec.toNat_ofNat,Nat.mod_eq_of_lt (by omega),Nat.mod_eq_of_lt (by omega)]) (Nat.lt_of_le_of_lt Nat.and_le_left u);rw [<- Nat.and_one_is_mod];exact h
theorem zlt (c:Nat) (h:c<4294967296):JR c<4294967296:=by
 unfold JR;split
 ·exact Nat.xor_lt_two_pow (n:=32) (by omega) (by omega)
 ·omega
theorem Kp (c:Nat) (h:c<4294967296):∀ k,ZF k c<4294967296
 | 0=>h
 | k+1=>zlt _ (Kp c h k)
theorem zjJ (c:Nat) (b:UInt8) (h:c<4294967296):zcr c b<4294967296:=by have:=b.toNat_lt;exact Kp _ (Nat.xor_lt_two_pow (n:=32) h (by omega)) 8
theorem zoi (c:Nat) (b:UInt8) (w:World) (L:c<4294967296):Calls Tryz.prog 100 #[.int .u32 c,.int .u8 b.toNat] w fun r w'=>r=.returned (.int .u32 (zcr c b))/\w'=w:=by
 have a0:=b.toNat_lt;have hw:IntKind.u32.wrap (b.toNat:Int)=(b.toNat:Int):=by unfold IntKind.wrap;simp [IntKind.bits,IntKind.signed];omega
 have U:=zcF c b.toNat L (by omega);obtain ⟨h,z⟩:∃ h,h=c ^^^ b.toNat:=⟨_,rfl⟩;rw [<- z] at U;have h0:h<4294967296:=by rw [z];exact Nat.xor_lt_two_pow (n:=32) L (by omega)
 have R:=hid z;clear z;go_enter Tryz.func100,Tryz.ntmps100;go_wp2;go_loopw [0,9] (fun v u wr=>∃ k:Nat,k<=8/\u=.int .i64 k/\v=.int .u32 (ZF k h)/\wr=w) (fun _ u _=>((8:Int)-intOf u).toNat)
 case atStart=>exact ⟨0,by omega,rfl,rfl,rfl⟩
 case round =>
  obtain ⟨k,hk,rfl,rfl,rfl⟩:=hrel;by_cases a1:k<8
  ·have O:=Kp h h0 k;have hs:ZF (k+1) h=JR (ZF k h):=rfl;have D:=hid hs;generalize ZF k h=d at O D ⊢;clear hs;have Z:=zqX d O;have X:=zcF (d / 2) 3988292384 (by omega) (by omega);by_cases E:d % 2=1
   ·go_wp2;refine ⟨⟨k+1,by omega,by go_num,?_,by trivial⟩,?_⟩
    ·rw [D.o];unfold JR;rw [if_pos E,<- X];rfl
    ·simp [intOf];omega
   ·have Y:d % 2=0:=by omega
    go_wp2;refine ⟨⟨k+1,by omega,by go_num,?_,by trivial⟩,?_⟩
    ·rw [D.o];unfold JR;rw [if_neg E];rfl
    ·simp [intOf];omega
  ·obtain rfl:k=8:=by omega
   go_wp2;go_ret;rw [R.o];exact ⟨rfl,rfl⟩
def KJ (c:Nat) (l:List UInt8):Nat:=l.foldl zcr c
theorem Ky (l:List UInt8):∀ c,c<4294967296->KJ c l<4294967296:=by
 induction l with
 | nil=>intro c h;exact h
 | cons b l u=>intro c h;exact u _ (zjJ c b h)
theorem zfC (c:Nat) (l:List UInt8) (i:Nat) (h:i<l.length):KJ c (l.take (i+1))=zcr (KJ c (l.take i)) l[i]:=by unfold KJ;rw [List.take_add_one,zX h,List.foldl_append];rfl
def ZB (l:List UInt8):Nat:=4294967295 ^^^ KJ 4294967295 l
theorem zcD (g off c:Nat) (v:Value) (l:List UInt8) (w:World) (hc:w.cell? ⟨g,off,none⟩=some v) (Y:zj w v l) (hs:l.length<=1000000) :
  Calls Tryz.prog 53 #[.slice (some ⟨g,off,none⟩) 1 c] w fun r w'=>r=.returned (.int .u32 (ZB l))/\w'=w:=by
 obtain ⟨A,cv,rfl,L,_,_⟩:=Y;have R:=hid L;clear L;go_enter Tryz.func53,Tryz.ntmps53;go_wp2;refine wp_loop_rounds 2 ?_;rw [rounds_succ];go_wp2;go_loopw [3,16] (fun u v wr=>∃ k:Nat,k<=l.length/\v=.int .i64 k/\u=.int .u32 (KJ 4294967295 (l.take k))/\wr=w) (fun _ v _=>((l.length:Int)-intOf v).toNat)
 case atStart=>exact ⟨0,by omega,rfl,rfl,rfl⟩
 case round =>
  obtain ⟨k,hk,rfl,rfl,rfl⟩:=hrel;by_cases E:k<l.length
  ·obtain ⟨ad,u,rfl,_,h,X⟩:=R.o.cb E;have Z:u=.int .u8 (l[k].toNat):=by
    have:(zD l)[k]?=some (.int .u8 (l[k].toNat)):=by simp [zD,E]
    rw [this] at h;injection h with h;exact h.symm
   subst Z;have D:=zfC 4294967295 l k E;have z:=Ky (l.take k) 4294967295 (by omega);generalize KJ 4294967295 (l.take k)=d at D z ⊢;generalize l[k]=b at D X;have U:=hid D;have a0:(0:Int)<=(k:Int):=by omega
   have a1:(k:Int)<(l.length:Int):=by omega
   clear D h;go_wp2_with (go_at_call 100;(with_reducible refine (zoi d b wr z).mono ?_);rintro r w1 ⟨rfl,rfl⟩);go_roundw
   case rel=>exact ⟨k+1,by omega,by go_num,by rw [U.o],by trivial⟩
   case measure=>simp [intOf];omega
  ·obtain rfl:k=l.length:=by omega
   rw [qi];have z:=Ky l 4294967295 (by omega);obtain ⟨d,hd⟩:∃ d,d=KJ 4294967295 l:=⟨_,rfl⟩;rw [<- hd] at z ⊢;have O:=hid hd;clear hd;go_wp2;rw [rounds_succ];go_wp2;go_ret;have h:=zcF 4294967295 d (by omega) z;refine ⟨?_,rfl⟩;show Ending.returned (.int .u32 (bits .xor .u32 ((4294967295:Nat):Int) (d:Int)))=_;rw [h];unfold ZB;rw [<- O.o]
def zdJ (s:ByteArray):Bool:=s.toList.isEmpty || decide ((s.size:Int)=40)
theorem Gh (s:ByteArray) (w:World):Calls Tryz.prog 142 #[.string s] w fun r w'=>r=.returned (.bool (zdJ s))/\w'=w:=by
 obtain ⟨b,hb⟩:∃ b,b=zdJ s:=⟨_,rfl⟩;rw [<- hb];have h:=hid hb;clear hb;go_enter Tryz.func142,Tryz.ntmps142;go_wp2
 all_goals
  go_ret;refine ⟨?_,rfl⟩;show Ending.returned (Value.bool _)=Ending.returned (Value.bool _);have hb:=h.o;unfold zdJ at hb;rw [hb]
  first
   | (simp [*];done)
   | (congr 2;done)
   | (congr 2;simp [*];done)
end Go.Proofs.YtechnoogjhohfaaGreat
