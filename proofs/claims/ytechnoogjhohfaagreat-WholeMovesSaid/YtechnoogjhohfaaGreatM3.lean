import Derived.Test.YtechnoogjhohfaaGreatM2
import Derived.Laws.BytesArg
import Derived.Laws.IdiomStrings
set_option maxRecDepth 100000
set_option maxHeartbeats 6400000
set_option linter.unusedVariables false
set_option linter.unusedSimpArgs false
namespace Go.Proofs.YtechnoogjhohfaaGreat
open Go.RowKit Go.Lib
def zb (l:List UInt8):ByteArray:=⟨l.toArray⟩
theorem yk {w:World} {v:Value} {l:List UInt8} (h:zi w v l):(convert 29 9 v).run Tryz.prog w=.ok (.string (zb l)) w:=by
 obtain ⟨A,c,rfl,D,_,_⟩:=h;rcases A with _ | E
 ·have h0:l.length=0:=by
   rcases Nat.eq_zero_or_pos l.length with h0 | h0
   ·exact h0
   ·obtain ⟨_,e,_⟩:=D.2 h0;cases e
  obtain rfl:l=[]:=yh h0;exact run_convert_bytes_nil (P:=Tryz.prog) w 29 5 Tryz.underlying29 Tryz.underlying5 _ _ 9 Tryz.underlying9
 ·refine run_convert_bytes_back (P:=Tryz.prog) w 29 9 5 E c l Tryz.underlying29 Tryz.underlying5 Tryz.underlying9 fun j z=>?_;obtain ⟨R,u,e,_,O,L⟩:=D.ca z;injection e with e;subst e;rw [L,<- O];simp [zE,z]
theorem zoc (l:List UInt8) (h:1<=l.length):QM (l.take 1)=(l[0]'(by omega)).toNat:=by
 cases l with
 | nil=>simp at h
 | cons b l=>simp [QM]
theorem zox (G:Nat) (b:UInt8) (s r:List UInt8) (w:World) (h:jw w G (b::(s++r)) false) (hb:b.toNat=s.length) (hs:(b::(s++r)).length<=1000000) :
  Calls Tryz.prog 54 #[.pointer (some ⟨G,0,none⟩)] w fun r' w'=>r'=.returned (.string (zb s))/\jw w' G r false/\w.grownBy w' (some G):=by
 have E:=hid h;have a1:=b.toNat_lt;have D:QM ((b::(s++r)).take 1)=s.length:=by rw [<- hb];simp [QM]
 have U:(s.length:Int)<=((s++r).length:Int):=by simp;omega
 have L:=hid D;have Z:(s++r).length<=1000000:=by simp at hs ⊢;omega
 have a3:s.length<256:=by omega
 clear h D;go_enter Tryz.func54,Tryz.ntmps54;go_wp2_with (first|(go_at_call 52;(with_reducible refine (zak G (b::(s++r)) 1 w E.o (by omega) (by omega) (by simp;omega) hs).mono ?_);rintro r1 w1 ⟨rfl,u,O⟩;rw [show (1:Int).toNat=1 from rfl,L.o];simp only [show (1:Int).toNat=1 from rfl,List.drop_succ_cons,List.drop_zero] at u)|(go_at_call 99;go_loud ((with_reducible refine (zfD G (s++r) s.length w1 u (by omega) U Z).mono ?_);rintro r2 w2 ⟨v,rfl,X,z,R⟩;have Y:w2.ownsRow w1.heap.size 5 1 v s.length (zE s):=(by simpa using X);have a0:=yk (zi.aj rfl Y))));go_ret;simp at z;exact ⟨rfl,z,O.trans R⟩
def yZ (t:Int) (k v:ByteArray):Bool:=decide (0<=t) && decide (t<4) && decide ((k.size:Int)<=15) && decide ((v.size:Int)<=21)
theorem YZ (t:Int) (k v:ByteArray) (w:World):Calls Tryz.prog 56 #[.agg #[.int .i64 t,.string k,.string v]] w fun r w'=>r=.returned (.bool (yZ t k v))/\zd w w':=by
 obtain ⟨b,hb⟩:∃ b,b=yZ t k v:=⟨_,rfl⟩;rw [<- hb];have h:=hid hb;clear hb;go_enter Tryz.func56,Tryz.ntmps56;go_wp2
 all_goals
  go_ret;refine ⟨?_,B_alloc (Below.refl _ _) _⟩;rw [h.o];show Ending.returned (Value.bool _)=Ending.returned (Value.bool _);unfold yZ;congr 2
  first
   | (simp [*];done)
   | (simp [*];omega)
def Ja (h:Int) (z:ByteArray) (u:Int) (D:ByteArray):Bool:=decide (h<u) || (h == u && Op.bytesLess z.toList D.toList)
theorem Yt (z D:Int) (h L u O:ByteArray) (w:World):Calls Tryz.prog 57 #[.agg #[.int .i64 z,.string h,.string L],.agg #[.int .i64 D,.string u,.string O]] w fun r w'=>r=.returned (.bool (Ja z h D u))/\zd w w':=by
 obtain ⟨b,hb⟩:∃ b,b=Ja z h D u:=⟨_,rfl⟩;rw [<- hb];have E:=hid hb;clear hb;go_enter Tryz.func57,Tryz.ntmps57;go_wp2
 all_goals
  go_ret;refine ⟨?_,B_alloc (B_alloc (Below.refl _ _) _) _⟩;rw [E.o];show Ending.returned (Value.bool _)=Ending.returned (Value.bool _);unfold Ja;congr 2
  first
   | (simp [*];done)
   | (simp [*];omega)
def JV (c:Nat):Nat:=if c % 2=1 then (c / 2) ^^^ 3988292384 else c / 2
def ZK:Nat->Nat->Nat
 | 0,c=>c
 | k+1,c=>JV (ZK k c)
def zcz (c:Nat) (b:UInt8):Nat:=ZK 8 (c ^^^ b.toNat)
theorem zlx (f:BinOp) (g:Nat->Nat->Nat) (a b:Nat) (h:bits f .u32 (a:Int) (b:Int)=IntKind.u32.wrap ((g a b:Nat):Int)) (u:g a b<4294967296):bits f .u32 (a:Int) (b:Int)=((g a b:Nat):Int):=by rw [h];unfold IntKind.wrap;simp [IntKind.bits,IntKind.signed];omega
theorem zcO (a b:Nat) (h:a<4294967296) (hb:b<4294967296):bits .xor .u32 (a:Int) (b:Int)=((a ^^^ b:Nat):Int):=by refine zlx .xor (· ^^^ ·) a b ?_ (Nat.xor_lt_two_pow (n:=32) h hb);have e:bits .xor .u32 (a:Int) (b:Int)=IntKind.u32.wrap ((BitVec.ofInt 32 (a:Int) ^^^ BitVec.ofInt 32 (b:Int)).toNat:Int):=rfl;rw [e,BitVec.toNat_xor,BitVec.ofInt_natCast,BitVec.ofInt_natCast,BitVec.toNat_ofNat,BitVec.toNat_ofNat,Nat.mod_eq_of_lt (by omega),Nat.mod_eq_of_lt (by omega)]
theorem zrz (a:Nat) (u:a<4294967296):bits .and .u32 (a:Int) 1=((a % 2:Nat):Int):=by have e:bits .and .u32 (a:Int) ((1:Nat):Int)=IntKind.u32.wrap ((BitVec.ofInt 32 (a:Int) &&& BitVec.ofInt 32 ((1:Nat):Int)).toNat:Int):=rfl;have h:=zlx .and (· &&& ·) a 1 (by rw [e,BitVec.toNat_and,BitVec.ofInt_natCast,BitVec.ofInt_natCast,BitVec.toNat_ofNat,BitVec.toNat_ofNat,Nat.mod_eq_of_lt (by omega),Nat.mod_eq_of_lt (by omega)]) (Nat.lt_of_le_of_lt Nat.and_le_left u);rw [<- Nat.and_one_is_mod];exact h
theorem zlL (c:Nat) (h:c<4294967296):JV c<4294967296:=by
 unfold JV;split
 ·exact Nat.xor_lt_two_pow (n:=32) (by omega) (by omega)
 ·omega
theorem Kt (c:Nat) (h:c<4294967296):∀ k,ZK k c<4294967296
 | 0=>h
 | k+1=>zlL _ (Kt c h k)
theorem zkf (c:Nat) (b:UInt8) (h:c<4294967296):zcz c b<4294967296:=by have:=b.toNat_lt;exact Kt _ (Nat.xor_lt_two_pow (n:=32) h (by omega)) 8
theorem zoG (c:Nat) (b:UInt8) (w:World) (L:c<4294967296):Calls Tryz.prog 100 #[.int .u32 c,.int .u8 b.toNat] w fun r w'=>r=.returned (.int .u32 (zcz c b))/\w'=w:=by
 have a0:=b.toNat_lt;have hw:IntKind.u32.wrap (b.toNat:Int)=(b.toNat:Int):=by unfold IntKind.wrap;simp [IntKind.bits,IntKind.signed];omega
 have U:=zcO c b.toNat L (by omega);obtain ⟨h,z⟩:∃ h,h=c ^^^ b.toNat:=⟨_,rfl⟩;rw [<- z] at U;have h0:h<4294967296:=by rw [z];exact Nat.xor_lt_two_pow (n:=32) L (by omega)
 have R:=hid z;clear z;go_enter Tryz.func100,Tryz.ntmps100;go_wp2;go_loopw [0,9] (fun v u wr=>∃ k:Nat,k<=8/\u=.int .i64 k/\v=.int .u32 (ZK k h)/\wr=w) (fun _ u _=>((8:Int)-intOf u).toNat)
 case atStart=>exact ⟨0,by omega,rfl,rfl,rfl⟩
 case round =>
  obtain ⟨k,hk,rfl,rfl,rfl⟩:=hrel;by_cases a1:k<8
  ·have O:=Kt h h0 k;have hs:ZK (k+1) h=JV (ZK k h):=rfl;have D:=hid hs;generalize ZK k h=d at O D ⊢;clear hs;have Z:=zrz d O;have X:=zcO (d / 2) 3988292384 (by omega) (by omega);by_cases E:d % 2=1
   ·go_wp2;refine ⟨⟨k+1,by omega,by go_num,?_,by trivial⟩,?_⟩
    ·rw [D.o];unfold JV;rw [if_pos E,<- X];rfl
    ·simp [intOf];omega
   ·have Y:d % 2=0:=by omega
    go_wp2;refine ⟨⟨k+1,by omega,by go_num,?_,by trivial⟩,?_⟩
    ·rw [D.o];unfold JV;rw [if_neg E];rfl
    ·simp [intOf];omega
  ·obtain rfl:k=8:=by omega
   go_wp2;go_ret;rw [R.o];exact ⟨rfl,rfl⟩
def KL (c:Nat) (l:List UInt8):Nat:=l.foldl zcz c
theorem KD (l:List UInt8):∀ c,c<4294967296->KL c l<4294967296:=by
 induction l with
 | nil=>intro c h;exact h
 | cons b l u=>intro c h;exact u _ (zkf c b h)
theorem zfQ (c:Nat) (l:List UInt8) (i:Nat) (h:i<l.length):KL c (l.take (i+1))=zcz (KL c (l.take i)) l[i]:=by unfold KL;rw [List.take_add_one,qa h,List.foldl_append];rfl
def Zr (l:List UInt8):Nat:=4294967295 ^^^ KL 4294967295 l
theorem zcM (g off c:Nat) (v:Value) (l:List UInt8) (w:World) (hc:w.cell? ⟨g,off,none⟩=some v) (Y:zi w v l) (hs:l.length<=1000000) :
  Calls Tryz.prog 53 #[.slice (some ⟨g,off,none⟩) 1 c] w fun r w'=>r=.returned (.int .u32 (Zr l))/\w'=w:=by
 obtain ⟨A,cv,rfl,L,_,_⟩:=Y;have R:=hid L;clear L;go_enter Tryz.func53,Tryz.ntmps53;go_wp2;refine wp_loop_rounds 2 ?_;rw [rounds_succ];go_wp2;go_loopw [3,16] (fun u v wr=>∃ k:Nat,k<=l.length/\v=.int .i64 k/\u=.int .u32 (KL 4294967295 (l.take k))/\wr=w) (fun _ v _=>((l.length:Int)-intOf v).toNat)
 case atStart=>exact ⟨0,by omega,rfl,rfl,rfl⟩
 case round =>
  obtain ⟨k,hk,rfl,rfl,rfl⟩:=hrel;by_cases E:k<l.length
  ·obtain ⟨ad,u,rfl,_,h,X⟩:=R.o.ca E;have Z:u=.int .u8 (l[k].toNat):=by
    have:(zE l)[k]?=some (.int .u8 (l[k].toNat)):=by simp [zE,E]
    rw [this] at h;injection h with h;exact h.symm
   subst Z;have D:=zfQ 4294967295 l k E;have z:=KD (l.take k) 4294967295 (by omega);generalize KL 4294967295 (l.take k)=d at D z ⊢;generalize l[k]=b at D X;have U:=hid D;have a0:(0:Int)<=(k:Int):=by omega
   have a1:(k:Int)<(l.length:Int):=by omega
   clear D h;go_wp2_with (go_at_call 100;(with_reducible refine (zoG d b wr z).mono ?_);rintro r w1 ⟨rfl,rfl⟩);go_roundw
   case rel=>exact ⟨k+1,by omega,by go_num,by rw [U.o],by trivial⟩
   case measure=>simp [intOf];omega
  ·obtain rfl:k=l.length:=by omega
   rw [qi];have z:=KD l 4294967295 (by omega);obtain ⟨d,hd⟩:∃ d,d=KL 4294967295 l:=⟨_,rfl⟩;rw [<- hd] at z ⊢;have O:=hid hd;clear hd;go_wp2;rw [rounds_succ];go_wp2;go_ret;have h:=zcO 4294967295 d (by omega) z;refine ⟨?_,rfl⟩;show Ending.returned (.int .u32 (bits .xor .u32 ((4294967295:Nat):Int) (d:Int)))=_;rw [h];unfold Zr;rw [<- O.o]
def zdW (s:ByteArray):Bool:=s.toList.isEmpty || decide ((s.size:Int)=40)
theorem Gj (s:ByteArray) (w:World):Calls Tryz.prog 142 #[.string s] w fun r w'=>r=.returned (.bool (zdW s))/\w'=w:=by
 obtain ⟨b,hb⟩:∃ b,b=zdW s:=⟨_,rfl⟩;rw [<- hb];have h:=hid hb;clear hb;go_enter Tryz.func142,Tryz.ntmps142;go_wp2
 all_goals
  go_ret;refine ⟨?_,rfl⟩;show Ending.returned (Value.bool _)=Ending.returned (Value.bool _);have hb:=h.o;unfold zdW at hb;rw [hb]
  first
   | (simp [*];done)
   | (congr 2;done)
   | (congr 2;simp [*];done)
end Go.Proofs.YtechnoogjhohfaaGreat
