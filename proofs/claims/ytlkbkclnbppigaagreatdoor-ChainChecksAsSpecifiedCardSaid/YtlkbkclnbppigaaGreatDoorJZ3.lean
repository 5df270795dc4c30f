/- The parts of a pattern: what has, covers, with, without, String, meet and partOf return. -/
import Derived.Test.YtlkbkclnbppigaaGreatDoorJZ1
set_option maxHeartbeats 4000000
namespace Go.Proofs.YtlkbkclnbppigaaGreatDoor
open Tryz
open Go.RowKit Go.Sort
set_option linter.unusedVariables false
set_option linter.unusedSimpArgs false
theorem Hg(s t:ByteArray):Lib.hasSuffix s.data.toList t.data.toList=(decide (t.size<=s.size)&&((s.extract (s.size-t.size) s.size).toList==t.toList)):=by
 unfold Lib.hasSuffix;rw[Lib.toList_data,Lib.toList_data,Lib.extract_data,Lib.size_eq,Lib.size_eq,Bool.eq_iff_iff];simp only[List.isSuffixOf_iff_suffix,Bool.and_eq_true,decide_eq_true_eq,beq_iff_eq];constructor
 ·intro h;have hl:=h.length_le;refine⟨hl,?_⟩;rw[List.take_of_length_le aF];obtain⟨p,hp⟩:=h;rw[<-hp];simp
 ·rintro⟨_,h⟩;rw[<-h];simp[List.take_of_length_le];exact List.drop_suffix _ _
theorem RJ(s t:ByteArray)(w:World)(hs:s.size<=4294967281)(ht:t.size<=4294967281) :
  Calls prog 208 #[.string s,.string t] w (Ret w (.bool (Lib.hasSuffix s.data.toList t.data.toList))):=by
 by_cases h:(t.size:Int)<=s.size
 ·go_enter func208,ntmps208;go_wp2;go_ret;exact⟨dX (by rw[Hg];simp[show t.size<=s.size by omega]),aG⟩
 ·go_enter func208,ntmps208;go_wp2;go_ret;exact⟨dX (by rw[Hg];simp[show ¬ t.size<=s.size by omega]),aG⟩
structure bJ where
 kind:Nat
 text:ByteArray
def dQ(k:Nat)(t s:ByteArray):Bool:=if k=0 then t.toList==s.toList else if k=1 then decide (t.size<s.size)&&Lib.hasSuffix s.data.toList t.data.toList else true
def gW(k:Nat)(t:ByteArray)(k2:Nat)(t2:ByteArray):Bool :=
 if k2=0 then dQ k t t2 else if k2=1 then k==2||(k==1&&Lib.hasSuffix t2.data.toList t.data.toList) else k==2
def qE(k:Nat)(t b:ByteArray):ByteArray:=if k=0 then t else if k=1 then b++t else b
theorem FV(k:Nat)(t s:ByteArray)(w:World)(hs:s.size<=4294967281)(ht:t.size<=4294967281)(hk:k<=2) :
  Calls prog 149 #[.agg #[.int .i64 k,.string t],.string s] w (Ret w (.bool (dQ k t s))):=by
 have hk':k=0\/k=1\/k=2:=aA;rcases hk' with rfl | rfl | rfl
 ·go_enter func149,ntmps149;go_wp2;go_ret;exact⟨dX (by simp[dQ]),aG⟩
 ·by_cases h:(t.size:Int)<s.size
  ·go_enter func149,ntmps149;go_wp2_with (go_at_call 208;refine (RJ s t _ hs ht).mono ?_;rintro e w1 ⟨rfl,hb1⟩);go_ret;exact⟨dX (by simp[dQ];omega),aG⟩
  ·go_enter func149,ntmps149;go_wp2;go_ret;exact⟨dX (by simp[dQ];omega),aG⟩
 ·go_enter func149,ntmps149;go_wp2;go_ret;exact⟨dX (by simp[dQ]),aG⟩
theorem RN(k k2:Nat)(t t2:ByteArray)(w:World)(ht2:t2.size<=4294967281)(ht:t.size<=4294967281)(hk:k<=2)(hk2:k2<=2) :
  Calls prog 214 #[.agg #[.int .i64 k,.string t],.agg #[.int .i64 k2,.string t2]] w (Ret w (.bool (gW k t k2 t2))):=by
 have hk':k2=0\/k2=1\/k2=2:=aA;rcases hk' with rfl | rfl | rfl
 ·go_enter func214,ntmps214;go_wp2_with (go_at_call 149;refine (FV k t t2 _ ht2 ht hk).mono ?_;rintro e w1 ⟨rfl,hb1⟩);go_ret;exact⟨dX (by simp[gW]),aG⟩
 ·have hk'':k=0\/k=1\/k=2:=aA;rcases hk'' with rfl | rfl | rfl
  ·exact Hl
  ·go_enter func214,ntmps214;go_wp2_with (go_at_call 208;refine (RJ t2 t _ ht2 ht).mono ?_;rintro e w1 ⟨rfl,hb1⟩);go_ret;exact⟨dX (by simp[gW]),aG⟩
  ·exact Hl
 ·have hk'':k=0\/k=1\/k=2:=aA;rcases hk'' with rfl | rfl | rfl
  all_goals
   exact Hl
def Nz(k:Nat)(t:ByteArray)(k2:Nat)(t2:ByteArray):ByteArray:=if dQ k2 t2 (qE k t ⟨#[97]⟩) then qE k t ⟨#[98]⟩ else qE k t ⟨#[97]⟩
def eP(k:Nat)(t:ByteArray):ByteArray:=if k=0 then t else ⟨#[42]⟩++t
theorem MJ(k:Nat)(t:ByteArray)(w:World)(ht:t.size<=4294967200)(hk:k<=2) :
  Calls prog 227 #[.agg #[.int .i64 k,.string t]] w (Ret w (.string (eP k t))):=by
 have hk':k=0\/k=1\/k=2:=aA;rcases hk' with rfl | rfl | rfl
 all_goals
  go_enter func227,ntmps227;go_wp2;go_ret;exact⟨Jz (by simp[eP]),aG⟩
def bJ.val(p:bJ):Value:=.agg #[.int .i64 p.kind,.string p.text]
def dD(s:ByteArray):bJ :=
 if s.size<1 then ⟨0,s⟩ else if !((s.extract 0 1).toList == [42]) then ⟨0,s⟩ else if !((s.extract 1 s.size).toList.isEmpty) then ⟨1,s.extract 1 s.size⟩ else ⟨2,⟨#[]⟩⟩
theorem MC(s:ByteArray)(w:World)(hs:s.size<=4294967200) :
  Calls prog 205 #[.string s] w (Ret w (dD s).val):=by
 by_cases h1:(1:Int)<=s.size
 ·have e0:¬ s.size<1:=aA;cases h2:((s.extract 0 1).toList == [42])
  ·have e1:(dD s).val=.agg #[.int .i64 0,.string s]:=by simp[dD,bJ.val,e0,h2]
   exact RP
  ·cases h3:(s.extract 1 s.size).toList.isEmpty
   ·have e1:(dD s).val=.agg #[.int .i64 1,.string (s.extract 1 s.size)]:=by simp[dD,bJ.val,e0,h2,h3]
    rw[e1];clear e1;go_enter func205,ntmps205;go_wp2;exact bodyPost_ret (v:=.agg #[.int .i64 1,.string (s.extract 1 s.size)]) Hm rfl ⟨rfl,aG⟩
   ·have e1:(dD s).val=.agg #[.int .i64 2,.string ⟨#[]⟩]:=by simp[dD,bJ.val,e0,h2,h3]
    rw[e1];clear e1;go_enter func205,ntmps205;go_wp2;exact bodyPost_ret (v:=.agg #[.int .i64 2,.string ⟨#[]⟩]) Hm rfl ⟨rfl,aG⟩
 ·have e1:(dD s).val=.agg #[.int .i64 0,.string s]:=by simp[dD,bJ.val,show s.size<1 by omega]
  exact RP
def gX(p q:bJ):bJ:=if gW p.kind p.text q.kind q.text then q else p
def qB(p q:bJ):Bool:=gW p.kind p.text q.kind q.text||gW q.kind q.text p.kind p.text
theorem Zh(k k2:Nat)(t t2:ByteArray)(w:World)(ht2:t2.size<=4294967281)(ht:t.size<=4294967281)(hk:k<=2)(hk2:k2<=2) :
  Calls prog 285 #[.agg #[.int .i64 k,.string t],.agg #[.int .i64 k2,.string t2]] w (Ret w (.tuple #[(gX ⟨k,t⟩ ⟨k2,t2⟩).val,.bool (qB ⟨k,t⟩ ⟨k2,t2⟩)])):=by
 have c1:∀ W,Calls prog 214 #[.agg #[.int .i64 k,.string t],.agg #[.int .i64 k2,.string t2]] W (Ret W (.bool (gW k t k2 t2))):=fun W=>RN k k2 t t2 W ht2 ht hk hk2
 have c2:∀ W,Calls prog 214 #[.agg #[.int .i64 k2,.string t2],.agg #[.int .i64 k,.string t]] W (Ret W (.bool (gW k2 t2 k t))):=fun W=>RN k2 k t2 t W ht ht2 hk2 hk
 have H1:=aB c1;have H2:=aB c2;clear c1 c2;unfold gX qB;dsimp only;cases hh:gW k t k2 t2;all_goals
  rw[hh]at H1;simp only[Bool.false_eq_true,if_false,if_true,Bool.false_or,Bool.true_or];clear hh;unfold bJ.val;dsimp only;go_enter func285,ntmps285;go_wp2_with fail;refine (H1.out _).mono ?_;rintro e w1 ⟨rfl,hb1⟩;obtain⟨hc1,hf1⟩:=bg hb1;have hz1_0:w.heap.size<w1.heap.size:=jc;have hz1_1:w.heap.size+1<w1.heap.size:=jc;have hz1_2:w.heap.size+1+1<w1.heap.size:=jc
 ·go_wp2_with fail;have f1:w1.cell? ⟨w.heap.size,0,none⟩=some (.int .i64 k):=wO;have f2:w1.cell? ⟨w.heap.size,1,none⟩=some (.string t):=wO;have f3:w1.cell? ⟨w.heap.size+1,0,none⟩=some (.int .i64 k2):=wO;have f4:w1.cell? ⟨w.heap.size+1,1,none⟩=some (.string t2):=wO;have f5:w1.cell? ⟨w.heap.size+1+1,0,none⟩=some (.int .i64 0):=wO;have f6:w1.cell? ⟨w.heap.size+1+1,1,none⟩=some (.string ⟨#[]⟩):=wO;have f7:w1.frozen? ⟨w.heap.size+1+1,0,none⟩=false:=by simp[hf1,go_sem]
  have f8:w1.frozen? ⟨w.heap.size+1+1,1,none⟩=false:=by simp[hf1,go_sem]
  clear hc1 hf1;go_region_held3 (fun w'=>w'.cell? ⟨w.heap.size,0,none⟩=some (.int .i64 k)/\w'.cell? ⟨w.heap.size,1,none⟩=some (.string t)/\w'.cell? ⟨w.heap.size+1,0,none⟩=some (.int .i64 k2)/\w'.cell? ⟨w.heap.size+1,1,none⟩=some (.string t2)/\w'.cell? ⟨w.heap.size+1+1,0,none⟩=some (rd w' ⟨w.heap.size+1+1,0,none⟩)/\w'.cell? ⟨w.heap.size+1+1,1,none⟩=some (rd w' ⟨w.heap.size+1+1,1,none⟩)/\w'.frozen? ⟨w.heap.size+1+1,0,none⟩=false/\w'.frozen? ⟨w.heap.size+1+1,1,none⟩=false/\Below w.heap.size w w')
   (first | exact⟨f1,f2,f3,f4,tK f5,tK f6,f7,f8,Below.drew aG⟩ | (go_split_ands;exact⟨aP hb2 ‹_›,aP hb2 ‹_›,aP hb2 ‹_›,aP hb2 ‹_›,xg hb2 ‹_›,xg hb2 ‹_›,eY hb2 (bf ‹_›) ‹_›,eY hb2 (bf ‹_›) ‹_›,aN ‹_› hb2⟩) | (go_split_ands;refine⟨?_,?_,?_,?_,lN (lN ‹_›),lN (lN ‹_›),?_,?_,?_⟩ <;> first | (simp[go_sem, *];done) | (repeat (first | exact .refl _ _ | assumption | refine .drew ?_ | refine aU ?_ _ | refine qw ?_ _ | refine .setCell ?_ oP _ | refine aN ?_ dZ))))
   ((go_at_call 214;refine (H2.out _).mono ?_;rintro e w2 ⟨rfl,hb2⟩))
  go_wp2;exact bodyPost_ret (v:=.tuple #[.agg #[.int .i64 k,.string t],.bool (gW k2 t2 k t)]) (by have g5:=aP (w:=w1.drew) hb2 f5;have g6:=aP (w:=w1.drew) hb2 f6;simp[results,results285,go_sem,g5,g6]) rfl ⟨rfl,je⟩
 ·go_wp2_with fail;exact bodyPost_ret (v:=.tuple #[.agg #[.int .i64 k2,.string t2],.bool true]) (by simp[results,results285,go_sem,hc1]) rfl ⟨rfl,aG⟩
end Go.Proofs.YtlkbkclnbppigaaGreatDoor
namespace Go.Proofs.YtlkbkclnbppigaaGreatDoor.Sha
open Tryz
set_option linter.unusedVariables false
set_option maxRecDepth 100000
structure Str(m:List Nat)(s:St)(blk:List Nat):Prop where
 st:s=blocks (m.length / 64) st0 m
 len:blk.length=64
 tail:blk.take (m.length % 64)=m.drop (64*(m.length / 64))
theorem str0(blk:List Nat)(h:blk.length=64):Str [] st0 blk:=⟨rfl,h,rfl⟩
theorem Str.ok{m:List Nat}{s:St}{blk:List Nat}(h:Str m s blk):Ok s:=by rw[h.st];exact blocks_ok _ _ _ st0_ok
def put(blk:List Nat)(at_:Nat)(x:List Nat):List Nat:=blk.take at_++(x++blk.drop (at_+x.length))
theorem put_len{blk x:List Nat}{a:Nat}(h:a+x.length<=blk.length):(put blk a x).length=blk.length:=by
 unfold put;simp;omega
theorem Str.step{m:List Nat}{s:St}{blk:List Nat}(h:Str m s blk)(x:List Nat)(hx:m.length % 64+x.length<64):Str (m++x) s (put blk (m.length % 64) x):=by
 have hl:=h.len;have hq:(m++x).length / 64=m.length / 64:=zD;have hr:(m++x).length % 64=m.length % 64+x.length:=zD;refine⟨?_,by rw[put_len aA];exact hl,?_⟩
 ·rw[hq,Eh _ _ _ _ aA];exact h.st
 ·rw[hq,hr];unfold put;rw[<-List.append_assoc,List.take_append_of_le_length aJ,List.take_of_length_le aJ,h.tail,List.drop_append_of_le_length aA]
theorem Str.full{m:List Nat}{s:St}{blk:List Nat}(h:Str m s blk)(x:List Nat)(hx:m.length % 64+x.length=64):Str (m++x) (comp s (put blk (m.length % 64) x)) (put blk (m.length % 64) x):=by
 have hl:=h.len;have hq:(m++x).length / 64=m.length / 64+1:=zD;have hr:(m++x).length % 64=0:=zD;have hp:put blk (m.length % 64) x=(m++x).drop (64*(m.length / 64)):=by
  unfold put;rw[h.tail,List.drop_append_of_le_length aA,(show blk.drop (m.length % 64+x.length)=[] from List.drop_eq_nil_of_le aA),List.append_nil]
 refine⟨?_,by rw[put_len aA];exact hl,?_⟩
 ·rw[hq,blocks_succ,Eh _ _ _ _ aA,<-h.st,hp]
 ·rw[hq,hr,List.take_zero,List.drop_eq_nil_of_le zD]
theorem Str.sum{m:List Nat}{s:St}{blk:List Nat}(h:Str (pad m) s blk):out s=sum m:=by
 unfold Sha.sum;rw[h.st]
def padT(n:Nat):List Nat:=128 :: (List.replicate ((119-n % 64) % 64) 0++bytes8 (8*n))
theorem pad_eq(m:List Nat):pad m=m++padT m.length:=rfl
theorem padT_len(n:Nat):(padT n).length=9+(119-n % 64) % 64:=by
 unfold padT bytes8 bytes4;exact RQ
def vintF:Nat->Nat->List Nat
 | 0,z=>[z]
 | f+1,z=>if z<128 then [z] else (z % 128+128) :: vintF f (z / 128)
def vint(z:Nat):List Nat:=vintF 10 z
def wireB(s:List Nat):List Nat:=vint (2*s.length)++s
def input(tag:Nat)(ps:List (List Nat)):List Nat:=tag :: ps.flatMap wireB
def ofD(tag:Nat)(ps:List (List Nat)):List Nat:=(sum (input tag ps)).take 16
theorem bytes4_lt{x:Nat}(hx:x<4294967296):∀ b∈bytes4 x,b<256:=by
 intro b hb;simp only[bytes4,List.mem_cons,List.not_mem_nil,or_false]at hb;rcases hb with rfl | rfl | rfl | rfl <;> omega
end Go.Proofs.YtlkbkclnbppigaaGreatDoor.Sha
namespace Go.Proofs.YtlkbkclnbppigaaGreatDoor
open Tryz
open Go.RowKit Go.Sort
set_option linter.unusedVariables false
set_option linter.unusedSimpArgs false
set_option maxRecDepth 100000
theorem aFk(n:Nat)(h1:1<=n)(h2:n<=31):bits .and .u64 (IntKind.u64.wrap (-(n:Int))) 31=((32-n:Nat):Int):=by
 have e:IntKind.u64.wrap (-(n:Int))=((18446744073709551616-n:Nat):Int):=by
  simp[IntKind.wrap,IntKind.bits,IntKind.signed];omega
 rw[e];have h:=u64_and_nat (18446744073709551616-n) 31 aA aA;rw[show ((31:Nat):Int)=31 from rfl]at h;rw[h];have h3:(18446744073709551616-n) &&& 31=(18446744073709551616-n) % 32:=Nat.and_two_pow_sub_one_eq_mod _ 5;rw[h3];congr 1;omega
theorem aFl(x n:Nat)(hx:x<4294967296)(h1:1<=n)(h2:n<=31):bits .or .u32 ((x:Int)*2 ^ (32-n) % 4294967296) ((x:Int) / 2 ^ (32-(32-n)))=((Sha.rot x n:Nat):Int):=by
 have h:=u32_or_nat (x*2 ^ (32-n) % 4294967296) (x / 2 ^ n) (Nat.mod_lt _ aK) (Nat.lt_of_le_of_lt (Nat.div_le_self _ _) hx);have e1:((x*2 ^ (32-n) % 4294967296:Nat):Int)=(x:Int)*2 ^ (32-n) % 4294967296:=aF;have e2:((x / 2 ^ n:Nat):Int)=(x:Int) / 2 ^ (32-(32-n)):=by rw[show 32-(32-n)=n by omega];simp
 rw[e1,e2]at h;rw[h];congr 1;exact Nat.or_comm _ _
theorem jX(a b:Nat)(ha:a<4294967296)(hb:b<4294967296):bits .xor .u32 (a:Int) (b:Int)=((a ^^^ b:Nat):Int):=u32_xor_nat a b ha hb
theorem uY(x n:Nat)(w:World)(hx:x<4294967296)(h1:1<=n)(h2:n<=31):Calls prog 287 #[.int .u32 x,.int .i64 (-(n:Int))] w (fun e w'=>e=.returned (.int .u32 (Sha.rot x n:Nat))/\w'=w):=by
 have ha:=aFk n h1 h2;have hr:=aB (aFl x n hx h1 h2);go_enter func287,ntmps287;go_wp2;go_ret;exact⟨by rw[hr.out];rfl,rfl⟩
theorem LV(x i j k:Nat)(w:World)(hx:x<4294967296)(i1:1<=i)(i2:i<=31)(j1:1<=j)(j2:j<=31)(k1:1<=k)(k2:k<=31):Calls prog 231 #[.int .u32 x,.int .i64 i,.int .i64 j,.int .i64 k] w (fun e w'=>e=.returned (.int .u32 (Sha.mix x i j k:Nat))/\w'=w):=by
 have e1:=jX (Sha.rot x i) (Sha.rot x j) (Sha.rot_lt x i hx) (Sha.rot_lt x j hx);have e2:=jX (Sha.rot x i ^^^ Sha.rot x j) (Sha.rot x k) (Sha.xor_lt (Sha.rot_lt x i hx) (Sha.rot_lt x j hx)) (Sha.rot_lt x k hx);have hI:=aB (fun W=>uY x i W hx i1 i2);have hJ:=aB (fun W=>uY x j W hx j1 j2);have hK:=aB (fun W=>uY x k W hx k1 k2);unfold Sha.mix;generalize Sha.rot x i=ri at *;generalize Sha.rot x j=rj at *;generalize Sha.rot x k=rk at *;go_enter func231,ntmps231;go_wp2_with fail;refine (hI.out _).mono ?_;rintro e w1 ⟨rfl,rfl⟩;go_wp2_with fail;refine (hJ.out _).mono ?_;rintro e w2 ⟨rfl,rfl⟩;go_wp2_with fail;refine (hK.out _).mono ?_;rintro e w3 ⟨rfl,rfl⟩;go_wp2_with fail;go_ret;exact⟨rfl,rfl⟩
end Go.Proofs.YtlkbkclnbppigaaGreatDoor
namespace Go.Proofs.YtlkbkclnbppigaaGreatDoor.Sha
open Tryz
set_option linter.unusedVariables false
set_option maxRecDepth 100000
def sched(b:List Nat):List Nat:=grow 48 (words 16 b)
theorem sched_len(b:List Nat):(sched b).length=64:=by unfold sched;rw[Aa,xn]
theorem Cc:∀(n k:Nat)(l:List Nat),k<=n->(grow n l).take (l.length+k)=grow k l
 | 0,k,l,h=>by
  have hk:k=0:=aA;subst hk;rw[grow,List.take_of_length_le aA]
 | n+1,k,l,h=>by
  rw[AZ];by_cases hk:k=n+1
  ·subst hk;rw[List.take_of_length_le (by simp[Aa];omega),AZ]
  ·rw[List.take_append_of_le_length (by rw[Aa];omega),Cc n k l aA]
theorem getD_take{l:List Nat}{j k:Nat}(h:j<k):(l.take k).getD j 0=l.getD j 0:=by
 rw[List.getD_eq_getElem?_getD,List.getD_eq_getElem?_getD,List.getElem?_take_of_lt h]
theorem sched_hi(b:List Nat)(t:Nat)(h1:16<=t)(h2:t<64):(sched b).getD t 0=add32 (add32 (add32 ((sched b).getD (t-16) 0) (s0 ((sched b).getD (t-15) 0))) ((sched b).getD (t-7) 0)) (s1 ((sched b).getD (t-2) 0)):=by
 have hw:=xn 16 b;have e1:(sched b).take t=grow (t-16) (words 16 b):=by
  have:=Cc 48 (t-16) (words 16 b) aA;rw[hw,show 16+(t-16)=t by omega]at this;exact this
 have e2:(sched b).take (t+1)=(sched b).take t++[xm ((sched b).take t)]:=by
  have:=Cc 48 (t-16+1) (words 16 b) aA;rw[hw,show 16+(t-16+1)=t+1 by omega,AZ (t-16),<-e1]at this;exact this
 have hl:((sched b).take t).length=t:=by rw[List.length_take,sched_len];omega
 rw[<-getD_take (l:=sched b) (j:=t) (k:=t+1) aA,e2,List.getD_eq_getElem?_getD,List.getElem?_append_right aA,hl,Nat.sub_self];show xm ((sched b).take t)=_;unfold xm;rw[hl,getD_take aA,getD_take aA,getD_take aA,getD_take aA]
theorem RU:∀(n t:Nat)(b:List Nat),t<n->(words n b).getD t 0=word (b.drop (4*t))
 | 0,t,b,h=>aA
 | n+1,0,b,h=>rfl
 | n+1,t+1,b,h=>by
  rw[words,List.getD_cons_succ,RU n t _ aA,List.drop_drop,show 4+4*t=4*(t+1) by omega]
theorem sched_lo(b:List Nat)(t:Nat)(h:t<16):(sched b).getD t 0=word (b.drop (4*t)):=by
 have hw:=xn 16 b;have:=Cc 48 0 (words 16 b) aA;rw[hw]at this;rw[<-getD_take (l:=sched b) (j:=t) (k:=16) aA];show ((grow 48 (words 16 b)).take 16).getD t 0=_;rw[this,grow,RU 16 t b h]
def part(d:List Nat):Nat->Nat
 | 0=>0
 | j+1=>part d j*256+d.getD j 0
theorem part4(d:List Nat):part d 4=word d:=by simp[part,word]
theorem part_lt(d:List Nat)(hd:∀ j,d.getD j 0<256):∀ j,part d j<256 ^ j
 | 0=>by simp[part]
 | j+1=>by
  have:=part_lt d hd j;have h2:=hd j;rw[part,Nat.pow_succ];omega
theorem getD_lt{b:List Nat}(hb:∀ x∈b,x<256)(j:Nat):b.getD j 0<256:=by
 rw[List.getD_eq_getElem?_getD];cases h:b[j]? with
 | none=>decide
 | some x=>exact hb x (List.mem_of_getElem? h)
theorem getD_drop(b:List Nat)(k j:Nat):(b.drop k).getD j 0=b.getD (k+j) 0:=by
 rw[List.getD_eq_getElem?_getD,List.getD_eq_getElem?_getD,List.getElem?_drop]
theorem aFm{d:List Nat}(hd:∀ j,d.getD j 0<256):word d<4294967296:=by
 have:=part_lt d hd 4;rw[part4]at this;simpa using this
theorem sched_lt{b:List Nat}(hb:∀ x∈b,x<256)(t:Nat):(sched b).getD t 0<4294967296:=by
 by_cases h64:t<64
 ·by_cases h:t<16
  ·rw[sched_lo b t h];exact aFm fun j=>by rw[getD_drop];exact getD_lt hb _
  ·rw[sched_hi b t aA h64];exact add32_lt _ _
 ·rw[List.getD_eq_getElem?_getD,List.getElem?_eq_none (by rw[sched_len];omega)];decide
theorem or_byte(a x:Nat)(hx:x<256):(a*256)|||x=a*256+x:=by
 have:=Nat.two_pow_add_eq_or_of_lt (i:=8) (b:=x) xy a;rw[show 2 ^ 8*a=a*256 by omega]at this;exact this.symm
theorem ks_len:ks.length=64:=rfl
theorem ks_lt(t:Nat):ks.getD t 0<4294967296:=by
 rw[List.getD_eq_getElem?_getD];cases h:ks[t]? with
 | none=>decide
 | some x =>
  have:∀ x∈ks,x<4294967296:=by decide +kernel
  exact this x (List.mem_of_getElem? h)
def upto(b:List Nat)(s:St)(t:Nat):St:=mV (ks.take t) ((sched b).take t) s
theorem upto_succ(b:List Nat)(s:St)(t:Nat)(h:t<64):upto b s (t+1)=round (upto b s t) (ks.getD t 0) ((sched b).getD t 0):=by
 unfold upto;exact YQ _ _ _ _ (by rw[ks_len];exact h) (by rw[sched_len];exact h)
theorem upto_ok{s:St}(b:List Nat)(hs:Ok s)(t:Nat):Ok (upto b s t):=J7 _ _ _ hs
theorem comp_eq(s:St)(b:List Nat):comp s b=⟨add32 s.a (upto b s 64).a,add32 s.b (upto b s 64).b,add32 s.c (upto b s 64).c,add32 s.d (upto b s 64).d,add32 s.e (upto b s 64).e,add32 s.f (upto b s 64).f,add32 s.g (upto b s 64).g,add32 s.h (upto b s 64).h⟩:=by
 have e:upto b s 64=mV ks (grow 48 (words 16 b)) s:=by
  unfold upto;rw[List.take_of_length_le (by rw[ks_len];exact Nat.le_refl _),List.take_of_length_le (by rw[sched_len];exact Nat.le_refl _)];rfl
 rw[e];rfl
theorem RV:∀(f z:Nat),(vintF f z).length<=f+1
 | 0,z=>by simp[vintF]
 | f+1,z=>by
  rw[vintF];split
  ·simp
  ·rw[List.length_cons];have:=RV f (z / 128);omega
theorem vint_len(z:Nat):(vint z).length<=11:=RV 10 z
theorem vintF_lt:∀(f z:Nat),z<128 ^ (f+1)->∀ b∈vintF f z,b<256
 | 0,z,h,b,hb=>by
  rw[vintF]at hb;have:=List.mem_singleton.1 hb;simp at h;omega
 | f+1,z,h,b,hb=>by
  rw[vintF]at hb;split at hb
  ·have:=List.mem_singleton.1 hb;omega
  ·rcases List.mem_cons.1 hb with hb | hb
   ·omega
   ·refine vintF_lt f _ ?_ b hb;rw[Nat.pow_succ]at h;exact Nat.div_lt_of_lt_mul (by rw[Nat.mul_comm];exact h)
end Go.Proofs.YtlkbkclnbppigaaGreatDoor.Sha
namespace Go.Proofs.YtlkbkclnbppigaaGreatDoor
open Tryz
open Go.RowKit Go.Sort
set_option linter.unusedVariables false
set_option linter.unusedSimpArgs false
set_option maxRecDepth 100000
theorem Ce{α:Type}{size:Nat}(cells:α->List Value):∀ L:List α,(∀ a∈L,(cells a).length=size)->(L.flatMap cells).length=L.length*size
 | [],_=>aF
 | a :: L,h=>by
  rw[List.flatMap_cons,List.length_append,h a aF,Ce cells L (fun b hb=>h b (by simp[hb])),List.length_cons,Nat.add_mul,Nat.one_mul,Nat.add_comm]
theorem Ho{α:Type}{size:Nat}(cells:α->List Value):∀(L:List α),(∀ a∈L,(cells a).length=size)->∀(k j:Nat)(a:α),L[k]? = some a->j<size->(L.flatMap cells)[k*size+j]? = (cells a)[j]?
 | [],_,k,j,a,h,_=>mW
 | b :: L,hl,0,j,a,h,hj=>by
  simp at h;subst h;rw[List.flatMap_cons,Nat.zero_mul,Nat.zero_add,List.getElem?_append_left (by rw[hl b aF];exact hj)]
 | b :: L,hl,k+1,j,a,h,hj=>by
  rw[List.flatMap_cons,List.getElem?_append_right (by rw[hl b aF,Nat.add_mul];omega),hl b aF];rw[show (k+1)*size+j-size=k*size+j by rw[Nat.add_mul];omega];exact Ho cells L (fun c hc=>hl c (by simp[hc])) k j a kX hj
theorem aH.row{α:Type}{size n:Nat}{w:World}{A:Option Addr}{cells:α->List Value}{L:List α}(h:aH w size A n (L.flatMap cells))(hl:∀ a∈L,(cells a).length=size)(hL:L.length=n){k:Nat}{a:α}(hk:L[k]? = some a) :
  ∃ b o,A=some ⟨b,o,none⟩/\∀ j u,(cells a)[j]? = some u->w.cell? ⟨b,o+k*size+j,none⟩=some u:=by
 have hkl:=(List.getElem?_eq_some_iff.1 hk).1;obtain⟨b,o,rfl,hc⟩:=h.2 aA;refine⟨b,o,rfl,fun j u hu=>?_⟩;have hj:=(List.getElem?_eq_some_iff.1 hu).1;rw[hl a (List.mem_of_getElem? hk)]at hj;rw[Nat.add_assoc];exact hc _ u (by rw[Ho cells L hl k j a hk hj];exact hu)
theorem aH.drop{size n:Nat}{w:World}{A:Option Addr}{vs:List Value}(h:aH w size A n vs):vs.length=n*size:=h.1
structure oD(ob:Nat)(W W':World):Prop where
 low:Below ob W W'
 same:∀ k,ob<k->k<W.heap.size->W'.heap[k]? = W.heap[k]?
structure qV(ob n0 B:Nat)(W W':World):Prop where
 low:Below ob W W'
 same:∀ k,ob<k->k<n0\/B<=k->k<W.heap.size->W'.heap[k]? = W.heap[k]?
theorem oD.ob{ob:Nat}{W W':World}(n0 B:Nat)(h:oD ob W W'):qV ob n0 B W W':=⟨h.low,fun k h1 _ h2=>h.same k h1 h2⟩
theorem qV.trans{ob n0 B:Nat}{X Y Z:World}(h:qV ob n0 B X Y)(k:qV ob n0 B Y Z):qV ob n0 B X Z :=
 ⟨h.low.trans k.low,fun i h1 h2 h3=>(k.same i h1 h2 (Nat.lt_of_lt_of_le h3 h.low.size)).trans (h.same i h1 h2 h3)⟩
theorem oD.trans{ob:Nat}{X Y Z:World}(h:oD ob X Y)(k:oD ob Y Z):oD ob X Z :=
 ⟨h.low.trans k.low,fun i h1 h3=>(k.same i h1 (Nat.lt_of_lt_of_le h3 h.low.size)).trans (h.same i h1 h3)⟩
theorem oD.of_below{ob:Nat}{X Y:World}(h:Below X.heap.size X Y)(ho:ob<=X.heap.size):oD ob X Y:=⟨h.mono ho,fun k _ h2=>h.block k h2⟩
def RX(P:Program)(gf:Nat)(lb:Array Value)(xs:List Value)(ob:Nat)(w:World):Prop :=
 ∀(l:Nat)(J:Nat->World->Prop)(Jx:World->Prop)(W:World),Below w.heap.size w W->(∀ k A B,J k A->Below W.heap.size A B->J k B) ->
  (∀ k x W1,xs[k]? = some x->J k W1->YieldAt Fence.wide 0 P l #[x] W1 fun e W' =>
   (e=.returned (.bool true)/\J (k+1) W'/\qV ob w.heap.size W.heap.size W1 W')\/(e=.returned (.bool false)/\Jx W')) ->
  J 0 W ->
  CallsIn Fence.wide 0 P gf (#[.func (.yield l) #[] #[]]++lb) W fun e W'=>(∃ v,e=.returned v)/\(J xs.length W'\/Jx W')
def aFn(ob:Nat)(I:Nat->World->Prop)(k:Nat)(W:World):Exit->Act->World->Prop
 | .normal,_,W'=>oD ob W W'/\I k W'
 | _,_,_=>False
theorem qW{B:Nat}{W:World}{l:Nat}{o:Obj}(o':Obj)(hl:W.heap[l]? = some o)(hB:B<=l):Below B W (W.putObj l o') :=
 (Below.refl B W).grown (grownBy_putObj' W l o') (by have:=(Array.getElem?_eq_some_iff.1 hl).1;omega) (fun k e=>pM)
theorem RY{ob n0 B:Nat}(W:World)(l:Nat)(o o':Obj)(hl:W.heap[l]? = some o)(ho:ob<l)(h0:n0<=l)(hB:l<B):qV ob n0 B W (W.putObj l o') :=
 ⟨qW o' hl aA,fun k h1 h2 _=>World.putObj_heap_other aA⟩
theorem aFo{P:Program}{g:Operand}{p:Tmp}{assign body:Code}{Q:Exit->Act->World->Prop}{a:Act}{w:World}
  {gf:Nat} {lb:Array Value} (hg:a.eval g=.func (.func gf) #[] lb) (eg:∀ args w,(callFunc gf args).run P w=.ok (.enter gf args) w)
  {xs:List Value} {w0:World} {ob:Nat} (hob:ob<w.heap.size) (hseq:RX P gf lb xs ob w0) (hb0:Below w0.heap.size w0 w)
  (I:Nat->World->Prop) (hI:∀ k A B,I k A->Below w.heap.size A B->I k B) (h0:I 0 w)
  (Ax:Value->Act->World->Prop) (hAx:∀ x a' W l o o',Ax x a' W->W.heap[l]? = some o->o.isCells=false->Ax x a' (W.putObj l o'))
  (hassign:∀(l k:Nat)(x:Value)(W:World)(K:Act->World->Prop),xs[k]? = some x->I k W->w.heap.size<=W.heap.size->(∀ a' W2,oD ob W W2->I k W2->Ax x a' W2->K a' W2) ->
   assign.wpIn (Fence.wide.inRound l) 0 P (Exit.then K (fun _ _ _=>False)) { tmps:=(#[p].zip #[x]).foldl (fun t (p,v)=>t.setIfInBounds p v) a.tmps,defers:=[] } W)
  (hbody:∀(l k:Nat)(x:Value)(a':Act)(W:World),xs[k]? = some x->I k W->Ax x a' W->body.wpIn (Fence.wide.inRound l) 0 P (aFn ob I (k+1) W) a' W)
  (hdone:∀(D:Nat)(W:World),w.heap.size<=D->I xs.length W->W.heap[D]? = some (.deferred (some []))->Q .normal { a with defers:={ target:=.collected D,args:=#[] } :: a.defers } W) :
  (Code.rangeFunc g #[p] assign body).wpIn Fence.wide 0 P Q a w:=by
 refine wpIn_rangeFunc ?_
 intro fn hfn
 obtain⟨rec,hrec⟩:∃ rec:LoopState->Option Code->Loop,rec=fun st pe=>{ state:=st,pending:=pe,fn,tmps:=a.tmps,params:=#[p],assign,body,defers:=w.heap.size }:=⟨_,rfl⟩
 obtain⟨W1,hW1⟩:∃ W1,(w.alloc (.deferred (some []))).alloc (.loop (rec .ready none))=W1:=⟨_,rfl⟩
 have hL1:W1.heap[w.heap.size+1]? = some (.loop (rec .ready none)):=by
  rw[<-hW1];have:=World.alloc_heap_new (w.alloc (.deferred (some []))) (.loop (rec .ready none));rwa [World.size_alloc]at this
 have hK1:W1.heap[w.heap.size]? = some (.deferred (some [])):=by
  rw[<-hW1];exact (Below.heap_alloc _ _ _ aF).trans (World.alloc_heap_new w _)
 have hb11:Below w.heap.size w W1:=by rw[<-hW1];exact aU (aU (Below.refl _ _) _) _
 have hs1:W1.heap.size=w.heap.size+2:=by rw[<-hW1];simp
 have hI1:I 0 W1:=hI _ _ _ h0 hb11
 have hb1:Below w0.heap.size w0 W1:=aN hb0 hb11
 refine⟨w.heap.size+1,[{ target:=.collected w.heap.size,args:=#[] }],W1,{ target:=.fn (.func gf) lb,args:=#[.func (.yield (w.heap.size+1)) #[] #[]] },W1,gf,
  #[.func (.yield (w.heap.size+1)) #[] #[]]++lb,W1,?_,?_,?_,?_,(fun h=>nP),?_⟩
 ·rw[<-hW1,hrec];exact run_enterLoop_outer _ _ _ _ _
 ·simp only[resolve,hg]
  simp[go_sem]
 ·intro f' hf';trivial
 ·simp[invoke,go_sem,eg]
 ·refine (hseq (w.heap.size+1)
   (fun k W=>I k W/\W.heap[w.heap.size+1]? = some (.loop (rec .ready none))/\W.heap[w.heap.size]? = some (.deferred (some [])))
   (fun _=>False) W1 hb1
   (fun k A B hs hb=>⟨hI _ _ _ hs.1 (hb.mono aA),(hb.block _ aA).trans hs.2.1,(hb.block _ aA).trans hs.2.2⟩)
   ?_ ⟨hI1,hL1,hK1⟩).mono ?_
  ·rintro k x W hx ⟨hi,hl,hk⟩
   have hlt:w.heap.size+1<W.heap.size:=(Array.getElem?_eq_some_iff.1 hl).1
   have hy:=run_yield (P:=P) (args:=#[x]) hl (by rw[hrec];rfl)
   rw[hrec]at hy
   refine⟨fn,_,assign,body,hy,roundIn_of_wpIn hfn (hassign _ k x W _ hx hi aA ?_)⟩
   intro a' Wa hka hia hax
   have hla:=(hka.same _ aA hlt).trans hl
   have hkaa:=(hka.same _ aA aA).trans hk
   have hlta:w.heap.size+1<Wa.heap.size:=(Array.getElem?_eq_some_iff.1 hla).1
   refine⟨_,run_beginRound hla (by rw[hrec]),?_⟩
   have hl2:(Wa.putObj (w.heap.size+1) (.loop { rec .ready none with state:=.busy })).heap[w.heap.size+1]? = some (.loop { rec .ready none with state:=.busy }):=World.putObj_heap_same hlta
   have hk2:(Wa.putObj (w.heap.size+1) (.loop { rec .ready none with state:=.busy })).heap[w.heap.size]? = some (.deferred (some [])):=(World.putObj_heap_other aA).trans hkaa
   have hw2:qV ob w0.heap.size W1.heap.size W (Wa.putObj (w.heap.size+1) (.loop { rec .ready none with state:=.busy })):=(hka.ob _ _).trans (RY _ _ _ _ hla aA (by have:=hb0.size;omega) aA)
   refine wpIn_mono (hbody _ k x a' _ hx (hI _ _ _ hia (qW _ hla aA)) (hAx _ _ _ _ _ _ hax hla rfl)) ?_
   rintro e a3 W3 hp
   cases e with
   | normal =>
    obtain⟨hk3,hi3⟩:=hp
    have hl3:=(hk3.same _ aA (by have:=(Array.getElem?_eq_some_iff.1 hl2).1;exact this)).trans hl2
    have hk4:=(hk3.same _ aA (by have:=(Array.getElem?_eq_some_iff.1 hk2).1;exact this)).trans hk2
    have hlt3:=(Array.getElem?_eq_some_iff.1 hl3).1
    have hr:=run_endRound (P:=P) none hl3
    have hl3':=hl3
    rw[hrec]at hr
    have hr2:(Instr.endRound (w.heap.size+1) none).run P W3=.ok (.bool true) (W3.putObj (w.heap.size+1) (.loop (rec .ready none))):=by rw[hrec];exact hr
    have hl4:(W3.putObj (w.heap.size+1) (.loop (rec .ready none))).heap[w.heap.size+1]? = some (.loop (rec .ready none)):=World.putObj_heap_same hlt3
    exact⟨_,_,hr2,.inl ⟨rfl,⟨hI _ _ _ hi3 (qW _ hl3 aA),hl4,(World.putObj_heap_other aA).trans hk4⟩,(hw2.trans (hk3.ob _ _)).trans (RY _ _ _ _ hl3 aA (by have:=hb0.size;omega) aA)⟩⟩
   | ret=>exact hp.elim
   | exit id=>exact hp.elim
   | goto t=>exact hp.elim
   | panic ch=>exact hp.elim
   | outgrown=>exact hp.elim
  ·rintro e W2 ⟨⟨v,rfl⟩,(⟨hi,hl,hk⟩ | hf)⟩
   ·exact⟨none,_,xh,hdone _ _ (Nat.le_refl _) (hI _ _ _ hi (qW _ hl aA)) ((World.putObj_heap_other aA).trans hk)⟩
   ·exact hf.elim
end Go.Proofs.YtlkbkclnbppigaaGreatDoor
