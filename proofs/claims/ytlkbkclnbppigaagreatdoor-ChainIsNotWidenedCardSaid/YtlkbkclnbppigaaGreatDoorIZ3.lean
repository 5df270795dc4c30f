/- The parts of a pattern: what has, covers, with, without, String, meet and partOf return. -/
import Derived.Test.YtlkbkclnbppigaaGreatDoorIZ1
set_option maxHeartbeats 4000000
namespace Go.Proofs.YtlkbkclnbppigaaGreatDoor
open Tryz
open Go.RowKit Go.Sort
set_option linter.unusedVariables false
set_option linter.unusedSimpArgs false
theorem Lj(s t:aC):Lib.hasSuffix s.data.toList t.data.toList=(decide (t.size<=s.size)&&((s.extract (s.size-t.size) s.size).toList==t.toList)):=by
 unfold Lib.hasSuffix;rw[Lib.toList_data,Lib.toList_data,Lib.extract_data,Lib.size_eq,Lib.size_eq,Bool.eq_iff_iff];simp only[List.isSuffixOf_iff_suffix,Bool.and_eq_true,decide_eq_true_eq,beq_iff_eq];constructor
 ·intro h;have hl:=h.length_le;refine⟨hl,?_⟩;rw[List.take_of_length_le aH];obtain⟨p,hp⟩:=h;rw[<-hp];simp
 ·rintro⟨_,h⟩;rw[<-h];simp[List.take_of_length_le];exact List.drop_suffix _ _
theorem Ll(s t:aC)(w:World)(hs:s.size<=4294967281)(ht:t.size<=4294967281) :
  Calls prog 208 #[.string s,.string t] w (Ret w (.bool (Lib.hasSuffix s.data.toList t.data.toList))):=by
 by_cases h:(t.size:Int)<=s.size
 ·go_enter func208,ntmps208;go_wp2;go_ret;exact⟨fV (by rw[Lj];simp[show t.size<=s.size by omega]),aJ⟩
 ·go_enter func208,ntmps208;go_wp2;go_ret;exact⟨fV (by rw[Lj];simp[show ¬ t.size<=s.size by omega]),aJ⟩
structure bI where
 kind:Nat
 text:aC
def dW(k:Nat)(t s:aC):Bool:=if k=0 then t.toList==s.toList else if k=1 then decide (t.size<s.size)&&Lib.hasSuffix s.data.toList t.data.toList else true
def fC(k:Nat)(t:aC)(k2:Nat)(t2:aC):Bool :=
 if k2=0 then dW k t t2 else if k2=1 then k==2||(k==1&&Lib.hasSuffix t2.data.toList t.data.toList) else k==2
def nM(k:Nat)(t b:aC):aC:=if k=0 then t else if k=1 then b++t else b
theorem Aj(k:Nat)(t s:aC)(w:World)(hs:s.size<=4294967281)(ht:t.size<=4294967281)(hk:k<=2) :
  Calls prog 149 #[.agg #[.int .i64 k,.string t],.string s] w (Ret w (.bool (dW k t s))):=by
 have hk':k=0\/k=1\/k=2:=aB;rcases hk' with rfl | rfl | rfl
 ·go_enter func149,ntmps149;go_wp2;go_ret;exact⟨fV (by simp[dW]),aJ⟩
 ·by_cases h:(t.size:Int)<s.size
  ·go_enter func149,ntmps149;go_wp2_with (go_at_call 208;refine (Ll s t _ hs ht).mono ?_;rintro e w1 ⟨rfl,hb1⟩);go_ret;exact⟨fV (by simp[dW];omega),aJ⟩
  ·go_enter func149,ntmps149;go_wp2;go_ret;exact⟨fV (by simp[dW];omega),aJ⟩
 ·go_enter func149,ntmps149;go_wp2;go_ret;exact⟨fV (by simp[dW]),aJ⟩
theorem Lm(k k2:Nat)(t t2:aC)(w:World)(ht2:t2.size<=4294967281)(ht:t.size<=4294967281)(hk:k<=2)(hk2:k2<=2) :
  Calls prog 214 #[.agg #[.int .i64 k,.string t],.agg #[.int .i64 k2,.string t2]] w (Ret w (.bool (fC k t k2 t2))):=by
 have hk':k2=0\/k2=1\/k2=2:=aB;rcases hk' with rfl | rfl | rfl
 ·go_enter func214,ntmps214;go_wp2_with (go_at_call 149;refine (Aj k t t2 _ ht2 ht hk).mono ?_;rintro e w1 ⟨rfl,hb1⟩);go_ret;exact⟨fV (by simp[fC]),aJ⟩
 ·have hk'':k=0\/k=1\/k=2:=aB;rcases hk'' with rfl | rfl | rfl
  ·exact DI
  ·go_enter func214,ntmps214;go_wp2_with (go_at_call 208;refine (Ll t2 t _ ht2 ht).mono ?_;rintro e w1 ⟨rfl,hb1⟩);go_ret;exact⟨fV (by simp[fC]),aJ⟩
  ·exact DI
 ·have hk'':k=0\/k=1\/k=2:=aB;rcases hk'' with rfl | rfl | rfl
  all_goals
   exact DI
def Hw(k:Nat)(t:aC)(k2:Nat)(t2:aC):aC:=if dW k2 t2 (nM k t ⟨#[97]⟩) then nM k t ⟨#[98]⟩ else nM k t ⟨#[97]⟩
def dQ(k:Nat)(t:aC):aC:=if k=0 then t else ⟨#[42]⟩++t
theorem GM(k:Nat)(t:aC)(w:World)(ht:t.size<=4294967200)(hk:k<=2) :
  Calls prog 227 #[.agg #[.int .i64 k,.string t]] w (Ret w (.string (dQ k t))):=by
 have hk':k=0\/k=1\/k=2:=aB;rcases hk' with rfl | rfl | rfl
 all_goals
  go_enter func227,ntmps227;go_wp2;go_ret;exact⟨Qb (by simp[dQ]),aJ⟩
def bI.val(p:bI):Value:=.agg #[.int .i64 p.kind,.string p.text]
def dG(s:aC):bI :=
 if s.size<1 then ⟨0,s⟩ else if !((s.extract 0 1).toList == [42]) then ⟨0,s⟩ else if !((s.extract 1 s.size).toList.isEmpty) then ⟨1,s.extract 1 s.size⟩ else ⟨2,⟨#[]⟩⟩
theorem GH(s:aC)(w:World)(hs:s.size<=4294967200) :
  Calls prog 205 #[.string s] w (Ret w (dG s).val):=by
 by_cases h1:(1:Int)<=s.size
 ·have e0:¬ s.size<1:=aB;cases h2:((s.extract 0 1).toList == [42])
  ·have e1:(dG s).val=.agg #[.int .i64 0,.string s]:=by simp[dG,bI.val,e0,h2]
   exact Lp
  ·cases h3:(s.extract 1 s.size).toList.isEmpty
   ·have e1:(dG s).val=.agg #[.int .i64 1,.string (s.extract 1 s.size)]:=by simp[dG,bI.val,e0,h2,h3]
    rw[e1];clear e1;go_enter func205,ntmps205;go_wp2;exact bodyPost_ret (v:=.agg #[.int .i64 1,.string (s.extract 1 s.size)]) DJ rfl ⟨rfl,aJ⟩
   ·have e1:(dG s).val=.agg #[.int .i64 2,.string ⟨#[]⟩]:=by simp[dG,bI.val,e0,h2,h3]
    rw[e1];clear e1;go_enter func205,ntmps205;go_wp2;exact bodyPost_ret (v:=.agg #[.int .i64 2,.string ⟨#[]⟩]) DJ rfl ⟨rfl,aJ⟩
 ·have e1:(dG s).val=.agg #[.int .i64 0,.string s]:=by simp[dG,bI.val,show s.size<1 by omega]
  exact Lp
def fD(p q:bI):bI:=if fC p.kind p.text q.kind q.text then q else p
def nJ(p q:bI):Bool:=fC p.kind p.text q.kind q.text||fC q.kind q.text p.kind p.text
theorem TG(k k2:Nat)(t t2:aC)(w:World)(ht2:t2.size<=4294967281)(ht:t.size<=4294967281)(hk:k<=2)(hk2:k2<=2) :
  Calls prog 285 #[.agg #[.int .i64 k,.string t],.agg #[.int .i64 k2,.string t2]] w (Ret w (.tuple #[(fD ⟨k,t⟩ ⟨k2,t2⟩).val,.bool (nJ ⟨k,t⟩ ⟨k2,t2⟩)])):=by
 have c1:∀ W,Calls prog 214 #[.agg #[.int .i64 k,.string t],.agg #[.int .i64 k2,.string t2]] W (Ret W (.bool (fC k t k2 t2))):=fun W=>Lm k k2 t t2 W ht2 ht hk hk2
 have c2:∀ W,Calls prog 214 #[.agg #[.int .i64 k2,.string t2],.agg #[.int .i64 k,.string t]] W (Ret W (.bool (fC k2 t2 k t))):=fun W=>Lm k2 k t2 t W ht ht2 hk2 hk
 have H1:=aA c1;have H2:=aA c2;clear c1 c2;unfold fD nJ;dsimp only;cases hh:fC k t k2 t2;all_goals
  rw[hh]at H1;simp only[Bool.false_eq_true,if_false,if_true,Bool.false_or,Bool.true_or];clear hh;unfold bI.val;dsimp only;go_enter func285,ntmps285;go_wp2_with fail;refine (H1.out _).mono ?_;rintro e w1 ⟨rfl,hb1⟩;obtain⟨hc1,hf1⟩:=bT hb1;have hz1_0:w.heap.size<w1.heap.size:=iQ;have hz1_1:w.heap.size+1<w1.heap.size:=iQ;have hz1_2:w.heap.size+1+1<w1.heap.size:=iQ
 ·go_wp2_with fail;have f1:w1.cell? ⟨w.heap.size,0,none⟩=some (.int .i64 k):=sS;have f2:w1.cell? ⟨w.heap.size,1,none⟩=some (.string t):=sS;have f3:w1.cell? ⟨w.heap.size+1,0,none⟩=some (.int .i64 k2):=sS;have f4:w1.cell? ⟨w.heap.size+1,1,none⟩=some (.string t2):=sS;have f5:w1.cell? ⟨w.heap.size+1+1,0,none⟩=some (.int .i64 0):=sS;have f6:w1.cell? ⟨w.heap.size+1+1,1,none⟩=some (.string ⟨#[]⟩):=sS;have f7:w1.frozen? ⟨w.heap.size+1+1,0,none⟩=false:=by simp[hf1,go_sem]
  have f8:w1.frozen? ⟨w.heap.size+1+1,1,none⟩=false:=by simp[hf1,go_sem]
  clear hc1 hf1;go_region_held3 (fun w'=>w'.cell? ⟨w.heap.size,0,none⟩=some (.int .i64 k)/\w'.cell? ⟨w.heap.size,1,none⟩=some (.string t)/\w'.cell? ⟨w.heap.size+1,0,none⟩=some (.int .i64 k2)/\w'.cell? ⟨w.heap.size+1,1,none⟩=some (.string t2)/\w'.cell? ⟨w.heap.size+1+1,0,none⟩=some (rd w' ⟨w.heap.size+1+1,0,none⟩)/\w'.cell? ⟨w.heap.size+1+1,1,none⟩=some (rd w' ⟨w.heap.size+1+1,1,none⟩)/\w'.frozen? ⟨w.heap.size+1+1,0,none⟩=false/\w'.frozen? ⟨w.heap.size+1+1,1,none⟩=false/\aF w w')
   (first | exact⟨f1,f2,f3,f4,qE f5,qE f6,f7,f8,Below.drew aJ⟩ | (go_split_ands;exact⟨aW hb2 ‹_›,aW hb2 ‹_›,aW hb2 ‹_›,aW hb2 ‹_›,uM hb2 ‹_›,uM hb2 ‹_›,dV hb2 (bu ‹_›) ‹_›,dV hb2 (bu ‹_›) ‹_›,aV ‹_› hb2⟩) | (go_split_ands;refine⟨?_,?_,?_,?_,jm (jm ‹_›),jm (jm ‹_›),?_,?_,?_⟩ <;> first | (simp[go_sem, *];done) | (repeat (first | exact .refl _ _ | assumption | refine .drew ?_ | refine aU ?_ _ | refine oK ?_ _ | refine .setCell ?_ lw _ | refine aV ?_ dJ))))
   ((go_at_call 214;refine (H2.out _).mono ?_;rintro e w2 ⟨rfl,hb2⟩))
  go_wp2;exact bodyPost_ret (v:=.tuple #[.agg #[.int .i64 k,.string t],.bool (fC k2 t2 k t)]) (by have g5:=aW (w:=w1.drew) hb2 f5;have g6:=aW (w:=w1.drew) hb2 f6;simp[results,results285,go_sem,g5,g6]) rfl ⟨rfl,jH⟩
 ·go_wp2_with fail;exact bodyPost_ret (v:=.tuple #[.agg #[.int .i64 k2,.string t2],.bool true]) (by simp[results,results285,go_sem,hc1]) rfl ⟨rfl,aJ⟩
end Go.Proofs.YtlkbkclnbppigaaGreatDoor
namespace Go.Proofs.YtlkbkclnbppigaaGreatDoor.Sha
open Tryz
set_option linter.unusedVariables false
set_option maxRecDepth 100000
structure Str(m:List Nat)(s:St)(blk:List Nat):Prop where
 st:s=blocks (m.length / 64) st0 m
 len:blk.length=64
 tail:blk.take (m.length % 64)=m.drop (64*(m.length / 64))
theorem str0(blk:List Nat)(h:blk.length=64):Str [] st0 blk:=⟨rfl,h,rfl⟩
theorem Str.ok{m:List Nat}{s:St}{blk:List Nat}(h:Str m s blk):Ok s:=by rw[h.st];exact Eh _ _ _ Ql
def put(blk:List Nat)(at_:Nat)(x:List Nat):List Nat:=blk.take at_++(x++blk.drop (at_+x.length))
theorem put_len{blk x:List Nat}{a:Nat}(h:a+x.length<=blk.length):(put blk a x).length=blk.length:=by
 unfold put;simp;omega
theorem Str.step{m:List Nat}{s:St}{blk:List Nat}(h:Str m s blk)(x:List Nat)(hx:m.length % 64+x.length<64):Str (m++x) s (put blk (m.length % 64) x):=by
 have hl:=h.len;have hq:(m++x).length / 64=m.length / 64:=vO;have hr:(m++x).length % 64=m.length % 64+x.length:=vO;refine⟨?_,by rw[put_len aB];exact hl,?_⟩
 ·rw[hq,zX _ _ _ _ aB];exact h.st
 ·rw[hq,hr];unfold put;rw[<-List.append_assoc,List.take_append_of_le_length aP,List.take_of_length_le aP,h.tail,List.drop_append_of_le_length aB]
theorem Str.full{m:List Nat}{s:St}{blk:List Nat}(h:Str m s blk)(x:List Nat)(hx:m.length % 64+x.length=64):Str (m++x) (comp s (put blk (m.length % 64) x)) (put blk (m.length % 64) x):=by
 have hl:=h.len;have hq:(m++x).length / 64=m.length / 64+1:=vO;have hr:(m++x).length % 64=0:=vO;have hp:put blk (m.length % 64) x=(m++x).drop (64*(m.length / 64)):=by
  unfold put;rw[h.tail,List.drop_append_of_le_length aB,(show blk.drop (m.length % 64+x.length)=[] from List.drop_eq_nil_of_le aB),List.append_nil]
 refine⟨?_,by rw[put_len aB];exact hl,?_⟩
 ·rw[hq,Em,zX _ _ _ _ aB,<-h.st,hp]
 ·rw[hq,hr,List.take_zero,List.drop_eq_nil_of_le vO]
theorem Str.sum{m:List Nat}{s:St}{blk:List Nat}(h:Str (pad m) s blk):out s=sum m:=by
 unfold Sha.sum;rw[h.st]
def padT(n:Nat):List Nat:=128 :: (List.replicate ((119-n % 64) % 64) 0++bytes8 (8*n))
theorem pad_eq(m:List Nat):pad m=m++padT m.length:=rfl
theorem padT_len(n:Nat):(padT n).length=9+(119-n % 64) % 64:=by
 unfold padT bytes8 bytes4;simp only[List.length_append,List.length_cons,List.length_replicate,List.length_nil];omega
def vintF:Nat->Nat->List Nat
 | 0,z=>[z]
 | f+1,z=>if z<128 then [z] else (z % 128+128) :: vintF f (z / 128)
def vint(z:Nat):List Nat:=vintF 10 z
def wireB(s:List Nat):List Nat:=vint (2*s.length)++s
def input(tag:Nat)(ps:List (List Nat)):List Nat:=tag :: ps.flatMap wireB
def ofD(tag:Nat)(ps:List (List Nat)):List Nat:=(sum (input tag ps)).take 16
theorem bytes4_lt{x:Nat}(hx:x<4294967296):∀ b∈bytes4 x,b<256:=by
 intro b hb;simp only[bytes4,List.mem_cons,List.not_mem_nil,or_false]at hb;rcases hb with rfl | rfl | rfl | rfl <;> omega
end Go.Proofs.YtlkbkclnbppigaaGreatDoor.Sha
namespace Go.Proofs.YtlkbkclnbppigaaGreatDoor
open Tryz
open Go.RowKit Go.Sort
set_option linter.unusedVariables false
set_option linter.unusedSimpArgs false
set_option maxRecDepth 100000
theorem Xc(n:Nat)(h1:1<=n)(h2:n<=31):bits .and .u64 (IntKind.u64.wrap (-(n:Int))) 31=((32-n:Nat):Int):=by
 have e:IntKind.u64.wrap (-(n:Int))=((18446744073709551616-n:Nat):Int):=by
  simp[IntKind.wrap,IntKind.bits,IntKind.signed];omega
 rw[e];have h:=u64_and_nat (18446744073709551616-n) 31 aB aB;rw[show ((31:Nat):Int)=31 from rfl]at h;rw[h];have h3:(18446744073709551616-n) &&& 31=(18446744073709551616-n) % 32:=Nat.and_two_pow_sub_one_eq_mod _ 5;rw[h3];congr 1;omega
theorem Xd(x n:Nat)(hx:x<4294967296)(h1:1<=n)(h2:n<=31):bits .or .u32 ((x:Int)*2 ^ (32-n) % 4294967296) ((x:Int) / 2 ^ (32-(32-n)))=((Sha.rot x n:Nat):Int):=by
 have h:=u32_or_nat (x*2 ^ (32-n) % 4294967296) (x / 2 ^ n) (Nat.mod_lt _ aK) (Nat.lt_of_le_of_lt (Nat.div_le_self _ _) hx);have e1:((x*2 ^ (32-n) % 4294967296:Nat):Int)=(x:Int)*2 ^ (32-n) % 4294967296:=aH;have e2:((x / 2 ^ n:Nat):Int)=(x:Int) / 2 ^ (32-(32-n)):=by rw[show 32-(32-n)=n by omega];simp
 rw[e1,e2]at h;rw[h];congr 1;exact Nat.or_comm _ _
theorem sU(a b:Nat)(ha:a<4294967296)(hb:b<4294967296):bits .xor .u32 (a:Int) (b:Int)=((a ^^^ b:Nat):Int):=u32_xor_nat a b ha hb
theorem qj(x n:Nat)(w:World)(hx:x<4294967296)(h1:1<=n)(h2:n<=31):Calls prog 287 #[.int .u32 x,.int .i64 (-(n:Int))] w (fun e w'=>e=.returned (.int .u32 (Sha.rot x n:Nat))/\w'=w):=by
 have ha:=Xc n h1 h2;have hr:=aA (Xd x n hx h1 h2);go_enter func287,ntmps287;go_wp2;go_ret;exact⟨by rw[hr.out];rfl,rfl⟩
theorem FO(x i j k:Nat)(w:World)(hx:x<4294967296)(i1:1<=i)(i2:i<=31)(j1:1<=j)(j2:j<=31)(k1:1<=k)(k2:k<=31):Calls prog 231 #[.int .u32 x,.int .i64 i,.int .i64 j,.int .i64 k] w (fun e w'=>e=.returned (.int .u32 (Sha.mix x i j k:Nat))/\w'=w):=by
 have e1:=sU (Sha.rot x i) (Sha.rot x j) (Sha.rot_lt x i hx) (Sha.rot_lt x j hx);have e2:=sU (Sha.rot x i ^^^ Sha.rot x j) (Sha.rot x k) (Sha.xor_lt (Sha.rot_lt x i hx) (Sha.rot_lt x j hx)) (Sha.rot_lt x k hx);have hI:=aA (fun W=>qj x i W hx i1 i2);have hJ:=aA (fun W=>qj x j W hx j1 j2);have hK:=aA (fun W=>qj x k W hx k1 k2);unfold Sha.mix;generalize Sha.rot x i=ri at *;generalize Sha.rot x j=rj at *;generalize Sha.rot x k=rk at *;go_enter func231,ntmps231;go_wp2_with fail;refine (hI.out _).mono ?_;rintro e w1 ⟨rfl,rfl⟩;go_wp2_with fail;refine (hJ.out _).mono ?_;rintro e w2 ⟨rfl,rfl⟩;go_wp2_with fail;refine (hK.out _).mono ?_;rintro e w3 ⟨rfl,rfl⟩;go_wp2_with fail;go_ret;exact⟨rfl,rfl⟩
end Go.Proofs.YtlkbkclnbppigaaGreatDoor
namespace Go.Proofs.YtlkbkclnbppigaaGreatDoor.Sha
open Tryz
set_option linter.unusedVariables false
set_option maxRecDepth 100000
def sched(b:List Nat):List Nat:=grow 48 (words 16 b)
theorem sched_len(b:List Nat):(sched b).length=64:=by unfold sched;rw[wW,uQ]
theorem yf:∀(n k:Nat)(l:List Nat),k<=n->(grow n l).take (l.length+k)=grow k l
 | 0,k,l,h=>by
  have hk:k=0:=aB;subst hk;rw[grow,List.take_of_length_le aB]
 | n+1,k,l,h=>by
  rw[wV];by_cases hk:k=n+1
  ·subst hk;rw[List.take_of_length_le (by simp[wW];omega),wV]
  ·rw[List.take_append_of_le_length (by rw[wW];omega),yf n k l aB]
theorem getD_take{l:List Nat}{j k:Nat}(h:j<k):(l.take k).getD j 0=l.getD j 0:=by
 rw[List.getD_eq_getElem?_getD,List.getD_eq_getElem?_getD,List.getElem?_take_of_lt h]
theorem sched_hi(b:List Nat)(t:Nat)(h1:16<=t)(h2:t<64):(sched b).getD t 0=add32 (add32 (add32 ((sched b).getD (t-16) 0) (s0 ((sched b).getD (t-15) 0))) ((sched b).getD (t-7) 0)) (s1 ((sched b).getD (t-2) 0)):=by
 have hw:=uQ 16 b;have e1:(sched b).take t=grow (t-16) (words 16 b):=by
  have:=yf 48 (t-16) (words 16 b) aB;rw[hw,show 16+(t-16)=t by omega]at this;exact this
 have e2:(sched b).take (t+1)=(sched b).take t++[uP ((sched b).take t)]:=by
  have:=yf 48 (t-16+1) (words 16 b) aB;rw[hw,show 16+(t-16+1)=t+1 by omega,wV (t-16),<-e1]at this;exact this
 have hl:((sched b).take t).length=t:=by rw[List.length_take,sched_len];omega
 rw[<-getD_take (l:=sched b) (j:=t) (k:=t+1) aB,e2,List.getD_eq_getElem?_getD,List.getElem?_append_right aB,hl,Nat.sub_self];show uP ((sched b).take t)=_;unfold uP;rw[hl,getD_take aB,getD_take aB,getD_take aB,getD_take aB]
theorem Lr:∀(n t:Nat)(b:List Nat),t<n->(words n b).getD t 0=qG (b.drop (4*t))
 | 0,t,b,h=>aB
 | n+1,0,b,h=>rfl
 | n+1,t+1,b,h=>by
  rw[words,List.getD_cons_succ,Lr n t _ aB,List.drop_drop,show 4+4*t=4*(t+1) by omega]
theorem sched_lo(b:List Nat)(t:Nat)(h:t<16):(sched b).getD t 0=qG (b.drop (4*t)):=by
 have hw:=uQ 16 b;have:=yf 48 0 (words 16 b) aB;rw[hw]at this;rw[<-getD_take (l:=sched b) (j:=t) (k:=16) aB];show ((grow 48 (words 16 b)).take 16).getD t 0=_;rw[this,grow,Lr 16 t b h]
def part(d:List Nat):Nat->Nat
 | 0=>0
 | j+1=>part d j*256+d.getD j 0
theorem part4(d:List Nat):part d 4=qG d:=by simp[part,qG]
theorem part_lt(d:List Nat)(hd:∀ j,d.getD j 0<256):∀ j,part d j<256 ^ j
 | 0=>by simp[part]
 | j+1=>by
  have:=part_lt d hd j;have h2:=hd j;rw[part,Nat.pow_succ];omega
theorem getD_lt{b:List Nat}(hb:∀ x∈b,x<256)(j:Nat):b.getD j 0<256:=by
 rw[List.getD_eq_getElem?_getD];cases h:b[j]? with
 | none=>decide
 | some x=>exact hb x (List.mem_of_getElem? h)
theorem getD_drop(b:List Nat)(k j:Nat):(b.drop k).getD j 0=b.getD (k+j) 0:=by
 rw[List.getD_eq_getElem?_getD,List.getD_eq_getElem?_getD,List.getElem?_drop]
theorem Xe{d:List Nat}(hd:∀ j,d.getD j 0<256):qG d<4294967296:=by
 have:=part_lt d hd 4;rw[part4]at this;simpa using this
theorem sched_lt{b:List Nat}(hb:∀ x∈b,x<256)(t:Nat):(sched b).getD t 0<4294967296:=by
 by_cases h64:t<64
 ·by_cases h:t<16
  ·rw[sched_lo b t h];exact Xe fun j=>by rw[getD_drop];exact getD_lt hb _
  ·rw[sched_hi b t aB h64];exact add32_lt _ _
 ·rw[List.getD_eq_getElem?_getD,List.getElem?_eq_none (by rw[sched_len];omega)];decide
theorem or_byte(a x:Nat)(hx:x<256):(a*256)|||x=a*256+x:=by
 have:=Nat.two_pow_add_eq_or_of_lt (i:=8) (b:=x) uT a;rw[show 2 ^ 8*a=a*256 by omega]at this;exact this.symm
theorem ks_len:ks.length=64:=rfl
theorem ks_lt(t:Nat):ks.getD t 0<4294967296:=by
 rw[List.getD_eq_getElem?_getD];cases h:ks[t]? with
 | none=>decide
 | some x =>
  have:∀ x∈ks,x<4294967296:=by decide +kernel
  exact this x (List.mem_of_getElem? h)
def upto(b:List Nat)(s:St)(t:Nat):St:=kK (ks.take t) ((sched b).take t) s
theorem upto_succ(b:List Nat)(s:St)(t:Nat)(h:t<64):upto b s (t+1)=round (upto b s t) (ks.getD t 0) ((sched b).getD t 0):=by
 unfold upto;exact Qi _ _ _ _ (by rw[ks_len];exact h) (by rw[sched_len];exact h)
theorem upto_ok{s:St}(b:List Nat)(hs:Ok s)(t:Nat):Ok (upto b s t):=Eg _ _ _ hs
theorem comp_eq(s:St)(b:List Nat):comp s b=⟨add32 s.a (upto b s 64).a,add32 s.b (upto b s 64).b,add32 s.c (upto b s 64).c,add32 s.d (upto b s 64).d,add32 s.e (upto b s 64).e,add32 s.f (upto b s 64).f,add32 s.g (upto b s 64).g,add32 s.h (upto b s 64).h⟩:=by
 have e:upto b s 64=kK ks (grow 48 (words 16 b)) s:=by
  unfold upto;rw[List.take_of_length_le (by rw[ks_len];exact Nat.le_refl _),List.take_of_length_le (by rw[sched_len];exact Nat.le_refl _)];rfl
 rw[e];rfl
theorem Lt:∀(f z:Nat),(vintF f z).length<=f+1
 | 0,z=>by simp[vintF]
 | f+1,z=>by
  rw[vintF];split
  ·simp
  ·rw[List.length_cons];have:=Lt f (z / 128);omega
theorem vint_len(z:Nat):(vint z).length<=11:=Lt 10 z
theorem vintF_lt:∀(f z:Nat),z<128 ^ (f+1)->∀ b∈vintF f z,b<256
 | 0,z,h,b,hb=>by
  rw[vintF]at hb;have:=List.mem_singleton.1 hb;simp at h;omega
 | f+1,z,h,b,hb=>by
  rw[vintF]at hb;split at hb
  ·have:=List.mem_singleton.1 hb;omega
  ·rcases List.mem_cons.1 hb with hb | hb
   ·omega
   ·refine vintF_lt f _ ?_ b hb;rw[Nat.pow_succ]at h;exact Nat.div_lt_of_lt_mul (by rw[Nat.mul_comm];exact h)
end Go.Proofs.YtlkbkclnbppigaaGreatDoor.Sha
namespace Go.Proofs.YtlkbkclnbppigaaGreatDoor
open Tryz
open Go.RowKit Go.Sort
set_option linter.unusedVariables false
set_option linter.unusedSimpArgs false
set_option maxRecDepth 100000
theorem Lu{α:Type}{size:Nat}(cells:α->List Value):∀ L:List α,(∀ a∈L,(cells a).length=size)->(L.flatMap cells).length=L.length*size
 | [],_=>aH
 | a :: L,h=>by
  rw[List.flatMap_cons,List.length_append,h a aH,Lu cells L (fun b hb=>h b (by simp[hb])),List.length_cons,Nat.add_mul,Nat.one_mul,Nat.add_comm]
theorem L6{α:Type}{size:Nat}(cells:α->List Value):∀(L:List α),(∀ a∈L,(cells a).length=size)->∀(k j:Nat)(a:α),L[k]? = some a->j<size->(L.flatMap cells)[k*size+j]? = (cells a)[j]?
 | [],_,k,j,a,h,_=>nG
 | b :: L,hl,0,j,a,h,hj=>by
  simp at h;subst h;rw[List.flatMap_cons,Nat.zero_mul,Nat.zero_add,List.getElem?_append_left (by rw[hl b aH];exact hj)]
 | b :: L,hl,k+1,j,a,h,hj=>by
  rw[List.flatMap_cons,List.getElem?_append_right (by rw[hl b aH,Nat.add_mul];omega),hl b aH];rw[show (k+1)*size+j-size=k*size+j by rw[Nat.add_mul];omega];exact L6 cells L (fun c hc=>hl c (by simp[hc])) k j a nD hj
theorem aI.row{α:Type}{size n:Nat}{w:World}{A:Option Addr}{cells:α->List Value}{L:List α}(h:aI w size A n (L.flatMap cells))(hl:∀ a∈L,(cells a).length=size)(hL:L.length=n){k:Nat}{a:α}(hk:L[k]? = some a) :
  ∃ b o,A=some ⟨b,o,none⟩/\∀ j u,(cells a)[j]? = some u->w.cell? ⟨b,o+k*size+j,none⟩=some u:=by
 have hkl:=(List.getElem?_eq_some_iff.1 hk).1;obtain⟨b,o,rfl,hc⟩:=h.2 aB;refine⟨b,o,rfl,fun j u hu=>?_⟩;have hj:=(List.getElem?_eq_some_iff.1 hu).1;rw[hl a (List.mem_of_getElem? hk)]at hj;rw[Nat.add_assoc];exact hc _ u (by rw[L6 cells L hl k j a hk hj];exact hu)
theorem aI.drop{size n:Nat}{w:World}{A:Option Addr}{vs:List Value}(h:aI w size A n vs):vs.length=n*size:=h.1
structure lW(ob:Nat)(W W':World):Prop where
 low:Below ob W W'
 same:∀ k,ob<k->k<W.heap.size->W'.heap[k]? = W.heap[k]?
structure nY(ob n0 B:Nat)(W W':World):Prop where
 low:Below ob W W'
 same:∀ k,ob<k->k<n0\/B<=k->k<W.heap.size->W'.heap[k]? = W.heap[k]?
theorem lW.ob{ob:Nat}{W W':World}(n0 B:Nat)(h:lW ob W W'):nY ob n0 B W W':=⟨h.low,fun k h1 _ h2=>h.same k h1 h2⟩
theorem nY.trans{ob n0 B:Nat}{X Y Z:World}(h:nY ob n0 B X Y)(k:nY ob n0 B Y Z):nY ob n0 B X Z :=
 ⟨h.low.trans k.low,fun i h1 h2 h3=>(k.same i h1 h2 (Nat.lt_of_lt_of_le h3 h.low.size)).trans (h.same i h1 h2 h3)⟩
theorem lW.trans{ob:Nat}{X Y Z:World}(h:lW ob X Y)(k:lW ob Y Z):lW ob X Z :=
 ⟨h.low.trans k.low,fun i h1 h3=>(k.same i h1 (Nat.lt_of_lt_of_le h3 h.low.size)).trans (h.same i h1 h3)⟩
theorem lW.of_below{ob:Nat}{X Y:World}(h:aF X Y)(ho:ob<=X.heap.size):lW ob X Y:=⟨h.mono ho,fun k _ h2=>h.block k h2⟩
def L8(P:Program)(gf:Nat)(lb:Array Value)(xs:List Value)(ob:Nat)(w:World):Prop :=
 ∀(l:Nat)(J:Nat->World->Prop)(Jx:World->Prop)(W:World),aF w W->(∀ k A B,J k A->Below W.heap.size A B->J k B) ->
  (∀ k x W1,xs[k]? = some x->J k W1->YieldAt Fence.wide 0 P l #[x] W1 fun e W' =>
   (e=.returned (.bool true)/\J (k+1) W'/\nY ob w.heap.size W.heap.size W1 W')\/(e=.returned (.bool false)/\Jx W')) ->
  J 0 W ->
  CallsIn Fence.wide 0 P gf (#[.func (.yield l) #[] #[]]++lb) W fun e W'=>(∃ v,e=.returned v)/\(J xs.length W'\/Jx W')
def Xf(ob:Nat)(I:Nat->World->Prop)(k:Nat)(W:World):Exit->Act->World->Prop
 | .normal,_,W'=>lW ob W W'/\I k W'
 | _,_,_=>False
theorem nZ{B:Nat}{W:World}{l:Nat}{o:Obj}(o':Obj)(hl:W.heap[l]? = some o)(hB:B<=l):Below B W (W.putObj l o') :=
 (Below.refl B W).grown (grownBy_putObj' W l o') (by have:=(Array.getElem?_eq_some_iff.1 hl).1;omega) (fun k e=>mZ)
theorem L9{ob n0 B:Nat}(W:World)(l:Nat)(o o':Obj)(hl:W.heap[l]? = some o)(ho:ob<l)(h0:n0<=l)(hB:l<B):nY ob n0 B W (W.putObj l o') :=
 ⟨nZ o' hl aB,fun k h1 h2 _=>World.putObj_heap_other aB⟩
theorem Xg{P:Program}{g:Operand}{p:Tmp}{assign body:Code}{Q:Exit->Act->World->Prop}{a:Act}{w:World}
  {gf:Nat} {lb:Array Value} (hg:a.eval g=.func (.func gf) #[] lb) (eg:∀ args w,(callFunc gf args).run P w=.ok (.enter gf args) w)
  {xs:List Value} {w0:World} {ob:Nat} (hob:ob<w.heap.size) (hseq:L8 P gf lb xs ob w0) (hb0:aF w0 w)
  (I:Nat->World->Prop) (hI:∀ k A B,I k A->Below w.heap.size A B->I k B) (h0:I 0 w)
  (Ax:Value->Act->World->Prop) (hAx:∀ x a' W l o o',Ax x a' W->W.heap[l]? = some o->o.isCells=false->Ax x a' (W.putObj l o'))
  (hassign:∀(l k:Nat)(x:Value)(W:World)(K:Act->World->Prop),xs[k]? = some x->I k W->w.heap.size<=W.heap.size->(∀ a' W2,lW ob W W2->I k W2->Ax x a' W2->K a' W2) ->
   assign.wpIn (Fence.wide.inRound l) 0 P (Exit.then K (fun _ _ _=>False)) { tmps:=(#[p].zip #[x]).foldl (fun t (p,v)=>t.setIfInBounds p v) a.tmps,defers:=[] } W)
  (hbody:∀(l k:Nat)(x:Value)(a':Act)(W:World),xs[k]? = some x->I k W->Ax x a' W->body.wpIn (Fence.wide.inRound l) 0 P (Xf ob I (k+1) W) a' W)
  (hdone:∀(D:Nat)(W:World),w.heap.size<=D->I xs.length W->W.heap[D]? = some (.deferred (some []))->Q .normal { a with defers:={ target:=.collected D,args:=#[] } :: a.defers } W) :
  (Code.rangeFunc g #[p] assign body).wpIn Fence.wide 0 P Q a w:=by
 refine wpIn_rangeFunc ?_
 intro fn hfn
 obtain⟨rec,hrec⟩:∃ rec:LoopState->Option Code->Loop,rec=fun st pe=>{ state:=st,pending:=pe,fn,tmps:=a.tmps,params:=#[p],assign,body,defers:=w.heap.size }:=⟨_,rfl⟩
 obtain⟨W1,hW1⟩:∃ W1,(w.alloc (.deferred (some []))).alloc (.loop (rec .ready none))=W1:=⟨_,rfl⟩
 have hL1:W1.heap[w.heap.size+1]? = some (.loop (rec .ready none)):=by
  rw[<-hW1];have:=World.alloc_heap_new (w.alloc (.deferred (some []))) (.loop (rec .ready none));rwa [World.size_alloc]at this
 have hK1:W1.heap[w.heap.size]? = some (.deferred (some [])):=by
  rw[<-hW1];exact (Below.heap_alloc _ _ _ aH).trans (World.alloc_heap_new w _)
 have hb11:aF w W1:=by rw[<-hW1];exact aU (aU (Below.refl _ _) _) _
 have hs1:W1.heap.size=w.heap.size+2:=by rw[<-hW1];simp
 have hI1:I 0 W1:=hI _ _ _ h0 hb11
 have hb1:aF w0 W1:=aV hb0 hb11
 refine⟨w.heap.size+1,[{ target:=.collected w.heap.size,args:=#[] }],W1,{ target:=.fn (.func gf) lb,args:=#[.func (.yield (w.heap.size+1)) #[] #[]] },W1,gf,
  #[.func (.yield (w.heap.size+1)) #[] #[]]++lb,W1,?_,?_,?_,?_,(fun h=>(by cases h)),?_⟩
 ·rw[<-hW1,hrec];exact run_enterLoop_outer _ _ _ _ _
 ·simp only[resolve,hg]
  simp[go_sem]
 ·intro f' hf';trivial
 ·simp[invoke,go_sem,eg]
 ·refine (hseq (w.heap.size+1)
   (fun k W=>I k W/\W.heap[w.heap.size+1]? = some (.loop (rec .ready none))/\W.heap[w.heap.size]? = some (.deferred (some [])))
   (fun _=>False) W1 hb1
   (fun k A B hs hb=>⟨hI _ _ _ hs.1 (hb.mono aB),(hb.block _ aB).trans hs.2.1,(hb.block _ aB).trans hs.2.2⟩)
   ?_ ⟨hI1,hL1,hK1⟩).mono ?_
  ·rintro k x W hx ⟨hi,hl,hk⟩
   have hlt:w.heap.size+1<W.heap.size:=(Array.getElem?_eq_some_iff.1 hl).1
   have hy:=run_yield (P:=P) (args:=#[x]) hl (by rw[hrec];rfl)
   rw[hrec]at hy
   refine⟨fn,_,assign,body,hy,roundIn_of_wpIn hfn (hassign _ k x W _ hx hi aB ?_)⟩
   intro a' Wa hka hia hax
   have hla:=(hka.same _ aB hlt).trans hl
   have hkaa:=(hka.same _ aB aB).trans hk
   have hlta:w.heap.size+1<Wa.heap.size:=(Array.getElem?_eq_some_iff.1 hla).1
   refine⟨_,run_beginRound hla (by rw[hrec]),?_⟩
   have hl2:(Wa.putObj (w.heap.size+1) (.loop { rec .ready none with state:=.busy })).heap[w.heap.size+1]? = some (.loop { rec .ready none with state:=.busy }):=World.putObj_heap_same hlta
   have hk2:(Wa.putObj (w.heap.size+1) (.loop { rec .ready none with state:=.busy })).heap[w.heap.size]? = some (.deferred (some [])):=(World.putObj_heap_other aB).trans hkaa
   have hw2:nY ob w0.heap.size W1.heap.size W (Wa.putObj (w.heap.size+1) (.loop { rec .ready none with state:=.busy })):=(hka.ob _ _).trans (L9 _ _ _ _ hla aB (by have:=hb0.size;omega) aB)
   refine wpIn_mono (hbody _ k x a' _ hx (hI _ _ _ hia (nZ _ hla aB)) (hAx _ _ _ _ _ _ hax hla rfl)) ?_
   rintro e a3 W3 hp
   cases e with
   | normal =>
    obtain⟨hk3,hi3⟩:=hp
    have hl3:=(hk3.same _ aB (by have:=(Array.getElem?_eq_some_iff.1 hl2).1;exact this)).trans hl2
    have hk4:=(hk3.same _ aB (by have:=(Array.getElem?_eq_some_iff.1 hk2).1;exact this)).trans hk2
    have hlt3:=(Array.getElem?_eq_some_iff.1 hl3).1
    have hr:=run_endRound (P:=P) none hl3
    have hl3':=hl3
    rw[hrec]at hr
    have hr2:(Instr.endRound (w.heap.size+1) none).run P W3=.ok (.bool true) (W3.putObj (w.heap.size+1) (.loop (rec .ready none))):=by rw[hrec];exact hr
    have hl4:(W3.putObj (w.heap.size+1) (.loop (rec .ready none))).heap[w.heap.size+1]? = some (.loop (rec .ready none)):=World.putObj_heap_same hlt3
    exact⟨_,_,hr2,.inl ⟨rfl,⟨hI _ _ _ hi3 (nZ _ hl3 aB),hl4,(World.putObj_heap_other aB).trans hk4⟩,(hw2.trans (hk3.ob _ _)).trans (L9 _ _ _ _ hl3 aB (by have:=hb0.size;omega) aB)⟩⟩
   | ret=>exact hp.elim
   | exit id=>exact hp.elim
   | goto t=>exact hp.elim
   | panic ch=>exact hp.elim
   | outgrown=>exact hp.elim
  ·rintro e W2 ⟨⟨v,rfl⟩,(⟨hi,hl,hk⟩ | hf)⟩
   ·exact⟨none,_,uN,hdone _ _ (Nat.le_refl _) (hI _ _ _ hi (nZ _ hl aB)) ((World.putObj_heap_other aB).trans hk)⟩
   ·exact hf.elim
end Go.Proofs.YtlkbkclnbppigaaGreatDoor
