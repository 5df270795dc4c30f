/- The specification's text of a digest. -/
import Derived.Test.YtlkbkclnbppigaaGreatDoorNY1
set_option maxHeartbeats 4000000
namespace Go.Proofs.YtlkbkclnbppigaaGreatDoor
open Tryz
open Go.RowKit Go.Sort
set_option linter.unusedVariables false
set_option linter.unusedSimpArgs false
set_option maxRecDepth 100000
theorem aNb:(prog.info? 5).map (fun i=>(i.zero,i.size,i.bytes))=some (some (.int .u8 0),1,1):=by kernel_rfl
theorem aNc(w:World)(t:TypeId)(a:Value)(g:Nat)(hg:g=w.heap.size):aH (w.alloc (.cells #[a] t)) 1 (some ⟨g,0,none⟩) 1 [a]:=by
 subst hg;refine⟨rfl,fun _=>⟨_,_,rfl,fun j u hu=>?_⟩⟩;rw[Nat.zero_add,cell_of_row _ _ _ _ _ _ (World.alloc_heap_new w (.cells #[a] t))];simpa using hu
theorem aNd(l:List Nat)(k:Nat)(hk:k<l.length):b8 (l.take (k+1))=b8 (l.take k)++[.int .u8 ((l.getD k 0:Nat):Int)]:=by
 rw[List.take_add_one,List.getElem?_eq_getElem hk,oZ];simp[b8,List.getD_eq_getElem?_getD,List.getElem?_eq_getElem hk]
theorem aNe(l:List Nat)(hl:eU l)(w:World):Calls prog 107 #[.agg (b8 l).toArray] w (Ret w (.string (toN l))):=by
 obtain⟨i0,hi0,hz0,hz1,hz2⟩:=info_parts aNb;have HI:=aB (And.intro hi0 (And.intro hz0 (And.intro hz1 hz2)));clear hi0 hz0 hz1 hz2;have hlen:=hl.len;have hXc:∀ k,k<16->(b8 l).toArray[k]? = some (.int .u8 ((l.getD k 0:Nat):Int)):=fun k hk=>by rw[List.getElem?_toArray];exact lT l aA
 have HXC:=aB hXc;have HLT:=aB hl.lt;have HLEN:=aB hlen;clear hXc hlen hl;generalize (b8 l).toArray=X at *;go_enter func107,ntmps107;go_upto_region 1 with fail
 generalize hw0:World.alloc _ _=w0;have hx0:aQ w0 w.heap.size 51 X:=qU;have hb0:Below w.heap.size w w0:=sJ;have hs0:w.heap.size+1<=w0.heap.size:=uf;clear hw0;go_wp2;go_loopw [4,3] (fun iv pv wr=>∃(k:Nat)(B:Option Addr)(d:Nat),k<=16/\iv=.int .i64 k/\pv=.slice B k d/\wr.ownsRow (w.heap.size+1) 5 1 (.slice B k d) k (b8 (l.take k))/\aQ wr w.heap.size 51 X/\w.heap.size+1<=wr.heap.size/\Below w.heap.size w wr) (fun iv _ _=>16-(intOf iv).toNat)
 case atStart=>exact⟨0,none,0,aA,rfl,rfl,World.ownsRow_nil _ _ _ _,hx0,hs0,hb0⟩
 case round =>
  obtain⟨k,B,d,hk,rfl,rfl,hown,hx,hs,hb⟩:=hrel;clear hx0 hb0;by_cases hlt:k<16
  ·have y:=hx.cell (HXC.out k hlt);have hzl:=bf y;have hk0:(0:Int)<=(k:Int):=aA;have hk1:(k:Int)<16:=aA;have e1:=aNd l k (by have:=HLEN.out;omega);generalize l.getD k 0=q at *;have HE:=aB e1;have hown1:=dV hown (fD wr (.cells #[.int .u8 (q:Int)] 5));have hra1:=aNc wr 5 (.int .u8 (q:Int)) wr.heap.size rfl;have HO1:=aB hown1;have HR1:=aB hra1;have HX:=aB hx;have HB1:=aB (fD wr (.cells #[.int .u8 (q:Int)] 5));clear hown1 hra1 hown e1 hx;go_wp2_with (at_builtin;refine wL _ rfl _ _ 105 rfl (w.heap.size+1) 5 i0 (.int .u8 0) 1 underlying105 HI.out.1 HI.out.2.1 HI.out.2.2.1 HI.out.2.2.2 rfl _ _ _ rfl HO1.out (some ⟨wr.heap.size,0,none⟩) 1 1 [.int .u8 (q:Int)] rfl HR1.out (by intro u hu;rw[List.mem_singleton.1 hu];rfl) cZ aA aJ ?_;intro v3 w3 hown3 hg3;obtain⟨B3,d3,rfl⟩:=uB hown3);have hb3:Below (w.heap.size+1) wr w3:=(Below.mono HB1.out aA).trans (Below.grown (Below.refl _ _) hg3 aJ (fun r e=>dK HO1.out r e));exact⟨⟨k+1,B3,d3,aA,aj,rfl,by rw[HE.out];exact hown3,(hb3.block _ aA).trans HX.out,Nat.le_trans hs hb3.size,hb.trans (Below.mono hb3 aA)⟩,au⟩
  ·obtain rfl:k=16:=aA;have hlk:l.take 16=l:=List.take_of_length_le (by have:=HLEN.out;omega);rw[hlk]at hown;have hcv:=vU wr B 16 d l HLEN.out HLT.out aA (aH.of_own hown);have HCV:=aB hcv;clear hown hlk;go_wp2;go_ret;exact⟨rfl,hb⟩
def mF(l:List ByteArray)(k:Nat):ByteArray:=toB (Lib.join ((bD l).take k) [44])
theorem aNf(l:List ByteArray)(x:ByteArray)(h:l[0]? = some x):mF l 1=x:=by
 cases l with
 | nil=>cases h
 | cons y r =>
  simp only[List.getElem?_cons_zero,Option.some.injEq]at h;subst h;simp only[mF,bD,List.map_cons,List.take_succ_cons,List.take_zero,Lib.join_one];exact dP (by simp[toB])
theorem aNg(l:List ByteArray)(k:Nat)(x:ByteArray)(hk:k≠0)(h:l[k]? = some x):mF l k++⟨#[44]⟩++x=mF l (k+1):=by
 cases l with
 | nil=>cases h
 | cons y r =>
  obtain⟨j,rfl⟩:∃ j,k=j+1:=⟨k-1,aA⟩;rw[List.getElem?_cons_succ]at h;simp only[mF,bD,List.map_cons,List.take_succ_cons,Lib.join_cons];rw[Lib.joinTail_take_succ [44] (r.map (·.data.toList)) j x.data.toList (by rw[List.getElem?_map,h];rfl)];exact dP (by simp[toB])
theorem aNh(l:List ByteArray)(k:Nat):(mF l k).size<=(Lib.join (bD l) [44]).length:=by
 rw[mF,nK];cases l with
 | nil=>simp[bD]
 | cons y r =>
  cases k with
  | zero=>simp[Lib.join_nil]
  | succ j =>
   simp only[bD,List.map_cons,List.take_succ_cons,Lib.join_cons,List.length_append];have:=Lib.joinTail_take_le [44] (r.map (·.data.toList)) j;omega
theorem aNi(l:List ByteArray):mF l l.length=toB (Lib.join (bD l) [44]):=by
 rw[mF,List.take_of_length_le (by simp[bD])]
theorem D7(s x:ByteArray):leS s x=true↔s.data.toList<=x.data.toList:=by
 have h:=OC s x;unfold leS;rw[<-List.not_lt];constructor
 ·intro h1 h2;rw[h1]at h;simp[h2]at h
 ·intro h1;cases hb:(Op.bytesLess s.toList x.toList||s.toList==x.toList)
  ·rw[hb]at h;exact absurd kX h1
  ·rfl
theorem D8(s x:ByteArray):(x.toList != s.toList)=true↔x.data.toList≠s.data.toList:=by
 rw[Lib.toList_data,Lib.toList_data];simp
def pV(c:aZ):Bool:=xP c.cl.length c.co.length c.si.length c.pat c.cl c.co
theorem Vh{c:aZ}(h:pV c=true):dG c:=by
 unfold pV xP at h;simp only[Bool.and_eq_true,decide_eq_true_eq,List.all_eq_true]at h;obtain⟨⟨⟨⟨⟨h1,h2⟩,h3⟩,h4⟩,h5⟩,h6⟩:=h;exact⟨aA,fun x hx=>by have:=h5 x hx;omega,fun x hx=>by have:=h6 x hx;omega,aA,aA,aA⟩
theorem aNj(c:aZ)(m:af)(w:World)(hR:bz w c m):Calls prog 9 #[af.val c m] w (Ret w (.bool (pV c))):=aLk c.fr c.till c.us c.pat m.A m.B m.S c.cl.length m.ca c.co.length m.cb c.si.length m.cs c.cl c.co w hR.cl hR.co
theorem aNk(s:ByteArray)(h:s.size=2):dm s=(decide ((97:Int)<=((s[0]' aA).toNat:Int))&&decide (((s[0]' aA).toNat:Int)<=122)&&decide ((97:Int)<=((s[1]' aA).toNat:Int))&&decide (((s[1]' aA).toNat:Int)<=122)):=by
 exact Un
theorem Vj(s:ByteArray)(w:World)(hs:s.size<=4294967281):Calls prog 67 #[.string s] w (Ret w (.bool (dm s))):=by
 by_cases h2:s.size=2
 ·have d2:((s.size:Int)==2)=true:=aJ;have hv:=aNk s h2;have q0:(0:Int)<(s.size:Int):=aA;have q1:(1:Int)<(s.size:Int):=aA;rw[hv];clear hv;cases e1:decide ((97:Int)<=((s[0]' aA).toNat:Int))
  ·exact xR
  cases e2:decide (((s[0]' aA).toNat:Int)<=122)
  ·exact xR
  cases e3:decide ((97:Int)<=((s[1]' aA).toNat:Int))
  ·exact xR
  cases e4:decide (((s[1]' aA).toNat:Int)<=122)
  ·exact xR
  ·exact xR
 ·have d2:((s.size:Int)==2)=false:=beq_eq_false_iff_ne.2 aA;have hv:dm s=false:=by unfold dm;rw[decide_eq_false h2];rfl
  rw[hv];exact xR
def jC{α:Type} [DecidableEq α] (l:List α) (x:α):Bool:=l.contains x
theorem Vk{α:Type} [DecidableEq α] (l:List α) (x:α):jC l x=true↔x∈l:=by unfold jC;exact List.contains_iff_mem
theorem aNl{α:Type} [DecidableEq α] {l:List α} {k:Nat} {x s:α} (h:jC (l.take k) s=false) (hx:l[k]? = some x) (hp:x≠s):jC (l.take (k+1)) s=false:=by
 rw[<-Bool.not_eq_true,Vk]at h ⊢;rw[List.take_add_one,hx];simp only[Option.toList_some,List.mem_append,List.mem_singleton,not_or];exact⟨h,fun e=>hp e.symm⟩
theorem Vl{α:Type} [DecidableEq α] {l:List α} {k:Nat} {x s:α} (hx:l[k]? = some x) (hp:x=s):jC l s=true:=by
 rw[Vk,<-hp];exact List.mem_of_getElem? hx
theorem Vm(A:Option Addr)(n c:Nat)(xs:List ByteArray)(s:ByteArray)(w:World)(hA:aH w 1 A n (xs.map .string))(hn:n<=1000000000):Calls prog 128 #[.slice A n c,.string s] w (Ret w (.bool (jC xs s))):=by
 have hl:xs.length=n:=iY;obtain⟨V,hV⟩:∃ V,V=jC xs s:=⟨_,rfl⟩;rw[<-hV];have HA:=aB hA;have HL:=aB hl;have HV:=aB hV;clear hA hl hV;go_enter func128,ntmps128;go_wp2;go_loopw [5] (fun i wr=>∃ k:Nat,k<=n/\i=.int .i64 k/\Hid (jC (xs.take k) s=false)/\Below w.heap.size w wr) (fun i _=>n-(intOf i).toNat)
 case atStart=>exact⟨0,aA,rfl,aB rfl,Below.refl _ _⟩
 case round =>
  obtain⟨k,hk,rfl,HK,hb⟩:=hrel;by_cases hlt:k<n
  ·obtain⟨x,hx⟩:∃ x,xs[k]? = some x:=⟨_,List.getElem?_eq_getElem dR⟩;obtain⟨pb,po,rfl,hcell⟩:=(HA.out.keep hb).2 aA;have hc1:wr.cell? ⟨pb,po+k,none⟩=some (.string x):=hcell k _ dL;have hk0:(0:Int)<=(k:Int):=aA;have hk1:(k:Int)<(n:Int):=aA;cases he:(x.toList==s.toList)
   ·exact Vo
   ·obtain rfl:V=true:=by rw[HV.out];exact Vl hx ((Ld x s).1 he)
    clear HK hcell hx;go_wp2;go_ret;exact⟨rfl,hb⟩
  ·exact Vp
theorem aNm(A:Option Addr)(n c:Nat)(xs:List Int)(s:Int)(w:World)(hA:aH w 1 A n (xs.map (.int .i64)))(hn:n<=1000000000):Calls prog 129 #[.slice A n c,.int .i64 s] w (Ret w (.bool (jC xs s))):=by
 have hl:xs.length=n:=iY;obtain⟨V,hV⟩:∃ V,V=jC xs s:=⟨_,rfl⟩;rw[<-hV];have HA:=aB hA;have HL:=aB hl;have HV:=aB hV;clear hA hl hV;go_enter func129,ntmps129;go_wp2;go_loopw [5] (fun i wr=>∃ k:Nat,k<=n/\i=.int .i64 k/\Hid (jC (xs.take k) s=false)/\Below w.heap.size w wr) (fun i _=>n-(intOf i).toNat)
 case atStart=>exact⟨0,aA,rfl,aB rfl,Below.refl _ _⟩
 case round =>
  obtain⟨k,hk,rfl,HK,hb⟩:=hrel;by_cases hlt:k<n
  ·obtain⟨x,hx⟩:∃ x,xs[k]? = some x:=⟨_,List.getElem?_eq_getElem dR⟩;obtain⟨pb,po,rfl,hcell⟩:=(HA.out.keep hb).2 aA;have hc1:wr.cell? ⟨pb,po+k,none⟩=some (.int .i64 x):=hcell k _ dL;have hk0:(0:Int)<=(k:Int):=aA;have hk1:(k:Int)<(n:Int):=aA;cases he:(x==s)
   ·exact Vo
   ·obtain rfl:V=true:=by rw[HV.out];exact Vl hx xu
    clear HK hcell hx;go_wp2;go_ret;exact⟨rfl,hb⟩
  ·exact Vp
theorem aNn(x y:ByteArray):(Op.bytesLess x.toList y.toList||x.toList==y.toList) = !ltB y x:=Uo x y
def gK(l:List ByteArray):Bool:=(List.range l.length).all (okK ltB (fun _=>true) l)
theorem aNo{l:List ByteArray}{k:Nat}{x y:ByteArray}(hx:l[k+1]? = some x)(hy:l[k]? = some y):okK ltB (fun _=>true) l (k+1)=ltB y x:=by
 unfold okK;rw[hx,Nat.add_sub_cancel,hy];simp
theorem aNp{l:List ByteArray}{k:Nat}(hk:k<l.length)(h2:okK ltB (fun _=>true) l k=false):gK l=false:=by
 unfold gK;exact Ij
theorem Vq(A:Option Addr)(n c:Nat)(xs:List ByteArray)(w:World)(hA:aH w 1 A n (xs.map .string))(hn:n<=1000000000):Calls prog 68 #[.slice A n c] w (Ret w (.bool (gK xs))):=by
 have hl:xs.length=n:=iY;obtain⟨V,hV⟩:∃ V,V=gK xs:=⟨_,rfl⟩;rw[<-hV];have HA:=aB hA;have HL:=aB hl;have HV:=aB hV;clear hA hl hV;go_enter func68,ntmps68;go_wp2;go_loopw [3] (fun i wr=>∃ k:Nat,k<=n/\i=.int .i64 (k+1:Nat)/\Hid ((List.range (k+1)).all (okK ltB (fun _=>true) xs)=true)/\Below w.heap.size w wr) (fun i _=>n+1-(intOf i).toNat)
 case atStart=>exact⟨0,aA,rfl,aB (by simp[okK];cases xs[0]? <;> rfl),Below.refl _ _⟩
 case round =>
  obtain⟨k,hk,rfl,HK,hb⟩:=hrel;by_cases hlt:k+1<n
  ·obtain⟨x,hx⟩:∃ x,xs[k+1]? = some x:=⟨_,List.getElem?_eq_getElem dR⟩;obtain⟨y,hy⟩:∃ y,xs[k]? = some y:=⟨_,List.getElem?_eq_getElem dR⟩;obtain⟨pb,po,rfl,hcell⟩:=(HA.out.keep hb).2 aA;have hc1:wr.cell? ⟨pb,po+(k+1),none⟩=some (.string x):=hcell (k+1) _ dL;have hc2:wr.cell? ⟨pb,po+k,none⟩=some (.string y):=hcell k _ pg;have hk0:(0:Int)<=(k:Int):=aA;have hk1:(k:Int)<(n:Int):=aA;have hk2:(0:Int)<=(k:Int)+1:=aA;have hk3:(k:Int)+1<(n:Int):=aA;have hle:=aNn x y;have hat:=aNo hx hy;cases ht:ltB y x
   ·obtain rfl:V=false:=by rw[HV.out];exact aNp (k:=k+1) dR (by rw[hat,ht])
    rw[ht]at hle;clear HK hcell hx hy hat ht;exact sQ
   ·have HK2:Hid ((List.range (k+1+1)).all (okK ltB (fun _=>true) xs)=true):=aB (uK HK.out (by rw[hat,ht]));rw[ht]at hle;clear HK hcell hx hy hat ht;go_wp2_with fail;go_quiet (fail);go_wp2;exact⟨⟨k+1,aA,aj,HK2,aG⟩,au⟩
  ·obtain rfl:V=true:=by
    rw[HV.out];unfold gK;rw[List.all_eq_true];intro j hj;have:=HK.out;rw[List.all_eq_true]at this;exact this j (by simp at hj ⊢;have:=HL.out;omega)
   go_wp2;go_ret;exact⟨rfl,hb⟩
def kQ(p:ByteArray):Bool:=decide (1<p.size)&&(p.data.toList.head? == some 42)
def xU(p w:ByteArray):Bool:=decide (p.size-1<w.size)&&((w.extract (w.size-(p.size-1)) w.size).toList==(p.extract 1 p.size).toList)
def EC(p w:ByteArray):Bool:=p.toList == [42]||p.toList==w.toList||(kQ p&&xU p w)
theorem aNq(s:ByteArray)(h:0<s.size):(s.data.toList.head? == some 42)=(s[0].toNat==42):=by
 have hl:0<s.data.toList.length:=vM;rw[yH s 0 h,List.head?_eq_getElem?,List.getElem?_eq_getElem hl,Bool.eq_iff_iff,beq_iff_eq,beq_iff_eq];constructor
 ·intro e;injection e with e;rw[e];rfl
 ·intro e;exact congrArg some (UInt8.toNat_inj.1 e)
theorem aNr(p:ByteArray)(w:World)(hp:p.size<=4294967281):Calls prog 244 #[.string p] w (Ret w (.bool (kQ p))):=by
 by_cases h1:1<p.size
 ·have d1:decide ((1:Int)<(p.size:Int))=true:=decide_eq_true aA;have hv:kQ p=(p[0].toNat==42):=by unfold kQ;rw[decide_eq_true h1,aNq p aA];rfl
  have hb:=zg p[0] 42;rw[<-hv]at hb;clear hv;generalize kQ p=b at *;have h0:(0:Int)<(p.size:Int):=aA;go_enter func244,ntmps244;go_wp2;go_ret;exact⟨dX hb,aG⟩
 ·have d1:decide ((1:Int)<(p.size:Int))=false:=decide_eq_false aA;have hv:kQ p=false:=by unfold kQ;rw[decide_eq_false h1];rfl
  rw[hv];clear hv;go_enter func244,ntmps244;go_wp2;go_ret;exact⟨rfl,aG⟩
theorem aNs(p s:ByteArray)(w:World)(hp:p.size<=4294967281)(h1:1<=p.size)(hs:s.size<=4294967281):Calls prog 245 #[.string p,.string s] w (Ret w (.bool (xU p s))):=by
 obtain⟨n,hn⟩:∃ n,p.size=n+1:=⟨p.size-1,aA⟩;have hi:(p.size:Int)-1=(n:Int):=aA;unfold xU;rw[show p.size-1=n by omega];by_cases h2:n<s.size
 ·obtain⟨m,hm⟩:∃ m,s.size-n=m:=⟨_,rfl⟩;have hi2:(s.size:Int)-(n:Int)=(m:Int):=aA;have d1:decide ((n:Int)<(s.size:Int))=true:=decide_eq_true aA;have hm0:(0:Int)<=(m:Int):=aA;have hm1:(m:Int)<=(s.size:Int):=aA;have hp1:(1:Int)<=(p.size:Int):=aA;rw[hm,decide_eq_true h2,Bool.true_and];rw[hn];generalize hb:((s.extract m s.size).toList==(p.extract 1 (n+1)).toList)=b;go_enter func245,ntmps245;exact sQ
 ·have d1:decide ((n:Int)<(s.size:Int))=false:=decide_eq_false aA;rw[decide_eq_false h2,Bool.false_and];go_enter func245,ntmps245;exact sQ
theorem aNt(p s:ByteArray)(w:World)(hp:p.size<=4294967281)(hs:s.size<=4294967281):Calls prog 187 #[.string p,.string s] w (Ret w (.bool (EC p s))):=by
 have cS:=fun W=>aNr p W hp
 have hsz:kQ p=true->1<=p.size:=by
  intro h;unfold kQ at h;simp only[Bool.and_eq_true,decide_eq_true_eq]at h;omega
 have cE:=fun W (h:kQ p=true)=>aNs p s W hp (hsz h) hs
 unfold EC;generalize xU p s=en at *;generalize kQ p=sf at *;have HSF:=aB cS;clear cS hsz;cases h1:(p.toList == [42])
 ·cases h2:(p.toList==s.toList)
  ·cases sf
   ·clear cE;go_enter func187,ntmps187;go_wp2_with (go_at_call 244;refine (HSF.out _).mono ?_;rintro e w1 ⟨rfl,hb1⟩);go_ret;exact⟨rfl,aG⟩
   ·have HEN:=aB (fun W=>cE W rfl);clear cE;go_enter func187,ntmps187;go_wp2_with (first | (go_at_call 244;refine (HSF.out _).mono ?_;rintro e w1 ⟨rfl,hb1⟩) | (go_at_call 245;refine (HEN.out _).mono ?_;rintro e w2 ⟨rfl,hb2⟩));go_ret;exact⟨dX aF,aG⟩
  ·clear cE;go_enter func187,ntmps187;go_wp2;go_ret;exact⟨rfl,aG⟩
 ·clear cE;go_enter func187,ntmps187;go_wp2;go_ret;exact⟨rfl,aG⟩
def ED(s:ByteArray):Bool:=if decide (2<s.size)&&((s.extract 0 2).toList == [42,46]) then decide (s.size<=34)&&bC (s.extract 2 s.size) else s.toList == [42]||bC s
theorem aNu(s:ByteArray)(w:World)(hs:s.size<=4294967200):Calls prog 189 #[.string s] w (Ret w (.bool (ED s))):=by
 have c1:=fun W=>uu s W aA
 have c2:=fun W=>uu (s.extract 2 s.size) W (by rw[ByteArray.size_extract];omega)
 unfold ED;generalize bC (s.extract 2 s.size)=b2 at *;generalize bC s=b1 at *;by_cases h1:2<s.size
 ·have d1:decide ((2:Int)<(s.size:Int))=true:=decide_eq_true aA;have q2:(2:Int)<=(s.size:Int):=aA;rw[decide_eq_true h1];cases h2:((s.extract 0 2).toList == [42,46])
  ·simp only[Bool.and_false,Bool.false_eq_true,if_false];cases h3:(s.toList == [42])
   ·have HW:=aB c1;exact JR
   ·exact JS
  ·simp only[Bool.and_self,if_true];by_cases h4:s.size<=34
   ·have d4:decide ((s.size:Int)<=34)=true:=decide_eq_true aA;have HW:=aB c2;rw[decide_eq_true h4];exact JR
   ·have d4:decide ((s.size:Int)<=34)=false:=decide_eq_false aA;rw[decide_eq_false h4];exact JS
 ·have d1:decide ((2:Int)<(s.size:Int))=false:=decide_eq_false aA;rw[decide_eq_false h1];simp only[Bool.false_and,Bool.false_eq_true,if_false];cases h3:(s.toList == [42])
  ·have HW:=aB c1;exact JR
  ·exact JS
theorem aNv{s:ByteArray}(h:bC s=true):kQ s=false:=by
 have h42:=(rH h).2.2.2.2.1;unfold kQ;rw[Bool.and_eq_false_iff];right;rw[beq_eq_false_iff_ne];intro e;exact h42 (List.mem_of_mem_head? tC)
theorem aNw{p t:ByteArray}(w:ByteArray)(h:p.data.toList=42 :: t.data.toList):xU p w=(decide (t.size<w.size)&&Lib.hasSuffix w.data.toList t.data.toList):=by
 have hz:p.size=t.size+1:=by rw[iL,h,iL];rfl
 have e:p.extract 1 p.size=t:=dP (by rw[extract_data,h];rfl);unfold xU;rw[e,hz,Hg,Nat.add_sub_cancel];by_cases hl:t.size<w.size
 ·rw[decide_eq_true hl,decide_eq_true (show t.size<=w.size by omega),Bool.true_and,Bool.true_and]
 ·rw[decide_eq_false hl,Bool.false_and,Bool.false_and]
theorem JU(a b:ByteArray):(a.toList==b.toList)=(a.data.toList==b.data.toList):=by rw[Lib.toList_data,Lib.toList_data]
theorem EE{w:ByteArray}(h:bC w=true)(l:List UInt8):w.data.toList≠42 :: l:=fun e=>(rH h).2.2.2.2.1 (by rw[e];simp)
theorem aNx{p:bJ}(h:p.kind=1/\∃ s:ByteArray,bC s=true/\s.size<=32/\p.text.data.toList=46 :: s.data.toList):p.text.data.toList ≠ []/\1<=p.text.size:=by
 obtain⟨_,s,_,_,h⟩:=h;rw[iL,h];exact⟨aF,aF⟩
theorem EF{p:bJ}(h:p.kind≠0):(iq p).data.toList=42 :: p.text.data.toList:=by
 unfold iq;rw[qH,if_neg h]
theorem aNy{p:bJ}(h:p.kind≠0)(hz:1<=p.text.size):kQ (iq p)=true:=by
 unfold kQ;have e:=EF h;rw[iL,e];rw[iL]at hz;rw[decide_eq_true (show 1<(42 :: p.text.data.toList).length by simp only[List.length_cons];omega)];rfl
theorem aNz{p:bJ}(hp:iE p){w:ByteArray}(hw:bC w=true):EC (iq p) w=dQ p.kind p.text w:=by
 unfold EC;rcases hp with ⟨hk,ht⟩ | h1 | ⟨hk,ht⟩
 ·rw[str0 hk,aNv ht,JU,hk];have h42:(p.text.toList == [42])=false:=by
   rw[Lib.toList_data,beq_eq_false_iff_ne];exact EE ht []
  rw[h42,Bool.false_or,Bool.false_and,Bool.or_false];unfold dQ;rw[if_pos rfl,JU]
 ·obtain⟨hne,hz⟩:=aNx h1;have hk:=h1.1;have e:=EF (p:=p) aA;have h42:((iq p).toList == [42])=false:=by
   rw[Lib.toList_data,e,beq_eq_false_iff_ne];intro h;injection h with _ h;exact hne h
  have h43:((iq p).toList==w.toList)=false:=by
   rw[JU,e,beq_eq_false_iff_ne];exact fun h=>EE hw _ h.symm
  rw[h42,h43,aNy aA hz,aNw w e,hk];simp only[Bool.false_or,Bool.true_and];unfold dQ;rw[if_neg aK,if_pos rfl]
 ·have e:=EF (p:=p) aA;rw[hk,ht,pz,Lib.toList_data,e,ht];rfl
theorem aOa(s:ByteArray):ED s=jg s:=by
 unfold ED jg;have hx:((s.extract 0 2).toList == [42,46])=Lib.hasPrefix s.data.toList [42,46]:=by
  rw[Lib.toList_data,Lib.extract_data];unfold Lib.hasPrefix;rw[Bool.eq_iff_iff,beq_iff_eq,List.isPrefixOf_iff_prefix];constructor
  ·intro h;refine⟨s.data.toList.drop 2,?_⟩;rw[<-h];simp
  ·rintro⟨r,h⟩;rw[<-h];simp
 rw[hx];cases hp:Lib.hasPrefix s.data.toList [42,46]
 ·simp
 ·obtain⟨r,hr⟩:=Fj hp;have e:(s.extract 2 s.size).data.toList=r:=by rw[extract_data,hr];rfl
  have hz:s.size=r.length+2:=by rw[iL,hr];rfl
  have h42:(s.toList == [42])=false:=by rw[Lib.toList_data,hr,beq_eq_false_iff_ne];simp
  have hw:bC s=false:=by
   cases h:bC s
   ·rfl
   ·exact absurd hr (EE h _)
  rw[h42,hw];simp only[Bool.and_true,Bool.false_or,Bool.and_true];by_cases h2:2<s.size
  ·rw[if_pos (by simpa using h2)]
  ·rw[if_neg (by simpa using h2)];have:bC (s.extract 2 s.size)=false:=by
    cases h:bC (s.extract 2 s.size)
    ·rfl
    ·have:=(yF h).1;rw[e]at this;exact absurd (List.eq_nil_of_length_eq_zero aA) this
   rw[this,Bool.and_false]
def EG(r:Option Pat)(w:World)(e:Ending)(w':World):Prop :=
 Below w.heap.size w w'/\match r with
 | none=>e=.returned (.tuple #[.agg #[.string ⟨#[]⟩,.slice none 0 0,.bool false],.bool false])
 | some x=>∃ A c,e=.returned (.tuple #[.agg #[.string (iq x.cust),.slice A x.parts.length c,.bool x.tail],.bool true])/\aH w' 1 A x.parts.length ((dM x.parts).map .string)
theorem aOb(acc:List bJ)(w:ByteArray)(h:jg w=true):dM (acc++[dD w])=dM acc++[w]:=by
 unfold dM;rw[List.map_append,List.map_singleton,Ns h]
theorem Vr(s:ByteArray)(w:World)(hs:s.size<=100000):Calls prog 130 #[.string s] w (EG (dF s) w):=by
 have cS:=fun W=>JL s 47 W aA
 have hsz:=nY 47 s;have hnum:=oq 47 s;have hne:splitB 47 s ≠ []:=by
  exact L8
 unfold dF;generalize splitB 47 s=l at *;obtain⟨l0,r,rfl⟩:=List.exists_cons_of_ne_nil hne;have hl0:l0.size<=100000:=Nat.le_trans (hsz l0 aF) hs;have cN:=fun W=>sV l0 W aA
 obtain⟨m,hm⟩:∃ m,m=r.length:=⟨_,rfl⟩;have HS:Hid (∀ W,Calls prog 188 #[.string s,.int .u8 47] W (fun e w'=>∃ A c,e=.returned (.slice A (m+1) c)/\w'.ownsRow W.heap.size 9 1 (.slice A (m+1) c) (m+1) ((l0 :: r).map .string)/\Below W.heap.size W w')):=aB (by rw[hm];exact cS);have HN:=aB cN;have HM:=aB hm;have hm9:m<=100001:=by rw[hm];simp at hnum;omega
 have hv:nV (l0 :: r)=if decide (m<=32)&&iM l0 then (dC r []).map fun x=>⟨dD l0,x.1,x.2⟩ else none:=by rw[Bc,hm]
 have hn0:(0:Int)<(m:Int)+1:=aA;generalize hV:EG (nV (l0 :: r)) w=V;have HV:=aB hV;have HSZ:Hid (∀ p∈r,p.size<=100000):=aB (fun p hp=>Nat.le_trans (hsz p nZ) hs);obtain⟨i0,hi0,hz0,hz1,hz2⟩:=info_parts oz;have HI:Hid ((prog.info? 9=some i0)/\i0.zero=some (.string ⟨#[]⟩)/\i0.size=1/\i0.bytes=16):=aB ⟨hi0,hz0,hz1,hz2⟩;clear hne cS cN hm hsz hnum hV hi0 hz0 hz1 hz2;cases hho:iM l0
 ·have HNO:Hid (nV (l0 :: r)=none):=aB (by rw[hv,hho];simp);unfold iM at hho;simp only[Bool.or_eq_false_iff]at hho;obtain⟨h1,h2⟩:=hho;have h1':¬ l0.toList=[42]:=by simpa using h1
  rw[h2]at HN;clear h2 hv;exact Vs
 have hho2:((l0.toList == [42])=true/\l0.toList=[42])\/((l0.toList == [42])=false/\¬ l0.toList=[42]/\bI l0=true):=by
  have hho':=hho;unfold iM at hho';cases h:(l0.toList == [42])
  ·right;exact⟨rfl,kX,by simpa[h] using hho'⟩
  ·left;exact⟨rfl,kX⟩
 by_cases hbig:m<=32;rotate_left
 ·have HNO:Hid (nV (l0 :: r)=none):=aB (by rw[hv];simp[hbig]);have hd:decide ((32:Int)<(m:Int))=true:=aJ;clear hv hho;rcases hho2 with ⟨h1,h1'⟩ | ⟨h1,h1',h2⟩
  ·go_enter func130,ntmps130;go_wp2_with (first | (go_at_call 188;refine (HS.out _).mono ?_;rintro e w1 ⟨A,c,rfl,hown,hb1⟩;have hX1:gG w1 w.heap.size ⟨#[]⟩ (.slice none 0 0) false:=Blk.keep (World.alloc_heap_new _ _) hb1;obtain⟨pb,po,u,rfl,hu,g0⟩:=(aH.of_own hown).at_ (k:=0) aA;(obtain rfl:u=.string l0:=ou);clear hu;have gg:w1.cell? ⟨pb,po,none⟩=some (.string l0):=g0;clear g0;have hR1:=aH.of_own hown;clear hown;obtain⟨x0,x1,x2,f0,f1,f2⟩:=hX1.facts;have hz1:w.heap.size<w1.heap.size:=Blk.lt hX1) | (go_at_call 50;refine (HN.out _).mono ?_;rintro e w2 ⟨rfl,hb2⟩;have hX2:gG w2 w.heap.size ⟨#[]⟩ (.slice none 0 0) false:=Blk.keep hX1 hb2;have gg2:=aP hb2 gg;have hR2:=hR1.keep hb2;clear x0 x1 x2 f0 f1 f2;obtain⟨x0,x1,x2,f0,f1,f2⟩:=hX2.facts;have hz2:w.heap.size<w2.heap.size:=Blk.lt hX2));rw[<-HV.out,HNO.out];exact bodyPost_ret (v:=.tuple #[.agg #[.string ⟨#[]⟩,.slice none 0 0,.bool false],.bool false]) (by simp[results,results130,go_sem,hz1,x0,x1,x2,f0,f1,f2]) rfl ⟨aG,rfl⟩
  ·rw[h2]at HN;exact Vs
 have hd:decide ((32:Int)<(m:Int))=false:=aJ;have hv2:nV (l0 :: r)=(dC r []).map fun x=>⟨dD l0,x.1,x.2⟩:=by rw[hv,hho];simp[hbig]
 have hst:iq (dD l0)=l0:=Nr hho;have HV2:=aB hv2;have HST:=aB hst;clear hv hho hv2 hst;rcases hho2 with ⟨h1,h1'⟩ | ⟨h1,h1',h2⟩
 rotate_left;rw[h2]at HN;clear h2;rotate_left;all_goals
  go_enter func130,ntmps130;go_wp2_with (first | (go_at_call 188;refine (HS.out _).mono ?_;rintro e w1 ⟨A,c,rfl,hown,hb1⟩;have hX1:gG w1 w.heap.size ⟨#[]⟩ (.slice none 0 0) false:=Blk.keep (World.alloc_heap_new _ _) hb1;obtain⟨pb,po,u,rfl,hu,g0⟩:=(aH.of_own hown).at_ (k:=0) aA;(obtain rfl:u=.string l0:=ou);clear hu;have gg:w1.cell? ⟨pb,po,none⟩=some (.string l0):=g0;clear g0;have hR1:=aH.of_own hown;clear hown;obtain⟨x0,x1,x2,f0,f1,f2⟩:=hX1.facts;have hz1:w.heap.size<w1.heap.size:=Blk.lt hX1) | (go_at_call 50;refine (HN.out _).mono ?_;rintro e w2 ⟨rfl,hb2⟩;have hX2:gG w2 w.heap.size ⟨#[]⟩ (.slice none 0 0) false:=Blk.keep hX1 hb2;have gg2:=aP hb2 gg;have hR2:=hR1.keep hb2;clear x0 x1 x2 f0 f1 f2;obtain⟨x0,x1,x2,f0,f1,f2⟩:=hX2.facts;have hz2:w.heap.size<w2.heap.size:=Blk.lt hX2))
 rotate_left;have hX1':=hX2;have hbA:Below w.heap.size w w2:=aG;clear hX1 hR1 gg hb1 hb2;rotate_left;obtain⟨w2,rfl⟩:∃ x:World,x=w1:=⟨_,rfl⟩;have hX1':=hX1;have hR2:=hR1;have gg2:=gg;have hz2:=hz1;have hbA:Below w.heap.size w w2:=aG;clear hX1 hR1 gg hb1;all_goals
  clear x0 x1 x2 f0 f1 f2;have HRd:=aB hR2;have hpb:pb<w2.heap.size:=bf gg2;have hB0:gG (w2.alloc (.cells #[.string l0,.slice none 0 0,.bool false] 166)) w2.heap.size l0 (.slice none 0 0) false:=World.alloc_heap_new _ _;have hP0:gG (w2.alloc (.cells #[.string l0,.slice none 0 0,.bool false] 166)) w.heap.size ⟨#[]⟩ (.slice none 0 0) false:=(Below.heap_alloc _ _ _ hz2).trans hX1';clear hR2 gg2 hX1';go_loopw [6] (fun vi wr=>∃(k:Nat)(acc:List bJ)(A':Option Addr)(c':Nat)(tl:Bool),(vi=.int .i64 ((k:Int)+1)/\k<=m/\acc.length<=k)/\Hid (Lt r k acc tl)/\gG wr w2.heap.size l0 (.slice A' acc.length c') tl/\gG wr w.heap.size ⟨#[]⟩ (.slice none 0 0) false /\
    wr.ownsRow (w2.heap.size+1) 9 1 (.slice A' acc.length c') acc.length ((dM acc).map .string)/\Below w.heap.size w wr/\(∀ j,j<w2.heap.size->wr.heap[j]? = w2.heap[j]?)/\w2.heap.size+1<=wr.heap.size) (fun vi _=>m+1-(intOf vi).toNat)
  case atStart=>exact⟨0,[],none,0,false,⟨rfl,Nat.zero_le _,Nat.le_refl _⟩,aB (.inl ⟨rfl,aF⟩),hB0,hP0,World.ownsRow_nil _ _ _ _,aG,fun j hj=>Below.heap_alloc _ _ _ hj,aF⟩
  case round =>
   clear hB0 hP0;obtain⟨k,acc,A',c',tl,⟨rfl,hk,hak⟩,HC,hB,hP,hown,hbw,hFr,hzr⟩:=hrel;obtain⟨x0,x1,x2,f0,f1,f2⟩:=hP.facts;obtain⟨y0,y1,y2,g0,g1,g2⟩:=hB.facts;by_cases hlt:k<m
   ·obtain⟨p,hp⟩:∃ p,r[k]? = some p:=⟨_,List.getElem?_eq_getElem yI⟩;have hps:=HSZ.out p (List.mem_of_getElem? hp);have hcell:wr.cell? ⟨pb,po+(k+1),none⟩=some (.string p):=by
     obtain⟨b',o',e',hc'⟩:=HRd.out.2 aA;injection e' with e';injection e' with e1 e2;subst e1;subst e2
     have:=hc' (k+1) (.string p) nZ;exact (World.cell?_of_block (hFr pb hpb)).trans this
    obtain⟨rfl,hcmp⟩:tl=false/\dC r []=dC (r.drop k) acc:=by
     exact MF
    have hd2:r.drop k=p :: r.drop (k+1):=by
     exact BH
    rw[hd2,dC]at hcmp;have hemp:(r.drop (k+1)).isEmpty=decide (k+1=m):=by
     exact MG
    rw[hemp]at hcmp;have hk0:(0:Int)<=(k:Int)+1:=aA;have hkm:(k:Int)+1<(m:Int)+1:=aA;clear hd2 hemp hp HC HRd;have cP:=fun W=>aNu p W aA
    rw[aOa]at cP;cases h2s:(p.toList == [42,42])
    ·simp only[h2s,Bool.false_and,Bool.false_eq_true,if_false]at hcmp;cases hok:jg p
     ·have HNO:Hid (dC r []=none):=aB (by rw[hcmp,hok];rfl);rw[hok]at cP;have HP:=aB cP;clear hcmp cP hok;exact Vt
     ·have HSO:Hid (dC r []=dC (r.drop (k+1)) (acc++[dD p])):=aB (by rw[hcmp,hok];rfl);have HSL:=aB (aOb acc p hok);rw[hok]at cP;have HP:=aB cP;clear hcmp cP hok;go_wp2_with (go_at_call 189;refine (HP.out _).mono ?_;rintro e w4 ⟨rfl,hb4⟩;have hP4:gG w4 w.heap.size ⟨#[]⟩ (.slice none 0 0) false:=Blk.keep hP hb4;have hB4:gG w4 w2.heap.size l0 (.slice A' acc.length c') false:=Blk.keep hB hb4;have hown4:=dV hown hb4;have hbw4:=aN hbw hb4;have hFr4:∀ j,j<w2.heap.size->w4.heap[j]? = w2.heap[j]?:=(fun j q1=>(hb4.block j aA).trans (hFr j q1));have hzr4:w2.heap.size+1<=w4.heap.size:=Nat.le_trans hzr hb4.size;have hcell4:=aP hb4 hcell;clear x0 x1 x2 f0 f1 f2 y0 y1 y2 g0 g1 g2;obtain⟨x0,x1,x2,f0,f1,f2⟩:=hP4.facts;obtain⟨y0,y1,y2,g0,g1,g2⟩:=hB4.facts);have hown4d:w4.drew.ownsRow (w2.heap.size+1) 9 1 (.slice A' acc.length c') acc.length ((dM acc).map .string):=hown4;have y1d:w4.drew.cell? ⟨w2.heap.size,1,none⟩=some (.slice A' acc.length c'):=y1;have hcd:w4.drew.cell? ⟨pb,po+(k+1),none⟩=some (.string p):=hcell4;have hzz:w2.heap.size<w4.heap.size:=aA;have hzp:pb<w4.heap.size:=aA;have y1e:(w4.alloc (.cells #[.string p] 9)).cell? ⟨w2.heap.size,1,none⟩=some (.slice A' acc.length c'):=(World.cell?_of_block (Below.heap_alloc w4 _ _ hzz)).trans y1;go_region_law ((refine step_append_lies _ bK _ _ _ bK (w2.heap.size+1) 9 i0 (.string ⟨#[]⟩) 1 16 underlying24 HI.out.1 HI.out.2.1 HI.out.2.2.1 HI.out.2.2.2 bK aA (.slice A' acc.length c') acc.length ((dM acc).map .string) bK (hown4d.alloc _) ⟨w4.heap.size,0,none⟩ 1 1 [.string p] bK bK (World.news_of_block (cs:=#[.string p]) (t:=9) (fr:=(0,0)) (World.alloc_heap_new w4.drew _)) fG aA cZ aA aJ (w4.heap.size+1) aF ?_;intro gg cap w7 hown7 hgrow hat hlt7;have hB7:gG w7 w2.heap.size l0 (.slice A' acc.length c') false:=(hgrow.block w2.heap.size aJ (fun e=>JV)).trans ((Below.heap_alloc w4.drew _ w2.heap.size (show w2.heap.size<w4.heap.size by omega)).trans hB4);clear y0 y1 y2 g0 g1 g2;obtain⟨y0,y1,y2,g0,g1,g2⟩:=hB7.facts));all_goals go_wp2
      all_goals
       have hal:(acc++[dD p]).length=acc.length+1:=aF;have hb7:Below w.heap.size w w7:=((Below.drew hbw4).alloc hbw4.size _).grown hgrow (by have:=hbw4.size;simp;omega) (fun r e=>by have:=dK hown4 r e;omega);have hP7:gG w7 w.heap.size ⟨#[]⟩ (.slice none 0 0) false:=(hgrow.block w.heap.size aJ (fun e=>JV)).trans ((Below.heap_alloc w4.drew _ _ (show w.heap.size<w4.heap.size by omega)).trans hP4);refine⟨⟨k+1,acc++[dD p],some ⟨gg,0,none⟩,cap,false,⟨aj,aA,aJ⟩,aB (.inl ⟨rfl,HSO.out⟩),by rw[hal];exact Blk.set_ hB7 1 _,(Below.heap_setCell _ _ _ _ aJ).trans hP7,by rw[hal,HSL.out,List.map_append];exact rO hown7 (fun j hj=>Below.heap_setCell _ _ _ _ aJ),hb7.setCell (p:=⟨w2.heap.size,1,none⟩) aJ _,fun j q1=>(Below.heap_setCell _ _ _ _ aJ).trans ((hgrow.block j aJ (fun e=>JV)).trans ((Below.heap_alloc w4.drew _ j (show j<w4.heap.size by omega)).trans (hFr4 j q1))),Ff⟩,au⟩
    ·obtain rfl:p=⟨#[42,42]⟩:=dP (by rw[<-Lib.toList_data];simpa using h2s);by_cases hlast:k+1=m
     ·obtain rfl:m=k+1:=hlast.symm;have hlb:((k:Int)+1==((k+1:Nat):Int))=true:=aF;rw[h2s,show decide (k+1=k+1)=true by simp]at hcmp;simp only[Bool.and_self,if_true]at hcmp;have HH:=aB hcmp;clear hcmp cP;go_wp2;exact⟨⟨k+1,acc,A',c',true,⟨aj,aA,aA⟩,aB (.inr ⟨rfl,HM.out,HH.out⟩),Blk.set_ hB 2 (.bool true),(Below.heap_setCell _ _ _ _ qh).trans hP,rO hown (fun j hj=>Below.heap_setCell _ _ _ _ qh),hbw.setCell (p:=⟨w2.heap.size,2,none⟩) qh _,
       fun j q1=>(Below.heap_setCell _ _ _ _ qh).trans (hFr j q1),by first | (simp[World.setCell];done) | (simp[World.setCell];omega)⟩,au⟩
     ·have hlb:((k:Int)+1==(m:Int))=false:=aJ;have HNO:Hid (dC r []=none):=aB (by rw[hcmp,show decide (k+1=m)=false by simpa using hlast,Ew];simp);rw[Ew]at cP;have HP:=aB cP;clear hcmp cP;exact Vt
   ·obtain rfl:k=m:=aA;have HE:Hid (dC r []=some (acc,tl)):=aB (by
     rcases HC.out with ⟨h,e⟩ | ⟨h,_,e⟩
     ·rw[e,h,HM.out,List.drop_eq_nil_of_le (Nat.le_refl _),dC]
     ·rw[e,h])
    have hob:∀ a,A'=some a->a.block≠w.heap.size:=fun a ha=>tq
    have hRr:=aH.of_own hown;clear HC;go_wp2;rw[<-HV.out,HV2.out,HE.out];exact bodyPost_ret (v:=.tuple #[.agg #[.string l0,.slice A' acc.length c',.bool tl],.bool true]) JW rfl ⟨aG,A',c',by rw[HST.out],(((hRr.set_ _ _ hob).set_ _ _ hob).set_ _ _ hob)⟩
abbrev BP:=ByteArray × ByteArray
def mG(p:BP)(st:List BP × Bool)(x:BP):List BP × Bool:=if !st.2&&leS p.1 x.1 then (st.1++[p],true) else st
def fC(p:BP)(st:List BP × Bool)(x:BP):List BP × Bool:=if x.1.toList != p.1.toList then ((mG p st x).1++[x],(mG p st x).2) else mG p st x
def mJ(l:List BP)(p:BP):List BP:=if (l.foldl (fC p) ([],false)).2 then (l.foldl (fC p) ([],false)).1 else (l.foldl (fC p) ([],false)).1++[p]
def mM(p:BP):List BP->List BP
 | []=>[p]
 | x :: l=>if leS p.1 x.1 then p :: (x :: l).filter (fun y=>y.1.toList != p.1.toList) else x :: mM p l
theorem EH(p:BP):∀(l acc:List BP),l.foldl (fC p) (acc,true)=(acc++l.filter (fun y=>y.1.toList != p.1.toList),true)
 | [],acc=>aF
 | x :: l,acc=>by
  rw[List.foldl_cons];have e:mG p (acc,true) x=(acc,true):=by simp[mG]
  cases hne:(x.1.toList != p.1.toList)
  ·rw[show fC p (acc,true) x=(acc,true) by simp only[fC,hne,e];rfl,EH p l acc,List.filter_cons,if_neg (by rw[hne];decide)]
  ·rw[show fC p (acc,true) x=(acc++[x],true) by simp only[fC,hne,e];rfl,EH p l (acc++[x]),List.filter_cons,if_pos hne];simp
theorem Vu(p:BP):∀(l acc:List BP),(if (l.foldl (fC p) (acc,false)).2 then (l.foldl (fC p) (acc,false)).1 else (l.foldl (fC p) (acc,false)).1++[p])=acc++mM p l
 | [],acc=>by simp[mM]
 | x :: l,acc=>by
  rw[List.foldl_cons];cases hle:leS p.1 x.1
  ·have e:mG p (acc,false) x=(acc,false):=by simp[mG,hle]
   have hne:(x.1.toList != p.1.toList)=true:=by
    rw[D8];intro h;have:leS p.1 x.1=true:=(D7 _ _).2 (by rw[h];exact List.le_refl _);rw[hle]at this;cases this
   rw[show fC p (acc,false) x=(acc++[x],false) by simp only[fC,hne,e];rfl,Vu p l (acc++[x]),mM,hle];simp
  ·have e:mG p (acc,false) x=(acc++[p],true):=by simp[mG,hle]
   have hp:mM p (x :: l)=p :: (x :: l).filter (fun y=>y.1.toList != p.1.toList):=by rw[mM,if_pos hle]
   cases hne:(x.1.toList != p.1.toList)
   ·rw[show fC p (acc,false) x=(acc++[p],true) by simp only[fC,hne,e];rfl,hp,EH];have hf:(x :: l).filter (fun y=>y.1.toList != p.1.toList)=l.filter (fun y=>y.1.toList != p.1.toList):=by rw[List.filter_cons,if_neg (by rw[hne];decide)]
    rw[hf];simp
   ·rw[show fC p (acc,false) x=(acc++[p]++[x],true) by simp only[fC,hne,e];rfl,hp,EH];have hf:(x :: l).filter (fun y=>y.1.toList != p.1.toList)=x :: l.filter (fun y=>y.1.toList != p.1.toList):=by rw[List.filter_cons,if_pos hne]
    rw[hf];simp
theorem Vw(l:List BP)(p:BP):mJ l p=mM p l:=by
 have:=Vu p l [];unfold mJ;rw[this];rfl
theorem Vx(p:BP):∀ l:List BP,tN (dW l)->dW (mM p l)=jD (dW l) (p.1.data.toList,p.2.data.toList)
 | [],_=>rfl
 | x :: l,h=>by
  have h':=List.pairwise_cons.1 (show tN ((x.1.data.toList,x.2.data.toList) :: dW l) from h);have hf:p.1.data.toList<=x.1.data.toList->l.filter (fun y=>y.1.toList != p.1.toList)=l:=fun hle=>by
   refine List.filter_eq_self.2 fun y hy=>(D8 _ _).2 fun e=>?_
   have:=h'.1 (y.1.data.toList,y.2.data.toList) (List.mem_map_of_mem hy);dsimp only at this;rw[e]at this;exact List.not_lt.2 hle this
  unfold mM;show _=jD ((x.1.data.toList,x.2.data.toList) :: dW l) _;rw[jD];by_cases e:p.1.data.toList=x.1.data.toList
  ·have hle:p.1.data.toList<=x.1.data.toList:=by rw[e];exact List.le_refl _
   have hx:¬ (x.1.toList != p.1.toList)=true:=by rw[D8];exact fun h=>h e.symm
   rw[if_pos ((D7 _ _).2 hle),if_pos e,List.filter_cons,if_neg hx,hf hle];rfl
  ·by_cases e2:p.1.data.toList<x.1.data.toList
   ·have hle:=List.le_of_lt e2;have hx:(x.1.toList != p.1.toList)=true:=by rw[D8];exact fun h=>e h.symm
    rw[if_pos ((D7 _ _).2 hle),if_neg e,if_pos e2,List.filter_cons,if_pos hx,hf hle];rfl
   ·rw[if_neg (fun h=>e2 (PG ((D7 _ _).1 h) e)),if_neg e,if_neg e2];show _ :: dW (mM p l)=_;rw[Vx p l h'.2]
theorem aOc{l:List BP}{a:List (BL × BL)}(h:dW l=iW a)(q:BL × BL):dW (mJ l (toB q.1,toB q.2))=iW (a++[q]):=by
 rw[Vw,Vx _ _ (by rw[h];exact (AY a).2.2.1),h];simp[iW,toB]
def kF:List BP->List ByteArray->Option (List BP)
 | acc,[]=>some acc
 | acc,p :: r=>match qJ p with
  | none=>none
  | some q=>kF (mJ acc (toB q.1,toB q.2)) r
theorem Vy:∀(ps:List ByteArray)(acc:List BP)(a:List (BL × BL)),dW acc=iW a->(kF acc ps).map dW=(gp a ps).map iW
 | [],acc,a,h=>by simp[kF,gp,h]
 | p :: r,acc,a,h=>by
  rw[kF,gp];cases qJ p with
  | none=>rfl
  | some q=>exact Vy r _ _ (aOc h q)
theorem aOd(l:List BP):(dW l).map (fun q=>(toB q.1,toB q.2))=l:=by
 simp[dW,Function.comp_def,aLd]
theorem aOe(s:ByteArray):kN s=if s.toList.isEmpty then some [] else kF [] (splitB 38 s):=by
 unfold kN;split
 ·rfl
 ·have h:=Vy (splitB 38 s) [] [] rfl;have h2:=congrArg (Option.map fun l:List (BL × BL)=>l.map fun q=>(toB q.1,toB q.2)) h;rw[Option.map_map,Option.map_map]at h2;have e:(fun l:List (BL × BL)=>l.map fun q=>(toB q.1,toB q.2)) ∘ dW=id:=funext aOd;rw[e,Option.map_id]at h2;exact h2.symm
theorem Vz(c:UInt8):∀ l:BL,c∈l->∃ a b,l=a++c :: b/\c ∉ a
 | [],h=>mW
 | x :: l,h=>by
  by_cases e:x=c
  ·subst e;exact⟨[],l,rfl,aF⟩
  ·rcases List.mem_cons.1 h with h | h
   ·exact absurd h.symm e
   ·obtain⟨a,b,h1,h2⟩:=Vz c l h;exact⟨x :: a,b,by rw[h1];rfl,by simp[h2];exact fun e2=>e e2.symm⟩
theorem aOf(c:UInt8)(t:BL):dJ c t=(Lib.cut t [c]).1 :: (if (Lib.cut t [c]).2.2 then dJ c (Lib.cut t [c]).2.1 else []):=by
 by_cases h:c∈t
 ·obtain⟨a,b,rfl,hna⟩:=Vz c t h;rw[Ep a b c hna,A8 a b c hna];rfl
 ·rw[Es t c h,BB t c h];rfl
def oK(s:ByteArray):ByteArray:=toB (Lib.trimSuffix (bu s).1 [47])
theorem aOg(s:ByteArray):∃ r,splitB 47 (oK s)=toB (dY s).1 :: r/\lV (dY s)=eF [] r:=by
 refine⟨if (dY s).2.2 then splitB 47 (toB (dY s).2.1) else [],?_,?_⟩
 ·unfold splitB oK;rw[show (toB (Lib.trimSuffix (bu s).1 [47])).data.toList=Lib.trimSuffix (bu s).1 [47] from rfl,aOf];unfold dY;rw[List.map_cons];congr 1;split <;> rfl
 ·unfold lV;split <;> rfl
theorem aOh(A:Option Addr)(n c:Nat)(l:List ByteArray)(w:World)(hR:aH w 1 A n (l.map .string))(hn:n<=1000000)(hsz:∀ p∈l,p.size<=4294967281):Calls prog 242 #[.slice A n c] w (uF (eF [] l) w):=by
 have hl:l.length=n:=vH;obtain⟨i0,hi0,hz0,hz1,hz2⟩:=info_parts oz;have HI:Hid ((prog.info? 9=some i0)/\i0.zero=some (.string ⟨#[]⟩)/\i0.size=1/\i0.bytes=16):=aB ⟨hi0,hz0,hz1,hz2⟩;have HL:=aB hl;have HR:=aB hR;have HZ:=aB hsz;generalize hV:uF (eF [] l) w=V;have HV:=aB hV;clear hi0 hz0 hz1 hz2 hl hR hsz hV;go_enter func242,ntmps242;go_wp2;go_loopw [4,5] (fun va vi wr=>∃(k m:Nat)(acc:List ByteArray)(A':Option Addr)(c':Nat),(vi=.int .i64 k/\va=.slice A' m c'/\k<=n/\m<=k)/\Hid (eF [] l=eF acc (l.drop k)/\acc.length=m)/\wr.ownsRow w.heap.size 9 1 (.slice A' m c') m (acc.map .string)/\Below w.heap.size w wr) (fun _ i _=>n-(intOf i).toNat)
 case atStart=>exact⟨0,0,[],none,0,⟨rfl,rfl,Nat.zero_le _,Nat.le_refl _⟩,aB ⟨rfl,rfl⟩,World.ownsRow_nil _ _ _ _,Below.refl _ _⟩
 case round =>
  obtain⟨k,m,acc,A',c',⟨rfl,rfl,hk,hm⟩,HK,hown,hbr⟩:=hrel;have hbs:=hbr.size;by_cases hlt:k<n
  ·obtain⟨x,hx⟩:∃ x,l[k]? = some x:=⟨_,List.getElem?_eq_getElem dR⟩;obtain⟨b,o,rfl,hcell⟩:=HR.out.2 aA;have hc0:w.cell? ⟨b,o+k,none⟩=some (.string x):=hcell k _ dL;have hc1:wr.cell? ⟨b,o+k,none⟩=some (.string x):=aP hbr hc0;have hk0:(0:Int)<=(k:Int):=aA;have hk1:(k:Int)<(n:Int):=aA;have hd:l.drop k=x :: l.drop (k+1):=by
    exact Bi
   have hr1:=HK.out.1;rw[hd,eF]at hr1;have hml:=HK.out.2;have hxs:x.size<=4294967281:=HZ.out x (List.mem_of_getElem? hx);have cW:=fun W=>uu x W hxs
   clear hcell hx hd HK;cases e1:(x.toList == [46])
   rotate_left
   ·have hr2:=hr1;simp only[ik,e1,if_true,Option.bind_some]at hr2;have HK2:=aB (show eF [] l=eF acc (l.drop (k+1))/\acc.length=m from⟨hr2,hml⟩);clear hr1 hr2 hml cW;go_wp2;exact⟨⟨k+1,m,acc,A',c',⟨aj,rfl,aA,aA⟩,HK2,hown,hbr⟩,au⟩
   have e1':¬ x.toList=[46]:=by simpa using e1
   cases e2:(x.toList == [46,46])
   rotate_left
   ·by_cases hm0:m=0
    ·subst hm0;obtain rfl:acc=[]:=List.eq_nil_of_length_eq_zero hml;have hwf:bC x=false:=by simp[bC,beq_iff_eq.1 e2]
     have hn:eF [] l=none:=by rw[hr1];simp[ik,e1,e2,hwf]
     have HN:=aB hn;clear hr1 hml cW hwf hn;go_wp2;rw[<-HV.out,HN.out];exact⟨aG,rfl⟩
    ·obtain⟨init,last,hacc⟩:∃ init last,acc=init++[last]:=by
      rcases List.eq_nil_or_concat acc with rfl | ⟨init,last,rfl⟩
      ·exact absurd hml.symm hm0
      ·exact⟨init,last,by rw[List.concat_eq_append]⟩
     subst hacc;obtain⟨m',rfl⟩:∃ m',m=m' + 1:=⟨m-1,aA⟩;have hil:init.length=m':=by simpa using hml
     have hr2:=hr1;rw[show ik (init++[last]) x=some init by simp[ik,e1,e2],Option.bind_some]at hr2;have HK2:=aB (show eF [] l=eF init (l.drop (k+1))/\init.length=m' from⟨hr2,hil⟩);clear hr1 hr2 hml cW;obtain⟨g,hA⟩:∃ g,A'=some ⟨g,0,none⟩:=by
      obtain⟨g,cap,hv⟩:=ownsRow_succ hown;injection hv with hv
      exact⟨g,hv⟩
     subst hA;have hpop:Hid (∀ j u,(init.map Value.string)[j]? = some u->wr.cell? ⟨g,j,none⟩=some u):=aB fun j u hu=>by
      have hjl:j<(init.map Value.string).length:=(List.getElem?_eq_some_iff.1 hu).1;rw[hown.cellAt j (by simp at hjl;omega),List.map_append,List.getElem?_append_left hjl];exact hu
     have hcap:=ru hown;have hgb:=dK hown g rfl;have hgl:g<wr.heap.size:=(hown.lt g rfl).2;clear hown;have hpos:((m':Int)+1==0)=false:=beq_eq_false_iff_ne.2 aA;have q1:(0:Int)<=(m':Int):=aA;have hone:∀ u∈init.map Value.string,u.oneCell'=true:=by
      intro u hu;obtain⟨_,_,rfl⟩:=List.mem_map.1 hu;rfl
     have hlen:(init.map Value.string).length=m' * 1:=by simp[hil]
     have hadd:∀ j,(⟨g,0,none⟩:Addr).add j=⟨g,j,none⟩:=fun j=>oU
     have hnew:∀ j u,(init.map Value.string)[j]? = some u->(wr.alloc (.cells #[] 9)).cell? ((⟨g,0,none⟩:Addr).add j)=some u:=fun j u hu=>by
      rw[hadd,World.cell?_of_block (w:=wr) (Below.heap_alloc wr _ g hgl)];exact hpop.out j u hu
     have HN2:=aB hnew;have HO:=aB hone;have HLN:=aB hlen;clear hnew hone hlen hadd;go_wp2_with (at_builtin;refine wpList_append_own _ rfl _ _ 24 rfl w.heap.size 9 i0 (.string ⟨#[]⟩) 1 16 underlying24 HI.out.1 HI.out.2.1 HI.out.2.2.1 HI.out.2.2.2 rfl aK _ _ _ rfl (World.ownsRow_made (base:=w.heap.size) (e:=9) (size:=1) wr #[] 0 hbs (Nat.zero_le _) rfl) ⟨g,0,none⟩ m' c' (init.map .string) rfl HLN.out HN2.out HO.out cZ aA aJ ?_;intro v' w3 hown3 hgrow3 _);obtain⟨A3,c3,rfl⟩:∃ A3 c3,v'=.slice A3 m' c3:=by
      rcases hown3.2 with ⟨h1,h2⟩ | ⟨g3,cap3,cur3,h1,_⟩
      ·exact⟨none,0,by rw[h1];congr 1;omega⟩
      ·exact⟨_,_,by rw[h1];congr 1;omega⟩
     exact⟨⟨k+1,m',init,A3,c3,⟨aj,rfl,aA,aA⟩,HK2,by simpa using hown3,(hbr.alloc hbs _).grown hgrow3 aJ (fun r e=>by injection e with e;simp at e;omega)⟩,au⟩
   have e2':¬ x.toList=[46,46]:=by simpa using e2
   cases hw:bC x
   ·have hn:eF [] l=none:=by rw[hr1];simp[ik,e1,e2,hw]
    rw[hw]at cW;have HW:=aB cW;have HN:=aB hn;clear hr1 hml cW hw hn;go_wp2_with (go_at_call 105;refine (HW.out _).mono ?_;rintro e w1 ⟨rfl,hb1⟩);rw[<-HV.out,HN.out];exact⟨aG,rfl⟩
   ·have hr2:=hr1;rw[show ik acc x=some (acc++[x]) by simp[ik,e1,e2,hw],Option.bind_some]at hr2;have HK2:=aB (show eF [] l=eF (acc++[x]) (l.drop (k+1))/\(acc++[x]).length=m+1 from⟨hr2,by simp[hml]⟩);rw[hw]at cW;have HW:=aB cW;clear hr1 hr2 hml cW hw;go_wp2_with (first | (go_at_call 105;refine (HW.out _).mono ?_;rintro e w1 ⟨rfl,hb1⟩;have hown1:=dV hown hb1;have hbs1:=hb1.size;have hbw1:=aN hbr hb1;have hc2:=aP hb1 hc1;clear hown) | (at_builtin;refine wpList_append_own _ rfl _ _ 24 rfl w.heap.size 9 i0 (.string ⟨#[]⟩) 1 16 underlying24 HI.out.1 HI.out.2.1 HI.out.2.2.1 HI.out.2.2.2 rfl aK _ _ _ rfl (hown1.alloc _) ⟨w1.heap.size,0,none⟩ 1 1 [.string x] rfl rfl (cell_one_new _ _ _) fG cZ aA aJ ?_;intro v' w3 hown3 hgrow3 _;obtain⟨g1,cap1,rfl⟩:=ownsRow_succ hown3;have hb3:Below w.heap.size w w3:=(hbw1.alloc hbw1.size _).grown hgrow3 aJ (fun r e=>dK hown1 r e)));exact⟨⟨k+1,m+1,acc++[x],some ⟨g1,0,none⟩,cap1,⟨aj,rfl,aA,aA⟩,HK2,by rw[List.map_append];exact hown3,hb3⟩,au⟩
  ·obtain rfl:k=n:=aA;have hfin:eF [] l=some acc:=by
    rw[HK.out.1,List.drop_eq_nil_of_le dR,eF]
   have HF:=aB hfin;have hml:=HK.out.2;clear hfin HK;go_wp2;rw[<-HV.out,HF.out];exact⟨aG,A',c',by rw[hml];rfl,by rw[hml];exact aH.of_own hown,fun a ha=>tq⟩
end Go.Proofs.YtlkbkclnbppigaaGreatDoor
