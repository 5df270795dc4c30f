/- What the cond package's Valid returns. -/
import Derived.Test.YtlkbkclnbppigaaGreatDoorJZ20
import Derived.Lib.ItoaLen
import Derived.Test.YtlkbkclnbppigaaGreatDoorJZ19
set_option maxHeartbeats 8000000
namespace Go.Proofs.YtlkbkclnbppigaaGreatDoor
open Tryz
open Go.RowKit Go.Sort
set_option linter.unusedVariables false
set_option linter.unusedSimpArgs false
set_option maxRecDepth 100000
theorem uN(c:aZ)(m:af)(w:World)(hR:bz w c m)(hp:c.pat.size<=100000)(hcl:∀ x∈c.cl,x.size<=100000)(hco:∀ x∈c.co,x.size<=100000)(h1:c.cl.length<=1000000)(h2:c.co.length<=1000000)(h3:c.si.length<=1000000)(hE:Env w) :
  Calls prog 49 #[af.val c m] w (Ret w (.bool (bG c))):=by
 obtain⟨fr,till,pat,cl,co,si,us⟩:=c;obtain⟨A,ca,B,cb,S,cs⟩:=m;obtain⟨hA,hB,hS⟩:=hR;dsimp only at hA hB hS hp hcl hco h1 h2 h3;unfold af.val;dsimp only;obtain⟨V,hV⟩:∃ V,V=bG ⟨fr,till,pat,cl,co,si,us⟩:=⟨_,rfl⟩;rw[<-hV];unfold bG vW iF at hV;dsimp only at hV;have c1:=fun W (hb:Below w.heap.size w W)=>PK 101 (enters_of func101 aC rfl) bI A cl.length ca cl 32 W (fun x hx W' hE'=>Oo x W' (hcl x hx) hE') (hA.keep hb) aA aA (Env.keep hE hb)
 have c2:=fun W (hb:Below w.heap.size w W)=>PK 102 (enters_of func102 aC rfl) dm B co.length cb co 32 W (fun x hx W' _=>O6 x W' (by have:=hco x hx;omega)) (hB.keep hb) aA aA (Env.keep hE hb)
 have c3:=fun W (hb:Below w.heap.size w W)=>aBg 104 (enters_of func104 aC rfl) ed S si.length cs si 64 W (fun x W'=>O7 x W') (hS.keep hb) aA aA
 have hva:=fun W h=>MH pat W hp h
 generalize (dF pat).isSome=b1 at *;generalize iZ ltB bI 32 cl=b2 at *;generalize iZ ltB dm 32 co=b3 at *;generalize iZ ltI ed 64 si=b4 at *;have h32:((32:Nat):Int)=32:=rfl;have h64:((64:Nat):Int)=64:=rfl;simp only[h32]at c1 c2;simp only[h64]at c3;clear h32 h64;have C1:=aB c1;have C2:=aB c2;have C3:=aB c3;have HVA:=aB hva;have HE:=aB hE;clear c1 c2 c3 hva hE hA hB hS hcl hco h1 h2 h3 hp;by_cases t1:0<=fr;rotate_left
 ·obtain rfl:V=false:=yu;have d1:decide (0<=fr)=false:=decide_eq_false t1;clear hV;exact pJ
 have d1:decide (0<=fr)=true:=decide_eq_true t1;by_cases t2:fr<=1099511627776;rotate_left
 ·obtain rfl:V=false:=by rw[hV];simp[t2]
  have d2:decide (fr<=1099511627776)=false:=decide_eq_false t2;clear hV;exact pJ
 have d2:decide (fr<=1099511627776)=true:=decide_eq_true t2;by_cases t3:0<=till;rotate_left
 ·obtain rfl:V=false:=by rw[hV];simp[t3]
  have d3:decide (0<=till)=false:=decide_eq_false t3;clear hV;exact pJ
 have d3:decide (0<=till)=true:=decide_eq_true t3;by_cases t4:till<=1099511627777;rotate_left
 ·obtain rfl:V=false:=by rw[hV];simp[t4]
  have d4:decide (till<=1099511627777)=false:=decide_eq_false t4;clear hV;exact pJ
 have d4:decide (till<=1099511627777)=true:=decide_eq_true t4;by_cases t5:0<=us;rotate_left
 ·obtain rfl:V=false:=by rw[hV];simp[t5]
  have d5:decide (0<=us)=false:=decide_eq_false t5;clear hV;exact pJ
 have d5:decide (0<=us)=true:=decide_eq_true t5;by_cases t6:us<=1073741824;rotate_left
 ·obtain rfl:V=false:=by rw[hV];simp[t6]
  have d6:decide (us<=1073741824)=false:=decide_eq_false t6;clear hV;exact pJ
 have d6:decide (us<=1073741824)=true:=decide_eq_true t6;have hV2:V=((decide (pat.size=0)||b1)&&b2&&b3&&b4):=by rw[hV];simp[t1,t2,t3,t4,t5,t6]
 clear hV;by_cases hs:pat.size=0
 ·obtain rfl:pat=⟨#[]⟩:=dP (List.eq_nil_of_length_eq_zero (by rw[<-Lib.size_eq];exact hs));clear hs;cases b2
  ·obtain rfl:V=false:=qK;exact Gf
  cases b3
  ·obtain rfl:V=false:=qK;exact Gf
  obtain rfl:V=b4:=by rw[hV2];cases b1 <;> cases b4 <;> rfl
  exact Gf
 ·have hn:¬ pat.toList=[]:=fun e=>hs vN
  have hn2:(pat.toList == [])=false:=by simpa using hn
  rw[decide_eq_false hs,Bool.false_or]at hV2;cases b1
  ·obtain rfl:V=false:=qK;clear hV2;exact pJ
  cases b2
  ·obtain rfl:V=false:=qK;clear hV2;exact pJ
  cases b3
  ·obtain rfl:V=false:=qK;clear hV2;exact pJ
  obtain rfl:V=b4:=by rw[hV2];cases b4 <;> rfl
  clear hV2;exact pJ
structure dG(c:aZ):Prop where
 p:c.pat.size<=100000
 cl:∀ x∈c.cl,x.size<=100000
 co:∀ x∈c.co,x.size<=100000
 n1:c.cl.length<=1000000
 n2:c.co.length<=1000000
 n3:c.si.length<=1000000
structure kR(a:bn):Prop where
 p:a.addr.size<=100000
 cl:a.client.size<=100000
 co:a.country.size<=100000
def eu(w:World)(g:Nat)(ad cl co:ByteArray)(si lo hi:Int):Prop:=Blk w g 59 #[.string ad,.string cl,.string co,.int .i64 si,.int .i64 lo,.int .i64 hi] (0,0)
theorem eu.facts{w:World}{g:Nat}{ad cl co:ByteArray}{si lo hi:Int}(h:eu w g ad cl co si lo hi) :
  w.cell? ⟨g,0,none⟩=some (.string ad)/\w.cell? ⟨g,1,none⟩=some (.string cl)/\w.cell? ⟨g,2,none⟩=some (.string co)/\w.cell? ⟨g,3,none⟩=some (.int .i64 si)/\w.cell? ⟨g,4,none⟩=some (.int .i64 lo)/\w.cell? ⟨g,5,none⟩=some (.int .i64 hi) :=
 ⟨Blk.cell h 0,Blk.cell h 1,Blk.cell h 2,Blk.cell h 3,Blk.cell h 4,Blk.cell h 5⟩
theorem qL(w:World)(o1 o2:Obj):((w.alloc o1).alloc o2).heap[w.heap.size]? = some o1/\((w.alloc o1).alloc o2).heap[w.heap.size+1]? = some o2:=by
 refine⟨(Below.heap_alloc _ _ _ aF).trans (World.alloc_heap_new _ _),?_⟩;have:=World.alloc_heap_new (w.alloc o1) o2
 rwa [World.size_alloc]at this
theorem aBq(c:aZ)(m:af)(a:bn)(w:World)(hR:bz w c m)(hc:dG c)(ha:kR a)(hE:Env w) :
  Calls prog 41 #[af.val c m,bn.val a] w (Ret w (.bool (fH c a))):=by
 have c1:=fun W (hb:Below w.heap.size w W)=>uN c m W (hR.keep hb) hc.p hc.cl hc.co hc.n1 hc.n2 hc.n3 (hE.keep hb)
 have c2:=fun W h=>aBl a W ha.p ha.cl ha.co h
 obtain⟨V,hV⟩:∃ V,V=fH c a:=⟨_,rfl⟩;rw[<-hV];unfold fH at hV;generalize bG c=v1 at *;generalize nC a=v2 at *;obtain⟨fr,till,pat,cl,co,si,us⟩:=c;obtain⟨A,ca,B,cb,S,cs⟩:=m;obtain⟨ad,kl,ko,st,lo,hi⟩:=a;obtain⟨hA,hB,hS⟩:=hR;obtain⟨h1,h2,h3,n1,n2,n3⟩:=hc;obtain⟨g1,g2,g3⟩:=ha;unfold af.val at c1;unfold bn.val at c2;unfold af.val bn.val;dsimp only at hA hB hS h1 h2 h3 n1 n2 n3 g1 g2 g3 hV c1 c2;dsimp only;have c3:=fun W=>aBc fr till us pat A B S cl.length ca co.length cb si.length cs W
 have hpt:(if pat.size=0 then (⟨#[42,47,42,42]⟩:ByteArray) else pat)=lD pat:=rfl;rw[hpt]at c3;have hps:(lD pat).size<=100000:=by unfold lD;split;exact aK;exact h1
 have c4:=fun W h=>Zg (lD pat) ad W hps g1 h
 have c5:=fun W (hb:Below w.heap.size w W)=>Oj A cl.length ca cl kl W (hA.keep hb) aA
 have c6:=fun W (hb:Below w.heap.size w W)=>Oj B co.length cb co ko W (hB.keep hb) aA
 have c7:=fun W (hb:Below w.heap.size w W)=>aBd S si.length cs si st W (hS.keep hb) aA
 generalize lD pat=pt at *;generalize kw pt ad=v4 at *;generalize bM cl kl=v5 at *;generalize bM co ko=v6 at *;generalize bM si st=v7 at *;obtain⟨W0,hW0⟩:∃ W0,W0=(w.alloc (.cells #[.int .i64 fr,.int .i64 till,.string pat,.slice A cl.length ca,.slice B co.length cb,.slice S si.length cs,.int .i64 us] 27)).alloc (.cells #[.string ad,.string kl,.string ko,.int .i64 st,.int .i64 lo,.int .i64 hi] 59):=⟨_,rfl⟩;have hb0:Below w.heap.size w W0:=by rw[hW0];exact aU (aU (Below.refl _ _) _) _
 have hX:aV W0 w.heap.size fr till pat A cl.length ca B co.length cb S si.length cs us:=by rw[hW0];exact (qL _ _ _).1
 have hY:eu W0 (w.heap.size+1) ad kl ko st lo hi:=by rw[hW0];exact (qL _ _ _).2
 obtain⟨x0,x1,x2,x3,x4,x5,x6⟩:=hX.facts;obtain⟨y0,y1,y2,y3,y4,y5⟩:=hY.facts;have r0:=cell_regrown x0;have r1:=cell_regrown x1;have r2:=cell_regrown x2;have r3:=cell_regrown x3;have r4:=cell_regrown x4;have r5:=cell_regrown x5;have r6:=cell_regrown x6;have q0:=cell_regrown y0;have q1:=cell_regrown y1;have q2:=cell_regrown y2;have q3:=cell_regrown y3;have q4:=cell_regrown y4;have q5:=cell_regrown y5;replace c1:=fun W (hb:Below W0.heap.size W0 W)=>c1 W (aN hb0 hb)
 replace c2:=fun W (hb:Below W0.heap.size W0 W)=>c2 W (hE.keep (aN hb0 hb))
 replace c3:=fun W (_:Below W0.heap.size W0 W)=>c3 W
 replace c4:=fun W (hb:Below W0.heap.size W0 W)=>c4 W (hE.keep (aN hb0 hb))
 replace c5:=fun W (hb:Below W0.heap.size W0 W)=>c5 W (aN hb0 hb)
 replace c6:=fun W (hb:Below W0.heap.size W0 W)=>c6 W (aN hb0 hb)
 replace c7:=fun W (hb:Below W0.heap.size W0 W)=>c7 W (aN hb0 hb)
 have HW:=aB hW0;have HB0:=aB hb0;clear hW0 hb0 hX hY;have C1:=aB c1;have C2:=aB c2;have C3:=aB c3;have C4:=aB c4;have C5:=aB c5;have C6:=aB c6;have C7:=aB c7;clear c1 c2 c3 c4 c5 c6 c7 hE hA hB hS h1 h2 h3 n1 n2 n3 g1 g2 g3 hps hpt;cases v1
 ·obtain rfl:V=false:=by rw[hV];simp
  clear hV;exact rq
 cases v2
 ·obtain rfl:V=false:=by rw[hV];simp
  clear hV;exact rq
 by_cases t1:fr<=lo;rotate_left
 ·obtain rfl:V=false:=yu;have d1:decide (fr<=lo)=false:=decide_eq_false t1;clear hV;exact rq
 have d1:decide (fr<=lo)=true:=decide_eq_true t1;by_cases t2:hi<till;rotate_left
 ·obtain rfl:V=false:=by rw[hV];simp[t2]
  have d2:decide (hi<till)=false:=decide_eq_false t2;clear hV;exact rq
 have d2:decide (hi<till)=true:=decide_eq_true t2;have hV2:V=(v4&&v5&&v6&&v7):=by rw[hV];simp[t1,t2]
 clear hV;cases v4
 ·obtain rfl:V=false:=qK;clear hV2;exact rq
 cases v5
 ·obtain rfl:V=false:=qK;clear hV2;exact rq
 cases v6
 ·obtain rfl:V=false:=qK;clear hV2;exact rq
 obtain rfl:V=v7:=qK;clear hV2;exact rq
def jU(c:aZ):List ByteArray:=[ae c.fr,ae c.till,orT c.pat ⟨#[126]⟩,dN c.cl,dN c.co,dN (c.si.map ae),ae c.us]
def bF(c:aZ):ByteArray:=⟨(Lib.join ((jU c).map (·.data.toList)) [32]).toArray⟩
theorem yw(c:UInt8)(B:Nat)(l:List (List UInt8))(hl:∀ x∈l,x.length<=B):(Lib.join l [c]).length<=l.length*(B+1):=by
 cases l with
 | nil=>simp[Lib.join_nil]
 | cons x r =>
  have hx:=hl x aF;have hr:Lib.lens r<=r.length*B:=FD B r (fun y hy=>hl y pg);rw[Lib.join_cons,List.length_append,Lib.joinTail_length];simp only[List.length_cons,List.length_nil,Nat.zero_add,Nat.one_mul];have e1:(r.length+1)*(B+1)=r.length*B+r.length+B+1:=by rw[Nat.succ_mul,Nat.mul_succ];omega
  omega
theorem vw(B:Nat)(xs:List ByteArray)(h:∀ x∈xs,x.size<=B):(dN xs).size<=xs.length*(B+1)+1:=by
 unfold dN orT;split
 ·show 1<=_;omega
 ·have:=yw 44 B (xs.map (·.data.toList)) (by
   intro y hy;obtain⟨z,hz,rfl⟩:=List.mem_map.1 hy;have:=h z hz;rw[Lib.size_eq]at this;exact this)
  rw[List.length_map]at this;show (Lib.join (xs.map (·.data.toList)) [44]).toArray.size<=_;rw[List.size_toArray];omega
theorem qM(n:Int)(h0 : -9223372036854775808<=n)(h1:n<=9223372036854775807):(ae n).size<=21:=Lib.itoa_length_le n h0 h1
theorem Gg(B:Nat)(xs:List ByteArray)(h:∀ x∈xs,x.size<=B)(hn:xs.length<=1000000)(hB:B<=100000):(Lib.join (xs.map (·.data.toList)) [44]).length<=140737488355328:=by
 have:=yw 44 B (xs.map (·.data.toList)) (by
  intro y hy;obtain⟨z,hz,rfl⟩:=List.mem_map.1 hy;have:=h z hz;rw[Lib.size_eq]at this;exact this)
 rw[List.length_map]at this;have h2:xs.length*(B+1)<=1000000*100001:=Nat.mul_le_mul hn aA;omega
theorem PM(a:ByteArray):(orT a ⟨#[126]⟩).size<=a.size+1:=by
 unfold orT;split
 ·show 1<=_;omega
 ·omega
theorem vz(W:World)(t:Nat)(a b:Value):(W.alloc (.cells #[a,b] t)).cell? ⟨W.heap.size,0,none⟩=some a/\(W.alloc (.cells #[a,b] t)).cell? ⟨W.heap.size,1,none⟩=some b:=FO W t a b _ rfl
theorem aBr(f0 f1 f2 f3 f4 f5 f6:ByteArray)(h:∀ x∈[f0,f1,f2,f3,f4,f5,f6],x.size<=200000000000)(W:World) :
  Calls prog 72 #[.slice (some ⟨W.heap.size,0,none⟩) 7 7,.string ⟨#[32]⟩] (W.alloc (.cells #[.string f0,.string f1,.string f2,.string f3,.string f4,.string f5,.string f6] 9)) (Ret (W.alloc (.cells #[.string f0,.string f1,.string f2,.string f3,.string f4,.string f5,.string f6] 9)) (.string ⟨(Lib.join ([f0,f1,f2,f3,f4,f5,f6].map (·.data.toList)) [32]).toArray⟩)):=by
 have hb:Blk (W.alloc (.cells #[.string f0,.string f1,.string f2,.string f3,.string f4,.string f5,.string f6] 9)) W.heap.size 9 #[.string f0,.string f1,.string f2,.string f3,.string f4,.string f5,.string f6] (0,0):=World.alloc_heap_new _ _;refine (strings_Join W.heap.size 0 7 [f0,f1,f2,f3,f4,f5,f6] ⟨#[32]⟩ _ (fun j x hj=>?_) aF aF aF ?_)
 ·have:=hb.cell j;rw[Nat.zero_add,this];rcases j with _ | _ | _ | _ | _ | _ | _ | j <;> simp at hj ⊢ <;> first | exact hj | exact congrArg _ hj | skip
 ·have:=yw 32 200000000000 ([f0,f1,f2,f3,f4,f5,f6].map (·.data.toList)) (by
   intro y hy;obtain⟨z,hz,rfl⟩:=List.mem_map.1 hy;have:=h z hz;rw[Lib.size_eq]at this;exact this)
  rw[List.length_map]at this;simp only[List.length_cons,List.length_nil]at this;show (Lib.join ([f0,f1,f2,f3,f4,f5,f6].map (·.data.toList)) [32]).length<=_;omega
theorem PN(c:aZ)(m:af)(w:World)(hR:bz w c m)(hc:dG c)(hv:bG c=true)(hE:Env w)(hT:Tab w):Calls prog 132 #[af.val c m] w (Ret w (.tuple #[.string (bF c),.int .i64 0])):=by
 have ok:=(mi c).1 hv;have c1:=fun W (hb:Below w.heap.size w W)=>hv▸uN c m W (hR.keep hb) hc.p hc.cl hc.co hc.n1 hc.n2 hc.n3 (hE.keep hb)
 have ci:=fun n (h0 : -9223372036854775808<=n) (h1:n<=9223372036854775807) W (hb:Below w.heap.size w W)=>rQ n W h0 h1 (hT.keep hb)
 have hfr:=ok.fr0;have hfr1:=ok.fr1;have hti:=ok.to0;have hti1:=ok.to1;have hus:=ok.us0;have hus1:=ok.us1;have k1:=ci c.fr aA aA;have k2:=ci c.till aA aA;have k3:=ci c.us aA aA;have hs1:=qM c.fr aA aA;have hs2:=qM c.till aA aA;have hs3:=qM c.us aA aA;have hs4:=PM c.pat;have hsi:∀ x∈c.si,0<=x/\x<64:=fun x hx=>PO
 have hss:∀ y∈c.si.map ae,y.size<=21:=fun y hy=>by
  exact PP
 have hs5:=vw 100000 c.cl hc.cl;have hs6:=vw 100000 c.co hc.co;have hs7:=vw 21 (c.si.map ae) hss;rw[List.length_map]at hs7;have j1:=fun W (hb:Below w.heap.size w W)=>MO 191 (enters_of func191 aC rfl) id m.A c.cl.length m.ca c.cl W (fun x hx W' _=>ML x W' (by have:=hc.cl x hx;omega)) (hR.cl.keep hb) hc.n1 (by rw[List.map_id];exact Gg 100000 c.cl hc.cl hc.n1 aA)
 have j2:=fun W (hb:Below w.heap.size w W)=>MO 191 (enters_of func191 aC rfl) id m.B c.co.length m.cb c.co W (fun x hx W' _=>ML x W' (by have:=hc.co x hx;omega)) (hR.co.keep hb) hc.n2 (by rw[List.map_id];exact Gg 100000 c.co hc.co hc.n2 aA)
 have j3:=fun W (hb:Below w.heap.size w W)=>ZR 57 (enters_of func57 aC rfl) ae m.S c.si.length m.cs c.si W (fun x hx W' hb'=>rQ x W' (by have:=hsi x hx;omega) (by have:=hsi x hx;omega) (hT.keep (aN hb hb'))) (hR.si.keep hb) hc.n3 (Gg 21 _ hss (by rw[List.length_map];exact hc.n3) aA)
 rw[List.map_id]at j1 j2;have cO:=fun (g cc:Nat) (W:World) h0 h1=>BC g cc c.pat ⟨#[126]⟩ W h0 h1
 have hor:(if c.pat.size=0 then (⟨#[126]⟩:ByteArray) else c.pat)=orT c.pat ⟨#[126]⟩:=rfl;rw[hor]at cO;have hn1:=hc.n1;have hn2:=hc.n2;have hn3:=hc.n3;have hp:=hc.p;have m1:c.cl.length*100001<=1000000*100001:=Nat.mul_le_mul hn1 (Nat.le_refl _);have m2:c.co.length*100001<=1000000*100001:=Nat.mul_le_mul hn2 (Nat.le_refl _);have m3:c.si.length*22<=1000000*22:=Nat.mul_le_mul hn3 (Nat.le_refl _);have cJ:=aBr (ae c.fr) (ae c.till) (orT c.pat ⟨#[126]⟩) (dN c.cl) (dN c.co) (dN (c.si.map ae)) (ae c.us) (by
  intro x hx;simp only[List.mem_cons,List.not_mem_nil,or_false]at hx;rcases hx with rfl | rfl | rfl | rfl | rfl | rfl | rfl <;> omega)
 unfold bF jU;generalize (⟨(Lib.join ([ae c.fr,ae c.till,orT c.pat ⟨#[126]⟩,dN c.cl,dN c.co,dN (c.si.map ae),ae c.us].map (·.data.toList)) [32]).toArray⟩:ByteArray)=T at *;generalize ae c.fr=u1 at *;generalize ae c.till=u2 at *;generalize ae c.us=u3 at *;generalize orT c.pat ⟨#[126]⟩=pp at *;generalize dN c.cl=l1 at *;generalize dN c.co=l2 at *;generalize dN (c.si.map ae)=l3 at *;obtain⟨fr,till,pat,cl,co,si,us⟩:=c;obtain⟨A,ca,B,cb,S,cs⟩:=m;unfold af.val at c1 ⊢;dsimp only at c1 k1 k2 k3 j1 j2 j3 cO ⊢;generalize cl.length=na at *;generalize co.length=nb at *;generalize si.length=ns at *;have C1:=aB c1;have K1:=aB k1;have K2:=aB k2;have K3:=aB k3;have J1:=aB j1;have J2:=aB j2;have J3:=aB j3;have CO:=aB cO;have CJ:=aB cJ;clear c1 ci k1 k2 k3 j1 j2 j3 cO cJ hor hs1 hs2 hs3 hs4 hs5 hs6 hs7 hss hsi m1 m2 m3 hn1 hn2 hn3 hp hfr hfr1 hti hti1 hus hus1 ok hv hc hR hE hT;go_enter func132,ntmps132;go_upto_region 4 with (go_at_call 49;refine (C1.out _ aG).mono ?_;rintro e w2 ⟨rfl,hb2⟩;have hX2:aV w2 w.heap.size fr till pat A na ca B nb cb S ns cs us:=Blk.keep (World.alloc_heap_new _ _) hb2;obtain⟨x0,x1,x2,x3,x4,x5,x6⟩:=hX2.facts;have hbw:Below w.heap.size w w2:=aG)
 clear hX2 hb2;go_region_held3 (fun w'=>w'.cell? ⟨w.heap.size,0,none⟩=some (.int .i64 fr)/\w'.cell? ⟨w.heap.size,1,none⟩=some (.int .i64 till)/\w'.cell? ⟨w.heap.size,2,none⟩=some (.string pat)/\w'.cell? ⟨w.heap.size,3,none⟩=some (.slice A na ca)/\w'.cell? ⟨w.heap.size,4,none⟩=some (.slice B nb cb)/\w'.cell? ⟨w.heap.size,5,none⟩=some (.slice S ns cs)/\w'.cell? ⟨w.heap.size,6,none⟩=some (.int .i64 us)/\Below w.heap.size w w')
  (first | exact⟨x0,x1,x2,x3,x4,x5,x6,Below.drew hbw⟩ | (go_split_ands;refine⟨?_,?_,?_,?_,?_,?_,?_,?_⟩ <;> first | assumption | (refine Lib.cell?_alloc_some _ ?_;assumption) | (refine aU ?_ _;assumption) | exact Below.drew (aU hbw _) | (refine aP hb10 ?_;assumption) | (refine aN ?_ hb10;assumption) | (refine aP hb9 ?_;assumption) | (refine aN ?_ hb9;assumption) | (refine aP hb8 ?_;assumption) | (refine aN ?_ hb8;assumption) | (refine aP hb7 ?_;assumption) | (refine aN ?_ hb7;assumption) | (refine aP hb6 ?_;assumption) | (refine aN ?_ hb6;assumption) | (refine aP hb5 ?_;assumption) | (refine aN ?_ hb5;assumption) | (refine aP hb4 ?_;assumption) | (refine aN ?_ hb4;assumption) | (refine aP hb3 ?_;assumption) | (refine aN ?_ hb3;assumption)))
  (first | (go_at_call 57;refine (K1.out _ je).mono ?_;rintro e w3 ⟨rfl,hb3⟩;clear K1) | (go_at_call 57;refine (K2.out _ je).mono ?_;rintro e w4 ⟨rfl,hb4⟩;clear K2) | (go_at_call 108;(first | (with_reducible refine (CO.out w4.heap.size 2 (w4.alloc (.cells #[.string pat,.string ⟨#[126]⟩] 9)) (vz w4 9 _ _).1 (vz w4 9 _ _).2).mono ?_) | (with_reducible refine (CO.out w3.heap.size 2 w4 (aP hb4 (vz w3 9 (.string pat) (.string ⟨#[126]⟩)).1) (aP hb4 (vz w3 9 (.string pat) (.string ⟨#[126]⟩)).2)).mono ?_) | (have s0:w3.cell? ⟨w2.heap.size,0,none⟩=some (.string pat):=aP hb3 (vz w2 9 (.string pat) (.string ⟨#[126]⟩)).1;have s1:w3.cell? ⟨w2.heap.size,1,none⟩=some (.string ⟨#[126]⟩):=aP hb3 (vz w2 9 (.string pat) (.string ⟨#[126]⟩)).2;refine (CO.out w2.heap.size 2 w4 (aP hb4 s0) (aP hb4 s1)).mono ?_;clear s0 s1));rintro e w5 ⟨rfl,hb5⟩) | (go_at_call 192;refine (J1.out _ je).mono ?_;rintro e w6 ⟨rfl,hb6⟩;clear J1) | (go_at_call 192;refine (J2.out _ je).mono ?_;rintro e w7 ⟨rfl,hb7⟩;clear J2) | (go_at_call 193;refine (J3.out _ je).mono ?_;rintro e w8 ⟨rfl,hb8⟩;clear J3) | (go_at_call 57;refine (K3.out _ je).mono ?_;rintro e w9 ⟨rfl,hb9⟩;clear K3) | (go_at_call 72;refine (CJ.out w9).mono ?_;rintro e w10 ⟨rfl,hb10⟩))
 all_goals go_wp2
 all_goals go_ret2
 all_goals exact⟨rfl,je⟩
def uO:bn:=⟨⟨#[]⟩,⟨#[]⟩,⟨#[]⟩,0,0,0⟩
def aBs(p:ByteArray):ByteArray:=match pF (lD p) ⟨#[42,47,42,42]⟩ with
 | some (some z)=>Nw z
 | _=>⟨#[]⟩
def uP(c:aZ):bn:=⟨aBs c.pat,c.cl.headD ⟨#[97]⟩,c.co.headD ⟨#[97,97]⟩,c.si.headD 0,c.fr,c.fr⟩
def Gh{α:Type} [DecidableEq α] (a b all:List α):Option α:=(if a.isEmpty then all else a).find? fun x=>!bM b x
def aBt:List ByteArray:=(List.range 33).map fun i=>⟨#[99,UInt8.ofNat (48+i / 10),UInt8.ofNat (48+i % 10)]⟩
def aBu:List ByteArray:=(List.range 676).map fun i=>⟨#[UInt8.ofNat (97+i / 26),UInt8.ofNat (97+i % 26)]⟩
def Gi:List Int:=(List.range 64).map Int.ofNat
def PQ(a b:aZ):Bool × bn :=
 if a.till<=a.fr then (true,uO)
 else if a.fr<b.fr then (false,uP a)
 else if b.till<a.till then (false,{ uP a with lo:=a.till-1,hi:=a.till-1 })
 else match dF (lD b.pat),dF (lD a.pat) with
  | some x,some y=>if Fz x y then (match Gh a.cl b.cl aBt,Gh a.co b.co aBu,Gh a.si b.si Gi with
    | some s,_,_=>(false,{ uP a with client:=s })
    | none,some s,_=>(false,{ uP a with country:=s })
    | none,none,some n=>(false,{ uP a with site:=n })
    | none,none,none=>(true,uO))
   else (false,{ uP a with addr:=N7 x y })
  | _,_=>(true,uO)
end Go.Proofs.YtlkbkclnbppigaaGreatDoor
