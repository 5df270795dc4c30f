/- What the cond package's Valid returns. -/
import Derived.Test.YtlkbkclnbppigaaGreatDoorIZ20
import Derived.Lib.ItoaLen
import Derived.Test.YtlkbkclnbppigaaGreatDoorIZ19
set_option maxHeartbeats 8000000
namespace Go.Proofs.YtlkbkclnbppigaaGreatDoor
open Tryz
open Go.RowKit Go.Sort
set_option linter.unusedVariables false
set_option linter.unusedSimpArgs false
set_option maxRecDepth 100000
theorem qX(c:aY)(m:ae)(w:World)(hR:dA w c m)(hp:c.pat.size<=100000)(hcl:∀ x∈c.cl,x.size<=100000)(hco:∀ x∈c.co,x.size<=100000)(h1:c.cl.length<=1000000)(h2:c.co.length<=1000000)(h3:c.si.length<=1000000)(hE:Env w) :
  Calls prog 49 #[ae.val c m] w (Ret w (.bool (bF c))):=by
 obtain⟨fr,till,pat,cl,co,si,us⟩:=c;obtain⟨A,ca,B,cb,S,cs⟩:=m;obtain⟨hA,hB,hS⟩:=hR;dsimp only at hA hB hS hp hcl hco h1 h2 h3;unfold ae.val;dsimp only;obtain⟨V,hV⟩:∃ V,V=bF ⟨fr,till,pat,cl,co,si,us⟩:=⟨_,rfl⟩;rw[<-hV];unfold bF BK gY at hV;dsimp only at hV;have c1:=fun W (hb:aF w W)=>JB 101 (enters_of func101 aG rfl) bU A cl.length ca cl 32 W (fun x hx W' hE'=>Ie x W' (hcl x hx) hE') (hA.keep hb) aB aB (Env.keep hE hb)
 have c2:=fun W (hb:aF w W)=>JB 102 (enters_of func102 aG rfl) iV B co.length cb co 32 W (fun x hx W' _=>Iz x W' (by have:=hco x hx;omega)) (hB.keep hb) aB aB (Env.keep hE hb)
 have c3:=fun W (hb:aF w W)=>Ux 104 (enters_of func104 aG rfl) jb S si.length cs si 64 W (fun x W'=>I4 x W') (hS.keep hb) aB aB
 have hva:=fun W h=>GI pat W hp h
 generalize (dI pat).isSome=b1 at *;generalize iU ltB bU 32 cl=b2 at *;generalize iU ltB iV 32 co=b3 at *;generalize iU ltI jb 64 si=b4 at *;have h32:((32:Nat):Int)=32:=rfl;have h64:((64:Nat):Int)=64:=rfl;simp only[h32]at c1 c2;simp only[h64]at c3;clear h32 h64;have C1:=aA c1;have C2:=aA c2;have C3:=aA c3;have HVA:=aA hva;have HE:=aA hE;clear c1 c2 c3 hva hE hA hB hS hcl hco h1 h2 h3 hp;by_cases t1:0<=fr;rotate_left
 ·obtain rfl:V=false:=by rw[hV];simp[t1]
  have d1:decide (0<=fr)=false:=decide_eq_false t1;clear hV;exact mX
 have d1:decide (0<=fr)=true:=decide_eq_true t1;by_cases t2:fr<=1099511627776;rotate_left
 ·obtain rfl:V=false:=by rw[hV];simp[t2]
  have d2:decide (fr<=1099511627776)=false:=decide_eq_false t2;clear hV;exact mX
 have d2:decide (fr<=1099511627776)=true:=decide_eq_true t2;by_cases t3:0<=till;rotate_left
 ·obtain rfl:V=false:=by rw[hV];simp[t3]
  have d3:decide (0<=till)=false:=decide_eq_false t3;clear hV;exact mX
 have d3:decide (0<=till)=true:=decide_eq_true t3;by_cases t4:till<=1099511627777;rotate_left
 ·obtain rfl:V=false:=by rw[hV];simp[t4]
  have d4:decide (till<=1099511627777)=false:=decide_eq_false t4;clear hV;exact mX
 have d4:decide (till<=1099511627777)=true:=decide_eq_true t4;by_cases t5:0<=us;rotate_left
 ·obtain rfl:V=false:=by rw[hV];simp[t5]
  have d5:decide (0<=us)=false:=decide_eq_false t5;clear hV;exact mX
 have d5:decide (0<=us)=true:=decide_eq_true t5;by_cases t6:us<=1073741824;rotate_left
 ·obtain rfl:V=false:=by rw[hV];simp[t6]
  have d6:decide (us<=1073741824)=false:=decide_eq_false t6;clear hV;exact mX
 have d6:decide (us<=1073741824)=true:=decide_eq_true t6;have hV2:V=((decide (pat.size=0)||b1)&&b2&&b3&&b4):=by rw[hV];simp[t1,t2,t3,t4,t5,t6]
 clear hV;by_cases hs:pat.size=0
 ·obtain rfl:pat=⟨#[]⟩:=fK (List.eq_nil_of_length_eq_zero (by rw[<-Lib.size_eq];exact hs));clear hs;cases b2
  ·obtain rfl:V=false:=nP;exact Ba
  cases b3
  ·obtain rfl:V=false:=nP;exact Ba
  obtain rfl:V=b4:=by rw[hV2];cases b1 <;> cases b4 <;> rfl
  exact Ba
 ·have hn:¬ pat.toList=[]:=fun e=>hs zu
  have hn2:(pat.toList == [])=false:=by simpa using hn
  rw[decide_eq_false hs,Bool.false_or]at hV2;cases b1
  ·obtain rfl:V=false:=nP;clear hV2;exact mX
  cases b2
  ·obtain rfl:V=false:=nP;clear hV2;exact mX
  cases b3
  ·obtain rfl:V=false:=nP;clear hV2;exact mX
  obtain rfl:V=b4:=by rw[hV2];cases b4 <;> rfl
  clear hV2;exact mX
structure dE(c:aY):Prop where
 p:c.pat.size<=100000
 cl:∀ x∈c.cl,x.size<=100000
 co:∀ x∈c.co,x.size<=100000
 n1:c.cl.length<=1000000
 n2:c.co.length<=1000000
 n3:c.si.length<=1000000
structure lD(a:dN):Prop where
 p:a.addr.size<=100000
 cl:a.client.size<=100000
 co:a.country.size<=100000
def iJ(w:World)(g:Nat)(ad cl co:aC)(si lo hi:Int):Prop:=Blk w g 59 #[.string ad,.string cl,.string co,.int .i64 si,.int .i64 lo,.int .i64 hi] (0,0)
theorem iJ.facts{w:World}{g:Nat}{ad cl co:aC}{si lo hi:Int}(h:iJ w g ad cl co si lo hi) :
  w.cell? ⟨g,0,none⟩=some (.string ad)/\w.cell? ⟨g,1,none⟩=some (.string cl)/\w.cell? ⟨g,2,none⟩=some (.string co)/\w.cell? ⟨g,3,none⟩=some (.int .i64 si)/\w.cell? ⟨g,4,none⟩=some (.int .i64 lo)/\w.cell? ⟨g,5,none⟩=some (.int .i64 hi) :=
 ⟨Blk.cell h 0,Blk.cell h 1,Blk.cell h 2,Blk.cell h 3,Blk.cell h 4,Blk.cell h 5⟩
theorem vC(w:World)(o1 o2:Obj):((w.alloc o1).alloc o2).heap[w.heap.size]? = some o1/\((w.alloc o1).alloc o2).heap[w.heap.size+1]? = some o2:=by
 refine⟨(Below.heap_alloc _ _ _ aH).trans (World.alloc_heap_new _ _),?_⟩;have:=World.alloc_heap_new (w.alloc o1) o2
 rwa [World.size_alloc]at this
theorem U9(c:aY)(m:ae)(a:dN)(w:World)(hR:dA w c m)(hc:dE c)(ha:lD a)(hE:Env w) :
  Calls prog 41 #[ae.val c m,dN.val a] w (Ret w (.bool (fM c a))):=by
 have c1:=fun W (hb:aF w W)=>qX c m W (hR.keep hb) hc.p hc.cl hc.co hc.n1 hc.n2 hc.n3 (hE.keep hb)
 have c2:=fun W h=>U3 a W ha.p ha.cl ha.co h
 obtain⟨V,hV⟩:∃ V,V=fM c a:=⟨_,rfl⟩;rw[<-hV];unfold fM at hV;generalize bF c=v1 at *;generalize uz a=v2 at *;obtain⟨fr,till,pat,cl,co,si,us⟩:=c;obtain⟨A,ca,B,cb,S,cs⟩:=m;obtain⟨ad,kl,ko,st,lo,hi⟩:=a;obtain⟨hA,hB,hS⟩:=hR;obtain⟨h1,h2,h3,n1,n2,n3⟩:=hc;obtain⟨g1,g2,g3⟩:=ha;unfold ae.val at c1;unfold dN.val at c2;unfold ae.val dN.val;dsimp only at hA hB hS h1 h2 h3 n1 n2 n3 g1 g2 g3 hV c1 c2;dsimp only;have c3:=fun W=>Ur fr till us pat A B S cl.length ca co.length cb si.length cs W
 have hpt:(if pat.size=0 then (⟨#[42,47,42,42]⟩:aC) else pat)=nN pat:=rfl;rw[hpt]at c3;have hps:(nN pat).size<=100000:=by unfold nN;split;exact aK;exact h1
 have c4:=fun W h=>TF (nN pat) ad W hps g1 h
 have c5:=fun W (hb:aF w W)=>Ia A cl.length ca cl kl W (hA.keep hb) aB
 have c6:=fun W (hb:aF w W)=>Ia B co.length cb co ko W (hB.keep hb) aB
 have c7:=fun W (hb:aF w W)=>Us S si.length cs si st W (hS.keep hb) aB
 generalize nN pat=pt at *;generalize qO pt ad=v4 at *;generalize bG cl kl=v5 at *;generalize bG co ko=v6 at *;generalize bG si st=v7 at *;obtain⟨W0,hW0⟩:∃ W0,W0=(w.alloc (.cells #[.int .i64 fr,.int .i64 till,.string pat,.slice A cl.length ca,.slice B co.length cb,.slice S si.length cs,.int .i64 us] 27)).alloc (.cells #[.string ad,.string kl,.string ko,.int .i64 st,.int .i64 lo,.int .i64 hi] 59):=⟨_,rfl⟩;have hb0:aF w W0:=by rw[hW0];exact aU (aU (Below.refl _ _) _) _
 have hX:aX W0 w.heap.size fr till pat A cl.length ca B co.length cb S si.length cs us:=by rw[hW0];exact (vC _ _ _).1
 have hY:iJ W0 (w.heap.size+1) ad kl ko st lo hi:=by rw[hW0];exact (vC _ _ _).2
 obtain⟨x0,x1,x2,x3,x4,x5,x6⟩:=hX.facts;obtain⟨y0,y1,y2,y3,y4,y5⟩:=hY.facts;have r0:=cell_regrown x0;have r1:=cell_regrown x1;have r2:=cell_regrown x2;have r3:=cell_regrown x3;have r4:=cell_regrown x4;have r5:=cell_regrown x5;have r6:=cell_regrown x6;have q0:=cell_regrown y0;have q1:=cell_regrown y1;have q2:=cell_regrown y2;have q3:=cell_regrown y3;have q4:=cell_regrown y4;have q5:=cell_regrown y5;replace c1:=fun W (hb:aF W0 W)=>c1 W (aV hb0 hb)
 replace c2:=fun W (hb:aF W0 W)=>c2 W (hE.keep (aV hb0 hb))
 replace c3:=fun W (_:aF W0 W)=>c3 W
 replace c4:=fun W (hb:aF W0 W)=>c4 W (hE.keep (aV hb0 hb))
 replace c5:=fun W (hb:aF W0 W)=>c5 W (aV hb0 hb)
 replace c6:=fun W (hb:aF W0 W)=>c6 W (aV hb0 hb)
 replace c7:=fun W (hb:aF W0 W)=>c7 W (aV hb0 hb)
 have HW:=aA hW0;have HB0:=aA hb0;clear hW0 hb0 hX hY;have C1:=aA c1;have C2:=aA c2;have C3:=aA c3;have C4:=aA c4;have C5:=aA c5;have C6:=aA c6;have C7:=aA c7;clear c1 c2 c3 c4 c5 c6 c7 hE hA hB hS h1 h2 h3 n1 n2 n3 g1 g2 g3 hps hpt;cases v1
 ·obtain rfl:V=false:=by rw[hV];simp
  clear hV;exact pJ
 cases v2
 ·obtain rfl:V=false:=by rw[hV];simp
  clear hV;exact pJ
 by_cases t1:fr<=lo;rotate_left
 ·obtain rfl:V=false:=by rw[hV];simp[t1]
  have d1:decide (fr<=lo)=false:=decide_eq_false t1;clear hV;exact pJ
 have d1:decide (fr<=lo)=true:=decide_eq_true t1;by_cases t2:hi<till;rotate_left
 ·obtain rfl:V=false:=by rw[hV];simp[t2]
  have d2:decide (hi<till)=false:=decide_eq_false t2;clear hV;exact pJ
 have d2:decide (hi<till)=true:=decide_eq_true t2;have hV2:V=(v4&&v5&&v6&&v7):=by rw[hV];simp[t1,t2]
 clear hV;cases v4
 ·obtain rfl:V=false:=nP;clear hV2;exact pJ
 cases v5
 ·obtain rfl:V=false:=nP;clear hV2;exact pJ
 cases v6
 ·obtain rfl:V=false:=nP;clear hV2;exact pJ
 obtain rfl:V=v7:=nP;clear hV2;exact pJ
def kV(c:aY):List aC:=[ai c.fr,ai c.till,orT c.pat ⟨#[126]⟩,dn c.cl,dn c.co,dn (c.si.map ai),ai c.us]
def bK(c:aY):aC:=⟨(Lib.join ((kV c).map (·.data.toList)) [32]).toArray⟩
theorem Bc(c:UInt8)(B:Nat)(l:List (List UInt8))(hl:∀ x∈l,x.length<=B):(Lib.join l [c]).length<=l.length*(B+1):=by
 cases l with
 | nil=>simp[Lib.join_nil]
 | cons x r =>
  have hx:=hl x aH;have hr:Lib.lens r<=r.length*B:=AV B r (fun y hy=>hl y qH);rw[Lib.join_cons,List.length_append,Lib.joinTail_length];simp only[List.length_cons,List.length_nil,Nat.zero_add,Nat.one_mul];have e1:(r.length+1)*(B+1)=r.length*B+r.length+B+1:=by rw[Nat.succ_mul,Nat.mul_succ];omega
  omega
theorem Bd(B:Nat)(xs:List aC)(h:∀ x∈xs,x.size<=B):(dn xs).size<=xs.length*(B+1)+1:=by
 unfold dn orT;split
 ·show 1<=_;omega
 ·have:=Bc 44 B (xs.map (·.data.toList)) (by
   intro y hy;obtain⟨z,hz,rfl⟩:=List.mem_map.1 hy;have:=h z hz;rw[Lib.size_eq]at this;exact this)
  rw[List.length_map]at this;show (Lib.join (xs.map (·.data.toList)) [44]).toArray.size<=_;rw[List.size_toArray];omega
theorem sD(n:Int)(h0 : -9223372036854775808<=n)(h1:n<=9223372036854775807):(ai n).size<=21:=Lib.itoa_length_le n h0 h1
theorem Be(B:Nat)(xs:List aC)(h:∀ x∈xs,x.size<=B)(hn:xs.length<=1000000)(hB:B<=100000):(Lib.join (xs.map (·.data.toList)) [44]).length<=140737488355328:=by
 have:=Bc 44 B (xs.map (·.data.toList)) (by
  intro y hy;obtain⟨z,hz,rfl⟩:=List.mem_map.1 hy;have:=h z hz;rw[Lib.size_eq]at this;exact this)
 rw[List.length_map]at this;have h2:xs.length*(B+1)<=1000000*100001:=Nat.mul_le_mul hn aB;omega
theorem VC(a:aC):(orT a ⟨#[126]⟩).size<=a.size+1:=by
 unfold orT;split
 ·show 1<=_;omega
 ·omega
theorem sF(W:World)(t:Nat)(a b:Value):(W.alloc (.cells #[a,b] t)).cell? ⟨W.heap.size,0,none⟩=some a/\(W.alloc (.cells #[a,b] t)).cell? ⟨W.heap.size,1,none⟩=some b:=AZ W t a b _ rfl
theorem VD(f0 f1 f2 f3 f4 f5 f6:aC)(h:∀ x∈[f0,f1,f2,f3,f4,f5,f6],x.size<=200000000000)(W:World) :
  Calls prog 72 #[.slice (some ⟨W.heap.size,0,none⟩) 7 7,.string ⟨#[32]⟩] (W.alloc (.cells #[.string f0,.string f1,.string f2,.string f3,.string f4,.string f5,.string f6] 9)) (Ret (W.alloc (.cells #[.string f0,.string f1,.string f2,.string f3,.string f4,.string f5,.string f6] 9)) (.string ⟨(Lib.join ([f0,f1,f2,f3,f4,f5,f6].map (·.data.toList)) [32]).toArray⟩)):=by
 have hb:Blk (W.alloc (.cells #[.string f0,.string f1,.string f2,.string f3,.string f4,.string f5,.string f6] 9)) W.heap.size 9 #[.string f0,.string f1,.string f2,.string f3,.string f4,.string f5,.string f6] (0,0):=World.alloc_heap_new _ _;refine (strings_Join W.heap.size 0 7 [f0,f1,f2,f3,f4,f5,f6] ⟨#[32]⟩ _ (fun j x hj=>?_) aH aH aH ?_)
 ·have:=hb.cell j;rw[Nat.zero_add,this];rcases j with _ | _ | _ | _ | _ | _ | _ | j <;> simp at hj ⊢ <;> first | exact hj | exact congrArg _ hj | skip
 ·have:=Bc 32 200000000000 ([f0,f1,f2,f3,f4,f5,f6].map (·.data.toList)) (by
   intro y hy;obtain⟨z,hz,rfl⟩:=List.mem_map.1 hy;have:=h z hz;rw[Lib.size_eq]at this;exact this)
  rw[List.length_map]at this;simp only[List.length_cons,List.length_nil]at this;show (Lib.join ([f0,f1,f2,f3,f4,f5,f6].map (·.data.toList)) [32]).length<=_;omega
theorem JC(c:aY)(m:ae)(w:World)(hR:dA w c m)(hc:dE c)(hv:bF c=true)(hE:Env w)(hT:Tab w):Calls prog 132 #[ae.val c m] w (Ret w (.tuple #[.string (bK c),.int .i64 0])):=by
 have ok:=(mP c).1 hv;have c1:=fun W (hb:aF w W)=>hv▸qX c m W (hR.keep hb) hc.p hc.cl hc.co hc.n1 hc.n2 hc.n3 (hE.keep hb)
 have ci:=fun n (h0 : -9223372036854775808<=n) (h1:n<=9223372036854775807) W (hb:aF w W)=>oq n W h0 h1 (hT.keep hb)
 have hfr:=ok.fr0;have hfr1:=ok.fr1;have hti:=ok.to0;have hti1:=ok.to1;have hus:=ok.us0;have hus1:=ok.us1;have k1:=ci c.fr aB aB;have k2:=ci c.till aB aB;have k3:=ci c.us aB aB;have hs1:=sD c.fr aB aB;have hs2:=sD c.till aB aB;have hs3:=sD c.us aB aB;have hs4:=VC c.pat;have hsi:∀ x∈c.si,0<=x/\x<64:=fun x hx=>by have:=ok.si x hx;unfold jb at this;simpa using this
 have hss:∀ y∈c.si.map ai,y.size<=21:=fun y hy=>by
  obtain⟨x,hx,rfl⟩:=List.mem_map.1 hy;have:=hsi x hx;exact sD x aB aB
 have hs5:=Bd 100000 c.cl hc.cl;have hs6:=Bd 100000 c.co hc.co;have hs7:=Bd 21 (c.si.map ai) hss;rw[List.length_map]at hs7;have j1:=fun W (hb:aF w W)=>GV 191 (enters_of func191 aG rfl) id m.A c.cl.length m.ca c.cl W (fun x hx W' _=>GR x W' (by have:=hc.cl x hx;omega)) (hR.cl.keep hb) hc.n1 (by rw[List.map_id];exact Be 100000 c.cl hc.cl hc.n1 aB)
 have j2:=fun W (hb:aF w W)=>GV 191 (enters_of func191 aG rfl) id m.B c.co.length m.cb c.co W (fun x hx W' _=>GR x W' (by have:=hc.co x hx;omega)) (hR.co.keep hb) hc.n2 (by rw[List.map_id];exact Be 100000 c.co hc.co hc.n2 aB)
 have j3:=fun W (hb:aF w W)=>Si 57 (enters_of func57 aG rfl) ai m.S c.si.length m.cs c.si W (fun x hx W' hb'=>oq x W' (by have:=hsi x hx;omega) (by have:=hsi x hx;omega) (hT.keep (aV hb hb'))) (hR.si.keep hb) hc.n3 (Be 21 _ hss (by rw[List.length_map];exact hc.n3) aB)
 rw[List.map_id]at j1 j2;have cO:=fun (g cc:Nat) (W:World) h0 h1=>xQ g cc c.pat ⟨#[126]⟩ W h0 h1
 have hor:(if c.pat.size=0 then (⟨#[126]⟩:aC) else c.pat)=orT c.pat ⟨#[126]⟩:=rfl;rw[hor]at cO;have hn1:=hc.n1;have hn2:=hc.n2;have hn3:=hc.n3;have hp:=hc.p;have m1:c.cl.length*100001<=1000000*100001:=Nat.mul_le_mul hn1 (Nat.le_refl _);have m2:c.co.length*100001<=1000000*100001:=Nat.mul_le_mul hn2 (Nat.le_refl _);have m3:c.si.length*22<=1000000*22:=Nat.mul_le_mul hn3 (Nat.le_refl _);have cJ:=VD (ai c.fr) (ai c.till) (orT c.pat ⟨#[126]⟩) (dn c.cl) (dn c.co) (dn (c.si.map ai)) (ai c.us) (by
  intro x hx;simp only[List.mem_cons,List.not_mem_nil,or_false]at hx;rcases hx with rfl | rfl | rfl | rfl | rfl | rfl | rfl <;> omega)
 unfold bK kV;generalize (⟨(Lib.join ([ai c.fr,ai c.till,orT c.pat ⟨#[126]⟩,dn c.cl,dn c.co,dn (c.si.map ai),ai c.us].map (·.data.toList)) [32]).toArray⟩:aC)=T at *;generalize ai c.fr=u1 at *;generalize ai c.till=u2 at *;generalize ai c.us=u3 at *;generalize orT c.pat ⟨#[126]⟩=pp at *;generalize dn c.cl=l1 at *;generalize dn c.co=l2 at *;generalize dn (c.si.map ai)=l3 at *;obtain⟨fr,till,pat,cl,co,si,us⟩:=c;obtain⟨A,ca,B,cb,S,cs⟩:=m;unfold ae.val at c1 ⊢;dsimp only at c1 k1 k2 k3 j1 j2 j3 cO ⊢;generalize cl.length=na at *;generalize co.length=nb at *;generalize si.length=ns at *;have C1:=aA c1;have K1:=aA k1;have K2:=aA k2;have K3:=aA k3;have J1:=aA j1;have J2:=aA j2;have J3:=aA j3;have CO:=aA cO;have CJ:=aA cJ;clear c1 ci k1 k2 k3 j1 j2 j3 cO cJ hor hs1 hs2 hs3 hs4 hs5 hs6 hs7 hss hsi m1 m2 m3 hn1 hn2 hn3 hp hfr hfr1 hti hti1 hus hus1 ok hv hc hR hE hT;go_enter func132,ntmps132;go_upto_region 4 with (go_at_call 49;refine (C1.out _ aJ).mono ?_;rintro e w2 ⟨rfl,hb2⟩;have hX2:aX w2 w.heap.size fr till pat A na ca B nb cb S ns cs us:=Blk.keep (World.alloc_heap_new _ _) hb2;obtain⟨x0,x1,x2,x3,x4,x5,x6⟩:=hX2.facts;have hbw:aF w w2:=aJ)
 clear hX2 hb2;go_region_held3 (fun w'=>w'.cell? ⟨w.heap.size,0,none⟩=some (.int .i64 fr)/\w'.cell? ⟨w.heap.size,1,none⟩=some (.int .i64 till)/\w'.cell? ⟨w.heap.size,2,none⟩=some (.string pat)/\w'.cell? ⟨w.heap.size,3,none⟩=some (.slice A na ca)/\w'.cell? ⟨w.heap.size,4,none⟩=some (.slice B nb cb)/\w'.cell? ⟨w.heap.size,5,none⟩=some (.slice S ns cs)/\w'.cell? ⟨w.heap.size,6,none⟩=some (.int .i64 us)/\aF w w')
  (first | exact⟨x0,x1,x2,x3,x4,x5,x6,Below.drew hbw⟩ | (go_split_ands;refine⟨?_,?_,?_,?_,?_,?_,?_,?_⟩ <;> first | assumption | (refine Lib.cell?_alloc_some _ ?_;assumption) | (refine aU ?_ _;assumption) | exact Below.drew (aU hbw _) | (refine aW hb10 ?_;assumption) | (refine aV ?_ hb10;assumption) | (refine aW hb9 ?_;assumption) | (refine aV ?_ hb9;assumption) | (refine aW hb8 ?_;assumption) | (refine aV ?_ hb8;assumption) | (refine aW hb7 ?_;assumption) | (refine aV ?_ hb7;assumption) | (refine aW hb6 ?_;assumption) | (refine aV ?_ hb6;assumption) | (refine aW hb5 ?_;assumption) | (refine aV ?_ hb5;assumption) | (refine aW hb4 ?_;assumption) | (refine aV ?_ hb4;assumption) | (refine aW hb3 ?_;assumption) | (refine aV ?_ hb3;assumption)))
  (first | (go_at_call 57;refine (K1.out _ jH).mono ?_;rintro e w3 ⟨rfl,hb3⟩;clear K1) | (go_at_call 57;refine (K2.out _ jH).mono ?_;rintro e w4 ⟨rfl,hb4⟩;clear K2) | (go_at_call 108;(first | (with_reducible refine (CO.out w4.heap.size 2 (w4.alloc (.cells #[.string pat,.string ⟨#[126]⟩] 9)) (sF w4 9 _ _).1 (sF w4 9 _ _).2).mono ?_) | (with_reducible refine (CO.out w3.heap.size 2 w4 (aW hb4 (sF w3 9 (.string pat) (.string ⟨#[126]⟩)).1) (aW hb4 (sF w3 9 (.string pat) (.string ⟨#[126]⟩)).2)).mono ?_) | (have s0:w3.cell? ⟨w2.heap.size,0,none⟩=some (.string pat):=aW hb3 (sF w2 9 (.string pat) (.string ⟨#[126]⟩)).1;have s1:w3.cell? ⟨w2.heap.size,1,none⟩=some (.string ⟨#[126]⟩):=aW hb3 (sF w2 9 (.string pat) (.string ⟨#[126]⟩)).2;refine (CO.out w2.heap.size 2 w4 (aW hb4 s0) (aW hb4 s1)).mono ?_;clear s0 s1));rintro e w5 ⟨rfl,hb5⟩) | (go_at_call 192;refine (J1.out _ jH).mono ?_;rintro e w6 ⟨rfl,hb6⟩;clear J1) | (go_at_call 192;refine (J2.out _ jH).mono ?_;rintro e w7 ⟨rfl,hb7⟩;clear J2) | (go_at_call 193;refine (J3.out _ jH).mono ?_;rintro e w8 ⟨rfl,hb8⟩;clear J3) | (go_at_call 57;refine (K3.out _ jH).mono ?_;rintro e w9 ⟨rfl,hb9⟩;clear K3) | (go_at_call 72;refine (CJ.out w9).mono ?_;rintro e w10 ⟨rfl,hb10⟩))
 all_goals go_wp2
 all_goals go_ret2
 all_goals exact⟨rfl,jH⟩
def qY:dN:=⟨⟨#[]⟩,⟨#[]⟩,⟨#[]⟩,0,0,0⟩
def VF(p:aC):aC:=match mQ (nN p) ⟨#[42,47,42,42]⟩ with
 | some (some z)=>Ht z
 | _=>⟨#[]⟩
def qZ(c:aY):dN:=⟨VF c.pat,c.cl.headD ⟨#[97]⟩,c.co.headD ⟨#[97,97]⟩,c.si.headD 0,c.fr,c.fr⟩
def Bf{α:Type} [DecidableEq α] (a b all:List α):Option α:=(if a.isEmpty then all else a).find? fun x=>!bG b x
def VG:List aC:=(List.range 33).map fun i=>⟨#[99,UInt8.ofNat (48+i / 10),UInt8.ofNat (48+i % 10)]⟩
def VH:List aC:=(List.range 676).map fun i=>⟨#[UInt8.ofNat (97+i / 26),UInt8.ofNat (97+i % 26)]⟩
def Bg:List Int:=(List.range 64).map Int.ofNat
def JD(a b:aY):Bool × dN :=
 if a.till<=a.fr then (true,qY)
 else if a.fr<b.fr then (false,qZ a)
 else if b.till<a.till then (false,{ qZ a with lo:=a.till-1,hi:=a.till-1 })
 else match dI (nN b.pat),dI (nN a.pat) with
  | some x,some y=>if BC x y then (match Bf a.cl b.cl VG,Bf a.co b.co VH,Bf a.si b.si Bg with
    | some s,_,_=>(false,{ qZ a with client:=s })
    | none,some s,_=>(false,{ qZ a with country:=s })
    | none,none,some n=>(false,{ qZ a with site:=n })
    | none,none,none=>(true,qY))
   else (false,{ qZ a with addr:=Hy x y })
  | _,_=>(true,qY)
end Go.Proofs.YtlkbkclnbppigaaGreatDoor
