/- What the specification's Valid, Match and Under return. -/
import Derived.Test.YtlkbkclnbppigaaGreatDoorNY3
set_option maxHeartbeats 16000000
namespace Go.Proofs.YtlkbkclnbppigaaGreatDoor
open Tryz
open Go.RowKit Go.Sort
set_option linter.unusedVariables false
set_option linter.unusedSimpArgs false
set_option maxRecDepth 100000
theorem EG.any_{r:Option Pat}{w w':World}{e:Ending}(h:EG r w e w'):Below w.heap.size w w'/\∃(c:ByteArray)(A:Option Addr)(n k:Nat)(t:Bool),e=.returned (.tuple #[.agg #[.string c,.slice A n k,.bool t],.bool r.isSome]):=by
 obtain⟨hb,h⟩:=h;cases r with
 | none=>exact⟨hb,_,none,0,0,_,h⟩
 | some x=>obtain⟨A,c,h,_⟩:=h;exact⟨hb,_,A,_,c,_,h⟩
theorem aOw(s:ByteArray)(w:World)(hs:s.size<=100000):Calls prog 66 #[.string s] w (Ret w (.bool (dF s).isSome)):=by
 have cC:=fun W=>(Vr s W hs).mono (fun e w' h=>h.any_)
 generalize (dF s).isSome=b at *;have HC:=aB cC;clear cC;go_enter func66,ntmps66;go_wp2_with (go_at_call 130;refine (HC.out _).mono ?_;rintro e w1 ⟨hb1,c,A,n,k,t,rfl⟩);go_ret;exact⟨rfl,aG⟩
theorem WI(c:ByteArray)(A B:Option Addr)(na ca nb cb:Nat)(e:Value)(w:World):(Instr.field 231 (.agg #[.string c,.slice A na ca,.slice B nb cb,e]) 0).run prog w=.ok (.agg #[.string c,.slice A na ca,.slice B nb cb]) w:=by
 first | kernel_rfl | rfl | simp[Instr.field,part,go_sem,underlying231]
theorem aOx(ps:List bJ)(k:Nat)(p:bJ)(h:ps[k]? = some p):(dM ps)[k]? = some (iq p):=by
 unfold dM;rw[List.getElem?_map,h];rfl
theorem Jd:∀(ps:List bJ)(ws:List ByteArray),ps.length<=ws.length->(dh ps ws=true↔∀(k:Nat)(p:bJ)(x:ByteArray),ps[k]? = some p->ws[k]? = some x->dQ p.kind p.text x=true)
 | [],ws,_=>by simp[dh]
 | p :: ps,[],h=>mW
 | p :: ps,x :: ws,h=>by
  have ih:=Jd ps ws kX;rw[dh,Bool.and_eq_true,ih];constructor
  ·rintro⟨h1,h2⟩ k q y hq hy;cases k with
   | zero=>simp at hq hy;rw[<-hq,<-hy];exact h1
   | succ k=>exact h2 k q y (by simpa using hq) (by simpa using hy)
  ·intro h3;exact⟨h3 0 p x rfl rfl,fun k q y hq hy=>h3 (k+1) q y (by simpa using hq) (by simpa using hy)⟩
theorem aOy{p:bJ}(hp:qA p)(a:ByteArray):dQ p.kind p.text a=((iq p).toList == [42]||(iq p).toList==a.toList):=by
 rcases hp with ⟨hk,ht⟩ | ⟨hk,ht⟩
 ·rw[str0 hk,hk];have h42:(p.text.toList == [42])=false:=by
   rw[Lib.toList_data,beq_eq_false_iff_ne];exact EE (oW ht) []
  rw[h42,Bool.false_or];unfold dQ;rw[if_pos rfl]
 ·have e:=EF (p:=p) aA;rw[hk,ht,pz,Lib.toList_data,e,ht];rfl
theorem aOz(p q:ByteArray)(w:World)(hp:p.size<=100000)(hq:q.size<=100000):Calls prog 127 #[.string p,.string q] w (Ret w (.bool (kw p q))):=by
 have cC:=fun W=>Vr p W hp
 have cD:=fun W=>WG q W aA
 have cP:=fun W=>WE q W aA
 unfold kw;cases hx:dF p with
 | none =>
  rw[hx]at cC;have HC:=aB cC;clear cC cD cP hx;go_enter func127,ntmps127;go_wp2_with (go_at_call 130;refine (HC.out _).mono ?_;rintro e w1 ⟨hb1,rfl⟩);go_ret;exact⟨rfl,aG⟩
 | some x =>
  have hfit:=uG hx;have hgood:=vV p hp x hx;have hm32:=hgood.num;rw[hx]at cC;obtain⟨V,hV⟩:∃ V,V=(iK q&&kJ x (bU q).1):=⟨_,rfl⟩;show Calls prog 127 #[.string p,.string q] w (Ret w (.bool (iK q&&kJ x (bU q).1)));rw[<-hV];obtain⟨m,hm⟩:∃ m,m=x.parts.length:=⟨_,rfl⟩;obtain⟨cu,hcu⟩:∃ cu,cu=iq x.cust:=⟨_,rfl⟩;obtain⟨tl,htl⟩:∃ tl,tl=x.tail:=⟨_,rfl⟩;have HC:Hid (∀ W,Calls prog 130 #[.string p] W (fun e w'=>Below W.heap.size W w'/\∃ A c,e=.returned (.tuple #[.agg #[.string cu,.slice A m c,.bool tl],.bool true])/\aH w' 1 A m ((dM x.parts).map .string))):=aB (by rw[hm,hcu,htl];exact cC);have hPS:∀ y∈x.parts,iE y/\(iq y).size<=200000:=fun y hy=>⟨hfit.parts y hy,by have:=FK y.kind y.text;have:=(hgood.parts y hy).2;unfold iq;omega⟩
  have HPS:=aB hPS;have HM:=aB hm;cases hrd:iK q
  ·rw[hrd]at cD hV;obtain rfl:V=false:=hV;have HD:=aB cD;clear cC cD cP hx hfit hgood hrd hPS hm hcu htl;go_enter func127,ntmps127;go_wp2_with (first | (go_at_call 130;refine (HC.out _).mono ?_;rintro e w1 ⟨hb1,A,c,rfl,hR⟩;have HR:=aB hR;clear hR) | (go_at_call 84;refine (HD.out _).mono ?_;rintro e w2 ⟨rfl,hb2⟩;have hX2:gG w2 w1.heap.size cu (.slice A m c) _:=(hb2.block w1.heap.size aF).trans (World.alloc_heap_new _ _)));go_ret;exact⟨rfl,aG⟩
  ·rw[hrd]at cD hV;rw[Bool.true_and]at hV;have herr:(bU q).2=0:=by
    unfold iK at hrd;simp only[Bool.and_eq_true,decide_eq_true_eq]at hrd;exact hrd.1
   have hpg:=yP q herr;have hcn:(bU q).1.cust.size<=64:=rD hpg.name;have hwd:=hpg.words;have hn32:=hpg.parts;generalize bU q=r at *;obtain⟨⟨ac,ap,aq⟩,er⟩:=r;dsimp only at herr hcn hwd hn32 hV;subst herr;obtain⟨n,hn⟩:∃ n,n=ap.length:=⟨_,rfl⟩;have HP:Hid (∀ W,Calls prog 186 #[.string q] W (fun e w'=>Below W.heap.size W w'/\∃ A ca B cb,e=.returned (.agg #[.string ac,.slice A n ca,.slice B aq.length cb,.int .i64 0])/\aH w' 1 A n (ap.map .string)/\aH w' 2 B aq.length (dS aq))):=aB (by rw[hn];exact cP);have hh:=aOy hfit.cust ac;rw[<-hcu]at hh;have hV2:V=((cu.toList == [42]||cu.toList==ac.toList)&&!decide (n<m)&&!(decide (m<n)&&!tl)&&dh x.parts ap):=by
    rw[hV,hn,hm,htl,<-hh];rfl
   have HV:=aB hV2;have HD:=aB cD;have HWD:=aB hwd;have HN:=aB hn;rw[<-hn]at hn32;rw[<-hm]at hm32;clear cC cD cP hx hfit hgood hrd hPS hm hcu htl hpg hV hV2 hh hwd hn;have rest:V=(!decide (n<m)&&!(decide (m<n)&&!tl)&&dh x.parts ap)->(((cu.toList == [42])=true/\cu.toList=[42])\/((cu.toList == [42])=false/\¬ cu.toList=[42]/\(cu.toList==ac.toList)=true/\cu.toList=ac.toList))->Calls prog 127 #[.string p,.string q] w (Ret w (.bool V)):=by
    intro hv3 hB;clear HV;by_cases h1:n<m
    ·obtain rfl:V=false:=by rw[hv3,decide_eq_true h1];rfl
     have d1:decide ((n:Int)<(m:Int))=true:=decide_eq_true aA;have d1':decide (n<m)=true:=decide_eq_true h1;clear hv3 h1;rcases hB with ⟨t1,t1'⟩ | ⟨t1,t1',t2,t2'⟩
     all_goals
      exact Je
    have d1:decide ((n:Int)<(m:Int))=false:=decide_eq_false aA;have d1':decide (n<m)=false:=decide_eq_false h1;by_cases h2:m<n/\tl=false
    ·obtain⟨h2,rfl⟩:=h2;obtain rfl:V=false:=by rw[hv3,decide_eq_true h2];simp
     have d2:decide ((m:Int)<(n:Int))=true:=decide_eq_true aA;have d2':decide (m<n)=true:=decide_eq_true h2;clear hv3;rcases hB with ⟨t1,t1'⟩ | ⟨t1,t1',t2,t2'⟩
     all_goals
      exact Je
    have hv4:V=dh x.parts ap:=by
     rw[hv3,d1',Bool.not_false,Bool.true_and];have:(!(decide (m<n)&&!tl))=true:=by
      cases tl
      ·by_cases h3:m<n
       ·exact absurd ⟨h3,rfl⟩ h2
       ·rw[decide_eq_false h3];rfl
      ·simp
     rw[this,Bool.true_and]
    have hD:(decide ((m:Int)<(n:Int))=false/\decide (m<n)=false)\/(decide ((m:Int)<(n:Int))=true/\decide (m<n)=true/\tl=true):=by
     by_cases h3:m<n
     ·right;refine⟨decide_eq_true aA,decide_eq_true h3,?_⟩;cases tl
      ·exact absurd ⟨h3,rfl⟩ h2
      ·rfl
     ·left;exact⟨decide_eq_false aA,decide_eq_false h3⟩
    have HV4:=aB hv4;have hnm:m<=n:=aA;clear hv3 hv4 h2 h1;rcases hB with ⟨t1,t1'⟩ | ⟨t1,t1',t2,t2'⟩ <;> rcases hD with ⟨d2,d2'⟩ | ⟨d2,d2',rfl⟩
    all_goals
     go_enter func127,ntmps127;go_wp2_with (first | (go_at_call 130;refine (HC.out _).mono ?_;rintro e w1 ⟨hb1,A,c,rfl,hR⟩;have HR:=aB hR;clear hR) | (go_at_call 84;refine (HD.out _).mono ?_;rintro e w2 ⟨rfl,hb2⟩;have hX2:gG w2 w1.heap.size cu (.slice A m c) _:=(hb2.block w1.heap.size aF).trans (World.alloc_heap_new _ _)) | (go_at_call 186;refine (HP.out _).mono ?_;rintro e w3 ⟨hb3,B,cb,D,cd,rfl,hB,hD⟩;have HB:=aB hB;clear hB hD;have hX3:gG w3 w1.heap.size cu (.slice A m c) _:=Blk.keep hX2 hb3;obtain⟨x0,x1,x2,_⟩:=hX3.facts;have hz3:w1.heap.size<w3.heap.size:=Blk.lt hX3))
    all_goals (rw[WI];go_wp2)
    all_goals
     have hA0:oI (w3.alloc (.cells #[.string ac,.slice B n cb,.slice D aq.length cd] 200)) w3.heap.size ac B n cb D aq.length cd:=World.alloc_heap_new _ _;have hX4:gG (w3.alloc (.cells #[.string ac,.slice B n cb,.slice D aq.length cd] 200)) w1.heap.size cu (.slice A m c) _:=(Below.heap_alloc _ _ _ hz3).trans hX3;have hb4:Below w.heap.size w (w3.alloc (.cells #[.string ac,.slice B n cb,.slice D aq.length cd] 200)):=aG;have hb5:Below w1.heap.size w1 (w3.alloc (.cells #[.string ac,.slice B n cb,.slice D aq.length cd] 200)):=aG;have hb6:Below w3.heap.size w3 (w3.alloc (.cells #[.string ac,.slice B n cb,.slice D aq.length cd] 200)):=aG;clear x0 x1 x2;go_loopw [8] (fun vi wr=>∃ k:Nat,vi=.int .i64 k/\k<=m/\Hid (∀ j,j<k->∀ y z,x.parts[j]? = some y->ap[j]? = some z->dQ y.kind y.text z=true)/\(∃ t,gG wr w1.heap.size cu (.slice A m c) t)/\oI wr w3.heap.size ac B n cb D aq.length cd/\Below w.heap.size w wr/\Below w1.heap.size w1 wr/\Below w3.heap.size w3 wr) (fun vi _=>m-(intOf vi).toNat)
     case atStart=>exact⟨0,rfl,Nat.zero_le _,aB (fun j h=>absurd h aA),⟨_,hX4⟩,hA0,hb4,hb5,hb6⟩
     case round =>
      clear hX4 hA0 hb4 hb5 hb6;obtain⟨k,rfl,hk,HK,⟨t0,hX⟩,hA,hbr,hbr1,hbr3⟩:=hrel;obtain⟨x0,x1,x2,_⟩:=hX.facts;have a1:wr.cell? ⟨w3.heap.size,1,none⟩=some (.slice B n cb):=Blk.cell hA 1;by_cases hlt:k<m
      ·obtain⟨y,hy⟩:∃ y,x.parts[k]? = some y:=⟨_,List.getElem?_eq_getElem yI⟩;obtain⟨z,hz⟩:∃ z,ap[k]? = some z:=⟨_,List.getElem?_eq_getElem qG⟩;obtain⟨b,o,rfl,hcell⟩:=(HR.out.keep hbr1).2 aA;obtain⟨b2,o2,rfl,hcell2⟩:=(HB.out.keep hbr3).2 aA;have hc1:wr.cell? ⟨b,o+k,none⟩=some (.string (iq y)):=hcell k _ (by rw[List.getElem?_map,aOx _ _ _ hy];rfl);have hc2:wr.cell? ⟨b2,o2+k,none⟩=some (.string z):=hcell2 k _ (by simp[hz]);obtain⟨hyf,hys⟩:=HPS.out y (List.mem_of_getElem? hy);have hzw:=HWD.out z (List.mem_of_getElem? hz);have cM:=fun W=>aNt (iq y) z W aA (by have:=yQ hzw;omega)
       rw[aNz hyf hzw]at cM;have hk0:(0:Int)<=(k:Int):=aA;have hk1:(k:Int)<(m:Int):=aA;have hk2:(k:Int)<(n:Int):=aA;have HY:=aB (show x.parts[k]? = some y/\ap[k]? = some z from⟨hy,hz⟩);generalize iq y=sy at *;clear hcell hcell2 hy hz hyf hzw;cases hh:dQ y.kind y.text z
       ·have hv:V=false:=by
         rw[HV4.out];cases hml:dh x.parts ap
         ·rfl
         ·have:=(Jd x.parts ap (by have:=HM.out;have:=HN.out;omega)).1 hml k y z HY.out.1 HY.out.2;rw[hh]at this;cases this
        subst hv;rw[hh]at cM;have HMM:=aB cM;clear cM hh;go_wp2_with fail;have k1:=cell_regrown hc1;have k2:=cell_regrown hc2;have k3:=cell_regrown x1;have k4:=cell_regrown a1;refine wp_region_quiet_below aC aC ?_;(repeat (any_goals (first | go_big_quiet_step ((first | exact fF HMM.out _ _)) | quiet_step ((first | exact fF HMM.out _ _)))));refine wpQuiet_nil ?_;intro _ hwq;obtain⟨⟨dq,osq⟩,hwq⟩:=hwq;subst hwq;have hb9:=below_regrown (wr) dq osq;generalize grow (redrawn (wr) dq) osq=w9 at *;go_wp2;go_ret;exact⟨rfl,aG⟩
       ·have HK2:Hid (∀ j,j<k+1->∀ y z,x.parts[j]? = some y->ap[j]? = some z->dQ y.kind y.text z=true):=aB (fun j hj y' z' h1 h2=>by
         by_cases e:j=k
         ·subst e;have e1:=HY.out.1.symm.trans h1;have e2:=HY.out.2.symm.trans h2;injection e1 with e1;injection e2 with e2
          rw[<-e1,<-e2];exact hh
         ·exact HK.out j aA y' z' h1 h2)
        rw[hh]at cM;have HMM:=aB cM;clear cM hh HK;go_wp2_with fail;have k1:=cell_regrown hc1;have k2:=cell_regrown hc2;have k3:=cell_regrown x1;have k4:=cell_regrown a1;refine wp_region_quiet_below aC aC ?_;(repeat (any_goals (first | go_big_quiet_step ((first | exact fF HMM.out _ _)) | quiet_step ((first | exact fF HMM.out _ _)))));refine wpQuiet_nil ?_;intro _ hwq;obtain⟨⟨dq,osq⟩,hwq⟩:=hwq;subst hwq;have hb9:=below_regrown (wr) dq osq;generalize grow (redrawn (wr) dq) osq=w9 at *;go_wp2;exact⟨⟨k+1,aj,aA,HK2,⟨t0,Blk.keep hX hb9⟩,Blk.keep hA hb9,aN hbr hb9,aN hbr1 hb9,aN hbr3 hb9⟩,au⟩
      ·obtain rfl:k=m:=aA;have hv:V=true:=by
        rw[HV4.out];exact (Jd x.parts ap (by have:=HM.out;have:=HN.out;omega)).2 (fun j y z h1 h2=>HK.out j (by have:=(List.getElem?_eq_some_iff.1 h1).1;have:=HM.out;omega) y z h1 h2)
       subst hv;go_wp2;go_ret;exact⟨rfl,aG⟩
   cases t1:(cu.toList == [42])
   ·have t1':¬ cu.toList=[42]:=by simpa using t1
    cases t2:(cu.toList==ac.toList)
    ·have t2':¬ cu.toList=ac.toList:=by simpa using t2
     obtain rfl:V=false:=by rw[HV.out,t1,t2];rfl
     exact Je
    ·have t2':cu.toList=ac.toList:=by simpa using t2
     have hv3:V=(!decide (n<m)&&!(decide (m<n)&&!tl)&&dh x.parts ap):=by rw[HV.out,t1,t2];rfl
     exact rest hv3 (.inr ⟨t1,t1',t2,t2'⟩)
   ·have t1':cu.toList=[42]:=by simpa using t1
    have hv3:V=(!decide (n<m)&&!(decide (m<n)&&!tl)&&dh x.parts ap):=by rw[HV.out,t1];rfl
    exact rest hv3 (.inl ⟨t1,t1'⟩)
theorem Jf{α:Type}(lt:α->α->Bool)(right:α->Bool)(l:List α)(k:Nat):okK lt right l k=((match l[k]? with
  | none=>true
  | some x=>right x)&&okK lt (fun _=>true) l k):=by
 unfold okK
 cases l[k]? <;> simp
theorem WJ(right:ByteArray->Bool)(most:Nat)(l:List ByteArray):iZ ltB right most l=(decide (l.length<=most)&&l.all right&&gK l):=by
 unfold iZ gK;rw[Bool.eq_iff_iff];simp only[Bool.and_eq_true,decide_eq_true_eq,List.all_eq_true];constructor
 ·rintro⟨h1,h2⟩;refine⟨⟨h2,fun x hx=>?_⟩,fun k hk=>?_⟩
  ·obtain⟨k,hk,rfl⟩:=List.getElem_of_mem hx;have:=h1 k yY;rw[Jf,List.getElem?_eq_getElem hk,Bool.and_eq_true]at this;exact this.1
  ·have:=h1 k hk;rw[Jf,Bool.and_eq_true]at this;exact this.2
 ·rintro⟨⟨h1,h2⟩,h3⟩;refine⟨fun k hk=>?_,h1⟩;rw[Jf,Bool.and_eq_true];refine⟨?_,h3 k hk⟩;have hk':k<l.length:=yY;rw[List.getElem?_eq_getElem hk'];exact h2 _ (List.getElem_mem hk')
def nM(l:List Int):Bool:=(List.range l.length).all (okK ltI ed l)
theorem aPa{l:List Int}{k:Nat}(hk:k<l.length)(h2:okK ltI ed l k=false):nM l=false:=by
 unfold nM;exact Ij
theorem aPb(c:aZ):bG c=(vW c&&iF c.pat&&decide (c.cl.length<=32)&&decide (c.co.length<=32)&&decide (c.si.length<=64)&&(c.cl.all bI&&c.co.all dm&&nM c.si&&gK c.cl&&gK c.co)):=by
 unfold bG;rw[WJ,WJ];have h3:iZ ltI ed 64 c.si=(nM c.si&&decide (c.si.length<=64)):=rfl;rw[h3];generalize vW c=a1;generalize iF c.pat=a2;generalize decide (c.cl.length<=32)=a3;generalize decide (c.co.length<=32)=a4;generalize decide (c.si.length<=64)=a5;generalize c.cl.all bI=a6;generalize c.co.all dm=a7;generalize nM c.si=a8;generalize gK c.cl=a9;generalize gK c.co=a10;revert a1 a2 a3 a4 a5 a6 a7 a8 a9 a10;decide
theorem Jg(c:aZ)(m:af)(w:World)(hR:bz w c m)(hp:c.pat.size<=100000)(hcl:∀ x∈c.cl,x.size<=100000)(hco:∀ x∈c.co,x.size<=100000)(h1:c.cl.length<=1000000)(h2:c.co.length<=1000000)(h3:c.si.length<=1000000) :
  Calls prog 32 #[af.val c m] w (Ret w (.bool (bG c))):=by
 obtain⟨fr,till,pat,cl,co,si,us⟩:=c;obtain⟨A,ca,B,cb,S,cs⟩:=m;obtain⟨hA,hB,hS⟩:=hR;dsimp only at hA hB hS hp hcl hco h1 h2 h3;unfold af.val;dsimp only;obtain⟨V,hV⟩:∃ V,V=bG ⟨fr,till,pat,cl,co,si,us⟩:=⟨_,rfl⟩;rw[<-hV];rw[aPb]at hV;unfold vW iF at hV;dsimp only at hV;have hva:=fun W=>aOw pat W hp
 have hna:=fun x (hx:x∈cl) W=>sV x W (by have:=hcl x hx;omega)
 have hcy:=fun x (hx:x∈co) W=>Vj x W (by have:=hco x hx;omega)
 have vK:=fun W (hb:Below w.heap.size w W)=>Vq A cl.length ca cl W (hA.keep hb) aA
 have pz:=fun W (hb:Below w.heap.size w W)=>Vq B co.length cb co W (hB.keep hb) aA
 generalize (dF pat).isSome=b1 at *;obtain⟨na,hna0⟩:∃ na,na=cl.length:=⟨_,rfl⟩;obtain⟨nb,hnb0⟩:∃ nb,nb=co.length:=⟨_,rfl⟩;obtain⟨ns,hns0⟩:∃ ns,ns=si.length:=⟨_,rfl⟩;rw[<-hna0]at hA hV h1 vK ⊢;rw[<-hnb0]at hB hV h2 pz ⊢;rw[<-hns0]at hS hV h3 ⊢;have HVA:=aB hva;have HNA:=aB hna;have HCY:=aB hcy;have HAS1:=aB vK;have HAS2:=aB pz;have HA:=aB hA;have HB:=aB hB;have HS:=aB hS;have HLA:=aB hna0;have HLB:=aB hnb0;have HLS:=aB hns0;clear hva hna hcy vK pz hA hB hS hna0 hnb0 hns0 hcl hco hp;by_cases t1:0<=fr;rotate_left
 ·obtain rfl:V=false:=yu;have d1:decide (fr<0)=true:=decide_eq_true aA;clear hV;exact pW
 have d1:decide (fr<0)=false:=decide_eq_false aA;by_cases t2:fr<=1099511627776;rotate_left
 ·obtain rfl:V=false:=by rw[hV];simp[t2]
  have d2:decide (1099511627776<fr)=true:=decide_eq_true aA;clear hV;exact pW
 have d2:decide (1099511627776<fr)=false:=decide_eq_false aA;by_cases t3:0<=till;rotate_left
 ·obtain rfl:V=false:=by rw[hV];simp[t3]
  have d3:decide (till<0)=true:=decide_eq_true aA;clear hV;exact pW
 have d3:decide (till<0)=false:=decide_eq_false aA;by_cases t4:till<=1099511627777;rotate_left
 ·obtain rfl:V=false:=by rw[hV];simp[t4]
  have d4:decide (1099511627777<till)=true:=decide_eq_true aA;clear hV;exact pW
 have d4:decide (1099511627777<till)=false:=decide_eq_false aA;by_cases t5:0<=us;rotate_left
 ·obtain rfl:V=false:=by rw[hV];simp[t5]
  have d5:decide (us<0)=true:=decide_eq_true aA;clear hV;exact pW
 have d5:decide (us<0)=false:=decide_eq_false aA;by_cases t6:us<=1073741824;rotate_left
 ·obtain rfl:V=false:=by rw[hV];simp[t6]
  have d6:decide (1073741824<us)=true:=decide_eq_true aA;clear hV;exact pW
 have d6:decide (1073741824<us)=false:=decide_eq_false aA;have hV2:V=((decide (pat.size=0)||b1)&&decide (na<=32)&&decide (nb<=32)&&decide (ns<=64)&&(cl.all bI&&co.all dm&&nM si&&gK cl&&gK co)):=by rw[hV];simp[t1,t2,t3,t4,t5,t6]
 clear hV;have hpc:(pat.size=0/\pat.toList=[]/\(pat.toList != [])=false)\/(pat.size≠0/\¬ pat.toList=[]/\(pat.toList != [])=true):=by
  by_cases h:pat.size=0
  ·have e:pat.toList=[]:=Jh;exact .inl ⟨h,e,tC⟩
  ·have e:¬ pat.toList=[]:=fun e=>h vN
   exact .inr ⟨h,e,by simpa using e⟩
 have hb1:(pat.size≠0/\b1=false)\/(pat.size=0\/b1=true):=by
  by_cases h:pat.size=0
  ·exact .inr (.inl h)
  ·cases b1
   ·exact .inl ⟨h,rfl⟩
   ·exact .inr (.inr rfl)
 rcases hb1 with ⟨hs,rfl⟩ | hb1
 ·rcases hpc with ⟨hs2,_⟩ | ⟨_,hn,hn2⟩
  ·exact absurd hs2 hs
  obtain rfl:V=false:=by rw[hV2];simp[hs]
  clear hV2 hs;exact pW
 have hV3:V=(decide (na<=32)&&decide (nb<=32)&&decide (ns<=64)&&(cl.all bI&&co.all dm&&nM si&&gK cl&&gK co)):=by
  rw[hV2];rcases hb1 with h | h <;> simp[h]
 clear hV2;have hpd:(pat.toList=[]/\(pat.toList != [])=false)\/(b1=true/\¬ pat.toList=[]/\(pat.toList != [])=true):=by
  rcases hpc with ⟨h1,h2⟩ | ⟨h1,h2⟩
  ·exact .inl h2
  ·rcases hb1 with h | h
   ·exact absurd h h1
   ·exact .inr ⟨h,h2⟩
 clear hpc hb1;rcases hpd with ⟨hn,hn2⟩ | ⟨rfl,hn,hn2⟩
 all_goals
  by_cases t7:na<=32;rotate_left
  ·obtain rfl:V=false:=by rw[hV3];simp[t7]
   have d7:decide ((32:Int)<(na:Int))=true:=decide_eq_true aA;clear hV3;exact pW
  have d7:decide ((32:Int)<(na:Int))=false:=decide_eq_false aA;by_cases t8:nb<=32;rotate_left
  ·obtain rfl:V=false:=by rw[hV3];simp[t8]
   have d8:decide ((32:Int)<(nb:Int))=true:=decide_eq_true aA;clear hV3;exact pW
  have d8:decide ((32:Int)<(nb:Int))=false:=decide_eq_false aA;by_cases t9:ns<=64;rotate_left
  ·obtain rfl:V=false:=by rw[hV3];simp[t9]
   have d9:decide ((64:Int)<(ns:Int))=true:=decide_eq_true aA;clear hV3;exact pW
  have d9:decide ((64:Int)<(ns:Int))=false:=decide_eq_false aA;have hv4:V=(cl.all bI&&co.all dm&&nM si&&gK cl&&gK co):=by rw[hV3];simp[t7,t8,t9]
  have HV:=aB hv4;clear hV3 hv4;go_enter func32,ntmps32;go_wp2_with (go_at_call 66;refine (HVA.out _).mono ?_;rintro e w2 ⟨rfl,hb2⟩;(have hX2:aV w2 w.heap.size fr till pat A na ca B nb cb S ns cs us:=WL;obtain⟨x0,x1,x2,x3,x4,x5,x6⟩:=hX2.facts));go_loopw [3] (fun vi wr=>∃ k:Nat,vi=.int .i64 k/\k<=na/\Hid ((cl.take k).all bI=true)/\aV wr w.heap.size fr till pat A na ca B nb cb S ns cs us/\Below w.heap.size w wr) (fun i _=>na-(intOf i).toNat)
  case atStart=>exact⟨0,rfl,Nat.zero_le _,aB aF,(by first | exact hX2 | exact World.alloc_heap_new _ _),aG⟩
  case round =>
   try clear hX2
   try clear hb2
   clear d1 d2 d3 d4 d5 d6 d7 d8 d9 hn hn2;obtain⟨k,rfl,hk,HK,hX,hbr⟩:=hrel;obtain⟨x0,x1,x2,x3,x4,x5,x6⟩:=hX.facts;by_cases hlt:k<na
   ·obtain⟨x,hx⟩:∃ x,cl[k]? = some x:=⟨_,List.getElem?_eq_getElem (by have:=HLA.out;omega)⟩;obtain⟨b,o,rfl,hcell⟩:=(HA.out.keep hbr).2 aA;have hc1:wr.cell? ⟨b,o+k,none⟩=some (.string x):=hcell k _ dL;have hk0:(0:Int)<=(k:Int):=aA;have hk1:(k:Int)<(na:Int):=aA;have cN:=HNA.out x (List.mem_of_getElem? hx);cases hs:bI x
    ·obtain rfl:V=false:=by rw[HV.out,Dx hx hs];rfl
     rw[hs]at cN;have HC:=aB cN;clear hcell hx HK hs cN;go_wp2_with (go_at_call 50;refine (HC.out _).mono ?_;rintro e w2 ⟨rfl,hb2⟩);go_ret;exact⟨rfl,aG⟩
    ·have HK2:Hid ((cl.take (k+1)).all bI=true):=aB (Dw HK.out hx hs);rw[hs]at cN;have HC:=aB cN;clear hcell hx HK hs cN;go_wp2_with (go_at_call 50;refine (HC.out _).mono ?_;rintro e w2 ⟨rfl,hb2⟩);exact⟨⟨k+1,aj,aA,HK2,Blk.keep hX hb2,aG⟩,au⟩
   ·obtain rfl:k=na:=aA;have hall:cl.all bI=true:=by
     have:=HK.out
     rwa [List.take_of_length_le (by have:=HLA.out;omega)]at this
    have hv5:V=(co.all dm&&nM si&&gK cl&&gK co):=JI;have HV2:=aB hv5;clear hall hv5 HK HV HNA;go_wp2;clear x0 x1 x2 x3 x4 x5 x6;obtain⟨wo,rfl⟩:∃ wo:World,wo=wr:=⟨_,rfl⟩;go_loopw [4] (fun vi wz=>∃ j:Nat,vi=.int .i64 j/\j<=nb/\Hid ((co.take j).all dm=true)/\aV wz w.heap.size fr till pat A k ca B nb cb S ns cs us/\Below w.heap.size w wz) (fun i _=>nb-(intOf i).toNat)
    case atStart=>exact⟨0,rfl,Nat.zero_le _,aB aF,hX,hbr⟩
    case round =>
     clear hX hbr;obtain⟨j,rfl,hj,HJ,hX,hbr⟩:=hrel;obtain⟨x0,x1,x2,x3,x4,x5,x6⟩:=hX.facts;by_cases hlt2:j<nb
     ·obtain⟨x,hx⟩:∃ x,co[j]? = some x:=⟨_,List.getElem?_eq_getElem (by have:=HLB.out;omega)⟩;obtain⟨b,o,rfl,hcell⟩:=(HB.out.keep hbr).2 aA;have hc1:wr.cell? ⟨b,o+j,none⟩=some (.string x):=hcell j _ dL;have hj0:(0:Int)<=(j:Int):=aA;have hj1:(j:Int)<(nb:Int):=aA;have cN:=HCY.out x (List.mem_of_getElem? hx);cases hs:dm x
      ·obtain rfl:V=false:=by rw[HV2.out,Dx hx hs];rfl
       rw[hs]at cN;have HC:=aB cN;clear hcell hx HJ hs cN;go_wp2_with (go_at_call 67;refine (HC.out _).mono ?_;rintro e w2 ⟨rfl,hb2⟩);go_ret;exact⟨rfl,aG⟩
      ·have HJ2:Hid ((co.take (j+1)).all dm=true):=aB (Dw HJ.out hx hs);rw[hs]at cN;have HC:=aB cN;clear hcell hx HJ hs cN;go_wp2_with (go_at_call 67;refine (HC.out _).mono ?_;rintro e w2 ⟨rfl,hb2⟩);exact⟨⟨j+1,aj,aA,HJ2,Blk.keep hX hb2,aG⟩,au⟩
     ·obtain rfl:j=nb:=aA;have hall:co.all dm=true:=by
       have:=HJ.out
       rwa [List.take_of_length_le (by have:=HLB.out;omega)]at this
      have hv6:V=(nM si&&gK cl&&gK co):=by rw[HV2.out,hall,Bool.true_and]
      have HV3:=aB hv6;clear hall hv6 HJ HV2 HCY;go_wp2;clear x0 x1 x2 x3 x4 x5 x6;obtain⟨wo2,rfl⟩:∃ wo2:World,wo2=wr:=⟨_,rfl⟩;go_loopw [5] (fun vi wz=>∃ i:Nat,vi=.int .i64 i/\i<=ns/\Hid ((List.range i).all (okK ltI ed si)=true)/\aV wz w.heap.size fr till pat A k ca B j cb S ns cs us/\Below w.heap.size w wz) (fun i _=>ns-(intOf i).toNat)
      case atStart=>exact⟨0,rfl,Nat.zero_le _,aB rfl,hX,hbr⟩
      case round =>
       clear hX hbr;obtain⟨i,rfl,hi,HI,hX,hbr⟩:=hrel;obtain⟨x0,x1,x2,x3,x4,x5,x6⟩:=hX.facts;by_cases hlt3:i<ns
       ·obtain⟨x,hx⟩:∃ x,si[i]? = some x:=⟨_,List.getElem?_eq_getElem (by have:=HLS.out;omega)⟩;obtain⟨b,o,rfl,hcell⟩:=(HS.out.keep hbr).2 aA;have hc1:wr.cell? ⟨b,o+i,none⟩=some (.int .i64 x):=hcell i _ dL;have hi0:(0:Int)<=(i:Int):=aA;have hi1:(i:Int)<(ns:Int):=aA;have hok:okK ltI ed si i=(ed x&&(i==0||(match si[i-1]? with
         | none=>true
         | some y=>ltI y x))):=by unfold okK;rw[hx];cases si[i-1]? <;> rfl
        have hfail:okK ltI ed si i=false->V=false:=fun h=>by rw[HV3.out,aPa (by have:=HLS.out;omega) h];rfl
        by_cases s0:0<=x;rotate_left
        ·obtain rfl:V=false:=hfail (by rw[hok];unfold ed;simp[s0]);have e0:decide (x<0)=true:=decide_eq_true aA;clear hcell hx HI hok hfail;exact sQ
        have e0:decide (x<0)=false:=decide_eq_false aA;by_cases s1:x<64;rotate_left
        ·obtain rfl:V=false:=hfail (by rw[hok];unfold ed;simp[s1]);have e1:decide (64<=x)=true:=decide_eq_true aA;clear hcell hx HI hok hfail;exact sQ
        have e1:decide (64<=x)=false:=decide_eq_false aA;have hsx:ed x=true:=decide_eq_true ⟨s0,s1⟩;rw[hsx,Bool.true_and]at hok;rcases i with _ | i
        ·have HI2:Hid ((List.range (0+1)).all (okK ltI ed si)=true):=aB (uK HI.out (by rw[hok];rfl));simp only[Nat.add_zero]at hc1;clear hcell hx HI hok hfail;go_wp2_with fail;go_quiet (fail);go_wp2;exact⟨⟨1,aj,aA,HI2,Blk.keep hX aG,aG⟩,au⟩
        ·obtain⟨y,hy⟩:∃ y,si[i]? = some y:=⟨_,List.getElem?_eq_getElem (by have:=HLS.out;omega)⟩;have hc2:wr.cell? ⟨b,o+i,none⟩=some (.int .i64 y):=hcell i _ pg;have hle:=Ot x y;rw[Nat.add_sub_cancel,hy]at hok;have hok2:okK ltI ed si (i+1)=ltI y x:=by rw[hok];simp
         have hii0:(0:Int)<=(i:Int):=aA;have hii1:(i:Int)<(ns:Int):=aA;cases ht:ltI y x
         ·obtain rfl:V=false:=hfail (by rw[hok2,ht]);rw[ht]at hle;clear hcell hx HI hok hok2 hfail hy ht;exact sQ
         ·have HI2:Hid ((List.range (i+1+1)).all (okK ltI ed si)=true):=aB (uK HI.out (by rw[hok2,ht]));rw[ht]at hle;clear hcell hx HI hok hok2 hfail hy ht;go_wp2_with fail;go_quiet (fail);go_wp2;exact⟨⟨i+1+1,aj,aA,HI2,Blk.keep hX aG,aG⟩,au⟩
       ·obtain rfl:i=ns:=aA;have hall:nM si=true:=by
         unfold nM;rw[<-HLS.out];exact HI.out
        have hv7:V=(gK cl&&gK co):=by rw[HV3.out,hall,Bool.true_and]
        have c1:=HAS1.out;have c2:=HAS2.out;obtain⟨a1,ha1⟩:∃ x,x=gK cl:=⟨_,rfl⟩;obtain⟨a2,ha2⟩:∃ x,x=gK co:=⟨_,rfl⟩;rw[<-ha1]at hv7 c1;rw[<-ha2]at hv7 c2;clear hall HI HV3 HAS1 HAS2 ha1 ha2;cases a1
        ·obtain rfl:V=false:=hv7;have C1:=aB c1;clear c1 c2;go_wp2_with (go_at_call 68;refine (C1.out _ aG).mono ?_;rintro e w2 ⟨rfl,hb2⟩);go_ret;exact⟨rfl,aG⟩
        ·obtain rfl:V=a2:=hv7;have C1:=aB c1;have C2:=aB c2;clear c1 c2;go_wp2_with (go_at_call 68;first | (refine (C1.out _ aG).mono ?_;clear C1;rintro e w2 ⟨rfl,hb2⟩;have hX2:=Blk.keep hX hb2;obtain⟨y0,y1,y2,y3,y4,y5,y6⟩:=aV.facts hX2) | (refine (C2.out _ aG).mono ?_;rintro e w3 ⟨rfl,hb3⟩));go_ret;exact⟨rfl,aG⟩
def xX(d:Nat):ByteArray:=⟨#[UInt8.ofNat (48+d)]⟩
theorem WM(d:Nat):(xX d).size=1:=rfl
theorem WN(W:World)(d c:Nat)(hd:d<10)(g:Nat)(hg:g=W.heap.size)(a:Int)(ha:a=48+(d:Int)) :
  (convert 105 9 (.slice (some ⟨g,0,none⟩) 1 c)).run prog (W.alloc (.cells #[.int .u8 a] 5))=.ok (.string (xX d)) (W.alloc (.cells #[.int .u8 a] 5)):=by
 subst hg;subst ha;have hx:Blk (W.alloc (.cells #[.int .u8 (48+(d:Int))] 5)) W.heap.size 5 #[.int .u8 (48+(d:Int))] (0,0):=World.alloc_heap_new _ _;refine run_convert_bytes_back _ _ _ 5 ⟨W.heap.size,0,none⟩ c [UInt8.ofNat (48+d)] underlying105 underlying5 underlying9 (fun j hj=>?_);have e1:=aLy (48+d) aA;rw[show (⟨W.heap.size,0,none⟩:Addr).add j=⟨W.heap.size,0+j,none⟩ by unfold Addr.add;split <;> simp_all];rcases j with _ | j
 ·have:=hx.cell 0;simp only[List.getElem_cons_zero];rw[e1];simp
 ·simp at hj
theorem aPc(m:Nat)(h:¬ m<10)(t:ByteArray):(⟨(Lib.decDigits (m / 10)).toArray⟩:ByteArray)++(xX (m % 10)++t)=(⟨(Lib.decDigits m).toArray⟩:ByteArray)++t:=by
 refine dP ?_
 conv=>rhs;rw[Lib.decDigits,dif_neg h]
 simp[xX]
theorem aPd(m:Nat)(h:m<10):xX m=⟨(Lib.decDigits m).toArray⟩:=by
 rw[Lib.decDigits,dif_pos h];rfl
theorem EN(n:Nat)(w:World)(hn:n<=9223372036854775807):Calls prog 59 #[.int .i64 (n:Int)] w (Ret w (.string (ae (n:Int)))):=by
 have hI:ae (n:Int)=⟨(Lib.decDigits n).toArray⟩:=dP (by rw[wF _ aA];simp);rw[hI];clear hI;have hlen:(Lib.decDigits n).length<=20:=by rw[Lib.decDigits_length];exact Lib.nDigits_le20 n aA
 go_enter func59,ntmps59;go_wp2;go_loopw [0,3] (fun vn vo wr=>∃(m:Nat)(t:ByteArray),vn=.int .i64 (m:Int)/\vo=.string t/\m<=9223372036854775807/\Hid ((⟨(Lib.decDigits m).toArray⟩:ByteArray)++t=⟨(Lib.decDigits n).toArray⟩)/\Below w.heap.size w wr) (fun i _ _=>(intOf i).toNat)
 case atStart=>exact⟨n,⟨#[]⟩,rfl,rfl,hn,aB (dP aF),Below.refl _ _⟩
 case round =>
  obtain⟨m,t,rfl,rfl,hm,HK,hbr⟩:=hrel;have hts:t.size<=20:=by
   have h1:=congrArg (fun x:ByteArray=>x.data.toList.length) HK.out;simp at h1;have:t.size=t.data.size:=rfl;omega
  by_cases hlt:m<10
  ·have hcv:=fun c=>WN wr m c hlt wr.heap.size rfl _ rfl
   have hv:xX m++t=⟨(Lib.decDigits n).toArray⟩:=by rw[aPd m hlt];exact HK.out
   have HV:=aB hv;have d1:decide ((10:Int)<=(m:Int))=false:=decide_eq_false aA;have b1:(m:Int)<=9:=aA;have z1:=WM m;have n1:¬ 9223372036854775807<1+t.size:=aA;clear HK hv;go_wp2;go_ret;exact⟨Jz HV.out,aG⟩
  ·have hcv:=fun c=>WN wr (m % 10) c aA wr.heap.size rfl (48+(m:Int) % 10) aA
   have HV:=aB ((aPc m hlt t).trans HK.out);have d1:decide ((10:Int)<=(m:Int))=true:=decide_eq_true aA;have b3:(m:Int) % 10<=9:=aA;have b4:0<=(m:Int) % 10:=aA;have z1:=WM (m % 10);have n1:¬ 9223372036854775807<1+t.size:=aA;clear HK;go_wp2;exact⟨⟨m / 10,_,aj,rfl,aA,HV,aG⟩,au⟩
def zu(l:List ByteArray):ByteArray:=if l=[] then ⟨#[126]⟩ else jh l
theorem Ji{l:List ByteArray}(h:∀ x∈l,x.size≠0):zu l=dN l:=by
 unfold zu dN orT;cases l with
 | nil=>rfl
 | cons x r =>
  obtain⟨b,t,hb,he⟩:=QE (r:=r) (h x aF);have hs:¬ (jh (x :: r)).size=0:=by rw[Lib.size_eq,he];simp
  rw[if_neg aF,if_neg hs]
theorem Jj(A:Option Addr)(n c:Nat)(l:List ByteArray)(w:World)(hR:aH w 1 A n (l.map .string))(hn:n<=1000000)(htot:(Lib.join (bD l) [44]).length<=1000000000)(hsz:∀ x∈l,x.size<=1000000000):Calls prog 190 #[.slice A n c] w (Ret w (.string (zu l))):=by
 have hl:l.length=n:=vH;obtain⟨V,hV⟩:∃ V,V=zu l:=⟨_,rfl⟩;rw[<-hV];unfold zu at hV;by_cases h0:n=0
 ·subst h0;obtain rfl:l=[]:=List.eq_nil_of_length_eq_zero hl;obtain rfl:V=⟨#[126]⟩:=hV;go_enter func190,ntmps190;go_wp2;go_ret;exact⟨rfl,aG⟩
 have hne:l ≠ []:=by intro e;rw[e]at hl;simp at hl;omega
 rw[if_neg hne]at hV;have hend:V=mF l n:=by rw[hV,<-hl,aNi];rfl
 obtain⟨x0,hx0⟩:∃ x,l[0]? = some x:=⟨_,List.getElem?_eq_getElem aA⟩;have hz0:((n:Int)==0)=false:=aJ;have hfst:=aNf l x0 hx0;have HR:=aB hR;obtain⟨b0,o0,rfl,hcell0⟩:=hR.2 aA;have hc0:w.cell? ⟨b0,o0,none⟩=some (.string x0):=hcell0 0 _ (by simp[hx0]);have hn0:(0:Int)<(n:Int):=aA;have HL:=aB hl;have HE:=aB hend;have HT:=aB htot;have HS:=aB hsz;have HF:=aB hfst;clear hl hend htot hsz hR hV hne hcell0 hx0 hfst;go_enter func190,ntmps190;go_wp2;go_loopw [3,4] (fun vs vi wr=>∃ k:Nat,vi=.int .i64 (k+1:Nat)/\k+1<=n/\vs=.string (mF l (k+1))/\Below w.heap.size w wr) (fun _ i _=>n-(intOf i).toNat)
 case atStart=>exact⟨0,rfl,aA,by rw[HF.out],Below.refl _ _⟩
 case round =>
  clear hc0;obtain⟨k,rfl,hk,rfl,hbr⟩:=hrel;by_cases hlt:k+1<n
  ·obtain⟨x,hx⟩:∃ x,l[k+1]? = some x:=⟨_,List.getElem?_eq_getElem dR⟩;obtain⟨b,o,hbo,hcell⟩:=(HR.out.keep hbr).2 aA;injection hbo with hbo
   injection hbo with e1 e2
   subst e1;subst e2;have hc1:wr.cell? ⟨b0,o0+(k+1),none⟩=some (.string x):=hcell (k+1) _ dL;have hz1:(mF l (k+1)).size<=1000000000:=Nat.le_trans (aNh l (k+1)) HT.out;have hz2:x.size<=1000000000:=HS.out x (List.mem_of_getElem? hx);have hk0:(0:Int)<=(k:Int):=aA;have hk1:(k:Int)+1<(n:Int):=aA;have HJ:=aB (aNg l (k+1) x aA hx);generalize mF l (k+1)=S at *;clear hcell hx;have n1:¬ 9223372036854775807<S.size+1:=aA;have n2:¬ 9223372036854775807<S.size+1+x.size:=aA;go_wp2;exact⟨⟨k+1,aj,aA,congrArg Value.string HJ.out,hbr⟩,au⟩
  ·obtain rfl:k+1=n:=aA;have he:=HE.out;rw[<-he];go_wp2;go_ret;exact⟨rfl,hbr⟩
theorem aPe(a:bn)(w:World)(h1:a.addr.size<=100000)(h2:a.client.size<=100000)(h3:a.country.size<=100000):Calls prog 39 #[bn.val a] w (Ret w (.bool (nC a))):=by
 obtain⟨ad,cl,co,si,lo,hi⟩:=a;dsimp only at h1 h2 h3;unfold bn.val;dsimp only;obtain⟨V,hV⟩:∃ V,V=nC ⟨ad,cl,co,si,lo,hi⟩:=⟨_,rfl⟩;rw[<-hV];unfold nC ed at hV;dsimp only at hV;have c1:=fun W=>WG ad W aA
 have c2:=fun W=>sV cl W aA
 have c3:=fun W=>Vj co W aA
 generalize iK ad=b1 at *;generalize bI cl=b2 at *;generalize dm co=b3 at *;have C1:=aB c1;have C2:=aB c2;have C3:=aB c3;clear c1 c2 c3 h1 h2 h3;cases b1
 ·obtain rfl:V=false:=by rw[hV];rfl
  exact su
 cases b2
 ·obtain rfl:V=false:=by rw[hV];rfl
  exact su
 cases b3
 ·obtain rfl:V=false:=by rw[hV];rfl
  exact su
 by_cases t1:0<=si;rotate_left
 ·obtain rfl:V=false:=yu;have d1:decide (0<=si)=false:=decide_eq_false t1;exact su
 have d1:decide (0<=si)=true:=decide_eq_true t1;by_cases t2:si<64;rotate_left
 ·obtain rfl:V=false:=by rw[hV];simp[t2]
  have d2:decide (si<64)=false:=decide_eq_false t2;exact su
 have d2:decide (si<64)=true:=decide_eq_true t2;by_cases t3:0<=lo;rotate_left
 ·obtain rfl:V=false:=by rw[hV];simp[t3]
  have d3:decide (0<=lo)=false:=decide_eq_false t3;exact su
 have d3:decide (0<=lo)=true:=decide_eq_true t3;by_cases t4:lo<=hi;rotate_left
 ·obtain rfl:V=false:=by rw[hV];simp[t4]
  have d4:decide (lo<=hi)=false:=decide_eq_false t4;exact su
 have d4:decide (lo<=hi)=true:=decide_eq_true t4;obtain rfl:V=decide (hi<=1099511627776):=by rw[hV];simp[t1,t2,t3,t4]
 exact su
end Go.Proofs.YtlkbkclnbppigaaGreatDoor
