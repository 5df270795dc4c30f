/- What 'Match' returns. -/
import Derived.Test.YtlkbkclnbppigaaGreatDoorIZ13
set_option maxHeartbeats 4000000
namespace Go.Proofs.YtlkbkclnbppigaaGreatDoor
open Tryz
open Go.RowKit Go.Sort
set_option linter.unusedVariables false
set_option linter.unusedSimpArgs false
set_option maxRecDepth 100000
structure kQ(p:Pat):Prop where
 kind:p.cust.kind<=2
 text:p.cust.text.size<=100000
 parts:oZ p.parts
 num:p.parts.length<=32
theorem Gl:∀(l:List aC)(acc:List bI)(r:List bI × Bool),(∀ x∈l,x.size<=100000)->oZ acc->dK l acc=some r->oZ r.1/\r.1.length<=acc.length+l.length
 | [],acc,r,_,h,e=>by simp[dK]at e;subst e;exact⟨h,aH⟩
 | w :: l,acc,r,hl,h,e=>by
  rw[dK]at e;split at e
  ·injection e with e;subst e;exact⟨h,aH⟩
  ·split at e
   ·have hw:=hl w aH;have:=Gl l (acc++[dG w]) r (fun x hx=>hl x gB) (by
     intro x hx;rcases List.mem_append.1 hx with hx | hx
     ·exact h x hx
     ·rw[List.mem_singleton.1 hx];exact⟨Fq w,Nat.le_trans (Fv w) hw⟩) e
    refine⟨this.1,?_⟩;have h2:=this.2;simp at h2 ⊢;omega
   ·cases e
theorem ul(s:aC)(hs:s.size<=100000)(p:Pat)(h:dI s=some p):kQ p:=by
 unfold dI at h;have hsz:=oU 47 s;generalize splitB 47 s=l at *;cases l with
 | nil=>cases h
 | cons l0 r =>
  simp only[rV]at h;split at h
  ·rename_i hc;rw[Bool.and_eq_true,decide_eq_true_eq]at hc;cases hq:dK r [] with
   | none=>rw[hq]at h;cases h
   | some x =>
    rw[hq,Option.map_some]at h;injection h with h
    subst h;have h0:=hsz l0 aH;have:=Gl r [] x (fun y hy=>Nat.le_trans (hsz y qH) hs) (fun y hy=>by cases hy) hq;exact⟨Fq l0,by have:=Fv l0;show (dG l0).text.size<=_;omega,this.1,by have h1:=hc.1;have h2:=this.2;show x.1.length<=32;simp at h2;omega⟩
  ·cases h
def eH:List bI->List aC->Bool
 | [],_=>true
 | p :: ps,w :: ws=>dW p.kind p.text w&&eH ps ws
 | _ :: _,[]=>false
def mG(x:Pat)(a:Adr):Bool :=
 dW x.cust.kind x.cust.text a.cust&&!decide (a.path.length<x.parts.length)&&!(decide (x.parts.length<a.path.length)&&!x.tail)&&eH x.parts a.path
def qO(p q:aC):Bool:=match dI p with
 | none=>false
 | some x=>qJ q&&mG x (dB q).1
theorem TF(p q:aC)(w:World)(hp:p.size<=100000)(hq:q.size<=100000)(hE:Env w):Calls prog 86 #[.string p,.string q] w (Ret w (.bool (qO p q))):=by
 have c1:=fun W h=>xU p W hp h
 have c2:=fun W h=>RN q W aB h
 have hg:=ul p hp;unfold qO;have hcs:(dB q).1.cust.size<=100000/\(dB q).1.path.length<=32/\∀ x∈(dB q).1.path,x.size<=64:=by
  rcases zn q with h | h | h
  ·have:=Ai q h;exact⟨by have:=rH this.name;omega,this.parts,fun x hx=>xm (this.words x hx)⟩
  all_goals rw[Gm q aB];exact⟨aK,aK,by simp[mJ]⟩
 generalize dI p=r at *;generalize qJ q=k2 at *;generalize (dB q).1=a at *;obtain⟨ac,ap,aq⟩:=a;dsimp only at hcs;obtain⟨hac,hap,hapz⟩:=hcs;have HD:=aA c2;have HC:=aA c1;clear c1 c2;cases r with
 | none =>
  clear hg;dsimp only;go_enter func86,ntmps86;go_wp2_with (first | (go_at_call 147;refine (HC.out _ hE).mono ?_;rintro e w1 ⟨hb1,k,t,A,n,c,b,rfl⟩) | (go_at_call 148;refine (HD.out _ (Env.keep (Env.keep hE hb1) (aU (Below.refl _ _) _))).mono ?_;rintro e w2 ⟨hb2,B,cb,D,cd,rfl,hRq,_⟩;obtain⟨hc2,hf2⟩:=bT hb2;have hz2:w1.heap.size<w2.heap.size:=um));go_ret;exact⟨rfl,aJ⟩
 | some x =>
  obtain⟨h1,h2,h3,h4⟩:=hg x rfl;clear hg;obtain⟨⟨kd,tx⟩,ps,tl⟩:=x;dsimp only at h1 h2 h3 h4 ⊢;unfold mG;dsimp only;obtain⟨n,hn⟩:∃ n,n=ps.length:=⟨_,rfl⟩;obtain⟨na,hna⟩:∃ na,na=ap.length:=⟨_,rfl⟩;rw[<-hn,<-hna];have HC':Hid (∀ W,Env W->Calls prog 147 #[.string p] W fun e w'=>aF W w'/\∃ A c,e=.returned (.tuple #[.agg #[.int .i64 kd,.string tx,.slice A n c,.bool tl],.bool true])/\aI w' 2 A n (eG ps)):=aA (fun W h=>by rw[hn];exact (HC.out W h).mono (by rintro e w' ⟨hb,A,c,rfl,hR,_⟩;exact⟨hb,A,c,rfl,hR⟩));have HD':Hid (∀ W,Env W->Calls prog 148 #[.string q] W fun e w'=>aF W w'/\∃ B cb D cd,e=.returned (.tuple #[.agg #[.string ac,.slice B na cb,.slice D aq.length cd],.bool k2])/\aI w' 1 B na (ap.map .string)/\True):=aA (fun W h=>(HD.out W h).mono (by
   rintro e w' ⟨hb,A,ca,B,cb,rfl,h5,h6⟩;rw[hna];exact⟨hb,A,ca,B,cb,rfl,h5,trivial⟩))
  have HN:=aA hn;have HNA:=aA hna;rw[<-hn]at h4;rw[<-hna]at hap;clear HC HD hn hna;have HC:=HC';have HD:=HD';clear HC' HD';have cH:=fun W=>Aj kd tx ac W aB aB h1
  generalize dW kd tx ac=k3 at *;have HH:=aA cH;clear cH;cases k2
  ·simp only[Bool.false_and];go_enter func86,ntmps86;go_wp2_with (first | (go_at_call 147;refine (HC.out _ hE).mono ?_;rintro e w1 ⟨hb1,A,c,rfl,hRp⟩) | (go_at_call 148;refine (HD.out _ (Env.keep (Env.keep hE hb1) (aU (Below.refl _ _) _))).mono ?_;rintro e w2 ⟨hb2,B,cb,D,cd,rfl,hRq,_⟩;obtain⟨hc2,hf2⟩:=bT hb2;have hz2:w1.heap.size<w2.heap.size:=um));go_ret;exact⟨rfl,aJ⟩
  cases k3
  ·simp only[Bool.false_and,Bool.and_false];exact Ak
  by_cases hlt:na<n
  ·have hd1:decide ((na:Int)<(n:Int))=true:=aP;rw[show decide (na<n)=true by simpa using hlt];simp only[Bool.not_true,Bool.and_false,Bool.false_and];exact Ak
  have hd1:decide ((na:Int)<(n:Int))=false:=aP;rw[show decide (na<n)=false by simpa using hlt];simp only[Bool.not_false,Bool.and_true,Bool.true_and];have hrest:(n<na/\tl=false)\/(¬ n<na)\/(n<na/\tl=true):=by cases tl <;> simp <;> omega
  rcases hrest with ⟨hgt,rfl⟩ | hgt | ⟨hgt,rfl⟩
  ·have hd2:decide ((n:Int)<(na:Int))=true:=aP;rw[show decide (n<na)=true by simpa using hgt];simp only[Bool.not_false,Bool.and_self,Bool.not_true,Bool.false_and];exact Ak
  ·have hd2:decide ((n:Int)<(na:Int))=false:=aP;rw[show decide (n<na)=false by simpa using hgt];simp only[Bool.false_and,Bool.not_false,Bool.true_and];generalize hres:eH ps ap=res;have HRES:=aA hres;clear hres;go_enter func86,ntmps86;go_wp2_with (first | (go_at_call 147;refine (HC.out _ hE).mono ?_;rintro e w1 ⟨hb1,A,c,rfl,hRp⟩) | (go_at_call 148;refine (HD.out _ (Env.keep (Env.keep hE hb1) (aU (Below.refl _ _) _))).mono ?_;rintro e w2 ⟨hb2,B,cb,D,cd,rfl,hRq,_⟩;obtain⟨hc2,hf2⟩:=bT hb2;have hz2:w1.heap.size<w2.heap.size:=um) | (go_at_call 149;refine (HH.out _).mono ?_;rintro e w3 ⟨rfl,hb3⟩;obtain⟨hc3,hf3⟩:=bT hb3;have hz3:w2.heap.size<w3.heap.size:=xn));have y2:w3.cell? ⟨w2.heap.size,1,none⟩=some (.slice B na cb):=(hc3 _ _ aH).trans iD;have hRp3:aI w3 2 A n (eG ps):=hRp.keep aJ;have hRq3:aI w3 1 B na (ap.map .string):=hRq.keep aJ;have hbw3:aF w w3:=aJ;have hnna:n<=na:=aB;clear hc2 hf2 hc3 hf3 hRp hRq;go_loopw [61] (fun vi wr=>∃ k:Nat,(vi=.int .i64 k/\k<=n)/\Hid (eH (ps.drop k) (ap.drop k)=res)/\aF w3 wr) (fun vi _=>n-(intOf vi).toNat)
   case atStart=>exact⟨0,⟨rfl,Nat.zero_le _⟩,HRES,Below.refl _ _⟩
   case round =>
    exact Gn
  ·have hd2:decide ((n:Int)<(na:Int))=true:=aP;rw[show decide (n<na)=true by simpa using hgt];simp only[Bool.not_true,Bool.and_false,Bool.not_false,Bool.true_and];generalize hres:eH ps ap=res;have HRES:=aA hres;clear hres;go_enter func86,ntmps86;go_wp2_with (first | (go_at_call 147;refine (HC.out _ hE).mono ?_;rintro e w1 ⟨hb1,A,c,rfl,hRp⟩) | (go_at_call 148;refine (HD.out _ (Env.keep (Env.keep hE hb1) (aU (Below.refl _ _) _))).mono ?_;rintro e w2 ⟨hb2,B,cb,D,cd,rfl,hRq,_⟩;obtain⟨hc2,hf2⟩:=bT hb2;have hz2:w1.heap.size<w2.heap.size:=um) | (go_at_call 149;refine (HH.out _).mono ?_;rintro e w3 ⟨rfl,hb3⟩;obtain⟨hc3,hf3⟩:=bT hb3;have hz3:w2.heap.size<w3.heap.size:=xn));have y2:w3.cell? ⟨w2.heap.size,1,none⟩=some (.slice B na cb):=(hc3 _ _ aH).trans iD;have hRp3:aI w3 2 A n (eG ps):=hRp.keep aJ;have hRq3:aI w3 1 B na (ap.map .string):=hRq.keep aJ;have hbw3:aF w w3:=aJ;have hnna:n<=na:=aB;clear hc2 hf2 hc3 hf3 hRp hRq;go_loopw [61] (fun vi wr=>∃ k:Nat,(vi=.int .i64 k/\k<=n)/\Hid (eH (ps.drop k) (ap.drop k)=res)/\aF w3 wr) (fun vi _=>n-(intOf vi).toNat)
   case atStart=>exact⟨0,⟨rfl,Nat.zero_le _⟩,HRES,Below.refl _ _⟩
   case round =>
    exact Gn
def mtL:List bI->List bI->List bI->Option (List bI)
 | acc,[],_=>some acc
 | acc,a :: r,[]=>mtL (acc++[a]) r []
 | acc,a :: r,b :: q=>if nJ a b then mtL (acc++[fD a b]) r q else none
def oz(x y:Pat):Option Pat :=
 if !nJ x.cust y.cust||(decide (y.parts.length<x.parts.length)&&!y.tail) then none else (mtL [] x.parts y.parts).map fun l=>⟨fD x.cust y.cust,l,x.tail&&y.tail⟩
def jL(x y:Pat):Option Pat:=if x.parts.length<y.parts.length then oz y x else oz x y
def xq(x:Pat)(A:Option Addr)(c:Nat):Value:=.agg #[.int .i64 x.cust.kind,.string x.cust.text,.slice A x.parts.length c,.bool x.tail]
theorem bJ.set2{w:World}{g k k2:Nat}{t t2:aC}{v v2:Value}{b b2:Bool}(h:bJ w g k t v b) :
  bJ ((((w.setCell ⟨g,0,none⟩ (.int .i64 k2)).setCell ⟨g,1,none⟩ (.string t2)).setCell ⟨g,2,none⟩ v2).setCell ⟨g,3,none⟩ (.bool b2)) g k2 t2 v2 b2 :=
 Blk.set_ (Blk.set_ (Blk.set_ (Blk.set_ h 0 (.int .i64 k2)) 1 (.string t2)) 2 v2) 3 (.bool b2)
theorem bJ.far{w:World}{g k:Nat}{t:aC}{v:Value}{b:Bool}(h:bJ w g k t v b)(p:Addr)(u:Value)(hp:g≠p.block):bJ (w.setCell p u) g k t v b:=(Below.heap_setCell w p u g hp).trans h
theorem Gp(p q:bI)(w:World)(h1:p.kind<=2)(h2:q.kind<=2)(h3:p.text.size<=100000)(h4:q.text.size<=100000) :
  Calls prog 285 #[.agg #[.int .i64 p.kind,.string p.text],.agg #[.int .i64 q.kind,.string q.text]] w (Ret w (.tuple #[.agg #[.int .i64 (fD p q).kind,.string (fD p q).text],.bool (nJ p q)])):=TG p.kind q.kind p.text q.text w aB aB h1 h2
theorem Am{p q:bI}(h1:p.kind<=2)(h2:q.kind<=2)(h3:p.text.size<=100000)(h4:q.text.size<=100000):(fD p q).kind<=2/\(fD p q).text.size<=100000:=by
 unfold fD;split
 ·exact⟨h2,h4⟩
 ·exact⟨h1,h3⟩
theorem TI(w:World)(a b c:Obj):(((w.alloc a).alloc b).alloc c).heap[w.heap.size]? = some a/\(((w.alloc a).alloc b).alloc c).heap[w.heap.size+1]? = some b/\(((w.alloc a).alloc b).alloc c).heap[w.heap.size+1+1]? = some c:=by
 have h1:=World.alloc_heap_new w a;have h2:=World.alloc_heap_new (w.alloc a) b;have h3:=World.alloc_heap_new ((w.alloc a).alloc b) c;rw[World.size_alloc]at h2;rw[World.size_alloc,World.size_alloc]at h3;exact⟨(Below.heap_alloc _ _ _ aP).trans ((Below.heap_alloc _ _ _ aH).trans h1),(Below.heap_alloc _ _ _ aH).trans h2,h3⟩
def Ap(w:World)(R:Option Pat)(wx:World):Prop:=∃(X Y:Pat)(A B:Option Addr)(ca cb:Nat),
 aI w 2 A X.parts.length (eG X.parts)/\aI w 2 B Y.parts.length (eG Y.parts)/\kQ X/\kQ Y/\R=oz X Y /\
 bJ wx w.heap.size X.cust.kind X.cust.text (.slice A X.parts.length ca) X.tail/\bJ wx (w.heap.size+1) Y.cust.kind Y.cust.text (.slice B Y.parts.length cb) Y.tail/\bJ wx (w.heap.size+1+1) 0 ⟨#[]⟩ (.slice none 0 0) false /\
 aF w wx/\wx.heap.size=w.heap.size+1+1+1
theorem TJ(x y:Pat)(A B:Option Addr)(ca cb:Nat)(w:World)(hA:aI w 2 A x.parts.length (eG x.parts))(hB:aI w 2 B y.parts.length (eG y.parts))(hx:kQ x)(hy:kQ y) :
  Calls prog 226 #[xq x A ca,xq y B cb] w (lH (jL x y) w):=by
 obtain⟨i0,hi0,hz0,hz1,hz2⟩:=info_parts Fz;have HI:Hid ((prog.info? 192=some i0)/\i0.zero=some (.agg #[.int .i64 0,.string ⟨#[]⟩])/\i0.size=2/\i0.bytes=24):=aA ⟨hi0,hz0,hz1,hz2⟩;clear hi0 hz0 hz1 hz2;obtain⟨R,hR⟩:∃ R,R=jL x y:=⟨_,rfl⟩;rw[<-hR];have hsw:∀ wx,bJ wx w.heap.size y.cust.kind y.cust.text (.slice B y.parts.length cb) y.tail->bJ wx (w.heap.size+1) x.cust.kind x.cust.text (.slice A x.parts.length ca) x.tail->bJ wx (w.heap.size+1+1) 0 ⟨#[]⟩ (.slice none 0 0) false ->
   aF w wx->wx.heap.size=w.heap.size+1+1+1->x.parts.length<y.parts.length->Ap w R wx:=fun wx h1 h2 h3 h4 h5 h6=>⟨y,x,B,A,cb,ca,hB,hA,hy,hx,by rw[hR,jL,if_pos h6],h1,h2,h3,h4,h5⟩
 have hst:∀ wx,bJ wx w.heap.size x.cust.kind x.cust.text (.slice A x.parts.length ca) x.tail->bJ wx (w.heap.size+1) y.cust.kind y.cust.text (.slice B y.parts.length cb) y.tail->bJ wx (w.heap.size+1+1) 0 ⟨#[]⟩ (.slice none 0 0) false ->
   aF w wx->wx.heap.size=w.heap.size+1+1+1->¬ x.parts.length<y.parts.length->Ap w R wx:=fun wx h1 h2 h3 h4 h5 h6=>⟨x,y,A,B,ca,cb,hA,hB,hx,hy,by rw[hR,jL,if_neg h6],h1,h2,h3,h4,h5⟩
 have hxn:=hx.num;have hyn:=hy.num;have HSW:=aA hsw;have HST:=aA hst;clear hsw hst hR hA hB hx hy;unfold xq;obtain⟨⟨xk,xt⟩,xs,xl⟩:=x;obtain⟨⟨yk,yt⟩,ys,yl⟩:=y;dsimp only at hxn hyn HSW HST ⊢;generalize xs.length=n at *;generalize ys.length=m at *;go_enter func226,ntmps226;go_upto_if 14 with fail
 go_cut [] (fun wx=>Ap w R wx)
 case first =>
  have hbl:∀ a b c,aF w (((w.alloc a).alloc b).alloc c):=fun a b c=>aU (aU (aU (Below.refl _ _) _) _) _
  have hb3:=TI w;have HBL:=aA hbl;have HB3:=aA hb3;clear hbl hb3;by_cases hlt:n<m
  ·have hd:decide ((n:Int)<(m:Int))=true:=aP;have HLT:=aA hlt;clear hlt;go_wp2_with fail;go_meet;exact HSW.out _ (HB3.out _ _ _).1 (HB3.out _ _ _).2.1 (HB3.out _ _ _).2.2 (HBL.out _ _ _) aH HLT.out
  ·have hd:decide ((n:Int)<(m:Int))=false:=aP;have HLT:=aA hlt;clear hlt;go_wp2_with fail;go_meet;exact HST.out _ (HB3.out _ _ _).1 (HB3.out _ _ _).2.1 (HB3.out _ _ _).2.2 (HBL.out _ _ _) aH HLT.out
 case rest =>
  obtain⟨X,Y,A',B',ca',cb',hA,hB,hX,hY,hRR,bX,bY,bO,hbc,hzc⟩:=hcut;clear HSW HST hxn hyn;obtain⟨⟨pk,pt⟩,ps,pl⟩:=X;obtain⟨⟨qk,qt⟩,qs,ql⟩:=Y;have c0:=fun W=>Gp ⟨pk,pt⟩ ⟨qk,qt⟩ W hX.kind hY.kind hX.text hY.text
  obtain⟨-,-,hps,hpn⟩:=hX;obtain⟨-,-,hqs,hqn⟩:=hY;dsimp only at *;unfold oz at hRR;dsimp only at hRR;obtain⟨np,hnp⟩:∃ np,np=ps.length:=⟨_,rfl⟩;obtain⟨nq,hnq⟩:∃ nq,nq=qs.length:=⟨_,rfl⟩;rw[<-hnp]at hA bX hpn hRR;rw[<-hnq]at hB bY hqn hRR;generalize fD ⟨pk,pt⟩ ⟨qk,qt⟩=mp at *;generalize nJ ⟨pk,pt⟩ ⟨qk,qt⟩=b0 at *;obtain⟨mk,mt⟩:=mp;dsimp only at c0;have H0:=aA c0;have HN:=aA hnp;have HM:=aA hnq;have HA:=aA hA;have HB:=aA hB;have HPS:=aA hps;have HQS:=aA hqs;obtain⟨x0,x1,x2,x3,_⟩:=bX.facts;obtain⟨y0,y1,y2,y3,_⟩:=bY.facts;obtain⟨o0,o1,o2,o3,q0,q1,q2,q3⟩:=bO.facts;clear c0 hnp hnq hA hB hps hqs;cases b0
  ·simp only[Bool.not_false,Bool.true_or,if_true]at hRR;exact Gq
  simp only[Bool.not_true,Bool.false_or]at hRR;have hcase:(nq<np/\ql=false)\/(nq<np/\ql=true)\/¬ nq<np:=by cases ql <;> simp <;> omega
  have hthr:(nq<np/\ql=false)\/(decide (nq<np)&&!ql)=false:=by cases ql <;> simp <;> omega
  rcases hthr with ⟨hgt,rfl⟩ | hthr
  ·have hd2:decide ((nq:Int)<(np:Int))=true:=aP;rw[show decide (nq<np)=true by simpa using hgt]at hRR;simp only[Bool.not_false,Bool.and_self,if_true]at hRR;exact Gq
  ·rw[hthr]at hRR;simp only[Bool.false_eq_true,if_false]at hRR;have HR:=aA hRR;clear hRR;have HTH:=aA hthr;have HCA:=aA hcase;clear hthr hcase;go_upto_region 4 with (go_at_call 285;refine (H0.out _).mono ?_;rintro e w1 ⟨rfl,hb1⟩;have hX:bJ w1 w.heap.size pk pt (.slice A' np ca') _:=Blk.keep bX hb1;have hY:bJ w1 (w.heap.size+1) qk qt (.slice B' nq cb') _:=Blk.keep bY hb1;have hO:bJ w1 (w.heap.size+1+1) 0 ⟨#[]⟩ (.slice none 0 0) false:=Blk.keep bO hb1;have hz1:w.heap.size+3<=w1.heap.size:=Aq;have hbw:aF w w1:=aV hbc hb1;clear x0 x1 x2 x3 y0 y1 y2 y3 o0 o1 o2 o3 q0 q1 q2 q3;obtain⟨x0,x1,x2,x3,_⟩:=hX.facts;obtain⟨y0,y1,y2,y3,_⟩:=hY.facts;obtain⟨o0,o1,o2,o3,q0,q1,q2,q3⟩:=hO.facts)
   clear H0 bX bY bO x0 x1 x2 x3 y0 y1 y2 y3 o0 o1 o2 o3 q0 q1 q2 q3;obtain⟨W0,hW0⟩:∃ W0,W0=(w1.setCell ⟨w.heap.size+1+1,0,none⟩ (.int .i64 mk)).setCell ⟨w.heap.size+1+1,1,none⟩ (.string mt):=⟨_,rfl⟩;have hO0:bJ W0 (w.heap.size+1+1) mk mt (.slice none 0 0) false:=by rw[hW0];exact Blk.set_ (Blk.set_ hO 0 (.int .i64 mk)) 1 (.string mt)
   have hF0:∀ j,j≠w.heap.size+1+1->W0.heap[j]? = w1.heap[j]?:=fun j hj=>by rw[hW0,Below.heap_setCell _ _ _ _ lI,Below.heap_setCell _ _ _ _ lI]
   have hz0:W0.heap.size=w1.heap.size:=by rw[hW0];simp[World.setCell]
   have hbw0:aF w W0:=by rw[hW0];exact (hbw.setCell (p:=⟨w.heap.size+1+1,0,none⟩) aP _).setCell (p:=⟨w.heap.size+1+1,1,none⟩) aP _
   have hX0:bJ W0 w.heap.size pk pt (.slice A' np ca') pl:=(hF0 _ aB).trans hX;have hY0:bJ W0 (w.heap.size+1) qk qt (.slice B' nq cb') ql:=(hF0 _ aB).trans hY;obtain⟨x0,x1,x2,x3,_⟩:=hX0.facts;obtain⟨y0,y1,y2,y3,_⟩:=hY0.facts;obtain⟨o0,o1,o2,o3,q0,q1,q2,q3⟩:=hO0.facts;have HO0:=aA hO0;have HF0:=aA hF0;have HX0:=aA hX0;have HY0:=aA hY0;have HX:=aA hX;have HY:=aA hY;have HZ0:=aA hz0;rw[<-hW0];clear hW0 hO hX hY hO0 hF0 hX0 hY0 hz0;go_cut [41] (fun c wx=>c=.bool false/\wx=W0)
   case first =>
    rcases HCA.out with ⟨_,e⟩ | ⟨hgt,e⟩ | hgt
    ·have:=HTH.out;rw[e]at this;simp at this;omega
    ·subst e;have hd2:decide ((nq:Int)<(np:Int))=true:=aP;have hd3:decide (nq<np)=true:=decide_eq_true hgt;go_wp2_with fail;go_meet;exact⟨rfl,rfl⟩
    ·have hd2:decide ((nq:Int)<(np:Int))=false:=aP;have hd3:decide (nq<np)=false:=decide_eq_false hgt;go_wp2_with fail;go_meet;exact⟨rfl,rfl⟩
   case rest =>
    obtain⟨rfl,rfl⟩:=hcut;go_upto_region 6 with fail
    go_cut [] (fun wx=>bJ wx (w.heap.size+1+1) mk mt (.slice none 0 0) (pl&&ql)/\(∀ j,j≠w.heap.size+1+1->wx.heap[j]? = w1.heap[j]?)/\aF w wx/\wx.heap.size=w1.heap.size)
    case first =>
     cases pl <;> cases ql
     all_goals
      go_wp2_with fail;go_meet;exact⟨Blk.set_ HO0.out 3 _,fun j hj=>(Below.heap_setCell _ _ _ _ lI).trans (HF0.out j hj),hbw0.setCell aP _,by simp[World.setCell];exact HZ0.out⟩
    case rest =>
     obtain⟨hO6,hF6,hb6,hz6⟩:=hcut;have hX6:bJ wc w.heap.size pk pt (.slice A' np ca') pl:=(hF6 _ aB).trans HX.out;obtain⟨tl,htl⟩:∃ tl,tl=(pl&&ql):=⟨_,rfl⟩;rw[<-htl]at hO6;have HTL:=aA htl;clear htl HTH HCA hbw0 x0 x1 x2 x3 y0 y1 y2 y3 o0 o1 o2 o3 q0 q1 q2 q3;obtain⟨x0,x1,x2,x3,_⟩:=hX6.facts;have HO6:=aA hO6;have HF6:=aA hF6;have HZ6:=aA hz6;clear hX6 hO6 hF6 hz6;go_wp2_with fail;go_loopw [53] (fun vi wr=>∃(k:Nat)(acc:List bI)(A1:Option Addr)(c1:Nat),(vi=.int .i64 k/\k<=np/\acc.length=k)/\Hid (mtL [] ps qs=mtL acc (ps.drop k) (qs.drop k))/\bJ wr (w.heap.size+1+1) mk mt (.slice A1 k c1) tl /\
      wr.ownsRow w1.heap.size 192 2 (.slice A1 k c1) k (eG acc)/\aF w wr/\Hid (∀ j,j<w1.heap.size->j≠w.heap.size+1+1->wr.heap[j]? = w1.heap[j]?)/\w1.heap.size<=wr.heap.size) (fun vi _=>np-(intOf vi).toNat)
     case atStart=>exact⟨0,[],none,0,⟨rfl,Nat.zero_le _,rfl⟩,aA aH,HO6.out,World.ownsRow_nil _ _ _ _,hb6,aA (fun j _ hj=>HF6.out j hj),by have:=HZ6.out;omega⟩
     case round =>
      clear x0 x1 x2 x3;obtain⟨k,acc,A1,c1,⟨rfl,hk,hak⟩,HC,hB,hown,hbw2,HFR,hzr⟩:=hrel;have hYr:bJ wr (w.heap.size+1) qk qt (.slice B' nq cb') ql:=(HFR.out _ aB aB).trans HY.out;obtain⟨y0,y1,y2,y3,_⟩:=hYr.facts;obtain⟨o0,o1,o2,o3,q0,q1,q2,q3⟩:=hB.facts;have HAK:=aA hak;clear hak;have hs1:w.heap.size+1<wr.heap.size:=aB;have hs2:w.heap.size+1+1<wr.heap.size:=aB;by_cases hkn:k<np
      ·obtain⟨a,ha⟩:∃ p,ps[k]? = some p:=⟨_,List.getElem?_eq_getElem o6⟩;obtain⟨hak1,hak2⟩:=HPS.out a (List.mem_of_getElem? ha);obtain⟨pb,po,rfl,hcell⟩:=(HA.out.keep hbw2).2 aB;obtain⟨e1,e2⟩:=xY ps k a ha;have hc1:wr.cell? ⟨pb,po+k*2,none⟩=_:=hcell _ _ e1;have hc2:wr.cell? ⟨pb,po+k*2+1,none⟩=_:=hcell _ _ e2;have hdx:ps.drop k=a :: ps.drop (k+1):=by
        obtain⟨hl2,rfl⟩:=List.getElem?_eq_some_iff.1 ha;exact List.drop_eq_getElem_cons hl2
       have hmt:=HC.out;rw[hdx]at hmt;obtain⟨ak,at'⟩:=a;dsimp only at hc1 hc2 hmt hak1 hak2;have HMT:=aA hmt;clear ha hcell e1 e2 hdx HC hmt;go_upto_if 62 with fail
       go_cut [] (fun wx=>∃(ck:Nat)(ct:aC),(ck<=2/\ct.size<=100000)/\Blk wx wr.heap.size 192 #[.int .i64 ck,.string ct] (0,0)/\aF wr wx/\Hid (mtL [] ps qs=mtL (acc++[⟨ck,ct⟩]) (ps.drop (k+1)) (qs.drop (k+1))))
       case first =>
        by_cases hkm:k<nq
        ·have hd:decide (k<nq)=true:=decide_eq_true hkm;obtain⟨b,hb⟩:∃ p,qs[k]? = some p:=⟨_,List.getElem?_eq_getElem (by have:=HM.out;omega)⟩;obtain⟨hbk1,hbk2⟩:=HQS.out b (List.mem_of_getElem? hb);obtain⟨qb,qo,rfl,hcell⟩:=(HB.out.keep hbw2).2 aB;obtain⟨e1,e2⟩:=xY qs k b hb;have hc3:wr.cell? ⟨qb,qo+k*2,none⟩=_:=hcell _ _ e1;have hc4:wr.cell? ⟨qb,qo+k*2+1,none⟩=_:=hcell _ _ e2;have hdy:qs.drop k=b :: qs.drop (k+1):=by
          obtain⟨hl2,rfl⟩:=List.getElem?_eq_some_iff.1 hb;exact List.drop_eq_getElem_cons hl2
         have hmt:=HMT.out;rw[hdy,mtL]at hmt;obtain⟨bk,bt⟩:=b;dsimp only at hc3 hc4 hbk1 hbk2;have cM:=fun W=>Gp ⟨ak,at'⟩ ⟨bk,bt⟩ W hak1 hbk1 hak2 hbk2
         have hok:=Am (p:=⟨ak,at'⟩) (q:=⟨bk,bt⟩) hak1 hbk1 hak2 hbk2;have hqb:qb<wr.heap.size:=bu (a:=⟨qb,qo+k*2,none⟩) hc3;dsimp only at cM;generalize fD ⟨ak,at'⟩ ⟨bk,bt⟩=mp at *;generalize nJ ⟨ak,at'⟩ ⟨bk,bt⟩=b1 at *;obtain⟨ck,ct⟩:=mp;dsimp only at cM hok;have HMM:=aA cM;have HMT2:=aA hmt;have hk0:(0:Int)<=(k:Int):=aB;have hki:(k:Int)<(nq:Int):=aB;clear hb hcell e1 e2 hdy hmt cM HMT;go_upto_region 11 with fail
         go_cut [5] (fun c wx=>c=.bool b1/\Blk wx wr.heap.size 192 #[.int .i64 ck,.string ct] (0,0)/\aF wr wx)
         case first =>
          have g1:(wr.alloc (.cells #[.int .i64 ak,.string at'] 192)).cell? ⟨wr.heap.size,0,none⟩=some (.int .i64 ak):=iD;have g2:(wr.alloc (.cells #[.int .i64 ak,.string at'] 192)).cell? ⟨wr.heap.size,1,none⟩=some (.string at'):=iD;go_region_law (go_simp;go_at_call 285;refine (HMM.out _).mono ?_;rintro e w2 ⟨rfl,hb2⟩;replace hb2:=F7 hb2;have hT:Blk w2 wr.heap.size 192 #[.int .i64 ak,.string at'] (0,0):=(hb2.block wr.heap.size aH).trans (World.alloc_heap_new _ _);have hT0:=hT.cell 0;have hT1:=hT.cell 1;have hF0:=hT.free0 0;have hF1:=hT.free0 1);all_goals go_wp2_with fail
          all_goals go_meet
          all_goals exact⟨rfl,Blk.set_ (Blk.set_ hT 0 (.int .i64 ck)) 1 (.string ct),((dZ _ hb2).setCell (p:=⟨wr.heap.size,0,none⟩) (Nat.le_refl _) _).setCell (p:=⟨wr.heap.size,1,none⟩) (Nat.le_refl _) _⟩
         case rest =>
          obtain⟨rfl,hT,hbT⟩:=hcut;cases b1
          ·have hRn:R=none:=by
            have:=HMT2.out;simp only[Bool.false_eq_true,if_false]at this;rw[HR.out,this];rfl
           subst hRn;have hB2:bJ wc (w.heap.size+1+1) mk mt (.slice A1 k c1) tl:=(hbT.block _ hs2).trans hB;have hbE:aF w wc:=aV hbw2 hbT;clear HR HMT2 hown hB y0 y1 y2 y3 o0 o1 o2 o3 q0 q1 q2 q3 hc1 hc2 hc3 hc4;obtain⟨o0,o1,o2,o3,q0,q1,q2,q3⟩:=hB2.facts;go_wp2_with fail;have hB3:bJ _ (w.heap.size+1+1) mk mt (.slice A1 k c1) tl:=bJ.set2 (k2:=mk) (t2:=mt) (v2:=.slice A1 k c1) (b2:=tl) hB2;have hbE2:=(((hbE.setCell (p:=⟨w.heap.size+1+1,0,none⟩) aP (.int .i64 mk)).setCell (p:=⟨w.heap.size+1+1,1,none⟩) aP (.string mt)).setCell (p:=⟨w.heap.size+1+1,2,none⟩) aP (.slice A1 k c1)).setCell (p:=⟨w.heap.size+1+1,3,none⟩) aP (.bool tl);revert hB3 hbE2;generalize ((((wc.setCell ⟨w.heap.size+1+1,0,none⟩ (.int .i64 mk)).setCell ⟨w.heap.size+1+1,1,none⟩ (.string mt)).setCell ⟨w.heap.size+1+1,2,none⟩ (.slice A1 k c1)).setCell ⟨w.heap.size+1+1,3,none⟩ (.bool tl))=W';intro hB3 hbE2;obtain⟨p0,p1,p2,p3,_⟩:=hB3.facts;clear o0 o1 o2 o3 q0 q1 q2 q3;exact bodyPost_ret (v:=.tuple #[.agg #[.int .i64 mk,.string mt,.slice A1 k c1,.bool tl],.bool false]) Ar rfl (lH.none_ _ _ _ _ _ _ hbE2)
          ·have HMT3:Hid (mtL [] ps qs=mtL (acc++[⟨ck,ct⟩]) (ps.drop (k+1)) (qs.drop (k+1))):=aA (by have:=HMT2.out;simpa using this);clear HMT2;go_wp2_with fail;go_meet;exact⟨ck,ct,hok,hT,hbT,HMT3⟩
        ·have hd:decide (k<nq)=false:=decide_eq_false hkm;have hyd:∀ j,k<=j->qs.drop j=[]:=fun j hj=>List.drop_eq_nil_of_le (by have:=HM.out;omega)
         have HC2:Hid (mtL [] ps qs=mtL (acc++[⟨ak,at'⟩]) (ps.drop (k+1)) (qs.drop (k+1))):=aA (by have:=HMT.out;rw[hyd k (Nat.le_refl _),mtL]at this;rw[hyd (k+1) aB];exact this);clear hyd HMT;go_wp2_with fail;go_meet;exact⟨ak,at',⟨hak1,hak2⟩,World.alloc_heap_new _ _,aU (Below.refl _ _) _,HC2⟩
       case rest =>
        obtain⟨ck,ct,⟨hck1,hck2⟩,hT,hbT,HC2⟩:=hcut;have hB2:bJ wc (w.heap.size+1+1) mk mt (.slice A1 k c1) tl:=(hbT.block _ hs2).trans hB;have hown2:=fZ hown hbT;have hbw3:aF w wc:=aV hbw2 hbT;have hzc2:=hbT.size;have HFR2:Hid (∀ j,j<w1.heap.size->j≠w.heap.size+1+1->wc.heap[j]? = w1.heap[j]?):=aA (fun j q1 q2=>(hbT.block j aB).trans (HFR.out j q1 q2));clear HMT hown hB y0 y1 y2 y3 o0 o1 o2 o3 q0 q1 q2 q3 hc1 hc2 HFR;obtain⟨o0,o1,o2,o3,q0,q1,q2,q3⟩:=hB2.facts;have hT0:=hT.cell 0;have hT1:=hT.cell 1;go_wp2_with (at_builtin;refine wpList_append_own _ rfl _ _ 193 rfl w1.heap.size 192 i0 (.agg #[.int .i64 0,.string ⟨#[]⟩]) 2 24 underlying193 HI.out.1 HI.out.2.1 HI.out.2.2.1 HI.out.2.2.2 rfl aK _ _ _ rfl (hown2.alloc _) ⟨wc.heap.size,0,none⟩ 1 1 [.int .i64 ck,.string ct] rfl rfl (World.news_of_block (cs:=#[.int .i64 ck,.string ct]) (t:=192) (fr:=(0,0)) (World.alloc_heap_new wc _)) jJ dh aB aP ?_;intro v' w3 hown' hgrow _;obtain⟨g',cap',rfl⟩:=ownsRow_succ hown';have hB3:bJ w3 (w.heap.size+1+1) mk mt (.slice A1 k c1) tl:=(hgrow.block _ aP (fun e=>by have:=fE hown2 _ e.symm;omega)).trans ((Below.heap_alloc wc _ _ aB).trans hB2);clear o0 o1 o2 o3 q0 q1 q2 q3;obtain⟨o0,o1,o2,o3,q0,q1,q2,q3⟩:=hB3.facts);have hal:(acc++[(⟨ck,ct⟩:bI)]).length=k+1:=by have:=HAK.out;simp;omega
        have hpc:eG (acc++[⟨ck,ct⟩])=eG acc++[.int .i64 ck,.string ct]:=by simp[eG]
        exact⟨⟨k+1,acc++[⟨ck,ct⟩],some ⟨g',0,none⟩,cap',⟨bg,aB,hal⟩,HC2,Blk.set_ hB3 2 _,by rw[hpc];exact rX hown' (fun j hj=>Below.heap_setCell _ _ _ _ aP),((hbw3.alloc aB _).grown hgrow aP (fun r e=>by have:=fE hown2 r e;omega)).setCell (p:=⟨w.heap.size+1+1,2,none⟩) aP _,aA (fun j q1 q2=>(Below.heap_setCell _ _ _ _ AQ).trans ((hgrow.block j aP (fun e=>by have:=fE hown2 _ e.symm;omega)).trans ((Below.heap_alloc wc _ j aB).trans (HFR2.out j q1 q2)))),Gs⟩,dD⟩
      ·obtain rfl:k=np:=aB;go_wp2_with fail;have hend:mtL [] ps qs=some acc:=by
        rw[HC.out,List.drop_eq_nil_of_le o6];cases (qs.drop k) <;> rfl
       have hRs:R=some ⟨⟨mk,mt⟩,acc,tl⟩:=by rw[HR.out,hend,HTL.out];rfl
       subst hRs;have hob:∀ a,A1=some a->a.block≠w.heap.size+1+1:=fun a ha=>xX
       have hob2:∀ a,A1=some a->w.heap.size<=a.block:=fun a ha=>xX
       have hbE:=hbw2;have hB3:bJ _ (w.heap.size+1+1) mk mt (.slice A1 k c1) tl:=bJ.set2 (k2:=mk) (t2:=mt) (v2:=.slice A1 k c1) (b2:=tl) hB;have hbE2:=(((hbE.setCell (p:=⟨w.heap.size+1+1,0,none⟩) aP (.int .i64 mk)).setCell (p:=⟨w.heap.size+1+1,1,none⟩) aP (.string mt)).setCell (p:=⟨w.heap.size+1+1,2,none⟩) aP (.slice A1 k c1)).setCell (p:=⟨w.heap.size+1+1,3,none⟩) aP (.bool tl);have hRd:aI ((((wr.setCell ⟨w.heap.size+1+1,0,none⟩ (.int .i64 mk)).setCell ⟨w.heap.size+1+1,1,none⟩ (.string mt)).setCell ⟨w.heap.size+1+1,2,none⟩ (.slice A1 k c1)).setCell ⟨w.heap.size+1+1,3,none⟩ (.bool tl)) 2 A1 k (eG acc):=((((aI.of_own hown).set_ _ _ hob).set_ _ _ hob).set_ _ _ hob).set_ _ _ hob;revert hB3 hbE2 hRd;generalize ((((wr.setCell ⟨w.heap.size+1+1,0,none⟩ (.int .i64 mk)).setCell ⟨w.heap.size+1+1,1,none⟩ (.string mt)).setCell ⟨w.heap.size+1+1,2,none⟩ (.slice A1 k c1)).setCell ⟨w.heap.size+1+1,3,none⟩ (.bool tl))=W';intro hB3 hbE2 hRd;obtain⟨p0,p1,p2,p3,_⟩:=hB3.facts;clear o0 o1 o2 o3 q0 q1 q2 q3 y0 y1 y2 y3;exact bodyPost_ret (v:=.tuple #[.agg #[.int .i64 mk,.string mt,.slice A1 k c1,.bool tl],.bool true]) Ar rfl ⟨hbE2,A1,c1,by rw[HAK.out],by rw[HAK.out];exact hRd,hob2⟩
end Go.Proofs.YtlkbkclnbppigaaGreatDoor
