/- What the specification's Holds and Empty return. -/
import Derived.Test.YtlkbkclnbppigaaGreatDoorNY4
import Derived.Test.YtlkbkclnbppigaaGreatDoorJSan25
set_option maxHeartbeats 16000000
namespace Go.Proofs.YtlkbkclnbppigaaGreatDoor
open Tryz
open Go.RowKit Go.Sort
set_option linter.unusedVariables false
set_option linter.unusedSimpArgs false
set_option maxRecDepth 100000
theorem aPf{s:ByteArray}(h:iK s=true):kw ⟨#[42,47,42,42]⟩ s=true:=by
 unfold kw;rw[aLh];show (iK s&&kJ xO (bU s).1)=true;rw[h,aLi];rfl
theorem Jk{α:Type} [DecidableEq α] (l:List α) (x:α):(l.length=0/\bM l x=true)\/(0<l.length/\jC l x=true/\bM l x=true)\/(0<l.length/\jC l x=false/\bM l x=false):=by
 unfold bM;cases l with
 | nil=>exact .inl ⟨rfl,rfl⟩
 | cons a l =>
  have e:(a :: l).contains x=jC (a :: l) x:=rfl;rw[e];cases jC (a :: l) x
  ·exact .inr (.inr ⟨aF,rfl,rfl⟩)
  ·exact .inr (.inl ⟨aF,rfl,rfl⟩)
theorem aPg(c:aZ)(m:af)(a:bn)(w:World)(hR:bz w c m)(hc:dG c)(ha:kR a) :
  Calls prog 65 #[af.val c m,bn.val a] w (Ret w (.bool (fH c a))):=by
 have c1:=fun W (hb:Below w.heap.size w W)=>Jg c m W (hR.keep hb) hc.p hc.cl hc.co hc.n1 hc.n2 hc.n3
 have c2:=fun W=>aPe a W ha.p ha.cl ha.co
 obtain⟨V,hV⟩:∃ V,V=fH c a:=⟨_,rfl⟩;rw[<-hV];unfold fH at hV;have hrd:nC a=true->iK a.addr=true:=fun h=>(aLj h).2.2.2.2.2.2
 generalize bG c=v1 at *;generalize nC a=v2 at *;obtain⟨fr,till,pat,cl,co,si,us⟩:=c;obtain⟨A,ca,B,cb,S,cs⟩:=m;obtain⟨ad,kl,ko,st,lo,hi⟩:=a;obtain⟨hA,hB,hS⟩:=hR;obtain⟨h1,h2,h3,n1,n2,n3⟩:=hc;obtain⟨g1,g2,g3⟩:=ha;unfold af.val at c1;unfold bn.val at c2;unfold af.val bn.val;dsimp only at hA hB hS h1 h2 h3 n1 n2 n3 g1 g2 g3 hV c1 c2 hrd;dsimp only;have c4:=fun W=>aOz pat ad W h1 g1
 have c5:=fun W (hb:Below w.heap.size w W)=>Vm A cl.length ca cl kl W (hA.keep hb) aA
 have c6:=fun W (hb:Below w.heap.size w W)=>Vm B co.length cb co ko W (hB.keep hb) aA
 have c7:=fun W (hb:Below w.heap.size w W)=>aNm S si.length cs si st W (hS.keep hb) aA
 have k5:=Jk cl kl;have k6:=Jk co ko;have k7:=Jk si st;have kp:(pat.toList=[]/\(pat.toList != [])=false/\lD pat=⟨#[42,47,42,42]⟩)\/(¬ pat.toList=[]/\(pat.toList != [])=true/\lD pat=pat):=by
  unfold lD;by_cases h:pat.size=0
  ·have e:pat.toList=[]:=Jh;exact .inl ⟨e,tC,by rw[if_pos h]⟩
  ·have e:¬ pat.toList=[]:=fun e=>h vN
   exact .inr ⟨e,by simpa using e,by rw[if_neg h]⟩
 generalize jC cl kl=u5 at *;generalize jC co ko=u6 at *;generalize jC si st=u7 at *;generalize bM cl kl=v5 at *;generalize bM co ko=v6 at *;generalize bM si st=v7 at *;obtain⟨na,hna⟩:∃ na,na=cl.length:=⟨_,rfl⟩;obtain⟨nb,hnb⟩:∃ nb,nb=co.length:=⟨_,rfl⟩;obtain⟨ns,hns⟩:∃ ns,ns=si.length:=⟨_,rfl⟩;rw[<-hna]at c1 c5 k5 ⊢;rw[<-hnb]at c1 c6 k6 ⊢;rw[<-hns]at c1 c7 k7 ⊢;have C1:=aB c1;have C2:=aB c2;have C4:=aB c4;have C5:=aB c5;have C6:=aB c6;have C7:=aB c7;have HV:=aB hV;have HRD:=aB hrd;have K5:=aB k5;have K6:=aB k6;have K7:=aB k7;have KP:=aB kp;have HMA:Hid (iK ad=true->kw ⟨#[42,47,42,42]⟩ ad=true):=aB aPf;clear c1 c2 c4 c5 c6 c7 hA hB hS h1 h2 h3 n1 n2 n3 g1 g2 g3 hna hnb hns hV hrd k5 k6 k7 kp;obtain⟨tt,htt⟩:∃ tt,tt=decide (fr<=lo/\hi<till):=⟨_,rfl⟩;have HTT:=aB htt;clear htt;go_enter func65,ntmps65;go_upto_region 1 with fail
 obtain⟨W0,hW0⟩:∃ W0,W0=(w.alloc (.cells #[.int .i64 fr,.int .i64 till,.string pat,.slice A na ca,.slice B nb cb,.slice S ns cs,.int .i64 us] 27)).alloc (.cells #[.string ad,.string kl,.string ko,.int .i64 st,.int .i64 lo,.int .i64 hi] 59):=⟨_,rfl⟩;have hbw:Below w.heap.size w W0:=by rw[hW0];exact aU (aU (Below.refl _ _) _) _
 have hX:aV W0 w.heap.size fr till pat A na ca B nb cb S ns cs us:=by rw[hW0];exact (qL _ _ _).1
 have hY:eu W0 (w.heap.size+1) ad kl ko st lo hi:=by rw[hW0];exact (qL _ _ _).2
 rw[<-hW0];clear hW0;(obtain⟨x0,x1,x2,x3,x4,x5,x6⟩:=aV.facts hX;obtain⟨y0,y1,y2,y3,y4,y5⟩:=eu.facts hY);go_cut [28] (fun v wx=>v=.bool (!(v1&&v2&&tt))/\aV wx w.heap.size fr till pat A na ca B nb cb S ns cs us/\eu wx (w.heap.size+1) ad kl ko st lo hi/\Below w.heap.size w wx)
 case first =>
  cases v1
  ·clear C2 HV HRD;go_wp2_with (go_at_call 32;refine (C1.out _ aG).mono ?_;rintro e w2 ⟨rfl,hb2⟩;(replace hX:=Blk.keep hX hb2;replace hY:=Blk.keep hY hb2;replace hbw:=aN hbw hb2;clear x0 x1 x2 x3 x4 x5 x6 y0 y1 y2 y3 y4 y5;(obtain⟨x0,x1,x2,x3,x4,x5,x6⟩:=aV.facts hX;obtain⟨y0,y1,y2,y3,y4,y5⟩:=eu.facts hY)));all_goals (go_meet;exact⟨rfl,hX,hY,hbw⟩)
  cases v2
  ·clear HV HRD;exact EO
  by_cases t1:fr<=lo;rotate_left
  ·have d1:decide (lo<fr)=true:=decide_eq_true aA;obtain rfl:tt=false:=by rw[HTT.out];exact decide_eq_false (fun h=>t1 h.1)
   clear HV HRD HTT;exact EO
  have d1:decide (lo<fr)=false:=decide_eq_false aA;by_cases t2:hi<till;rotate_left
  ·have d2:decide (till<=hi)=true:=decide_eq_true aA;obtain rfl:tt=false:=by rw[HTT.out];exact decide_eq_false (fun h=>t2 h.2)
   clear HV HRD HTT;exact EO
  have d2:decide (till<=hi)=false:=decide_eq_false aA;obtain rfl:tt=true:=by rw[HTT.out];exact decide_eq_true ⟨t1,t2⟩
  clear HV HRD HTT;exact EO
 case rest =>
  clear x0 x1 x2 x3 x4 x5 x6 y0 y1 y2 y3 y4 y5;clear hX hY hbw C1 C2;obtain⟨rfl,hX,hY,hbw⟩:=hcut;(obtain⟨x0,x1,x2,x3,x4,x5,x6⟩:=aV.facts hX;obtain⟨y0,y1,y2,y3,y4,y5⟩:=eu.facts hY);have hv2:V=(v1&&v2&&tt&&kw (lD pat) ad&&v5&&v6&&v7):=by rw[HV.out,HTT.out]
  cases hvv:(v1&&v2&&tt)
  ·obtain rfl:V=false:=by rw[hv2,hvv];rfl
   clear HV hv2;go_wp2;all_goals (go_ret;exact⟨rfl,hbw⟩)
  rw[hvv,Bool.true_and]at hv2;have hv22:v2=true:=by revert hvv;cases v1 <;> cases v2 <;> simp
  have hrd:=HRD.out hv22;obtain⟨pk,hpk⟩:∃ pk,pk=kw (lD pat) ad:=⟨_,rfl⟩;rw[<-hpk]at hv2;have hma:=HMA.out hrd;have HV2:=aB hv2;have HPK:=aB hpk;have HM2:=aB hma;clear HV hv2 hvv hv22 hrd HRD HMA hpk hma HTT;go_upto_region 3 with fail
  go_cut [39] (fun v wx=>v=.bool (!pk)/\aV wx w.heap.size fr till pat A na ca B nb cb S ns cs us/\eu wx (w.heap.size+1) ad kl ko st lo hi/\Below w.heap.size w wx)
  case first =>
   rcases KP.out with ⟨e1,e2,e3⟩ | ⟨e1,e2,e3⟩
   ·obtain rfl:pk=true:=by rw[HPK.out,e3,HM2.out]
    clear HV2 HPK HM2 KP;go_wp2;all_goals (go_meet;exact⟨rfl,hX,hY,hbw⟩)
   ·have hp2:=HPK.out;rw[e3]at hp2;rw[<-hp2]at C4;clear HV2 HPK HM2 KP hp2;go_wp2_with (go_at_call 127;refine (C4.out _).mono ?_;rintro e w2 ⟨rfl,hb2⟩;(replace hX:=Blk.keep hX hb2;replace hY:=Blk.keep hY hb2;replace hbw:=aN hbw hb2;clear x0 x1 x2 x3 x4 x5 x6 y0 y1 y2 y3 y4 y5;(obtain⟨x0,x1,x2,x3,x4,x5,x6⟩:=aV.facts hX;obtain⟨y0,y1,y2,y3,y4,y5⟩:=eu.facts hY)));all_goals (go_meet;exact⟨by first | rfl | simp[e1],hX,hY,hbw⟩)
  case rest =>
   clear x0 x1 x2 x3 x4 x5 x6 y0 y1 y2 y3 y4 y5;clear hX hY hbw C4 KP HPK HM2;obtain⟨rfl,hX,hY,hbw⟩:=hcut;(obtain⟨x0,x1,x2,x3,x4,x5,x6⟩:=aV.facts hX;obtain⟨y0,y1,y2,y3,y4,y5⟩:=eu.facts hY);cases pk
   ·obtain rfl:V=false:=by rw[HV2.out];rfl
    clear HV2;go_wp2;all_goals (go_ret;exact⟨rfl,hbw⟩)
   go_upto_region 5 with fail
   go_cut [65] (fun v wx=>v=.bool (!(v5&&v6))/\aV wx w.heap.size fr till pat A na ca B nb cb S ns cs us/\eu wx (w.heap.size+1) ad kl ko st lo hi/\Below w.heap.size w wx)
   case first =>
    clear HV2 C7 K7;rcases K5.out with ⟨e5,rfl⟩ | ⟨e5,rfl,rfl⟩ | ⟨e5,rfl,rfl⟩
    rotate_right
    ·have f5:decide ((0:Int)<(na:Int))=true:=decide_eq_true aA;have f5a:decide (0<na)=true:=decide_eq_true aA;have f5b:0<na:=aA;clear K5 K6 e5;exact Jl
    ·have f5:decide ((0:Int)<(na:Int))=false:=decide_eq_false aA;have f5a:decide (0<na)=false:=decide_eq_false aA;exact WO
    ·have f5:decide ((0:Int)<(na:Int))=true:=decide_eq_true aA;have f5a:decide (0<na)=true:=decide_eq_true aA;have f5b:0<na:=aA;exact WO
   case rest =>
    clear x0 x1 x2 x3 x4 x5 x6 y0 y1 y2 y3 y4 y5;clear hX hY hbw C5 C6 K5 K6;obtain⟨rfl,hX,hY,hbw⟩:=hcut;(obtain⟨x0,x1,x2,x3,x4,x5,x6⟩:=aV.facts hX;obtain⟨y0,y1,y2,y3,y4,y5⟩:=eu.facts hY);have hv3:V=(v5&&v6&&v7):=by rw[HV2.out,Bool.true_and]
    cases hvv:(v5&&v6)
    ·obtain rfl:V=false:=by rw[hv3,hvv];rfl
     clear HV2 hv3;go_wp2;all_goals (go_ret;exact⟨rfl,hbw⟩)
    rw[hvv,Bool.true_and]at hv3;subst hv3;clear HV2 hvv;rcases K7.out with ⟨e7,rfl⟩ | ⟨e7,rfl,rfl⟩ | ⟨e7,rfl,rfl⟩
    ·have f7:((ns:Int)==0)=true:=aJ;exact WP
    all_goals
     have f7:((ns:Int)==0)=false:=aJ;exact WP
theorem aPh(c:aZ):ae c.fr++⟨#[32]⟩++ae c.till++⟨#[32]⟩++orT c.pat ⟨#[126]⟩++⟨#[32]⟩++dN c.cl++⟨#[32]⟩++dN c.co++⟨#[32]⟩++dN (c.si.map ae)++⟨#[32]⟩++ae c.us=bF c:=by
 refine dP ?_;unfold bF jU;simp[Lib.join,Lib.join_cons,Lib.joinTail]
theorem Jm(l:List ByteArray)(B:Nat)(h:∀ x∈l,x.size<=B):(Lib.join (bD l) [44]).length<=l.length*(B+1):=by
 have:=yw 44 B (bD l) (by
  intro y hy;unfold bD at hy;obtain⟨z,hz,rfl⟩:=List.mem_map.1 hy;have:=h z hz;rwa [Lib.size_eq]at this)
 rw[show (bD l).length=l.length by simp[bD]]at this;exact this
theorem aPi{s:ByteArray}(h:dm s=true):s.size=2:=by
 unfold dm at h;simp only[Bool.and_eq_true,decide_eq_true_eq]at h;exact h.1
theorem aPj(c:aZ)(m:af)(w:World)(hR:bz w c m)(hc:dG c)(hv:bG c=true) :
  Calls prog 131 #[af.val c m] w (Ret w (.agg #[.string (bF c),.int .i64 0])):=by
 have ok:=(mi c).1 hv;have c1:=fun W (hb:Below w.heap.size w W)=>hv▸Jg c m W (hR.keep hb) hc.p hc.cl hc.co hc.n1 hc.n2 hc.n3
 have hsi:∀ x∈c.si,0<=x/\x<64:=fun x hx=>PO
 have hss:∀ y∈c.si.map ae,y.size<=21:=fun y hy=>by
  exact PP
 have hsz:∀ y∈c.si.map ae,y.size≠0:=fun y hy=>by
  obtain⟨x,hx,rfl⟩:=List.mem_map.1 hy;exact (qN x (hsi x hx).1).1
 have d1:=fun W=>EN c.fr.toNat W (by have:=ok.fr1;omega)
 have d2:=fun W=>EN c.till.toNat W (by have:=ok.to1;omega)
 have d3:=fun W=>EN c.us.toNat W (by have:=ok.us1;omega)
 rw[Int.toNat_of_nonneg ok.fr0]at d1;rw[Int.toNat_of_nonneg ok.to0]at d2;rw[Int.toNat_of_nonneg ok.us0]at d3;have dx:∀ x∈c.si,∀ W,Calls prog 59 #[.int .i64 x] W (Ret W (.string (ae x))):=fun x hx W=>by
  have h:=hsi x hx;have:=EN x.toNat W aA
  rwa [Int.toNat_of_nonneg h.1]at this
 have hnm:∀ x∈c.cl,x.size<=64:=fun x hx=>rD (ok.cl x hx)
 have hnc:∀ x∈c.co,x.size<=64:=fun x hx=>by have:=aPi (ok.co x hx);omega
 have l1:=ok.clLen;have l2:=ok.coLen;have l3:=ok.siLen;have q1:=Jm c.cl 64 hnm;have q2:=Jm c.co 64 hnc;have q3:=Jm (c.si.map ae) 21 hss;rw[List.length_map]at q3;have j1:=fun W (hb:Below w.heap.size w W)=>Jj m.A c.cl.length m.ca c.cl W (hR.cl.keep hb) aA aA (fun x hx=>by have:=hnm x hx;omega)
 have j2:=fun W (hb:Below w.heap.size w W)=>Jj m.B c.co.length m.cb c.co W (hR.co.keep hb) aA aA (fun x hx=>by have:=hnc x hx;omega)
 have j3:=fun (A':Option Addr) (c':Nat) W (hr:aH W 1 A' c.si.length ((c.si.map ae).map .string))=>Jj A' c.si.length c' (c.si.map ae) W hr aA aA (fun x hx=>by have:=hss x hx;omega)
 rw[Ji (fun x hx=>(Bv (ok.cl x hx)).1)]at j1;rw[Ji (fun x hx=>(Bz (ok.co x hx)).1)]at j2;rw[Ji hsz]at j3;have hs1:=qM c.fr (by have:=ok.fr0;omega) (by have:=ok.fr1;omega);have hs2:=qM c.till (by have:=ok.to0;omega) (by have:=ok.to1;omega);have hs3:=qM c.us (by have:=ok.us0;omega) (by have:=ok.us1;omega);have hs4:=PM c.pat;have hp:=hc.p;have hs5:=vw 64 c.cl hnm;have hs6:=vw 64 c.co hnc;have hs7:=vw 21 (c.si.map ae) hss;rw[List.length_map]at hs7;have hor:(orT c.pat ⟨#[126]⟩=⟨#[126]⟩/\(c.pat.toList == [])=true/\c.pat.toList=[])\/(orT c.pat ⟨#[126]⟩=c.pat/\(c.pat.toList == [])=false/\¬ c.pat.toList=[]):=by
  unfold orT;by_cases h:c.pat.size=0
  ·have e:c.pat.toList=[]:=Jh;exact .inl ⟨by rw[if_pos h],tC,e⟩
  ·have e:¬ c.pat.toList=[]:=fun e=>h vN
   exact .inr ⟨by rw[if_neg h],by simpa using e,e⟩
 have hT:=aPh c;generalize bF c=T at *;have hls:c.si.length=c.si.length:=rfl;obtain⟨fr,till,pat,cl,co,si,us⟩:=c;obtain⟨A,ca,B,cb,S,cs⟩:=m;have hS:=hR.si;unfold af.val at c1 ⊢;dsimp only at c1 d1 d2 d3 dx j1 j2 j3 hs1 hs2 hs3 hs4 hs5 hs6 hs7 hor hT hS l1 l2 l3 hp ⊢;generalize dN cl=t1 at *;generalize dN co=t2 at *;generalize dN (si.map ae)=t3 at *;generalize ae fr=u1 at *;generalize ae till=u2 at *;generalize ae us=u3 at *;generalize orT pat ⟨#[126]⟩=pp at *;obtain⟨ns,hns⟩:∃ ns,ns=si.length:=⟨_,rfl⟩;rw[<-hns]at c1 j3 hS l3 ⊢;generalize cl.length=na at *;generalize co.length=nb at *;obtain⟨i0,hi0,hz0,hz1,hz2⟩:=info_parts oz;have HI:Hid ((prog.info? 9=some i0)/\i0.zero=some (.string ⟨#[]⟩)/\i0.size=1/\i0.bytes=16):=aB ⟨hi0,hz0,hz1,hz2⟩;have C1:=aB c1;have D1:=aB d1;have D2:=aB d2;have D3:=aB d3;have DX:=aB dx;have J1:=aB j1;have J2:=aB j2;have J3:=aB j3;have HS:=aB hS;have HNS:=aB hns;have HT:=aB hT;have HOR:=aB hor;have HSZ:Hid (u1.size<=21/\u2.size<=21/\u3.size<=21/\pp.size<=200000/\t1.size<=100000/\t2.size<=100000/\t3.size<=100000):=aB ⟨hs1,hs2,hs3,aA,aA,aA,aA⟩;clear c1 d1 d2 d3 dx j1 j2 j3 hS hns hT hor hs1 hs2 hs3 hs4 hs5 hs6 hs7 hsi hss hsz hnm hnc q1 q2 q3 l1 l2 hp hi0 hz0 hz1 hz2 hls ok hv hR hc;go_enter func131,ntmps131;go_wp2_with (go_at_call 32;refine (C1.out _ aG).mono ?_;rintro e w2 ⟨rfl,hb2⟩;have hX2:aV w2 w.heap.size fr till pat A na ca B nb cb S ns cs us:=Blk.keep (qL _ _ _).1 hb2;have hK2:zB w2 (w.heap.size+1) ⟨#[]⟩ 0:=Blk.keep (qL _ _ _).2 hb2;have hbw:Below w.heap.size w w2:=aG;obtain⟨x0,x1,x2,x3,x4,x5,x6⟩:=hX2.facts;obtain⟨k0,k1,g0,g1,hz2⟩:=hK2.facts);go_loopw [4,5] (fun vl vi wr=>∃(k:Nat)(A':Option Addr)(c':Nat),(vl=.slice A' k c'/\vi=.int .i64 k/\k<=ns)/\aV wr w.heap.size fr till pat A na ca B nb cb S ns cs us/\zB wr (w.heap.size+1) ⟨#[]⟩ 0/\wr.ownsRow (w.heap.size+1+1) 9 1 (.slice A' k c') k (((si.map ae).take k).map .string)/\Below w.heap.size w wr) (fun _ vi _=>ns-(intOf vi).toNat)
 case atStart=>exact⟨0,none,0,⟨rfl,rfl,Nat.zero_le _⟩,hX2,hK2,World.ownsRow_nil _ _ _ _,hbw⟩
 case round =>
  clear hX2 hK2 hbw x0 x1 x2 x3 x4 x5 x6 k0 k1 g0 g1 hz2 hb2;obtain⟨k,A',c',⟨rfl,rfl,hk⟩,hX,hK,hown,hbw⟩:=hrel;obtain⟨x0,x1,x2,x3,x4,x5,x6⟩:=hX.facts;by_cases hlt:k<ns
  ·obtain⟨x,hx⟩:∃ x,si[k]? = some x:=⟨_,List.getElem?_eq_getElem (by have:=HNS.out;omega)⟩;obtain⟨pb,po,rfl,hcell⟩:=(HS.out.keep hbw).2 aA;have hc1:wr.cell? ⟨pb,po+k,none⟩=some (.int .i64 x):=hcell k _ dL;have hk0:(0:Int)<=(k:Int):=aA;have hk1:(k:Int)<(ns:Int):=aA;have htk:(si.map ae).take (k+1)=(si.map ae).take k++[ae x]:=by rw[List.take_add_one,List.getElem?_map,hx];rfl
   have HTK:=aB htk;have HD:=aB (DX.out x (List.mem_of_getElem? hx));clear hcell hx htk;go_wp2_with (first | (go_at_call 59;refine (HD.out _).mono ?_;rintro e w3 ⟨rfl,hb3⟩;have hown3:=dV hown hb3;have hbw3:=aN hbw hb3;have hbs3:=hbw3.size;have hX3:=Blk.keep hX hb3;have hK3:=Blk.keep hK hb3;have hz3:=Blk.lt hK3) | (at_builtin;refine wpList_append_own _ rfl _ _ 24 rfl (w.heap.size+1+1) 9 i0 (.string ⟨#[]⟩) 1 16 underlying24 HI.out.1 HI.out.2.1 HI.out.2.2.1 HI.out.2.2.2 rfl aK _ _ _ rfl (hown3.alloc _) ⟨w3.heap.size,0,none⟩ 1 1 [.string (ae x)] rfl rfl (cell_one_new _ _ _) fG cZ aA aJ ?_;intro v' w4 hown4 hgrow _;obtain⟨g1,cap1,rfl⟩:=ownsRow_succ hown4));have fr1:∀ j,j<w.heap.size+1+1->w4.heap[j]? = w3.heap[j]?:=fun j hj=>(hgrow.block j aJ (fun e=>by have:=dK hown3 _ e.symm;omega)).trans (Below.heap_alloc w3 _ j aA)
   refine⟨⟨k+1,some ⟨g1,0,none⟩,cap1,⟨rfl,aj,aA⟩,(fr1 _ aA).trans hX3,(fr1 _ aA).trans hK3,by rw[HTK.out,List.map_append];exact hown4,?_⟩,au⟩;exact (hbw3.alloc hbs3 _).grown hgrow aJ (fun r e=>by have:=dK hown3 r e;omega)
  ·obtain rfl:k=ns:=aA;have ht:(si.map ae).take k=si.map ae:=List.take_of_length_le (by simp;have:=HNS.out;omega);rw[ht]at hown;have hr3:=aH.of_own hown;have j3:=fun W (hb:Below wr.heap.size wr W)=>J3.out A' c' W (hr3.keep hb)
   have j1:=fun W (hb:Below wr.heap.size wr W)=>J1.out W (aN hbw hb)
   have j2:=fun W (hb:Below wr.heap.size wr W)=>J2.out W (aN hbw hb)
   obtain⟨z1,z2,z3,z4,z5,z6,z7⟩:=HSZ.out;have hTT:=HT.out;have K1:=aB j1;have K2:=aB j2;have K3:=aB j3;have HT2:=aB hTT;have hor:=HOR.out;clear ht hown hr3 j1 j2 j3 J1 J2 J3 HT HOR HSZ C1 DX HS HNS hTT;obtain⟨k0,k1,g0,g1,hz⟩:=hK.facts;rcases hor with ⟨e1,e2,e3⟩ | ⟨e1,e2,e3⟩
   ·have E1:=aB e1;have e4:pat.toList.isEmpty=true:=by rw[e3];rfl
    exact WQ
   ·have E1:=aB e1;have e4:pat.toList.isEmpty=false:=by simpa using e3
    exact WQ
def xY(a:bn):Bool:=decide (a.addr.size<=5000)&&decide (a.client.size<=5000)&&decide (a.country.size<=5000)
theorem WR{a:bn}(h:xY a=true):kR a:=by
 unfold xY at h;simp only[Bool.and_eq_true,decide_eq_true_eq]at h;exact⟨aA,aA,aA⟩
theorem aPk(a:bn)(w:World):Calls prog 26 #[bn.val a] w (Ret w (.bool (xY a))):=aLl a w
def qi(t:dB):Bool:=t.conds.all pV&&decide (t.conds.length<=20/\t.id.size<=200)
theorem aPl{α:Type}(p:α->Bool)(l:List α)(k:Nat)(x:α)(hx:l[k]? = some x)(hp:p x=true):(l.drop k).all p=(l.drop (k+1)).all p:=by
 obtain⟨hl2,rfl⟩:=List.getElem?_eq_some_iff.1 hx;rw[List.drop_eq_getElem_cons hl2,List.all_cons,hp,Bool.true_and]
theorem WS{α:Type}(p:α->Bool)(l:List α)(k:Nat)(x:α)(hx:l[k]? = some x)(hp:p x=false):(l.drop k).all p=false:=by
 obtain⟨hl2,rfl⟩:=List.getElem?_eq_some_iff.1 hx;rw[List.drop_eq_getElem_cons hl2,List.all_cons,hp,Bool.false_and]
theorem WT{x:ag}{w:World}(hR:bV w x)(p:aZ->Bool):x.L.all (fun y=>p y.c)=x.t.conds.all p:=by rw[<-hR.same,List.all_map];rfl
theorem aPm(x:ag)(w:World)(hR:bV w x)(hf:∀ y∈x.L,dG y.c)(hid:x.t.id.size<=1000000)(hn:x.t.conds.length<=1000000):Calls prog 15 #[x.val] w (Ret w (.bool (fK x.t))):=by
 have cP:=fun (y:CoM) (hy:y∈x.L) (W:World) (hb:Below w.heap.size w W)=>Jg y.c y.m W ((hR.conds.each y hy).keep hb) (hf y hy).p (hf y hy).cl (hf y hy).co (hf y hy).n1 (hf y hy).n2 (hf y hy).n3
 have hN:=fun W=>sV x.t.id W aA
 have hl:=hR.conds.len;have hbad:∀ v,yx x.t=v->fK x.t=(v&&(decide (1<=x.t.conds.length/\x.t.conds.length<=16)&&x.t.conds.all bG)):=by
  intro v hv;unfold fK;rw[hv,Bool.and_assoc]
 obtain⟨R,hR0⟩:∃ R,R=fK x.t:=⟨_,rfl⟩;rw[<-hR0]at hbad ⊢;rw[<-WT hR]at hbad;obtain⟨V,hV⟩:∃ V,V=x.L.all (fun y=>bG y.c):=⟨_,rfl⟩;rw[<-hV]at hbad;have hA:=hR.conds;obtain⟨pr,hpr⟩:∃ pr,pr=bG:=⟨_,rfl⟩;rw[<-hpr]at hV cP;have hok:yx x.t=(decide (1<=x.t.cust/\x.t.cust<=1073741824)&&decide (1<=x.t.ser/\x.t.ser<=1073741824)&&bI x.t.id):=rfl;rw[hok]at hbad;clear hok;generalize hln:x.t.conds.length=n at *;have HP:=aB cP;have HA:=aB hA;have HL:=aB hl;have HV:=aB hV;have HLN:=aB hln;clear cP hA hl hV hR hln hpr hR0 hf;unfold ag.val;by_cases c1:x.t.cust<1
 ·have e:R=false:=by rw[hbad _ rfl,decide_eq_false aA];rfl
  exact EP
 by_cases c2:1073741824<x.t.cust
 ·have e:R=false:=by rw[hbad _ rfl,decide_eq_false aA];rfl
  exact EP
 by_cases c3:x.t.ser<1
 ·have e:R=false:=WU;exact EP
 by_cases c4:1073741824<x.t.ser
 ·have e:R=false:=WU;exact EP
 have hbd:=hbad _ rfl;rw[decide_eq_true (show 1<=x.t.cust/\x.t.cust<=1073741824 by omega),decide_eq_true (show 1<=x.t.ser/\x.t.ser<=1073741824 by omega),Bool.true_and,Bool.true_and]at hbd;clear hbad;cases hnm:bI x.t.id
 ·rw[hnm,Bool.false_and]at hbd;rw[hnm]at hN;subst hbd;have HN:=aB hN;clear hN hnm;exact WV
 rw[hnm,Bool.true_and]at hbd;rw[hnm]at hN;have HN:=aB hN;have HR:=aB hbd;clear hN hnm hbd;go_enter func15,ntmps15;go_upto_region 1 with fail
 generalize hw0:World.alloc _ _=w0;have B0:fB w0 w.heap.size x:=⟨qU⟩;have hb0:Below w.heap.size w w0:=sJ;clear hw0;obtain⟨y0,y1,y2,y3⟩:=B0.cells;rw[HLN.out]at y3;go_wp2_with (go_at_call 50;refine (HN.out _).mono ?_;rintro e w2 ⟨rfl,hb2⟩;have B2:=B0.keep hb2;have hbw:=aN hb0 hb2;clear y0 y1 y2 y3;obtain⟨y0,y1,y2,y3⟩:=B2.cells;rw[HLN.out]at y3);clear y0 y1 y2 y3;go_loopw [3] (fun i wr=>∃ k:Nat,k<=n/\i=.int .i64 k/\Hid (V=(x.L.drop k).all (fun y=>pr y.c))/\fB wr w.heap.size x/\Below w.heap.size w wr) (fun i _=>n-(intOf i).toNat)
 case atStart=>exact⟨0,aA,rfl,aB (by rw[HV.out];rfl),B2,hbw⟩
 case round =>
  obtain⟨k,hk,rfl,HI,B,hb⟩:=hrel;obtain⟨y0,y1,y2,y3⟩:=B.cells;rw[HLN.out]at y3;by_cases hlt:k<n
  ·obtain⟨x1,hx⟩:∃ x1,x.L[k]? = some x1:=⟨_,List.getElem?_eq_getElem dR⟩;obtain⟨_,b,o,hA,hcell⟩:=(HA.out.keep hb).at_ hx;rw[hA]at y3;have hld:=lZ wr b (o+k*7) x1 hcell;have hc:=HP.out x1 (List.mem_of_getElem? hx) wr hb;have hk0:(0:Int)<=(k:Int):=aA;have hk1:(k:Int)<(n:Int):=aA;clear hcell hA;generalize af.val x1.c x1.m=xv at hld hc;have HLD:=aB hld;clear hld;cases hpx:pr x1.c
   ·rw[hpx]at hc;have HC:=aB hc;have hVf:V=false:=by rw[HI.out];exact WS (fun y=>pr y.c) _ _ _ hx hpx
    subst hVf;clear hc hx hpx;have hRf:R=false:=by rw[HR.out,Bool.and_false]
    subst hRf;exact WW
   ·exact WX
  ·have hVt:V=true:=WY;subst hVt;by_cases h1:1<=n
   ·have i1:(1:Int)<=(n:Int):=aA;go_wp2;go_ret;exact⟨dX WZ,hb⟩
   ·have i1:¬ (1:Int)<=(n:Int):=aA;go_wp2;go_ret;exact⟨dX WZ,hb⟩
theorem We(c:aZ)(m:af)(w:World)(hR:bz w c m)(hc:jA c):Calls prog 70 #[af.val c m] w (Ret w (.string (bF c))):=by
 have ht:=fun W (hb:Below w.heap.size w W)=>aPj c m W (hR.keep hb) hc.fits hc.ok
 generalize bF c=tx at *;unfold af.val at *;have HT:=aB ht;clear ht hR hc;go_enter func70,ntmps70;go_wp2_with (go_at_call 131;refine (HT.out _ aG).mono ?_;rintro e w2 ⟨rfl,hb2⟩);go_ret;exact⟨aF,aG⟩
theorem aPn(l:List Nat)(hl:eU l)(c:aZ)(m:af)(w:World)(hR:bz w c m)(hc:jA c)(hK:Ks2 w):Calls prog 53 #[.agg (b8 l).toArray,af.val c m] w (Ret w (.agg (b8 (jI l c)).toArray)):=by
 have hO:=fun (g:Nat) (W:World) (hr:aH W 1 (some ⟨g,0,none⟩) 2 ([toN l,bF c].map .string)) (hb:Below w.heap.size w W)=>Vg 45 aK (some ⟨g,0,none⟩) 2 2 [toN l,bF c] W hr aA (by
  intro s h;simp only[List.mem_cons,List.not_mem_nil,or_false]at h;rcases h with rfl | rfl
  ·rw[yL,hl.len];omega
  ·exact hc.tx) (hK.keep hb)
 have hD:=fun W=>aNe l hl W
 have hT:=fun (W:World) (hb:Below w.heap.size w W)=>We c m W (hR.keep hb) hc
 have hDS:(b8 (Sha.ofD 45 ([toN l,bF c].map nb))).toArray.size=16:=Hu;have hDO:(b8 (Sha.ofD 45 ([toN l,bF c].map nb))).toArray.all (·.oneCell')=true:=mf _;have hnx:Sha.ofD 45 ([toN l,bF c].map nb)=jI l c:=by
  show Sha.ofD 45 [nb (toN l),nb (bF c)]=_;rw[yK hl.lt];rfl
 rw[hnx]at hDS hDO hO;generalize (b8 (jI l c)).toArray=DG at *;have hXS:(b8 l).toArray.size=16:=by rw[List.size_toArray,dH];exact hl.len
 generalize (b8 l).toArray=X at *;generalize toN l=sx at *;generalize bF c=tx at *;obtain⟨Y,hY,hYS⟩:∃ Y:Array Value,af.val c m=.agg Y/\Y.size=7:=⟨_,rfl,rfl⟩;rw[hY]at hT ⊢;have HO:=aB hO;have HD:=aB hD;have HT:=aB hT;have HDS:=aB hDS;have HDO:=aB hDO;have HXS:=aB hXS;have HYS:=aB hYS;have HDI:=aB (show (prog.info? 30).map (·.size)=some DG.size by rw[hDS];exact lM);clear hO hD hT hDS hDO hXS hY hYS hnx hR hc hK hl;go_enter func53,ntmps53;go_upto_region 1 with fail
 generalize hw0:World.alloc _ _=w0;obtain⟨ZS,hZS⟩:∃ ZS:Array Value,ZS=(b8 (List.replicate 16 0)).toArray:=⟨_,rfl⟩;have hS0:NxS w X Y ZS w0:=by
  exact Rn
 have HZS:=aB (show ZS.size=16 by rw[hZS];rfl);clear hw0 hZS;have HS0:=aB hS0;refine pO 6 aC aC aC (DL [IsV (.agg X),IsV (.string sx),IsV (.agg Y),IsV (.string tx),zH sx tx,IsV (.agg DG)]) (DL.keep _ Ro) (NxS w X Y ZS) (HS0.out.keep (Below.drew (Below.refl _ _))) (fun _ _ h hb=>h.keep hb) ?_ ?_
 ·dsimp only[List.take_succ_cons,List.take_zero,lq];refine⟨fun vals W hS hd=>?_,fun vals W hS hd=>?_,fun vals W hS hd=>?_,fun vals W hS hd=>?_,fun vals W hS hd=>?_,fun vals W hS hd=>?_,trivial⟩
  ·(try simp only[bP,DL,IsV,ai,Region.binds,and_true,true_and]at hd);simp only[aX,List.take_succ_cons,List.take_zero,List.drop_succ_cons,List.drop_zero,Act.put,aW,ai];(try simp only[hd]);clear hd;have hld:=sN hS.x HXS.out;go_wp2_with (refine ay rfl 30 _ rfl ⟨w.heap.size,0,none⟩ (.agg X) rfl hld ?_);exact⟨rfl,rfl,rfl,aG⟩
  ·(try simp only[bP,DL,IsV,ai,Region.binds,and_true,true_and]at hd);simp only[aX,List.take_succ_cons,List.take_zero,List.drop_succ_cons,List.drop_zero,Act.put,aW,ai];(try simp only[hd]);clear hd;go_wp2_with (go_at_call 107;refine (HD.out _).mono ?_;rintro e w5 ⟨rfl,hb5⟩);exact⟨rfl,rfl,rfl,aG⟩
  ·exact Jn
  ·(try simp only[bP,DL,IsV,ai,Region.binds,and_true,true_and]at hd);simp only[aX,List.take_succ_cons,List.take_zero,List.drop_succ_cons,List.drop_zero,Act.put,aW,ai];(try simp only[hd]);clear hd;have hbW:=hS.b;go_wp2_with (go_at_call 70;refine (HT.out _ hbW).mono ?_;rintro e w5 ⟨rfl,hb5⟩);exact⟨rfl,rfl,rfl,aG⟩
  ·exact Jn
  ·(try simp only[bP,DL,IsV,ai,Region.binds,and_true,true_and]at hd);obtain⟨⟨g,e2,hr5⟩,_⟩:=hd;simp only[aX,List.take_succ_cons,List.take_zero,List.drop_succ_cons,List.drop_zero,Act.put,aW,ai];(try simp only[e2]);have hbW:=hS.b;go_wp2_with (go_at_call 58;refine (HO.out _ _ hr5 hbW).mono ?_;rintro e w5 ⟨rfl,hb5⟩);exact⟨rfl,rfl,rfl,aG⟩
 ·intro vals w9 hS9 hD9;have e5:vals 5=.agg DG:=hD9 5 aA;simp only[aX,List.take_succ_cons,List.take_zero,List.drop_succ_cons,List.drop_zero,Act.put,aW,ai];exact Rt
theorem RtS.keep3{w W W':World}{K Z:Array Value}{x:ag}(h:RtS w K x Z W)(hb:Below (w.heap.size+3) W W'):RtS w K x Z W' :=
 ⟨(hb.block _ aA).trans h.k,⟨(hb.block _ aA).trans h.t.box⟩,(hb.block _ aA).trans h.z,h.b.trans (hb.mono aA),Nat.lt_of_lt_of_le h.s hb.size⟩
theorem aPo(k:aY)(x:ag)(w:World)(hR:bV w x)(hc:∀ y∈x.L,jA y.c)(h1:1<=x.t.conds.length)(hn:x.t.conds.length<=1000)(hk:k.secret.size<=1000000)(hid:x.t.id.size<=1000000)(hK:Ks2 w) :
  Calls prog 34 #[k.val,x.val] w (Ret w (.agg (b8 (fA k x.t)).toArray)):=by
 have hl:=hR.conds.len;obtain⟨z,hz⟩:∃ z,x.L[0]? = some z:=⟨_,List.getElem?_eq_getElem aA⟩;have hzc:=hc z (List.mem_of_getElem? hz);have hhead:x.t.conds.headD fV=z.c:=by
  have:=uZ hR hz;cases hcs:x.t.conds with
  | nil=>rw[hcs]at this;simp at this
  | cons a r=>rw[hcs]at this;simpa using this
 obtain⟨_,b,o,hA,hcell0⟩:=hR.conds.at_ hz;have hld0:=fun (W:World) (hb:Below w.heap.size w W)=>lZ W b o z (fun j u hu=>aP hb Hy)
 have hT0:=fun (W:World) (hb:Below w.heap.size w W)=>We z.c z.m W ((hR.conds.each z (List.mem_of_getElem? hz)).keep hb) hzc
 have hM:=fun (g:Nat) (W:World) (hr:aH W 1 (some ⟨g,0,none⟩) 2 ([x.t.id,bF z.c].map .string)) (hb:Below w.heap.size w W)=>aNa k 45 aK (some ⟨g,0,none⟩) 2 2 [x.t.id,bF z.c] W hr aA hk (by
  intro s h;simp only[List.mem_cons,List.not_mem_nil,or_false]at h;rcases h with rfl | rfl
  ·exact hid
  ·exact hzc.tx) (hK.keep hb)
 have hfirst:yz k 45 [x.t.id,bF z.c]=iD k x.t 1:=by
  show _=wC k x.t;unfold wC;rw[hhead]
 rw[hfirst]at hM;have hN:=fun (i:Nat) (y:CoM) (hy:x.L[i]? = some y) (h0:1<=i) (W:World) (hb:Below w.heap.size w W)=>aPn (iD k x.t i) (Ci k x.t i) y.c y.m W ((hR.conds.each y (List.mem_of_getElem? hy)).keep hb) (hc y (List.mem_of_getElem? hy)) (hK.keep hb)
 have hN2:∀(i:Nat)(y:CoM),x.L[i]? = some y->1<=i->jI (iD k x.t i) y.c=iD k x.t (i+1):=fun i y hy h0=>(Ru h0 (uZ hR hy)).symm
 have hcl:=fun (i:Nat) (y:CoM) (hy:x.L[i]? = some y)=>(hR.conds.at_ hy)
 have hld:=fun (i:Nat) (y:CoM) (hy:x.L[i]? = some y) (W:World) (hb:Below w.heap.size w W)=>lZ W b (o+i*7) y (fun j u hu=>by
  obtain⟨_,b2,o2,hA2,hcell2⟩:=hR.conds.at_ hy;rw[hA]at hA2;injection hA2 with e
  injection e with e1 e2
  subst e1;subst e2;exact aP hb (hcell2 j u hu))
 rw[<-Rx];generalize hln:x.t.conds.length=n at *;have hsq:∀ i,(b8 (iD k x.t i)).toArray.size=16:=fun i=>by rw[List.size_toArray,dH];exact (Ci k x.t i).len
 have hsq1:∀ i,(b8 (iD k x.t i)).toArray.all (·.oneCell')=true:=fun i=>mf _
 obtain⟨SQ,hSQ⟩:∃ SQ:Nat->Array Value,∀ i,SQ i=(b8 (iD k x.t i)).toArray:=⟨fun i=>(b8 (iD k x.t i)).toArray,fun _=>rfl⟩;simp only[<-hSQ]at hsq hsq1 hM hN ⊢;obtain⟨Y,hY,hYS⟩:∃ Y:Array Value,af.val z.c z.m=.agg Y/\Y.size=7:=⟨_,rfl,rfl⟩;rw[hY]at hT0 hld0;have hKS:k.arr.size=5:=k.arr_size;rw[aY.val_arr]at hM ⊢;generalize k.arr=KX at *;have HT0:=aB hT0;have HM:=aB hM;have HN:=aB hN;have HN2:=aB hN2;have HLD:=aB hld;have HLD0:=aB hld0;have HSQ:=aB hsq;have HSQ1:=aB hsq1;have HLN:=aB hln;have HXA:=aB hA;have HL:=aB hl;have HSS:=aB hSQ;have HKS:=aB hKS;have HYS:=aB hYS;clear hT0 hM hN hN2 hld hld0 hsq hsq1 hln hA hl hSQ hKS hYS hcl hfirst hcell0 hhead hzc hY hz hc hR hK;generalize bF z.c=tx at *;have hidx:x.t.id=x.t.id:=rfl;clear hidx;unfold ag.val;go_enter func34,ntmps34;go_upto_region 1 with fail
 generalize hw0:World.alloc _ _=w0;obtain⟨ZS,hZS⟩:∃ ZS:Array Value,ZS=(b8 (List.replicate 16 0)).toArray:=⟨_,rfl⟩;have hS0:RtS w KX x ZS w0:=by
  rw[<-hw0,hZS];exact⟨(iU w _ _ _).1,⟨(iU w _ _ _).2.1⟩,(iU w _ _ _).2.2,aG,aF⟩
 have HZS:=aB (show ZS.size=16 by rw[hZS];rfl);have HZV:=aB hZS;clear hw0 hZS;have HS0:=aB hS0;clear hS0;refine pO 11 aC aC aC (DL [IsV (.agg KX),IsV (.pointer (some ⟨w.heap.size+1,2,none⟩)),IsV (.string x.t.id),IsV (.pointer (some ⟨w.heap.size+1,3,none⟩)),IsV (.slice (some ⟨b,o,none⟩) n x.c),IsV (.pointer (some ⟨b,o,none⟩)),IsV (.agg Y),IsV (.string tx),zH x.t.id tx,IsV (.agg (SQ 1)),AlS (w.heap.size+3) ZS]) (DL.keep _ Hz) (RtS w KX x ZS) (HS0.out.keep (Below.drew (Below.refl _ _))) (fun _ _ h hb=>h.keep hb) ?_ ?_
 ·dsimp only[List.take_succ_cons,List.take_zero,lq];refine⟨fun vals W hS hd=>?_,fun vals W hS hd=>?_,fun vals W hS hd=>?_,fun vals W hS hd=>?_,fun vals W hS hd=>?_,fun vals W hS hd=>?_,fun vals W hS hd=>?_,fun vals W hS hd=>?_,fun vals W hS hd=>?_,fun vals W hS hd=>?_,fun vals W hS hd=>?_,trivial⟩
  ·(try simp only[bP,DL,IsV,ai,Region.binds,and_true,true_and]at hd);simp only[aX,List.take_succ_cons,List.take_zero,List.drop_succ_cons,List.drop_zero,Act.put,aW,ai];(try simp only[hd]);clear hd;have hld:=jM hS.k lu;go_wp2_with (refine ay rfl 23 _ rfl ⟨w.heap.size,0,none⟩ (.agg KX) rfl hld ?_);exact⟨rfl,rfl,rfl,aG⟩
  rotate_left 5
  ·(try simp only[bP,DL,IsV,ai,Region.binds,and_true,true_and]at hd);simp only[aX,List.take_succ_cons,List.take_zero,List.drop_succ_cons,List.drop_zero,Act.put,aW,ai];(try simp only[hd]);clear hd;have hld:=HLD0.out W hS.b;exact SG
  ·(try simp only[bP,DL,IsV,ai,Region.binds,and_true,true_and]at hd);simp only[aX,List.take_succ_cons,List.take_zero,List.drop_succ_cons,List.drop_zero,Act.put,aW,ai];(try simp only[hd]);clear hd;have hbW:=hS.b;go_wp2_with (go_at_call 70;refine (HT0.out _ hbW).mono ?_;rintro e w5 ⟨rfl,hb5⟩);exact⟨rfl,rfl,rfl,aG⟩
  ·(try simp only[bP,DL,IsV,ai,Region.binds,and_true,true_and]at hd);simp only[aX,List.take_succ_cons,List.take_zero,List.drop_succ_cons,List.drop_zero,Act.put,aW,ai];(try simp only[hd]);clear hd;go_wp2;exact⟨rfl,⟨_,rfl,Ht W _ tx _ rfl⟩,rfl,aG⟩
  ·(try simp only[bP,DL,IsV,ai,Region.binds,and_true,true_and]at hd);obtain⟨e0,⟨g,e2,hr5⟩,_⟩:=hd;simp only[aX,List.take_succ_cons,List.take_zero,List.drop_succ_cons,List.drop_zero,Act.put,aW,ai];(try simp only[e0,e2]);have hbW:=hS.b;go_wp2_with (go_at_call 69;refine (HM.out _ _ hr5 hbW).mono ?_;rintro e w5 ⟨rfl,hb5⟩);exact⟨rfl,rfl,rfl,aG⟩
  ·(try simp only[bP,DL,IsV,ai,Region.binds,and_true,true_and]at hd);simp only[aX,List.take_succ_cons,List.take_zero,List.drop_succ_cons,List.drop_zero,Act.put,aW,ai];(try simp only[hd]);clear hd;have hsz:=hS.s;have hzv:=HZV.out;go_wp2;refine⟨rfl,⟨_,rfl,?_,aA⟩,rfl,aG⟩;rw[hzv];exact World.alloc_heap_new W _
  all_goals
   (try simp only[bP,DL,IsV,ai,Region.binds,and_true,true_and]at hd);simp only[aX,List.take_succ_cons,List.take_zero,List.drop_succ_cons,List.drop_zero,Act.put,aW,ai];(try simp only[hd]);clear hd;(obtain⟨y0,y1,y2,y3⟩:=hS.t.cells;rw[HLN.out,HXA.out]at y3);go_wp2;exact⟨rfl,rfl,rfl,aG⟩
 ·intro vals w9 hS9 hD9;have e9:vals 9=.agg (SQ 1):=hD9 9 aA;obtain⟨g,e10,hg9,hgz⟩:AlS (w.heap.size+3) ZS (vals 10) w9:=hD9 10 aA;simp only[aX,List.take_succ_cons,List.take_zero,List.drop_succ_cons,List.drop_zero,Act.put,aW,ai];simp only[e9,e10];clear hD9 e9 e10;have hSI:=fun i=>(show (prog.info? 30).map (·.size)=some (SQ i).size by rw[HSQ.out i];exact lM)
  have HSI:=aB hSI;clear hSI;refine wpList_store_row rfl 30 _ _ rfl g (SQ 1) rfl rfl _ ZS hg9 (HSI.out 1) (by rw[HZS.out,HSQ.out]) (HSQ1.out 1) ?_;generalize hw6:World.setRow _ _ _=w6;have hg6:aQ w6 g 30 (SQ 1):=by rw[<-hw6];exact setRow_heap _ _ _ _ _ _ hg9
  have hb6:Below (w.heap.size+3) w9 w6:=C9;have hS6:=hS9.keep3 hb6;have HG6:=aB hg6;have HS6:=aB hS6;clear hw6 hg9 hS9 HS0 hg6 hS6 hb6;go_wp2;go_loopw [6] (fun iv wr=>∃ i:Nat,1<=i/\i<=n/\iv=.int .i64 i/\Hid (aQ wr g 30 (SQ i))/\Hid (RtS w KX x ZS wr)) (fun iv _=>n-(intOf iv).toNat)
  case atStart=>exact⟨1,aA,h1,rfl,HG6,HS6⟩
  case round =>
   obtain⟨i,hi1,hin,rfl,HG,HS⟩:=hrel;clear HG6 HS6;obtain⟨y0,y1,y2,y3⟩:=HS.out.t.cells;rw[HLN.out,HXA.out]at y3;by_cases hlt:i<n
   ·obtain⟨y,hy⟩:∃ y,x.L[i]? = some y:=⟨_,List.getElem?_eq_getElem dR⟩;have hk0:(0:Int)<=(i:Int):=aA;have hk1:(i:Int)<(n:Int):=aA;have hcN:=HN.out i y hy hi1;have hldi:=HLD.out i y hy;have hnn:=HN2.out i y hy hi1;simp only[hnn,<-HSS.out]at hcN;obtain⟨Yi,hYi,hYiS⟩:∃ Yi:Array Value,af.val y.c y.m=.agg Yi/\Yi.size=7:=⟨_,rfl,rfl⟩;rw[hYi]at hcN hldi;have HCN:=aB hcN;have HLDI:=aB hldi;clear hcN hldi hnn hYi hYiS hy;go_upto_region 5 with fail
    clear y0 y1 y2 y3;refine pO 7 aC aC aC (DL [IsV (.agg (SQ i)),IsV (.pointer (some ⟨w.heap.size+1,3,none⟩)),IsV (.slice (some ⟨b,o,none⟩) n x.c),IsV (.int .i64 (i:Int)),IsV (.pointer (some ⟨b,o+i*7,none⟩)),IsV (.agg Yi),IsV (.agg (SQ (i+1)))]) (DL.keep _ Hz) (fun W=>aQ W g 30 (SQ i)/\RtS w KX x ZS W) ⟨HG.out.keep (Below.drew (Below.refl _ _)),HS.out.keep (Below.drew (Below.refl _ _))⟩ (fun _ _ h hb=>⟨h.1.keep hb,h.2.keep hb⟩) ?_ ?_
    ·dsimp only[List.take_succ_cons,List.take_zero,lq];refine⟨fun vals W hS hd=>?_,fun vals W hS hd=>?_,fun vals W hS hd=>?_,fun vals W hS hd=>?_,fun vals W hS hd=>?_,fun vals W hS hd=>?_,fun vals W hS hd=>?_,trivial⟩
     ·(try simp only[bP,DL,IsV,ai,Region.binds,and_true,true_and]at hd);simp only[aX,List.take_succ_cons,List.take_zero,List.drop_succ_cons,List.drop_zero,Act.put,aW,ai];(try simp only[hd]);clear hd;have hld:=sN hS.1 (HSQ.out i);go_wp2_with (refine ay rfl 30 _ rfl ⟨g,0,none⟩ (.agg (SQ i)) rfl hld ?_);exact⟨rfl,rfl,rfl,aG⟩
     rotate_left 4
     ·(try simp only[bP,DL,IsV,ai,Region.binds,and_true,true_and]at hd);simp only[aX,List.take_succ_cons,List.take_zero,List.drop_succ_cons,List.drop_zero,Act.put,aW,ai];(try simp only[hd]);clear hd;have hld:=HLDI.out W hS.2.b;go_wp2_with (refine ay rfl 27 _ rfl ⟨b,o+i*7,none⟩ (.agg Yi) rfl hld ?_);exact⟨rfl,rfl,rfl,aG⟩
     ·(try simp only[bP,DL,IsV,ai,Region.binds,and_true,true_and]at hd);simp only[aX,List.take_succ_cons,List.take_zero,List.drop_succ_cons,List.drop_zero,Act.put,aW,ai];(try simp only[hd]);clear hd;have hbW:=hS.2.b;go_wp2_with (go_at_call 53;refine (HCN.out _ hbW).mono ?_;rintro e w5 ⟨rfl,hb5⟩);exact⟨rfl,rfl,rfl,aG⟩
     all_goals
      exact Jn
    ·intro vals w9 hS9 hD9;have e6:vals 6=.agg (SQ (i+1)):=hD9 6 aA;simp only[aX,List.take_succ_cons,List.take_zero,List.drop_succ_cons,List.drop_zero,Act.put,aW,ai];simp only[e6];clear hD9 e6;refine wpList_store_row rfl 30 _ _ rfl g (SQ (i+1)) rfl rfl _ (SQ i) hS9.1 (HSI.out (i+1)) (by rw[HSQ.out,HSQ.out]) (HSQ1.out (i+1)) ?_;generalize hw6:World.setRow _ _ _=w6;have hg6:aQ w6 g 30 (SQ (i+1)):=by rw[<-hw6];exact setRow_heap _ _ _ _ _ _ hS9.1
     have hb6:Below (w.heap.size+3) w9 w6:=C9;have HG6:=aB hg6;have HS6:=aB (hS9.2.keep3 hb6);clear hw6 hS9 hg6 hb6;go_wp2;exact⟨⟨i+1,aA,aA,aj,HG6,HS6⟩,au⟩
   ·obtain rfl:i=n:=aA;have hz2:=fun (W:World) (hb:Below wr.heap.size wr W)=>(HS.out.keep hb).z
    have hld:=sN HG.out (HSQ.out i);have HZ2:=aB hz2;have HLG:=aB hld;clear hz2 hld;go_wp2_with (first
     | (refine ay rfl 30 _ rfl ⟨g,0,none⟩ (.agg (SQ i)) rfl HLG.out ?_)
     | (refine wpList_store_row rfl _ _ _ rfl (w.heap.size+2) (SQ i) rfl rfl _ ZS HS.out.z (HSI.out i) (by rw[HZS.out,HSQ.out]) (HSQ1.out i) ?_))
    refine bodyPost_ret (v:=.agg (SQ i)) ?_ rfl ⟨rfl,?_⟩
    ·exact results_cell_row rfl _ _ (w.heap.size+2) _ _ (0,0) _ rfl (setRow_heap _ _ _ _ _ _ HS.out.z) underlying30 rfl (HSI.out i)
    ·exact below_setRow HS.out.b aA _
theorem EQ(n:Int)(h0:0<=n)(h1:n<=1099511627777):(ae n).size<=13:=by
 rw[Lib.size_eq,wF n h0];exact (Gn n.toNat aA).1
theorem Wh{a b:ByteArray}{B:Nat}(ha:a.size<=B)(hb:b.size<=B):(orT a b).size<=B:=by
 unfold orT;split <;> assumption
theorem Jo(xs:List ByteArray)(B n:Nat)(h:∀ x∈xs,x.size<=B)(hn:xs.length<=n):(dN xs).size<=n*(B+1)+1:=by
 unfold dN;refine Wh ?_ (by show 1<=_;omega);have h1:=yw 44 B (xs.map (·.data.toList)) (by
  intro y hy;obtain⟨z,hz,rfl⟩:=List.mem_map.1 hy;have:=h z hz
  rwa [Lib.size_eq]at this)
 rw[List.length_map]at h1;have h2:xs.length*(B+1)<=n*(B+1):=Nat.mul_le_mul_right _ hn;unfold jh;rw[Lib.size_eq];show (Lib.join _ _).length<=_;omega
theorem aPp(c:UInt8)(l:List (List UInt8)):(Lib.join l [c]).length<=Lib.lens l+l.length:=by
 cases l with
 | nil=>simp[Lib.join_nil]
 | cons x r =>
  rw[Lib.join_cons,List.length_append,Lib.joinTail_length];simp only[Lib.lens,List.map_cons,List.sum_cons,List.length_cons,List.length_nil,Nat.zero_add,Nat.one_mul];omega
theorem aPq{c:aZ}(hv:bG c=true)(hf:pV c=true):(bF c).size<=6000:=by
 have ok:=(mi c).1 hv;unfold pV xP at hf;simp only[Bool.and_eq_true,decide_eq_true_eq,List.all_eq_true]at hf;obtain⟨⟨⟨⟨⟨h1,h2⟩,h3⟩,h4⟩,h5⟩,h6⟩:=hf;have f0:=EQ c.fr ok.fr0 (by have:=ok.fr1;omega);have f1:=EQ c.till ok.to0 ok.to1;have f6:=EQ c.us ok.us0 (by have:=ok.us1;omega);have f2:(orT c.pat ⟨#[126]⟩).size<=1000:=Wh h4 aK;have f3:=Jo c.cl 100 32 (fun x hx=>h5 x hx) ok.clLen;have f4:=Jo c.co 2 32 (fun x hx=>by
  have:=ok.co x hx;unfold dm at this;simp only[Bool.and_eq_true,decide_eq_true_eq]at this;omega) ok.coLen
 have f5:=Jo (c.si.map ae) 13 64 (by
  intro x hx;obtain⟨n,hn,rfl⟩:=List.mem_map.1 hx;have hs:=ok.si n hn;simp only[ed,Bool.and_eq_true,decide_eq_true_eq]at hs;exact EQ n aA aA) (by rw[List.length_map];exact ok.siLen)
 have hj:=aPp 32 ((jU c).map (·.data.toList));unfold bF;rw[Lib.size_eq];show (Lib.join _ _).length<=_;have hl:((jU c).map (·.data.toList)).length=7:=rfl;have he:Lib.lens ((jU c).map (·.data.toList))=(ae c.fr).size+(ae c.till).size+(orT c.pat ⟨#[126]⟩).size+(dN c.cl).size+(dN c.co).size+(dN (c.si.map ae)).size+(ae c.us).size:=by
  simp only[Lib.lens,jU,List.map_cons,List.map_nil,List.sum_cons,List.sum_nil,Lib.size_eq];omega
 rw[hl,he]at hj;omega
theorem aPr(x:ag)(w:World)(hR:bV w x)(hn:x.t.conds.length<=9223372036854775807):Calls prog 10 #[x.val] w (Ret w (.bool (qi x.t))):=by
 have cP:=fun (y:CoM) (hy:y∈x.L) (W:World) (hb:Below w.heap.size w W)=>aNj y.c y.m W ((hR.conds.each y hy).keep hb)
 have hl:=hR.conds.len;unfold qi;rw[<-WT hR];obtain⟨V,hV⟩:∃ V,V=x.L.all (fun y=>pV y.c):=⟨_,rfl⟩;rw[<-hV];have hA:=hR.conds;obtain⟨pr,hpr⟩:∃ pr,pr=pV:=⟨_,rfl⟩;rw[<-hpr]at hV cP;generalize hln:x.t.conds.length=n at *;have HP:=aB cP;have HA:=aB hA;have HL:=aB hl;have HV:=aB hV;have HLN:=aB hln;clear cP hA hl hV hR hln hpr;unfold ag.val;go_enter func10,ntmps10;go_upto_region 1 with fail
 generalize hw0:World.alloc _ _=w0;have B0:fB w0 w.heap.size x:=⟨qU⟩;have hb0:Below w.heap.size w w0:=sJ;clear hw0;go_wp2;go_loopw [3] (fun i wr=>∃ k:Nat,k<=n/\i=.int .i64 k/\Hid (V=(x.L.drop k).all (fun y=>pr y.c))/\fB wr w.heap.size x/\Below w.heap.size w wr) (fun i _=>n-(intOf i).toNat)
 case atStart=>exact⟨0,aA,rfl,aB (by rw[HV.out];rfl),B0,hb0⟩
 case round =>
  obtain⟨k,hk,rfl,HI,B,hb⟩:=hrel;obtain⟨y0,y1,y2,y3⟩:=B.cells;rw[HLN.out]at y3;by_cases hlt:k<n
  ·obtain⟨x1,hx⟩:∃ x1,x.L[k]? = some x1:=⟨_,List.getElem?_eq_getElem dR⟩;obtain⟨_,b,o,hA,hcell⟩:=(HA.out.keep hb).at_ hx;rw[hA]at y3;have hld:=lZ wr b (o+k*7) x1 hcell;have hc:=HP.out x1 (List.mem_of_getElem? hx) wr hb;have hk0:(0:Int)<=(k:Int):=aA;have hk1:(k:Int)<(n:Int):=aA;clear hcell hA;generalize af.val x1.c x1.m=xv at hld hc;have HLD:=aB hld;clear hld;cases hpx:pr x1.c
   ·rw[hpx]at hc;have HC:=aB hc;have hVf:V=false:=by rw[HI.out];exact WS (fun y=>pr y.c) _ _ _ hx hpx
    subst hVf;clear hc hx hpx;rw[Bool.false_and];exact WW
   ·exact WX
  ·have hVt:V=true:=WY;subst hVt;by_cases h20:n<=20
   ·have i1:(n:Int)<=20:=aA;go_wp2;go_ret;exact⟨dX Wi,hb⟩
   ·have i1:¬ (n:Int)<=20:=aA;go_wp2;go_ret;exact⟨dX Wi,hb⟩
structure RbS(w:World)(x:ag)(W:World):Prop where
 t:fB W w.heap.size x
 b:Below w.heap.size w W
theorem RbS.keep{w W W':World}{x:ag}(h:RbS w x W)(hb:Below W.heap.size W W'):RbS w x W':=⟨h.t.keep hb,aN h.b hb⟩
theorem ES{t:dB}(h:qi t=true):(∀ c∈t.conds,pV c=true)/\t.conds.length<=20/\t.id.size<=200:=by
 unfold qi at h;simp only[Bool.and_eq_true,decide_eq_true_eq,List.all_eq_true]at h;exact h
theorem Jp{w:World}{x:ag}(hR:bV w x)(h:qi x.t=true):∀ y∈x.L,pV y.c=true:=fun y hy=>(ES h).1 y.c (by rw[<-hR.same];exact List.mem_map_of_mem hy)
theorem Wj{w:World}{x:ag}(hR:bV w x)(h:fK x.t=true):∀ y∈x.L,bG y.c=true:=fun y hy=>((uS _).1 h).all y.c (by rw[<-hR.same];exact List.mem_map_of_mem hy)
end Go.Proofs.YtlkbkclnbppigaaGreatDoor
