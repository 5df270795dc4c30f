/- What the condition package's outside returns, of each kind of lists; and Implies. -/
import Derived.Test.YtlkbkclnbppigaaGreatDoorWY2
import Derived.Test.YtlkbkclnbppigaaGreatDoorIZ30
set_option maxHeartbeats 8000000
namespace Go.Proofs.YtlkbkclnbppigaaGreatDoor
open Tryz
open Go.RowKit Go.Sort
set_option linter.unusedVariables false
set_option linter.unusedSimpArgs false
set_option maxRecDepth 100000
def aDq(r:Option aC):Value:=.tuple #[.string (r.getD ⟨#[]⟩),.bool r.isSome]
def aFq(r:Option Int):Value:=.tuple #[.int .i64 (r.getD 0),.bool r.isSome]
theorem aJh(r:Option aC):aCr r=aDq r:=by cases r <;> rfl
theorem aNq(r:Option Int):aCs r=aFq r:=by cases r <;> rfl
theorem aNr(A:Option Addr)(na ca:Nat)(B:Option Addr)(nb cb:Nat)(xs ys:List aC)(w:World)(hA:aI w 1 A na (xs.map .string))(hB:aI w 1 B nb (ys.map .string))(h1:na<=1000000)(h2:nb<=1000000) :
  Calls prog 154 #[.slice A na ca,.slice B nb cb,.func (.func 155) #[] #[]] w (Ret w (aDq (Bf xs ys VG))):=by
 have hl:xs.length=na:=jK;rw[<-aJh];unfold Bf;rcases Nat.eq_zero_or_pos na with h0 | h0
 ·subst h0;obtain rfl:xs=[]:=List.eq_nil_of_length_eq_zero hl;exact aIo A ca B nb cb ys VG 155 w (enters_of func155 aG rfl) aNn hB aB
 ·exact aJi
theorem aNs(A:Option Addr)(na ca:Nat)(B:Option Addr)(nb cb:Nat)(xs ys:List aC)(w:World)(hA:aI w 1 A na (xs.map .string))(hB:aI w 1 B nb (ys.map .string))(h1:na<=1000000)(h2:nb<=1000000) :
  Calls prog 154 #[.slice A na ca,.slice B nb cb,.func (.func 156) #[] #[]] w (Ret w (aDq (Bf xs ys VH))):=by
 have hl:xs.length=na:=jK;rw[<-aJh];unfold Bf;rcases Nat.eq_zero_or_pos na with h0 | h0
 ·subst h0;obtain rfl:xs=[]:=List.eq_nil_of_length_eq_zero hl;exact aIo A ca B nb cb ys VH 156 w (enters_of func156 aG rfl) aNo hB aB
 ·exact aJi
theorem aNt(A:Option Addr)(na ca:Nat)(B:Option Addr)(nb cb:Nat)(xs ys:List Int)(w:World)(hA:aI w 1 A na (xs.map (.int .i64)))(hB:aI w 1 B nb (ys.map (.int .i64)))(h1:na<=1000000)(h2:nb<=1000000) :
  Calls prog 157 #[.slice A na ca,.slice B nb cb,.func (.func 158) #[] #[]] w (Ret w (aFq (Bf xs ys Bg))):=by
 have hl:xs.length=na:=jK;rw[<-aNq];unfold Bf;rcases Nat.eq_zero_or_pos na with h0 | h0
 ·subst h0;obtain rfl:xs=[]:=List.eq_nil_of_length_eq_zero hl;exact aNh A ca B nb cb ys Bg 158 w (enters_of func158 aG rfl) aNk hB aB
 ·have he:xs.isEmpty=false:=yJ;rw[he];exact aNj A na ca B nb cb ys xs _ w hA hB h0 aB aB
theorem aNu(q p:aC)(hq:gY q=true)(hp:gY p=true):∃ x y,dI (nN q)=some x/\dI (nN p)=some y/\I5 (dI (nN q)) (dI (nN p))=.tuple #[.bool (BC x y),.string (if BC x y then ⟨#[]⟩ else Hy x y),.int .i64 0]:=by
 obtain⟨x,hx,_⟩:=aBi hq;obtain⟨y,hy,_⟩:=aBi hp;exact⟨x,y,hx,hy,by rw[hx,hy];rfl⟩
theorem iJ.set45{w:World}{g:Nat}{ad cl co:aC}{si lo hi lo2 hi2:Int}(h:iJ w g ad cl co si lo hi):iJ ((w.setCell ⟨g,4,none⟩ (.int .i64 lo2)).setCell ⟨g,5,none⟩ (.int .i64 hi2)) g ad cl co si lo2 hi2:=Blk.set_ (Blk.set_ h 4 (.int .i64 lo2)) 5 (.int .i64 hi2)
theorem aNv{a b:aY}(h:a.till<=a.fr):JD a b=(true,qY):=by unfold JD;rw[if_pos h]
theorem aNw{a b:aY}(h:¬ a.till<=a.fr)(h1:a.fr<b.fr):JD a b=(false,qZ a):=by unfold JD;rw[if_neg h,if_pos h1]
theorem aNx{a b:aY}(h:¬ a.till<=a.fr)(h1:¬ a.fr<b.fr)(h2:b.till<a.till):JD a b=(false,{ qZ a with lo:=a.till-1,hi:=a.till-1 }):=by unfold JD;rw[if_neg h,if_neg h1,if_pos h2]
theorem aNy{a b:aY}(h:¬ a.till<=a.fr)(h1:¬ a.fr<b.fr)(h2:¬ b.till<a.till){x y:Pat}(hx:dI (nN b.pat)=some x)(hy:dI (nN a.pat)=some y) :
  JD a b=if BC x y then (match Bf a.cl b.cl VG,Bf a.co b.co VH,Bf a.si b.si Bg with
    | some s,_,_=>(false,{ qZ a with client:=s })
    | none,some s,_=>(false,{ qZ a with country:=s })
    | none,none,some n=>(false,{ qZ a with site:=n })
    | none,none,none=>(true,qY))
   else (false,{ qZ a with addr:=Hy x y }):=by
 unfold JD
 rw[if_neg h,if_neg h1,if_neg h2,hx,hy]
 rfl
theorem aNz(a b:aY)(ma mb:ae)(w:World)(hRa:dA w a ma)(hRb:dA w b mb)(hfa:dE a)(hfb:dE b)(hva:bF a=true)(hvb:bF b=true)(hE:Env w) :
  Calls prog 90 #[ae.val a ma,ae.val b mb] w (Ret w (aFj ((JD a b).1,(JD a b).2,0))):=by
 have c1:=fun W (hb:aF w W)=>hva▸qX a ma W (hRa.keep hb) hfa.p hfa.cl hfa.co hfa.n1 hfa.n2 hfa.n3 (hE.keep hb)
 have c2:=fun W (hb:aF w W)=>hvb▸qX b mb W (hRb.keep hb) hfb.p hfb.cl hfb.co hfb.n1 hfb.n2 hfb.n3 (hE.keep hb)
 have c3:=fun W (hb:aF w W)=>aNc a ma W (hRa.keep hb) hfa (hE.keep hb)
 have c4b:=fun W=>aFi b mb W
 have c4a:=fun W=>aFi a ma W
 obtain⟨x,y,hx,hy,hcs⟩:=aNu b.pat a.pat (Jp hvb) (Jp hva);have c5:=fun W (hb:aF w W)=>hcs▸aNp (nN b.pat) (nN a.pat) W (aFh hfb.p) (aFh hfa.p) (hE.keep hb)
 have c6:=fun W (hb:aF w W)=>aNr ma.A a.cl.length ma.ca mb.A b.cl.length mb.ca a.cl b.cl W (hRa.cl.keep hb) (hRb.cl.keep hb) hfa.n1 hfb.n1
 have c7:=fun W (hb:aF w W)=>aNs ma.B a.co.length ma.cb mb.B b.co.length mb.cb a.co b.co W (hRa.co.keep hb) (hRb.co.keep hb) hfa.n2 hfb.n2
 have c8:=fun W (hb:aF w W)=>aNt ma.S a.si.length ma.cs mb.S b.si.length mb.cs a.si b.si W (hRa.si.keep hb) (hRb.si.keep hb) hfa.n3 hfb.n3
 have e1:=@aNv a b;have e2:=@aNw a b;have e3:=@aNx a b;have e4:=fun h h1 h2=>@aNy a b h h1 h2 x y hx hy
 have ht:=((mP a).1 hva).to0;have ht2:=((mP a).1 hva).to1;obtain⟨V,hV⟩:∃ V,V=aFj ((JD a b).1,(JD a b).2,0):=⟨_,rfl⟩;rw[<-hV];generalize JD a b=ir at *;generalize qZ a=s at *;generalize Bf a.cl b.cl VG=o1 at *;generalize Bf a.co b.co VH=o2 at *;generalize Bf a.si b.si Bg=o3 at *;generalize nN a.pat=pta at *;generalize nN b.pat=ptb at *;generalize hwx:(if BC x y then (⟨#[]⟩:aC) else Hy x y)=wx at *;obtain⟨cv,hcv⟩:∃ cv,cv=BC x y:=⟨_,rfl⟩;rw[<-hcv]at c5 e4 hwx;obtain⟨g1,hg1⟩:∃ g,g=o1.getD ⟨#[]⟩:=⟨_,rfl⟩;obtain⟨g2,hg2⟩:∃ g,g=o2.getD ⟨#[]⟩:=⟨_,rfl⟩;obtain⟨g3,hg3⟩:∃ g,g=o3.getD 0:=⟨_,rfl⟩;obtain⟨i1,hi1⟩:∃ i,i=o1.isSome:=⟨_,rfl⟩;obtain⟨i2,hi2⟩:∃ i,i=o2.isSome:=⟨_,rfl⟩;obtain⟨i3,hi3⟩:∃ i,i=o3.isSome:=⟨_,rfl⟩;unfold aDq at c6 c7;unfold aFq at c8;rw[<-hg1,<-hi1]at c6;rw[<-hg2,<-hi2]at c7;rw[<-hg3,<-hi3]at c8;have hO1:o1=if i1=true then some g1 else none:=by rw[hg1,hi1];cases o1 <;> rfl
 have hO2:o2=if i2=true then some g2 else none:=by rw[hg2,hi2];cases o2 <;> rfl
 have hO3:o3=if i3=true then some g3 else none:=by rw[hg3,hi3];cases o3 <;> rfl
 obtain⟨fa,ta,pa,cla,coa,sia,ua⟩:=a;obtain⟨fb,tb,pb,clb,cob,sib,ub⟩:=b;obtain⟨A,ca,B,cb,S,cs⟩:=ma;obtain⟨A',ca',B',cb',S',cs'⟩:=mb;obtain⟨ad,kl,ko,st,lo,hi⟩:=s;unfold ae.val at c1 c2 c3 c4a c4b ⊢;unfold dN.val at c3;dsimp only at c1 c2 c3 c4a c4b c6 c7 c8 e1 e2 e3 e4 ht ht2 ⊢;have C1:=aA c1;have C2:=aA c2;have C3:=aA c3;have C4A:=aA c4a;have C4B:=aA c4b;have C5:=aA c5;have C6:=aA c6;have C7:=aA c7;have C8:=aA c8;have E1:=aA e1;have E2:=aA e2;have E3:=aA e3;have E4:=aA e4;have O1zz:=aA hO1;have O2:=aA hO2;have O3:=aA hO3;have HWX:=aA hwx;have HV:=aA hV;clear c1 c2 c3 c4a c4b c5 c6 c7 c8 e1 e2 e3 e4 hO1 hO2 hO3 hg1 hg2 hg3 hi1 hi2 hi3 hRa hRb hfa hfb hva hvb hE hcs hx hy hwx hV hcv;by_cases t1:ta<=fa
 ·obtain rfl:V=.tuple #[.bool true,.agg #[.string ⟨#[]⟩,.string ⟨#[]⟩,.string ⟨#[]⟩,.int .i64 0,.int .i64 0,.int .i64 0],.int .i64 0]:=by rw[HV.out,E1.out t1];rfl
  have d1:decide (ta<=fa)=true:=decide_eq_true t1;clear HV E1 E2 E3 E4;go_enter func90,ntmps90;go_wp2_with (first | (go_at_call 49;refine (C1.out _ aJ).mono ?_;rintro e w2 ⟨rfl,hb2⟩;have hbw:aF w w2:=aJ;clear C1;(have hX2:aX w2 w.heap.size fa ta pa A cla.length ca B coa.length cb S sia.length cs ua:=aDr);(have hY2:aX w2 (w.heap.size+1) fb tb pb A' clb.length ca' B' cob.length cb' S' sib.length cs' ub:=aDs);(have hZ2:iJ w2 (w.heap.size+1+1) ⟨#[]⟩ ⟨#[]⟩ ⟨#[]⟩ 0 0 0:=aDt);(try clear x0 x1 x2 x3 x4 x5 x6 y0 y1 y2 y3 y4 y5 y6);(obtain⟨x0,x1,x2,x3,x4,x5,x6⟩:=hX2.facts;obtain⟨y0,y1,y2,y3,y4,y5,y6⟩:=hY2.facts)) | (go_at_call 49;refine (C2.out _ hbw).mono ?_;rintro e w2 ⟨rfl,hb2⟩;replace hbw:=aV hbw hb2;clear C2;(have hX2:aX w2 w.heap.size fa ta pa A cla.length ca B coa.length cb S sia.length cs ua:=aDr);(have hY2:aX w2 (w.heap.size+1) fb tb pb A' clb.length ca' B' cob.length cb' S' sib.length cs' ub:=aDs);(have hZ2:iJ w2 (w.heap.size+1+1) ⟨#[]⟩ ⟨#[]⟩ ⟨#[]⟩ 0 0 0:=aDt);(try clear x0 x1 x2 x3 x4 x5 x6 y0 y1 y2 y3 y4 y5 y6);(obtain⟨x0,x1,x2,x3,x4,x5,x6⟩:=hX2.facts;obtain⟨y0,y1,y2,y3,y4,y5,y6⟩:=hY2.facts);(obtain⟨z0,z1,z2,z3,z4,z5⟩:=hZ2.facts;have q0:=hZ2.free0 0;have q1:=hZ2.free0 1;have q2:=hZ2.free0 2;have q3:=hZ2.free0 3;have q4:=hZ2.free0 4;have q5:=hZ2.free0 5)));exact aJj
 have d1:decide (ta<=fa)=false:=decide_eq_false t1;go_enter func90,ntmps90;go_upto_region 6 with (((first | (go_at_call 49;refine (C1.out _ aJ).mono ?_;rintro e w2 ⟨rfl,hb2⟩;have hbw:aF w w2:=aJ;clear C1) | (go_at_call 49;refine (C2.out _ hbw).mono ?_;rintro e w2 ⟨rfl,hb2⟩;replace hbw:=aV hbw hb2;clear C2) | (go_at_call 152;refine (C3.out _ hbw).mono ?_;rintro e w2 ⟨rfl,hb2⟩;replace hbw:=aV hbw hb2;clear C3));(have hX2:aX w2 w.heap.size fa ta pa A cla.length ca B coa.length cb S sia.length cs ua:=aDr);(have hY2:aX w2 (w.heap.size+1) fb tb pb A' clb.length ca' B' cob.length cb' S' sib.length cs' ub:=aDs);(have hZ2:iJ w2 (w.heap.size+1+1) ⟨#[]⟩ ⟨#[]⟩ ⟨#[]⟩ 0 0 0:=aDt);(try clear x0 x1 x2 x3 x4 x5 x6 y0 y1 y2 y3 y4 y5 y6);(obtain⟨x0,x1,x2,x3,x4,x5,x6⟩:=hX2.facts;obtain⟨y0,y1,y2,y3,y4,y5,y6⟩:=hY2.facts)))
 obtain⟨gq,hgq⟩:∃ gq,gq=w2.heap.size:=⟨_,rfl⟩;obtain⟨W6,hW6⟩:∃ W6,W6=w2.alloc (.cells #[.string ad,.string kl,.string ko,.int .i64 st,.int .i64 lo,.int .i64 hi] 59):=⟨_,rfl⟩;have hb6:aF w2 W6:=by rw[hW6];exact aU (Below.refl _ _) _
 have hQ6:iJ W6 gq ad kl ko st lo hi:=by rw[hW6,hgq];exact World.alloc_heap_new _ _
 have hX6:=Blk.keep hX2 hb6;have hY6:=Blk.keep hY2 hb6;have hZ6:=Blk.keep hZ2 hb6;have hbw6:=aV hbw hb6;have hgz:w.heap.size+1+1<gq:=by rw[hgq];exact Blk.lt hZ2
 rw[<-hW6,<-hgq];clear hX2 hY2 hZ2 hbw hW6 x0 x1 x2 x3 x4 x5 x6 y0 y1 y2 y3 y4 y5 y6 hb2;have HX6:Hid (aX W6 w.heap.size fa ta pa A cla.length ca B coa.length cb S sia.length cs ua):=aA hX6;have HY6:Hid (aX W6 (w.heap.size+1) fb tb pb A' clb.length ca' B' cob.length cb' S' sib.length cs' ub):=aA hY6;have HZ6:Hid (iJ W6 (w.heap.size+1+1) ⟨#[]⟩ ⟨#[]⟩ ⟨#[]⟩ 0 0 0):=aA hZ6;have HQ6:=aA hQ6;have HB6:=aA hbw6;have K5:=aA (fun W (hb:aF W6 W)=>C5.out W (aV hbw6 hb));clear hX6 hY6 hZ6 hQ6 hbw6 hb6 hgq C5;obtain⟨x0,x1,x2,x3,x4,x5,x6⟩:=HX6.out.facts;obtain⟨y0,y1,y2,y3,y4,y5,y6⟩:=HY6.out.facts;have r0:=cell_regrown x0;have r1:=cell_regrown x1;have r2:=cell_regrown x2;have r3:=cell_regrown x3;have r4:=cell_regrown x4;have r5:=cell_regrown x5;have r6:=cell_regrown x6;have s0:=cell_regrown y0;have s1:=cell_regrown y1;have s2:=cell_regrown y2;have s3:=cell_regrown y3;have s4:=cell_regrown y4;have s5:=cell_regrown y5;have s6:=cell_regrown y6;refine wp_region_quiet_below aG aG ?_;(repeat (any_goals (first | go_big_quiet_step ((first | (with_reducible exact jS C4B.out _ _) | (with_reducible exact jS C4A.out _ _) | (with_reducible exact jT K5.out _ _))) | quiet_step ((first | (with_reducible exact jS C4B.out _ _) | (with_reducible exact jS C4A.out _ _) | (with_reducible exact jT K5.out _ _))))));refine wpQuiet_nil ?_;intro _ hwq;obtain⟨⟨dq,osq⟩,hwq⟩:=hwq;subst hwq;have hbq:=below_regrown (W6) dq osq;generalize grow (redrawn (W6) dq) osq=wq at *;clear x0 x1 x2 x3 x4 x5 x6 y0 y1 y2 y3 y4 y5 y6 r0 r1 r2 r3 r4 r5 r6 s0 s1 s2 s3 s4 s5 s6 K5 C4A C4B;have hX2:aX wq w.heap.size fa ta pa A cla.length ca B coa.length cb S sia.length cs ua:=Blk.keep HX6.out hbq;have hY2:aX wq (w.heap.size+1) fb tb pb A' clb.length ca' B' cob.length cb' S' sib.length cs' ub:=Blk.keep HY6.out hbq;have hZ2:iJ wq (w.heap.size+1+1) ⟨#[]⟩ ⟨#[]⟩ ⟨#[]⟩ 0 0 0:=Blk.keep HZ6.out hbq;have hQ2:iJ wq gq ad kl ko st lo hi:=Blk.keep HQ6.out hbq;have hbw:=aV HB6.out hbq;clear HX6 HY6 HZ6 HQ6 HB6 hbq;(obtain⟨x0,x1,x2,x3,x4,x5,x6⟩:=hX2.facts;obtain⟨y0,y1,y2,y3,y4,y5,y6⟩:=hY2.facts);go_upto_region 11 with (((first | (go_at_call 154;refine (C6.out _ hbw).mono ?_;rintro e w2 ⟨rfl,hb2⟩;replace hbw:=aV hbw hb2;clear C6) | (go_at_call 154;refine (C7.out _ hbw).mono ?_;rintro e w2 ⟨rfl,hb2⟩;replace hbw:=aV hbw hb2;clear C7) | (go_at_call 157;refine (C8.out _ hbw).mono ?_;rintro e w2 ⟨rfl,hb2⟩;replace hbw:=aV hbw hb2;clear C8));have hQ2:iJ w2 gq ad kl ko st lo hi:=Blk.keep hQ2 hb2;(have hX2:aX w2 w.heap.size fa ta pa A cla.length ca B coa.length cb S sia.length cs ua:=aDr);(have hY2:aX w2 (w.heap.size+1) fb tb pb A' clb.length ca' B' cob.length cb' S' sib.length cs' ub:=aDs);(have hZ2:iJ w2 (w.heap.size+1+1) ⟨#[]⟩ ⟨#[]⟩ ⟨#[]⟩ 0 0 0:=aDt);(try clear x0 x1 x2 x3 x4 x5 x6 y0 y1 y2 y3 y4 y5 y6);(obtain⟨x0,x1,x2,x3,x4,x5,x6⟩:=hX2.facts;obtain⟨y0,y1,y2,y3,y4,y5,y6⟩:=hY2.facts)))
 have HX2:=aA hX2;have HY2:=aA hY2;have HZ2:=aA hZ2;have HQ2:=aA hQ2;have HBW:=aA hbw;clear hX2 hY2 hZ2 hQ2 hbw hb2;by_cases t2:fa<fb
 ·obtain rfl:V=.tuple #[.bool false,.agg #[.string ad,.string kl,.string ko,.int .i64 st,.int .i64 lo,.int .i64 hi],.int .i64 0]:=by rw[HV.out,E2.out t1 t2];rfl
  have d2:decide (fa<fb)=true:=decide_eq_true t2;clear HV E1 E2 E3 E4;go_upto_region 22 with fail
  have hQ:=HQ2.out;have hZ2:=HZ2.out;have hbw:=HBW.out;obtain⟨m0,m1,m2,m3,m4,m5⟩:=hQ.facts;(obtain⟨z0,z1,z2,z3,z4,z5⟩:=hZ2.facts;have q0:=hZ2.free0 0;have q1:=hZ2.free0 1;have q2:=hZ2.free0 2;have q3:=hZ2.free0 3;have q4:=hZ2.free0 4;have q5:=hZ2.free0 5);go_region;go_wp2;obtain⟨p0,p1,p2,p3,p4,p5⟩:=(hZ2.put ad kl ko st lo hi).facts;clear x0 x1 x2 x3 x4 x5 x6 y0 y1 y2 y3 y4 y5 y6 z0 z1 z2 z3 z4 z5 q0 q1 q2 q3 q4 q5;exact bodyPost_ret (v:=.tuple #[.bool false,.agg #[.string ad,.string kl,.string ko,.int .i64 st,.int .i64 lo,.int .i64 hi],.int .i64 0]) aBy rfl ⟨rfl,(V4 hbw aB _ _ _ _ _ _).drew⟩
 have d2:decide (fa<fb)=false:=decide_eq_false t2;by_cases t3:tb<ta
 ·obtain rfl:V=.tuple #[.bool false,.agg #[.string ad,.string kl,.string ko,.int .i64 st,.int .i64 (ta-1),.int .i64 (ta-1)],.int .i64 0]:=by rw[HV.out,E3.out aB aB aB];rfl
  have d3:decide (tb<ta)=true:=decide_eq_true t3;clear HV E1 E2 E3 E4;obtain⟨m0,m1,m2,m3,m4,m5⟩:=HQ2.out.facts;have n0:=HQ2.out.free0 0;have n1:=HQ2.out.free0 1;have n2:=HQ2.out.free0 2;have n3:=HQ2.out.free0 3;have n4:=HQ2.out.free0 4;have n5:=HQ2.out.free0 5;go_upto_region 22 with fail
  obtain⟨W22,hW22⟩:∃ W,W=(w2.setCell ⟨gq,4,none⟩ (.int .i64 (ta-1))).setCell ⟨gq,5,none⟩ (.int .i64 (ta-1)):=⟨_,rfl⟩;have hQ:iJ W22 gq ad kl ko st (ta-1) (ta-1):=by rw[hW22];exact HQ2.out.set45
  have hZ2:iJ W22 (w.heap.size+1+1) ⟨#[]⟩ ⟨#[]⟩ ⟨#[]⟩ 0 0 0:=by rw[hW22];exact (Blk.far (Blk.far HZ2.out ⟨gq,4,none⟩ _ aP) ⟨gq,5,none⟩ _ aP)
  have hbw:aF w W22:=by rw[hW22];exact (HBW.out.setCell (p:=⟨gq,4,none⟩) aP _).setCell (p:=⟨gq,5,none⟩) aP _
  rw[<-hW22];clear hW22 m0 m1 m2 m3 m4 m5 n0 n1 n2 n3 n4 n5 x0 x1 x2 x3 x4 x5 x6 y0 y1 y2 y3 y4 y5 y6;obtain⟨m0,m1,m2,m3,m4,m5⟩:=hQ.facts;(obtain⟨z0,z1,z2,z3,z4,z5⟩:=hZ2.facts;have q0:=hZ2.free0 0;have q1:=hZ2.free0 1;have q2:=hZ2.free0 2;have q3:=hZ2.free0 3;have q4:=hZ2.free0 4;have q5:=hZ2.free0 5);go_region;go_wp2;obtain⟨p0,p1,p2,p3,p4,p5⟩:=(hZ2.put ad kl ko st ((ta-1)) ((ta-1))).facts;clear z0 z1 z2 z3 z4 z5 q0 q1 q2 q3 q4 q5;exact bodyPost_ret (v:=.tuple #[.bool false,.agg #[.string ad,.string kl,.string ko,.int .i64 st,.int .i64 (ta-1),.int .i64 (ta-1)],.int .i64 0]) aBy rfl ⟨rfl,(V4 hbw aB _ _ _ _ _ _).drew⟩
 have d3:decide (tb<ta)=false:=decide_eq_false t3;have hV2:=E4.out aB aB aB;rw[O1zz.out,O2.out,O3.out]at hV2;have hVV:=HV.out;rw[hV2]at hVV;have hwx:=HWX.out;clear HV E1 E2 E3 E4 O1zz O2 O3 HWX hV2;cases cv
 ·obtain rfl:V=.tuple #[.bool false,.agg #[.string wx,.string kl,.string ko,.int .i64 st,.int .i64 lo,.int .i64 hi],.int .i64 0]:=by rw[hVV,<-hwx];rfl
  clear hVV hwx;obtain⟨m0,m1,m2,m3,m4,m5⟩:=HQ2.out.facts;have n0:=HQ2.out.free0 0;have n1:=HQ2.out.free0 1;have n2:=HQ2.out.free0 2;have n3:=HQ2.out.free0 3;have n4:=HQ2.out.free0 4;have n5:=HQ2.out.free0 5;go_upto_region 22 with fail
  obtain⟨W22,hW22⟩:∃ W,W=w2.setCell ⟨gq,0,none⟩ (.string wx):=⟨_,rfl⟩;have hQ:iJ W22 gq wx kl ko st lo hi:=by rw[hW22];exact HQ2.out.set0
  have hZ2:iJ W22 (w.heap.size+1+1) ⟨#[]⟩ ⟨#[]⟩ ⟨#[]⟩ 0 0 0:=by rw[hW22];exact Blk.far HZ2.out ⟨gq,0,none⟩ _ aP
  have hbw:aF w W22:=by rw[hW22];exact HBW.out.setCell (p:=⟨gq,0,none⟩) aP _
  rw[<-hW22];clear hW22 m0 m1 m2 m3 m4 m5 n0 n1 n2 n3 n4 n5 x0 x1 x2 x3 x4 x5 x6 y0 y1 y2 y3 y4 y5 y6;obtain⟨m0,m1,m2,m3,m4,m5⟩:=hQ.facts;(obtain⟨z0,z1,z2,z3,z4,z5⟩:=hZ2.facts;have q0:=hZ2.free0 0;have q1:=hZ2.free0 1;have q2:=hZ2.free0 2;have q3:=hZ2.free0 3;have q4:=hZ2.free0 4;have q5:=hZ2.free0 5);go_region;go_wp2;obtain⟨p0,p1,p2,p3,p4,p5⟩:=(hZ2.put wx kl ko st lo hi).facts;clear z0 z1 z2 z3 z4 z5 q0 q1 q2 q3 q4 q5;exact bodyPost_ret (v:=.tuple #[.bool false,.agg #[.string wx,.string kl,.string ko,.int .i64 st,.int .i64 lo,.int .i64 hi],.int .i64 0]) aBy rfl ⟨rfl,(V4 hbw aB _ _ _ _ _ _).drew⟩
 cases i1;rotate_left
 ·obtain rfl:V=.tuple #[.bool false,.agg #[.string ad,.string g1,.string ko,.int .i64 st,.int .i64 lo,.int .i64 hi],.int .i64 0]:=by rw[hVV];rfl
  clear hVV hwx;obtain⟨m0,m1,m2,m3,m4,m5⟩:=HQ2.out.facts;have n0:=HQ2.out.free0 0;have n1:=HQ2.out.free0 1;have n2:=HQ2.out.free0 2;have n3:=HQ2.out.free0 3;have n4:=HQ2.out.free0 4;have n5:=HQ2.out.free0 5;go_upto_region 22 with fail
  obtain⟨W22,hW22⟩:∃ W,W=w2.setCell ⟨gq,1,none⟩ (.string g1):=⟨_,rfl⟩;have hQ:iJ W22 gq ad g1 ko st lo hi:=by rw[hW22];exact HQ2.out.set1
  have hZ2:iJ W22 (w.heap.size+1+1) ⟨#[]⟩ ⟨#[]⟩ ⟨#[]⟩ 0 0 0:=by rw[hW22];exact Blk.far HZ2.out ⟨gq,1,none⟩ _ aP
  have hbw:aF w W22:=by rw[hW22];exact HBW.out.setCell (p:=⟨gq,1,none⟩) aP _
  rw[<-hW22];clear hW22 m0 m1 m2 m3 m4 m5 n0 n1 n2 n3 n4 n5 x0 x1 x2 x3 x4 x5 x6 y0 y1 y2 y3 y4 y5 y6;obtain⟨m0,m1,m2,m3,m4,m5⟩:=hQ.facts;(obtain⟨z0,z1,z2,z3,z4,z5⟩:=hZ2.facts;have q0:=hZ2.free0 0;have q1:=hZ2.free0 1;have q2:=hZ2.free0 2;have q3:=hZ2.free0 3;have q4:=hZ2.free0 4;have q5:=hZ2.free0 5);go_region;go_wp2;obtain⟨p0,p1,p2,p3,p4,p5⟩:=(hZ2.put ad g1 ko st lo hi).facts;clear z0 z1 z2 z3 z4 z5 q0 q1 q2 q3 q4 q5;exact bodyPost_ret (v:=.tuple #[.bool false,.agg #[.string ad,.string g1,.string ko,.int .i64 st,.int .i64 lo,.int .i64 hi],.int .i64 0]) aBy rfl ⟨rfl,(V4 hbw aB _ _ _ _ _ _).drew⟩
 cases i2;rotate_left
 ·obtain rfl:V=.tuple #[.bool false,.agg #[.string ad,.string kl,.string g2,.int .i64 st,.int .i64 lo,.int .i64 hi],.int .i64 0]:=by rw[hVV];rfl
  clear hVV hwx;obtain⟨m0,m1,m2,m3,m4,m5⟩:=HQ2.out.facts;have n0:=HQ2.out.free0 0;have n1:=HQ2.out.free0 1;have n2:=HQ2.out.free0 2;have n3:=HQ2.out.free0 3;have n4:=HQ2.out.free0 4;have n5:=HQ2.out.free0 5;go_upto_region 22 with fail
  obtain⟨W22,hW22⟩:∃ W,W=w2.setCell ⟨gq,2,none⟩ (.string g2):=⟨_,rfl⟩;have hQ:iJ W22 gq ad kl g2 st lo hi:=by rw[hW22];exact HQ2.out.set2
  have hZ2:iJ W22 (w.heap.size+1+1) ⟨#[]⟩ ⟨#[]⟩ ⟨#[]⟩ 0 0 0:=by rw[hW22];exact Blk.far HZ2.out ⟨gq,2,none⟩ _ aP
  have hbw:aF w W22:=by rw[hW22];exact HBW.out.setCell (p:=⟨gq,2,none⟩) aP _
  rw[<-hW22];clear hW22 m0 m1 m2 m3 m4 m5 n0 n1 n2 n3 n4 n5 x0 x1 x2 x3 x4 x5 x6 y0 y1 y2 y3 y4 y5 y6;obtain⟨m0,m1,m2,m3,m4,m5⟩:=hQ.facts;(obtain⟨z0,z1,z2,z3,z4,z5⟩:=hZ2.facts;have q0:=hZ2.free0 0;have q1:=hZ2.free0 1;have q2:=hZ2.free0 2;have q3:=hZ2.free0 3;have q4:=hZ2.free0 4;have q5:=hZ2.free0 5);go_region;go_wp2;obtain⟨p0,p1,p2,p3,p4,p5⟩:=(hZ2.put ad kl g2 st lo hi).facts;clear z0 z1 z2 z3 z4 z5 q0 q1 q2 q3 q4 q5;exact bodyPost_ret (v:=.tuple #[.bool false,.agg #[.string ad,.string kl,.string g2,.int .i64 st,.int .i64 lo,.int .i64 hi],.int .i64 0]) aBy rfl ⟨rfl,(V4 hbw aB _ _ _ _ _ _).drew⟩
 cases i3;rotate_left
 ·obtain rfl:V=.tuple #[.bool false,.agg #[.string ad,.string kl,.string ko,.int .i64 g3,.int .i64 lo,.int .i64 hi],.int .i64 0]:=by rw[hVV];rfl
  clear hVV hwx;obtain⟨m0,m1,m2,m3,m4,m5⟩:=HQ2.out.facts;have n0:=HQ2.out.free0 0;have n1:=HQ2.out.free0 1;have n2:=HQ2.out.free0 2;have n3:=HQ2.out.free0 3;have n4:=HQ2.out.free0 4;have n5:=HQ2.out.free0 5;go_upto_region 22 with fail
  obtain⟨W22,hW22⟩:∃ W,W=w2.setCell ⟨gq,3,none⟩ (.int .i64 g3):=⟨_,rfl⟩;have hQ:iJ W22 gq ad kl ko g3 lo hi:=by rw[hW22];exact HQ2.out.set3
  have hZ2:iJ W22 (w.heap.size+1+1) ⟨#[]⟩ ⟨#[]⟩ ⟨#[]⟩ 0 0 0:=by rw[hW22];exact Blk.far HZ2.out ⟨gq,3,none⟩ _ aP
  have hbw:aF w W22:=by rw[hW22];exact HBW.out.setCell (p:=⟨gq,3,none⟩) aP _
  rw[<-hW22];clear hW22 m0 m1 m2 m3 m4 m5 n0 n1 n2 n3 n4 n5 x0 x1 x2 x3 x4 x5 x6 y0 y1 y2 y3 y4 y5 y6;obtain⟨m0,m1,m2,m3,m4,m5⟩:=hQ.facts;(obtain⟨z0,z1,z2,z3,z4,z5⟩:=hZ2.facts;have q0:=hZ2.free0 0;have q1:=hZ2.free0 1;have q2:=hZ2.free0 2;have q3:=hZ2.free0 3;have q4:=hZ2.free0 4;have q5:=hZ2.free0 5);go_region;go_wp2;obtain⟨p0,p1,p2,p3,p4,p5⟩:=(hZ2.put ad kl ko g3 lo hi).facts;clear z0 z1 z2 z3 z4 z5 q0 q1 q2 q3 q4 q5;exact bodyPost_ret (v:=.tuple #[.bool false,.agg #[.string ad,.string kl,.string ko,.int .i64 g3,.int .i64 lo,.int .i64 hi],.int .i64 0]) aBy rfl ⟨rfl,(V4 hbw aB _ _ _ _ _ _).drew⟩
 obtain rfl:V=.tuple #[.bool true,.agg #[.string ⟨#[]⟩,.string ⟨#[]⟩,.string ⟨#[]⟩,.int .i64 0,.int .i64 0,.int .i64 0],.int .i64 0]:=by rw[hVV];rfl
 clear hVV hwx;have hZ2:=HZ2.out;have hbw:=HBW.out;(obtain⟨z0,z1,z2,z3,z4,z5⟩:=hZ2.facts;have q0:=hZ2.free0 0;have q1:=hZ2.free0 1;have q2:=hZ2.free0 2;have q3:=hZ2.free0 3;have q4:=hZ2.free0 4;have q5:=hZ2.free0 5);go_wp2_with fail;exact aJj
theorem aOa(a b:aY)(ma mb:ae)(w:World)(hRa:dA w a ma)(hRb:dA w b mb)(hfa:dE a)(hfb:dE b)(hva:bF a=true)(hvb:bF b=true)(hE:Env w) :
  Calls prog 42 #[ae.val a ma,ae.val b mb] w (Ret w (.tuple #[.bool (IB a b),.int .i64 0])):=by
 have c1:=fun W (hb:aF w W)=>aNz a b ma mb W (hRa.keep hb) (hRb.keep hb) hfa hfb hva hvb (hE.keep hb)
 have hex:=(aMz ((mP a).1 hva) ((mP b).1 hvb)).1;obtain⟨V,hV⟩:∃ V,V=IB a b:=⟨_,rfl⟩;rw[<-hV];unfold IB at hV;rw[<-hex]at hV;unfold aFj at c1;generalize JD a b=ir at *;obtain⟨is,⟨ad,kl,ko,st,lo,hi⟩⟩:=ir;obtain⟨fa,ta,pa,cla,coa,sia,ua⟩:=a;obtain⟨fb,tb,pb,clb,cob,sib,ub⟩:=b;obtain⟨A,ca,B,cb,S,cs⟩:=ma;obtain⟨A',ca',B',cb',S',cs'⟩:=mb;unfold ae.val dN.val at c1;unfold ae.val;dsimp only at c1 hV ⊢;generalize cla.length=na at *;generalize coa.length=nb at *;generalize sia.length=ns at *;generalize clb.length=na' at *;generalize cob.length=nb' at *;generalize sib.length=ns' at *;have C1:=aA c1;clear c1 hRa hRb hfa hfb hva hvb hE hex;cases is
 ·obtain rfl:V=false:=by rw[hV];rfl
  clear hV;exact aCt
 by_cases t1:ta<=fa
 ·obtain rfl:V=true:=by rw[hV];simp[t1]
  have d1:decide (ta<=fa)=true:=decide_eq_true t1;clear hV;exact aCt
 have d1:decide (ta<=fa)=false:=decide_eq_false t1;by_cases t2:ub=0
 ·obtain rfl:V=true:=by rw[hV];simp[t2]
  have d2:(ub==0)=true:=by simpa using t2
  clear hV t2;exact aCt
 have d2:(ub==0)=false:=by simpa using t2
 by_cases t3:0<ua;rotate_left
 ·obtain rfl:V=false:=by rw[hV];simp[t1,t2,t3]
  have d3:decide (0<ua)=false:=decide_eq_false t3;clear hV;exact aCt
 have d3:decide (0<ua)=true:=decide_eq_true t3;obtain rfl:V=decide (ua<=ub):=by rw[hV];simp[t1,t2,t3]
 clear hV;exact aCt
theorem aOb(k:aj)(w:World):Calls prog 31 #[k.val] w (Ret w (.bool (lQ k))):=by
 obtain⟨V,hV⟩:∃ V,V=lQ k:=⟨_,rfl⟩;rw[<-hV];unfold lQ at hV;have HV:=aA hV;clear hV;obtain⟨p,s,sc,fr,ti⟩:=k;unfold aj.val;dsimp only at *;go_enter func31,ntmps31;go_wp2;all_goals (go_ret;exact⟨fV Pn,aJ⟩)
theorem aOc(k:aj)(lo hi:Int)(w:World):Calls prog 40 #[k.val,pK lo hi] w (Ret w (.bool (lT k lo hi))):=by
 obtain⟨V,hV⟩:∃ V,V=lT k lo hi:=⟨_,rfl⟩;rw[<-hV];unfold lT at hV;have HV:=aA hV;clear hV;unfold aj.val pK;go_enter func40,ntmps40;go_wp2;all_goals (go_ret;exact⟨fV Pn,aJ⟩)
theorem aDu(s x:aC):leS s x=true↔s.data.toList<=x.data.toList:=by
 have h:=UM s x;unfold leS;rw[<-List.not_lt];constructor
 ·intro h1 h2;rw[h1]at h;simp[h2]at h
 ·intro h1;cases hb:(Op.bytesLess s.toList x.toList||s.toList==x.toList)
  ·rw[hb]at h;exact absurd nD h1
  ·rfl
theorem aDv(s x:aC):(x.toList != s.toList)=true↔x.data.toList≠s.data.toList:=by
 rw[Lib.toList_data,Lib.toList_data];simp
theorem s11:aGj (⟨#[97,99,109,101,47,110,101,119,115]⟩:aC) (⟨#[97,99,109,101,47,110,101,119,115,47,97]⟩:aC)=true:=by kernel_rfl
theorem s12:aGj (⟨#[97,99,109,101,47,110,101,119]⟩:aC) (⟨#[97,99,109,101,47,110,101,119,115]⟩:aC)=false:=by kernel_rfl
theorem s13:aGi (⟨#[97,44,98]⟩:aC) (⟨#[98]⟩:aC)=true:=by
 have h1:splitB 44 (⟨#[97,44,98]⟩:aC)=[(⟨#[97]⟩:aC),(⟨#[98]⟩:aC)]:=aG;have h:oM [(⟨#[97]⟩:aC),(⟨#[98]⟩:aC)]=((⟨#[97,44,98]⟩:aC),0):=by
  unfold oM;rw[t13,if_neg aCu,if_neg aK];rfl
 have h2:aEq (⟨#[97,44,98]⟩:aC)=([(⟨#[97]⟩:aC),(⟨#[98]⟩:aC)],0):=by
  unfold aEq;rw[h1,h,if_neg aCu,if_pos aCu]
 unfold aGi;rw[h2];show Lib.containsS [(⟨#[97]⟩:aC),(⟨#[98]⟩:aC)] (⟨#[98]⟩:aC)=true;kernel_rfl
def aBm(c:aY):Bool:=aCg c.cl.length c.co.length c.si.length c.pat c.cl c.co
theorem aBz{c:aY}(h:aBm c=true):dE c:=by
 unfold aBm aCg at h;simp only[Bool.and_eq_true,decide_eq_true_eq,List.all_eq_true]at h;obtain⟨⟨⟨⟨⟨h1,h2⟩,h3⟩,h4⟩,h5⟩,h6⟩:=h;exact⟨aB,fun x hx=>by have:=h5 x hx;omega,fun x hx=>by have:=h6 x hx;omega,aB,aB,aB⟩
theorem aOd(c:aY)(m:ae)(w:World)(hR:dA w c m):Calls prog 9 #[ae.val c m] w (Ret w (.bool (aBm c))):=aMd c.fr c.till c.us c.pat m.A m.B m.S c.cl.length m.ca c.co.length m.cb c.si.length m.cs c.cl c.co w hR.cl hR.co
theorem aOe(s:aC)(h:s.size=2):iV s=(decide ((97:Int)<=((s[0]' aB).toNat:Int))&&decide (((s[0]' aB).toNat:Int)<=122)&&decide ((97:Int)<=((s[1]' aB).toNat:Int))&&decide (((s[1]' aB).toNat:Int)<=122)):=by
 unfold iV;rw[decide_eq_true h,Bool.true_and,Zt s h];simp only[List.all_cons,List.all_nil,Bool.and_true];rw[Bool.eq_iff_iff];simp only[Bool.and_eq_true,decide_eq_true_eq];omega
theorem aJk(s:aC)(w:World)(hs:s.size<=4294967281):Calls prog 67 #[.string s] w (Ret w (.bool (iV s))):=by
 by_cases h2:s.size=2
 ·have d2:((s.size:Int)==2)=true:=aP;have hv:=aOe s h2;have q0:(0:Int)<(s.size:Int):=aB;have q1:(1:Int)<(s.size:Int):=aB;rw[hv];clear hv;cases e1:decide ((97:Int)<=((s[0]' aB).toNat:Int))
  ·exact aCj
  cases e2:decide (((s[0]' aB).toNat:Int)<=122)
  ·exact aCj
  cases e3:decide ((97:Int)<=((s[1]' aB).toNat:Int))
  ·exact aCj
  cases e4:decide (((s[1]' aB).toNat:Int)<=122)
  ·exact aCj
  ·exact aCj
 ·have d2:((s.size:Int)==2)=false:=beq_eq_false_iff_ne.2 aB;have hv:iV s=false:=by unfold iV;rw[decide_eq_false h2];rfl
  rw[hv];exact aCj
theorem aOf(x y:aC):(Op.bytesLess x.toList y.toList||x.toList==y.toList) = !ltB y x:=Zw x y
def A7(l:List aC):Bool:=(List.range l.length).all (okK ltB (fun _=>true) l)
theorem aOg{l:List aC}{k:Nat}{x y:aC}(hx:l[k+1]? = some x)(hy:l[k]? = some y):okK ltB (fun _=>true) l (k+1)=ltB y x:=by
 unfold okK;rw[hx,Nat.add_sub_cancel,hy];simp
theorem aOh{l:List aC}{k:Nat}(hk:k<l.length)(h2:okK ltB (fun _=>true) l k=false):A7 l=false:=by
 unfold A7;rw[List.all_eq_false];exact⟨k,by simpa using hk,by rw[h2];simp⟩
theorem aJl(A:Option Addr)(n c:Nat)(xs:List aC)(w:World)(hA:aI w 1 A n (xs.map .string))(hn:n<=1000000000):Calls prog 68 #[.slice A n c] w (Ret w (.bool (A7 xs))):=by
 have hl:xs.length=n:=jK;obtain⟨V,hV⟩:∃ V,V=A7 xs:=⟨_,rfl⟩;rw[<-hV];have HA:=aA hA;have HL:=aA hl;have HV:=aA hV;clear hA hl hV;go_enter func68,ntmps68;go_wp2;go_loopw [3] (fun i wr=>∃ k:Nat,k<=n/\i=.int .i64 (k+1:Nat)/\Hid ((List.range (k+1)).all (okK ltB (fun _=>true) xs)=true)/\aF w wr) (fun i _=>n+1-(intOf i).toNat)
 case atStart=>exact⟨0,aB,rfl,aA (by simp[okK];cases xs[0]? <;> rfl),Below.refl _ _⟩
 case round =>
  obtain⟨k,hk,rfl,HK,hb⟩:=hrel;by_cases hlt:k+1<n
  ·obtain⟨x,hx⟩:∃ x,xs[k+1]? = some x:=⟨_,List.getElem?_eq_getElem gV⟩;obtain⟨y,hy⟩:∃ y,xs[k]? = some y:=⟨_,List.getElem?_eq_getElem gV⟩;obtain⟨pb,po,rfl,hcell⟩:=(HA.out.keep hb).2 aB;have hc1:wr.cell? ⟨pb,po+(k+1),none⟩=some (.string x):=hcell (k+1) _ gB;have hc2:wr.cell? ⟨pb,po+k,none⟩=some (.string y):=hcell k _ qH;have hk0:(0:Int)<=(k:Int):=aB;have hk1:(k:Int)<(n:Int):=aB;have hk2:(0:Int)<=(k:Int)+1:=aB;have hk3:(k:Int)+1<(n:Int):=aB;have hle:=aOf x y;have hat:=aOg hx hy;cases ht:ltB y x
   ·obtain rfl:V=false:=by rw[HV.out];exact aOh (k:=k+1) gV (by rw[hat,ht])
    rw[ht]at hle;clear HK hcell hx hy hat ht;exact aDw
   ·have HK2:Hid ((List.range (k+1+1)).all (okK ltB (fun _=>true) xs)=true):=aA (yK HK.out (by rw[hat,ht]));rw[ht]at hle;clear HK hcell hx hy hat ht;go_wp2_with fail;go_quiet (fail);go_wp2;exact⟨⟨k+1,aB,bg,HK2,aJ⟩,dD⟩
  ·obtain rfl:V=true:=by
    rw[HV.out];unfold A7;rw[List.all_eq_true];intro j hj;have:=HK.out;rw[List.all_eq_true]at this;exact this j (by simp at hj ⊢;have:=HL.out;omega)
   go_wp2;go_ret;exact⟨rfl,hb⟩
def aDx(s:aC):Bool:=if decide (2<s.size)&&((s.extract 0 2).toList == [42,46]) then decide (s.size<=34)&&bW (s.extract 2 s.size) else s.toList == [42]||bW s
theorem aOi(s:aC)(w:World)(hs:s.size<=4294967200):Calls prog 189 #[.string s] w (Ret w (.bool (aDx s))):=by
 have c1:=fun W=>aBw s W aB
 have c2:=fun W=>aBw (s.extract 2 s.size) W (by rw[ByteArray.size_extract];omega)
 unfold aDx;generalize bW (s.extract 2 s.size)=b2 at *;generalize bW s=b1 at *;by_cases h1:2<s.size
 ·have d1:decide ((2:Int)<(s.size:Int))=true:=decide_eq_true aB;have q2:(2:Int)<=(s.size:Int):=aB;rw[decide_eq_true h1];cases h2:((s.extract 0 2).toList == [42,46])
  ·simp only[Bool.and_false,Bool.false_eq_true,if_false];cases h3:(s.toList == [42])
   ·have HW:=aA c1;exact aFr
   ·exact aFs
  ·simp only[Bool.and_self,if_true];by_cases h4:s.size<=34
   ·have d4:decide ((s.size:Int)<=34)=true:=decide_eq_true aB;have HW:=aA c2;rw[decide_eq_true h4];exact aFr
   ·have d4:decide ((s.size:Int)<=34)=false:=decide_eq_false aB;rw[decide_eq_false h4];exact aFs
 ·have d1:decide ((2:Int)<(s.size:Int))=false:=decide_eq_false aB;rw[decide_eq_false h1];simp only[Bool.false_and,Bool.false_eq_true,if_false];cases h3:(s.toList == [42])
  ·have HW:=aA c1;exact aFr
  ·exact aFs
theorem aOj{w:aC}(h:bW w=true)(l:List UInt8):w.data.toList≠42 :: l:=fun e=>(rP h).2.2.2.2.1 (by rw[e];simp)
theorem aOk(s:aC):aDx s=kP s:=by
 unfold aDx kP;have hx:((s.extract 0 2).toList == [42,46])=Lib.hasPrefix s.data.toList [42,46]:=by
  rw[Lib.toList_data,Lib.extract_data];unfold Lib.hasPrefix;rw[Bool.eq_iff_iff,beq_iff_eq,List.isPrefixOf_iff_prefix];constructor
  ·intro h;refine⟨s.data.toList.drop 2,?_⟩;rw[<-h];simp
  ·rintro⟨r,h⟩;rw[<-h];simp
 rw[hx];cases hp:Lib.hasPrefix s.data.toList [42,46]
 ·simp
 ·obtain⟨r,hr⟩:=G9 hp;have e:(s.extract 2 s.size).data.toList=r:=by rw[extract_data,hr];rfl
  have hz:s.size=r.length+2:=by rw[jY,hr];rfl
  have h42:(s.toList == [42])=false:=by rw[Lib.toList_data,hr,beq_eq_false_iff_ne];simp
  have hw:bW s=false:=by
   cases h:bW s
   ·rfl
   ·exact absurd hr (aOj h _)
  rw[h42,hw];simp only[Bool.and_true,Bool.false_or,Bool.and_true];by_cases h2:2<s.size
  ·rw[if_pos (by simpa using h2)]
  ·rw[if_neg (by simpa using h2)];have:bW (s.extract 2 s.size)=false:=by
    cases h:bW (s.extract 2 s.size)
    ·rfl
    ·have:=(xP h).1;rw[e]at this;exact absurd (List.eq_nil_of_length_eq_zero aB) this
   rw[this,Bool.and_false]
def aDy(r:Option Pat)(w:World)(e:Ending)(w':World):Prop :=
 aF w w'/\match r with
 | none=>e=.returned (.tuple #[.agg #[.string ⟨#[]⟩,.slice none 0 0,.bool false],.bool false])
 | some x=>∃ A c,e=.returned (.tuple #[.agg #[.string (I9 x.cust),.slice A x.parts.length c,.bool x.tail],.bool true])/\aI w' 1 A x.parts.length ((dX x.parts).map .string)
theorem aOl(acc:List bI)(w:aC)(h:kP w=true):dX (acc++[dG w])=dX acc++[w]:=by
 unfold dX;rw[List.map_append,List.map_singleton,UD h]
theorem aOm(s:aC)(w:World)(hs:s.size<=100000):Calls prog 130 #[.string s] w (aDy (dI s) w):=by
 have cS:=fun W=>aFc s 47 W aB
 have hsz:=oU 47 s;have hnum:=qM 47 s;have hne:splitB 47 s ≠ []:=by
  intro h;have:=congrArg List.length h;unfold splitB at this;rw[List.length_map]at this;exact F9 47 s.data.toList (List.eq_nil_of_length_eq_zero this)
 unfold dI;generalize splitB 47 s=l at *;obtain⟨l0,r,rfl⟩:=List.exists_cons_of_ne_nil hne;have hl0:l0.size<=100000:=Nat.le_trans (hsz l0 aH) hs;have cN:=fun W=>aBx l0 W aB
 obtain⟨m,hm⟩:∃ m,m=r.length:=⟨_,rfl⟩;have HS:Hid (∀ W,Calls prog 188 #[.string s,.int .u8 47] W (fun e w'=>∃ A c,e=.returned (.slice A (m+1) c)/\w'.ownsRow W.heap.size 9 1 (.slice A (m+1) c) (m+1) ((l0 :: r).map .string)/\aF W w')):=aA (by rw[hm];exact cS);have HN:=aA cN;have HM:=aA hm;have hm9:m<=100001:=by rw[hm];simp at hnum;omega
 have hv:rV (l0 :: r)=if decide (m<=32)&&iT l0 then (dK r []).map fun x=>⟨dG l0,x.1,x.2⟩ else none:=by rw[BD,hm]
 have hn0:(0:Int)<(m:Int)+1:=aB;generalize hV:aDy (rV (l0 :: r)) w=V;have HV:=aA hV;have HSZ:Hid (∀ p∈r,p.size<=100000):=aA (fun p hp=>Nat.le_trans (hsz p oV) hs);obtain⟨i0,hi0,hz0,hz1,hz2⟩:=info_parts rY;have HI:Hid ((prog.info? 9=some i0)/\i0.zero=some (.string ⟨#[]⟩)/\i0.size=1/\i0.bytes=16):=aA ⟨hi0,hz0,hz1,hz2⟩;clear hne cS cN hm hsz hnum hV hi0 hz0 hz1 hz2;cases hho:iT l0
 ·have HNO:Hid (rV (l0 :: r)=none):=aA (by rw[hv,hho];simp);unfold iT at hho;simp only[Bool.or_eq_false_iff]at hho;obtain⟨h1,h2⟩:=hho;have h1':¬ l0.toList=[42]:=by simpa using h1
  rw[h2]at HN;clear h2 hv;exact aJm
 have hho2:((l0.toList == [42])=true/\l0.toList=[42])\/((l0.toList == [42])=false/\¬ l0.toList=[42]/\bU l0=true):=by
  have hho':=hho;unfold iT at hho';cases h:(l0.toList == [42])
  ·right;exact⟨rfl,nD,by simpa[h] using hho'⟩
  ·left;exact⟨rfl,nD⟩
 by_cases hbig:m<=32;rotate_left
 ·have HNO:Hid (rV (l0 :: r)=none):=aA (by rw[hv];simp[hbig]);have hd:decide ((32:Int)<(m:Int))=true:=aP;clear hv hho;rcases hho2 with ⟨h1,h1'⟩ | ⟨h1,h1',h2⟩
  ·go_enter func130,ntmps130;go_wp2_with (first | (go_at_call 188;refine (HS.out _).mono ?_;rintro e w1 ⟨A,c,rfl,hown,hb1⟩;have hX1:JA w1 w.heap.size ⟨#[]⟩ (.slice none 0 0) false:=Blk.keep (World.alloc_heap_new _ _) hb1;obtain⟨pb,po,u,rfl,hu,g0⟩:=(aI.of_own hown).at_ (k:=0) aB;(obtain rfl:u=.string l0:=aCa);clear hu;have gg:w1.cell? ⟨pb,po,none⟩=some (.string l0):=g0;clear g0;have hR1:=aI.of_own hown;clear hown;obtain⟨x0,x1,x2,f0,f1,f2⟩:=hX1.facts;have hz1:w.heap.size<w1.heap.size:=Blk.lt hX1) | (go_at_call 50;refine (HN.out _).mono ?_;rintro e w2 ⟨rfl,hb2⟩;have hX2:JA w2 w.heap.size ⟨#[]⟩ (.slice none 0 0) false:=Blk.keep hX1 hb2;have gg2:=aW hb2 gg;have hR2:=hR1.keep hb2;clear x0 x1 x2 f0 f1 f2;obtain⟨x0,x1,x2,f0,f1,f2⟩:=hX2.facts;have hz2:w.heap.size<w2.heap.size:=Blk.lt hX2));rw[<-HV.out,HNO.out];exact bodyPost_ret (v:=.tuple #[.agg #[.string ⟨#[]⟩,.slice none 0 0,.bool false],.bool false]) (by simp[results,results130,go_sem,hz1,x0,x1,x2,f0,f1,f2]) rfl ⟨aJ,rfl⟩
  ·rw[h2]at HN;exact aJm
 have hd:decide ((32:Int)<(m:Int))=false:=aP;have hv2:rV (l0 :: r)=(dK r []).map fun x=>⟨dG l0,x.1,x.2⟩:=by rw[hv,hho];simp[hbig]
 have hst:I9 (dG l0)=l0:=UC hho;have HV2:=aA hv2;have HST:=aA hst;clear hv hho hv2 hst;rcases hho2 with ⟨h1,h1'⟩ | ⟨h1,h1',h2⟩
 rotate_left;rw[h2]at HN;clear h2;rotate_left;all_goals
  go_enter func130,ntmps130;go_wp2_with (first | (go_at_call 188;refine (HS.out _).mono ?_;rintro e w1 ⟨A,c,rfl,hown,hb1⟩;have hX1:JA w1 w.heap.size ⟨#[]⟩ (.slice none 0 0) false:=Blk.keep (World.alloc_heap_new _ _) hb1;obtain⟨pb,po,u,rfl,hu,g0⟩:=(aI.of_own hown).at_ (k:=0) aB;(obtain rfl:u=.string l0:=aCa);clear hu;have gg:w1.cell? ⟨pb,po,none⟩=some (.string l0):=g0;clear g0;have hR1:=aI.of_own hown;clear hown;obtain⟨x0,x1,x2,f0,f1,f2⟩:=hX1.facts;have hz1:w.heap.size<w1.heap.size:=Blk.lt hX1) | (go_at_call 50;refine (HN.out _).mono ?_;rintro e w2 ⟨rfl,hb2⟩;have hX2:JA w2 w.heap.size ⟨#[]⟩ (.slice none 0 0) false:=Blk.keep hX1 hb2;have gg2:=aW hb2 gg;have hR2:=hR1.keep hb2;clear x0 x1 x2 f0 f1 f2;obtain⟨x0,x1,x2,f0,f1,f2⟩:=hX2.facts;have hz2:w.heap.size<w2.heap.size:=Blk.lt hX2))
 rotate_left;have hX1':=hX2;have hbA:aF w w2:=aJ;clear hX1 hR1 gg hb1 hb2;rotate_left;obtain⟨w2,rfl⟩:∃ x:World,x=w1:=⟨_,rfl⟩;have hX1':=hX1;have hR2:=hR1;have gg2:=gg;have hz2:=hz1;have hbA:aF w w2:=aJ;clear hX1 hR1 gg hb1;all_goals
  clear x0 x1 x2 f0 f1 f2;have HRd:=aA hR2;have hpb:pb<w2.heap.size:=bu gg2;have hB0:JA (w2.alloc (.cells #[.string l0,.slice none 0 0,.bool false] 166)) w2.heap.size l0 (.slice none 0 0) false:=World.alloc_heap_new _ _;have hP0:JA (w2.alloc (.cells #[.string l0,.slice none 0 0,.bool false] 166)) w.heap.size ⟨#[]⟩ (.slice none 0 0) false:=(Below.heap_alloc _ _ _ hz2).trans hX1';clear hR2 gg2 hX1';go_loopw [6] (fun vi wr=>∃(k:Nat)(acc:List bI)(A':Option Addr)(c':Nat)(tl:Bool),(vi=.int .i64 ((k:Int)+1)/\k<=m/\acc.length<=k)/\Hid (SG r k acc tl)/\JA wr w2.heap.size l0 (.slice A' acc.length c') tl/\JA wr w.heap.size ⟨#[]⟩ (.slice none 0 0) false /\
    wr.ownsRow (w2.heap.size+1) 9 1 (.slice A' acc.length c') acc.length ((dX acc).map .string)/\aF w wr/\(∀ j,j<w2.heap.size->wr.heap[j]? = w2.heap[j]?)/\w2.heap.size+1<=wr.heap.size) (fun vi _=>m+1-(intOf vi).toNat)
  case atStart=>exact⟨0,[],none,0,false,⟨rfl,Nat.zero_le _,Nat.le_refl _⟩,aA (.inl ⟨rfl,aH⟩),hB0,hP0,World.ownsRow_nil _ _ _ _,aJ,fun j hj=>Below.heap_alloc _ _ _ hj,aH⟩
  case round =>
   clear hB0 hP0;obtain⟨k,acc,A',c',tl,⟨rfl,hk,hak⟩,HC,hB,hP,hown,hbw,hFr,hzr⟩:=hrel;obtain⟨x0,x1,x2,f0,f1,f2⟩:=hP.facts;obtain⟨y0,y1,y2,g0,g1,g2⟩:=hB.facts;by_cases hlt:k<m
   ·obtain⟨p,hp⟩:∃ p,r[k]? = some p:=⟨_,List.getElem?_eq_getElem (by have:=HM.out;omega)⟩;have hps:=HSZ.out p (List.mem_of_getElem? hp);have hcell:wr.cell? ⟨pb,po+(k+1),none⟩=some (.string p):=by
     obtain⟨b',o',e',hc'⟩:=HRd.out.2 aB;injection e' with e';injection e' with e1 e2;subst e1;subst e2
     have:=hc' (k+1) (.string p) oV;exact (World.cell?_of_block (hFr pb hpb)).trans this
    obtain⟨rfl,hcmp⟩:tl=false/\dK r []=dK (r.drop k) acc:=by
     rcases HC.out with h | ⟨_,h,_⟩
     ·exact h
     ·exfalso;have:=HM.out;omega
    have hd2:r.drop k=p :: r.drop (k+1):=by
     exact AC
    rw[hd2,dK]at hcmp;have hemp:(r.drop (k+1)).isEmpty=decide (k+1=m):=by
     have:=HM.out;by_cases h:k+1=m
     ·rw[List.drop_eq_nil_of_le aB];simp[h]
     ·simp[h];omega
    rw[hemp]at hcmp;have hk0:(0:Int)<=(k:Int)+1:=aB;have hkm:(k:Int)+1<(m:Int)+1:=aB;clear hd2 hemp hp HC HRd;have cP:=fun W=>aOi p W aB
    rw[aOk]at cP;cases h2s:(p.toList == [42,42])
    ·simp only[h2s,Bool.false_and,Bool.false_eq_true,if_false]at hcmp;cases hok:kP p
     ·have HNO:Hid (dK r []=none):=aA (by rw[hcmp,hok];rfl);rw[hok]at cP;have HP:=aA cP;clear hcmp cP hok;exact aJn
     ·have HSO:Hid (dK r []=dK (r.drop (k+1)) (acc++[dG p])):=aA (by rw[hcmp,hok];rfl);have HSL:=aA (aOl acc p hok);rw[hok]at cP;have HP:=aA cP;clear hcmp cP hok;go_wp2_with (go_at_call 189;refine (HP.out _).mono ?_;rintro e w4 ⟨rfl,hb4⟩;have hP4:JA w4 w.heap.size ⟨#[]⟩ (.slice none 0 0) false:=Blk.keep hP hb4;have hB4:JA w4 w2.heap.size l0 (.slice A' acc.length c') false:=Blk.keep hB hb4;have hown4:=fZ hown hb4;have hbw4:=aV hbw hb4;have hFr4:∀ j,j<w2.heap.size->w4.heap[j]? = w2.heap[j]?:=(fun j q1=>(hb4.block j aB).trans (hFr j q1));have hzr4:w2.heap.size+1<=w4.heap.size:=Nat.le_trans hzr hb4.size;have hcell4:=aW hb4 hcell;clear x0 x1 x2 f0 f1 f2 y0 y1 y2 g0 g1 g2;obtain⟨x0,x1,x2,f0,f1,f2⟩:=hP4.facts;obtain⟨y0,y1,y2,g0,g1,g2⟩:=hB4.facts);have hown4d:w4.drew.ownsRow (w2.heap.size+1) 9 1 (.slice A' acc.length c') acc.length ((dX acc).map .string):=hown4;have y1d:w4.drew.cell? ⟨w2.heap.size,1,none⟩=some (.slice A' acc.length c'):=y1;have hcd:w4.drew.cell? ⟨pb,po+(k+1),none⟩=some (.string p):=hcell4;have hzz:w2.heap.size<w4.heap.size:=aB;have hzp:pb<w4.heap.size:=aB;have y1e:(w4.alloc (.cells #[.string p] 9)).cell? ⟨w2.heap.size,1,none⟩=some (.slice A' acc.length c'):=(World.cell?_of_block (Below.heap_alloc w4 _ _ hzz)).trans y1;go_region_law ((refine step_append_lies _ bC _ _ _ bC (w2.heap.size+1) 9 i0 (.string ⟨#[]⟩) 1 16 underlying24 HI.out.1 HI.out.2.1 HI.out.2.2.1 HI.out.2.2.2 bC aB (.slice A' acc.length c') acc.length ((dX acc).map .string) bC (hown4d.alloc _) ⟨w4.heap.size,0,none⟩ 1 1 [.string p] bC bC (World.news_of_block (cs:=#[.string p]) (t:=9) (fr:=(0,0)) (World.alloc_heap_new w4.drew _)) jJ aB dh aB aP (w4.heap.size+1) aH ?_;intro gg cap w7 hown7 hgrow hat hlt7;have hB7:JA w7 w2.heap.size l0 (.slice A' acc.length c') false:=(hgrow.block w2.heap.size aP (fun e=>aFt)).trans ((Below.heap_alloc w4.drew _ w2.heap.size (show w2.heap.size<w4.heap.size by omega)).trans hB4);clear y0 y1 y2 g0 g1 g2;obtain⟨y0,y1,y2,g0,g1,g2⟩:=hB7.facts));all_goals go_wp2
      all_goals
       have hal:(acc++[dG p]).length=acc.length+1:=aH;have hb7:aF w w7:=((Below.drew hbw4).alloc hbw4.size _).grown hgrow (by have:=hbw4.size;simp;omega) (fun r e=>by have:=fE hown4 r e;omega);have hP7:JA w7 w.heap.size ⟨#[]⟩ (.slice none 0 0) false:=(hgrow.block w.heap.size aP (fun e=>aFt)).trans ((Below.heap_alloc w4.drew _ _ (show w.heap.size<w4.heap.size by omega)).trans hP4);refine⟨⟨k+1,acc++[dG p],some ⟨gg,0,none⟩,cap,false,⟨bg,aB,aP⟩,aA (.inl ⟨rfl,HSO.out⟩),by rw[hal];exact Blk.set_ hB7 1 _,(Below.heap_setCell _ _ _ _ aP).trans hP7,by rw[hal,HSL.out,List.map_append];exact rX hown7 (fun j hj=>Below.heap_setCell _ _ _ _ aP),hb7.setCell (p:=⟨w2.heap.size,1,none⟩) aP _,fun j q1=>(Below.heap_setCell _ _ _ _ aP).trans ((hgrow.block j aP (fun e=>aFt)).trans ((Below.heap_alloc w4.drew _ j (show j<w4.heap.size by omega)).trans (hFr4 j q1))),Gs⟩,dD⟩
    ·obtain rfl:p=⟨#[42,42]⟩:=fK (by rw[<-Lib.toList_data];simpa using h2s);by_cases hlast:k+1=m
     ·obtain rfl:m=k+1:=hlast.symm;have hlb:((k:Int)+1==((k+1:Nat):Int))=true:=aH;rw[h2s,show decide (k+1=k+1)=true by simp]at hcmp;simp only[Bool.and_self,if_true]at hcmp;have HH:=aA hcmp;clear hcmp cP;go_wp2;exact⟨⟨k+1,acc,A',c',true,⟨bg,aB,aB⟩,aA (.inr ⟨rfl,HM.out,HH.out⟩),Blk.set_ hB 2 (.bool true),(Below.heap_setCell _ _ _ _ wK).trans hP,rX hown (fun j hj=>Below.heap_setCell _ _ _ _ wK),hbw.setCell (p:=⟨w2.heap.size,2,none⟩) wK _,
       fun j q1=>(Below.heap_setCell _ _ _ _ wK).trans (hFr j q1),by first | (simp[World.setCell];done) | (simp[World.setCell];omega)⟩,dD⟩
     ·have hlb:((k:Int)+1==(m:Int))=false:=aP;have HNO:Hid (dK r []=none):=aA (by rw[hcmp,show decide (k+1=m)=false by simpa using hlast,SH];simp);rw[SH]at cP;have HP:=aA cP;clear hcmp cP;exact aJn
   ·obtain rfl:k=m:=aB;have HE:Hid (dK r []=some (acc,tl)):=aA (by
     rcases HC.out with ⟨h,e⟩ | ⟨h,_,e⟩
     ·rw[e,h,HM.out,List.drop_eq_nil_of_le (Nat.le_refl _),dK]
     ·rw[e,h])
    have hob:∀ a,A'=some a->a.block≠w.heap.size:=fun a ha=>xX
    have hRr:=aI.of_own hown;clear HC;go_wp2;rw[<-HV.out,HV2.out,HE.out];exact bodyPost_ret (v:=.tuple #[.agg #[.string l0,.slice A' acc.length c',.bool tl],.bool true]) aFu rfl ⟨aJ,A',c',by rw[HST.out],(((hRr.set_ _ _ hob).set_ _ _ hob).set_ _ _ hob)⟩
abbrev lg:=aC × aC
def IM(p:lg)(st:List lg × Bool)(x:lg):List lg × Bool:=if !st.2&&leS p.1 x.1 then (st.1++[p],true) else st
def AL(p:lg)(st:List lg × Bool)(x:lg):List lg × Bool:=if x.1.toList != p.1.toList then ((IM p st x).1++[x],(IM p st x).2) else IM p st x
def MB(l:List lg)(p:lg):List lg:=if (l.foldl (AL p) ([],false)).2 then (l.foldl (AL p) ([],false)).1 else (l.foldl (AL p) ([],false)).1++[p]
def RF(p:lg):List lg->List lg
 | []=>[p]
 | x :: l=>if leS p.1 x.1 then p :: (x :: l).filter (fun y=>y.1.toList != p.1.toList) else x :: RF p l
theorem aDz(p:lg):∀(l acc:List lg),l.foldl (AL p) (acc,true)=(acc++l.filter (fun y=>y.1.toList != p.1.toList),true)
 | [],acc=>aH
 | x :: l,acc=>by
  rw[List.foldl_cons];have e:IM p (acc,true) x=(acc,true):=by simp[IM]
  cases hne:(x.1.toList != p.1.toList)
  ·rw[show AL p (acc,true) x=(acc,true) by simp only[AL,hne,e];rfl,aDz p l acc,List.filter_cons,if_neg (by rw[hne];decide)]
  ·rw[show AL p (acc,true) x=(acc++[x],true) by simp only[AL,hne,e];rfl,aDz p l (acc++[x]),List.filter_cons,if_pos hne];simp
theorem aJo(p:lg):∀(l acc:List lg),(if (l.foldl (AL p) (acc,false)).2 then (l.foldl (AL p) (acc,false)).1 else (l.foldl (AL p) (acc,false)).1++[p])=acc++RF p l
 | [],acc=>by simp[RF]
 | x :: l,acc=>by
  rw[List.foldl_cons];cases hle:leS p.1 x.1
  ·have e:IM p (acc,false) x=(acc,false):=by simp[IM,hle]
   have hne:(x.1.toList != p.1.toList)=true:=by
    rw[aDv];intro h;have:leS p.1 x.1=true:=(aDu _ _).2 (by rw[h];exact List.le_refl _);rw[hle]at this;cases this
   rw[show AL p (acc,false) x=(acc++[x],false) by simp only[AL,hne,e];rfl,aJo p l (acc++[x]),RF,hle];simp
  ·have e:IM p (acc,false) x=(acc++[p],true):=by simp[IM,hle]
   have hp:RF p (x :: l)=p :: (x :: l).filter (fun y=>y.1.toList != p.1.toList):=by rw[RF,if_pos hle]
   cases hne:(x.1.toList != p.1.toList)
   ·rw[show AL p (acc,false) x=(acc++[p],true) by simp only[AL,hne,e];rfl,hp,aDz];have hf:(x :: l).filter (fun y=>y.1.toList != p.1.toList)=l.filter (fun y=>y.1.toList != p.1.toList):=by rw[List.filter_cons,if_neg (by rw[hne];decide)]
    rw[hf];simp
   ·rw[show AL p (acc,false) x=(acc++[p]++[x],true) by simp only[AL,hne,e];rfl,hp,aDz];have hf:(x :: l).filter (fun y=>y.1.toList != p.1.toList)=x :: l.filter (fun y=>y.1.toList != p.1.toList):=by rw[List.filter_cons,if_pos hne]
    rw[hf];simp
theorem aJp(l:List lg)(p:lg):MB l p=RF p l:=by
 have:=aJo p l [];unfold MB;rw[this];rfl
theorem aJq(p:lg):∀ l:List lg,uO (fO l)->fO (RF p l)=jG (fO l) (p.1.data.toList,p.2.data.toList)
 | [],_=>rfl
 | x :: l,h=>by
  have h':=List.pairwise_cons.1 (show uO ((x.1.data.toList,x.2.data.toList) :: fO l) from h);have hf:p.1.data.toList<=x.1.data.toList->l.filter (fun y=>y.1.toList != p.1.toList)=l:=fun hle=>by
   refine List.filter_eq_self.2 fun y hy=>(aDv _ _).2 fun e=>?_
   have:=h'.1 (y.1.data.toList,y.2.data.toList) (List.mem_map_of_mem hy);dsimp only at this;rw[e]at this;exact List.not_lt.2 hle this
  unfold RF;show _=jG ((x.1.data.toList,x.2.data.toList) :: fO l) _;rw[jG];by_cases e:p.1.data.toList=x.1.data.toList
  ·have hle:p.1.data.toList<=x.1.data.toList:=by rw[e];exact List.le_refl _
   have hx:¬ (x.1.toList != p.1.toList)=true:=by rw[aDv];exact fun h=>h e.symm
   rw[if_pos ((aDu _ _).2 hle),if_pos e,List.filter_cons,if_neg hx,hf hle];rfl
  ·by_cases e2:p.1.data.toList<x.1.data.toList
   ·have hle:=List.le_of_lt e2;have hx:(x.1.toList != p.1.toList)=true:=by rw[aDv];exact fun h=>e h.symm
    rw[if_pos ((aDu _ _).2 hle),if_neg e,if_pos e2,List.filter_cons,if_pos hx,hf hle];rfl
   ·rw[if_neg (fun h=>e2 (U4 ((aDu _ _).1 h) e)),if_neg e,if_neg e2];show _ :: fO (RF p l)=_;rw[aJq p l h'.2]
theorem aOn{l:List lg}{a:List (BL × BL)}(h:fO l=jU a)(q:BL × BL):fO (MB l (toB q.1,toB q.2))=jU (a++[q]):=by
 rw[aJp,aJq _ _ (by rw[h];exact (zW a).2.2.1),h];simp[jU,toB]
def F5:List lg->List aC->Option (List lg)
 | acc,[]=>some acc
 | acc,p :: r=>match ru p with
  | none=>none
  | some q=>F5 (MB acc (toB q.1,toB q.2)) r
theorem aJr:∀(ps:List aC)(acc:List lg)(a:List (BL × BL)),fO acc=jU a->(F5 acc ps).map fO=(gI a ps).map jU
 | [],acc,a,h=>by simp[F5,gI,h]
 | p :: r,acc,a,h=>by
  rw[F5,gI];cases ru p with
  | none=>rfl
  | some q=>exact aJr r _ _ (aOn h q)
theorem aOo(l:List lg):(fO l).map (fun q=>(toB q.1,toB q.2))=l:=by
 simp[fO,Function.comp_def,aCo]
theorem aOp(s:aC):lN s=if s.toList.isEmpty then some [] else F5 [] (splitB 38 s):=by
 unfold lN;split
 ·rfl
 ·have h:=aJr (splitB 38 s) [] [] rfl;have h2:=congrArg (Option.map fun l:List (BL × BL)=>l.map fun q=>(toB q.1,toB q.2)) h;rw[Option.map_map,Option.map_map]at h2;have e:(fun l:List (BL × BL)=>l.map fun q=>(toB q.1,toB q.2)) ∘ fO=id:=funext aOo;rw[e,Option.map_id]at h2;exact h2.symm
theorem aJs(c:UInt8):∀ l:BL,c∈l->∃ a b,l=a++c :: b/\c ∉ a
 | [],h=>nG
 | x :: l,h=>by
  by_cases e:x=c
  ·subst e;exact⟨[],l,rfl,aH⟩
  ·rcases List.mem_cons.1 h with h | h
   ·exact absurd h.symm e
   ·obtain⟨a,b,h1,h2⟩:=aJs c l h;exact⟨x :: a,b,by rw[h1];rfl,by simp[h2];exact fun e2=>e e2.symm⟩
theorem aOq(c:UInt8)(t:BL):dO c t=(Lib.cut t [c]).1 :: (if (Lib.cut t [c]).2.2 then dO c (Lib.cut t [c]).2.1 else []):=by
 by_cases h:c∈t
 ·obtain⟨a,b,rfl,hna⟩:=aJs c t h;rw[RZ a b c hna,FZ a b c hna];rfl
 ·rw[Rf t c h,Fa t c h];rfl
def XC(s:aC):aC:=toB (Lib.trimSuffix (dR s).1 [47])
theorem aOr(s:aC):∃ r,splitB 47 (XC s)=toB (dw s).1 :: r/\mW (dw s)=gp [] r:=by
 refine⟨if (dw s).2.2 then splitB 47 (toB (dw s).2.1) else [],?_,?_⟩
 ·unfold splitB XC;rw[show (toB (Lib.trimSuffix (dR s).1 [47])).data.toList=Lib.trimSuffix (dR s).1 [47] from rfl,aOq];unfold dw;rw[List.map_cons];congr 1;split <;> rfl
 ·unfold mW;split <;> rfl
end Go.Proofs.YtlkbkclnbppigaaGreatDoor
