/- What cond.Parse returns, and that its lists are new. -/
import Derived.Test.YtlkbkclnbppigaaGreatDoorIZ31
import Derived.Test.YtlkbkclnbppigaaGreatDoorIZ32
set_option maxHeartbeats 32000000
namespace Go.Proofs.YtlkbkclnbppigaaGreatDoor
open Tryz
open Go.RowKit Go.Sort
set_option linter.unusedVariables false
set_option linter.unusedSimpArgs false
set_option maxRecDepth 100000
attribute [local go_sem] Oper.semAt_some
def DU(X:aY)(er:Int)(w:World)(e:Ending)(w':World):Prop:=aF w w'/\∃ m:ae,e=.returned (.tuple #[ae.val X m,.int .i64 er])/\dA w' X m/\sZ w.heap.size X m
theorem YD(s:aC)(w0:World)(hs:s.size<=100000)(hE:Env w0)(hX:jP w0)(hT:Tab w0)(h2:5<w0.heap.size) :
  Calls prog 78 #[.string s] w0 (DU ((eF s).getD ed) (if (eF s).isSome then 0 else 3) w0):=by
 obtain⟨XV,hXV⟩:∃ X,X=(eF s).getD ed:=⟨_,rfl⟩;obtain⟨ER,hER⟩:∃ x:Int,x=(if (eF s).isSome then 0 else 3):=⟨_,rfl⟩;rw[<-hXV,<-hER];unfold eF at hXV hER;have hft:=MR af (splitB 32 s) (MQ s hs);obtain⟨R,hR⟩:∃ R,R=DU XV ER w0:=⟨_,rfl⟩;rw[<-hR];have HRR:=aA hR;have HT:=aA hT;clear hR hT;have hz:∀ k,((splitB 32 s).getD k aT).size<=1000000:=by
  intro k;rw[List.getD_eq_getElem?_getD];cases h:(splitB 32 s)[k]? with
  | none=>show aT.size<=_;decide
  | some x=>have:=oU 32 s x (List.mem_of_getElem? h);simp;omega
 have hnl:=qM 32 s;have hsp:=fun W (hb:aF w0 W)=>Ci s 32 W aB (hE.keep hb)
 generalize splitB 32 s=Ls at *;have HFT:=aA hft;have HXV:=aA hXV;have HER:=aA hER;clear hft hXV hER;have HZ:=aA hz;have HSP:=aA hsp;have HE:=aA hE;have HX:=aA hX;have HNL:=aA hnl;have H2:=aA h2;have HS:=aA hs;clear hz hsp hE hX hnl h2 hs;let QD:Exit->Act->World->Prop:=bodyPost prog f78 R;refine (callsIn_wide (n:=0)).1 ?_;refine callsIn_of_wp_marks func78 rfl trivial ?_ rfl;simp only[ntmps78,List.size_toArray,List.length_cons,List.length_nil,Nat.reduceAdd,Nat.reduceSub,Array.replicate_succ,Array.replicate_zero,List.push_toArray,List.append_toArray,List.nil_append,List.cons_append];refine wpIn_wide.2 ?_;go_upto_region 3 with (go_at_call 75;refine (HSP.out _ aJ).mono ?_;rintro e w1 ⟨rfl,hR1,hb1⟩)
 have hps:=PS.start hb1 hR1 (by have:=HNL.out;have:=HS.out;omega) (Nat.le_refl _) HE.out HX.out H2.out;obtain⟨g,hg⟩:∃ g,g=w1.heap.size:=⟨_,rfl⟩;obtain⟨nb,hnb⟩:∃ nb,nb=w1.heap.size+1:=⟨_,rfl⟩;simp only[World.size_alloc]at hps;rw[<-hnb,<-hg]at hps ⊢;obtain⟨W1,hW1⟩:∃ W1,W1=(w1.alloc (.cells #[.slice (some ⟨w0.heap.size+1,0,none⟩) Ls.length Ls.length,.bool false] 184)).alloc (.cells #[.func (.func 138) #[.pointer (some ⟨g,0,none⟩)] #[]] 110):=⟨_,rfl⟩;rw[<-hW1]at hps ⊢;clear hW1 hg hnb hb1 hR1 HSP HX HE HNL w1;go_cut [6] (fun v wx=>∃ cb,v=.pointer (some ⟨cb,0,none⟩)/\nb<cb/\aX wx cb (af (Ls.getD 0 aT)) (af (Ls.getD 1 aT)) (Ls.getD 2 aT) none 0 0 none 0 0 none 0 0 0/\PS w0 wx nb g Ls 3 (false||decide (Ls.length<=0)||dH (Ls.getD 0 aT)||decide (Ls.length<=1)||dH (Ls.getD 1 aT)||decide (Ls.length<=2)))
 case first =>
  have hg2:=hps.lo2;refine qI 12 aG aG (But g) (But.refl g) (fun a b c=>But.trans) (D3 nb g Ls) (D3.keep hg2) (J3 w0 nb g Ls) ?_ ?_ ?_
  ·have hd:=hps.keep (Below.drew (Below.refl _ _));exact hd
  ·skip;refine dL ?_ (dL ?_ (dL ?_ (dL ?_ (dL ?_ (dL ?_ (dL ?_ (dL ?_ (dL ?_ (dL ?_ (dL ?_ (dL ?_ (uu))))))))))))
   ·exact DV
   ·exact y7
   ·intro ho L a w hC hi hl hJ hG hA hd;have t17:a.eval (.tmp 17)=.pointer (some ⟨g,0,none⟩):=gZ;have u17:=(dM a 17).trans t17;have c3:L 3=true->L 2=true:=fun h=>hC 3 _ h rfl _ (Array.mem_of_getElem? (i:=1) rfl) rfl
    have c6:L 6=true->L 3=true:=fun h=>hC 6 _ h rfl _ (Array.mem_of_getElem? (i:=1) rfl) rfl
    have c7:L 7=true->L 6=true:=fun h=>hC 7 _ h rfl _ (Array.mem_of_getElem? (i:=1) rfl) rfl
    have c9:L 9=true->L 7=true:=fun h=>hC 9 _ h rfl _ (Array.mem_of_getElem? (i:=1) rfl) rfl
    have n3:L 3=false:=Bool.eq_false_iff.2 (fun h=>absurd (c3 h) vw);have n6:L 6=false:=Bool.eq_false_iff.2 (fun h=>absurd (c6 h) (by rw[n3];exact Bool.false_ne_true));have n7:L 7=false:=Bool.eq_false_iff.2 (fun h=>absurd (c7 h) (by rw[n6];exact Bool.false_ne_true));have n9:L 9=false:=Bool.eq_false_iff.2 (fun h=>absurd (c9 h) DW);have hJ':PS w0 w nb g Ls 0 (false):=by simpa[J3,b3,hi,n3,n6,n7,n9] using hJ
    refine lM (f:=139) (args:=#[.pointer (some ⟨g,0,none⟩)]) ho rfl (by simp[go_sem,execOp,u17]) ?_;refine (yU hJ').mono ?_;rintro e W' ⟨rfl,hp,hb⟩;exact⟨_,rfl,rfl,hb,by simpa[J3,b3,hi,n3,n6,n7,n9] using hp⟩
   ·intro ho L a w hC hi hl hJ hG hA hd;have t16:a.eval (.tmp 16)=.func (.func 138) #[.pointer (some ⟨g,0,none⟩)] #[]:=gZ;have u16:=(dM a 16).trans t16;have t18:a.eval (.tmp 18)=.string (Ls.getD 0 aT):=qV;have u18:=(dM a 18).trans t18;have c3:L 3=true->L 2=true:=fun h=>hC 3 _ h rfl _ (Array.mem_of_getElem? (i:=1) rfl) rfl
    have c6:L 6=true->L 3=true:=fun h=>hC 6 _ h rfl _ (Array.mem_of_getElem? (i:=1) rfl) rfl
    have c7:L 7=true->L 6=true:=fun h=>hC 7 _ h rfl _ (Array.mem_of_getElem? (i:=1) rfl) rfl
    have c9:L 9=true->L 7=true:=fun h=>hC 9 _ h rfl _ (Array.mem_of_getElem? (i:=1) rfl) rfl
    have l2:L 2=true:=hl _ (Array.mem_of_getElem? (i:=1) rfl) rfl;have n6:L 6=false:=Bool.eq_false_iff.2 (fun h=>absurd (c6 h) vw);have n7:L 7=false:=Bool.eq_false_iff.2 (fun h=>absurd (c7 h) (by rw[n6];exact Bool.false_ne_true));have n9:L 9=false:=Bool.eq_false_iff.2 (fun h=>absurd (c9 h) DW);have hJ':PS w0 w nb g Ls 1 (false||decide (Ls.length<=0)):=by simpa[J3,b3,hi,l2,n6,n7,n9] using hJ
    refine lM (f:=138) (args:=#[.pointer (some ⟨g,0,none⟩),.string (Ls.getD 0 aT)]) ho rfl (by simp[go_sem,execOp,u16,u18]) ?_;refine (yV hJ' (HZ.out _)).mono ?_;rintro e W' ⟨rfl,hp,hb⟩;exact⟨_,rfl,rfl,hb,by simpa[J3,b3,hi,l2,n6,n7,n9] using hp⟩
   ·exact DV
   ·exact y7
   ·intro ho L a w hC hi hl hJ hG hA hd;have t21:a.eval (.tmp 21)=.pointer (some ⟨g,0,none⟩):=gZ;have u21:=(dM a 21).trans t21;have c3:L 3=true->L 2=true:=fun h=>hC 3 _ h rfl _ (Array.mem_of_getElem? (i:=1) rfl) rfl
    have c6:L 6=true->L 3=true:=fun h=>hC 6 _ h rfl _ (Array.mem_of_getElem? (i:=1) rfl) rfl
    have c7:L 7=true->L 6=true:=fun h=>hC 7 _ h rfl _ (Array.mem_of_getElem? (i:=1) rfl) rfl
    have c9:L 9=true->L 7=true:=fun h=>hC 9 _ h rfl _ (Array.mem_of_getElem? (i:=1) rfl) rfl
    have l3:L 3=true:=hl _ (Array.mem_of_getElem? (i:=1) rfl) rfl;have l2:L 2=true:=c3 l3;have n7:L 7=false:=Bool.eq_false_iff.2 (fun h=>absurd (c7 h) vw);have n9:L 9=false:=Bool.eq_false_iff.2 (fun h=>absurd (c9 h) DW);have hJ':PS w0 w nb g Ls 1 (false||decide (Ls.length<=0)||dH (Ls.getD 0 aT)):=by simpa[J3,b3,hi,l3,l2,n7,n9] using hJ
    refine lM (f:=139) (args:=#[.pointer (some ⟨g,0,none⟩)]) ho rfl (by simp[go_sem,execOp,u21]) ?_;refine (yU hJ').mono ?_;rintro e W' ⟨rfl,hp,hb⟩;exact⟨_,rfl,rfl,hb,by simpa[J3,b3,hi,l3,l2,n7,n9] using hp⟩
   ·intro ho L a w hC hi hl hJ hG hA hd;have t20:a.eval (.tmp 20)=.func (.func 138) #[.pointer (some ⟨g,0,none⟩)] #[]:=gZ;have u20:=(dM a 20).trans t20;have t22:a.eval (.tmp 22)=.string (Ls.getD 1 aT):=qV;have u22:=(dM a 22).trans t22;have c3:L 3=true->L 2=true:=fun h=>hC 3 _ h rfl _ (Array.mem_of_getElem? (i:=1) rfl) rfl
    have c6:L 6=true->L 3=true:=fun h=>hC 6 _ h rfl _ (Array.mem_of_getElem? (i:=1) rfl) rfl
    have c7:L 7=true->L 6=true:=fun h=>hC 7 _ h rfl _ (Array.mem_of_getElem? (i:=1) rfl) rfl
    have c9:L 9=true->L 7=true:=fun h=>hC 9 _ h rfl _ (Array.mem_of_getElem? (i:=1) rfl) rfl
    have l6:L 6=true:=hl _ (Array.mem_of_getElem? (i:=1) rfl) rfl;have l3:L 3=true:=c6 l6;have l2:L 2=true:=c3 l3;have n9:L 9=false:=Bool.eq_false_iff.2 (fun h=>absurd (c9 h) vw);have hJ':PS w0 w nb g Ls 2 (false||decide (Ls.length<=0)||dH (Ls.getD 0 aT)||decide (Ls.length<=1)):=by simpa[J3,b3,hi,l6,l3,l2,n9] using hJ
    refine lM (f:=138) (args:=#[.pointer (some ⟨g,0,none⟩),.string (Ls.getD 1 aT)]) ho rfl (by simp[go_sem,execOp,u20,u22]) ?_;refine (yV hJ' (HZ.out _)).mono ?_;rintro e W' ⟨rfl,hp,hb⟩;exact⟨_,rfl,rfl,hb,by simpa[J3,b3,hi,l6,l3,l2,n9] using hp⟩
   ·exact y7
   ·intro ho L a w hC hi hl hJ hG hA hd;have t24:a.eval (.tmp 24)=.pointer (some ⟨g,0,none⟩):=gZ;have u24:=(dM a 24).trans t24;have c3:L 3=true->L 2=true:=fun h=>hC 3 _ h rfl _ (Array.mem_of_getElem? (i:=1) rfl) rfl
    have c6:L 6=true->L 3=true:=fun h=>hC 6 _ h rfl _ (Array.mem_of_getElem? (i:=1) rfl) rfl
    have c7:L 7=true->L 6=true:=fun h=>hC 7 _ h rfl _ (Array.mem_of_getElem? (i:=1) rfl) rfl
    have c9:L 9=true->L 7=true:=fun h=>hC 9 _ h rfl _ (Array.mem_of_getElem? (i:=1) rfl) rfl
    have l7:L 7=true:=hl _ (Array.mem_of_getElem? (i:=1) rfl) rfl;have l6:L 6=true:=c7 l7;have l3:L 3=true:=c6 l6;have l2:L 2=true:=c3 l3;have hJ':PS w0 w nb g Ls 2 (false||decide (Ls.length<=0)||dH (Ls.getD 0 aT)||decide (Ls.length<=1)||dH (Ls.getD 1 aT)):=by simpa[J3,b3,hi,l7,l6,l3,l2] using hJ
    refine lM (f:=139) (args:=#[.pointer (some ⟨g,0,none⟩)]) ho rfl (by simp[go_sem,execOp,u24]) ?_;refine (yU hJ').mono ?_;rintro e W' ⟨rfl,hp,hb⟩;exact⟨_,rfl,rfl,hb,by simpa[J3,b3,hi,l7,l6,l3,l2] using hp⟩
   ·intro ho L a w hC hi hl hJ hG hA hd;have t19:a.eval (.tmp 19)=.int .i64 (af (Ls.getD 0 aT)):=gZ;have u19:=(dM a 19).trans t19;have t23:a.eval (.tmp 23)=.int .i64 (af (Ls.getD 1 aT)):=qV;have u23:=(dM a 23).trans t23;have t25:a.eval (.tmp 25)=.string (Ls.getD 2 aT):=by have:=hd _ (Array.mem_of_getElem? (i:=2) rfl) rfl;exact this
    have u25:=(dM a 25).trans t25;exact kR (W':=w) ho rfl (by simp[go_sem,execOp,u19,u23,u25]) ⟨rfl,But.refl _ _,hJ⟩
   ·intro ho L a w hC hi hl hJ hG hA hd;have hg:=PS.lo2 hJ;have hlt:=Blk.lt (PS.num hJ);exact kR (v:=.pointer (some ⟨w.heap.size,0,none⟩)) (W':=w.alloc (.cells fU 27)) ho rfl (by simp[go_sem,execOp]) ⟨⟨w.heap.size,rfl,hlt,World.alloc_heap_new _ _⟩,But.of_below (aU (Below.refl _ _) _),PS.keep hJ (aU (Below.refl _ _) _)⟩
  ·intro vals w' hG hJ hD;have hP:PS w0 w' nb g Ls 3 (false||decide (Ls.length<=0)||dH (Ls.getD 0 aT)||decide (Ls.length<=1)||dH (Ls.getD 1 aT)||decide (Ls.length<=2)):=by simpa[J3,b3] using hJ
   have e10:vals 10=.agg #[.int .i64 (af (Ls.getD 0 aT)),.int .i64 (af (Ls.getD 1 aT)),.string (Ls.getD 2 aT),.slice none 0 0,.slice none 0 0,.slice none 0 0,.int .i64 0]:=hD 10 aB;obtain⟨cb,e11,hcb,hbox⟩:∃ cb,vals 11=.pointer (some ⟨cb,0,none⟩)/\nb<cb/\aX w' cb 0 0 ⟨#[]⟩ none 0 0 none 0 0 none 0 0 0:=hD 11 aB;dsimp only[List.drop,List.take,aZ];rw[e10,e11];obtain⟨x0,x1,x2,x3,x4,x5,x6⟩:=aX.facts hbox;have z0:=Blk.free0 hbox 0;have z1:=Blk.free0 hbox 1;have z2:=Blk.free0 hbox 2;have z3:=Blk.free0 hbox 3;have z4:=Blk.free0 hbox 4;have z5:=Blk.free0 hbox 5;have z6:=Blk.free0 hbox 6;go_wp2;go_meet;exact⟨cb,rfl,hcb,aX.put hbox _ _ _ _ _ _ _ _ _ _ _ _ _,hP.far (DD) hcb⟩
 case rest =>
  clear hps;obtain⟨cb,rfl,hcb,hB,hP⟩:=hcut;obtain⟨F2,hF2⟩:∃ F2,F2=Ls.getD 2 aT:=⟨_,rfl⟩;rw[<-hF2]at hB;obtain⟨b5,hb5⟩:∃ b5,b5=(false||decide (Ls.length<=0)||dH (Ls.getD 0 aT)||decide (Ls.length<=1)||dH (Ls.getD 1 aT)||decide (Ls.length<=2)):=⟨_,rfl⟩;rw[<-hb5]at hP;have HB5:=aA hb5;have HF2:=aA hF2;clear hb5 hF2;generalize hN0:af (Ls.getD 0 aT)=N0 at hB;generalize hN1:af (Ls.getD 1 aT)=N1 at hB;have HN0:=aA hN0;have HN1:=aA hN1;clear hN0 hN1;obtain⟨x0,x1,x2,x3,x4,x5,x6⟩:=aX.facts hB;have z2:=Blk.free0 hB 2;have lcb:=Blk.lt hB;go_upto_if 29 with fail
  go_cut [] (fun wx=>aX wx cb N0 N1 (unT F2) none 0 0 none 0 0 none 0 0 0/\PS w0 wx nb g Ls 3 b5)
  case first =>
   by_cases hx:F2.data.toList=[126]
   ·have e1:(F2.toList == [126])=true:=yS;have e2:F2.toList=[126]:=yT;have hU:unT F2=⟨#[]⟩:=by unfold unT;rw[if_pos hx]
    clear hx;rw[e1];go_wp2;go_meet;rw[hU];exact⟨aX.s2 hB _,hP.far (But.set _ _ _ _) hcb⟩
   ·have e1:(F2.toList == [126])=false:=yS;have e2:¬ F2.toList=[126]:=yT;have hU:unT F2=F2:=by unfold unT;rw[if_neg hx]
    clear hx;rw[e1];go_wp2;go_meet;rw[hU];exact⟨hB,hP⟩
  case rest =>
   clear hB hP x0 x1 x2 x3 x4 x5 x6 z2 lcb;obtain⟨hB,hP⟩:=hcut;generalize hPT:unT F2=PT at hB;have HPT:=aA hPT;clear hPT;have q3:=fun W (h:PS w0 W nb g Ls 3 b5)=>DC h (HZ.out 3)
   have q4:=fun W b (h:PS w0 W nb g Ls 4 b)=>DC h (HZ.out 4)
   have q5:=fun W b (h:PS w0 W nb g Ls 5 b)=>DC h (HZ.out 5)
   generalize hX3:cZ (Ls.getD 3 aT)=X3 at q3;generalize hX4:cZ (Ls.getD 4 aT)=X4 at q4;generalize hX5:cZ (Ls.getD 5 aT)=X5 at q5;have hxl:X5.length<=1000001:=by rw[<-hX5];have:=Ku (Ls.getD 5 aT);have:=HZ.out 5;omega
   have HXL:=aA hxl;clear hxl;have hxs:∀ x∈X5,x.size<=1000000:=by rw[<-hX5];intro x hx;have:=Kv (Ls.getD 5 aT) x hx;have:=HZ.out 5;omega
   have HXS:=aA hxs;clear hxs;have HX3:=aA hX3;have HX4:=aA hX4;have HX5:=aA hX5;have Q3:=aA q3;have Q4:=aA q4;have Q5:=aA q5;clear hX3 hX4 hX5 q3 q4 q5;go_upto_region 6 with fail
   go_cut [] (fun wx=>∃ A3 c3 A4 c4,aX wx cb N0 N1 PT A3 X3.length c3 A4 X4.length c4 none 0 0 0/\aI wx 1 A3 X3.length (X3.map .string)/\aI wx 1 A4 X4.length (X4.map .string)/\Beh cb A3 X3.length/\Beh cb A4 X4.length/\PS w0 wx nb g Ls 5 (b5||decide (Ls.length<=3)||decide (Ls.length<=4)))
   case first =>
    go_wp2_with (first | (go_at_call 140;refine (Q3.out _ hP).mono ?_;rintro e w3 ⟨A3,c3,rfl,hR3,hl3,hp,hb3⟩;clear Q3;have lc3:=Blk.lt hB;have hq3:Beh cb A3 X3.length:=(fun h0 a ha=>Nat.lt_of_lt_of_le lc3 (hl3 h0 a ha));replace hB:aX w3 cb N0 N1 PT none 0 0 none 0 0 none 0 0 0:=hb3.blk hB (by have:=hp.lo2;omega);clear hl3 lc3;replace hP:=hp;clear hp) | (go_at_call 140;refine (Q4.out _ _ hP).mono ?_;rintro e w4 ⟨A4,c4,rfl,hR4,hl4,hp,hb4⟩;clear Q4;have lc4:=Blk.lt hB;have hq4:Beh cb A4 X4.length:=(fun h0 a ha=>Nat.lt_of_lt_of_le lc4 (hl4 h0 a ha));replace hB:aX w4 cb N0 N1 PT none 0 0 none 0 0 none 0 0 0:=hb4.blk hB (by have:=hp.lo2;omega);replace hR3:=hb4.reads hR3 (fun h0 a ha=>by have h1:=hq3 h0 a ha;have h2:=hp.lo2;omega);clear hl4 lc4;replace hP:=hp;clear hp;(have x3:=Blk.cell hB 3;have x4:=Blk.cell hB 4;have z3:=Blk.free0 hB 3;have z4:=Blk.free0 hB 4;have lcb:=Blk.lt hB;simp only[List.getElem?_toArray,List.getElem?_cons_zero,List.getElem?_cons_succ]at x3 x4)));go_meet;exact⟨A3,c3,A4,c4,(hB.s3 A3 X3.length c3).s4 A4 X4.length c4,((But.set _ cb 3 _).step 4 _).reads hR3 (hq3.off),((But.set _ cb 3 _).step 4 _).reads hR4 (hq4.off),hq3,hq4,hP.far ((But.set _ cb 3 _).step 4 _) hcb⟩
   case rest =>
    clear hB hP;obtain⟨A3,c3,A4,c4,hB,hR3,hR4,hq3,hq4,hP⟩:=hcut;have lcb:=Blk.lt hB;have l3:=yR hR3;have l4:=yR hR4;obtain⟨lo,hlo⟩:∃ lo,lo=wc.heap.size:=⟨_,rfl⟩;go_wp2_with (first | (go_at_call 140;refine (Q5.out _ _ hP).mono ?_;rintro e w5 ⟨A5,c5,rfl,hR5,hl5,hp,hb5⟩;clear Q5) | (go_at_call 97;refine (V7 _ _ _ _).mono ?_;rintro e w6 ⟨rfl,rfl⟩));have hB5:aX w5 cb N0 N1 PT A3 X3.length c3 A4 X4.length c4 none 0 0 0:=hb5.blk hB (by have:=hp.lo2;omega);have hk6:aF w5 (w5.alloc (.cells #[.slice A5 X5.length c5] 24)):=aU (Below.refl _ _) _;have hP6:=hp.keep hk6;have hB6:aX _ cb N0 N1 PT A3 X3.length c3 A4 X4.length c4 none 0 0 0:=Blk.keep hB5 hk6;have hR36:=(hb5.reads hR3 (fun h0 a ha=>by have h1:=hq3 h0 a ha;have h2:=hp.lo2;omega)).keep hk6;have hR46:=(hb5.reads hR4 (fun h0 a ha=>by have h1:=hq4 h0 a ha;have h2:=hp.lo2;omega)).keep hk6;have hseq:=WY lo w5.heap.size A5 X5.length c5 X5 _ (Blk.cell (World.alloc_heap_new w5 (.cells #[.slice A5 X5.length c5] 24)) 0) (hR5.keep hk6) (by have:=HXL.out;omega) (by rw[hlo];exact hl5);have hlo6:lo<=(w5.alloc (.cells #[.slice A5 X5.length c5] 24)).heap.size:=by have:=hb5.size;simp;omega
    have hcl:cb<lo:=by rw[hlo];exact lcb
    have hm3:0<X3.length->∀ a,A3=some a->a.block<lo:=by rw[hlo];exact l3
    have hm4:0<X4.length->∀ a,A4=some a->a.block<lo:=by rw[hlo];exact l4
    clear hB5 hB hP hR3 hR4 hb5 hk6 hR5 hl5 l3 l4 hlo lcb;obtain⟨hi,hhi⟩:∃ hi,hi=(w5.alloc (.cells #[.slice A5 X5.length c5] 24)).heap.size:=⟨_,rfl⟩;obtain⟨b8,hb8⟩:∃ b8,b8=(b5||decide (Ls.length<=3)||decide (Ls.length<=4)||decide (Ls.length<=5)):=⟨_,rfl⟩;rw[<-hb8]at hP6;rw[<-hhi]at hseq hlo6;obtain⟨i0,hi0,hz0,hz1,hz2⟩:=info_parts XQ;have HI:Hid ((prog.info? 3=some i0)/\i0.zero=some (.int .i64 0)/\i0.size=1/\i0.bytes=8):=aA ⟨hi0,hz0,hz1,hz2⟩;clear hi0 hz0 hz1 hz2;refine (wpIn_wide (n:=0)).1 ?_;refine wU (a:=?act) (gf:=166) (lb:=#[.pointer (some ⟨w5.heap.size,0,none⟩)]) ?geq (enters_of func166 aG rfl) hseq (Below.refl _ _) (Nat.le_of_eq hhi) (PI w0 nb g cb hi Ls X3 X4 X5 b8 N0 N1 PT A3 A4 c3 c4) (fun _ _=>False) (PI.own (by have:=hP6.lo;have:=hP6.lo2;omega)) (fun _ _ _ _ _ h _ _=>h) ⟨none,0,hB6,World.ownsRow_nil _ _ _ _,hR36,hR46,by simpa using hP6,Nat.le_of_eq hhi⟩ (fun _ _ _ _ h=>h.elim) (fun _ _ h=>h.elim) (fun x=>(Act.put (Act.put ?act (some 40) x) (some 7) x)) ?assign ?body ?done ?stop
    case geq=>rfl
    case stop=>exact fun _ _ _ _ h _=>h.elim
    case assign =>
     intro l x W K _ hK
     gi_wp2
     exact hK
    case body =>
     rintro l k x W hx ⟨A6,c6,hB,hown,hR3,hR4,hP,hs6⟩;obtain⟨p,hp',rfl⟩:=pG hx;have hpz:=HXS.out p (List.mem_of_getElem? hp');have hkl:k<X5.length:=(List.getElem?_eq_some_iff.1 hp').1;have hxl:=HXL.out;obtain⟨bq,hbq⟩:∃ bq,bq=(b8||(X5.take k).any dH):=⟨_,rfl⟩;have hany:(b8||(X5.take (k+1)).any dH)=(bq||dH p):=by rw[List.take_add_one,hp',hbq];simp[Bool.or_assoc]
     have htk:(X5.take (k+1)).map (fun x=>Value.int .i64 (af x))=(X5.take k).map (fun x=>Value.int .i64 (af x))++[.int .i64 (af p)]:=by rw[List.take_add_one,hp'];simp
     rw[<-hbq]at hP;clear hx hp' hbq;have hl2:=hP.lo2;have hPd:=hP.keep (Below.drew (Below.refl _ _));have hBd:aX W.drew cb N0 N1 PT A3 X3.length c3 A4 X4.length c4 A6 k c6 0:=Blk.keep hB (Below.drew (Below.refl _ _));have hR3d:=hR3.keep (Below.drew (Below.refl _ _));have hR4d:=hR4.keep (Below.drew (Below.refl _ _))
     gi_wp2
     simp only[Act.put,ag];refine YE 6 aG aG (But g) (But.refl g) (fun a b c=>But.trans) (D9 nb g cb A6 k c6 p) D9.keep (fun L w=>PS w0 w nb g Ls 6 (bq||(L 4&&dH p))) ?_ ?_ ?_
     ·simpa using hPd
     ·skip;refine dL ?_ (dL ?_ (dL ?_ (dL ?_ (dL ?_ (dL ?_ (uu))))))
      ·intro ho L a w hC hi hl hJ hG hA hd;have t6:a.eval (.tmp 6)=.pointer (some ⟨cb,0,none⟩):=pF hA aG;have u6:=(dM a 6).trans t6;exact vz (W':=w) ho rfl (fun _=>trivial) tH (by simp[go_sem,execOp,u6]) ⟨rfl,But.refl _ _,hJ⟩
      ·intro ho L a w hC hi hl hJ hG hA hd;have t41:a.eval (.tmp 41)=.pointer (some ⟨cb,5,none⟩):=gZ;have u41:=(dM a 41).trans t41;have hx5:=Blk.cell (hG.blk hBd aB) 5;simp only[List.getElem?_toArray,List.getElem?_cons_zero,List.getElem?_cons_succ]at hx5;exact vz (W':=w) ho rfl (fun _=>trivial) tH (by simp[go_sem,execOp,u41,hx5]) ⟨rfl,But.refl _ _,hJ⟩
      ·intro ho L a w hC hi hl hJ hG hA hd;have t5:a.eval (.tmp 5)=.pointer (some ⟨nb,0,none⟩):=pF hA aG;have u5:=(dM a 5).trans t5;have n0:w.cell? ⟨nb,0,none⟩=some (.func (.func 138) #[.pointer (some ⟨g,0,none⟩)] #[]):=PS.n0 hJ;exact vz (W':=w) ho rfl (fun _=>trivial) tH NK ⟨rfl,But.refl _ _,hJ⟩
      ·intro ho L a w hC hi hl hJ hG hA hd;have t7:a.eval (.tmp 7)=.string p:=pF hA aG;have u7:=(dM a 7).trans t7;exact vz (W':=w) ho rfl (fun _=>trivial) tH (by simp[go_sem,execOp,u7]) ⟨rfl,But.refl _ _,hJ⟩
      ·intro ho L a w hC hi hl hJ hG hA hd;have t43:a.eval (.tmp 43)=.func (.func 138) #[.pointer (some ⟨g,0,none⟩)] #[]:=gZ;have u43:=(dM a 43).trans t43;have t44:a.eval (.tmp 44)=.string p:=qV;have u44:=(dM a 44).trans t44;have hJ':PS w0 w nb g Ls 6 bq:=by simpa[hi] using hJ
       refine YF (f:=138) (args:=#[.pointer (some ⟨g,0,none⟩),.string p]) ho rfl (fun _=>trivial) (fun h=>by cases h) tH (by simp[go_sem,execOp,u43,u44]) ?_;refine CallsIn.inRound l (callsIn_wide.2 ((yV hJ' hpz).mono ?_));rintro e W' ⟨rfl,hp,hb⟩;exact⟨_,rfl,rfl,hb,by simpa[hi] using hp⟩
      ·intro ho L a w hC hi hl hJ hG hA hd;have t45:a.eval (.tmp 45)=.int .i64 (af p):=gZ;have u45:=(dM a 45).trans t45;have hgl:=RS.lt (PS.rs hJ);exact vz (v:=.slice (some ⟨w.heap.size,0,none⟩) 1 1) (W':=w.alloc (.cells #[.int .i64 (af p)] 3)) ho rfl (fun _=>trivial) tH (by simp[go_sem,execOp,u45]) ⟨⟨_,rfl,hgl,Blk.cell (World.alloc_heap_new w (.cells #[.int .i64 (af p)] 3)) 0⟩,But.of_below (aU (Below.refl _ _) _),PS.keep hJ (aU (Below.refl _ _) _)⟩
     ·intro vals w' hG hJ hD;have hP2:PS w0 w' nb g Ls 6 (bq||dH p):=by simpa using hJ
      have e1:vals 1=.slice A6 k c6:=hD 1 aB;obtain⟨bb,e5,hgb,hbc⟩:∃ bb,vals 5=.slice (some ⟨bb,0,none⟩) 1 1/\g<bb/\w'.cell? ⟨bb,0,none⟩=some (.int .i64 (af p)):=hD 5 aB;have hgs:W.heap.size<=w'.heap.size:=hG.size;have hB2:aX w' cb N0 N1 PT A3 X3.length c3 A4 X4.length c4 A6 k c6 0:=hG.blk hBd aB;have hown2:=Kw (W:=W.drew) hown hG aB;have hR32:=hG.reads hR3d (fun h0 a ha=>by have h1:=hq3 h0 a ha;omega);have hR42:=hG.reads hR4d (fun h0 a ha=>by have h1:=hq4 h0 a ha;omega);have hkf1:KeepsFrom hi W w':=⟨hgs,fun q o h1 h2 h3=>(We (B:=hi) hG aB).same q o h1 h2 h3⟩;have hki1:iC lo hi W w':=Kz (W:=W.drew) hG aB (by simpa using hs6);dsimp only[List.drop,List.take,aZ];rw[e1,e5];simp only[Act.put,ag];refine wpListIn_append_own _ rfl (.tmp 42) (.tmp 46) 25 rfl hi 3 i0 (.int .i64 0) 1 8 underlying25 HI.out.1 HI.out.2.1 HI.out.2.2.1 HI.out.2.2.2 rfl aK _ k _ rfl hown2 ⟨bb,0,none⟩ 1 1 [.int .i64 (af p)] rfl rfl (Wn hbc) jJ dh aB aB ?_;intro v' w3 hown3 hgrow _;obtain⟨g',cap',rfl⟩:=ownsRow_succ hown3;have hrc:=Ky hown2;have hbl:=Wj hgrow (fun r e=>(hrc r e).1) (Nat.le_trans hs6 hgs);have hB3:aX w3 cb N0 N1 PT A3 X3.length c3 A4 X4.length c4 A6 k c6 0:=(hbl.block cb aB).trans hB2;have hR33:=DF hR32 hbl (fun h0 a ha=>by have:=hm3 h0 a ha;omega);have hR43:=DF hR42 hbl (fun h0 a ha=>by have:=hm4 h0 a ha;omega);have hP3:=hP2.below_to hbl aB (Nat.le_trans hs6 hgs);have hkf2:=hkf1.trans (Wh (B:=hi) hgrow (fun r e=>(hrc r e).2));have hki2:=hki1.trans (Wi (lo:=lo) hgrow (fun r e=>(hrc r e).1) (Nat.le_trans hs6 hgs));have hs3:=hgrow.size;have x5:=Blk.cell hB3 5;simp only[List.getElem?_toArray,List.getElem?_cons_zero,List.getElem?_cons_succ]at x5;have z5:=Blk.free0 hB3 5;have lc3:=Blk.lt hB3;clear hB hBd hB2 hown hown2 hR3 hR4 hR3d hR4d hR32 hR42 hkf1 hki1 hP hPd hP2 hrc e1 e5 hJ hD hbc
      gi_wp2
      refine⟨by rw[<-hhi];exact hkf2.trans ((KeepsOthers.setCell _ _ _).from _),hki2.trans (Kz (But.set _ _ _ _) aB aB),some ⟨g',0,none⟩,cap',hB3.s5 _ _ _,Kw (by rw[htk];exact hown3) (But.set _ cb 5 _) aB,(But.set _ cb 5 _).reads hR33 hq3.off,(But.set _ cb 5 _).reads hR43 hq4.off,by rw[hany];exact hP3.far (But.set _ cb 5 _) hcb,AU⟩
    case done =>
     rintro D W hD ⟨A6,c6,hB,hown,hR3,hR4,hP,hs6⟩ hK;have hDlt:D<W.heap.size:=(Array.getElem?_eq_some_iff.1 hK).1;rw[<-hhi]at hD;rw[List.length_map]at hB hown hP;rw[List.take_of_length_le (Nat.le_refl _)]at hown hP;obtain⟨b9,hb9⟩:∃ b9,b9=(b8||X5.any dH):=⟨_,rfl⟩;rw[<-hb9]at hP;have hR6:=aI.of_own hown;have hcells:=Ky hown;have hq6:Beh cb A6 X5.length:=by
      intro h0 a ha;have:=(hcells a.block DY).1;omega
     have hB9:=aA (And.intro hb8 hb9);have HHI:=aA hhi;clear hseq hm3 hm4 hown hb8 hb9 hhi HI hR36 hR46 hP6 hB6 hp HXL HXS;have hl2:=hP.lo2;have hPd:=hP.keep (Below.drew (Below.refl _ _));have hBd:aX W.drew cb N0 N1 PT A3 X3.length c3 A4 X4.length c4 A6 X5.length c6 0:=Blk.keep hB (Below.drew (Below.refl _ _));have hR3d:=hR3.keep (Below.drew (Below.refl _ _));have hR4d:=hR4.keep (Below.drew (Below.refl _ _));have hR6d:=hR6.keep (Below.drew (Below.refl _ _));go_upto_region 10 with fail
     obtain⟨N6,hN6⟩:∃ N6,N6=af (Ls.getD 6 aT):=⟨_,rfl⟩;go_cut [] (fun wx=>aX wx cb N0 N1 PT A3 X3.length c3 A4 X4.length c4 A6 X5.length c6 N6/\aI wx 1 A3 X3.length (X3.map .string)/\aI wx 1 A4 X4.length (X4.map .string)/\aI wx 1 A6 X5.length (X5.map fun x=>.int .i64 (af x))/\PS w0 wx nb g Ls 7 (b9||decide (Ls.length<=6)||dH (Ls.getD 6 aT))/\wx.heap[D]? = some (.deferred (some [])))
     case first =>
      refine qI 4 aG aG (But g) (But.refl g) (fun a b c=>But.trans) (D10 nb g Ls) D10.keep (J10 w0 nb g Ls b9) ?_ ?_ ?_
      ·simpa[J10] using hPd
      ·skip;refine dL ?_ (dL ?_ (dL ?_ (dL ?_ (uu))))
       ·exact DV
       ·exact y7
       ·intro ho L a w hC hi hl hJ hG hA hd;have t50:a.eval (.tmp 50)=.pointer (some ⟨g,0,none⟩):=gZ;have u50:=(dM a 50).trans t50;have c3:L 3=true->L 2=true:=fun h=>hC 3 _ h rfl _ (Array.mem_of_getElem? (i:=1) rfl) rfl
        have n3:L 3=false:=Bool.eq_false_iff.2 (fun h=>absurd (c3 h) vw);have hJ':PS w0 w nb g Ls 6 b9:=by simpa[J10,hi,n3] using hJ
        refine lM (f:=139) (args:=#[.pointer (some ⟨g,0,none⟩)]) ho rfl (by simp[go_sem,execOp,u50]) ?_;refine (yU hJ').mono ?_;rintro e W' ⟨rfl,hp,hb⟩;exact⟨_,rfl,rfl,hb,by simpa[J10,hi,n3] using hp⟩
       ·intro ho L a w hC hi hl hJ hG hA hd;have t49:a.eval (.tmp 49)=.func (.func 138) #[.pointer (some ⟨g,0,none⟩)] #[]:=gZ;have u49:=(dM a 49).trans t49;have t51:a.eval (.tmp 51)=.string (Ls.getD 6 aT):=qV;have u51:=(dM a 51).trans t51;have l2:L 2=true:=hl _ (Array.mem_of_getElem? (i:=1) rfl) rfl;have hJ':PS w0 w nb g Ls 7 (b9||decide (Ls.length<=6)):=by simpa[J10,hi,l2] using hJ
        refine lM (f:=138) (args:=#[.pointer (some ⟨g,0,none⟩),.string (Ls.getD 6 aT)]) ho rfl (by simp[go_sem,execOp,u49,u51]) ?_;refine (yV hJ' (HZ.out _)).mono ?_;rintro e W' ⟨rfl,hp,hb⟩;exact⟨_,rfl,rfl,hb,by simpa[J10,hi,l2] using hp⟩
      ·intro vals w' hG hJ hDv;have hP2:PS w0 w' nb g Ls 7 (b9||decide (Ls.length<=6)||dH (Ls.getD 6 aT)):=by simpa[J10] using hJ
       have e3:vals 3=.int .i64 (af (Ls.getD 6 aT)):=hDv 3 aB;have hB2:aX w' cb N0 N1 PT A3 X3.length c3 A4 X4.length c4 A6 X5.length c6 0:=hG.blk hBd aB;have hR32:=hG.reads hR3d (fun h0 a ha=>by have h1:=hq3 h0 a ha;omega);have hR42:=hG.reads hR4d (fun h0 a ha=>by have h1:=hq4 h0 a ha;omega);have hR62:=hG.reads hR6d (fun h0 a ha=>by have h1:=hq6 h0 a ha;omega);have hK2:w'.heap[D]? = some (.deferred (some [])):=(hG.block D (by simpa using hDlt) aB).trans hK;have hB3:=hB2.s6 (af (Ls.getD 6 aT));have hR33:=(But.set w' cb 6 (.int .i64 (af (Ls.getD 6 aT)))).reads hR32 hq3.off;have hR43:=(But.set w' cb 6 (.int .i64 (af (Ls.getD 6 aT)))).reads hR42 hq4.off;have hR63:=(But.set w' cb 6 (.int .i64 (af (Ls.getD 6 aT)))).reads hR62 hq6.off;have hP3:=hP2.far (But.set w' cb 6 (.int .i64 (af (Ls.getD 6 aT)))) hcb;have hK3:(w'.setCell ⟨cb,6,none⟩ (.int .i64 (af (Ls.getD 6 aT)))).heap[D]? = some (.deferred (some [])):=((But.set w' cb 6 _).block D (Array.getElem?_eq_some_iff.1 hK2).1 aB).trans hK2;have x6:=Blk.cell hB2 6;simp only[List.getElem?_toArray,List.getElem?_cons_zero,List.getElem?_cons_succ]at x6;have z6:=Blk.free0 hB2 6;have lc2:=Blk.lt hB2;clear hBd hPd hR3d hR4d hR6d hB hP hR3 hR4 hR6 hJ hDv hR32 hR42 hR62 hK hP2 hG;dsimp only[List.drop,List.take,aZ];rw[e3];simp only[Act.put,ag];rw[<-hN6]at hB3 hR33 hR43 hR63 hP3 hK3 ⊢;clear hN6;go_wp2;go_meet;exact⟨hB3,hR33,hR43,hR63,hP3,hK3⟩
     case rest =>
      clear hBd hPd hR3d hR4d hR6d hB hP hR3 hR4 hR6 hK;obtain⟨hB,hR3,hR4,hR6,hP,hK⟩:=hcut;obtain⟨b10,hb10⟩:∃ b10,b10=(b9||decide (Ls.length<=6)||dH (Ls.getD 6 aT)):=⟨_,rfl⟩;rw[<-hb10]at hP;have hCR:dA wc (fP af Ls) ⟨A3,c3,A4,c4,A6,c6⟩:=by
       refine⟨?_,?_,?_⟩
       ·show aI wc 1 A3 (cZ (Ls.getD 3 aT)).length ((cZ (Ls.getD 3 aT)).map .string);rw[HX3.out];exact hR3
       ·show aI wc 1 A4 (cZ (Ls.getD 4 aT)).length ((cZ (Ls.getD 4 aT)).map .string);rw[HX4.out];exact hR4
       ·show aI wc 1 A6 ((cZ (Ls.getD 5 aT)).map af).length (((cZ (Ls.getD 5 aT)).map af).map (.int .i64));rw[HX5.out,List.length_map,List.map_map];exact hR6
      have ht:=Xm (fP af Ls) ⟨A3,c3,A4,c4,A6,c6⟩ wc hCR HFT.out hP.env (HT.out.keep hP.below);have ec:ae.val (fP af Ls) ⟨A3,c3,A4,c4,A6,c6⟩=.agg #[.int .i64 N0,.int .i64 N1,.string PT,.slice A3 X3.length c3,.slice A4 X4.length c4,.slice A6 X5.length c6,.int .i64 N6]:=by
       show Value.agg #[.int .i64 (af (Ls.getD 0 aT)),.int .i64 (af (Ls.getD 1 aT)),.string (unT (Ls.getD 2 aT)),.slice A3 (cZ (Ls.getD 3 aT)).length c3,.slice A4 (cZ (Ls.getD 4 aT)).length c4,.slice A6 ((cZ (Ls.getD 5 aT)).map af).length c6,.int .i64 (af (Ls.getD 6 aT))]=_;rw[HN0.out,HN1.out,<-HF2.out,HPT.out,HX3.out,HX4.out,HX5.out,List.length_map,<-hN6]
      have hCRf:=aA (And.intro hCR ec);rw[ec]at ht;have h01:(kZ (fP af Ls)).2=0\/(kZ (fP af Ls)).2=1:=by unfold kZ;split <;> simp
      have hread:(qc Ls=false/\bF (fP af Ls)=true/\bK (fP af Ls)=s)↔(b10=false/\Ls.length<=7/\(kZ (fP af Ls)).2=0/\(kZ (fP af Ls)).1=s):=by
       rw[Xv];have h1:qc Ls=false↔(b10=false/\Ls.length<=7):=by
        rw[hb10,hB9.out.2,hB9.out.1,HB5.out];unfold qc;rw[HX5.out];exact Xy _ _ _ _ _
       rw[h1];constructor
       ·rintro⟨⟨h2,h3⟩,h4,h5⟩;exact⟨h2,h3,h4,h5⟩
       ·rintro⟨h2,h3,h4,h5⟩;exact⟨⟨h2,h3⟩,h4,h5⟩
      generalize kZ (fP af Ls)=TE at *;obtain⟨T1,T2⟩:=TE;obtain⟨AR,nR,cR,hB7,hR7,hn7,hg7⟩:=hP.rs;have hnl:nR=(Ls.drop 7).length:=by have:=hR7.1;simp at this ⊢;omega
      dsimp only at ht h01 hread;have HTX:=aA ht;have HRD:=aA hread;have HNL:=aA hnl;have HK:=aA hK;clear ht hread hnl hCR ec hb10 hN6 hR7 hg7 hK;obtain⟨x0,x1,x2,x3,x4,x5,x6⟩:=aX.facts hB;have lcb:=Blk.lt hB;go_upto_region 12 with (go_at_call 132;refine (HTX.out).mono ?_;rintro e w5 ⟨rfl,hb5⟩)
      have hB5:aX w5 cb N0 N1 PT A3 X3.length c3 A4 X4.length c4 A6 X5.length c6 N6:=Blk.keep hB hb5;have hRB5:RB w5 g AR nR cR b10:=Blk.keep hB7 hb5;have hbw5:aF w0 w5:=hP.below.trans (hb5.mono hP.below.size);have hres5:aX w5 w0.heap.size 0 0 ⟨#[]⟩ none 0 0 none 0 0 none 0 0 0:=Blk.keep hP.res hb5;have hCR5:=aA (And.intro (hCRf.out.1.keep hb5) hCRf.out.2);have hK5:=aA ((hb5.block D (Array.getElem?_eq_some_iff.1 HK.out).1).trans HK.out);have hlo:=hP.lo;have hlo2:=hP.lo2;clear x0 x1 x2 x3 x4 x5 x6 lcb hB hB7 hP hCRf HK HTX hb5;obtain⟨y0,y1,y2,y3,hrl⟩:=hRB5.facts;go_cut [79] (fun v wx=>v=.bool (b10||decide (0<nR)||decide (T2=1)|| !(T1.toList==s.toList))/\wx=w5)
      case first =>
       have hQ:=aA hRB5;clear hRB5 hB5 hres5 hbw5 hCR5 hK5 HRD HNL;cases b10
       ·rcases Nat.eq_zero_or_pos nR with h0 | h0
        ·subst h0;rcases h01 with rfl | rfl
         ·cases hts:(T1.toList==s.toList)
          ·have hts2:(T1.toList != s.toList)=true:=by simp only[bne,hts];rfl
           go_wp2;go_meet;exact⟨by rw[hts];rfl,rfl⟩
          ·have hts2:(T1.toList != s.toList)=false:=by simp only[bne,hts];rfl
           go_wp2;go_meet;exact⟨by rw[hts];rfl,rfl⟩
         ·go_wp2;go_meet;exact⟨aH,rfl⟩
        ·have h1:(0:Int)<(nR:Int):=aB;have h2:decide ((0:Int)<(nR:Int))=true:=aP;go_wp2;go_meet;exact⟨by simp[h0],rfl⟩
       ·go_wp2;go_meet;exact⟨aH,rfl⟩
      case rest =>
       obtain⟨rfl,rfl⟩:=hcut;clear y0 y1 y2 y3 hrl hRB5;cases hbb:(b10||decide (0<nR)||decide (T2=1)|| !(T1.toList==s.toList))
       ·have hbT:b10=false/\nR=0/\T2=0/\T1=s:=by
         simp only[Bool.or_eq_false_iff,decide_eq_false_iff_not,Bool.not_eq_false',beq_iff_eq]at hbb;obtain⟨⟨⟨h1,h2⟩,h3⟩,h4⟩:=hbb;refine⟨h1,aB,by rcases h01 with h | h;exact h;exact absurd h h3,?_⟩;rw[Lib.toList_data,Lib.toList_data]at h4;exact fK h4
        have hcond:=HRD.out.2 ⟨hbT.1,by have h1:=HNL.out;rw[List.length_drop,hbT.2.1]at h1;omega,hbT.2.2.1,hbT.2.2.2⟩;obtain rfl:XV=fP af Ls:=by rw[HXV.out,if_pos hcond];rfl
        obtain rfl:ER=0:=by rw[HER.out,if_pos hcond];rfl
        clear hbT hcond;obtain⟨x0,x1,x2,x3,x4,x5,x6⟩:=aX.facts hB5;have lcb:=Blk.lt hB5;obtain⟨r0,r1,r2,r3,r4,r5,r6⟩:=aX.facts hres5;have z0:=Blk.free0 hres5 0;have z1:=Blk.free0 hres5 1;have z2:=Blk.free0 hres5 2;have z3:=Blk.free0 hres5 3;have z4:=Blk.free0 hres5 4;have z5:=Blk.free0 hres5 5;have z6:=Blk.free0 hres5 6;have lrs:=Blk.lt hres5;clear h01 hbb;go_wp2;obtain⟨W6,hW6⟩:∃ W6,W6=(((((((wc.setCell ⟨w0.heap.size,0,none⟩ (.int .i64 N0)).setCell ⟨w0.heap.size,1,none⟩ (.int .i64 N1)).setCell ⟨w0.heap.size,2,none⟩ (.string PT)).setCell ⟨w0.heap.size,3,none⟩ (.slice A3 X3.length c3)).setCell ⟨w0.heap.size,4,none⟩ (.slice A4 X4.length c4)).setCell ⟨w0.heap.size,5,none⟩ (.slice A6 X5.length c6)).setCell ⟨w0.heap.size,6,none⟩ (.int .i64 N6)):=⟨_,rfl⟩;have hbut:But w0.heap.size wc W6:=by rw[hW6];exact DD
        have hbx:aX W6 w0.heap.size N0 N1 PT A3 X3.length c3 A4 X4.length c4 A6 X5.length c6 N6:=NL;rw[<-hW6];clear hW6 x0 x1 x2 x3 x4 x5 x6 r0 r1 r2 r3 r4 r5 r6 z0 z1 z2 z3 z4 z5 z6;have hDl:=(Array.getElem?_eq_some_iff.1 hK5.out).1;have hne0:D≠w0.heap.size:=fun e=>by
         exact NP
        have hk6:W6.heap[D]? = some (.deferred (some [])):=(hbut.block D hDl hne0).trans hK5.out;have hbw6:aF w0 W6:=hbw5.trans (hbut.below (Nat.le_refl _) hbw5.size);have hD0:w0.heap.size<=D:=aB;refine⟨aH,.inl ⟨_,_,rfl,run_takeDeferred hk6,?_⟩⟩;have hcm:pY W6 (W6.putObj D (.deferred none)) (some D):=⟨grownBy_putObj' W6 D _,fun r e=>by cases e;exact⟨_,hk6,rfl⟩⟩;obtain⟨r0,r1,r2,r3,r4,r5,r6⟩:=aX.facts (Blk.calm hbx hcm);refine⟨.tuple #[.agg #[.int .i64 N0,.int .i64 N1,.string PT,.slice A3 X3.length c3,.slice A4 X4.length c4,.slice A6 X5.length c6,.int .i64 N6],.int .i64 0],NQ,?_⟩;rw[HRR.out];refine⟨hbw6.grown (grownBy_putObj' W6 D _) (by have:=hbw6.size;omega) (fun r e=>mZ),?_⟩;obtain⟨hcr,hec⟩:=hCR5.out;have hz:∀{A:Option Addr}{n:Nat},Beh cb A n->0<n->∀ a,A=some a->a.block≠w0.heap.size:=fun h h0 a ha=>by have:=h h0 a ha;omega
        have hff:∀{A:Option Addr}{n:Nat},Beh cb A n->0<n->∀ a,A=some a->w0.heap.size<=a.block:=fun h h0 a ha=>by have:=h h0 a ha;omega
        refine⟨⟨A3,c3,A4,c4,A6,c6⟩,by rw[hec],?_,?fr⟩
        case fr =>
         refine⟨?_,?_,?_⟩
         ·show 0<(cZ (Ls.getD 3 aT)).length->_;rw[HX3.out];exact hff hq3
         ·show 0<(cZ (Ls.getD 4 aT)).length->_;rw[HX4.out];exact hff hq4
         ·show 0<((cZ (Ls.getD 5 aT)).map af).length->_;rw[HX5.out,List.length_map];exact hff hq6
        refine⟨(hbut.reads hcr.cl ?_).calm hcm,(hbut.reads hcr.co ?_).calm hcm,(hbut.reads hcr.si ?_).calm hcm⟩
        ·show 0<(cZ (Ls.getD 3 aT)).length->_;rw[HX3.out];exact hz hq3
        ·show 0<(cZ (Ls.getD 4 aT)).length->_;rw[HX4.out];exact hz hq4
        ·show 0<((cZ (Ls.getD 5 aT)).map af).length->_;rw[HX5.out,List.length_map];exact hz hq6
       ·have hcond:¬ (qc Ls=false/\bF (fP af Ls)=true/\bK (fP af Ls)=s):=fun h=>by
         obtain⟨h1,h2,h3,h4⟩:=HRD.out.1 h;have h5:=HNL.out;rw[List.length_drop]at h5;obtain rfl:nR=0:=aB;subst h1 h3 h4;simp at hbb
        obtain rfl:XV=ed:=by rw[HXV.out,if_neg hcond];rfl
        obtain rfl:ER=3:=by rw[HER.out,if_neg hcond];rfl
        clear hcond;obtain⟨x0,x1,x2,x3,x4,x5,x6⟩:=aX.facts hB5;have lcb:=Blk.lt hB5;obtain⟨r0,r1,r2,r3,r4,r5,r6⟩:=aX.facts hres5;have z0:=Blk.free0 hres5 0;have z1:=Blk.free0 hres5 1;have z2:=Blk.free0 hres5 2;have z3:=Blk.free0 hres5 3;have z4:=Blk.free0 hres5 4;have z5:=Blk.free0 hres5 5;have z6:=Blk.free0 hres5 6;have lrs:=Blk.lt hres5;clear h01 hbb;go_wp2;obtain⟨W6,hW6⟩:∃ W6,W6=(((((((wc.setCell ⟨w0.heap.size,0,none⟩ (.int .i64 0)).setCell ⟨w0.heap.size,1,none⟩ (.int .i64 0)).setCell ⟨w0.heap.size,2,none⟩ (.string ⟨#[]⟩)).setCell ⟨w0.heap.size,3,none⟩ (.slice none 0 0)).setCell ⟨w0.heap.size,4,none⟩ (.slice none 0 0)).setCell ⟨w0.heap.size,5,none⟩ (.slice none 0 0)).setCell ⟨w0.heap.size,6,none⟩ (.int .i64 0)):=⟨_,rfl⟩;have hbut:But w0.heap.size wc W6:=by rw[hW6];exact DD
        have hbx:aX W6 w0.heap.size 0 0 ⟨#[]⟩ none 0 0 none 0 0 none 0 0 0:=NL;rw[<-hW6];clear hW6 x0 x1 x2 x3 x4 x5 x6 r0 r1 r2 r3 r4 r5 r6 z0 z1 z2 z3 z4 z5 z6;have hDl:=(Array.getElem?_eq_some_iff.1 hK5.out).1;have hne0:D≠w0.heap.size:=fun e=>by
         exact NP
        have hk6:W6.heap[D]? = some (.deferred (some [])):=(hbut.block D hDl hne0).trans hK5.out;have hbw6:aF w0 W6:=hbw5.trans (hbut.below (Nat.le_refl _) hbw5.size);have hD0:w0.heap.size<=D:=aB;refine⟨aH,.inl ⟨_,_,rfl,run_takeDeferred hk6,?_⟩⟩;have hcm:pY W6 (W6.putObj D (.deferred none)) (some D):=⟨grownBy_putObj' W6 D _,fun r e=>by cases e;exact⟨_,hk6,rfl⟩⟩;obtain⟨r0,r1,r2,r3,r4,r5,r6⟩:=aX.facts (Blk.calm hbx hcm);refine⟨.tuple #[.agg fU,.int .i64 3],NQ,?_⟩;rw[HRR.out];refine⟨hbw6.grown (grownBy_putObj' W6 D _) (by have:=hbw6.size;omega) (fun r e=>mZ),?_⟩;exact⟨⟨none,0,none,0,none,0⟩,rfl,⟨aI.nil_ _ _ _,aI.nil_ _ _ _,aI.nil_ _ _ _⟩,⟨fun h=>absurd h (Nat.lt_irrefl 0),fun h=>absurd h (Nat.lt_irrefl 0),fun h=>absurd h (Nat.lt_irrefl 0)⟩⟩
end Go.Proofs.YtlkbkclnbppigaaGreatDoor
