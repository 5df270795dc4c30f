/- What the specification's put returns. -/
import Derived.Test.YtlkbkclnbppigaaGreatDoorNY2
set_option maxHeartbeats 4000000
namespace Go.Proofs.YtlkbkclnbppigaaGreatDoor
open Tryz
open Go.RowKit Go.Sort
set_option linter.unusedVariables false
set_option linter.unusedSimpArgs false
set_option maxRecDepth 100000
def aOi(ps:List BP)(w:World)(e:Ending)(w':World):Prop:=∃ A c,e=.returned (.slice A ps.length c)/\aH w' 2 A ps.length (dS ps)/\(∀ a,A=some a->w.heap.size<=a.block)/\Below w.heap.size w w'
theorem zq(a b:List BP):dS (a++b)=dS a++dS b:=by simp[dS]
theorem aOj(A:Option Addr)(n c:Nat)(l:List BP)(k0 v0:ByteArray)(w:World)(hR:aH w 2 A n (dS l))(hn:n<=1000000):Calls prog 292 #[.slice A n c,.agg #[.string k0,.string v0]] w (aOi (mJ l (k0,v0)) w):=by
 have hl:l.length=n:=by have:=hR.1;rw[Uk]at this;omega
 obtain⟨i0,hi0,hz0,hz1,hz2⟩:=info_parts Uw;have HI:Hid ((prog.info? 298=some i0)/\i0.zero=some (.agg #[.string ⟨#[]⟩,.string ⟨#[]⟩])/\i0.size=2/\i0.bytes=32):=aB ⟨hi0,hz0,hz1,hz2⟩;have HL:=aB hl;have HR:=aB hR;clear hi0 hz0 hz1 hz2 hl hR;go_enter func292,ntmps292;go_wp2;have hX0:ji (w.alloc (.cells #[.string k0,.string v0] 298)) w.heap.size k0 v0:=World.alloc_heap_new _ _;go_loopw [5,6,7] (fun va vp vi wr=>∃(k m:Nat)(pl:Bool)(acc:List BP)(A':Option Addr)(c':Nat),(vi=.int .i64 k/\vp=.bool pl/\va=.slice A' m c'/\k<=n/\m<=2*k)/\Hid ((l.take k).foldl (fC (k0,v0)) ([],false)=(acc,pl)/\acc.length=m)/\wr.ownsRow (w.heap.size+1) 298 2 (.slice A' m c') m (dS acc)/\ji wr w.heap.size k0 v0/\Below w.heap.size w wr/\w.heap.size+1<=wr.heap.size) (fun _ _ i _=>n-(intOf i).toNat)
 case atStart=>exact⟨0,0,false,[],none,0,⟨rfl,rfl,rfl,Nat.zero_le _,Nat.le_refl _⟩,aB ⟨rfl,rfl⟩,World.ownsRow_nil _ _ _ _,hX0,aU (Below.refl _ _) _,aF⟩
 case round =>
  clear hX0;obtain⟨k,m,pl,acc,A',c',⟨rfl,rfl,rfl,hk,hm⟩,HK,hown,hX,hbr,hzr⟩:=hrel;have hbs:=hbr.size;obtain⟨x0,x1⟩:=hX.facts;by_cases hlt:k<n
  ·obtain⟨x,hx⟩:∃ x,l[k]? = some x:=⟨_,List.getElem?_eq_getElem dR⟩;obtain⟨b,o,rfl,hcell⟩:=HR.out.2 aA;obtain⟨e1,e2⟩:=um l k x hx;have hc0:=hcell _ _ e1;have hc0':=hcell _ _ e2;have hst:(l.take (k+1)).foldl (fC (k0,v0)) ([],false)=fC (k0,v0) (acc,pl) x:=by rw[aLw _ _ hx,HK.out.1]
   obtain⟨xk,xv⟩:=x;dsimp only at hc0 hc0';have hc1:wr.cell? ⟨b,o+k*2,none⟩=some (.string xk):=aP hbr hc0;have hc2:wr.cell? ⟨b,o+k*2+1,none⟩=some (.string xv):=aP hbr hc0';have hk0:(0:Int)<=(k:Int):=aA;have hk1:(k:Int)<(n:Int):=aA;have hml:=HK.out.2;clear hcell hx e1 e2;by_cases hfirst:pl=false/\leS k0 xk=true
   ·obtain⟨rfl,hle⟩:=hfirst;have e1:mG (k0,v0) (acc,false) (xk,xv)=(acc++[(k0,v0)],true):=by simp[mG,hle]
    have hle2:(Op.bytesLess k0.toList xk.toList||k0.toList==xk.toList)=true:=hle;cases hne:(xk.toList != k0.toList)
    ·have e2:fC (k0,v0) (acc,false) (xk,xv)=(acc++[(k0,v0)],true):=EI;have HK2:=aB (show (l.take (k+1)).foldl (fC (k0,v0)) ([],false)=(acc++[(k0,v0)],true)/\(acc++[(k0,v0)]).length=m+1 from⟨hst.trans e2,by simp[hml]⟩);have hq:(xk.toList==k0.toList)=true:=EJ;have hq2:xk.toList=k0.toList:=beq_iff_eq.1 hq;clear e1 e2 hst hml HK hle;go_wp2_with fail;(have k1:=cell_regrown hc1;have k2:=cell_regrown hc2;have k3:=cell_regrown x0;refine wp_region_quiet_below aC aC ?_;(repeat (any_goals (first | go_big_quiet_step (fail) | quiet_step (fail))));refine wpQuiet_nil ?_;intro _ hwq;obtain⟨⟨dq,osq⟩,hwq⟩:=hwq;subst hwq;have hbq:=below_regrown (wr) dq osq;generalize grow (redrawn (wr) dq) osq=wq at *;have hownq:=dV hown hbq;have hXq:ji wq w.heap.size k0 v0:=Blk.keep hX hbq;have hcq1:=aP hbq hc1;have hcq2:=aP hbq hc2;have hbrq:=aN hbr hbq;have hzrq:=Nat.le_trans hzr hbq.size;clear k1 k2 k3 hown hX hc1 hc2 hbr hzr hbs x0 x1 hbq;obtain⟨x0,x1⟩:=hXq.facts;have hbs:=hbrq.size;have hown:=hownq;have hX:=hXq;have hc1:=hcq1;have hc2:=hcq2;have hbr:=hbrq;have hzr:=hzrq;clear hownq hXq hcq1 hcq2 hbrq hzrq;obtain⟨wr,rfl⟩:∃ x:World,x=wq:=⟨_,rfl⟩);go_wp2_with (at_builtin;refine wpList_append_own _ rfl _ _ 198 rfl (w.heap.size+1) 298 i0 (.agg #[.string ⟨#[]⟩,.string ⟨#[]⟩]) 2 32 underlying198 HI.out.1 HI.out.2.1 HI.out.2.2.1 HI.out.2.2.2 rfl aK _ _ _ rfl (hown.alloc _) ⟨wr.heap.size,0,none⟩ 1 1 [.string k0,.string v0] rfl rfl (World.news_of_block (cs:=#[.string k0,.string v0]) (t:=298) (fr:=(0,0)) (World.alloc_heap_new wr _)) fG cZ aA aJ ?_;intro v' w3 hown1 hgrow1 _;obtain⟨g1,cap1,rfl⟩:=ownsRow_succ hown1;have hb3:Below w.heap.size w w3:=(hbr.alloc hbs _).grown hgrow1 aJ (fun r e=>uC);have hbs3:=hb3.size;have hX3:ji w3 w.heap.size k0 v0:=(hgrow1.block _ aJ (fun e=>vS)).trans ((Below.heap_alloc wr _ _ aA).trans hX);obtain⟨y0,y1⟩:=hX3.facts;have hz3:w.heap.size+1<=w3.heap.size:=JX;have hc3:w3.cell? ⟨b,o+k*2,none⟩=some (.string xk):=aP hb3 hc0;have hc3':w3.cell? ⟨b,o+k*2+1,none⟩=some (.string xv):=aP hb3 hc0';clear hown);(have k1:=cell_regrown hc3;have k2:=cell_regrown hc3';have k3:=cell_regrown y0;refine wp_region_quiet_below aC aC ?_;(repeat (any_goals (first | go_big_quiet_step (fail) | quiet_step (fail))));refine wpQuiet_nil ?_;intro _ hwq;obtain⟨⟨dq,osq⟩,hwq⟩:=hwq;subst hwq;have hbq:=below_regrown (w3) dq osq;generalize grow (redrawn (w3) dq) osq=wq at *;have hownq:=dV hown1 hbq;have hXq:ji wq w.heap.size k0 v0:=Blk.keep hX3 hbq;have hcq1:=aP hbq hc3;have hcq2:=aP hbq hc3';have hbrq:=aN hb3 hbq;have hzrq:=Nat.le_trans hz3 hbq.size;clear k1 k2 k3 hown1 hX3 hc3 hc3' hb3 hz3 hbs3 y0 y1 hbq hgrow1;obtain⟨y0,y1⟩:=hXq.facts;have hbs3:=hbrq.size;have hown1:=hownq;have hX3:=hXq;have hc3:=hcq1;have hc3':=hcq2;have hb3:=hbrq;have hz3:=hzrq;clear hownq hXq hcq1 hcq2 hbrq hzrq;obtain⟨w3,rfl⟩:∃ x:World,x=wq:=⟨_,rfl⟩);go_wp2;exact⟨⟨k+1,m+1,true,acc++[(k0,v0)],some ⟨g1,0,none⟩,cap1,⟨aj,rfl,rfl,aA,aA⟩,HK2,by rw[zq];exact hown1,hX3,hb3,hz3⟩,au⟩
    ·have e2:fC (k0,v0) (acc,false) (xk,xv)=(acc++[(k0,v0)]++[(xk,xv)],true):=EI;have HK2:=aB (show (l.take (k+1)).foldl (fC (k0,v0)) ([],false)=(acc++[(k0,v0)]++[(xk,xv)],true)/\(acc++[(k0,v0)]++[(xk,xv)]).length=m+1+1 from⟨hst.trans e2,by simp[hml]⟩);have hq:¬ xk.toList=k0.toList:=EJ;have hq3:(xk.toList==k0.toList)=false:=by simpa using hq
     clear e1 e2 hst hml HK hle;go_wp2_with fail;(have k1:=cell_regrown hc1;have k2:=cell_regrown hc2;have k3:=cell_regrown x0;refine wp_region_quiet_below aC aC ?_;(repeat (any_goals (first | go_big_quiet_step (fail) | quiet_step (fail))));refine wpQuiet_nil ?_;intro _ hwq;obtain⟨⟨dq,osq⟩,hwq⟩:=hwq;subst hwq;have hbq:=below_regrown (wr) dq osq;generalize grow (redrawn (wr) dq) osq=wq at *;have hownq:=dV hown hbq;have hXq:ji wq w.heap.size k0 v0:=Blk.keep hX hbq;have hcq1:=aP hbq hc1;have hcq2:=aP hbq hc2;have hbrq:=aN hbr hbq;have hzrq:=Nat.le_trans hzr hbq.size;clear k1 k2 k3 hown hX hc1 hc2 hbr hzr hbs x0 x1 hbq;obtain⟨x0,x1⟩:=hXq.facts;have hbs:=hbrq.size;have hown:=hownq;have hX:=hXq;have hc1:=hcq1;have hc2:=hcq2;have hbr:=hbrq;have hzr:=hzrq;clear hownq hXq hcq1 hcq2 hbrq hzrq;obtain⟨wr,rfl⟩:∃ x:World,x=wq:=⟨_,rfl⟩);go_wp2_with (at_builtin;refine wpList_append_own _ rfl _ _ 198 rfl (w.heap.size+1) 298 i0 (.agg #[.string ⟨#[]⟩,.string ⟨#[]⟩]) 2 32 underlying198 HI.out.1 HI.out.2.1 HI.out.2.2.1 HI.out.2.2.2 rfl aK _ _ _ rfl (hown.alloc _) ⟨wr.heap.size,0,none⟩ 1 1 [.string k0,.string v0] rfl rfl (World.news_of_block (cs:=#[.string k0,.string v0]) (t:=298) (fr:=(0,0)) (World.alloc_heap_new wr _)) fG cZ aA aJ ?_;intro v' w3 hown1 hgrow1 _;obtain⟨g1,cap1,rfl⟩:=ownsRow_succ hown1;have hb3:Below w.heap.size w w3:=(hbr.alloc hbs _).grown hgrow1 aJ (fun r e=>uC);have hbs3:=hb3.size;have hX3:ji w3 w.heap.size k0 v0:=(hgrow1.block _ aJ (fun e=>vS)).trans ((Below.heap_alloc wr _ _ aA).trans hX);obtain⟨y0,y1⟩:=hX3.facts;have hz3:w.heap.size+1<=w3.heap.size:=JX;have hc3:w3.cell? ⟨b,o+k*2,none⟩=some (.string xk):=aP hb3 hc0;have hc3':w3.cell? ⟨b,o+k*2+1,none⟩=some (.string xv):=aP hb3 hc0';clear hown);(have k1:=cell_regrown hc3;have k2:=cell_regrown hc3';have k3:=cell_regrown y0;refine wp_region_quiet_below aC aC ?_;(repeat (any_goals (first | go_big_quiet_step (fail) | quiet_step (fail))));refine wpQuiet_nil ?_;intro _ hwq;obtain⟨⟨dq,osq⟩,hwq⟩:=hwq;subst hwq;have hbq:=below_regrown (w3) dq osq;generalize grow (redrawn (w3) dq) osq=wq at *;have hownq:=dV hown1 hbq;have hXq:ji wq w.heap.size k0 v0:=Blk.keep hX3 hbq;have hcq1:=aP hbq hc3;have hcq2:=aP hbq hc3';have hbrq:=aN hb3 hbq;have hzrq:=Nat.le_trans hz3 hbq.size;clear k1 k2 k3 hown1 hX3 hc3 hc3' hb3 hz3 hbs3 y0 y1 hbq hgrow1;obtain⟨y0,y1⟩:=hXq.facts;have hbs3:=hbrq.size;have hown1:=hownq;have hX3:=hXq;have hc3:=hcq1;have hc3':=hcq2;have hb3:=hbrq;have hz3:=hzrq;clear hownq hXq hcq1 hcq2 hbrq hzrq;obtain⟨w3,rfl⟩:∃ x:World,x=wq:=⟨_,rfl⟩);go_wp2_with (at_builtin;refine wpList_append_own _ rfl _ _ 198 rfl (w.heap.size+1) 298 i0 (.agg #[.string ⟨#[]⟩,.string ⟨#[]⟩]) 2 32 underlying198 HI.out.1 HI.out.2.1 HI.out.2.2.1 HI.out.2.2.2 rfl aK _ _ _ rfl (hown1.alloc _) ⟨w3.heap.size,0,none⟩ 1 1 [.string xk,.string xv] rfl rfl (World.news_of_block (cs:=#[.string xk,.string xv]) (t:=298) (fr:=(0,0)) (World.alloc_heap_new w3 _)) fG cZ aA aJ ?_;intro v' w4 hown2 hgrow2 _;obtain⟨g2,cap2,rfl⟩:=ownsRow_succ hown2;have hb4:Below w.heap.size w w4:=(hb3.alloc hbs3 _).grown hgrow2 aJ (fun r e=>by have:=dK hown1 r e;omega);have hX4:ji w4 w.heap.size k0 v0:=(hgrow2.block _ aJ (fun e=>by have:=dK hown1 _ e.symm;omega)).trans ((Below.heap_alloc w3 _ _ aA).trans hX3);have hz4:w.heap.size+1<=w4.heap.size:=(by have:=hgrow2.size;simp at this;omega));exact⟨⟨k+1,m+1+1,true,acc++[(k0,v0)]++[(xk,xv)],some ⟨g2,0,none⟩,cap2,⟨aj,rfl,rfl,aA,aA⟩,HK2,by rw[zq,zq];exact hown2,hX4,hb4,hz4⟩,au⟩
   ·have e1:mG (k0,v0) (acc,pl) (xk,xv)=(acc,pl):=by
     unfold mG;rw[if_neg];intro h;simp only[Bool.and_eq_true,Bool.not_eq_true']at h;exact hfirst h
    have hguard:pl=true\/(pl=false/\(Op.bytesLess k0.toList xk.toList||k0.toList==xk.toList)=false):=by
     cases pl
     ·right;refine⟨rfl,?_⟩;cases hle:leS k0 xk
      ·exact hle
      ·exact absurd ⟨rfl,hle⟩ hfirst
     ·exact .inl rfl
    clear hfirst;cases hne:(xk.toList != k0.toList)
    ·have e2:fC (k0,v0) (acc,pl) (xk,xv)=(acc,pl):=EI;have HK2:=aB (show (l.take (k+1)).foldl (fC (k0,v0)) ([],false)=(acc,pl)/\acc.length=m from⟨hst.trans e2,hml⟩);have hq:(xk.toList==k0.toList)=true:=EJ;have hq2:xk.toList=k0.toList:=beq_iff_eq.1 hq;clear e1 e2 hst hml HK;rcases hguard with rfl | ⟨rfl,hg⟩
     ·go_wp2_with fail;(have k1:=cell_regrown hc1;have k2:=cell_regrown hc2;have k3:=cell_regrown x0;refine wp_region_quiet_below aC aC ?_;(repeat (any_goals (first | go_big_quiet_step (fail) | quiet_step (fail))));refine wpQuiet_nil ?_;intro _ hwq;obtain⟨⟨dq,osq⟩,hwq⟩:=hwq;subst hwq;have hbq:=below_regrown (wr) dq osq;generalize grow (redrawn (wr) dq) osq=wq at *;have hownq:=dV hown hbq;have hXq:ji wq w.heap.size k0 v0:=Blk.keep hX hbq;have hcq1:=aP hbq hc1;have hcq2:=aP hbq hc2;have hbrq:=aN hbr hbq;have hzrq:=Nat.le_trans hzr hbq.size;clear k1 k2 k3 hown hX hc1 hc2 hbr hzr hbs x0 x1 hbq;obtain⟨x0,x1⟩:=hXq.facts;have hbs:=hbrq.size;have hown:=hownq;have hX:=hXq;have hc1:=hcq1;have hc2:=hcq2;have hbr:=hbrq;have hzr:=hzrq;clear hownq hXq hcq1 hcq2 hbrq hzrq;obtain⟨wr,rfl⟩:∃ x:World,x=wq:=⟨_,rfl⟩);go_wp2_with fail;(have k1:=cell_regrown hc1;have k2:=cell_regrown hc2;have k3:=cell_regrown x0;refine wp_region_quiet_below aC aC ?_;(repeat (any_goals (first | go_big_quiet_step (fail) | quiet_step (fail))));refine wpQuiet_nil ?_;intro _ hwq;obtain⟨⟨dq,osq⟩,hwq⟩:=hwq;subst hwq;have hbq:=below_regrown (wr) dq osq;generalize grow (redrawn (wr) dq) osq=wq at *;have hownq:=dV hown hbq;have hXq:ji wq w.heap.size k0 v0:=Blk.keep hX hbq;have hcq1:=aP hbq hc1;have hcq2:=aP hbq hc2;have hbrq:=aN hbr hbq;have hzrq:=Nat.le_trans hzr hbq.size;clear k1 k2 k3 hown hX hc1 hc2 hbr hzr hbs x0 x1 hbq;obtain⟨x0,x1⟩:=hXq.facts;have hbs:=hbrq.size;have hown:=hownq;have hX:=hXq;have hc1:=hcq1;have hc2:=hcq2;have hbr:=hbrq;have hzr:=hzrq;clear hownq hXq hcq1 hcq2 hbrq hzrq;obtain⟨wr,rfl⟩:∃ x:World,x=wq:=⟨_,rfl⟩);go_wp2;exact⟨⟨k+1,m,_,acc,A',c',⟨aj,rfl,rfl,aA,aA⟩,HK2,hown,hX,hbr,hzr⟩,au⟩
     ·exact absurd hg (by rw[hq2];simp)
    ·have e2:fC (k0,v0) (acc,pl) (xk,xv)=(acc++[(xk,xv)],pl):=EI;have HK2:=aB (show (l.take (k+1)).foldl (fC (k0,v0)) ([],false)=(acc++[(xk,xv)],pl)/\(acc++[(xk,xv)]).length=m+1 from⟨hst.trans e2,by simp[hml]⟩);have hq:¬ xk.toList=k0.toList:=EJ;have hq3:(xk.toList==k0.toList)=false:=by simpa using hq
     clear e1 e2 hst hml HK;rcases hguard with rfl | ⟨rfl,hg⟩
     all_goals
      go_wp2_with fail;(have k1:=cell_regrown hc1;have k2:=cell_regrown hc2;have k3:=cell_regrown x0;refine wp_region_quiet_below aC aC ?_;(repeat (any_goals (first | go_big_quiet_step (fail) | quiet_step (fail))));refine wpQuiet_nil ?_;intro _ hwq;obtain⟨⟨dq,osq⟩,hwq⟩:=hwq;subst hwq;have hbq:=below_regrown (wr) dq osq;generalize grow (redrawn (wr) dq) osq=wq at *;have hownq:=dV hown hbq;have hXq:ji wq w.heap.size k0 v0:=Blk.keep hX hbq;have hcq1:=aP hbq hc1;have hcq2:=aP hbq hc2;have hbrq:=aN hbr hbq;have hzrq:=Nat.le_trans hzr hbq.size;clear k1 k2 k3 hown hX hc1 hc2 hbr hzr hbs x0 x1 hbq;obtain⟨x0,x1⟩:=hXq.facts;have hbs:=hbrq.size;have hown:=hownq;have hX:=hXq;have hc1:=hcq1;have hc2:=hcq2;have hbr:=hbrq;have hzr:=hzrq;clear hownq hXq hcq1 hcq2 hbrq hzrq;obtain⟨wr,rfl⟩:∃ x:World,x=wq:=⟨_,rfl⟩);go_wp2_with fail;(have k1:=cell_regrown hc1;have k2:=cell_regrown hc2;have k3:=cell_regrown x0;refine wp_region_quiet_below aC aC ?_;(repeat (any_goals (first | go_big_quiet_step (fail) | quiet_step (fail))));refine wpQuiet_nil ?_;intro _ hwq;obtain⟨⟨dq,osq⟩,hwq⟩:=hwq;subst hwq;have hbq:=below_regrown (wr) dq osq;generalize grow (redrawn (wr) dq) osq=wq at *;have hownq:=dV hown hbq;have hXq:ji wq w.heap.size k0 v0:=Blk.keep hX hbq;have hcq1:=aP hbq hc1;have hcq2:=aP hbq hc2;have hbrq:=aN hbr hbq;have hzrq:=Nat.le_trans hzr hbq.size;clear k1 k2 k3 hown hX hc1 hc2 hbr hzr hbs x0 x1 hbq;obtain⟨x0,x1⟩:=hXq.facts;have hbs:=hbrq.size;have hown:=hownq;have hX:=hXq;have hc1:=hcq1;have hc2:=hcq2;have hbr:=hbrq;have hzr:=hzrq;clear hownq hXq hcq1 hcq2 hbrq hzrq;obtain⟨wr,rfl⟩:∃ x:World,x=wq:=⟨_,rfl⟩);go_wp2_with (at_builtin;refine wpList_append_own _ rfl _ _ 198 rfl (w.heap.size+1) 298 i0 (.agg #[.string ⟨#[]⟩,.string ⟨#[]⟩]) 2 32 underlying198 HI.out.1 HI.out.2.1 HI.out.2.2.1 HI.out.2.2.2 rfl aK _ _ _ rfl (hown.alloc _) ⟨wr.heap.size,0,none⟩ 1 1 [.string xk,.string xv] rfl rfl (World.news_of_block (cs:=#[.string xk,.string xv]) (t:=298) (fr:=(0,0)) (World.alloc_heap_new wr _)) fG cZ aA aJ ?_;intro v' w3 hown1 hgrow1 _;obtain⟨g1,cap1,rfl⟩:=ownsRow_succ hown1;have hb3:Below w.heap.size w w3:=(hbr.alloc hbs _).grown hgrow1 aJ (fun r e=>uC);have hX3:ji w3 w.heap.size k0 v0:=(hgrow1.block _ aJ (fun e=>vS)).trans ((Below.heap_alloc wr _ _ aA).trans hX);have hz3:w.heap.size+1<=w3.heap.size:=JX;clear hown);exact⟨⟨k+1,m+1,_,acc++[(xk,xv)],some ⟨g1,0,none⟩,cap1,⟨aj,rfl,rfl,aA,aA⟩,HK2,by rw[zq];exact hown1,hX3,hb3,hz3⟩,au⟩
  ·obtain rfl:k=n:=aA;have hfin:l.foldl (fC (k0,v0)) ([],false)=(acc,pl):=by
    have:=HK.out.1
    rwa [List.take_of_length_le dR]at this
   have hml:=HK.out.2;cases pl
   ·have hv:mJ l (k0,v0)=acc++[(k0,v0)]:=by unfold mJ;rw[hfin];rfl
    have hvl:(mJ l (k0,v0)).length=m+1:=by rw[hv];simp[hml]
    have HV:=aB hv;have HVL:=aB hvl;clear hv hvl hfin hml HK;go_wp2_with (at_builtin;refine wpList_append_own _ rfl _ _ 198 rfl (w.heap.size+1) 298 i0 (.agg #[.string ⟨#[]⟩,.string ⟨#[]⟩]) 2 32 underlying198 HI.out.1 HI.out.2.1 HI.out.2.2.1 HI.out.2.2.2 rfl aK _ _ _ rfl (hown.alloc _) ⟨wr.heap.size,0,none⟩ 1 1 [.string k0,.string v0] rfl rfl (World.news_of_block (cs:=#[.string k0,.string v0]) (t:=298) (fr:=(0,0)) (World.alloc_heap_new wr _)) fG cZ aA aJ ?_;intro v' w3 hown1 hgrow1 _;obtain⟨g1,cap1,rfl⟩:=ownsRow_succ hown1);go_ret;refine⟨some ⟨g1,0,none⟩,cap1,by rw[HVL.out];rfl,by rw[HVL.out,HV.out,zq];exact aH.of_own hown1,fun a ha=>by have:=dK hown1 a.block DJ;omega,(hbr.alloc hbs _).grown hgrow1 aJ (fun r e=>uC)⟩
   ·have hv:mJ l (k0,v0)=acc:=by unfold mJ;rw[hfin];rfl
    have HV:=aB hv;have HML:=aB hml;clear hv hfin hml HK;go_wp2;go_ret;refine⟨A',c',by rw[HV.out,HML.out];rfl,by rw[HV.out,HML.out];exact aH.of_own hown,fun a ha=>tq,hbr⟩
theorem V3(p:BP):∀ l,(mM p l).length<=l.length+1
 | []=>by simp[mM]
 | x :: l=>by
  unfold mM;split
  ·have:=List.length_filter_le (fun y:BP=>y.1.toList != p.1.toList) (x :: l);simp only[List.length_cons]at this ⊢;omega
  ·have:=V3 p l;simp only[List.length_cons];omega
theorem aOk(l:List BP)(p:BP):(mJ l p).length<=l.length+1:=by rw[Vw];exact V3 p l
theorem iO.some2{out:List BP}{w w':World}{A:Option Addr}{c m:Nat}(hm:out.length=m)(hb:Below w.heap.size w w')(hR:aH w' 2 A m (dS out))(ha:∀ a,A=some a->w.heap.size<=a.block):iO (some out) w (.returned (.tuple #[.slice A m c,.bool true])) w':=by
 subst hm;exact⟨hb,A,c,rfl,hR,ha⟩
theorem aOl(s:ByteArray)(w:World)(hs:s.size<=100000):Calls prog 243 #[.string s] w (iO (kN s) w):=by
 rw[aOe];cases hem:s.toList.isEmpty;rotate_left
 ·rw[if_pos rfl];have hq:s.toList=[]:=List.isEmpty_iff.1 hem;go_enter func243,ntmps243;go_wp2;go_ret2;exact iO.some2 rfl aG (aH.nil_ _ _ _) (fun a ha=>jk)
 rw[if_neg aF];have hne:(s.toList == [])=false:=by
  cases h:s.toList with
  | nil=>rw[h]at hem;cases hem
  | cons a l=>rfl
 have hne2:¬ s.toList=[]:=by simpa using hne
 have cS:=fun W=>JL s 38 W aA
 have hsz:=nY 38 s;have hnum:=oq 38 s;generalize splitB 38 s=ps at *;generalize hV:iO (kF [] ps) w=V;have HV:=aB hV;have HS:=aB cS;have HZ:=aB hsz;clear hV cS hsz hem;go_enter func243,ntmps243;go_wp2_with (go_at_call 188;refine (HS.out _).mono ?_;rintro e w1 ⟨A,c,rfl,hown,hb1⟩;have HR:=aB (aH.of_own hown);clear hown);go_loopw [4,6] (fun vo vi wr=>∃(k m:Nat)(acc:List BP)(A':Option Addr)(c':Nat),(vi=.int .i64 k/\vo=.slice A' m c'/\k<=ps.length/\m<=k)/\Hid (kF [] ps=kF acc (ps.drop k)/\acc.length=m)/\Hid (aH wr 2 A' m (dS acc))/\(∀ a,A'=some a->w.heap.size<=a.block)/\Below w1.heap.size w1 wr) (fun _ i _=>ps.length-(intOf i).toNat)
 case atStart=>exact⟨0,0,[],none,0,⟨rfl,rfl,Nat.zero_le _,Nat.le_refl _⟩,aB ⟨rfl,rfl⟩,aB (aH.nil_ _ _ _),fun a ha=>jk,Below.refl _ _⟩
 case round =>
  obtain⟨k,m,acc,A',c',⟨rfl,rfl,hk,hm⟩,HK,HA,hAb,hbr⟩:=hrel;by_cases hlt:k<ps.length
  ·obtain⟨x,hx⟩:∃ x,ps[k]? = some x:=⟨_,List.getElem?_eq_getElem hlt⟩;obtain⟨b,o,rfl,hcell⟩:=(HR.out.keep hbr).2 aA;have hc1:wr.cell? ⟨b,o+k,none⟩=some (.string x):=hcell k _ dL;have hk0:(0:Int)<=(k:Int):=aA;have hk1:(k:Int)<(ps.length:Int):=aA;have hd:ps.drop k=x :: ps.drop (k+1):=by
    exact Bi
   have hxs:x.size<=s.size:=HZ.out x (List.mem_of_getElem? hx);have cC:=fun W=>Va x 61 W aA
   have hr1:=HK.out.1;have hml:=HK.out.2;have l1:=zY x.data.toList [61];have l2:=zZ x.data.toList [61];rw[<-Lib.size_eq]at l1 l2;rw[hd,kF]at hr1;unfold qJ at hr1;unfold xQ at cC;generalize Lib.cut x.data.toList [61]=ct at *;obtain⟨ka,va,is⟩:=ct;dsimp only at hr1 cC l1 l2;have cN:=fun W=>sV (toB ka) W xE
   have cW:=fun W=>uu (toB va) W xE
   have HC:=aB cC;clear hcell hx hd HK cC l1 l2;cases is
   ·have HN0:Hid (kF [] ps=none):=aB (by rw[hr1];rfl);clear hr1 cN cW;go_wp2_with (go_at_call 240;refine (HC.out _).mono ?_;rintro e w2 ⟨rfl,hb2⟩);rw[<-HV.out,HN0.out];exact iO.none_ aG
   cases hn:bI (toB ka)
   ·have HN0:Hid (kF [] ps=none):=aB (by rw[hr1,hn];rfl);rw[hn]at cN;have HN:=aB cN;clear hr1 cN cW hn;go_wp2_with (first | (go_at_call 240;refine (HC.out _).mono ?_;rintro e w2 ⟨rfl,hb2⟩) | (go_at_call 50;refine (HN.out _).mono ?_;rintro e w3 ⟨rfl,hb3⟩));rw[<-HV.out,HN0.out];exact iO.none_ aG
   cases hw:bC (toB va)
   ·have HN0:Hid (kF [] ps=none):=aB (by rw[hr1,hn,hw];rfl);rw[hn]at cN;rw[hw]at cW;have HN:=aB cN;have HW:=aB cW;clear hr1 cN cW hn hw;go_wp2_with (first | (go_at_call 240;refine (HC.out _).mono ?_;rintro e w2 ⟨rfl,hb2⟩) | (go_at_call 50;refine (HN.out _).mono ?_;rintro e w3 ⟨rfl,hb3⟩) | (go_at_call 105;refine (HW.out _).mono ?_;rintro e w4 ⟨rfl,hb4⟩));rw[<-HV.out,HN0.out];exact iO.none_ aG
   ·have hr2:kF [] ps=kF (mJ acc (toB ka,toB va)) (ps.drop (k+1)):=by rw[hr1,hn,hw];rfl
    have hln:=aOk acc (toB ka,toB va);rw[hml]at hln;have cP:=fun W h=>aOj A' m c' acc (toB ka) (toB va) W h aA
    rw[hn]at cN;rw[hw]at cW;have HN:=aB cN;have HW:=aB cW;have HP:=aB cP;have HK2:=aB hr2;clear hr1 cN cW hn hw cP hr2;generalize mJ acc (toB ka,toB va)=acc2 at *;go_wp2_with (first | (go_at_call 240;refine (HC.out _).mono ?_;rintro e w2 ⟨rfl,hb2⟩) | (go_at_call 50;refine (HN.out _).mono ?_;rintro e w3 ⟨rfl,hb3⟩) | (go_at_call 105;refine (HW.out _).mono ?_;rintro e w4 ⟨rfl,hb4⟩) | (go_at_call 292;refine (HP.out _ (HA.out.keep aG)).mono ?_;rintro e w5 ⟨A2,c2,rfl,hR2,hA2,hb5⟩));exact⟨⟨k+1,acc2.length,acc2,A2,c2,⟨aj,rfl,aA,aA⟩,aB ⟨HK2.out,rfl⟩,aB hR2,fun a ha=>by have:=hA2 a ha;have:=hb1.size;have:=hbr.size;have:=hb2.size;have:=hb3.size;have:=hb4.size;omega,aG⟩,au⟩
  ·obtain rfl:k=ps.length:=aA;have hfin:kF [] ps=some acc:=by rw[HK.out.1,List.drop_eq_nil_of_le (Nat.le_refl _),kF]
   have HF:=aB hfin;have hml:=HK.out.2;clear hfin HK;go_wp2;rw[<-HV.out,HF.out];exact iO.some2 hml aG HA.out hAb
theorem aOm{α:Type}{p:α->Bool}{l:List α}{k:Nat}{x:α}(h:(l.take k).all p=true)(hx:l[k]? = some x)(hp:p x=true):(l.take (k+1)).all p=true:=by
 rw[List.take_add_one,hx];simp[h,hp]
theorem aOn{α:Type}{p:α->Bool}{l:List α}{k:Nat}{x:α}(hx:l[k]? = some x)(hp:p x=false):l.all p=false:=by
 exact VV
theorem aOo(c:ByteArray)(P Q:Option Addr)(np cp nq cq:Nat)(xs:List ByteArray)(qs:List (ByteArray × ByteArray))(w:World)
  (hP:aH w 1 P np (xs.map .string)) (hQ:aH w 2 Q nq (dS qs)) (htot:(W06 c xs qs).length<=1000000000) :
  Calls prog 258 #[.agg #[.string c,.slice P np cp,.slice Q nq cq]] w (Ret w (.bool (kM c xs qs))):=by
 have hnp:xs.length=np:=Di;have hnq:qs.length=nq:=Dj;have hc0:c.size<=1000000000:=by have:=U1 c xs qs;omega
 have hxs:∀ x∈xs,x.size<=1000000000:=fun x hx=>by have:=Iy c xs qs x hx;omega
 have hqs:∀ q∈qs,q.1.size<=1000000000/\q.2.size<=1000000000:=fun q hq=>by have:=Iz c xs qs q hq;omega
 have c1:=fun W=>sV c W aA
 have cX:=fun W h1 h2=>Vb c P Q np cp nq cq xs qs W h1 h2 htot
 have hv:kM c xs qs=((bI c&&decide (np<=32)&&decide (nq<=16)&&xs.all bC)&&(List.range nq).all (iG qs)&&decide ((W06 c xs qs).length<=4096)):=by rw[<-hnp,<-hnq];rfl
 obtain⟨V,hV⟩:∃ V,V=kM c xs qs:=⟨_,rfl⟩;rw[<-hV]at hv ⊢;have hXz:(toB (W06 c xs qs)).size=(W06 c xs qs).length:=rfl;have HP:=aB hP;have HQ:=aB hQ;have HXS:=aB hxs;have HQS:=aB hqs;have H1:=aB c1;have HX:=aB cX;have HNP:=aB hnp;have HNQ:=aB hnq;clear hP hQ htot hxs hqs c1 cX hnp hnq hV;generalize toB (W06 c xs qs)=T at *;cases h1:bI c
 ·obtain rfl:V=false:=by rw[hv,h1];simp
  rw[h1]at H1;exact JY
 rw[h1]at H1;by_cases h2:np<=32;rotate_left
 ·obtain rfl:V=false:=by rw[hv,h1];simp[h2]
  have d1:decide ((32:Int)<(np:Int))=true:=decide_eq_true aA;exact JY
 have d1:decide ((32:Int)<(np:Int))=false:=decide_eq_false aA;by_cases h3:nq<=16;rotate_left
 ·obtain rfl:V=false:=by rw[hv,h1];simp[h3]
  have d2:decide ((16:Int)<(nq:Int))=true:=decide_eq_true aA;exact JY
 have d2:decide ((16:Int)<(nq:Int))=false:=decide_eq_false aA;have hv2:V=(xs.all bC&&(List.range nq).all (iG qs)&&decide (T.size<=4096)):=by rw[hv,h1,hXz];simp[h2,h3]
 have HV:=aB hv2;clear hv hv2 h1 hXz;go_enter func258,ntmps258;go_wp2_with (go_at_call 50;refine (H1.out _).mono ?_;rintro e w1 ⟨rfl,hb1⟩;have hX1:oI w1 w.heap.size c P np cp Q nq cq:=Blk.keep (World.alloc_heap_new _ _) hb1;have x1:w1.cell? ⟨w.heap.size,1,none⟩=some (.slice P np cp):=Blk.cell hX1 1;have x2:w1.cell? ⟨w.heap.size,2,none⟩=some (.slice Q nq cq):=Blk.cell hX1 2);have hbw1:Below w.heap.size w w1:=aG;clear x1 x2 hb1;go_loopw [3] (fun vi wr=>∃ k:Nat,vi=.int .i64 k/\k<=np/\Hid ((xs.take k).all bC=true)/\oI wr w.heap.size c P np cp Q nq cq/\Below w.heap.size w wr) (fun i _=>np-(intOf i).toNat)
 case atStart=>exact⟨0,rfl,Nat.zero_le _,aB aF,hX1,hbw1⟩
 case round =>
  clear hX1 hbw1;obtain⟨k,rfl,hk,HK,hX,hbr⟩:=hrel;have x1:wr.cell? ⟨w.heap.size,1,none⟩=some (.slice P np cp):=Blk.cell hX 1;have x2:wr.cell? ⟨w.heap.size,2,none⟩=some (.slice Q nq cq):=Blk.cell hX 2;by_cases hlt:k<np
  ·obtain⟨x,hx⟩:∃ x,xs[k]? = some x:=⟨_,List.getElem?_eq_getElem (by have:=HNP.out;omega)⟩;obtain⟨b,o,rfl,hcell⟩:=(HP.out.keep hbr).2 aA;have hc1:wr.cell? ⟨b,o+k,none⟩=some (.string x):=hcell k _ dL;have hxs:=HXS.out x (List.mem_of_getElem? hx);have cW:=fun W=>uu x W aA
   have hk0:(0:Int)<=(k:Int):=aA;have hk1:(k:Int)<(np:Int):=aA;cases hw:bC x
   ·obtain rfl:V=false:=by rw[HV.out,aOn hx hw];rfl
    rw[hw]at cW;have HW:=aB cW;clear cW hw hcell hx HK;go_wp2_with (go_at_call 105;refine (HW.out _).mono ?_;rintro e w2 ⟨rfl,hb2⟩);go_ret;exact⟨rfl,aG⟩
   ·have HK2:Hid ((xs.take (k+1)).all bC=true):=aB (aOm HK.out hx hw);rw[hw]at cW;have HW:=aB cW;clear cW hw hcell hx HK;go_wp2_with (go_at_call 105;refine (HW.out _).mono ?_;rintro e w2 ⟨rfl,hb2⟩);exact⟨⟨k+1,aj,aA,HK2,Blk.keep hX aG,aG⟩,au⟩
  ·obtain rfl:k=np:=aA;have hall:xs.all bC=true:=by
    have:=HK.out
    rwa [List.take_of_length_le (by have:=HNP.out;omega)]at this
   have hv3:V=((List.range nq).all (iG qs)&&decide (T.size<=4096)):=JI;have HV2:=aB hv3;clear hall hv3 HK HV;go_wp2;clear x1 x2;obtain⟨wo,rfl⟩:∃ wo:World,wo=wr:=⟨_,rfl⟩;go_loopw [4] (fun vi wz=>∃ j:Nat,vi=.int .i64 j/\j<=nq/\Hid ((List.range j).all (iG qs)=true)/\oI wz w.heap.size c P k cp Q nq cq/\Below w.heap.size w wz) (fun i _=>nq-(intOf i).toNat)
   case atStart=>exact⟨0,rfl,Nat.zero_le _,aB aF,hX,hbr⟩
   case round =>
    clear hX hbr;obtain⟨j,rfl,hj,HJ,hX,hbr⟩:=hrel;have x1:wr.cell? ⟨w.heap.size,1,none⟩=some (.slice P k cp):=Blk.cell hX 1;have x2:wr.cell? ⟨w.heap.size,2,none⟩=some (.slice Q nq cq):=Blk.cell hX 2;have x0:wr.cell? ⟨w.heap.size,0,none⟩=some (.string c):=Blk.cell hX 0;by_cases hlt2:j<nq
    ·have hQr:=HQ.out.keep hbr;obtain⟨pb,po,rfl,hcell⟩:=hQr.2 aA;clear hQr;have hql:j<qs.length:=by have:=HNQ.out;omega
     obtain⟨q,hq⟩:∃ q,qs[j]? = some q:=⟨_,List.getElem?_eq_getElem hql⟩;obtain⟨e1,e2⟩:=um qs j q hq;have hc1:wr.cell? ⟨pb,po+j*2,none⟩=_:=hcell _ _ e1;have hc2:wr.cell? ⟨pb,po+j*2+1,none⟩=_:=hcell _ _ e2;have hsz:=HQS.out q (List.mem_of_getElem? hq);have cN:=fun W=>sV q.1 W aA
     have cV:=fun W=>uu q.2 W aA
     have hpk:iG qs j=(bI q.1&&bC q.2&&(j==0|| !(Op.bytesLess q.1.toList ((qs[j-1]?.getD (⟨#[]⟩,⟨#[]⟩)).1).toList||q.1.toList==((qs[j-1]?.getD (⟨#[]⟩,⟨#[]⟩)).1).toList))):=by simp[iG,hq]
     obtain⟨q1,q2⟩:=q;dsimp only at hc1 hc2 hsz cN cV hpk;have hj0:(0:Int)<=(j:Int):=aA;have hj1:(j:Int)<(nq:Int):=aA;have HC:=aB hcell;have HK:=aB hpk;clear hcell e1 e2 hq hpk hql;have hfalse:iG qs j=false->V=false:=by
      intro hf;have hall:(List.range nq).all (iG qs)=false:=by
       rw[List.all_eq_false];exact⟨j,by simpa using hlt2,by rw[hf];simp⟩
      rw[HV2.out,hall];rfl
     have htrue:iG qs j=true->(List.range (j+1)).all (iG qs)=true:=by
      intro ht;rw[List.range_succ,List.all_append,HJ.out];simp[ht]
     have HF:=aB hfalse;have HTr:=aB htrue;clear hfalse htrue;cases h1:bI q1
     ·have hv:=HF.out (by rw[HK.out,h1];simp);subst hv;rw[h1]at cN;have HN:=aB cN;clear cN cV h1;go_wp2_with fail;have k1:=cell_regrown hc1;have k2:=cell_regrown hc2;have k3:=cell_regrown x2;refine wp_region_quiet_below aC aC ?_;(repeat (any_goals (first | go_big_quiet_step ((first | exact fF HN.out _ _)) | quiet_step ((first | exact fF HN.out _ _)))));refine wpQuiet_nil ?_;intro _ hwq;obtain⟨⟨dq,osq⟩,hwq⟩:=hwq;subst hwq;have hb3:=below_regrown (wr) dq osq;generalize grow (redrawn (wr) dq) osq=w3 at *;go_wp2;go_ret;exact⟨rfl,aG⟩
     cases h2:bC q2
     ·have hv:=HF.out (by rw[HK.out,h2];simp);subst hv;rw[h1]at cN;rw[h2]at cV;have HN:=aB cN;have HW:=aB cV;clear cN cV h1 h2;go_wp2_with fail;have k1:=cell_regrown hc1;have k2:=cell_regrown hc2;have k3:=cell_regrown x2;exact V4
     rw[h1]at cN;rw[h2]at cV;have HN:=aB cN;have HW:=aB cV;clear cN cV;rcases j with _ | j
     ·have hok:=HTr.out (by rw[HK.out,h1,h2];simp);have HO:=aB hok;have hc1':wr.cell? ⟨pb,po,none⟩=some (.string q1):=by simpa using hc1
      have hc2':wr.cell? ⟨pb,po+1,none⟩=some (.string q2):=by simpa using hc2
      clear hok h1 h2 hc1 hc2;go_wp2_with fail;have k1:=cell_regrown hc1';have k2:=cell_regrown hc2';have k3:=cell_regrown x2;exact V5
     ·obtain⟨q0,hq0⟩:∃ q,qs[j]? = some q:=⟨_,List.getElem?_eq_getElem (by have:=HNQ.out;omega)⟩;have hg:(qs[j+1-1]?.getD (⟨#[]⟩,⟨#[]⟩)).1=q0.1:=by rw[Nat.add_sub_cancel,hq0];rfl
      have hc4:wr.cell? ⟨pb,po+j*2,none⟩=_:=HC.out _ _ (um qs j q0 hq0).1;have hsz0:=(HQS.out q0 (List.mem_of_getElem? hq0)).1;obtain⟨q0,v0⟩:=q0;dsimp only at hc4 hg hsz0;have hpk:=HK.out;rw[hg,h1,h2]at hpk;clear HK hg hq0 h1 h2;obtain⟨t,ht⟩:∃ t,(Op.bytesLess q1.toList q0.toList||q1.toList==q0.toList)=t:=⟨_,rfl⟩;rw[ht]at hpk;cases t
      ·have HO:=aB (HTr.out (by rw[hpk];simp));exact V7
      ·have hv:=HF.out (by rw[hpk];simp);subst hv;exact V7
    ·obtain rfl:j=nq:=aA;have hv:=HV2.out;rw[HJ.out,Bool.true_and]at hv;by_cases hl:T.size<=4096
     ·rw[decide_eq_true hl]at hv;subst hv;have d3:decide ((T.size:Int)<=4096)=true:=decide_eq_true aA;exact V8
     ·rw[decide_eq_false hl]at hv;subst hv;have d3:decide ((T.size:Int)<=4096)=false:=decide_eq_false aA;exact V8
def xW(c:ByteArray)(xs:List ByteArray)(qs:List (ByteArray × ByteArray)):ByteArray × Int:=if kM c xs qs then (toB (W06 c xs qs),0) else (⟨#[]⟩,1)
theorem EK(w:World)(a b:Obj):((w.alloc a).alloc b).heap[w.heap.size]? = some a/\((w.alloc a).alloc b).heap[w.heap.size+1]? = some b:=by
 refine⟨(Below.heap_alloc _ _ _ aF).trans (World.alloc_heap_new w a),?_⟩;have:=World.alloc_heap_new (w.alloc a) b;rw[World.size_alloc]at this;exact this
theorem aOp(c:ByteArray)(P Q:Option Addr)(np cp nq cq:Nat)(xs:List ByteArray)(qs:List (ByteArray × ByteArray))(w:World)
  (hP:aH w 1 P np (xs.map .string)) (hQ:aH w 2 Q nq (dS qs)) (htot:(W06 c xs qs).length<=1000000000) :
  Calls prog 202 #[.agg #[.string c,.slice P np cp,.slice Q nq cq]] w (Ret w (.agg #[.string (xW c xs qs).1,.int .i64 (xW c xs qs).2])):=by
 have cF:=fun W h1 h2=>aOo c P Q np cp nq cq xs qs W h1 h2 htot
 have cX:=fun W h1 h2=>Vb c P Q np cp nq cq xs qs W h1 h2 htot
 have HP:=aB hP;have HQ:=aB hQ;have HX:=aB cX;clear hP hQ htot cX;unfold xW;generalize toB (W06 c xs qs)=T at *;generalize kM c xs qs=b at *;have HF:=aB cF;clear cF;cases b
 ·go_enter func202,ntmps202;go_wp2_with (go_at_call 258;refine (HF.out _ (HP.out.keep aG) (HQ.out.keep aG)).mono ?_;rintro e w1 ⟨rfl,hb1⟩;have hA1:oI w1 w.heap.size c P np cp Q nq cq:=(hb1.block w.heap.size aJ).trans (EK _ _ _).1;have hX1:rU w1 (w.heap.size+1) ⟨#[]⟩ 0:=(hb1.block (w.heap.size+1) aF).trans (EK _ _ _).2;have a0:w1.cell? ⟨w.heap.size,0,none⟩=some (.string c):=Blk.cell hA1 0;have a1:w1.cell? ⟨w.heap.size,1,none⟩=some (.slice P np cp):=Blk.cell hA1 1;have a2:w1.cell? ⟨w.heap.size,2,none⟩=some (.slice Q nq cq):=Blk.cell hA1 2;obtain⟨x0,x1,f0,f1⟩:=hX1.facts;have hz1:w.heap.size+1<w1.heap.size:=Blk.lt hX1);exact bodyPost_ret (v:=.agg #[.string ⟨#[]⟩,.int .i64 1]) (by simp[results,results202,go_sem,hz1,x0,x1,f0,f1]) rfl ⟨rfl,aG⟩
 ·go_enter func202,ntmps202;go_wp2_with (first | (go_at_call 258;refine (HF.out _ (HP.out.keep aG) (HQ.out.keep aG)).mono ?_;rintro e w1 ⟨rfl,hb1⟩;have hA1:oI w1 w.heap.size c P np cp Q nq cq:=(hb1.block w.heap.size aJ).trans (EK _ _ _).1;have hX1:rU w1 (w.heap.size+1) ⟨#[]⟩ 0:=(hb1.block (w.heap.size+1) aF).trans (EK _ _ _).2;have a0:w1.cell? ⟨w.heap.size,0,none⟩=some (.string c):=Blk.cell hA1 0;have a1:w1.cell? ⟨w.heap.size,1,none⟩=some (.slice P np cp):=Blk.cell hA1 1;have a2:w1.cell? ⟨w.heap.size,2,none⟩=some (.slice Q nq cq):=Blk.cell hA1 2;obtain⟨x0,x1,f0,f1⟩:=hX1.facts;have hz1:w.heap.size+1<w1.heap.size:=Blk.lt hX1) | (go_at_call 259;refine (HX.out _ (HP.out.keep aG) (HQ.out.keep aG)).mono ?_;rintro e w2 ⟨rfl,hb2⟩;have hX2:rU w2 (w.heap.size+1) ⟨#[]⟩ 0:=Blk.keep hX1 hb2;obtain⟨y0,y1,g0,g1⟩:=hX2.facts;have hz2:w.heap.size+1<w2.heap.size:=Blk.lt hX2));exact bodyPost_ret (v:=.agg #[.string T,.int .i64 0]) (by simp[results,results202,go_sem,hz2,y0,y1,g0,g1]) rfl ⟨rfl,aG⟩
theorem EL{w:World}{b o n c:Nat}{x:Value}{vs:List Value}(h:aH w 1 (some ⟨b,o,none⟩) (n+1) (x :: vs))(A':Option Addr)(hA:c≠1->A'=some ⟨b,o+1,none⟩)(hc:n+1<=c):aH w 1 A' n vs:=by
 refine⟨by have:=h.1;simp at this ⊢;omega,fun hn=>?_⟩;obtain⟨b2,o2,e,hcell⟩:=h.2 aA;injection e with e
 injection e with e1 e2
 subst e1;subst e2;refine⟨b,o+1,hA aA,fun j u hu=>?_⟩;have:=hcell (j+1) u (by simpa using hu)
 rwa [show o+1+j=o+(j+1) by omega]
theorem aOq(s Lb L Q T C:ByteArray)(r:List ByteArray)(b1 nm:Bool)(rr:Option (List ByteArray))(qq:Option (List (ByteArray × ByteArray)))(w:World)(hs:s.size<=4096)(hL:L.size<=100000)
  (hsel:(L.size=0/\T=L)\/(∃ j,∃ hj:j<L.size,L.size=j+1/\(L[j].toNat==47)=false/\T=L)\/(∃ j,∃ hj:j<L.size,L.size=j+1/\(L[j].toNat==47)=true/\T=L.extract 0 j))
  (hrl:r.length<=1000000)
  (HL:Hid (∀ W,Calls prog 241 #[.string s] W (Ret W (.string Lb))))
  (HC:Hid (∀ W,Calls prog 240 #[.string Lb,.int .u8 63] W (Ret W (.tuple #[.string L,.string Q,.bool b1]))))
  (HS0:Hid (∀ W,Calls prog 188 #[.string T,.int .u8 47] W (BK (C :: r) W)))
  (HN:Hid (∀ W,Calls prog 50 #[.string C] W (Ret W (.bool nm))))
  (HP0:Hid (∀ A c W,aH W 1 A r.length (r.map .string)->Calls prog 242 #[.slice A r.length c] W (uF rr W)))
  (HQ:Hid (∀ W,Calls prog 243 #[.string Q] W (iO qq W))) :
  Calls prog 186 #[.string s] w (pK (pI C nm rr qq) w):=by
 obtain⟨ps,np,o1,hps,hnp,ho1⟩:∃ ps np o1,ps=rr.getD []/\np=(rr.getD []).length/\o1=rr.isSome:=⟨_,_,_,rfl,rfl,rfl⟩;obtain⟨qs,nq,o2,hqs,hnq,ho2⟩:∃ qs nq o2,qs=qq.getD []/\nq=(qq.getD []).length/\o2=qq.isSome:=⟨_,_,_,rfl,rfl,rfl⟩;have HPs:Hid (∀ X e w',uF rr X e w'->Below X.heap.size X w'/\∃ A c,e=.returned (.tuple #[.slice A np c,.bool o1])/\aH w' 1 A np (ps.map .string)/\(∀ a,A=some a->X.heap.size<=a.block)):=aB (fun X e w' h=>by rw[hps,hnp,ho1];exact h.some_);have HQs:Hid (∀ X e w',iO qq X e w'->Below X.heap.size X w'/\∃ A c,e=.returned (.tuple #[.slice A nq c,.bool o2])/\aH w' 2 A nq (dS qs)/\∀ a,A=some a->X.heap.size<=a.block):=aB (fun X e w' h=>by rw[hqs,hnq,ho2];exact h.some_);have hv:pI C nm rr qq=if nm&&o1&&o2 then (if np<=32/\nq<=16 then (⟨C,ps,qs⟩,0) else (kK,2)) else (kK,3):=by
  exact VN
 rw[hv];have HPL:Hid (ps.length=np):=aB (by rw[hps,hnp]);have HQL:Hid (qs.length=nq):=aB (by rw[hqs,hnq]);clear hv hps hnp ho1 hqs hnq ho2;obtain⟨m,hm⟩:∃ m,m=r.length:=⟨_,rfl⟩;have HS:Hid (∀ W,Calls prog 188 #[.string T,.int .u8 47] W (fun e w'=>∃ A c,e=.returned (.slice A (m+1) c)/\w'.ownsRow W.heap.size 9 1 (.slice A (m+1) c) (m+1) ((C :: r).map .string)/\Below W.heap.size W w')):=aB (by rw[hm];exact HS0.out);have HPT:Hid (∀ A c W,aH W 1 A m (r.map .string)->Calls prog 242 #[.slice A m c] W (uF rr W)):=aB (by rw[hm];exact HP0.out);have hm9:m<=1000000:=aA;clear HS0 HP0 hm hrl;have hd:decide ((4096:Int)<(s.size:Int))=false:=aJ;generalize hV:pK (if nm&&o1&&o2 then (if np<=32/\nq<=16 then (⟨C,ps,qs⟩,0) else (kK,2)) else (kK,3)) w=V;have HV:=aB hV;have HSEL:=aB hsel;clear hV hsel;go_enter func186,ntmps186;obtain⟨t,ht⟩:∃ t,(t=false/\T=L)\/(t=true/\∃ j,L.size=j+1/\T=L.extract 0 j):=by
  rcases HSEL.out with ⟨h0,h⟩ | ⟨j,hj,h0,hb47,h⟩ | ⟨j,hj,h0,hb47,h⟩
  ·exact⟨false,.inl ⟨rfl,h⟩⟩
  ·exact⟨false,.inl ⟨rfl,h⟩⟩
  ·exact⟨true,.inr ⟨rfl,j,h0,h⟩⟩
 have HT:=aB ht;have hsel2:(L.size=0/\t=false)\/∃ j,∃ hj:j<L.size,L.size=j+1/\(L[j].toNat==47)=t:=by
  rcases HSEL.out with ⟨h0,h⟩ | ⟨j,hj,h0,hb47,h⟩ | ⟨j,hj,h0,hb47,h⟩
  ·refine .inl ⟨h0,?_⟩;rcases ht with ⟨h,_⟩ | ⟨_,j,h,_⟩
   ·exact h
   ·omega
  ·refine .inr ⟨j,hj,h0,?_⟩;rcases ht with ⟨h1,_⟩ | ⟨_,k,h1,h2⟩
   ·rw[h1,hb47]
   ·exact V9
  ·refine .inr ⟨j,hj,h0,?_⟩;rcases ht with ⟨_,h2⟩ | ⟨h1,_⟩
   ·exact V9
   ·rw[h1,hb47]
 have HSEL2:=aB hsel2;clear hsel2 ht HSEL;go_upto_region 4 with (first | (go_at_call 241;refine (HL.out _).mono ?_;rintro e w1 ⟨rfl,hb1⟩;have hX1:iP w1 w.heap.size ⟨#[]⟩ none 0 0 none 0 0 0:=Blk.keep (World.alloc_heap_new _ _) hb1) | (go_at_call 240;refine (HC.out _).mono ?_;rintro e w2 ⟨rfl,hb2⟩;have hX2:iP w2 w.heap.size ⟨#[]⟩ none 0 0 none 0 0 0:=Blk.keep hX1 hb2))
 go_cut [32] (fun c wx=>c=.bool t/\wx=w2)
 case first =>
  rcases HSEL2.out with ⟨h0,rfl⟩ | ⟨j,hj,h0,hb47⟩
  ·go_wp2_with fail;go_meet;exact⟨rfl,rfl⟩
  ·have hby:=zg L[j] 47;rw[hb47]at hby;have hq0:(0:Int)<(L.size:Int):=aA;have hq1:(L.size:Int)-1=(j:Int):=aA;clear hb47;go_wp2_with fail;go_meet;exact⟨congrArg Value.bool hby,rfl⟩
 case rest =>
  obtain⟨rfl,rfl⟩:=hcut;go_upto_if 32 with fail
  go_cut [3] (fun c wx=>c=.string T/\wx=wc)
  case first =>
   rcases HT.out with ⟨rfl,rfl⟩ | ⟨rfl,j,hj,rfl⟩
   ·go_wp2_with fail;go_meet;exact⟨rfl,rfl⟩
   ·have hq0:(0:Int)<=(j:Int):=aA;have hq1:(L.size:Int)-1=(j:Int):=aA;have hq2:(j:Int)<=(L.size:Int):=aA;go_wp2_with fail;go_meet;exact⟨rfl,rfl⟩
  case rest =>
  obtain⟨rfl,rfl⟩:=hcut;have hXc:=hX2;have hbc:Below w.heap.size w wc:=aG;clear hX1 hX2 hb1 hb2 HSEL2 HT;cases nm
  ·have HV2:=HV.out;simp only[Bool.false_and,Bool.false_eq_true,if_false]at HV2;go_wp2_with (first | (go_at_call 188;refine (HS.out _).mono ?_;rintro e w3 ⟨A,c,rfl,hown,hb3⟩;have hX3:iP w3 w.heap.size ⟨#[]⟩ none 0 0 none 0 0 0:=Blk.keep hXc hb3;obtain⟨pb,po,u,rfl,hu,g0⟩:=(aH.of_own hown).at_ (k:=0) aA;(obtain rfl:u=.string C:=ou);clear hu;have gg:w3.cell? ⟨pb,po,none⟩=some (.string C):=g0;clear g0;have HR:=aB (aH.of_own hown);have hcap:=ru hown;clear hown;have hm0:(0:Int)<(m:Int)+1:=aA;have hm1:(1:Int)<=(m:Int)+1:=aA;have hm2:(m:Int)+1<=(c:Int):=aA) | (go_at_call 50;refine (HN.out _).mono ?_;rintro e w4 ⟨rfl,hb4⟩;have hX4:iP w4 w.heap.size ⟨#[]⟩ none 0 0 none 0 0 0:=Blk.keep hX3 hb4;have gg4:=aP hb4 gg;obtain⟨x0,x1,x2,x3,f0,f1,f2,f3⟩:=hX4.facts;have hz4:w.heap.size<w4.heap.size:=Blk.lt hX4) | (go_at_call 242;refine (HPT.out _ _ _ (EL ((HR.out.keep aG)) _ (fun h=>rf) hcap)).mono ?_;rintro e w5 hp5;obtain⟨hb5,PA,Pc,rfl,hPR,hPA⟩:=HPs.out _ _ _ hp5;clear hp5;have hX5:iP w5 w.heap.size ⟨#[]⟩ none 0 0 none 0 0 0:=Blk.keep hX4 hb5;have gg5:=aP hb5 gg4) | (go_at_call 243;refine (HQ.out _).mono ?_;rintro e w6 hq6;obtain⟨hb6,QA,Qc,rfl,hQR,hQA⟩:=HQs.out _ _ _ hq6;clear hq6;have hX6:iP w6 w.heap.size ⟨#[]⟩ none 0 0 none 0 0 0:=Blk.keep hX5 hb6;have gg6:=aP hb6 gg5;clear x0 x1 x2 x3 f0 f1 f2 f3;obtain⟨x0,x1,x2,x3,f0,f1,f2,f3⟩:=hX6.facts;have hz6:w.heap.size<w6.heap.size:=Blk.lt hX6));all_goals (rw[<-HV2];exact bodyPost_ret (v:=.agg #[.string ⟨#[]⟩,.slice none 0 0,.slice none 0 0,.int .i64 3]) (by simp[results,results186,go_sem,hz4,x0,x1,x2,x3,f0,f1,f2,f3]) rfl (pK.err aG))
  cases o1
  ·exact WA
  cases o2
  ·exact WA
  have HV1:=HV.out;simp only[Bool.and_self,if_true]at HV1;by_cases hnp:np<=32;rotate_left
  ·have HV2:=HV1;rw[if_neg (fun h=>hnp h.1)]at HV2;have hd1:decide ((32:Int)<(np:Int))=true:=aJ;exact WC
  have hd1:decide ((32:Int)<(np:Int))=false:=aJ;by_cases hnq:nq<=16;rotate_left
  ·have HV2:=HV1;rw[if_neg (fun h=>hnq h.2)]at HV2;have hd2:decide ((16:Int)<(nq:Int))=true:=aJ;exact WC
  have hd2:decide ((16:Int)<(nq:Int))=false:=aJ;have HV2:=HV1;rw[if_pos ⟨hnp,hnq⟩]at HV2;clear HV1;go_wp2_with (first | (go_at_call 188;refine (HS.out _).mono ?_;rintro e w3 ⟨A,c,rfl,hown,hb3⟩;have hX3:iP w3 w.heap.size ⟨#[]⟩ none 0 0 none 0 0 0:=Blk.keep hXc hb3;obtain⟨pb,po,u,rfl,hu,g0⟩:=(aH.of_own hown).at_ (k:=0) aA;(obtain rfl:u=.string C:=ou);clear hu;have gg:w3.cell? ⟨pb,po,none⟩=some (.string C):=g0;clear g0;have HR:=aB (aH.of_own hown);have hcap:=ru hown;clear hown;have hm0:(0:Int)<(m:Int)+1:=aA;have hm1:(1:Int)<=(m:Int)+1:=aA;have hm2:(m:Int)+1<=(c:Int):=aA) | (go_at_call 50;refine (HN.out _).mono ?_;rintro e w4 ⟨rfl,hb4⟩;have hX4:iP w4 w.heap.size ⟨#[]⟩ none 0 0 none 0 0 0:=Blk.keep hX3 hb4;have gg4:=aP hb4 gg;obtain⟨x0,x1,x2,x3,f0,f1,f2,f3⟩:=hX4.facts;have hz4:w.heap.size<w4.heap.size:=Blk.lt hX4) | (go_at_call 242;refine (HPT.out _ _ _ (EL ((HR.out.keep aG)) _ (fun h=>rf) hcap)).mono ?_;rintro e w5 hp5;obtain⟨hb5,PA,Pc,rfl,hPR,hPA⟩:=HPs.out _ _ _ hp5;clear hp5;have hX5:iP w5 w.heap.size ⟨#[]⟩ none 0 0 none 0 0 0:=Blk.keep hX4 hb5;have gg5:=aP hb5 gg4) | (go_at_call 243;refine (HQ.out _).mono ?_;rintro e w6 hq6;obtain⟨hb6,QA,Qc,rfl,hQR,hQA⟩:=HQs.out _ _ _ hq6;clear hq6;have hX6:iP w6 w.heap.size ⟨#[]⟩ none 0 0 none 0 0 0:=Blk.keep hX5 hb6;have gg6:=aP hb6 gg5;clear x0 x1 x2 x3 f0 f1 f2 f3;obtain⟨x0,x1,x2,x3,f0,f1,f2,f3⟩:=hX6.facts;have hz6:w.heap.size<w6.heap.size:=Blk.lt hX6));all_goals
   have s1:=hbc.size;have s3:=hb3.size;have s4:=hb4.size;have s5:=hb5.size;have hzc:=Blk.lt hXc;have hA1:∀ a,PA=some a->a.block≠w.heap.size:=fun a ha=>JZ
   have hB1:∀ a,QA=some a->a.block≠w.heap.size:=fun a ha=>Ja
   rw[<-HV2];exact bodyPost_ret (v:=.agg #[.string C,.slice PA np Pc,.slice QA nq Qc,.int .i64 0]) Jb rfl ⟨aG,PA,Pc,QA,Qc,by rw[HPL.out,HQL.out],by rw[HPL.out];exact ((((hPR.keep hb6).set_ _ _ hA1).set_ _ _ hA1).set_ _ _ hA1).set_ _ _ hA1,by rw[HQL.out];exact (((hQR.set_ _ _ hB1).set_ _ _ hB1).set_ _ _ hB1).set_ _ _ hB1⟩
theorem aOr(l:BL):Lib.trimSuffix (l++[47]) [47]=l:=by
 unfold Lib.trimSuffix;rw[if_pos (by simp[Lib.hasSuffix])];simp
theorem aOs(s:ByteArray):((toB (bu s).1).size=0/\oK s=toB (bu s).1)\/(∃ j,∃ hj:j<(toB (bu s).1).size,(toB (bu s).1).size=j+1/\((toB (bu s).1)[j].toNat==47)=false/\oK s=toB (bu s).1)\/(∃ j,∃ hj:j<(toB (bu s).1).size,(toB (bu s).1).size=j+1/\((toB (bu s).1)[j].toNat==47)=true/\oK s=(toB (bu s).1).extract 0 j):=by
 unfold oK;generalize (bu s).1=l;rcases List.eq_nil_or_concat l with rfl | ⟨a,b,rfl⟩
 ·exact .inl ⟨rfl,rfl⟩
 ·rw[List.concat_eq_append];have hz:(toB (a++[b])).size=a.length+1:=by rw[nK];simp
  have hg:∀ hj:a.length<(toB (a++[b])).size,(toB (a++[b]))[a.length]=b:=fun hj=>by
   rw[yH _ _ hj];simp[toB]
  by_cases hb:b=47
  ·subst hb;refine .inr (.inr ⟨a.length,aA,hz,by rw[hg];rfl,?_⟩);rw[aOr];exact dP (by rw[Lib.extract_data];simp[toB])
  ·refine .inr (.inl ⟨a.length,aA,hz,?_,?_⟩)
   ·rw[hg,beq_eq_false_iff_ne];intro e;exact hb (UInt8.toNat_inj.1 e)
   ·rw[aLe a b hb]
theorem aOt(s:ByteArray)(w:World)(hs:4096<s.size):Calls prog 186 #[.string s] w (pK (kK,2) w):=by
 have hd:decide ((4096:Int)<(s.size:Int))=true:=aJ;go_enter func186,ntmps186;go_wp2;exact bodyPost_ret (v:=.agg #[.string ⟨#[]⟩,.slice none 0 0,.slice none 0 0,.int .i64 2]) (by simp[results,results186,go_sem]) rfl (pK.err aG)
theorem WE(s:ByteArray)(w:World)(hs:s.size<=4294967281):Calls prog 186 #[.string s] w (pK (bU s) w):=by
 by_cases h:4096<s.size
 ·have:=aOt s w h;unfold bU;rw[if_pos h];exact this
 have h1:=zY (gz s.data.toList) [63];have h2:=zZ (gz s.data.toList) [63];have h3:=GV (bu s).1 [47];have h0:=GX s.data.toList;rw[<-Lib.size_eq]at h0;obtain⟨r,hr1,hr2⟩:=aOg s;have hst:(oK s).size<=s.size:=by show (toB (Lib.trimSuffix (bu s).1 [47])).size<=_;rw[nK];unfold bu at *;omega
 have hn:=oq 47 (oK s);have hz:=nY 47 (oK s);rw[hr1]at hn hz;have hC:=hz (toB (dY s).1) aF;have:=aOq s (toB (gz s.data.toList)) (toB (bu s).1) (toB (bu s).2.1) (oK s) (toB (dY s).1) r (bu s).2.2 (bI (toB (dY s).1)) (lV (dY s)) (kN (toB (bu s).2.1)) w aA Du (aOs s) (by simp at hn;omega)
  (aB fun W=>aLp s W hs) (aB fun W=>by have:=Va (toB (gz s.data.toList)) 63 W xE;exact this)
  (aB fun W=>by have:=JL (oK s) 47 W aA;rw[hr1]at this;exact this) (aB fun W=>sV _ W aA)
  (aB fun A c W h=>by rw[hr2];exact aOh A r.length c r W h (by simp at hn;omega) (fun p hp=>by have:=hz p nZ;omega)) (aB fun W=>aOl _ W Du)
 unfold bU;rw[if_neg h];exact this
def uw(s:ByteArray):ByteArray × Int:=if (bU s).2=0 then xW (bU s).1.cust (bU s).1.path (bU s).1.query else (⟨#[]⟩,(bU s).2)
theorem aOu(s:ByteArray)(w:World)(hs:s.size<=4294967281):Calls prog 145 #[.string s] w (Ret w (.agg #[.string (uw s).1,.int .i64 (uw s).2])):=by
 have cP:=fun W=>WE s W hs
 have he:=Ar s;have hbd:=Eo s;unfold uw;generalize bU s=r at *;obtain⟨⟨c,ps,qs⟩,er⟩:=r;dsimp only at he hbd ⊢;have cT:=fun A ca B cb W h1 h2=>aOp c A B ps.length ca qs.length cb ps qs W h1 h2 aA
 generalize xW c ps qs=t at *;obtain⟨t,e0⟩:=t;dsimp only at cT;have HP:=aB cP;have HT:=aB cT;clear cP hbd cT;rcases he with rfl | rfl | rfl
 ·rw[if_pos rfl];go_enter func145,ntmps145;go_wp2_with (first | (go_at_call 186;refine (HP.out _).mono ?_;rintro e w1 ⟨hb1,A,ca,B,cb,rfl,hA,hB⟩;have hX1:rU w1 w.heap.size ⟨#[]⟩ 0:=Blk.keep (World.alloc_heap_new _ _) hb1;obtain⟨x0,x1,f0,f1⟩:=hX1.facts;have hz1:w.heap.size<w1.heap.size:=Blk.lt hX1;have hz9:w1.heap.size≠w.heap.size:=aA;have HA:=aB hA;have HB:=aB hB;clear hA hB) | (go_at_call 202;refine (HT.out _ _ _ _ _ (HA.out.keep aG) (HB.out.keep aG)).mono ?_;rintro e w2 ⟨rfl,hb2⟩;have hX2:rU w2 w.heap.size ⟨#[]⟩ 0:=Blk.keep hX1 (fE _ hb2);obtain⟨y0,y1,g0,g1⟩:=hX2.facts;have hz2:w.heap.size<w2.heap.size:=Blk.lt hX2));exact bodyPost_ret (v:=.agg #[.string t,.int .i64 e0]) (by simp[results,results145,go_sem,hz2,y0,y1,g0,g1]) rfl ⟨rfl,aG⟩
 ·exact WF
 ·exact WF
def Jc(s:ByteArray):Bool:=decide ((uw s).2=0)&&((uw s).1.toList==s.toList)
theorem aOv(s:ByteArray):Jc s=iK s:=by
 unfold Jc iK uw;by_cases h:(bU s).2=0
 ·rw[if_pos h,decide_eq_true h,Bool.true_and];have hg:=yP s h;have hsh:=O5 s h;have hf:kM (bU s).1.cust (bU s).1.path (bU s).1.query=true:=(OG _ _ _).2 ⟨hg,aA⟩;unfold xW;rw[if_pos hf];rfl
 ·rw[if_neg h,decide_eq_false h];simp[h]
theorem WG(s:ByteArray)(w:World)(hs:s.size<=4294967281):Calls prog 84 #[.string s] w (Ret w (.bool (iK s))):=by
 rw[<-aOv];have cC:=fun W=>aOu s W hs
 unfold Jc;generalize uw s=r at *;obtain⟨t,er⟩:=r;dsimp only at cC ⊢;have HC:=aB cC;clear cC;cases h2:(t.toList==s.toList)
 ·exact WH
 ·exact WH
end Go.Proofs.YtlkbkclnbppigaaGreatDoor
