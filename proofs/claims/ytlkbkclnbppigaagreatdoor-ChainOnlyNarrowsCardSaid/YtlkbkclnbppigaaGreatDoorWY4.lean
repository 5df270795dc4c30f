/- What the specification's path returns: the parts that 'resolve' leaves. -/
import Derived.Test.YtlkbkclnbppigaaGreatDoorWY3
set_option maxHeartbeats 4000000
namespace Go.Proofs.YtlkbkclnbppigaaGreatDoor
open Tryz
open Go.RowKit Go.Sort
set_option linter.unusedVariables false
set_option linter.unusedSimpArgs false
set_option maxRecDepth 100000
theorem aOs(A:Option Addr)(n c:Nat)(l:List aC)(w:World)(hR:aI w 1 A n (l.map .string))(hn:n<=1000000)(hsz:∀ p∈l,p.size<=4294967281):Calls prog 242 #[.slice A n c] w (G7 (gp [] l) w):=by
 have hl:l.length=n:=zY;obtain⟨i0,hi0,hz0,hz1,hz2⟩:=info_parts rY;have HI:Hid ((prog.info? 9=some i0)/\i0.zero=some (.string ⟨#[]⟩)/\i0.size=1/\i0.bytes=16):=aA ⟨hi0,hz0,hz1,hz2⟩;have HL:=aA hl;have HR:=aA hR;have HZ:=aA hsz;generalize hV:G7 (gp [] l) w=V;have HV:=aA hV;clear hi0 hz0 hz1 hz2 hl hR hsz hV;go_enter func242,ntmps242;go_wp2;go_loopw [4,5] (fun va vi wr=>∃(k m:Nat)(acc:List aC)(A':Option Addr)(c':Nat),(vi=.int .i64 k/\va=.slice A' m c'/\k<=n/\m<=k)/\Hid (gp [] l=gp acc (l.drop k)/\acc.length=m)/\wr.ownsRow w.heap.size 9 1 (.slice A' m c') m (acc.map .string)/\aF w wr) (fun _ i _=>n-(intOf i).toNat)
 case atStart=>exact⟨0,0,[],none,0,⟨rfl,rfl,Nat.zero_le _,Nat.le_refl _⟩,aA ⟨rfl,rfl⟩,World.ownsRow_nil _ _ _ _,Below.refl _ _⟩
 case round =>
  obtain⟨k,m,acc,A',c',⟨rfl,rfl,hk,hm⟩,HK,hown,hbr⟩:=hrel;have hbs:=hbr.size;by_cases hlt:k<n
  ·obtain⟨x,hx⟩:∃ x,l[k]? = some x:=⟨_,List.getElem?_eq_getElem gV⟩;obtain⟨b,o,rfl,hcell⟩:=HR.out.2 aB;have hc0:w.cell? ⟨b,o+k,none⟩=some (.string x):=hcell k _ gB;have hc1:wr.cell? ⟨b,o+k,none⟩=some (.string x):=aW hbr hc0;have hk0:(0:Int)<=(k:Int):=aB;have hk1:(k:Int)<(n:Int):=aB;have hd:l.drop k=x :: l.drop (k+1):=by
    exact IV
   have hr1:=HK.out.1;rw[hd,gp]at hr1;have hml:=HK.out.2;have hxs:x.size<=4294967281:=HZ.out x (List.mem_of_getElem? hx);have cW:=fun W=>aBw x W hxs
   clear hcell hx hd HK;cases e1:(x.toList == [46])
   rotate_left
   ·have hr2:=hr1;simp only[kT,e1,if_true,Option.bind_some]at hr2;have HK2:=aA (show gp [] l=gp acc (l.drop (k+1))/\acc.length=m from⟨hr2,hml⟩);clear hr1 hr2 hml cW;go_wp2;exact⟨⟨k+1,m,acc,A',c',⟨bg,rfl,aB,aB⟩,HK2,hown,hbr⟩,dD⟩
   have e1':¬ x.toList=[46]:=by simpa using e1
   cases e2:(x.toList == [46,46])
   rotate_left
   ·by_cases hm0:m=0
    ·subst hm0;obtain rfl:acc=[]:=List.eq_nil_of_length_eq_zero hml;have hwf:bW x=false:=by simp[bW,beq_iff_eq.1 e2]
     have hn:gp [] l=none:=by rw[hr1];simp[kT,e1,e2,hwf]
     have HN:=aA hn;clear hr1 hml cW hwf hn;go_wp2;rw[<-HV.out,HN.out];exact⟨aJ,rfl⟩
    ·obtain⟨init,last,hacc⟩:∃ init last,acc=init++[last]:=by
      rcases List.eq_nil_or_concat acc with rfl | ⟨init,last,rfl⟩
      ·exact absurd hml.symm hm0
      ·exact⟨init,last,by rw[List.concat_eq_append]⟩
     subst hacc;obtain⟨m',rfl⟩:∃ m',m=m' + 1:=⟨m-1,aB⟩;have hil:init.length=m':=by simpa using hml
     have hr2:=hr1;rw[show kT (init++[last]) x=some init by simp[kT,e1,e2],Option.bind_some]at hr2;have HK2:=aA (show gp [] l=gp init (l.drop (k+1))/\init.length=m' from⟨hr2,hil⟩);clear hr1 hr2 hml cW;obtain⟨g,hA⟩:∃ g,A'=some ⟨g,0,none⟩:=by
      obtain⟨g,cap,hv⟩:=ownsRow_succ hown;injection hv with hv
      exact⟨g,hv⟩
     subst hA;have hpop:Hid (∀ j u,(init.map Value.string)[j]? = some u->wr.cell? ⟨g,j,none⟩=some u):=aA fun j u hu=>by
      have hjl:j<(init.map Value.string).length:=(List.getElem?_eq_some_iff.1 hu).1;rw[hown.cellAt j (by simp at hjl;omega),List.map_append,List.getElem?_append_left hjl];exact hu
     have hcap:=Bh hown;have hgb:=fE hown g rfl;have hgl:g<wr.heap.size:=(hown.lt g rfl).2;clear hown;have hpos:((m':Int)+1==0)=false:=beq_eq_false_iff_ne.2 aB;have q1:(0:Int)<=(m':Int):=aB;have hone:∀ u∈init.map Value.string,u.oneCell'=true:=by
      intro u hu;obtain⟨_,_,rfl⟩:=List.mem_map.1 hu;rfl
     have hlen:(init.map Value.string).length=m' * 1:=by simp[hil]
     have hadd:∀ j,(⟨g,0,none⟩:Addr).add j=⟨g,j,none⟩:=fun j=>nH
     have hnew:∀ j u,(init.map Value.string)[j]? = some u->(wr.alloc (.cells #[] 9)).cell? ((⟨g,0,none⟩:Addr).add j)=some u:=fun j u hu=>by
      rw[hadd,World.cell?_of_block (w:=wr) (Below.heap_alloc wr _ g hgl)];exact hpop.out j u hu
     have HN2:=aA hnew;have HO:=aA hone;have HLN:=aA hlen;clear hnew hone hlen hadd;go_wp2_with (at_builtin;refine wpList_append_own _ rfl _ _ 24 rfl w.heap.size 9 i0 (.string ⟨#[]⟩) 1 16 underlying24 HI.out.1 HI.out.2.1 HI.out.2.2.1 HI.out.2.2.2 rfl aK _ _ _ rfl (World.ownsRow_made (base:=w.heap.size) (e:=9) (size:=1) wr #[] 0 hbs (Nat.zero_le _) rfl) ⟨g,0,none⟩ m' c' (init.map .string) rfl HLN.out HN2.out HO.out dh aB aP ?_;intro v' w3 hown3 hgrow3 _);obtain⟨A3,c3,rfl⟩:∃ A3 c3,v'=.slice A3 m' c3:=by
      rcases hown3.2 with ⟨h1,h2⟩ | ⟨g3,cap3,cur3,h1,_⟩
      ·exact⟨none,0,by rw[h1];congr 1;omega⟩
      ·exact⟨_,_,by rw[h1];congr 1;omega⟩
     exact⟨⟨k+1,m',init,A3,c3,⟨bg,rfl,aB,aB⟩,HK2,by simpa using hown3,(hbr.alloc hbs _).grown hgrow3 aP (fun r e=>by injection e with e;simp at e;omega)⟩,dD⟩
   have e2':¬ x.toList=[46,46]:=by simpa using e2
   cases hw:bW x
   ·have hn:gp [] l=none:=by rw[hr1];simp[kT,e1,e2,hw]
    rw[hw]at cW;have HW:=aA cW;have HN:=aA hn;clear hr1 hml cW hw hn;go_wp2_with (go_at_call 105;refine (HW.out _).mono ?_;rintro e w1 ⟨rfl,hb1⟩);rw[<-HV.out,HN.out];exact⟨aJ,rfl⟩
   ·have hr2:=hr1;rw[show kT acc x=some (acc++[x]) by simp[kT,e1,e2,hw],Option.bind_some]at hr2;have HK2:=aA (show gp [] l=gp (acc++[x]) (l.drop (k+1))/\(acc++[x]).length=m+1 from⟨hr2,by simp[hml]⟩);rw[hw]at cW;have HW:=aA cW;clear hr1 hr2 hml cW hw;go_wp2_with (first | (go_at_call 105;refine (HW.out _).mono ?_;rintro e w1 ⟨rfl,hb1⟩;have hown1:=fZ hown hb1;have hbs1:=hb1.size;have hbw1:=aV hbr hb1;have hc2:=aW hb1 hc1;clear hown) | (at_builtin;refine wpList_append_own _ rfl _ _ 24 rfl w.heap.size 9 i0 (.string ⟨#[]⟩) 1 16 underlying24 HI.out.1 HI.out.2.1 HI.out.2.2.1 HI.out.2.2.2 rfl aK _ _ _ rfl (hown1.alloc _) ⟨w1.heap.size,0,none⟩ 1 1 [.string x] rfl rfl (cell_one_new _ _ _) jJ dh aB aP ?_;intro v' w3 hown3 hgrow3 _;obtain⟨g1,cap1,rfl⟩:=ownsRow_succ hown3;have hb3:aF w w3:=(hbw1.alloc hbw1.size _).grown hgrow3 aP (fun r e=>fE hown1 r e)));exact⟨⟨k+1,m+1,acc++[x],some ⟨g1,0,none⟩,cap1,⟨bg,rfl,aB,aB⟩,HK2,by rw[List.map_append];exact hown3,hb3⟩,dD⟩
  ·obtain rfl:k=n:=aB;have hfin:gp [] l=some acc:=by
    rw[HK.out.1,List.drop_eq_nil_of_le gV,gp]
   have HF:=aA hfin;have hml:=HK.out.2;clear hfin HK;go_wp2;rw[<-HV.out,HF.out];exact⟨aJ,A',c',by rw[hml];rfl,by rw[hml];exact aI.of_own hown,fun a ha=>xX⟩
def aOt(ps:List lg)(w:World)(e:Ending)(w':World):Prop:=∃ A c,e=.returned (.slice A ps.length c)/\aI w' 2 A ps.length (eY ps)/\(∀ a,A=some a->w.heap.size<=a.block)/\aF w w'
theorem aCv(a b:List lg):eY (a++b)=eY a++eY b:=by simp[eY]
theorem aOu(A:Option Addr)(n c:Nat)(l:List lg)(k0 v0:aC)(w:World)(hR:aI w 2 A n (eY l))(hn:n<=1000000):Calls prog 292 #[.slice A n c,.agg #[.string k0,.string v0]] w (aOt (MB l (k0,v0)) w):=by
 have hl:l.length=n:=by have:=hR.1;rw[Ox]at this;omega
 obtain⟨i0,hi0,hz0,hz1,hz2⟩:=info_parts Zz;have HI:Hid ((prog.info? 298=some i0)/\i0.zero=some (.agg #[.string ⟨#[]⟩,.string ⟨#[]⟩])/\i0.size=2/\i0.bytes=32):=aA ⟨hi0,hz0,hz1,hz2⟩;have HL:=aA hl;have HR:=aA hR;clear hi0 hz0 hz1 hz2 hl hR;go_enter func292,ntmps292;go_wp2;have hX0:JR (w.alloc (.cells #[.string k0,.string v0] 298)) w.heap.size k0 v0:=World.alloc_heap_new _ _;go_loopw [5,6,7] (fun va vp vi wr=>∃(k m:Nat)(pl:Bool)(acc:List lg)(A':Option Addr)(c':Nat),(vi=.int .i64 k/\vp=.bool pl/\va=.slice A' m c'/\k<=n/\m<=2*k)/\Hid ((l.take k).foldl (AL (k0,v0)) ([],false)=(acc,pl)/\acc.length=m)/\wr.ownsRow (w.heap.size+1) 298 2 (.slice A' m c') m (eY acc)/\JR wr w.heap.size k0 v0/\aF w wr/\w.heap.size+1<=wr.heap.size) (fun _ _ i _=>n-(intOf i).toNat)
 case atStart=>exact⟨0,0,false,[],none,0,⟨rfl,rfl,rfl,Nat.zero_le _,Nat.le_refl _⟩,aA ⟨rfl,rfl⟩,World.ownsRow_nil _ _ _ _,hX0,aU (Below.refl _ _) _,aH⟩
 case round =>
  clear hX0;obtain⟨k,m,pl,acc,A',c',⟨rfl,rfl,rfl,hk,hm⟩,HK,hown,hX,hbr,hzr⟩:=hrel;have hbs:=hbr.size;obtain⟨x0,x1⟩:=hX.facts;by_cases hlt:k<n
  ·obtain⟨x,hx⟩:∃ x,l[k]? = some x:=⟨_,List.getElem?_eq_getElem gV⟩;obtain⟨b,o,rfl,hcell⟩:=HR.out.2 aB;obtain⟨e1,e2⟩:=Du l k x hx;have hc0:=hcell _ _ e1;have hc0':=hcell _ _ e2;have hst:(l.take (k+1)).foldl (AL (k0,v0)) ([],false)=AL (k0,v0) (acc,pl) x:=by rw[aMp _ _ hx,HK.out.1]
   obtain⟨xk,xv⟩:=x;dsimp only at hc0 hc0';have hc1:wr.cell? ⟨b,o+k*2,none⟩=some (.string xk):=aW hbr hc0;have hc2:wr.cell? ⟨b,o+k*2+1,none⟩=some (.string xv):=aW hbr hc0';have hk0:(0:Int)<=(k:Int):=aB;have hk1:(k:Int)<(n:Int):=aB;have hml:=HK.out.2;clear hcell hx e1 e2;by_cases hfirst:pl=false/\leS k0 xk=true
   ·obtain⟨rfl,hle⟩:=hfirst;have e1:IM (k0,v0) (acc,false) (xk,xv)=(acc++[(k0,v0)],true):=by simp[IM,hle]
    have hle2:(Op.bytesLess k0.toList xk.toList||k0.toList==xk.toList)=true:=hle;cases hne:(xk.toList != k0.toList)
    ·have e2:AL (k0,v0) (acc,false) (xk,xv)=(acc++[(k0,v0)],true):=aEa;have HK2:=aA (show (l.take (k+1)).foldl (AL (k0,v0)) ([],false)=(acc++[(k0,v0)],true)/\(acc++[(k0,v0)]).length=m+1 from⟨hst.trans e2,by simp[hml]⟩);have hq:(xk.toList==k0.toList)=true:=aEb;have hq2:xk.toList=k0.toList:=beq_iff_eq.1 hq;clear e1 e2 hst hml HK hle;go_wp2_with fail;(have k1:=cell_regrown hc1;have k2:=cell_regrown hc2;have k3:=cell_regrown x0;refine wp_region_quiet_below aG aG ?_;(repeat (any_goals (first | go_big_quiet_step (fail) | quiet_step (fail))));refine wpQuiet_nil ?_;intro _ hwq;obtain⟨⟨dq,osq⟩,hwq⟩:=hwq;subst hwq;have hbq:=below_regrown (wr) dq osq;generalize grow (redrawn (wr) dq) osq=wq at *;have hownq:=fZ hown hbq;have hXq:JR wq w.heap.size k0 v0:=Blk.keep hX hbq;have hcq1:=aW hbq hc1;have hcq2:=aW hbq hc2;have hbrq:=aV hbr hbq;have hzrq:=Nat.le_trans hzr hbq.size;clear k1 k2 k3 hown hX hc1 hc2 hbr hzr hbs x0 x1 hbq;obtain⟨x0,x1⟩:=hXq.facts;have hbs:=hbrq.size;have hown:=hownq;have hX:=hXq;have hc1:=hcq1;have hc2:=hcq2;have hbr:=hbrq;have hzr:=hzrq;clear hownq hXq hcq1 hcq2 hbrq hzrq;obtain⟨wr,rfl⟩:∃ x:World,x=wq:=⟨_,rfl⟩);go_wp2_with (at_builtin;refine wpList_append_own _ rfl _ _ 198 rfl (w.heap.size+1) 298 i0 (.agg #[.string ⟨#[]⟩,.string ⟨#[]⟩]) 2 32 underlying198 HI.out.1 HI.out.2.1 HI.out.2.2.1 HI.out.2.2.2 rfl aK _ _ _ rfl (hown.alloc _) ⟨wr.heap.size,0,none⟩ 1 1 [.string k0,.string v0] rfl rfl (World.news_of_block (cs:=#[.string k0,.string v0]) (t:=298) (fr:=(0,0)) (World.alloc_heap_new wr _)) jJ dh aB aP ?_;intro v' w3 hown1 hgrow1 _;obtain⟨g1,cap1,rfl⟩:=ownsRow_succ hown1;have hb3:aF w w3:=(hbr.alloc hbs _).grown hgrow1 aP (fun r e=>Au);have hbs3:=hb3.size;have hX3:JR w3 w.heap.size k0 v0:=(hgrow1.block _ aP (fun e=>AY)).trans ((Below.heap_alloc wr _ _ aB).trans hX);obtain⟨y0,y1⟩:=hX3.facts;have hz3:w.heap.size+1<=w3.heap.size:=aFv;have hc3:w3.cell? ⟨b,o+k*2,none⟩=some (.string xk):=aW hb3 hc0;have hc3':w3.cell? ⟨b,o+k*2+1,none⟩=some (.string xv):=aW hb3 hc0';clear hown);(have k1:=cell_regrown hc3;have k2:=cell_regrown hc3';have k3:=cell_regrown y0;refine wp_region_quiet_below aG aG ?_;(repeat (any_goals (first | go_big_quiet_step (fail) | quiet_step (fail))));refine wpQuiet_nil ?_;intro _ hwq;obtain⟨⟨dq,osq⟩,hwq⟩:=hwq;subst hwq;have hbq:=below_regrown (w3) dq osq;generalize grow (redrawn (w3) dq) osq=wq at *;have hownq:=fZ hown1 hbq;have hXq:JR wq w.heap.size k0 v0:=Blk.keep hX3 hbq;have hcq1:=aW hbq hc3;have hcq2:=aW hbq hc3';have hbrq:=aV hb3 hbq;have hzrq:=Nat.le_trans hz3 hbq.size;clear k1 k2 k3 hown1 hX3 hc3 hc3' hb3 hz3 hbs3 y0 y1 hbq hgrow1;obtain⟨y0,y1⟩:=hXq.facts;have hbs3:=hbrq.size;have hown1:=hownq;have hX3:=hXq;have hc3:=hcq1;have hc3':=hcq2;have hb3:=hbrq;have hz3:=hzrq;clear hownq hXq hcq1 hcq2 hbrq hzrq;obtain⟨w3,rfl⟩:∃ x:World,x=wq:=⟨_,rfl⟩);go_wp2;exact⟨⟨k+1,m+1,true,acc++[(k0,v0)],some ⟨g1,0,none⟩,cap1,⟨bg,rfl,rfl,aB,aB⟩,HK2,by rw[aCv];exact hown1,hX3,hb3,hz3⟩,dD⟩
    ·have e2:AL (k0,v0) (acc,false) (xk,xv)=(acc++[(k0,v0)]++[(xk,xv)],true):=aEa;have HK2:=aA (show (l.take (k+1)).foldl (AL (k0,v0)) ([],false)=(acc++[(k0,v0)]++[(xk,xv)],true)/\(acc++[(k0,v0)]++[(xk,xv)]).length=m+1+1 from⟨hst.trans e2,by simp[hml]⟩);have hq:¬ xk.toList=k0.toList:=aEb;have hq3:(xk.toList==k0.toList)=false:=by simpa using hq
     clear e1 e2 hst hml HK hle;go_wp2_with fail;(have k1:=cell_regrown hc1;have k2:=cell_regrown hc2;have k3:=cell_regrown x0;refine wp_region_quiet_below aG aG ?_;(repeat (any_goals (first | go_big_quiet_step (fail) | quiet_step (fail))));refine wpQuiet_nil ?_;intro _ hwq;obtain⟨⟨dq,osq⟩,hwq⟩:=hwq;subst hwq;have hbq:=below_regrown (wr) dq osq;generalize grow (redrawn (wr) dq) osq=wq at *;have hownq:=fZ hown hbq;have hXq:JR wq w.heap.size k0 v0:=Blk.keep hX hbq;have hcq1:=aW hbq hc1;have hcq2:=aW hbq hc2;have hbrq:=aV hbr hbq;have hzrq:=Nat.le_trans hzr hbq.size;clear k1 k2 k3 hown hX hc1 hc2 hbr hzr hbs x0 x1 hbq;obtain⟨x0,x1⟩:=hXq.facts;have hbs:=hbrq.size;have hown:=hownq;have hX:=hXq;have hc1:=hcq1;have hc2:=hcq2;have hbr:=hbrq;have hzr:=hzrq;clear hownq hXq hcq1 hcq2 hbrq hzrq;obtain⟨wr,rfl⟩:∃ x:World,x=wq:=⟨_,rfl⟩);go_wp2_with (at_builtin;refine wpList_append_own _ rfl _ _ 198 rfl (w.heap.size+1) 298 i0 (.agg #[.string ⟨#[]⟩,.string ⟨#[]⟩]) 2 32 underlying198 HI.out.1 HI.out.2.1 HI.out.2.2.1 HI.out.2.2.2 rfl aK _ _ _ rfl (hown.alloc _) ⟨wr.heap.size,0,none⟩ 1 1 [.string k0,.string v0] rfl rfl (World.news_of_block (cs:=#[.string k0,.string v0]) (t:=298) (fr:=(0,0)) (World.alloc_heap_new wr _)) jJ dh aB aP ?_;intro v' w3 hown1 hgrow1 _;obtain⟨g1,cap1,rfl⟩:=ownsRow_succ hown1;have hb3:aF w w3:=(hbr.alloc hbs _).grown hgrow1 aP (fun r e=>Au);have hbs3:=hb3.size;have hX3:JR w3 w.heap.size k0 v0:=(hgrow1.block _ aP (fun e=>AY)).trans ((Below.heap_alloc wr _ _ aB).trans hX);obtain⟨y0,y1⟩:=hX3.facts;have hz3:w.heap.size+1<=w3.heap.size:=aFv;have hc3:w3.cell? ⟨b,o+k*2,none⟩=some (.string xk):=aW hb3 hc0;have hc3':w3.cell? ⟨b,o+k*2+1,none⟩=some (.string xv):=aW hb3 hc0';clear hown);(have k1:=cell_regrown hc3;have k2:=cell_regrown hc3';have k3:=cell_regrown y0;refine wp_region_quiet_below aG aG ?_;(repeat (any_goals (first | go_big_quiet_step (fail) | quiet_step (fail))));refine wpQuiet_nil ?_;intro _ hwq;obtain⟨⟨dq,osq⟩,hwq⟩:=hwq;subst hwq;have hbq:=below_regrown (w3) dq osq;generalize grow (redrawn (w3) dq) osq=wq at *;have hownq:=fZ hown1 hbq;have hXq:JR wq w.heap.size k0 v0:=Blk.keep hX3 hbq;have hcq1:=aW hbq hc3;have hcq2:=aW hbq hc3';have hbrq:=aV hb3 hbq;have hzrq:=Nat.le_trans hz3 hbq.size;clear k1 k2 k3 hown1 hX3 hc3 hc3' hb3 hz3 hbs3 y0 y1 hbq hgrow1;obtain⟨y0,y1⟩:=hXq.facts;have hbs3:=hbrq.size;have hown1:=hownq;have hX3:=hXq;have hc3:=hcq1;have hc3':=hcq2;have hb3:=hbrq;have hz3:=hzrq;clear hownq hXq hcq1 hcq2 hbrq hzrq;obtain⟨w3,rfl⟩:∃ x:World,x=wq:=⟨_,rfl⟩);go_wp2_with (at_builtin;refine wpList_append_own _ rfl _ _ 198 rfl (w.heap.size+1) 298 i0 (.agg #[.string ⟨#[]⟩,.string ⟨#[]⟩]) 2 32 underlying198 HI.out.1 HI.out.2.1 HI.out.2.2.1 HI.out.2.2.2 rfl aK _ _ _ rfl (hown1.alloc _) ⟨w3.heap.size,0,none⟩ 1 1 [.string xk,.string xv] rfl rfl (World.news_of_block (cs:=#[.string xk,.string xv]) (t:=298) (fr:=(0,0)) (World.alloc_heap_new w3 _)) jJ dh aB aP ?_;intro v' w4 hown2 hgrow2 _;obtain⟨g2,cap2,rfl⟩:=ownsRow_succ hown2;have hb4:aF w w4:=(hb3.alloc hbs3 _).grown hgrow2 aP (fun r e=>by have:=fE hown1 r e;omega);have hX4:JR w4 w.heap.size k0 v0:=(hgrow2.block _ aP (fun e=>by have:=fE hown1 _ e.symm;omega)).trans ((Below.heap_alloc w3 _ _ aB).trans hX3);have hz4:w.heap.size+1<=w4.heap.size:=(by have:=hgrow2.size;simp at this;omega));exact⟨⟨k+1,m+1+1,true,acc++[(k0,v0)]++[(xk,xv)],some ⟨g2,0,none⟩,cap2,⟨bg,rfl,rfl,aB,aB⟩,HK2,by rw[aCv,aCv];exact hown2,hX4,hb4,hz4⟩,dD⟩
   ·have e1:IM (k0,v0) (acc,pl) (xk,xv)=(acc,pl):=by
     unfold IM;rw[if_neg];intro h;simp only[Bool.and_eq_true,Bool.not_eq_true']at h;exact hfirst h
    have hguard:pl=true\/(pl=false/\(Op.bytesLess k0.toList xk.toList||k0.toList==xk.toList)=false):=by
     cases pl
     ·right;refine⟨rfl,?_⟩;cases hle:leS k0 xk
      ·exact hle
      ·exact absurd ⟨rfl,hle⟩ hfirst
     ·exact .inl rfl
    clear hfirst;cases hne:(xk.toList != k0.toList)
    ·have e2:AL (k0,v0) (acc,pl) (xk,xv)=(acc,pl):=aEa;have HK2:=aA (show (l.take (k+1)).foldl (AL (k0,v0)) ([],false)=(acc,pl)/\acc.length=m from⟨hst.trans e2,hml⟩);have hq:(xk.toList==k0.toList)=true:=aEb;have hq2:xk.toList=k0.toList:=beq_iff_eq.1 hq;clear e1 e2 hst hml HK;rcases hguard with rfl | ⟨rfl,hg⟩
     ·go_wp2_with fail;(have k1:=cell_regrown hc1;have k2:=cell_regrown hc2;have k3:=cell_regrown x0;refine wp_region_quiet_below aG aG ?_;(repeat (any_goals (first | go_big_quiet_step (fail) | quiet_step (fail))));refine wpQuiet_nil ?_;intro _ hwq;obtain⟨⟨dq,osq⟩,hwq⟩:=hwq;subst hwq;have hbq:=below_regrown (wr) dq osq;generalize grow (redrawn (wr) dq) osq=wq at *;have hownq:=fZ hown hbq;have hXq:JR wq w.heap.size k0 v0:=Blk.keep hX hbq;have hcq1:=aW hbq hc1;have hcq2:=aW hbq hc2;have hbrq:=aV hbr hbq;have hzrq:=Nat.le_trans hzr hbq.size;clear k1 k2 k3 hown hX hc1 hc2 hbr hzr hbs x0 x1 hbq;obtain⟨x0,x1⟩:=hXq.facts;have hbs:=hbrq.size;have hown:=hownq;have hX:=hXq;have hc1:=hcq1;have hc2:=hcq2;have hbr:=hbrq;have hzr:=hzrq;clear hownq hXq hcq1 hcq2 hbrq hzrq;obtain⟨wr,rfl⟩:∃ x:World,x=wq:=⟨_,rfl⟩);go_wp2_with fail;(have k1:=cell_regrown hc1;have k2:=cell_regrown hc2;have k3:=cell_regrown x0;refine wp_region_quiet_below aG aG ?_;(repeat (any_goals (first | go_big_quiet_step (fail) | quiet_step (fail))));refine wpQuiet_nil ?_;intro _ hwq;obtain⟨⟨dq,osq⟩,hwq⟩:=hwq;subst hwq;have hbq:=below_regrown (wr) dq osq;generalize grow (redrawn (wr) dq) osq=wq at *;have hownq:=fZ hown hbq;have hXq:JR wq w.heap.size k0 v0:=Blk.keep hX hbq;have hcq1:=aW hbq hc1;have hcq2:=aW hbq hc2;have hbrq:=aV hbr hbq;have hzrq:=Nat.le_trans hzr hbq.size;clear k1 k2 k3 hown hX hc1 hc2 hbr hzr hbs x0 x1 hbq;obtain⟨x0,x1⟩:=hXq.facts;have hbs:=hbrq.size;have hown:=hownq;have hX:=hXq;have hc1:=hcq1;have hc2:=hcq2;have hbr:=hbrq;have hzr:=hzrq;clear hownq hXq hcq1 hcq2 hbrq hzrq;obtain⟨wr,rfl⟩:∃ x:World,x=wq:=⟨_,rfl⟩);go_wp2;exact⟨⟨k+1,m,_,acc,A',c',⟨bg,rfl,rfl,aB,aB⟩,HK2,hown,hX,hbr,hzr⟩,dD⟩
     ·exact absurd hg (by rw[hq2];simp)
    ·have e2:AL (k0,v0) (acc,pl) (xk,xv)=(acc++[(xk,xv)],pl):=aEa;have HK2:=aA (show (l.take (k+1)).foldl (AL (k0,v0)) ([],false)=(acc++[(xk,xv)],pl)/\(acc++[(xk,xv)]).length=m+1 from⟨hst.trans e2,by simp[hml]⟩);have hq:¬ xk.toList=k0.toList:=aEb;have hq3:(xk.toList==k0.toList)=false:=by simpa using hq
     clear e1 e2 hst hml HK;rcases hguard with rfl | ⟨rfl,hg⟩
     all_goals
      go_wp2_with fail;(have k1:=cell_regrown hc1;have k2:=cell_regrown hc2;have k3:=cell_regrown x0;refine wp_region_quiet_below aG aG ?_;(repeat (any_goals (first | go_big_quiet_step (fail) | quiet_step (fail))));refine wpQuiet_nil ?_;intro _ hwq;obtain⟨⟨dq,osq⟩,hwq⟩:=hwq;subst hwq;have hbq:=below_regrown (wr) dq osq;generalize grow (redrawn (wr) dq) osq=wq at *;have hownq:=fZ hown hbq;have hXq:JR wq w.heap.size k0 v0:=Blk.keep hX hbq;have hcq1:=aW hbq hc1;have hcq2:=aW hbq hc2;have hbrq:=aV hbr hbq;have hzrq:=Nat.le_trans hzr hbq.size;clear k1 k2 k3 hown hX hc1 hc2 hbr hzr hbs x0 x1 hbq;obtain⟨x0,x1⟩:=hXq.facts;have hbs:=hbrq.size;have hown:=hownq;have hX:=hXq;have hc1:=hcq1;have hc2:=hcq2;have hbr:=hbrq;have hzr:=hzrq;clear hownq hXq hcq1 hcq2 hbrq hzrq;obtain⟨wr,rfl⟩:∃ x:World,x=wq:=⟨_,rfl⟩);go_wp2_with fail;(have k1:=cell_regrown hc1;have k2:=cell_regrown hc2;have k3:=cell_regrown x0;refine wp_region_quiet_below aG aG ?_;(repeat (any_goals (first | go_big_quiet_step (fail) | quiet_step (fail))));refine wpQuiet_nil ?_;intro _ hwq;obtain⟨⟨dq,osq⟩,hwq⟩:=hwq;subst hwq;have hbq:=below_regrown (wr) dq osq;generalize grow (redrawn (wr) dq) osq=wq at *;have hownq:=fZ hown hbq;have hXq:JR wq w.heap.size k0 v0:=Blk.keep hX hbq;have hcq1:=aW hbq hc1;have hcq2:=aW hbq hc2;have hbrq:=aV hbr hbq;have hzrq:=Nat.le_trans hzr hbq.size;clear k1 k2 k3 hown hX hc1 hc2 hbr hzr hbs x0 x1 hbq;obtain⟨x0,x1⟩:=hXq.facts;have hbs:=hbrq.size;have hown:=hownq;have hX:=hXq;have hc1:=hcq1;have hc2:=hcq2;have hbr:=hbrq;have hzr:=hzrq;clear hownq hXq hcq1 hcq2 hbrq hzrq;obtain⟨wr,rfl⟩:∃ x:World,x=wq:=⟨_,rfl⟩);go_wp2_with (at_builtin;refine wpList_append_own _ rfl _ _ 198 rfl (w.heap.size+1) 298 i0 (.agg #[.string ⟨#[]⟩,.string ⟨#[]⟩]) 2 32 underlying198 HI.out.1 HI.out.2.1 HI.out.2.2.1 HI.out.2.2.2 rfl aK _ _ _ rfl (hown.alloc _) ⟨wr.heap.size,0,none⟩ 1 1 [.string xk,.string xv] rfl rfl (World.news_of_block (cs:=#[.string xk,.string xv]) (t:=298) (fr:=(0,0)) (World.alloc_heap_new wr _)) jJ dh aB aP ?_;intro v' w3 hown1 hgrow1 _;obtain⟨g1,cap1,rfl⟩:=ownsRow_succ hown1;have hb3:aF w w3:=(hbr.alloc hbs _).grown hgrow1 aP (fun r e=>Au);have hX3:JR w3 w.heap.size k0 v0:=(hgrow1.block _ aP (fun e=>AY)).trans ((Below.heap_alloc wr _ _ aB).trans hX);have hz3:w.heap.size+1<=w3.heap.size:=aFv;clear hown);exact⟨⟨k+1,m+1,_,acc++[(xk,xv)],some ⟨g1,0,none⟩,cap1,⟨bg,rfl,rfl,aB,aB⟩,HK2,by rw[aCv];exact hown1,hX3,hb3,hz3⟩,dD⟩
  ·obtain rfl:k=n:=aB;have hfin:l.foldl (AL (k0,v0)) ([],false)=(acc,pl):=by
    have:=HK.out.1
    rwa [List.take_of_length_le gV]at this
   have hml:=HK.out.2;cases pl
   ·have hv:MB l (k0,v0)=acc++[(k0,v0)]:=by unfold MB;rw[hfin];rfl
    have hvl:(MB l (k0,v0)).length=m+1:=by rw[hv];simp[hml]
    have HV:=aA hv;have HVL:=aA hvl;clear hv hvl hfin hml HK;go_wp2_with (at_builtin;refine wpList_append_own _ rfl _ _ 198 rfl (w.heap.size+1) 298 i0 (.agg #[.string ⟨#[]⟩,.string ⟨#[]⟩]) 2 32 underlying198 HI.out.1 HI.out.2.1 HI.out.2.2.1 HI.out.2.2.2 rfl aK _ _ _ rfl (hown.alloc _) ⟨wr.heap.size,0,none⟩ 1 1 [.string k0,.string v0] rfl rfl (World.news_of_block (cs:=#[.string k0,.string v0]) (t:=298) (fr:=(0,0)) (World.alloc_heap_new wr _)) jJ dh aB aP ?_;intro v' w3 hown1 hgrow1 _;obtain⟨g1,cap1,rfl⟩:=ownsRow_succ hown1);go_ret;refine⟨some ⟨g1,0,none⟩,cap1,by rw[HVL.out];rfl,by rw[HVL.out,HV.out,aCv];exact aI.of_own hown1,fun a ha=>by have:=fE hown1 a.block DY;omega,(hbr.alloc hbs _).grown hgrow1 aP (fun r e=>Au)⟩
   ·have hv:MB l (k0,v0)=acc:=by unfold MB;rw[hfin];rfl
    have HV:=aA hv;have HML:=aA hml;clear hv hfin hml HK;go_wp2;go_ret;refine⟨A',c',by rw[HV.out,HML.out];rfl,by rw[HV.out,HML.out];exact aI.of_own hown,fun a ha=>xX,hbr⟩
theorem aJt(p:lg):∀ l,(RF p l).length<=l.length+1
 | []=>by simp[RF]
 | x :: l=>by
  unfold RF;split
  ·have:=List.length_filter_le (fun y:lg=>y.1.toList != p.1.toList) (x :: l);simp only[List.length_cons]at this ⊢;omega
  ·have:=aJt p l;simp only[List.length_cons];omega
theorem aOv(l:List lg)(p:lg):(MB l p).length<=l.length+1:=by rw[aJp];exact aJt p l
theorem nT.some2{out:List lg}{w w':World}{A:Option Addr}{c m:Nat}(hm:out.length=m)(hb:aF w w')(hR:aI w' 2 A m (eY out))(ha:∀ a,A=some a->w.heap.size<=a.block):nT (some out) w (.returned (.tuple #[.slice A m c,.bool true])) w':=by
 subst hm;exact⟨hb,A,c,rfl,hR,ha⟩
theorem aOw(s:aC)(w:World)(hs:s.size<=100000):Calls prog 243 #[.string s] w (nT (lN s) w):=by
 rw[aOp];cases hem:s.toList.isEmpty;rotate_left
 ·rw[if_pos rfl];have hq:s.toList=[]:=List.isEmpty_iff.1 hem;go_enter func243,ntmps243;go_wp2;go_ret2;exact nT.some2 rfl aJ (aI.nil_ _ _ _) (fun a ha=>jd)
 rw[if_neg aH];have hne:(s.toList == [])=false:=by
  cases h:s.toList with
  | nil=>rw[h]at hem;cases hem
  | cons a l=>rfl
 have hne2:¬ s.toList=[]:=by simpa using hne
 have cS:=fun W=>aFc s 38 W aB
 have hsz:=oU 38 s;have hnum:=qM 38 s;generalize splitB 38 s=ps at *;generalize hV:nT (F5 [] ps) w=V;have HV:=aA hV;have HS:=aA cS;have HZ:=aA hsz;clear hV cS hsz hem;go_enter func243,ntmps243;go_wp2_with (go_at_call 188;refine (HS.out _).mono ?_;rintro e w1 ⟨A,c,rfl,hown,hb1⟩;have HR:=aA (aI.of_own hown);clear hown);go_loopw [4,6] (fun vo vi wr=>∃(k m:Nat)(acc:List lg)(A':Option Addr)(c':Nat),(vi=.int .i64 k/\vo=.slice A' m c'/\k<=ps.length/\m<=k)/\Hid (F5 [] ps=F5 acc (ps.drop k)/\acc.length=m)/\Hid (aI wr 2 A' m (eY acc))/\(∀ a,A'=some a->w.heap.size<=a.block)/\aF w1 wr) (fun _ i _=>ps.length-(intOf i).toNat)
 case atStart=>exact⟨0,0,[],none,0,⟨rfl,rfl,Nat.zero_le _,Nat.le_refl _⟩,aA ⟨rfl,rfl⟩,aA (aI.nil_ _ _ _),fun a ha=>jd,Below.refl _ _⟩
 case round =>
  obtain⟨k,m,acc,A',c',⟨rfl,rfl,hk,hm⟩,HK,HA,hAb,hbr⟩:=hrel;by_cases hlt:k<ps.length
  ·obtain⟨x,hx⟩:∃ x,ps[k]? = some x:=⟨_,List.getElem?_eq_getElem hlt⟩;obtain⟨b,o,rfl,hcell⟩:=(HR.out.keep hbr).2 aB;have hc1:wr.cell? ⟨b,o+k,none⟩=some (.string x):=hcell k _ gB;have hk0:(0:Int)<=(k:Int):=aB;have hk1:(k:Int)<(ps.length:Int):=aB;have hd:ps.drop k=x :: ps.drop (k+1):=by
    exact IV
   have hxs:x.size<=s.size:=HZ.out x (List.mem_of_getElem? hx);have cC:=fun W=>aHy x 61 W aB
   have hr1:=HK.out.1;have hml:=HK.out.2;have l1:=EC x.data.toList [61];have l2:=ED x.data.toList [61];rw[<-Lib.size_eq]at l1 l2;rw[hd,F5]at hr1;unfold ru at hr1;unfold aCh at cC;generalize Lib.cut x.data.toList [61]=ct at *;obtain⟨ka,va,is⟩:=ct;dsimp only at hr1 cC l1 l2;have cN:=fun W=>aBx (toB ka) W (by rw[mg];omega)
   have cW:=fun W=>aBw (toB va) W (by rw[mg];omega)
   have HC:=aA cC;clear hcell hx hd HK cC l1 l2;cases is
   ·have HN0:Hid (F5 [] ps=none):=aA (by rw[hr1];rfl);clear hr1 cN cW;go_wp2_with (go_at_call 240;refine (HC.out _).mono ?_;rintro e w2 ⟨rfl,hb2⟩);rw[<-HV.out,HN0.out];exact nT.none_ aJ
   cases hn:bU (toB ka)
   ·have HN0:Hid (F5 [] ps=none):=aA (by rw[hr1,hn];rfl);rw[hn]at cN;have HN:=aA cN;clear hr1 cN cW hn;go_wp2_with (first | (go_at_call 240;refine (HC.out _).mono ?_;rintro e w2 ⟨rfl,hb2⟩) | (go_at_call 50;refine (HN.out _).mono ?_;rintro e w3 ⟨rfl,hb3⟩));rw[<-HV.out,HN0.out];exact nT.none_ aJ
   cases hw:bW (toB va)
   ·have HN0:Hid (F5 [] ps=none):=aA (by rw[hr1,hn,hw];rfl);rw[hn]at cN;rw[hw]at cW;have HN:=aA cN;have HW:=aA cW;clear hr1 cN cW hn hw;go_wp2_with (first | (go_at_call 240;refine (HC.out _).mono ?_;rintro e w2 ⟨rfl,hb2⟩) | (go_at_call 50;refine (HN.out _).mono ?_;rintro e w3 ⟨rfl,hb3⟩) | (go_at_call 105;refine (HW.out _).mono ?_;rintro e w4 ⟨rfl,hb4⟩));rw[<-HV.out,HN0.out];exact nT.none_ aJ
   ·have hr2:F5 [] ps=F5 (MB acc (toB ka,toB va)) (ps.drop (k+1)):=by rw[hr1,hn,hw];rfl
    have hln:=aOv acc (toB ka,toB va);rw[hml]at hln;have cP:=fun W h=>aOu A' m c' acc (toB ka) (toB va) W h aB
    rw[hn]at cN;rw[hw]at cW;have HN:=aA cN;have HW:=aA cW;have HP:=aA cP;have HK2:=aA hr2;clear hr1 cN cW hn hw cP hr2;generalize MB acc (toB ka,toB va)=acc2 at *;go_wp2_with (first | (go_at_call 240;refine (HC.out _).mono ?_;rintro e w2 ⟨rfl,hb2⟩) | (go_at_call 50;refine (HN.out _).mono ?_;rintro e w3 ⟨rfl,hb3⟩) | (go_at_call 105;refine (HW.out _).mono ?_;rintro e w4 ⟨rfl,hb4⟩) | (go_at_call 292;refine (HP.out _ (HA.out.keep aJ)).mono ?_;rintro e w5 ⟨A2,c2,rfl,hR2,hA2,hb5⟩));exact⟨⟨k+1,acc2.length,acc2,A2,c2,⟨bg,rfl,aB,aB⟩,aA ⟨HK2.out,rfl⟩,aA hR2,fun a ha=>by have:=hA2 a ha;have:=hb1.size;have:=hbr.size;have:=hb2.size;have:=hb3.size;have:=hb4.size;omega,aJ⟩,dD⟩
  ·obtain rfl:k=ps.length:=aB;have hfin:F5 [] ps=some acc:=by rw[HK.out.1,List.drop_eq_nil_of_le (Nat.le_refl _),F5]
   have HF:=aA hfin;have hml:=HK.out.2;clear hfin HK;go_wp2;rw[<-HV.out,HF.out];exact nT.some2 hml aJ HA.out hAb
theorem aOx{α:Type}{p:α->Bool}{l:List α}{k:Nat}{x:α}(h:(l.take k).all p=true)(hx:l[k]? = some x)(hp:p x=true):(l.take (k+1)).all p=true:=by
 rw[List.take_add_one,hx];simp[h,hp]
theorem aOy{α:Type}{p:α->Bool}{l:List α}{k:Nat}{x:α}(hx:l[k]? = some x)(hp:p x=false):l.all p=false:=by
 exact aHu
theorem aOz(c:aC)(P Q:Option Addr)(np cp nq cq:Nat)(xs:List aC)(qs:List (aC × aC))(w:World)
  (hP:aI w 1 P np (xs.map .string)) (hQ:aI w 2 Q nq (eY qs)) (htot:(W06 c xs qs).length<=1000000000) :
  Calls prog 258 #[.agg #[.string c,.slice P np cp,.slice Q nq cq]] w (Ret w (.bool (nO c xs qs))):=by
 have hnp:xs.length=np:=by have:=hP.1;simp at this;omega
 have hnq:qs.length=nq:=by have:=hQ.1;rw[Ox]at this;omega
 have hc0:c.size<=1000000000:=by have:=aAd c xs qs;omega
 have hxs:∀ x∈xs,x.size<=1000000000:=fun x hx=>by have:=aAe c xs qs x hx;omega
 have hqs:∀ q∈qs,q.1.size<=1000000000/\q.2.size<=1000000000:=fun q hq=>by have:=aAf c xs qs q hq;omega
 have c1:=fun W=>aBx c W aB
 have cX:=fun W h1 h2=>aHz c P Q np cp nq cq xs qs W h1 h2 htot
 have hv:nO c xs qs=((bU c&&decide (np<=32)&&decide (nq<=16)&&xs.all bW)&&(List.range nq).all (lL qs)&&decide ((W06 c xs qs).length<=4096)):=by rw[<-hnp,<-hnq];rfl
 obtain⟨V,hV⟩:∃ V,V=nO c xs qs:=⟨_,rfl⟩;rw[<-hV]at hv ⊢;have hXz:(toB (W06 c xs qs)).size=(W06 c xs qs).length:=rfl;have HP:=aA hP;have HQ:=aA hQ;have HXS:=aA hxs;have HQS:=aA hqs;have H1:=aA c1;have HX:=aA cX;have HNP:=aA hnp;have HNQ:=aA hnq;clear hP hQ htot hxs hqs c1 cX hnp hnq hV;generalize toB (W06 c xs qs)=T at *;cases h1:bU c
 ·obtain rfl:V=false:=by rw[hv,h1];simp
  rw[h1]at H1;exact aFw
 rw[h1]at H1;by_cases h2:np<=32;rotate_left
 ·obtain rfl:V=false:=by rw[hv,h1];simp[h2]
  have d1:decide ((32:Int)<(np:Int))=true:=decide_eq_true aB;exact aFw
 have d1:decide ((32:Int)<(np:Int))=false:=decide_eq_false aB;by_cases h3:nq<=16;rotate_left
 ·obtain rfl:V=false:=by rw[hv,h1];simp[h3]
  have d2:decide ((16:Int)<(nq:Int))=true:=decide_eq_true aB;exact aFw
 have d2:decide ((16:Int)<(nq:Int))=false:=decide_eq_false aB;have hv2:V=(xs.all bW&&(List.range nq).all (lL qs)&&decide (T.size<=4096)):=by rw[hv,h1,hXz];simp[h2,h3]
 have HV:=aA hv2;clear hv hv2 h1 hXz;go_enter func258,ntmps258;go_wp2_with (go_at_call 50;refine (H1.out _).mono ?_;rintro e w1 ⟨rfl,hb1⟩;have hX1:aBl w1 w.heap.size c P np cp Q nq cq:=Blk.keep (World.alloc_heap_new _ _) hb1;have x1:w1.cell? ⟨w.heap.size,1,none⟩=some (.slice P np cp):=Blk.cell hX1 1;have x2:w1.cell? ⟨w.heap.size,2,none⟩=some (.slice Q nq cq):=Blk.cell hX1 2);have hbw1:aF w w1:=aJ;clear x1 x2 hb1;go_loopw [3] (fun vi wr=>∃ k:Nat,vi=.int .i64 k/\k<=np/\Hid ((xs.take k).all bW=true)/\aBl wr w.heap.size c P np cp Q nq cq/\aF w wr) (fun i _=>np-(intOf i).toNat)
 case atStart=>exact⟨0,rfl,Nat.zero_le _,aA aH,hX1,hbw1⟩
 case round =>
  clear hX1 hbw1;obtain⟨k,rfl,hk,HK,hX,hbr⟩:=hrel;have x1:wr.cell? ⟨w.heap.size,1,none⟩=some (.slice P np cp):=Blk.cell hX 1;have x2:wr.cell? ⟨w.heap.size,2,none⟩=some (.slice Q nq cq):=Blk.cell hX 2;by_cases hlt:k<np
  ·obtain⟨x,hx⟩:∃ x,xs[k]? = some x:=⟨_,List.getElem?_eq_getElem (by have:=HNP.out;omega)⟩;obtain⟨b,o,rfl,hcell⟩:=(HP.out.keep hbr).2 aB;have hc1:wr.cell? ⟨b,o+k,none⟩=some (.string x):=hcell k _ gB;have hxs:=HXS.out x (List.mem_of_getElem? hx);have cW:=fun W=>aBw x W aB
   have hk0:(0:Int)<=(k:Int):=aB;have hk1:(k:Int)<(np:Int):=aB;cases hw:bW x
   ·obtain rfl:V=false:=by rw[HV.out,aOy hx hw];rfl
    rw[hw]at cW;have HW:=aA cW;clear cW hw hcell hx HK;go_wp2_with (go_at_call 105;refine (HW.out _).mono ?_;rintro e w2 ⟨rfl,hb2⟩);go_ret;exact⟨rfl,aJ⟩
   ·have HK2:Hid ((xs.take (k+1)).all bW=true):=aA (aOx HK.out hx hw);rw[hw]at cW;have HW:=aA cW;clear cW hw hcell hx HK;go_wp2_with (go_at_call 105;refine (HW.out _).mono ?_;rintro e w2 ⟨rfl,hb2⟩);exact⟨⟨k+1,bg,aB,HK2,Blk.keep hX aJ,aJ⟩,dD⟩
  ·obtain rfl:k=np:=aB;have hall:xs.all bW=true:=by
    have:=HK.out
    rwa [List.take_of_length_le (by have:=HNP.out;omega)]at this
   have hv3:V=((List.range nq).all (lL qs)&&decide (T.size<=4096)):=aEz;have HV2:=aA hv3;clear hall hv3 HK HV;go_wp2;clear x1 x2;obtain⟨wo,rfl⟩:∃ wo:World,wo=wr:=⟨_,rfl⟩;go_loopw [4] (fun vi wz=>∃ j:Nat,vi=.int .i64 j/\j<=nq/\Hid ((List.range j).all (lL qs)=true)/\aBl wz w.heap.size c P k cp Q nq cq/\aF w wz) (fun i _=>nq-(intOf i).toNat)
   case atStart=>exact⟨0,rfl,Nat.zero_le _,aA aH,hX,hbr⟩
   case round =>
    clear hX hbr;obtain⟨j,rfl,hj,HJ,hX,hbr⟩:=hrel;have x1:wr.cell? ⟨w.heap.size,1,none⟩=some (.slice P k cp):=Blk.cell hX 1;have x2:wr.cell? ⟨w.heap.size,2,none⟩=some (.slice Q nq cq):=Blk.cell hX 2;have x0:wr.cell? ⟨w.heap.size,0,none⟩=some (.string c):=Blk.cell hX 0;by_cases hlt2:j<nq
    ·have hQr:=HQ.out.keep hbr;obtain⟨pb,po,rfl,hcell⟩:=hQr.2 aB;clear hQr;have hql:j<qs.length:=by have:=HNQ.out;omega
     obtain⟨q,hq⟩:∃ q,qs[j]? = some q:=⟨_,List.getElem?_eq_getElem hql⟩;obtain⟨e1,e2⟩:=Du qs j q hq;have hc1:wr.cell? ⟨pb,po+j*2,none⟩=_:=hcell _ _ e1;have hc2:wr.cell? ⟨pb,po+j*2+1,none⟩=_:=hcell _ _ e2;have hsz:=HQS.out q (List.mem_of_getElem? hq);have cN:=fun W=>aBx q.1 W aB
     have cV:=fun W=>aBw q.2 W aB
     have hpk:lL qs j=(bU q.1&&bW q.2&&(j==0|| !(Op.bytesLess q.1.toList ((qs[j-1]?.getD (⟨#[]⟩,⟨#[]⟩)).1).toList||q.1.toList==((qs[j-1]?.getD (⟨#[]⟩,⟨#[]⟩)).1).toList))):=by simp[lL,hq]
     obtain⟨q1,q2⟩:=q;dsimp only at hc1 hc2 hsz cN cV hpk;have hj0:(0:Int)<=(j:Int):=aB;have hj1:(j:Int)<(nq:Int):=aB;have HC:=aA hcell;have HK:=aA hpk;clear hcell e1 e2 hq hpk hql;have hfalse:lL qs j=false->V=false:=by
      intro hf;have hall:(List.range nq).all (lL qs)=false:=by
       rw[List.all_eq_false];exact⟨j,by simpa using hlt2,by rw[hf];simp⟩
      rw[HV2.out,hall];rfl
     have htrue:lL qs j=true->(List.range (j+1)).all (lL qs)=true:=by
      intro ht;rw[List.range_succ,List.all_append,HJ.out];simp[ht]
     have HF:=aA hfalse;have HTr:=aA htrue;clear hfalse htrue;cases h1:bU q1
     ·have hv:=HF.out (by rw[HK.out,h1];simp);subst hv;rw[h1]at cN;have HN:=aA cN;clear cN cV h1;go_wp2_with fail;have k1:=cell_regrown hc1;have k2:=cell_regrown hc2;have k3:=cell_regrown x2;refine wp_region_quiet_below aG aG ?_;(repeat (any_goals (first | go_big_quiet_step ((first | exact jS HN.out _ _)) | quiet_step ((first | exact jS HN.out _ _)))));refine wpQuiet_nil ?_;intro _ hwq;obtain⟨⟨dq,osq⟩,hwq⟩:=hwq;subst hwq;have hb3:=below_regrown (wr) dq osq;generalize grow (redrawn (wr) dq) osq=w3 at *;go_wp2;go_ret;exact⟨rfl,aJ⟩
     cases h2:bW q2
     ·have hv:=HF.out (by rw[HK.out,h2];simp);subst hv;rw[h1]at cN;rw[h2]at cV;have HN:=aA cN;have HW:=aA cV;clear cN cV h1 h2;go_wp2_with fail;have k1:=cell_regrown hc1;have k2:=cell_regrown hc2;have k3:=cell_regrown x2;exact aJu
     rw[h1]at cN;rw[h2]at cV;have HN:=aA cN;have HW:=aA cV;clear cN cV;rcases j with _ | j
     ·have hok:=HTr.out (by rw[HK.out,h1,h2];simp);have HO:=aA hok;have hc1':wr.cell? ⟨pb,po,none⟩=some (.string q1):=by simpa using hc1
      have hc2':wr.cell? ⟨pb,po+1,none⟩=some (.string q2):=by simpa using hc2
      clear hok h1 h2 hc1 hc2;go_wp2_with fail;have k1:=cell_regrown hc1';have k2:=cell_regrown hc2';have k3:=cell_regrown x2;exact aJv
     ·obtain⟨q0,hq0⟩:∃ q,qs[j]? = some q:=⟨_,List.getElem?_eq_getElem (by have:=HNQ.out;omega)⟩;have hg:(qs[j+1-1]?.getD (⟨#[]⟩,⟨#[]⟩)).1=q0.1:=by rw[Nat.add_sub_cancel,hq0];rfl
      have hc4:wr.cell? ⟨pb,po+j*2,none⟩=_:=HC.out _ _ (Du qs j q0 hq0).1;have hsz0:=(HQS.out q0 (List.mem_of_getElem? hq0)).1;obtain⟨q0,v0⟩:=q0;dsimp only at hc4 hg hsz0;have hpk:=HK.out;rw[hg,h1,h2]at hpk;clear HK hg hq0 h1 h2;obtain⟨t,ht⟩:∃ t,(Op.bytesLess q1.toList q0.toList||q1.toList==q0.toList)=t:=⟨_,rfl⟩;rw[ht]at hpk;cases t
      ·have HO:=aA (HTr.out (by rw[hpk];simp));exact aJw
      ·have hv:=HF.out (by rw[hpk];simp);subst hv;exact aJw
    ·obtain rfl:j=nq:=aB;have hv:=HV2.out;rw[HJ.out,Bool.true_and]at hv;by_cases hl:T.size<=4096
     ·rw[decide_eq_true hl]at hv;subst hv;have d3:decide ((T.size:Int)<=4096)=true:=decide_eq_true aB;exact aJx
     ·rw[decide_eq_false hl]at hv;subst hv;have d3:decide ((T.size:Int)<=4096)=false:=decide_eq_false aB;exact aJx
def aCk(c:aC)(xs:List aC)(qs:List (aC × aC)):aC × Int:=if nO c xs qs then (toB (W06 c xs qs),0) else (⟨#[]⟩,1)
theorem aEc(w:World)(a b:Obj):((w.alloc a).alloc b).heap[w.heap.size]? = some a/\((w.alloc a).alloc b).heap[w.heap.size+1]? = some b:=by
 refine⟨(Below.heap_alloc _ _ _ aH).trans (World.alloc_heap_new w a),?_⟩;have:=World.alloc_heap_new (w.alloc a) b;rw[World.size_alloc]at this;exact this
theorem aPa(c:aC)(P Q:Option Addr)(np cp nq cq:Nat)(xs:List aC)(qs:List (aC × aC))(w:World)
  (hP:aI w 1 P np (xs.map .string)) (hQ:aI w 2 Q nq (eY qs)) (htot:(W06 c xs qs).length<=1000000000) :
  Calls prog 202 #[.agg #[.string c,.slice P np cp,.slice Q nq cq]] w (Ret w (.agg #[.string (aCk c xs qs).1,.int .i64 (aCk c xs qs).2])):=by
 have cF:=fun W h1 h2=>aOz c P Q np cp nq cq xs qs W h1 h2 htot
 have cX:=fun W h1 h2=>aHz c P Q np cp nq cq xs qs W h1 h2 htot
 have HP:=aA hP;have HQ:=aA hQ;have HX:=aA cX;clear hP hQ htot cX;unfold aCk;generalize toB (W06 c xs qs)=T at *;generalize nO c xs qs=b at *;have HF:=aA cF;clear cF;cases b
 ·go_enter func202,ntmps202;go_wp2_with (go_at_call 258;refine (HF.out _ (HP.out.keep aJ) (HQ.out.keep aJ)).mono ?_;rintro e w1 ⟨rfl,hb1⟩;have hA1:aBl w1 w.heap.size c P np cp Q nq cq:=(hb1.block w.heap.size aP).trans (aEc _ _ _).1;have hX1:Gi w1 (w.heap.size+1) ⟨#[]⟩ 0:=(hb1.block (w.heap.size+1) aH).trans (aEc _ _ _).2;have a0:w1.cell? ⟨w.heap.size,0,none⟩=some (.string c):=Blk.cell hA1 0;have a1:w1.cell? ⟨w.heap.size,1,none⟩=some (.slice P np cp):=Blk.cell hA1 1;have a2:w1.cell? ⟨w.heap.size,2,none⟩=some (.slice Q nq cq):=Blk.cell hA1 2;obtain⟨x0,x1,f0,f1⟩:=hX1.facts;have hz1:w.heap.size+1<w1.heap.size:=Blk.lt hX1);exact bodyPost_ret (v:=.agg #[.string ⟨#[]⟩,.int .i64 1]) (by simp[results,results202,go_sem,hz1,x0,x1,f0,f1]) rfl ⟨rfl,aJ⟩
 ·go_enter func202,ntmps202;go_wp2_with (first | (go_at_call 258;refine (HF.out _ (HP.out.keep aJ) (HQ.out.keep aJ)).mono ?_;rintro e w1 ⟨rfl,hb1⟩;have hA1:aBl w1 w.heap.size c P np cp Q nq cq:=(hb1.block w.heap.size aP).trans (aEc _ _ _).1;have hX1:Gi w1 (w.heap.size+1) ⟨#[]⟩ 0:=(hb1.block (w.heap.size+1) aH).trans (aEc _ _ _).2;have a0:w1.cell? ⟨w.heap.size,0,none⟩=some (.string c):=Blk.cell hA1 0;have a1:w1.cell? ⟨w.heap.size,1,none⟩=some (.slice P np cp):=Blk.cell hA1 1;have a2:w1.cell? ⟨w.heap.size,2,none⟩=some (.slice Q nq cq):=Blk.cell hA1 2;obtain⟨x0,x1,f0,f1⟩:=hX1.facts;have hz1:w.heap.size+1<w1.heap.size:=Blk.lt hX1) | (go_at_call 259;refine (HX.out _ (HP.out.keep aJ) (HQ.out.keep aJ)).mono ?_;rintro e w2 ⟨rfl,hb2⟩;have hX2:Gi w2 (w.heap.size+1) ⟨#[]⟩ 0:=Blk.keep hX1 hb2;obtain⟨y0,y1,g0,g1⟩:=hX2.facts;have hz2:w.heap.size+1<w2.heap.size:=Blk.lt hX2));exact bodyPost_ret (v:=.agg #[.string T,.int .i64 0]) (by simp[results,results202,go_sem,hz2,y0,y1,g0,g1]) rfl ⟨rfl,aJ⟩
end Go.Proofs.YtlkbkclnbppigaaGreatDoor
