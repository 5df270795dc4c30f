/- chain.Narrow. -/
import Derived.Test.YtlkbkclnbppigaaGreatDoorIZ33
import Derived.Test.YtlkbkclnbppigaaGreatDoorIZ32
set_option maxHeartbeats 16000000
namespace Go.Proofs.YtlkbkclnbppigaaGreatDoor
open Tryz
open Go.RowKit Go.Sort
set_option linter.unusedVariables false
set_option linter.unusedSimpArgs false
set_option maxRecDepth 100000
structure NG(n0 n:Nat)(xs ys:List Value)(a b:World):Prop where
 low:Below n0 a b
 r1:∀ v,a.ownsRow n0 27 7 v n xs->b.ownsRow n0 27 7 v n xs
 r2:∀ v,a.ownsRow n0 27 7 v (n+1) (xs++ys)->b.ownsRow n0 27 7 v (n+1) (xs++ys)
 r3:∀ v,a.ownsRow n0 27 7 v 1 ys->b.ownsRow n0 27 7 v 1 ys
theorem NG.refl{n0 n:Nat}{xs ys:List Value}(a:World):NG n0 n xs ys a a:=⟨Below.refl _ _,fun _ h=>h,fun _ h=>h,fun _ h=>h⟩
theorem NG.trans{n0 n:Nat}{xs ys:List Value}(a b c:World)(h:NG n0 n xs ys a b)(k:NG n0 n xs ys b c):NG n0 n xs ys a c :=
 ⟨h.low.trans k.low,fun v x=>k.r1 v (h.r1 v x),fun v x=>k.r2 v (h.r2 v x),fun v x=>k.r3 v (h.r3 v x)⟩
theorem NG.of{n0 n:Nat}{xs ys:List Value}{a b:World}(h:aF a b)(h0:n0<=a.heap.size):NG n0 n xs ys a b :=
 ⟨h.mono h0,fun _ x=>fZ x h,fun _ x=>fZ x h,fun _ x=>fZ x h⟩
def NR(G:World->World->Prop)(f:Value->World->Prop):Prop:=∀ v w w',f v w->G w w'->f v w'
def y8(G:World->World->Prop):List (Value->World->Prop)->Prop
 | []=>True
 | f :: l=>NR G f/\y8 G l
theorem NS(G:World->World->Prop)(c:Value):NR G (IsV c):=fun _ _ _ h _=>h
theorem DL.keepG(G:World->World->Prop):∀(Ds:List (Value->World->Prop)),y8 G Ds->∀ i v w w',DL Ds i v w->G w w'->DL Ds i v w'
 | [],_,i,v,w,w',h,_=>by unfold DL at h;simp at h
 | f :: l,hk,0,v,w,w',h,hg=>hk.1 v w w' h hg
 | f :: l,hk,i+1,v,w,w',h,hg=>DL.keepG G l hk.2 i v w w' h hg
def NT(n0 n:Nat)(xs:List Value):Value->World->Prop:=fun v W=>W.ownsRow n0 27 7 v n xs
def YG(n0:Nat)(ys:List Value):Value->World->Prop:=fun v W=>∃ g,v=.slice (some ⟨g,0,none⟩) 1 1/\W.ownsRow n0 27 7 v 1 ys
structure NaS(w:World)(x:ah)(Y Z:Array Value)(n0:Nat)(W:World):Prop where
 t:fQ W w.heap.size x
 y:aQ W (w.heap.size+1) 27 Y
 z:aQ W (w.heap.size+2) 32 Z
 b:aF w W
 s:n0<=W.heap.size
theorem NaS.low{w W W':World}{x:ah}{Y Z:Array Value}{n0:Nat}(h:NaS w x Y Z n0 W)(hb:Below n0 W W')(h0:w.heap.size+2<n0):NaS w x Y Z n0 W' :=
 ⟨⟨(hb.block _ aB).trans h.t.box⟩,(hb.block _ aB).trans h.y,(hb.block _ h0).trans h.z,h.b.trans (hb.mono aB),Nat.le_trans h.s hb.size⟩
theorem NaS.keep{w W W':World}{x:ah}{Y Z:Array Value}{n0:Nat}(h:NaS w x Y Z n0 W)(hb:aF W W'):NaS w x Y Z n0 W' :=
 ⟨h.t.keep hb,h.y.keep hb,h.z.keep hb,aV h.b hb,Nat.le_trans h.s hb.size⟩
theorem YH{w:World}{base g cap n size:Nat}{e:TypeId}{xs:List Value}(h:w.ownsRow base e size (.slice (some ⟨g,0,none⟩) n cap) n xs):base<=g:=fE h g rfl
theorem YI{w:World}{base g cap n size:Nat}{e:TypeId}{xs:List Value}(h:w.ownsRow base e size (.slice (some ⟨g,0,none⟩) n cap) n xs):n<=cap:=by
 rcases h.2 with ⟨h1,_⟩ | ⟨g2,cap2,cur,h1,_,_,h4,_⟩
 ·cases h1
 ·injection h1 with _ _ h3
  omega
theorem YJ{w w':World}{base g cap n size:Nat}{e:TypeId}{xs:List Value}(h:w.ownsRow base e size (.slice (some ⟨g,0,none⟩) n cap) n xs)(hb:w'.heap[g]? = w.heap[g]?):w'.ownsRow base e size (.slice (some ⟨g,0,none⟩) n cap) n xs:=by
 refine⟨h.1,?_⟩;rcases h.2 with ⟨h1,_⟩ | ⟨g2,cap2,cur,h1,h2,h3,h4⟩
 ·cases h1
 ·injection h1 with e1 e2 e3
  injection e1 with e1
  injection e1 with e1
  subst e1;subst e3;exact .inr ⟨_,_,cur,rfl,h2,hb.trans h3,h4⟩
theorem YL(x:ah)(c:aY)(m:ae)(w:World)(hR:bZ w x)(hRc:dA w c m)(hf:dE c)(htx:bF c=true->(bK c).size<=1000000)(h1:1<=x.t.conds.length)(hn:x.t.conds.length<=1000)(hK:Ks w)(hE:Env w)(hTb:Tab w) :
  Calls prog 17 #[x.val,ae.val c m] w (tC (kW x.t c).1 (kW x.t c).2 (x.L++[⟨c,m⟩]) w):=by
 obtain⟨i0,hi0,hz0,hz1,hz2⟩:=info_parts DT;have HI:=aA (And.intro hi0 (And.intro hz0 (And.intro hz1 hz2)));clear hi0 hz0 hz1 hz2;obtain⟨b,o,hA,hrow⟩:=hR.conds.rows.2 aB;have hv:=fun (W:World) (hb:aF w W)=>qX c m W (hRc.keep hb) hf.p hf.cl hf.co hf.n1 hf.n2 hf.n3 (hE.keep hb)
 have hnx:=fun (hcv:bF c=true) (W:World) (hb:aF w W)=>ML x.t.sl hR.sl c m W (hRc.keep hb) ⟨hf,hcv,htx hcv⟩ (hE.keep hb) (hTb.keep hb) (hK.keep hb)
 obtain⟨R,hRR⟩:∃ R,R=tC (kW x.t c).1 (kW x.t c).2 (x.L++[⟨c,m⟩]) w:=⟨_,rfl⟩;rw[<-hRR];have hnar:kW x.t c=if bF c then (if 16<=x.t.conds.length then (iK,2) else (⟨x.t.cust,x.t.ser,x.t.id,x.t.conds++[c],je x.t.sl c⟩,0)) else (iK,1):=rfl
 obtain⟨y,hy⟩:∃ y:CoM,y=⟨c,m⟩:=⟨_,rfl⟩;obtain⟨Y,hY⟩:∃ Y:Array Value,Y=y.cells.toArray:=⟨_,rfl⟩;have hYv:ae.val c m=.agg Y:=by rw[hY,hy];rfl
 have hYS:Y.size=7:=by rw[hY];rfl
 have HYLI:=aA (show Y=#[.int .i64 c.fr,.int .i64 c.till,.string c.pat,.slice m.A c.cl.length m.ca,.slice m.B c.co.length m.cb,.slice m.S c.si.length m.cs,.int .i64 c.us] by rw[hY,hy];rfl);rw[hYv]at hv hnx ⊢;have hzon:(bf:Array Value).all (·.oneCell')=true:=mi 0 0 ⟨#[]⟩ none 0 0 fH;have HRR:=aA hRR;have HZON:=aA hzon;have HYS:=aA hYS;have HNA:=aA hnar;have HXA:=aA hA;have HV:=aA hv;have HNX:=aA hnx;have HYY:=aA hY;have HY1:=aA hy;generalize hln:x.t.conds.length=n at *;have HLN:=aA hln;clear hRR hzon hYS hnar hv hnx hYv hY hy hln;unfold ah.val;go_enter func17,ntmps17;go_upto_region 1 with fail
 generalize hw0:World.alloc _ _=w0;have hS0:NaS w x Y bf (w.heap.size+3) w0:=by
  rw[<-hw0];exact⟨⟨(iL w _ _ _).1⟩,(iL w _ _ _).2.1,(iL w _ _ _).2.2,aJ,aH⟩
 have hb0:=hS0.b;have hldc:=iO hS0.y HYS.out;have HS0:=aA hS0;clear hw0 hS0;cases hcv:bF c
 ·rw[hcv]at HV;have HE1:=aA (show kW x.t c=(iK,1) by rw[HNA.out,hcv];rfl);clear HNA HNX hcv;go_wp2_with (first | (refine bD rfl 27 _ rfl ⟨w.heap.size+1,0,none⟩ (.agg Y) rfl hldc ?_) | (go_at_call 49;refine (HV.out _ hb0).mono ?_;rintro e w1 ⟨rfl,hb1⟩;have HS1:=aA (HS0.out.keep hb1);obtain⟨y0,y1,y2,y3⟩:=(HS0.out.keep hb1).t.cells;rw[HLN.out,HXA.out]at y3) | (refine wpList_store_row rfl 32 _ _ rfl (w.heap.size+2) bf rfl rfl _ bf HS1.out.z lC rfl HZON.out ?_));refine bodyPost_ret (v:=.tuple #[.agg bf,.int .i64 1]) ?_ rfl ?_
  ·exact NU
  ·exact NV
 rw[hcv]at HV;by_cases hn16:16<=n
 ·have HE1:=aA (show kW x.t c=(iK,2) by rw[HNA.out,hcv];simp[hn16]);have i1:(16:Int)<=(n:Int):=aB;clear HNA HNX hcv;go_wp2_with (first | (refine bD rfl 27 _ rfl ⟨w.heap.size+1,0,none⟩ (.agg Y) rfl hldc ?_) | (go_at_call 49;refine (HV.out _ hb0).mono ?_;rintro e w1 ⟨rfl,hb1⟩;have HS1:=aA (HS0.out.keep hb1);obtain⟨y0,y1,y2,y3⟩:=(HS0.out.keep hb1).t.cells;rw[HLN.out,HXA.out]at y3) | (refine wpList_store_row rfl 32 _ _ rfl (w.heap.size+2) bf rfl rfl _ bf HS1.out.z lC rfl HZON.out ?_));refine bodyPost_ret (v:=.tuple #[.agg bf,.int .i64 2]) ?_ rfl ?_
  ·exact NU
  ·exact NV
 have i1:¬ (16:Int)<=(n:Int):=aB;have hnr:kW x.t c=(⟨x.t.cust,x.t.ser,x.t.id,x.t.conds++[c],je x.t.sl c⟩,0):=by rw[HNA.out,hcv];simp[hn16]
 have HE1:=aA hnr;have hnx2:=HNX.out hcv;have HNX2:=aA hnx2;clear HNA HNX hcv hnx2 hnr hn16;go_upto_region 5 with (first | (refine bD rfl 27 _ rfl ⟨w.heap.size+1,0,none⟩ (.agg Y) rfl hldc ?_) | (go_at_call 49;refine (HV.out _ hb0).mono ?_;rintro e w1 ⟨rfl,hb1⟩;have HS1:=aA (HS0.out.keep hb1);obtain⟨y0,y1,y2,y3⟩:=(HS0.out.keep hb1).t.cells;rw[HLN.out,HXA.out]at y3))
 have hz3:w.heap.size+2<w1.heap.size:=by have:=HS1.out.s;omega
 have hSn:NaS w x Y bf w1.heap.size w1:=⟨HS1.out.t,HS1.out.y,HS1.out.z,HS1.out.b,Nat.le_refl _⟩;obtain⟨xs,hxs⟩:∃ xs,xs=x.L.flatMap CoM.cells:=⟨_,rfl⟩;obtain⟨ys,hys⟩:∃ ys,ys=y.cells:=⟨_,rfl⟩;have hxl:xs.length=n*7:=by rw[hxs,X9,hR.conds.len,HLN.out]
 have hx1:∀ u∈xs,u.oneCell'=true:=by rw[hxs];exact NJ _
 have hyl:ys.length=1*7:=by rw[hys];rfl
 have hy1:∀ u∈ys,u.oneCell'=true:=by have:=NJ [y];rw[hys];simpa using this
 have hyY:Y=ys.toArray:=by rw[HYY.out,hys]
 have hcl:=fun (W:World) (hb:aF w W)=>YB b o n x.c xs W hxl (fun j u hu=>aW hb (hrow j u (by rw[hxs]at hu;exact hu))) hx1 aB
 have hslr:=fun (W:World) (h:fQ W w.heap.size x)=>(yI (P:=prog) W w.heap.size 4 32 30 x.cells (b8 x.t.sl) (0,0) _ h.box (fun j v hv=>by
  show (bn _ _ _ _ _ _ _)[4+j]? = some v;unfold bn;rw[List.getElem?_append_right aH];simpa using hv) underlying30 rfl (by rw[dU,hR.sl.len];exact lh))
 have HCL:=aA hcl;have HSLR:=aA hslr;have HXL:=aA hxl;have HX1:=aA hx1;have HYL:=aA hyl;have HY2:=aA hy1;have HXS:=aA hxs;have HYS2:=aA hys;have HYE:=aA hyY;have HSN:=aA hSn;have hSok:=qC 45 [x.t.sl,nb (bK c)];have hDSO:dm (je x.t.sl c):=hSok;obtain⟨SN,hSN⟩:∃ SN,SN=je x.t.sl c:=⟨_,rfl⟩;rw[<-hSN]at HNX2 HE1 hDSO;have HDSO:=aA hDSO;clear hcl hslr hxl hx1 hyl hy1 hxs hys hyY hSn hSok hDSO hSN y0 y1 y2 y3 HS1 hldc;obtain⟨n0,hn0⟩:∃ n0,n0=w1.heap.size:=⟨_,rfl⟩;rw[<-hn0]at HSN hz3;have HN0:=aA hn0;have hwd:n0<=w1.drew.heap.size:=Nat.le_of_eq hn0;clear hn0;refine Ez (NG n0 n xs ys) NG.refl NG.trans 11 aG aG aG (DL [IsV (.pointer (some ⟨w.heap.size,3,none⟩)),IsV (.slice (some ⟨b,o,none⟩) n x.c),NT n0 n xs,IsV (.agg Y),YG n0 ys,NT n0 (n+1) (xs++ys),IsV (.pointer (some ⟨w.heap.size,4,none⟩)),IsV (.agg (b8 x.t.sl).toArray),IsV (.agg Y),IsV (.agg (b8 SN).toArray),IsV (.pointer (some ⟨w.heap.size,3,none⟩))]) (DL.keepG _ _ (by simp only[y8];repeat' (first | apply And.intro | exact NS _ _ | exact fun v _ _ h hg=>hg.r1 v h | exact fun v _ _ h hg=>hg.r2 v h | exact (fun v _ _ ⟨g,e,h⟩ hg=>⟨g,e,hg.r3 v h⟩) | exact trivial))) (NaS w x Y bf n0) (HSN.out.keep (Below.drew (Below.refl _ _))) (fun _ _ h hb=>h.low hb.low hz3) ?_ ?_
 ·dsimp only[List.take_succ_cons,List.take_zero,uS];refine⟨fun vals W hS hd=>?_,fun vals W hS hd=>?_,fun vals W hS hd=>?_,fun vals W hS hd=>?_,fun vals W hS hd=>?_,fun vals W hS hd=>?_,fun vals W hS hd=>?_,fun vals W hS hd=>?_,fun vals W hS hd=>?_,fun vals W hS hd=>?_,fun vals W hS hd=>?_,trivial⟩;rotate_left 2
  ·(try simp only[bQ,DL,IsV,bV,Region.binds,and_true,true_and]at hd);simp only[aZ,bH,Act.put];(try simp only[hd]);clear hd;have hbW:=hS.b;have hsW:=hS.s;go_wp2_with (go_at_call 51;refine (HCL.out _ hbW).mono ?_;rintro e w5 ⟨v5,rfl,hown5,hb5⟩);exact⟨rfl,LJ hown5 hsW,rfl,NG.of hb5 hsW⟩
  ·(try simp only[bQ,DL,IsV,bV,Region.binds,and_true,true_and]at hd);simp only[aZ,bH,Act.put];(try simp only[hd]);clear hd;have hsW:=hS.s;exact NW
  ·(try simp only[bQ,DL,IsV,bV,Region.binds,and_true,true_and]at hd);rw[HYLI.out]at hd;simp only[aZ,bH,Act.put];(try simp only[hd]);clear hd;have hsW:=hS.s;go_wp2;have hown:=World.ownsRow_lit (base:=n0) (e:=27) (size:=7) W #[.int .i64 c.fr,.int .i64 c.till,.string c.pat,.slice m.A c.cl.length m.ca,.slice m.B c.co.length m.cb,.slice m.S c.si.length m.cs,.int .i64 c.us] 1 hsW dh rfl;have hys:(#[.int .i64 c.fr,.int .i64 c.till,.string c.pat,.slice m.A c.cl.length m.ca,.slice m.B c.co.length m.cb,.slice m.S c.si.length m.cs,.int .i64 c.us]:Array Value).toList=ys:=by rw[<-HYLI.out,HYE.out]
   rw[hys]at hown;exact⟨rfl,⟨_,rfl,hown⟩,rfl,NG.of (fJ _ _) hsW⟩
  ·(try simp only[bQ,DL,IsV,bV,Region.binds,and_true,true_and]at hd);obtain⟨ho2,⟨g4,e4,ho4⟩,_⟩:=hd;obtain⟨v2,hv2⟩:∃ v2,v2=vals 2:=⟨_,rfl⟩;rw[<-hv2]at ho2;rw[e4]at ho4;simp only[aZ,bH,Act.put];(try simp only[e4,<-hv2]);have hsW:=hS.s;have hr4:=aI.of_own ho4;obtain⟨gg,oo,eg,hcg⟩:=hr4.2 aB;injection eg with eg
   injection eg with eg1 eg2
   subst eg1;subst eg2;have hadd:∀ j,(⟨g4,0,none⟩:Addr).add j=⟨g4,0+j,none⟩:=fun j=>nH
   have HA4:=aA (fun j u (hu:ys[j]? = some u)=>(show W.cell? ((⟨g4,0,none⟩:Addr).add j)=some u by rw[hadd];exact hcg j u hu));have HO2:=aA ho2;clear hr4 hcg hadd ho4 ho2 e4 hv2;go_wp2_with (at_builtin;refine FB rfl _ _ 28 rfl n0 27 i0 (.agg fU) 7 112 underlying28 HI.out.1 HI.out.2.1 HI.out.2.2.1 HI.out.2.2.2 rfl aK v2 n xs rfl HO2.out ⟨g4,0,none⟩ 1 1 ys rfl HYL.out HA4.out HY2.out dh aB hsW ?_;intro v6 w6 hown6 hgrow6 hstay6);refine⟨rfl,hown6,rfl,⟨Below.grown (Below.refl _ _) hgrow6 hsW (fun r e=>fE HO2.out r e),fun v h=>hstay6 v n xs h (.inl (Nat.le_refl _)),fun v h=>hstay6 v _ _ h (.inr (List.prefix_refl _)),fun v h=>hstay6 v 1 ys h (.inl aB)⟩⟩
  ·exact NY
  ·(try simp only[bQ,DL,IsV,bV,Region.binds,and_true,true_and]at hd);simp only[aZ,bH,Act.put];(try simp only[hd]);clear hd;have hsW:=hS.s;have hld:=HSLR.out W hS.t;go_wp2_with (refine bD rfl 30 _ rfl ⟨w.heap.size,4,none⟩ (.agg (b8 x.t.sl).toArray) rfl hld ?_);exact⟨rfl,rfl,rfl,NG.refl _⟩
  ·(try simp only[bQ,DL,IsV,bV,Region.binds,and_true,true_and]at hd);simp only[aZ,bH,Act.put];(try simp only[hd]);clear hd;exact NW
  ·(try simp only[bQ,DL,IsV,bV,Region.binds,and_true,true_and]at hd);obtain⟨e7,e8,_⟩:=hd;simp only[aZ,bH,Act.put];(try simp only[e7,e8]);have hbW:=hS.b;have hsW:=hS.s;go_wp2_with (go_at_call 52;refine (HNX2.out _ hbW).mono ?_;rintro e w5 ⟨rfl,hb5⟩);exact⟨rfl,rfl,rfl,NG.of hb5 hsW⟩
  all_goals
   (try simp only[bQ,DL,IsV,bV,Region.binds,and_true,true_and]at hd);simp only[aZ,bH,Act.put];(try simp only[hd]);clear hd;obtain⟨y0,y1,y2,y3⟩:=hS.t.cells;rw[HLN.out,HXA.out]at y3;go_wp2;exact⟨rfl,rfl,rfl,NG.refl _⟩
 ·intro vals w9 hS9 hD9;have e5:w9.ownsRow n0 27 7 (vals 5) (n+1) (xs++ys):=hD9 5 aB;have e9:vals 9=.agg (b8 SN).toArray:=hD9 9 aB;have e10:vals 10=.pointer (some ⟨w.heap.size,3,none⟩):=hD9 10 aB;obtain⟨g6,c6,e6⟩:=ownsRow_succ e5;rw[e6]at e5;simp only[aZ,bH,Act.put];simp only[e6,e9,e10];clear hD9 e6 e9 e10;obtain⟨y0,y1,y2,y3⟩:=hS9.t.cells;rw[HLN.out,HXA.out]at y3;have f3:=frozen_of_row w9 w.heap.size 3 _ _ hS9.t.box;have hr9:(w9.setCell ⟨w.heap.size,3,none⟩ (.slice (some ⟨g6,0,none⟩) (n+1) c6)).heap[w.heap.size]? = some (.cells (x.cells.set 3 (.slice (some ⟨g6,0,none⟩) (n+1) c6)).toArray 32 (0,0)):=by
   rw[heap_setCell_same w9 w.heap.size 3 x.cells.toArray 32 _ hS9.t.box];simp
  have hcl20:(x.cells.set 3 (.slice (some ⟨g6,0,none⟩) (n+1) c6)).length=20:=by rw[List.length_set];exact hR.size
  have hsp:splice (x.cells.set 3 (.slice (some ⟨g6,0,none⟩) (n+1) c6)) 4 (b8 SN)=bn x.t.cust x.t.ser x.t.id (some ⟨g6,0,none⟩) (n+1) c6 SN :=
   zT x.t.cust x.t.ser x.t.id (some ⟨g6,0,none⟩) (n+1) c6 x.t.sl SN hR.sl.len HDSO.out.len
  have HR9:=aA hr9;have HC20:=aA hcl20;have HSP:=aA hsp;have HS9:=aA hS9;have HE5:=aA e5;have HBN:=aA (show (prog.info? 30).map (·.size)=some (b8 SN).length by rw[dU,HDSO.out.len];exact lh);have hfit:4+(b8 SN).length<=(x.cells.set 3 (.slice (some ⟨g6,0,none⟩) (n+1) c6)).length:=by rw[hcl20,dU,HDSO.out.len];omega
  have HFIT:=aA hfit;clear hr9 hcl20 hsp hS9 e5 hfit;go_upto_region 6 with (refine wQ rfl 30 _ _ rfl w.heap.size 4 (b8 SN) rfl rfl _ (x.cells.set 3 (.slice (some ⟨g6,0,none⟩) (n+1) c6)) HR9.out HBN.out HFIT.out (nC _) ?_)
  dsimp only[Act.put];rw[HSP.out];have hTS:(bn x.t.cust x.t.ser x.t.id (some ⟨g6,0,none⟩) (n+1) c6 SN).toArray.size=20:=DR _ _ _ _ _ _ _ HDSO.out.len;have hTO:=mi x.t.cust x.t.ser x.t.id (some ⟨g6,0,none⟩) (n+1) c6 SN;generalize hXN:(bn x.t.cust x.t.ser x.t.id (some ⟨g6,0,none⟩) (n+1) c6 SN).toArray=XN at *;generalize hw5:World.setRow _ _ _=w5;have hg6:=YH HE5.out;have hb5:Below w.heap.size w9 w5:=by rw[<-hw5];exact below_setRow ((Below.refl _ _).setCell (p:=⟨w.heap.size,3,none⟩) (Nat.le_refl _) _) (Nat.le_refl _) _
  have ht5:aQ w5 w.heap.size 32 XN:=by rw[<-hw5];exact setRow_heap _ _ _ _ _ _ HR9.out
  have ho5:∀ k,k≠w.heap.size->w5.heap[k]? = w9.heap[k]?:=fun k hk=>by rw[<-hw5];exact (setRow_other _ _ _ _ hk).trans (heap_setCell_other _ _ _ _ hk)
  have hr5:aQ w5 (w.heap.size+2) 32 bf:=(ho5 _ aB).trans HS9.out.z;have hbw5:aF w w5:=HS9.out.b.trans hb5;have hldn:=dY ht5 hTS;have HLD:=aA hldn;have HR5:=aA hr5;have HO5:=aA ho5;have HB5:=aA hbw5;have HTS:=aA hTS;have HTO:=aA hTO;have HXN:=aA hXN;clear hw5 hb5 ht5 ho5 hr5 hbw5 hldn hTS hTO hXN y0 y1 y2 y3 f3;go_wp2_with (first
   | (refine bD rfl 32 _ rfl ⟨w.heap.size,0,none⟩ (.agg XN) rfl HLD.out ?_)
   | (refine wpList_store_row rfl 32 _ _ rfl (w.heap.size+2) XN rfl rfl _ bf HR5.out (by rw[HTS.out];exact lC) (by rw[HTS.out];rfl) HTO.out ?_))
  refine bodyPost_ret (v:=.tuple #[.agg XN,.int .i64 0]) ?_ rfl ?_
  ·exact NI
  ·rw[HRR.out,HE1.out];have hbw6:aF w (w5.setRow (w.heap.size+2) XN):=below_setRow HB5.out aB _;have hblk:(w5.setRow (w.heap.size+2) XN).heap[g6]? = w9.heap[g6]?:=(setRow_other _ _ _ _ aB).trans (HO5.out _ aB);have hown:=YJ HE5.out hblk;refine⟨hbw6,⟨⟨x.t.cust,x.t.ser,x.t.id,x.t.conds++[c],SN⟩,some ⟨g6,0,none⟩,c6,x.L++[y]⟩,?_,?_,rfl,fun _=>⟨by rw[HY1.out],fun a h=>?_⟩⟩
   ·rw[<-HXN.out];show _=Ending.returned (.tuple #[.agg (bn x.t.cust x.t.ser x.t.id (some ⟨g6,0,none⟩) (x.t.conds++[c]).length c6 SN).toArray,.int .i64 0]);rw[List.length_append,HLN.out];rfl
   ·have hlen:(x.t.conds++[c]).length=n+1:=by rw[List.length_append,HLN.out];rfl
    refine⟨?_,⟨?_,?_,?_⟩,HDSO.out,?_⟩
    ·show (x.L++[y]).map (·.c)=_;rw[List.map_append,hR.same,HY1.out];rfl
    ·show (x.L++[y]).length=(x.t.conds++[c]).length;rw[hlen,List.length_append,hR.conds.len,HLN.out];rfl
    ·show aI _ 7 _ (x.t.conds++[c]).length ((x.L++[y]).flatMap CoM.cells);rw[hlen,List.flatMap_append,<-HXS.out];have e : [y].flatMap CoM.cells=ys:=by rw[HYS2.out];simp
     rw[e];exact aI.of_own hown
    ·intro z hz;rcases List.mem_append.1 hz with hz | hz
     ·exact (hR.conds.each z hz).keep hbw6
     ·rw[List.mem_singleton.1 hz,HY1.out];exact hRc.keep hbw6
    ·show (x.t.conds++[c]).length<=c6;rw[hlen];exact YI HE5.out
   ·injection h with h
    rw[<-h];show w.heap.size<=g6;have:=(HE5.out.lt g6 rfl).1;omega
theorem YM(x:ah)(c:aY)(m:ae)(w:World)(hR:bZ w x)(hRc:dA w c m)(hf:dE c)(htx:bF c=true->(bK c).size<=1000000)(h1:1<=x.t.conds.length)(hn:x.t.conds.length<=1000)(hK:Ks w)(hE:Env w)(hTb:Tab w) :
  Calls prog 17 #[x.val,ae.val c m] w (jQ (kW x.t c).1 (kW x.t c).2 w):=(YL x c m w hR hRc hf htx h1 hn hK hE hTb).mono fun _ _ h=>h.weak
def dS(c:aY)(m:ae):Array Value:=#[.int .i64 c.fr,.int .i64 c.till,.string c.pat,.slice m.A c.cl.length m.ca,.slice m.B c.co.length m.cb,.slice m.S c.si.length m.cs,.int .i64 c.us]
theorem oJ(c:aY)(m:ae):ae.val c m=.agg (dS c m):=rfl
theorem y9(c:aY)(m:ae):(dS c m).size=7:=rfl
theorem lu(c:aY)(m:ae):(dS c m).all (·.oneCell')=true:=by unfold dS;rw[List.all_toArray];rfl
theorem lq:(prog.info? 27).map (·.size)=some 7:=by kernel_rfl
theorem qw{W W':World}{g s n:Nat}{A:Option Addr}{vs:List Value}(ho:∀ k,k≠g->W'.heap[k]? = W.heap[k]?)(h:aI W s A n vs)(ha:0<n->∀ a,A=some a->a.block≠g):aI W' s A n vs:=by
 refine⟨h.1,fun hn=>?_⟩;obtain⟨b,o,rfl,hc⟩:=h.2 hn;refine⟨b,o,rfl,fun j u hu=>?_⟩;have:=hc j u hu;unfold World.cell? at this ⊢;rw[ho b (ha hn _ rfl)];exact this
structure fA(g:Nat)(c:aY)(m:ae):Prop where
 cl:0<c.cl.length->∀ a,m.A=some a->a.block≠g
 co:0<c.co.length->∀ a,m.B=some a->a.block≠g
 si:0<c.si.length->∀ a,m.S=some a->a.block≠g
theorem fA.of_fresh{g n:Nat}{c:aY}{m:ae}(h:sZ n c m)(hg:g<n):fA g c m:=⟨fun hn a ha=>by have:=h.cl hn a ha;omega,fun hn a ha=>by have:=h.co hn a ha;omega,fun hn a ha=>by have:=h.si hn a ha;omega⟩
theorem qx{W:World}{s n:Nat}{A:Option Addr}{vs:List Value}(hs:0<s)(h:aI W s A n vs)(hn:0<n)(a:Addr)(ha:A=some a):a.block<W.heap.size:=by
 obtain⟨b,o,e,hc⟩:=h.2 hn;have hl:0<vs.length:=by rw[h.1];exact Nat.mul_pos hn hs
 have:=bu (hc 0 _ (List.getElem?_eq_getElem hl));rw[e]at ha;injection ha with ha
 rw[<-ha];exact this
theorem fA.of_reads{W:World}{g:Nat}{c:aY}{m:ae}(h:dA W c m)(hg:W.heap.size<=g):fA g c m :=
 ⟨fun hn a ha=>by have:=qx aK h.cl hn a ha;omega,fun hn a ha=>by have:=qx aK h.co hn a ha;omega,fun hn a ha=>by have:=qx aK h.si hn a ha;omega⟩
theorem tJ{W W':World}{g:Nat}{c:aY}{m:ae}(ho:∀ k,k≠g->W'.heap[k]? = W.heap[k]?)(h:dA W c m)(hf:fA g c m):dA W' c m :=
 ⟨qw ho h.cl hf.cl,qw ho h.co hf.co,qw ho h.si hf.si⟩
def kE(t:bz)(i:Nat):aY:=(t.conds.tail.take (i-1)).foldl iH (t.conds.headD ed)
theorem YN{t:bz}{i:Nat}{c:aY}(h0:1<=i)(h:t.conds[i]? = some c):kE t (i+1)=iH (kE t i) c:=by
 obtain⟨j,rfl⟩:∃ j,i=j+1:=⟨i-1,aB⟩;have ht:t.conds.tail[j]? = some c:=by rw[List.getElem?_tail];exact h
 unfold kE;exact MO
theorem YO(t:bz):kE t t.conds.length=sH t.conds:=by
 unfold kE sH;rw[List.take_of_length_le aH]
theorem YP{t:bz}(h1:1<=t.conds.length)(hv:∀ c∈t.conds,bF c=true)(hf:∀ c∈t.conds,dE c)(i:Nat):bF (kE t i)=true/\dE (kE t i):=by
 unfold kE;obtain⟨a,r,he⟩:∃ a r,t.conds=a :: r:=by
  cases h:t.conds with
  | nil=>rw[h]at h1;simp at h1
  | cons a r=>exact⟨a,r,rfl⟩
 have hm:∀ c∈t.conds.tail.take (i-1),bF c=true/\dE c:=fun c hc=>by
  have:=List.mem_of_mem_tail (List.mem_of_mem_take hc);exact⟨hv c this,hf c this⟩
 have h0:bF (t.conds.headD ed)=true/\dE (t.conds.headD ed):=by
  rw[he];exact⟨hv a (by rw[he];simp),hf a (by rw[he];simp)⟩
 generalize t.conds.headD ed=s at *;generalize t.conds.tail.take (i-1)=l at *;clear he;induction l generalizing s with
 | nil=>exact h0
 | cons c l ih =>
  have hc:=hm c aH;exact ih (iH s c) (Xl ((mP _).1 h0.1) ((mP _).1 hc.1) h0.2 hc.2) (fun x hx=>hm x gB)
def zA(c:aY)(w:World)(e:Ending)(w':World):Prop:=aF w w'/\∃ m,e=.returned (.tuple #[ae.val c m,.int .i64 0])/\dA w' c m
structure MnS(w:World)(x:ah)(Z:Array Value)(W:World):Prop where
 t:fQ W w.heap.size x
 z:aQ W (w.heap.size+1) 27 Z
 b:aF w W
 s:w.heap.size+1<W.heap.size
theorem MnS.keep{w W W':World}{x:ah}{Z:Array Value}(h:MnS w x Z W)(hb:aF W W'):MnS w x Z W':=⟨h.t.keep hb,h.z.keep hb,aV h.b hb,Nat.lt_of_lt_of_le h.s hb.size⟩
theorem MnS.low{w W W':World}{x:ah}{Z:Array Value}(h:MnS w x Z W)(hb:Below (w.heap.size+2) W W'):MnS w x Z W' :=
 ⟨⟨(hb.block _ aB).trans h.t.box⟩,(hb.block _ aB).trans h.z,h.b.trans (hb.mono aB),Nat.lt_of_lt_of_le h.s hb.size⟩
theorem NZ(x:ah)(w:World)(hR:bZ w x)(hv:∀ y∈x.L,bF y.c=true)(hf:∀ y∈x.L,dE y.c)(h1:1<=x.t.conds.length)(hn:x.t.conds.length<=1000)(hE:Env w) :
  Calls prog 19 #[x.val] w (zA (sH x.t.conds) w):=by
 have hl:=hR.conds.len;have hcap:=hR.cap;have hall:∀ c∈x.t.conds,bF c=true/\dE c:=by
  intro c hc;rw[<-hR.same]at hc;obtain⟨y,hy,rfl⟩:=List.mem_map.1 hc;exact⟨hv y hy,hf y hy⟩
 have hsm:=fun i=>YP h1 (fun c hc=>(hall c hc).1) (fun c hc=>(hall c hc).2) i
 obtain⟨z,hz⟩:∃ z,x.L[0]? = some z:=⟨_,List.getElem?_eq_getElem aB⟩;have hhead:kE x.t 1=z.c:=by
  have:=yh hR hz;unfold kE;cases hcs:x.t.conds with
  | nil=>rw[hcs]at this;simp at this
  | cons a r=>rw[hcs]at this;simpa using this
 obtain⟨_,b,o,hA,hcell0⟩:=hR.conds.at_ hz;have hrd0:=fun (W:World) (hb:aF w W)=>((hR.conds.each z (List.mem_of_getElem? hz)).keep hb)
 have hap0:=fun (g:Nat) (hg:w.heap.size<=g)=>fA.of_reads (hR.conds.each z (List.mem_of_getElem? hz)) hg
 have hld0:=fun (W:World) (hb:aF w W)=>pX W b o z (fun j u hu=>aW hb (by have:=hcell0 j u hu;simpa using this))
 have hM:=fun (i:Nat) (y:CoM) (hy:x.L[i]? = some y) (h0:1<=i) (m:ae) (W:World) (hb:aF w W) (hr:dA W (kE x.t i) m)=>by
  have:=Xz (kE x.t i) y.c m y.m W hr ((hR.conds.each y (List.mem_of_getElem? hy)).keep hb) (hsm i).2 (hf y (List.mem_of_getElem? hy)) (hsm i).1 (hv y (List.mem_of_getElem? hy)) (hE.keep hb);rw[<-YN h0 (yh hR hy)]at this;exact this
 have hld:=fun (i:Nat) (y:CoM) (hy:x.L[i]? = some y) (W:World) (hb:aF w W)=>pX W b (o+i*7) y (fun j u hu=>by
  obtain⟨_,b2,o2,hA2,hcell2⟩:=hR.conds.at_ hy;rw[hA]at hA2;injection hA2 with e
  injection e with e1 e2
  subst e1;subst e2;exact aW hb (hcell2 j u hu))
 rw[<-YO];generalize hln:x.t.conds.length=n at *;simp only[oJ]at hld0 hM hld;rw[<-hhead]at hld0 hrd0 hap0;obtain⟨SM,hSM⟩:∃ SM:Nat->aY,SM=kE x.t:=⟨_,rfl⟩;rw[<-hSM]at hld0 hM hrd0 hap0 ⊢;have HM:=aA hM;have HLD:=aA hld;have HLD0:=aA hld0;have HRD0:=aA hrd0;have HAP0:=aA hap0;have HLN:=aA hln;have HXA:=aA hA;have HL:=aA hl;clear hM hld hld0 hrd0 hap0 hln hA hl hSM hhead hz hv hf hR hE hall hsm hcell0;obtain⟨R,hRR⟩:∃ R,R=zA (SM n) w:=⟨_,rfl⟩;rw[<-hRR];have HRR:=aA hRR;clear hRR;generalize hm0:z.m=m0 at *;clear hm0;unfold ah.val;go_enter func19,ntmps19;go_upto_region 1 with fail
 generalize hw0:World.alloc _ _=w0;have hS0:MnS w x fU w0:=by
  rw[<-hw0];exact⟨⟨(gQ w _ _).1⟩,(gQ w _ _).2,aJ,aH⟩
 have hz0:w0.heap.size=w.heap.size+2:=vX;clear hw0;have HS0:=aA hS0;have HZ0:=aA hz0;clear hz0;obtain⟨y0,y1,y2,y3⟩:=hS0.t.cells;rw[HLN.out,HXA.out]at y3;have hldz:=HLD0.out w0 hS0.b;have i1:(0:Int)<(n:Int):=aB;clear hS0;have HC0:=aA (y9 (SM 1) m0);have HC1:=aA (lu (SM 1) m0);generalize hY:dS (SM 1) m0=Y at *;have HYY:=aA hY;clear hY;go_upto_region 2 with (first
  | (refine bD rfl 27 _ rfl ⟨b,o,none⟩ (.agg Y) rfl hldz ?_)
  | (refine wpList_store_row rfl _ _ _ rfl w0.heap.size Y rfl rfl _ fU (heap_alloc_new w0 _) (by rw[HC0.out];exact lq) (by rw[HC0.out];rfl) HC1.out ?_))
 (try dsimp only[Act.put]);generalize hw1:World.setRow _ _ _=w1;have hg1:aQ w1 w0.heap.size 27 Y:=by rw[<-hw1];exact setRow_heap _ _ _ _ _ _ (heap_alloc_new w0 _)
 have hb1:aF w0 w1:=by rw[<-hw1];exact below_setRow ((Below.refl _ _).alloc (Nat.le_refl _) _) (Nat.le_refl _) _
 have hS1:=HS0.out.keep hb1;have hr1:=HRD0.out w1 hS1.b;have ha1:fA w0.heap.size (SM 1) m0/\fA (w.heap.size+1) (SM 1) m0:=⟨HAP0.out w0.heap.size (by have:=HZ0.out;omega),HAP0.out _ aB⟩;obtain⟨g,hg⟩:∃ g,g=w0.heap.size:=⟨_,rfl⟩;have HGG:=aA (show w.heap.size+2<=g by have:=HZ0.out;omega);rw[<-hg]at hg1 ha1 ⊢;clear hg hw1 hb1 hldz y0 y1 y2 y3 HC0 HC1 HS0 HZ0 HRD0 HAP0 HLD0;have HG1:=aA hg1;have HS1:=aA hS1;have HR1:=aA hr1;have HA1:=aA ha1;obtain⟨y0,y1,y2,y3⟩:=hS1.t.cells;rw[HLN.out,HXA.out]at y3;clear hg1 hS1 hr1 ha1;have i2:(1:Int)<=(n:Int):=aB;go_cut [15,16,17] (fun v19 v20 v21 wx=>∃ o' c',v19=.slice (some ⟨b,o',none⟩) (n-1) c'/\(1<n->o'=o+7)/\v20=.int .i64 ((n-1:Nat):Int)/\v21=.int .i64 0/\wx=w1)
 case first =>
  exact MW
 case rest =>
  obtain⟨o',c',rfl,ho',rfl,rfl,rfl⟩:=hcut;clear y0 y1 y2 y3 i1 i2;go_wp2;go_loopw [17] (fun iv wr=>∃(j:Nat)(m:ae),j<=n-1/\iv=.int .i64 j/\Hid (aQ wr g 27 (dS (SM (j+1)) m))/\Hid (MnS w x fU wr)/\Hid (dA wr (SM (j+1)) m)/\Hid (fA g (SM (j+1)) m/\fA (w.heap.size+1) (SM (j+1)) m)) (fun iv _=>(n-1)-(intOf iv).toNat)
  case atStart=>exact⟨0,m0,aB,rfl,aA (by rw[HYY.out];exact HG1.out),HS1,HR1,HA1⟩
  case round =>
   obtain⟨j,m,hj,rfl,HG,HS,HR,HA⟩:=hrel;clear HG1 HS1 HR1 HA1 HYY;have HC0:=aA (y9 (SM (j+1)) m);have HC1:=aA (lu (SM (j+1)) m);by_cases hlt:j<n-1
   ·obtain⟨y,hy⟩:∃ y,x.L[j+1]? = some y:=⟨_,List.getElem?_eq_getElem gV⟩;have hoo:=ho' aB;subst hoo;have hcM:=HM.out (j+1) y hy aB m;have hldi:=HLD.out (j+1) y hy wr HS.out.b;rw[show o+(j+1)*7=o+7+j*7 by omega]at hldi;generalize hYi:dS y.c y.m=Yi at *;have hYiS:Yi.size=7:=by rw[<-hYi];rfl
    have hYiO:Yi.all (·.oneCell')=true:=by rw[<-hYi];exact lu _ _
    generalize hYo:dS (SM (j+1)) m=Yo at *;have HCM:=aA hcM;have HLDI:=aA hldi;have HYO:=aA hYiO;have HYI:=aA (show (prog.info? 27).map (·.size)=some Yi.size by rw[hYiS];exact lq);have HYIS:=aA hYiS;have hk0:(0:Int)<=(j:Int):=aB;have hk1:(j:Int)<((n-1:Nat):Int):=aB;clear hcM hldi hYi hYiS hYiO hy hYo;go_upto_region 5 with (first
     | (refine bD rfl 27 _ rfl ⟨b,o+7+j*7,none⟩ (.agg Yi) rfl HLDI.out ?_)
     | (refine wpList_store_row rfl _ _ _ rfl wr.heap.size Yi rfl rfl _ fU (heap_alloc_new wr _) HYI.out (by rw[HYIS.out];rfl) HYO.out ?_))
    (try dsimp only[Act.put]);generalize hw3:World.setRow _ _ _=w3;have B3:aQ w3 wr.heap.size 27 Yi:=MZ;have hb3:aF wr w3:=Mc;have hG3:=HG.out.keep hb3;have hS3:=HS.out.keep hb3;have hR3:=HR.out.keep hb3;have hgl:=vV hG3;have hlo:=iO hG3 HC0.out;have hlc:=iO B3 HYIS.out;have hcm:=HCM.out w3 hS3.b hR3;have HCM3:=aA hcm;have HG3:=aA hG3;have HS3:=aA hS3;have HLO:=aA hlo;have HLC:=aA hlc;clear hw3 HG HS HR HA HLDI hcm hG3 hS3 hlo hlc B3 hb3 hR3 HCM;go_upto_region 6 with (first
     | (refine bD rfl 27 _ rfl ⟨g,0,none⟩ (.agg Yo) rfl HLO.out ?_)
     | (refine bD rfl 27 _ rfl ⟨wr.heap.size,0,none⟩ (.agg Yi) rfl HLC.out ?_)
     | (go_at_call 54;refine HCM3.out.mono ?_;rintro e w4 ⟨hb4,m4,rfl,hr4,hf4⟩;have HB4:=aA hb4;have HR4:=aA hr4;have HF4:=aA hf4;clear hb4 hr4 hf4;have HD0:=aA (y9 (SM (j+1+1)) m4);have HD1:=aA (lu (SM (j+1+1)) m4);generalize hYn:dS (SM (j+1+1)) m4=Yn at *;have HYN:=aA hYn;clear hYn)
     | (refine wpList_store_row rfl _ _ _ rfl w4.heap.size Yn rfl rfl _ fU (heap_alloc_new w4 _) (by rw[HD0.out];exact lq) (by rw[HD0.out];rfl) HD1.out ?_))
    (try dsimp only[Act.put]);generalize hw5:World.setRow _ _ _=w5;have B5:aQ w5 w4.heap.size 27 Yn:=Na;have hb5:aF w4 w5:=Nb;have hG5:=(HG3.out.keep HB4.out).keep hb5;have hS5:=(HS3.out.keep HB4.out).keep hb5;have hR5:=HR4.out.keep hb5;have hA5:=And.intro (fA.of_fresh (g:=g) HF4.out hgl) (fA.of_fresh (g:=w.heap.size+1) HF4.out (by have:=HS3.out.s;omega));have hlx:=iO B5 HD0.out;have HG5:=aA hG5;have HS5:=aA hS5;have HR5:=aA hR5;have HA5:=aA hA5;have HLX:=aA hlx;clear hw5 hG5 hS5 hR5 hA5 hlx B5 hb5 HG3 HS3 HB4 HR4 HF4 HLO HLC;go_wp2_with (first
     | (refine bD rfl 27 _ rfl ⟨w4.heap.size,0,none⟩ (.agg Yn) rfl HLX.out ?_)
     | (refine wpList_store_row rfl _ _ _ rfl g Yn rfl rfl _ Yo HG5.out (by rw[HD0.out];exact lq) (by rw[HD0.out,HC0.out]) HD1.out ?_))
    generalize hw6:World.setRow _ _ _=w6;have hg6:aQ w6 g 27 Yn:=by rw[<-hw6];exact setRow_heap _ _ _ _ _ _ HG5.out
    have hb6:Below (w.heap.size+2) w5 w6:=by rw[<-hw6];exact below_setRow (Below.refl _ _) HGG.out _
    have hS6:=HS5.out.low hb6;have hR6:=tJ (W':=w6) (g:=g) (fun k hk=>by rw[<-hw6];exact setRow_other _ _ _ _ hk) HR5.out HA5.out.1;rw[<-HYN.out]at hg6;exact⟨⟨j+1,m4,aB,bg,aA hg6,aA hS6,aA hR6,HA5⟩,dD⟩
   ·obtain rfl:j=n-1:=aB;have hn1:n-1+1=n:=aB;rw[hn1]at HG HR HC0 HC1 HA;have hlo:=iO HG.out HC0.out;generalize hYo:dS (SM n) m=Yo at *;have HYO:=aA hYo;have HLO:=aA hlo;clear hYo hlo;go_wp2_with (first
     | (refine bD rfl 27 _ rfl ⟨g,0,none⟩ (.agg Yo) rfl HLO.out ?_)
     | (refine wpList_store_row rfl _ _ _ rfl (w.heap.size+1) Yo rfl rfl _ fU HS.out.z (by rw[HC0.out];exact lq) (by rw[HC0.out];rfl) HC1.out ?_))
    refine bodyPost_ret (v:=.tuple #[.agg Yo,.int .i64 0]) ?_ rfl ?_
    ·exact qi rfl _ _ (w.heap.size+1) _ _ rfl rfl (iO (setRow_heap _ _ _ _ _ _ HS.out.z) HC0.out)
    ·rw[HRR.out];have hbw:aF w (wr.setRow (w.heap.size+1) Yo):=below_setRow HS.out.b aB _;exact⟨hbw,m,by rw[oJ,HYO.out],tJ (g:=w.heap.size+1) (fun k hk=>setRow_other _ _ _ _ hk) HR.out HA.out.2⟩
theorem YQ(x:ah)(w:World)(hR:bZ w x)(hv:∀ y∈x.L,bF y.c=true)(hf:∀ y∈x.L,dE y.c)(h1:1<=x.t.conds.length)(hn:x.t.conds.length<=1000)(hE:Env w) :
  Calls prog 24 #[x.val] w (Ret w (.int .i64 (sH x.t.conds).us)):=by
 have hM:=fun (W:World) (hb:aF w W)=>NZ x W (hR.keep hb) hv hf h1 hn (hE.keep hb)
 have hXS:x.cells.toArray.size=20:=sW;unfold zA at hM;generalize hc:sH x.t.conds=c at *;unfold ah.val at hM ⊢;generalize x.cells.toArray=X at *;have HM:=aA hM;have HXS:=aA hXS;clear hM hXS hR hv hf hE hc;simp only[oJ]at HM;go_enter func24,ntmps24;go_upto_region 1 with fail
 generalize hw0:World.alloc _ _=w0;have hx:aQ w0 w.heap.size 32 X:=vN;have hb0:aF w w0:=oH;clear hw0;have hld:=dY hx HXS.out;go_upto_region 2 with (first
  | (refine bD rfl 32 _ rfl ⟨w.heap.size,0,none⟩ (.agg X) rfl hld ?_)
  | (go_at_call 19;refine (HM.out _ hb0).mono ?_;rintro e w4 ⟨hb4,m4,rfl,-⟩;have HB4:=aA hb4;clear hb4;have HD0:=aA (y9 c m4);have HD1:=aA (lu c m4);have HC6:=aA (show (dS c m4)[6]? = some (.int .i64 c.us) from rfl);generalize dS c m4=Yn at *)
  | (refine wpList_store_row rfl _ _ _ rfl w4.heap.size Yn rfl rfl _ fU (heap_alloc_new w4 _) (by rw[HD0.out];exact lq) (by rw[HD0.out];rfl) HD1.out ?_))
 generalize hw5:World.setRow _ _ _=w5;have B5:aQ w5 w4.heap.size 27 Yn:=Na;have hb5:aF w4 w5:=Nb;have hbw:aF w w5:=aV (aV hb0 HB4.out) hb5;have c6:=B5.cell HC6.out;clear hw5 hb5 B5;go_wp2;go_ret;exact⟨rfl,hbw⟩
end Go.Proofs.YtlkbkclnbppigaaGreatDoor
