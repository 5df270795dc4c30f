/- The specification's Narrow. -/
import Derived.Test.YtlkbkclnbppigaaGreatDoorWY3
import Derived.Test.YtlkbkclnbppigaaGreatDoorISan25
set_option maxHeartbeats 16000000
namespace Go.Proofs.YtlkbkclnbppigaaGreatDoor
open Tryz
open Go.RowKit Go.Sort
set_option linter.unusedVariables false
set_option linter.unusedSimpArgs false
set_option maxRecDepth 100000
section
variable {P:Program}
theorem aJg(w:World)(base:Nat)(t ty e:TypeId)(i:TypeInfo)(z:Value)(size bytes:Nat)(ht:P.underlying t=some (.slice e))(hi:P.info? e=some i)(hz:i.zero=some z)
  (hsize:i.size=size) (hby:i.bytes=bytes) (hzs:z.cells.size=size) (hsz:0<size)
  (g:Nat) (hown:w.ownsRow base e size (.slice (some ⟨g,0,none⟩) 0 0) 0 [])
  (a:Addr) (m c:Nat) (news:List Value) (hm:0<m) (hl:news.length=m*size) (hnews:∀ j u,news[j]? = some u->w.cell? (a.add j)=some u) (h1:∀ u∈news,u.oneCell'=true)
  (h63:0+m<=maxLen) (hbytes:(0+m)*bytes<=140737488355328) (hbase:base<=w.heap.size) :
  ∃ v' w',(Builtin.append_ #[t,t] ty #[.slice (some ⟨g,0,none⟩) 0 0,.slice (some a) m c]).run P w=.ok v' w'/\w'.ownsRow base e size v' (0+m) ([]++news)/\aF w w':=by
 obtain⟨v',w',hr,h2,h3,_⟩:=run_append_own (P:=P) w base t ty e i z size bytes ht hi hz hsize hby hzs hsz _ 0 [] hown a m c news hl hnews h1 h63 hbytes hbase;refine⟨v',w',hr,h2,?_⟩;subst hsize;have hr2:=run_append_grow (P:=P) w t ty e i z ht hi hz ⟨g,0,none⟩ 0 0 [] aH (fun j u hu=>by simp at hu) a m c news hl hnews aB (by simp only[maxLen]at h63;omega) (growslice_fits aB (by rw[hby];exact hbytes));rw[hr]at hr2;injection hr2 with e1 e2
 rw[e2];exact (Below.drew (Below.refl _ _)).alloc (Nat.le_refl _) _
theorem aFf{ops:Array Oper}{rest:List Oper}{o:Oper}{a:Act}{w:World}{Q:Exit->Act->World->Prop}(hgd:o.guard=none)(s x:Operand)(t:TypeId)
  (ho:o.op=.call { callee:=.builtin .append,args:=#[s,x],argTypes:=#[t,t] })
  (base:Nat) (e:TypeId) (i:TypeInfo) (z:Value) (size bytes:Nat) (ht:P.underlying t=some (.slice e)) (hi:P.info? e=some i) (hz:i.zero=some z)
  (hsize:i.size=size) (hby:i.bytes=bytes) (hzs:z.cells.size=size) (hsz:0<size)
  (g:Nat) (hs:a.eval s=.slice (some ⟨g,0,none⟩) 0 0) (hown:w.ownsRow base e size (.slice (some ⟨g,0,none⟩) 0 0) 0 [])
  (ad:Addr) (m c:Nat) (news:List Value) (hm:0<m) (hx:a.eval x=.slice (some ad) m c) (hl:news.length=m*size) (hnews:∀ j u,news[j]? = some u->w.cell? (ad.add j)=some u) (h1:∀ u∈news,u.oneCell'=true)
  (h63:0+m<=maxLen) (hbytes:(0+m)*bytes<=140737488355328) (hbase:base<=w.heap.size)
  (h:∀ v' w',w'.ownsRow base e size v' (0+m) ([]++news)->aF w w'->wpList P ops Q rest (a.put o.dst v') w'):wpList P ops Q (o :: rest) a w:=by
 obtain⟨v',w',hr,h2,h3⟩:=aJg (P:=P) w base t o.type e i z size bytes ht hi hz hsize hby hzs hsz g hown ad m c news hm hl hnews h1 h63 hbytes hbase;exact aFg
end
structure NrG(n0 n:Nat)(fs:List Value)(a b:World):Prop where
 low:Below n0 a b
 r:∀ v k l,k<=n->a.ownsRow n0 27 7 v k l->b.ownsRow n0 27 7 v k l
 r2:∀ v,a.ownsRow n0 27 7 v (n+1) fs->b.ownsRow n0 27 7 v (n+1) fs
theorem NrG.refl{n0 n:Nat}{fs:List Value}(a:World):NrG n0 n fs a a:=⟨Below.refl _ _,fun _ _ _ _ h=>h,fun _ h=>h⟩
theorem NrG.trans{n0 n:Nat}{fs:List Value}(a b c:World)(h:NrG n0 n fs a b)(k:NrG n0 n fs b c):NrG n0 n fs a c :=
 ⟨h.low.trans k.low,fun v j l hj x=>k.r v j l hj (h.r v j l hj x),fun v x=>k.r2 v (h.r2 v x)⟩
theorem NrG.of{n0 n:Nat}{fs:List Value}{a b:World}(h:aF a b)(h0:n0<=a.heap.size):NrG n0 n fs a b :=
 ⟨h.mono h0,fun _ _ _ _ x=>fZ x h,fun _ x=>fZ x h⟩
def aJh(n0:Nat):Value->World->Prop:=fun v W=>∃ g,v=.slice (some ⟨g,0,none⟩) 0 0/\W.ownsRow n0 27 7 v 0 []
structure NrS(w:World)(x:ah)(Y Z:Array Value)(n0:Nat)(W:World):Prop where
 t:fQ W w.heap.size x
 y:aQ W (w.heap.size+1) 27 Y
 z:aQ W (w.heap.size+2) 40 Z
 b:aF w W
 s:n0<=W.heap.size
theorem NrS.low{w W W':World}{x:ah}{Y Z:Array Value}{n0:Nat}(h:NrS w x Y Z n0 W)(hb:Below n0 W W')(h0:w.heap.size+2<n0):NrS w x Y Z n0 W' :=
 ⟨⟨(hb.block _ aB).trans h.t.box⟩,(hb.block _ aB).trans h.y,(hb.block _ h0).trans h.z,h.b.trans (hb.mono aB),Nat.le_trans h.s hb.size⟩
theorem NrS.keep{w W W':World}{x:ah}{Y Z:Array Value}{n0:Nat}(h:NrS w x Y Z n0 W)(hb:aF W W'):NrS w x Y Z n0 W' :=
 ⟨h.t.keep hb,h.y.keep hb,h.z.keep hb,aV h.b hb,Nat.le_trans h.s hb.size⟩
theorem aJi(x:ah)(c:aY)(m:ae)(w:World)(hR:bZ w x)(hRc:dA w c m)(hf:dE c)(htx:bF c=true->(bK c).size<=1000000)(h1:1<=x.t.conds.length)(hn:x.t.conds.length<=1000)(hK:Ks2 w) :
  Calls prog 18 #[x.val,ae.val c m] w (aBm (kW x.t c).1 (kW x.t c).2 (x.L++[⟨c,m⟩]) w):=by
 obtain⟨i0,hi0,hz0,hz1,hz2⟩:=info_parts DT;have HI:=aA (And.intro hi0 (And.intro hz0 (And.intro hz1 hz2)));clear hi0 hz0 hz1 hz2;obtain⟨b,o,hA,hrow⟩:=hR.conds.rows.2 aB;have hv:=fun (W:World) (hb:aF w W)=>aCb c m W (hRc.keep hb) hf.p hf.cl hf.co hf.n1 hf.n2 hf.n3
 have hnx:=fun (hcv:bF c=true) (W:World) (hb:aF w W)=>aEv x.t.sl hR.sl c m W (hRc.keep hb) ⟨hf,hcv,htx hcv⟩ (hK.keep hb)
 obtain⟨R,hRR⟩:∃ R,R=aBm (kW x.t c).1 (kW x.t c).2 (x.L++[⟨c,m⟩]) w:=⟨_,rfl⟩;rw[<-hRR];have hnar:kW x.t c=if bF c then (if 16<=x.t.conds.length then (iK,2) else (⟨x.t.cust,x.t.ser,x.t.id,x.t.conds++[c],je x.t.sl c⟩,0)) else (iK,1):=rfl
 obtain⟨y,hy⟩:∃ y:CoM,y=⟨c,m⟩:=⟨_,rfl⟩;obtain⟨Y,hY⟩:∃ Y:Array Value,Y=y.cells.toArray:=⟨_,rfl⟩;have hYv:ae.val c m=.agg Y:=by rw[hY,hy];rfl
 have hYS:Y.size=7:=by rw[hY];rfl
 have HYLI:=aA (show Y=#[.int .i64 c.fr,.int .i64 c.till,.string c.pat,.slice m.A c.cl.length m.ca,.slice m.B c.co.length m.cb,.slice m.S c.si.length m.cs,.int .i64 c.us] by rw[hY,hy];rfl);rw[hYv]at hv hnx ⊢;have HON:=aA (show ((#[.int .i64 0,.int .i64 0,.string ⟨#[]⟩,.slice none 0 0,.int .u8 0,.int .u8 0,.int .u8 0,.int .u8 0,.int .u8 0,.int .u8 0,.int .u8 0,.int .u8 0,.int .u8 0,.int .u8 0,.int .u8 0,.int .u8 0,.int .u8 0,.int .u8 0,.int .u8 0,.int .u8 0,.int .i64 1]:Array Value):Array Value).all (·.oneCell')=true by rw[List.all_toArray];rfl);have HOL:=aA (show ((#[.int .i64 0,.int .i64 0,.string ⟨#[]⟩,.slice none 0 0,.int .u8 0,.int .u8 0,.int .u8 0,.int .u8 0,.int .u8 0,.int .u8 0,.int .u8 0,.int .u8 0,.int .u8 0,.int .u8 0,.int .u8 0,.int .u8 0,.int .u8 0,.int .u8 0,.int .u8 0,.int .u8 0,.int .i64 2]:Array Value):Array Value).all (·.oneCell')=true by rw[List.all_toArray];rfl);have HRR:=aA hRR;have HYS:=aA hYS;have HNA:=aA hnar;have HXA:=aA hA;have HV:=aA hv;have HNX:=aA hnx;have HYY:=aA hY;have HY1:=aA hy;generalize hln:x.t.conds.length=n at *;have HLN:=aA hln;clear hRR hYS hnar hv hnx hYv hY hy hln;unfold ah.val;go_enter func18,ntmps18;go_upto_region 1 with fail
 generalize hw0:World.alloc _ _=w0;have hS0:NrS w x Y aBg (w.heap.size+3) w0:=by
  rw[<-hw0];exact⟨⟨(iL w _ _ _).1⟩,(iL w _ _ _).2.1,(iL w _ _ _).2.2,aJ,aH⟩
 have hb0:=hS0.b;have hldc:=iO hS0.y HYS.out;have HS0:=aA hS0;clear hw0 hS0;cases hcv:bF c
 ·rw[hcv]at HV;have HE1:=aA (show kW x.t c=(iK,1) by rw[HNA.out,hcv];rfl);clear HNA HNX hcv;go_wp2_with (first | (refine bD rfl 27 _ rfl ⟨w.heap.size+1,0,none⟩ (.agg Y) rfl hldc ?_) | (go_at_call 32;refine (HV.out _ hb0).mono ?_;rintro e w1 ⟨rfl,hb1⟩;have HS1:=aA (HS0.out.keep hb1);obtain⟨y0,y1,y2,y3⟩:=(HS0.out.keep hb1).t.cells;rw[HLN.out,HXA.out]at y3) | (refine wpList_store_row rfl 40 _ _ rfl (w.heap.size+2) (#[.int .i64 0,.int .i64 0,.string ⟨#[]⟩,.slice none 0 0,.int .u8 0,.int .u8 0,.int .u8 0,.int .u8 0,.int .u8 0,.int .u8 0,.int .u8 0,.int .u8 0,.int .u8 0,.int .u8 0,.int .u8 0,.int .u8 0,.int .u8 0,.int .u8 0,.int .u8 0,.int .u8 0,.int .i64 1]:Array Value) rfl rfl _ aBg HS1.out.z MB rfl HON.out ?_));refine bodyPost_ret (v:=.agg (#[.int .i64 0,.int .i64 0,.string ⟨#[]⟩,.slice none 0 0,.int .u8 0,.int .u8 0,.int .u8 0,.int .u8 0,.int .u8 0,.int .u8 0,.int .u8 0,.int .u8 0,.int .u8 0,.int .u8 0,.int .u8 0,.int .u8 0,.int .u8 0,.int .u8 0,.int .u8 0,.int .u8 0,.int .i64 1]:Array Value)) ?_ rfl ?_
  ·exact aFh
  ·exact aFi
 rw[hcv]at HV;by_cases hn16:16<=n
 ·have HE1:=aA (show kW x.t c=(iK,2) by rw[HNA.out,hcv];simp[hn16]);have i1:(16:Int)<=(n:Int):=aB;clear HNA HNX hcv;go_wp2_with (first | (refine bD rfl 27 _ rfl ⟨w.heap.size+1,0,none⟩ (.agg Y) rfl hldc ?_) | (go_at_call 32;refine (HV.out _ hb0).mono ?_;rintro e w1 ⟨rfl,hb1⟩;have HS1:=aA (HS0.out.keep hb1);obtain⟨y0,y1,y2,y3⟩:=(HS0.out.keep hb1).t.cells;rw[HLN.out,HXA.out]at y3) | (refine wpList_store_row rfl 40 _ _ rfl (w.heap.size+2) (#[.int .i64 0,.int .i64 0,.string ⟨#[]⟩,.slice none 0 0,.int .u8 0,.int .u8 0,.int .u8 0,.int .u8 0,.int .u8 0,.int .u8 0,.int .u8 0,.int .u8 0,.int .u8 0,.int .u8 0,.int .u8 0,.int .u8 0,.int .u8 0,.int .u8 0,.int .u8 0,.int .u8 0,.int .i64 2]:Array Value) rfl rfl _ aBg HS1.out.z MB rfl HOL.out ?_));refine bodyPost_ret (v:=.agg (#[.int .i64 0,.int .i64 0,.string ⟨#[]⟩,.slice none 0 0,.int .u8 0,.int .u8 0,.int .u8 0,.int .u8 0,.int .u8 0,.int .u8 0,.int .u8 0,.int .u8 0,.int .u8 0,.int .u8 0,.int .u8 0,.int .u8 0,.int .u8 0,.int .u8 0,.int .u8 0,.int .u8 0,.int .i64 2]:Array Value)) ?_ rfl ?_
  ·exact aFh
  ·exact aFi
 have i1:¬ (16:Int)<=(n:Int):=aB;have hnr:kW x.t c=(⟨x.t.cust,x.t.ser,x.t.id,x.t.conds++[c],je x.t.sl c⟩,0):=by rw[HNA.out,hcv];simp[hn16]
 have HE1:=aA hnr;have HNX2:=aA (HNX.out hcv);clear HNA HNX hcv hnr hn16;go_upto_region 6 with (first | (refine bD rfl 27 _ rfl ⟨w.heap.size+1,0,none⟩ (.agg Y) rfl hldc ?_) | (go_at_call 32;refine (HV.out _ hb0).mono ?_;rintro e w1 ⟨rfl,hb1⟩;have HS1:=aA (HS0.out.keep hb1);obtain⟨y0,y1,y2,y3⟩:=(HS0.out.keep hb1).t.cells;rw[HLN.out,HXA.out]at y3))
 have hz3:w.heap.size+2<w1.heap.size:=by have:=HS1.out.s;omega
 have hSn:NrS w x Y aBg w1.heap.size w1:=⟨HS1.out.t,HS1.out.y,HS1.out.z,HS1.out.b,Nat.le_refl _⟩;obtain⟨xs,hxs⟩:∃ xs,xs=x.L.flatMap CoM.cells:=⟨_,rfl⟩;obtain⟨ys,hys⟩:∃ ys,ys=y.cells:=⟨_,rfl⟩;have hxl:xs.length=n*7:=by rw[hxs,X9,hR.conds.len,HLN.out]
 have hx1:∀ u∈xs,u.oneCell'=true:=by rw[hxs];exact NJ _
 have hyl:ys.length=1*7:=by rw[hys];rfl
 have hy1:∀ u∈ys,u.oneCell'=true:=by have:=NJ [y];rw[hys];simpa using this
 have hyY:Y=ys.toArray:=by rw[HYY.out,hys]
 have hxc:∀(W:World),aF w W->∀ j u,xs[j]? = some u->W.cell? ((⟨b,o,none⟩:Addr).add j)=some u:=fun W hb j u hu=>by
  exact aFj
 have HXC:=aA hxc;have HXL:=aA hxl;have HX1:=aA hx1;have HYL:=aA hyl;have HY2:=aA hy1;have HXS:=aA hxs;have HYS2:=aA hys;have HYE:=aA hyY;have HSN:=aA hSn;have hSok:=qC 45 [x.t.sl,nb (bK c)];have hDSO:dm (je x.t.sl c):=hSok;obtain⟨SN,hSN⟩:∃ SN,SN=je x.t.sl c:=⟨_,rfl⟩;rw[<-hSN]at HNX2 HE1 hDSO;have HDSO:=aA hDSO;clear hxc hxl hx1 hyl hy1 hxs hys hyY hSn hSok hDSO hSN y0 y1 y2 y3 HS1 hldc;obtain⟨n0,hn0⟩:∃ n0,n0=w1.heap.size:=⟨_,rfl⟩;rw[<-hn0]at HSN hz3;have HN0:=aA hn0;have hwd:n0<=w1.drew.heap.size:=Nat.le_of_eq hn0;clear hn0;refine Ez (NrG n0 n (xs++ys)) NrG.refl NrG.trans 8 aG aG aG (DL [aJh n0,IsV (.pointer (some ⟨w.heap.size,3,none⟩)),IsV (.slice (some ⟨b,o,none⟩) n x.c),NT n0 n xs,IsV (.agg Y),YG n0 ys,NT n0 (n+1) (xs++ys),IsV (.pointer (some ⟨w.heap.size,3,none⟩))]) (DL.keepG _ _ (by simp only[y8];repeat' (first | apply And.intro | exact NS _ _ | exact (fun v _ _ ⟨g,e,h⟩ hg=>⟨g,e,hg.r v _ _ aB h⟩) | exact (fun v _ _ h hg=>hg.r v _ _ (Nat.le_refl _) h) | exact fun v _ _ h hg=>hg.r2 v h | exact trivial))) (NrS w x Y aBg n0) (HSN.out.keep (Below.drew (Below.refl _ _))) (fun _ _ h hb=>h.low hb.low hz3) ?_ ?_
 ·dsimp only[List.take_succ_cons,List.take_zero,uS];refine⟨fun vals W hS hd=>?_,fun vals W hS hd=>?_,fun vals W hS hd=>?_,fun vals W hS hd=>?_,fun vals W hS hd=>?_,fun vals W hS hd=>?_,fun vals W hS hd=>?_,fun vals W hS hd=>?_,trivial⟩
  ·(try simp only[bQ,DL,IsV,bV,Region.binds,and_true,true_and]at hd);simp only[aZ,kM,Act.put,ag,bV];(try simp only[hd]);clear hd;have hsW:=hS.s;go_wp2;exact⟨rfl,⟨_,rfl,World.ownsRow_lit (base:=n0) (e:=27) (size:=7) W #[] 0 hsW dh rfl⟩,rfl,NrG.of (fJ _ _) hsW⟩
  rotate_left 2
  ·(try simp only[bQ,DL,IsV,bV,Region.binds,and_true,true_and]at hd);obtain⟨⟨g0,e0,ho0⟩,e2⟩:=hd;rw[e0]at ho0;simp only[aZ,kM,Act.put,ag,bV];(try simp only[e0,e2]);have hsW:=hS.s;have hxc:=HXC.out W hS.b;have HHX:=aA hxc;have HO0:=aA ho0;clear hxc ho0 e0 e2;go_wp2_with (at_builtin;refine aFf rfl _ _ 28 rfl n0 27 i0 (.agg fU) 7 112 underlying28 HI.out.1 HI.out.2.1 HI.out.2.2.1 HI.out.2.2.2 rfl aK g0 rfl HO0.out ⟨b,o,none⟩ n x.c xs aB rfl HXL.out HHX.out HX1.out dh aB hsW ?_;intro v6 w6 hown6 hb6);rw[Nat.zero_add,List.nil_append]at hown6;exact⟨rfl,hown6,rfl,NrG.of hb6 hsW⟩
  ·(try simp only[bQ,DL,IsV,bV,Region.binds,and_true,true_and]at hd);simp only[aZ,kM,Act.put,ag,bV];(try simp only[hd]);clear hd;have hsW:=hS.s;exact aEw
  ·(try simp only[bQ,DL,IsV,bV,Region.binds,and_true,true_and]at hd);rw[HYLI.out]at hd;simp only[aZ,kM,Act.put,ag,bV];(try simp only[hd]);clear hd;have hsW:=hS.s;go_wp2;have hown:=World.ownsRow_lit (base:=n0) (e:=27) (size:=7) W #[.int .i64 c.fr,.int .i64 c.till,.string c.pat,.slice m.A c.cl.length m.ca,.slice m.B c.co.length m.cb,.slice m.S c.si.length m.cs,.int .i64 c.us] 1 hsW dh rfl;have hys:(#[.int .i64 c.fr,.int .i64 c.till,.string c.pat,.slice m.A c.cl.length m.ca,.slice m.B c.co.length m.cb,.slice m.S c.si.length m.cs,.int .i64 c.us]:Array Value).toList=ys:=by rw[<-HYLI.out,HYE.out]
   rw[hys]at hown;exact⟨rfl,⟨_,rfl,hown⟩,rfl,NrG.of (fJ _ _) hsW⟩
  ·(try simp only[bQ,DL,IsV,bV,Region.binds,and_true,true_and]at hd);obtain⟨ho2,⟨g4,e4,ho4⟩,_⟩:=hd;obtain⟨v2,hv2⟩:∃ v2,v2=vals 3:=⟨_,rfl⟩;rw[<-hv2]at ho2;rw[e4]at ho4;simp only[aZ,kM,Act.put,ag,bV];(try simp only[e4,<-hv2]);have hsW:=hS.s;have hr4:=aI.of_own ho4;obtain⟨gg,oo,eg,hcg⟩:=hr4.2 aB;injection eg with eg
   injection eg with eg1 eg2
   subst eg1;subst eg2;have hadd:∀ j,(⟨g4,0,none⟩:Addr).add j=⟨g4,0+j,none⟩:=fun j=>nH
   have HA4:=aA (fun j u (hu:ys[j]? = some u)=>(show W.cell? ((⟨g4,0,none⟩:Addr).add j)=some u by rw[hadd];exact hcg j u hu));have HO2:=aA ho2;clear hr4 hcg hadd ho4 ho2 e4 hv2;go_wp2_with (at_builtin;refine FB rfl _ _ 28 rfl n0 27 i0 (.agg fU) 7 112 underlying28 HI.out.1 HI.out.2.1 HI.out.2.2.1 HI.out.2.2.2 rfl aK v2 n xs rfl HO2.out ⟨g4,0,none⟩ 1 1 ys rfl HYL.out HA4.out HY2.out dh aB hsW ?_;intro v6 w6 hown6 hgrow6 hstay6);refine⟨rfl,hown6,rfl,⟨Below.grown (Below.refl _ _) hgrow6 hsW (fun r e=>fE HO2.out r e),fun v k l hk h=>hstay6 v k l h (.inl hk),fun v h=>hstay6 v _ _ h (.inr (List.prefix_refl _))⟩⟩
  all_goals
   (try simp only[bQ,DL,IsV,bV,Region.binds,and_true,true_and]at hd);simp only[aZ,kM,Act.put,ag,bV];(try simp only[hd]);clear hd;obtain⟨y0,y1,y2,y3⟩:=hS.t.cells;rw[HLN.out,HXA.out]at y3;go_wp2;exact⟨rfl,rfl,rfl,NrG.refl _⟩
 ·intro vals w9 hS9 hD9;have e5:w9.ownsRow n0 27 7 (vals 6) (n+1) (xs++ys):=hD9 6 aB;have e10:vals 7=.pointer (some ⟨w.heap.size,3,none⟩):=hD9 7 aB;obtain⟨g6,c6,e6⟩:=ownsRow_succ e5;rw[e6]at e5;simp only[aZ,kM,Act.put,ag,bV];simp only[e6,e10];clear hD9 e6 e10;obtain⟨y0,y1,y2,y3⟩:=hS9.t.cells;rw[HLN.out,HXA.out]at y3;have f3:=frozen_of_row w9 w.heap.size 3 _ _ hS9.t.box;have hr9:(w9.setCell ⟨w.heap.size,3,none⟩ (.slice (some ⟨g6,0,none⟩) (n+1) c6)).heap[w.heap.size]? = some (.cells (x.cells.set 3 (.slice (some ⟨g6,0,none⟩) (n+1) c6)).toArray 32 (0,0)):=by
   rw[heap_setCell_same w9 w.heap.size 3 x.cells.toArray 32 _ hS9.t.box];simp
  have hcl20:(x.cells.set 3 (.slice (some ⟨g6,0,none⟩) (n+1) c6)).length=20:=by rw[List.length_set];exact hR.size
  have hsp:splice (x.cells.set 3 (.slice (some ⟨g6,0,none⟩) (n+1) c6)) 4 (b8 SN)=bn x.t.cust x.t.ser x.t.id (some ⟨g6,0,none⟩) (n+1) c6 SN :=
   zT x.t.cust x.t.ser x.t.id (some ⟨g6,0,none⟩) (n+1) c6 x.t.sl SN hR.sl.len HDSO.out.len
  go_upto_region 7 with fail
  generalize hw3:World.setCell _ _ _=w3;rw[hw3]at hr9;have hs3:∀ k,k≠w.heap.size->w3.heap[k]? = w9.heap[k]?:=fun k hk=>by rw[<-hw3];exact heap_setCell_other _ _ _ _ hk
  have hb3:aF w w3:=by rw[<-hw3];exact hS9.b.setCell (p:=⟨w.heap.size,3,none⟩) (Nat.le_refl _) _
  have hz3':w.heap.size+2<w3.heap.size:=by rw[<-hw3];simp[World.setCell];have:=hS9.s;omega
  have hy3:aQ w3 (w.heap.size+1) 27 Y:=(hs3 _ aB).trans hS9.y;have hm3:aQ w3 (w.heap.size+2) 40 aBg:=(hs3 _ aB).trans hS9.z;have hldc:=iO hy3 HYS.out;have hlds:=yI (P:=prog) w3 w.heap.size 4 32 30 (x.cells.set 3 (.slice (some ⟨g6,0,none⟩) (n+1) c6)) (b8 x.t.sl) (0,0) _ hr9 (fun j v hv=>by
   rw[List.getElem?_set_ne aB];show (bn _ _ _ _ _ _ _)[4+j]? = some v;unfold bn;rw[List.getElem?_append_right aH];simpa using hv) underlying30 rfl (by rw[dU,hR.sl.len];exact lh)
  have HE5:=aA (YJ e5 (hs3 g6 (by have:=(e5.lt g6 rfl).1;omega)));have HR9:=aA hr9;have HC20:=aA hcl20;have HSP:=aA hsp;have HB3:=aA hb3;have HM3:=aA hm3;have HLS:=aA hlds;have HBN:=aA (show (prog.info? 30).map (·.size)=some (b8 SN).length by rw[dU,HDSO.out.len];exact lh);have hfit:4+(b8 SN).length<=(x.cells.set 3 (.slice (some ⟨g6,0,none⟩) (n+1) c6)).length:=by rw[hcl20,dU,HDSO.out.len];omega
  have HFIT:=aA hfit;have hg6:=YH HE5.out;have hg6l:=(HE5.out.lt g6 rfl).2;clear hw3 hs3 hb3 hy3 hm3 hlds hr9 hcl20 hsp hS9 e5 hfit y0 y1 y2 y3 f3;have hldc2:=hldc;go_upto_region 8 with (first
   | (refine bD rfl 30 _ rfl ⟨w.heap.size,4,none⟩ (.agg (b8 x.t.sl).toArray) rfl HLS.out ?_)
   | (refine bD rfl 27 _ rfl ⟨w.heap.size+1,0,none⟩ (.agg Y) rfl hldc ?_)
   | (go_at_call 53;refine (HNX2.out _ HB3.out).mono ?_;rintro e w4 ⟨rfl,hb4⟩)
   | (refine wQ rfl 30 _ _ rfl w.heap.size 4 (b8 SN) rfl rfl _ (x.cells.set 3 (.slice (some ⟨g6,0,none⟩) (n+1) c6)) (aQ.keep HR9.out hb4) HBN.out HFIT.out (nC _) ?_))
  dsimp only[Act.put];rw[HSP.out];obtain⟨z,hz⟩:∃ z:ah,z=⟨⟨x.t.cust,x.t.ser,x.t.id,x.t.conds++[c],SN⟩,some ⟨g6,0,none⟩,c6,x.L++[y]⟩:=⟨_,rfl⟩;have hzc:bn x.t.cust x.t.ser x.t.id (some ⟨g6,0,none⟩) (n+1) c6 SN=z.cells:=by
   rw[hz];show _=bn _ _ _ _ (x.t.conds++[c]).length _ _;rw[List.length_append,HLN.out];rfl
  rw[hzc];generalize hw5:World.setRow _ _ _=w5;have ht5:aQ w5 w.heap.size 32 z.cells.toArray:=by rw[<-hw5];exact setRow_heap _ _ _ _ _ _ (aQ.keep HR9.out hb4)
  have ho5:∀ k,k≠w.heap.size->w5.heap[k]? = w4.heap[k]?:=fun k hk=>by rw[<-hw5];exact setRow_other _ _ _ _ hk
  have hr5:aQ w5 (w.heap.size+2) 40 aBg:=(ho5 _ aB).trans (HM3.out.keep hb4);have hbw5:aF w w5:=by rw[<-hw5];exact below_setRow (aV HB3.out hb4) (Nat.le_refl _) _
  have hown5:=YJ HE5.out ((ho5 g6 aB).trans (hb4.block g6 hg6l));have hzl:z.cells.length=20:=by rw[<-hzc];exact (DR _ _ _ _ _ _ _ HDSO.out.len)
  have hldn:=dY ht5 (by rw[List.size_toArray,hzl]);have HLD:=aA hldn;have HR5:=aA hr5;have HB5:=aA hbw5;have HOW5:=aA hown5;have HZ:=aA hz;have HZL:=aA hzl;have HBM:=aA (fun W=>aFd z.cells hzl W);have HMO:=aA (aBv z 0);have HMS:=aA (show (z.cells++[Value.int .i64 0]).toArray.size=21 by rw[List.size_toArray,List.length_append,hzl];rfl);clear hw5 ht5 ho5 hr5 hbw5 hown5 hldn hzl hz hzc hb4 hldc hldc2;generalize hXN:(z.cells++[Value.int .i64 0]).toArray=XN at *;have HXN:=aA hXN;clear hXN;go_wp2_with (first
   | (refine bD rfl 32 _ rfl ⟨w.heap.size,0,none⟩ (.agg z.cells.toArray) rfl HLD.out ?_)
   | (refine aCa rfl 40 _ rfl #[(0,.agg z.cells.toArray)] aG _ (HBM.out _) ?_)
   | (refine wpList_store_row rfl 40 _ _ rfl (w.heap.size+2) XN rfl rfl _ aBg HR5.out (by rw[HMS.out];exact MB) (by rw[HMS.out];rfl) HMO.out ?_))
  refine bodyPost_ret (v:=.agg XN) ?_ rfl ?_
  ·exact aFe
  ·rw[HRR.out,HE1.out];have hbw6:aF w (w5.setRow (w.heap.size+2) XN):=below_setRow HB5.out aB _;have hblk:(w5.setRow (w.heap.size+2) XN).heap[g6]? = w5.heap[g6]?:=setRow_other _ _ _ _ aB;have hown:=YJ HOW5.out hblk;refine⟨hbw6,z,by rw[HXN.out],?tr,by rw[HZ.out],fun _=>by rw[HZ.out,HY1.out],by rw[HZ.out];show wI _ _ (x.t.conds++[c]).length _;rw[show (x.t.conds++[c]).length=n+1 by rw[List.length_append,HLN.out];rfl];exact aJd hown,fun a ha=>?fr⟩
   case fr =>
    rw[HZ.out]at ha;injection ha with ha
    rw[<-ha];show w.heap.size<=g6;omega
   rw[HZ.out];have hlen:(x.t.conds++[c]).length=n+1:=by rw[List.length_append,HLN.out];rfl
   refine⟨?_,⟨?_,?_,?_⟩,HDSO.out,?_⟩
   ·show (x.L++[y]).map (·.c)=_;rw[List.map_append,hR.same,HY1.out];rfl
   ·show (x.L++[y]).length=(x.t.conds++[c]).length;rw[hlen,List.length_append,hR.conds.len,HLN.out];rfl
   ·show aI _ 7 _ (x.t.conds++[c]).length ((x.L++[y]).flatMap CoM.cells);rw[hlen,List.flatMap_append,<-HXS.out];have e : [y].flatMap CoM.cells=ys:=by rw[HYS2.out];simp
    rw[e];exact aI.of_own hown
   ·intro z hz;rcases List.mem_append.1 hz with hz | hz
    ·exact (hR.conds.each z hz).keep hbw6
    ·rw[List.mem_singleton.1 hz,HY1.out];exact hRc.keep hbw6
   ·show (x.t.conds++[c]).length<=c6;rw[hlen];exact YI HOW5.out
theorem aCr(n:Int)(h0:0<=n)(h1:n<=1099511627777):(ai n).size<=13:=by
 rw[Lib.size_eq,yO n h0];exact (Ja n.toNat aB).1
theorem aFk{a b:aC}{B:Nat}(ha:a.size<=B)(hb:b.size<=B):(orT a b).size<=B:=by
 unfold orT;split <;> assumption
theorem aDq(xs:List aC)(B n:Nat)(h:∀ x∈xs,x.size<=B)(hn:xs.length<=n):(dn xs).size<=n*(B+1)+1:=by
 unfold dn;refine aFk ?_ (by show 1<=_;omega);have h1:=Bc 44 B (xs.map (·.data.toList)) (by
  intro y hy;obtain⟨z,hz,rfl⟩:=List.mem_map.1 hy;have:=h z hz
  rwa [Lib.size_eq]at this)
 rw[List.length_map]at h1;have h2:xs.length*(B+1)<=n*(B+1):=Nat.mul_le_mul_right _ hn;unfold jr;rw[Lib.size_eq];show (Lib.join _ _).length<=_;omega
def FX(k:aj)(id:aC)(l:List aY):bz:=⟨k.party,k.ser,id,l,eU k ⟨k.party,k.ser,id,l,fH⟩⟩
theorem aJj{k:aj}{id:aC}{c:aY}(hk:lQ k=true)(hn:bU id=true)(hc:bF c=true):jy k id c=(FX k id [c],0):=by
 have ok:=hk;unfold lQ at ok;rw[decide_eq_true_eq]at ok;have hv:gX ⟨k.party,k.ser,id,[c],fH⟩=true:=(vH _).2 ⟨ok.1,ok.2.1,ok.2.2.1,ok.2.2.2.1,hn,aH,aH,fun x hx=>by
  simp only[List.mem_cons,List.not_mem_nil,or_false]at hx;rw[hx];exact hc⟩
 unfold jy;rw[hk,hv];rfl
theorem aJk{k:aj}{id:aC}{c:aY}(hn:bU id=false):jy k id c=(iK,1):=by
 have hv:gX ⟨k.party,k.ser,id,[c],fH⟩=false:=by
  cases h:gX ⟨k.party,k.ser,id,[c],fH⟩ with
  | false=>rfl
  | true=>have:=((vH _).1 h).id;rw[show (⟨k.party,k.ser,id,[c],fH⟩:bz).id=id from rfl,hn]at this;cases this
 unfold jy;rw[hv,Bool.and_false];rfl
theorem aJl{k:aj}{id:aC}{l:List aY}{c:aY}(h:l ≠ []):(FX k id (l++[c])).sl=je (FX k id l).sl c:=by
 cases l with
 | nil=>exact absurd rfl h
 | cons x r =>
  unfold FX eU yN;show (r++[c]).foldl je _=je (r.foldl je _) c;rw[List.foldl_append];rfl
theorem aJm{k:aj}{id:aC}{l:List aY}{c:aY}(h:l ≠ [])(hc:bF c=true)(hl:l.length<16):kW (FX k id l) c=(FX k id (l++[c]),0):=by
 have hs:=aJl (k:=k) (id:=id) (c:=c) h;unfold kW;rw[if_pos hc,if_neg (show ¬ 16<=(FX k id l).conds.length by show ¬ 16<=l.length;omega),<-hs];rfl
theorem aJn(c:UInt8)(l:List (List UInt8)):(Lib.join l [c]).length<=Lib.lens l+l.length:=by
 cases l with
 | nil=>simp[Lib.join_nil]
 | cons x r =>
  rw[Lib.join_cons,List.length_append,Lib.joinTail_length];simp only[Lib.lens,List.map_cons,List.sum_cons,List.length_cons,List.length_nil,Nat.zero_add,Nat.one_mul];omega
theorem aJo{c:aY}(hv:bF c=true)(hf:II c=true):(bK c).size<=6000:=by
 have ok:=(mP c).1 hv;unfold II aBr at hf;simp only[Bool.and_eq_true,decide_eq_true_eq,List.all_eq_true]at hf;obtain⟨⟨⟨⟨⟨h1,h2⟩,h3⟩,h4⟩,h5⟩,h6⟩:=hf;have f0:=aCr c.fr ok.fr0 (by have:=ok.fr1;omega);have f1:=aCr c.till ok.to0 ok.to1;have f6:=aCr c.us ok.us0 (by have:=ok.us1;omega);have f2:(orT c.pat ⟨#[126]⟩).size<=1000:=aFk h4 aK;have f3:=aDq c.cl 100 32 (fun x hx=>h5 x hx) ok.clLen;have f4:=aDq c.co 2 32 (fun x hx=>by
  have:=ok.co x hx;unfold iV at this;simp only[Bool.and_eq_true,decide_eq_true_eq]at this;omega) ok.coLen
 have f5:=aDq (c.si.map ai) 13 64 (by
  intro x hx;obtain⟨n,hn,rfl⟩:=List.mem_map.1 hx;have hs:=ok.si n hn;simp only[jb,Bool.and_eq_true,decide_eq_true_eq]at hs;exact aCr n aB aB) (by rw[List.length_map];exact ok.siLen)
 have hj:=aJn 32 ((kV c).map (·.data.toList));unfold bK;rw[Lib.size_eq];show (Lib.join _ _).length<=_;have hl:((kV c).map (·.data.toList)).length=7:=rfl;have he:Lib.lens ((kV c).map (·.data.toList))=(ai c.fr).size+(ai c.till).size+(orT c.pat ⟨#[126]⟩).size+(dn c.cl).size+(dn c.co).size+(dn (c.si.map ai)).size+(ai c.us).size:=by
  simp only[Lib.lens,kV,List.map_cons,List.map_nil,List.sum_cons,List.sum_nil,Lib.size_eq];omega
 rw[hl,he]at hj;omega
structure aJp(k:aj)(id:aC)(L:List CoM)(a:dN):Prop where
 k:lQ k=true
 id:id.size<=200
 n:L.length<=16
 co:∀ x∈L,kD x.c
 a:lD a
def csL(L:List CoM)(j:Nat):List aY:=(L.take j).map (·.c)
structure aBj(k:aj)(id:aC)(L:List CoM)(j:Nat)(W:World)(y:ah):Prop where
 r:bZ W y
 t:y.t=FX k id (csL L j)
 l:y.L=L.take j
theorem aBj.keep{k:aj}{id:aC}{L:List CoM}{j:Nat}{W W':World}{y:ah}(h:aBj k id L j W y)(hb:aF W W'):aBj k id L j W' y:=⟨h.r.keep hb,h.t,h.l⟩
theorem aCs{L:List CoM}{j:Nat}(h:j<=L.length):(csL L j).length=j:=by unfold csL;rw[List.length_map,List.length_take];omega
theorem aFl{L:List CoM}{j:Nat}{u:CoM}(h:L[j]? = some u):csL L (j+1)=csL L j++[u.c]:=by
 unfold csL;rw[List.take_add_one,h,List.map_append];rfl
theorem aJq{L:List CoM}{j:Nat}(h1:1<=j)(h:j<=L.length):csL L j ≠ []:=fun e=>by
 have:=aCs h
 rw[e]at this
 simp at this;omega
theorem aJr(L:List CoM):csL L 0=[]:=rfl
theorem aBj.co{k:aj}{id:aC}{L:List CoM}{a:dN}{j:Nat}{W:World}{y:ah}(h:aBj k id L j W y)(ho:aJp k id L a):∀ x∈y.L,kD x.c:=fun x hx=>ho.co x (by rw[h.l]at hx;exact List.mem_of_mem_take hx)
theorem aBj.len{k:aj}{id:aC}{L:List CoM}{j:Nat}{W:World}{y:ah}(h:aBj k id L j W y)(hj:j<=L.length):y.t.conds.length=j:=by rw[h.t];exact aCs hj
theorem aDr{k:aj}(h:lQ k=true):1<=k.party/\k.party<=1073741824/\1<=k.ser/\k.ser<=1073741824/\k.secret.size<=64:=by
 unfold lQ at h;have:=of_decide_eq_true h;omega
theorem aJs{k:aj}(h:lQ k=true):vM [k]:=⟨List.pairwise_singleton _ _,fun x hx=>by rw[List.mem_singleton.1 hx];exact h⟩
theorem aJt{W:World}{g:Nat}{k:aj}(h:aQ W g 23 k.arr):lV W (some ⟨g,0,none⟩) 1 [k]:=by
 refine⟨rfl,rfl,fun _=>⟨g,0,rfl,fun j u hu=>?_⟩⟩;have:=h.cell (k:=j) (v:=u) (by
  have e:([k].flatMap aj.cells)=k.arr.toList:=rfl;rw[e,Array.getElem?_toList]at hu;exact hu)
 rw[Nat.zero_add];exact this
section
variable {k:aj} {id:aC} {L:List CoM} {a:dN} {j:Nat} {W:World} {y:ah}
end
theorem aJu{W W':World}{y:ah}{g:Nat}(ho:∀ k,k≠g->W'.heap[k]? = W.heap[k]?)(h:bZ W y)(ha:∀ a,y.A=some a->a.block≠g)(hc:∀ x∈y.L,dA W' x.c x.m):bZ W' y :=
 ⟨h.same,⟨h.conds.len,qw ho h.conds.rows (fun _=>ha),hc⟩,h.sl,h.cap⟩
structure aBo(w:World)(K X:Array Value)(W:World):Prop where
 k:aQ W w.heap.size 23 K
 a:aQ W (w.heap.size+1) 59 X
 b:aF w W
theorem aBo.keep{w W W':World}{K X:Array Value}(h:aBo w K X W)(hb:aF W W'):aBo w K X W':=⟨h.k.keep hb,h.a.keep hb,aV h.b hb⟩
theorem aBo.low{w W W':World}{K X:Array Value}{g:Nat}(h:aBo w K X W)(hb:Below g W W')(hg:w.heap.size+2<=g):aBo w K X W' :=
 ⟨(hb.block _ aB).trans h.k,(hb.block _ aB).trans h.a,h.b.trans (hb.mono aB)⟩
structure aBp(w:World)(K X:Array Value)(gr gl:Nat)(y:ah)(W:World):Prop where
 s:aBo w K X W
 r:aQ W gr 23 K
 l:aQ W gl 32 y.cells.toArray
 y:bZ W y
theorem aBp.keep{w W W':World}{K X:Array Value}{gr gl:Nat}{y:ah}(h:aBp w K X gr gl y W)(hb:aF W W'):aBp w K X gr gl y W':=⟨h.s.keep hb,h.r.keep hb,h.l.keep hb,h.y.keep hb⟩
theorem aBp.put{w W:World}{K X:Array Value}{gr gl:Nat}{y z:ah}(h:aBp w K X gr gl y W)(h1:w.heap.size+2<=gr)(h2:gr<gl)(hz:bZ W z)(ha:∀ a,z.A=some a->a.block≠gl)(hc:∀ W',aF w W'->∀ x∈z.L,dA W' x.c x.m):aBp w K X gr gl z (W.setRow gl z.cells.toArray):=by
 have hb:Below gl W (W.setRow gl z.cells.toArray):=below_setRow (Below.refl _ _) (Nat.le_refl _) _;have hs:=h.s.low hb aB;exact⟨hs,(hb.block _ h2).trans h.r,setRow_heap _ _ _ _ _ _ h.l,aJu (fun k hk=>setRow_other _ _ _ _ hk) hz ha (hc _ hs.b)⟩
structure NaR(k:aj)(id:aC)(L:List CoM)(w:World)(X:Array Value)(gr gl gt j:Nat)(y z:ah)(W:World):Prop where
 s:aBp w k.arr X gr gl y W
 t:aQ W gt 32 z.cells.toArray
 z:aBj k id L (j+1) W z
 y:1<=j->aBj k id L j W y
theorem NaR.keep{k:aj}{id:aC}{L:List CoM}{w W W':World}{X:Array Value}{gr gl gt j:Nat}{y z:ah}(h:NaR k id L w X gr gl gt j y z W)(hb:aF W W'):NaR k id L w X gr gl gt j y z W':=⟨h.s.keep hb,h.t.keep hb,h.z.keep hb,fun h1=>(h.y h1).keep hb⟩
def MdP(t:bz)(er:Int)(L:List CoM):Value->World->Prop:=fun v W=>∃ y:ah,v=.agg (y.cells++[Value.int .i64 er]).toArray/\bZ W y/\y.t=t/\(er=0->y.L=L)/\wI W y.A y.t.conds.length 27
theorem aJv(t:bz)(er:Int)(L:List CoM):sV (MdP t er L):=fun _ _ _ ⟨y,e,h,r,r2,r3⟩ hb=>⟨y,e,h.keep hb,r,r2,r3.keep hb⟩
def NwM(n0:Nat):Value->World->Prop:=fun v W=>∃ g,v=.pointer (some ⟨g,0,none⟩)/\n0<=g/\aQ W g 40 aBg
theorem aFm(n0:Nat):sV (NwM n0):=fun _ _ _ ⟨g,e,h,hx⟩ hb=>⟨g,e,h,hx.keep hb⟩
structure CnS(w:World)(K:Array Value)(W:World):Prop where
 k:aQ W w.heap.size 23 K
 z:aQ W (w.heap.size+1) 40 aBg
 b:aF w W
theorem CnS.keep{w W W':World}{K:Array Value}(h:CnS w K W)(hb:aF W W'):CnS w K W':=⟨h.k.keep hb,h.z.keep hb,aV h.b hb⟩
theorem CnS.low{w W W':World}{K:Array Value}(h:CnS w K W)(hb:Below (w.heap.size+2) W W'):CnS w K W':=⟨(hb.block _ aB).trans h.k,(hb.block _ aB).trans h.z,h.b.trans (hb.mono aB)⟩
structure CnL(w:World)(K:Array Value)(gx:Nat)(y:ah)(er:Int)(W:World):Prop where
 s:CnS w K W
 x:aQ W gx 40 (y.cells++[Value.int .i64 er]).toArray
 y:bZ W y
theorem CnL.keep{w W W':World}{K:Array Value}{gx:Nat}{y:ah}{er:Int}(h:CnL w K gx y er W)(hb:aF W W'):CnL w K gx y er W':=⟨h.s.keep hb,h.x.keep hb,h.y.keep hb⟩
theorem aFn{W:World}{g:Nat}{y:ah}{er:Int}(hy:bZ W y)(h:aQ W g 40 (y.cells++[Value.int .i64 er]).toArray):(loadVar 32 ⟨g,0,none⟩).run prog W=.ok (.agg y.cells.toArray) W :=
 yI (P:=prog) W g 0 40 32 (y.cells++[Value.int .i64 er]) y.cells (0,0) _ h (fun j v hv=>by
  rw[Nat.zero_add,List.getElem?_append_left (List.getElem?_eq_some_iff.1 hv).1];exact hv) underlying32 rfl (by rw[show y.cells.length=20 from hy.size];exact lC)
theorem aJw{W:World}{g:Nat}{y:ah}{er:Int}(hy:bZ W y)(h:aQ W g 40 (y.cells++[Value.int .i64 er]).toArray):W.cell? ⟨g,20,none⟩=some (.int .i64 er) :=
 h.cell (k:=20) (by
  have h20:y.cells.length=20:=hy.size
  rw[List.getElem?_toArray,List.getElem?_append_right aB,h20];rfl)
theorem aDs{W W':World}{y:ah}{g:Nat}(ho:∀ k,k≠g->W'.heap[k]? = W.heap[k]?)(h:bZ W y)(ha:0<y.t.conds.length->∀ a,y.A=some a->a.block≠g)(hc:∀ x∈y.L,dA W' x.c x.m):bZ W' y :=
 ⟨h.same,⟨h.conds.len,qw ho h.conds.rows ha,hc⟩,h.sl,h.cap⟩
theorem aFo{W:World}{A:Option Addr}{n g:Nat}{t:TypeId}{ds:Array Value}(h:wI W A n t)(hne:0<n->∀ a,A=some a->a.block≠g):wI (W.setRow g ds) A n t:=fun h0=>by
 obtain⟨b,o,cs,fr,e,hB⟩:=h h0
 exact⟨b,o,cs,fr,e,(setRow_other W g _ ds (hne h0 _ e)).trans hB⟩
def ChR(nm:Bool)(TFzz:Nat->bz)(L:List CoM)(i:Nat)(y:ah)(er:Int):Prop:=(nm=true/\er=0/\y.t=TFzz i/\y.L=L.take i)\/(nm=false/\er=1/\y.t=iK)
theorem ChR.mem{nm:Bool}{TFzz:Nat->bz}{L:List CoM}{i:Nat}{y:ah}{er:Int}{W:World}(h:ChR nm TFzz L i y er)(hr:bZ W y):∀ x∈y.L,x∈L:=fun x hx=>by
 rcases h with ⟨_,_,_,hl⟩ | ⟨_,_,ht⟩
 ·rw[hl]at hx;exact List.mem_of_mem_take hx
 ·have:=hr.same
  rw[ht]at this
  rw[List.map_eq_nil_iff.1 (show y.L.map (·.c)=[] from this)]at hx
  cases hx
theorem aJx(k:aj)(id:aC)(A:Option Addr)(n c:Nat)(L:List CoM)(w:World)(hA:pW w A n L)(hk:lQ k=true)(hid:id.size<=200)(h1:1<=n)(hn:n<=16)(hco:∀ x∈L,kD x.c)(hK:Ks2 w) :
  Calls prog 33 #[k.val,.string id,.slice A n c] w (aCe (if bU id then FX k id (csL L n) else iK) (if bU id then 0 else 1) w):=by
 have hln:=hA.len;have hs:=aDr hk;obtain⟨x0,hx0⟩:∃ x0,L[0]? = some x0:=⟨_,List.getElem?_eq_getElem aB⟩;have hm0:∀ W,aF w W->Calls prog 13 #[.agg k.arr,.string id,.agg (dS x0.c x0.m)] W (aBm (if bU id then FX k id (csL L 1) else iK) (if bU id then 0 else 1) (L.take 1) W):=fun W hb=>by
  have hc:=hco x0 (List.mem_of_getElem? hx0);have h:=aJf k id x0.c x0.m W ((hA.each x0 (List.mem_of_getElem? hx0)).keep hb) hc.fits (fun _=>hc.tx) aB aB (hK.keep hb);rw[aj.val_arr,oJ]at h;have e1:csL L 1=[x0.c]:=by rw[show (1:Nat)=0+1 from rfl,aFl hx0,aJr];rfl
  have e2:L.take 1=[⟨x0.c,x0.m⟩]:=by rw[show (1:Nat)=0+1 from rfl,List.take_add_one,hx0];rfl
  rw[e1,e2];cases hn:bU id
  ·rw[aJk hn]at h;exact h
  ·rw[aJj hk hn hc.ok]at h;exact h
 have hnr:∀(i:Nat)(x:CoM)(y:ah)(W:World),L[i]? = some x->1<=i->aF w W->bZ W y->y.t=FX k id (csL L i)->y.L=L.take i->Calls prog 18 #[.agg y.cells.toArray,.agg (dS x.c x.m)] W (aBm (FX k id (csL L (i+1))) 0 (L.take (i+1)) W):=fun i x y W hx h1i hb hy ht hl=>by
  have hc:=hco x (List.mem_of_getElem? hx);have hil:i<L.length:=(List.getElem?_eq_some_iff.1 hx).1;have hlen:y.t.conds.length=i:=by rw[ht];exact aCs aB
  have h:=aJi y x.c x.m W hy ((hA.each x (List.mem_of_getElem? hx)).keep hb) hc.fits (fun _=>hc.tx) aB aB (hK.keep hb);rw[oJ,ht,aJm (aJq h1i aB) hc.ok (by rw[aCs aB];omega),<-aFl hx,hl,show L.take i++[(⟨x.c,x.m⟩:CoM)]=L.take (i+1) by rw[List.take_add_one,hx];rfl]at h;exact h
 obtain⟨nm,hnm⟩:∃ nm,nm=bU id:=⟨_,rfl⟩;rw[<-hnm]at hm0 ⊢;obtain⟨TFzz,hTF⟩:∃ TFzz:Nat->bz,TFzz=fun i=>FX k id (csL L i):=⟨_,rfl⟩
 have hTFe:∀ i,FX k id (csL L i)=TFzz i:=fun i=>by rw[hTF]
 simp only[hTFe]at hm0 hnr ⊢;obtain⟨T1,hT1⟩:∃ T1,T1=(if nm=true then TFzz 1 else iK):=⟨_,rfl⟩;obtain⟨E1,hE1⟩:∃ E1:Int,E1=(if nm=true then 0 else 1):=⟨_,rfl⟩;have hch1:∀ y:ah,y.t=T1->(E1=0->y.L=L.take 1)->ChR nm TFzz L 1 y E1:=fun y ht hl=>by
  rw[hT1]at ht;cases nm
  ·exact .inr ⟨rfl,hE1,ht⟩
  ·exact .inl ⟨rfl,hE1,ht,hl hE1⟩
 rw[<-hT1,<-hE1]at hm0;rw[aj.val_arr];obtain⟨KX,hKX⟩:∃ KX,KX=k.arr:=⟨_,rfl⟩;rw[<-hKX]at hm0 ⊢;have hldk:∀ W,aQ W w.heap.size 23 KX->(loadVar 23 ⟨w.heap.size,0,none⟩).run prog W=.ok (.agg KX) W:=by rw[hKX];exact fun W h=>iM h kJ
 obtain⟨b,o,hAe,hrow⟩:=(hA.at_ hx0).2;subst hAe;have hldc:∀(i:Nat)(x:CoM),L[i]? = some x->∀ W,aF w W->(loadVar 27 ⟨b,o+i*7,none⟩).run prog W=.ok (.agg (dS x.c x.m)) W:=fun i x hx W hb=>by
  obtain⟨_,b2,o2,e,hc⟩:=hA.at_ hx;injection e with e
  injection e with e1 e2
  subst e1;subst e2;have:=pX W b (o+i*7) x (fun j z hz=>aW hb (hc j z hz));rw[oJ]at this;exact this
 obtain⟨R,hRR⟩:∃ R,R=aCe (if nm=true then TFzz n else iK) (if nm=true then 0 else 1) w:=⟨_,rfl⟩;rw[<-hRR];have HM0:=aA hm0;have HNR:=aA hnr;have HLDK:=aA hldk;have HLDC:=aA hldc;have HRR:=aA hRR;have HLN:=aA hln;have HA:=aA hA;have HCH1:=aA hch1;have hld0:=hldc 0 x0 hx0;rw[Nat.zero_mul,Nat.add_zero]at hld0;generalize dS x0.c x0.m=Y0zz at *;have HLD0:=aA hld0;clear hm0 hnr hldk hldc hRR hln hA hld0 hx0 hrow hs hco hK hk hTF hTFe hKX hnm hch1 hT1 hE1;go_enter func33,ntmps33;go_upto_region 1 with fail
 generalize hw0:World.alloc _ _=w0;have hS0:CnS w KX w0:=by
  rw[<-hw0];exact⟨(gQ w _ _).1,(gQ w _ _).2,aJ⟩
 have hz0:w0.heap.size=w.heap.size+2:=vX;clear hw0;have i0:¬ (n:Int)=0:=aB;have i1:((n:Int)==0)=false:=aP;have i2:(0:Int)<(n:Int):=aB;have HS0:=aA hS0;have HZ0:=aA hz0;clear hS0 hz0;go_upto_region 3 with fail
 refine qm 7 aG aG aG (DL [IsV (.agg KX),IsV (.string id),IsV (.slice (some ⟨b,o,none⟩) n c),IsV (.pointer (some ⟨b,o,none⟩)),IsV (.agg Y0zz),MdP T1 E1 (L.take 1),NwM w0.heap.size]) (DL.keep _ aFp) (fun W=>CnS w KX W/\w0.heap.size<=W.heap.size) ⟨HS0.out.keep (Below.drew (Below.refl _ _)),Nat.le_refl _⟩ (fun _ _ h hb=>⟨h.1.keep hb,Nat.le_trans h.2 hb.size⟩) ?_ ?_
 ·dsimp only[List.take_succ_cons,List.take_zero,mf];refine⟨fun vals W hS hd=>?_,fun vals W hS hd=>?_,fun vals W hS hd=>?_,fun vals W hS hd=>?_,fun vals W hS hd=>?_,fun vals W hS hd=>?_,fun vals W hS hd=>?_,trivial⟩
  ·(try simp only[bQ,DL,IsV,bV,Region.binds,and_true,true_and]at hd);simp only[aZ,kM,Act.put,ag,bV];(try simp only[hd]);clear hd;have hld:=HLDK.out W hS.1.k;exact aFa
  rotate_left 3
  ·(try simp only[bQ,DL,IsV,bV,Region.binds,and_true,true_and]at hd);simp only[aZ,kM,Act.put,ag,bV];(try simp only[hd]);clear hd;have hld:=HLD0.out W hS.1.b;go_wp2_with (refine bD rfl 27 _ rfl ⟨b,o,none⟩ (.agg Y0zz) rfl hld ?_);exact⟨rfl,rfl,rfl,aJ⟩
  ·(try simp only[bQ,DL,IsV,bV,Region.binds,and_true,true_and]at hd);simp only[aZ,kM,Act.put,ag,bV];(try simp only[hd]);clear hd;have HMW:=aA (HM0.out W hS.1.b);go_wp2_with (go_at_call 13;refine HMW.out.mono ?_;rintro e w5 ⟨hb5,y,rfl,hy,ht,hl,ho,_⟩);exact⟨rfl,⟨y,rfl,hy,ht,hl,ho⟩,rfl,aJ⟩
  ·exact aFq
  all_goals
   exact aDt
 ·intro vals w9 hS9 hD9;obtain⟨y,e5,hy,ht,hl,ho⟩:MdP T1 E1 (L.take 1) (vals 5) w9:=hD9 5 aB;obtain⟨gx,e6,hgx,hbx⟩:NwM w0.heap.size (vals 6) w9:=hD9 6 aB;simp only[aZ,kM,Act.put,ag,bV];simp only[e5,e6];have hgz:w.heap.size+2<=gx:=by rw[<-HZ0.out];exact hgx
  have hch:ChR nm TFzz L 1 y E1:=HCH1.out y ht hl;generalize E1=er at *;have HCH:=aA hch;have HY:=aA hy;have HO:=aA ho;have HBX:=aA hbx;have HS9:=aA hS9;have hxs:=aCf hy er;have hxo:=aBv y er;obtain⟨X,hX⟩:∃ X,X=(y.cells++[Value.int .i64 er]).toArray:=⟨_,rfl⟩;rw[<-hX]at hxs hxo ⊢;have HX:=aA hX;have HXS:=aA hxs;have HXO:=aA hxo;clear e5 e6 hD9 hch hy ho hbx hS9 hxs hxo hX ht hl HM0 HLDK HLD0 hgx HCH1;go_upto_region 4 with (refine wpList_store_row rfl 40 _ _ rfl gx X rfl rfl _ aBg HBX.out (by rw[HXS.out];exact MB) (by rw[HXS.out];rfl) HXO.out ?_)
  (try dsimp only[Act.put]);generalize hw1:World.setRow _ _ _=w1;have hne:=HO.out.off HBX.out aK;have hL1:CnL w KX gx y er w1:=by
   have hb1:Below gx w9 w1:=aFr;have hs1:=HS9.out.1.low (hb1.mono hgz);refine⟨hs1,by rw[<-hw1,<-HX.out];exact setRow_heap _ _ _ _ _ _ HBX.out,aDs (g:=gx) (fun k hk=>by rw[<-hw1];exact setRow_other _ _ _ _ hk) HY.out hne (fun x hx=>(HA.out.each x (HCH.out.mem HY.out x hx)).keep hs1.b)⟩
  have hO1:wI w1 y.A y.t.conds.length 27:=by rw[<-hw1];exact aFo HO.out hne
  have HL1:=aA hL1;have HO1:=aA hO1;clear hw1 hL1 hO1 hne HO HBX HY HS9 HX HXS HXO HS0 HZ0;go_wp2;go_loopw [8] (fun iv wr=>∃(i:Nat)(y:ah)(er:Int),1<=i/\i<=n/\iv=.int .i64 i/\Hid (CnL w KX gx y er wr)/\Hid (wI wr y.A y.t.conds.length 27)/\Hid (ChR nm TFzz L i y er)) (fun iv _=>n-(intOf iv).toNat)
  case atStart=>exact⟨1,y,er,aB,h1,rfl,HL1,HO1,HCH⟩
  case round =>
   clear HL1 HO1 HCH;clear y er;obtain⟨i,y,er,hi1,hin,rfl,HS,HO,HC⟩:=hrel;have c20:=aJw HS.out.y HS.out.x;have hfin:(i=n\/nm=false)->R=aCe y.t er w:=fun h=>by
    rw[HRR.out];rcases HC.out with ⟨e1,e2,e3,_⟩ | ⟨e1,e2,e3⟩
    ·rcases h with h | h
     ·rw[e1,e2,e3,h];rfl
     ·rw[e1]at h;cases h
    ·rw[e1,e2,e3];rfl
   have HFIN:=aA hfin;clear hfin;have hne:=HO.out.off HS.out.s.z aK;have hfx:∀ X,bZ (wr.setRow (w.heap.size+1) X) y:=fun X=>aDs (g:=w.heap.size+1) (fun k hk=>setRow_other _ _ _ _ hk) HS.out.y hne (fun x hx=>(HA.out.each x (HC.out.mem HS.out.y x hx)).keep (below_setRow HS.out.s.b aB _))
   have HFX:=aA hfx;have hxs:=aCf HS.out.y er;have hxo:=aBv y er;have hxb:=HS.out.x;have hlt20:=aFn HS.out.y HS.out.x;obtain⟨X,hX⟩:∃ X,X=(y.cells++[Value.int .i64 er]).toArray:=⟨_,rfl⟩;rw[<-hX]at hxs hxo hxb;have hlm:=aBu hxb hxs;have HX:=aA hX;have HXS:=aA hxs;have HXO:=aA hxo;have HXB:=aA hxb;have HLM:=aA hlm;have HL20:=aA hlt20;clear hne hfx hxs hxo hxb hX hlm hlt20;by_cases hlt:i<n/\nm=true
   ·obtain⟨hlt,hnm⟩:=hlt;obtain⟨er0,ht,hl⟩:er=0/\y.t=TFzz i/\y.L=L.take i:=by
     rcases HC.out with ⟨_,e2,e3,e4⟩ | ⟨e1,_,_⟩
     ·exact⟨e2,e3,e4⟩
     ·rw[hnm]at e1;cases e1
    subst er0;obtain⟨x,hx⟩:∃ x,L[i]? = some x:=⟨_,List.getElem?_eq_getElem aBw⟩;have HNi:=aA (fun (W:World) (hb:aF w W) (hy:bZ W y)=>HNR.out i x y W hx hi1 hb hy ht hl);have hldi:=HLDC.out i x hx;generalize dS x.c x.m=Yi at *;have HLDI:=aA hldi;have hk0:(0:Int)<=(i:Int):=aB;have hk1:(i:Int)<(n:Int):=aB;clear hldi hx ht hl HC HNR HLDC HFX HFIN HLM;go_upto_region 7 with fail
    clear c20;obtain⟨YC,hYC⟩:∃ YC,YC=y.cells.toArray:=⟨_,rfl⟩;rw[<-hYC]at HNi HL20;have HYC:=aA hYC;clear hYC;refine qm 7 aG aG aG (DL [IsV (.pointer (some ⟨gx,0,none⟩)),IsV (.agg YC),IsV (.slice (some ⟨b,o,none⟩) n c),IsV (.int .i64 (i:Int)),IsV (.pointer (some ⟨b,o+i*7,none⟩)),IsV (.agg Yi),MdP (TFzz (i+1)) 0 (L.take (i+1))]) (DL.keep _ aFp) (CnL w KX gx y 0) (HS.out.keep (Below.drew (Below.refl _ _))) (fun _ _ h hb=>h.keep hb) ?_ ?_
    ·dsimp only[List.take_succ_cons,List.take_zero,mf];refine⟨fun vals W hS hd=>?_,fun vals W hS hd=>?_,fun vals W hS hd=>?_,fun vals W hS hd=>?_,fun vals W hS hd=>?_,fun vals W hS hd=>?_,fun vals W hS hd=>?_,trivial⟩;rotate_left
     ·(try simp only[bQ,DL,IsV,bV,Region.binds,and_true,true_and]at hd);simp only[aZ,kM,Act.put,ag,bV];(try simp only[hd]);clear hd;have hld:=aFn hS.y hS.x;rw[<-HYC.out]at hld;go_wp2_with (refine bD rfl 32 _ rfl ⟨gx,0,none⟩ (.agg YC) rfl hld ?_);exact⟨rfl,rfl,rfl,aJ⟩
     rotate_left 3
     ·(try simp only[bQ,DL,IsV,bV,Region.binds,and_true,true_and]at hd);simp only[aZ,kM,Act.put,ag,bV];(try simp only[hd]);clear hd;have hld:=HLDI.out W hS.s.b;exact aFb
     ·(try simp only[bQ,DL,IsV,bV,Region.binds,and_true,true_and]at hd);simp only[aZ,kM,Act.put,ag,bV];(try simp only[hd]);clear hd;have HNW:=aA (HNi.out W hS.s.b hS.y);go_wp2_with (go_at_call 18;refine HNW.out.mono ?_;rintro e w5 ⟨hb5,y5,rfl,hy5,ht5,hl5,ho5,_⟩);exact⟨rfl,⟨y5,rfl,hy5,ht5,fun _=>hl5 trivial,ho5⟩,rfl,aJ⟩
     all_goals
      exact aDt
    ·intro vals w9 hS9 hD9;obtain⟨y5,e6,hy5,ht5,hl5,ho5⟩:MdP (TFzz (i+1)) 0 (L.take (i+1)) (vals 6) w9:=hD9 6 aB;simp only[aZ,kM,Act.put,ag,bV];simp only[e6];have hch:ChR nm TFzz L (i+1) y5 0:=.inl ⟨hnm,rfl,ht5,hl5 rfl⟩;have hne5:=ho5.off hS9.x aK;have hx9:=hS9.x;rw[<-HX.out]at hx9;have HCH:=aA hch;have HY5:=aA hy5;have HO5:=aA ho5;have HS9:=aA hS9;have HX9:=aA hx9;have HNE5:=aA hne5;have hxs:=aCf hy5 0;have hxo:=aBv y5 0;obtain⟨X5,hX5⟩:∃ X5,X5=(y5.cells++[Value.int .i64 0]).toArray:=⟨_,rfl⟩;rw[<-hX5]at hxs hxo ⊢;have HX5:=aA hX5;have HXS5:=aA hxs;have HXO5:=aA hxo;clear e6 hD9 hch hy5 ho5 hS9 hx9 hne5 hxs hxo hX5 ht5 hl5 HNi HLDI HS HO HL20 HXB;go_wp2_with (refine wpList_store_row rfl 40 _ _ rfl gx X5 rfl rfl _ X HX9.out (by rw[HXS5.out];exact MB) (by rw[HXS5.out,HXS.out]) HXO5.out ?_);generalize hw1:World.setRow _ _ _=w1;have hL1:CnL w KX gx y5 0 w1:=by
      have hb1:Below gx w9 w1:=aFr;have hs1:=HS9.out.s.low (hb1.mono hgz);refine⟨hs1,by rw[<-hw1,<-HX5.out];exact setRow_heap _ _ _ _ _ _ HX9.out,aDs (g:=gx) (fun k hk=>by rw[<-hw1];exact setRow_other _ _ _ _ hk) HY5.out HNE5.out (fun x hx=>(HA.out.each x (HCH.out.mem HY5.out x hx)).keep hs1.b)⟩
     have hO1:wI w1 y5.A y5.t.conds.length 27:=by rw[<-hw1];exact aFo HO5.out HNE5.out
     refine⟨?g1,?g2⟩
     case g1 =>
      (repeat apply Exists.intro);refine⟨?rel,rfl⟩
      case rel=>exact⟨i+1,y5,0,aB,aB,bg,aA hL1,aA hO1,HCH⟩
     case g2=>simp[intOf];omega
   ·have hor:i=n\/nm=false:=by
     cases nm
     ·exact .inr rfl
     ·exact .inl (by have:¬ i<n:=fun h=>hlt ⟨h,rfl⟩;omega)
    have hRe:=HFIN.out hor;have HRE:=aA hRe;clear hRe;by_cases hl2:i<n
    ·have hnm:nm=false:=hor.resolve_left aB;have her:er=1:=by
      rcases HC.out with ⟨e1,_,_⟩ | ⟨_,e2,_⟩
      ·rw[hnm]at e1;cases e1
      ·exact e2
     have hk1:(i:Int)<(n:Int):=aB;rw[her]at c20;exact aFs
    ·have hk1:¬ (i:Int)<(n:Int):=aB;exact aFs
end Go.Proofs.YtlkbkclnbppigaaGreatDoor
