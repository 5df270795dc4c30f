/- The specification's Narrow. -/
import Derived.Test.YtlkbkclnbppigaaGreatDoorQY3
set_option maxHeartbeats 16000000
namespace Go.Proofs.YtlkbkclnbppigaaGreatDoor
open Tryz
open Go.RowKit Go.Sort
set_option linter.unusedVariables false
set_option linter.unusedSimpArgs false
set_option maxRecDepth 100000
section
variable {P:Program}
theorem aMc(w:World)(base:Nat)(t ty e:TypeId)(i:TypeInfo)(z:Value)(size bytes:Nat)(ht:P.underlying t=some (.slice e))(hi:P.info? e=some i)(hz:i.zero=some z)
  (hsize:i.size=size) (hby:i.bytes=bytes) (hzs:z.cells.size=size) (hsz:0<size)
  (g:Nat) (hown:w.ownsRow base e size (.slice (some ⟨g,0,none⟩) 0 0) 0 [])
  (a:Addr) (m c:Nat) (news:List Value) (hm:0<m) (hl:news.length=m*size) (hnews:∀ j u,news[j]? = some u->w.cell? (a.add j)=some u) (h1:∀ u∈news,u.oneCell'=true)
  (h63:0+m<=maxLen) (hbytes:(0+m)*bytes<=140737488355328) (hbase:base<=w.heap.size) :
  ∃ v' w',(Builtin.append_ #[t,t] ty #[.slice (some ⟨g,0,none⟩) 0 0,.slice (some a) m c]).run P w=.ok v' w'/\w'.ownsRow base e size v' (0+m) ([]++news)/\aF w w':=by
 obtain⟨v',w',hr,h2,h3,_⟩:=run_append_own (P:=P) w base t ty e i z size bytes ht hi hz hsize hby hzs hsz _ 0 [] hown a m c news hl hnews h1 h63 hbytes hbase;refine⟨v',w',hr,h2,?_⟩;subst hsize;have hr2:=run_append_grow (P:=P) w t ty e i z ht hi hz ⟨g,0,none⟩ 0 0 [] aH (fun j u hu=>by simp at hu) a m c news hl hnews aB (by simp only[maxLen]at h63;omega) (growslice_fits aB (by rw[hby];exact hbytes));rw[hr]at hr2;injection hr2 with e1 e2
 rw[e2];exact (Below.drew (Below.refl _ _)).alloc (Nat.le_refl _) _
theorem aMd{ops:Array Oper}{rest:List Oper}{o:Oper}{a:Act}{w:World}{Q:Exit->Act->World->Prop}(hgd:o.guard=none)(s x:Operand)(t:TypeId)
  (ho:o.op=.call { callee:=.builtin .append,args:=#[s,x],argTypes:=#[t,t] })
  (base:Nat) (e:TypeId) (i:TypeInfo) (z:Value) (size bytes:Nat) (ht:P.underlying t=some (.slice e)) (hi:P.info? e=some i) (hz:i.zero=some z)
  (hsize:i.size=size) (hby:i.bytes=bytes) (hzs:z.cells.size=size) (hsz:0<size)
  (g:Nat) (hs:a.eval s=.slice (some ⟨g,0,none⟩) 0 0) (hown:w.ownsRow base e size (.slice (some ⟨g,0,none⟩) 0 0) 0 [])
  (ad:Addr) (m c:Nat) (news:List Value) (hm:0<m) (hx:a.eval x=.slice (some ad) m c) (hl:news.length=m*size) (hnews:∀ j u,news[j]? = some u->w.cell? (ad.add j)=some u) (h1:∀ u∈news,u.oneCell'=true)
  (h63:0+m<=maxLen) (hbytes:(0+m)*bytes<=140737488355328) (hbase:base<=w.heap.size)
  (h:∀ v' w',w'.ownsRow base e size v' (0+m) ([]++news)->aF w w'->wpList P ops Q rest (a.put o.dst v') w'):wpList P ops Q (o :: rest) a w:=by
 obtain⟨v',w',hr,h2,h3⟩:=aMc (P:=P) w base t o.type e i z size bytes ht hi hz hsize hby hzs hsz g hown ad m c news hm hl hnews h1 h63 hbytes hbase;refine wpList_plain hgd fun K hK=>?_
 unfold Oper.wp execOp;simp only[ho,resolve,invoke,builtin,Sem.run_bind,Sem.run_pure,Result.andThen_ok,List.map_toArray,List.map_cons,List.map_nil,hs,hx,hr];exact hK _ _ (h v' w' h2 h3)
end
structure NrG(n0 n:Nat)(fs:List Value)(a b:World):Prop where
 low:Below n0 a b
 r:∀ v k l,k<=n->a.ownsRow n0 27 7 v k l->b.ownsRow n0 27 7 v k l
 r2:∀ v,a.ownsRow n0 27 7 v (n+1) fs->b.ownsRow n0 27 7 v (n+1) fs
theorem NrG.refl{n0 n:Nat}{fs:List Value}(a:World):NrG n0 n fs a a:=⟨Below.refl _ _,fun _ _ _ _ h=>h,fun _ h=>h⟩
theorem NrG.trans{n0 n:Nat}{fs:List Value}(a b c:World)(h:NrG n0 n fs a b)(k:NrG n0 n fs b c):NrG n0 n fs a c :=
 ⟨h.low.trans k.low,fun v j l hj x=>k.r v j l hj (h.r v j l hj x),fun v x=>k.r2 v (h.r2 v x)⟩
theorem NrG.of{n0 n:Nat}{fs:List Value}{a b:World}(h:aF a b)(h0:n0<=a.heap.size):NrG n0 n fs a b :=
 ⟨h.mono h0,fun _ _ _ _ x=>fZ x h,fun _ x=>fZ x h⟩
def aMe(n0:Nat):Value->World->Prop:=fun v W=>∃ g,v=.slice (some ⟨g,0,none⟩) 0 0/\W.ownsRow n0 27 7 v 0 []
structure NrS(w:World)(x:ah)(Y Z:Array Value)(n0:Nat)(W:World):Prop where
 t:fQ W w.heap.size x
 y:aQ W (w.heap.size+1) 27 Y
 z:aQ W (w.heap.size+2) 40 Z
 b:aF w W
 s:n0<=W.heap.size
theorem NrS.low{w W W':World}{x:ah}{Y Z:Array Value}{n0:Nat}(h:NrS w x Y Z n0 W)(hb:Below n0 W W')(h0:w.heap.size+2<n0):NrS w x Y Z n0 W' :=
 ⟨⟨(hb.block _ aB).trans h.t.box⟩,(hb.block _ aB).trans h.y,(hb.block _ h0).trans h.z,h.b.trans (hb.mono aB),Nat.le_trans h.s hb.size⟩
theorem NrS.keep{w W W':World}{x:ah}{Y Z:Array Value}{n0:Nat}(h:NrS w x Y Z n0 W)(hb:aF W W'):NrS w x Y Z n0 W' :=
 ⟨h.t.keep hb,h.y.keep hb,h.z.keep hb,aV h.b hb,Nat.le_trans h.s hb.size⟩
theorem aMf(x:ah)(c:aY)(m:ae)(w:World)(hR:bZ w x)(hRc:dA w c m)(hf:dE c)(htx:bF c=true->(bK c).size<=1000000)(h1:1<=x.t.conds.length)(hn:x.t.conds.length<=1000)(hK:Ks2 w) :
  Calls prog 18 #[x.val,ae.val c m] w (aCd (kW x.t c).1 (kW x.t c).2 w):=by
 obtain⟨i0,hi0,hz0,hz1,hz2⟩:=info_parts DT;have HI:=aA (And.intro hi0 (And.intro hz0 (And.intro hz1 hz2)));clear hi0 hz0 hz1 hz2;obtain⟨b,o,hA,hrow⟩:=hR.conds.rows.2 aB;have hv:=fun (W:World) (hb:aF w W)=>aCi c m W (hRc.keep hb) hf.p hf.cl hf.co hf.n1 hf.n2 hf.n3
 have hnx:=fun (hcv:bF c=true) (W:World) (hb:aF w W)=>aGx x.t.sl hR.sl c m W (hRc.keep hb) ⟨hf,hcv,htx hcv⟩ (hK.keep hb)
 obtain⟨R,hRR⟩:∃ R,R=aCd (kW x.t c).1 (kW x.t c).2 w:=⟨_,rfl⟩;rw[<-hRR];have hnar:kW x.t c=if bF c then (if 16<=x.t.conds.length then (iK,2) else (⟨x.t.cust,x.t.ser,x.t.id,x.t.conds++[c],je x.t.sl c⟩,0)) else (iK,1):=rfl
 obtain⟨y,hy⟩:∃ y:CoM,y=⟨c,m⟩:=⟨_,rfl⟩;obtain⟨Y,hY⟩:∃ Y:Array Value,Y=y.cells.toArray:=⟨_,rfl⟩;have hYv:ae.val c m=.agg Y:=by rw[hY,hy];rfl
 have hYS:Y.size=7:=by rw[hY];rfl
 have HYLI:=aA (show Y=#[.int .i64 c.fr,.int .i64 c.till,.string c.pat,.slice m.A c.cl.length m.ca,.slice m.B c.co.length m.cb,.slice m.S c.si.length m.cs,.int .i64 c.us] by rw[hY,hy];rfl);rw[hYv]at hv hnx ⊢;have HON:=aA (show ((#[.int .i64 0,.int .i64 0,.string ⟨#[]⟩,.slice none 0 0,.int .u8 0,.int .u8 0,.int .u8 0,.int .u8 0,.int .u8 0,.int .u8 0,.int .u8 0,.int .u8 0,.int .u8 0,.int .u8 0,.int .u8 0,.int .u8 0,.int .u8 0,.int .u8 0,.int .u8 0,.int .u8 0,.int .i64 1]:Array Value):Array Value).all (·.oneCell')=true by rw[List.all_toArray];rfl);have HOL:=aA (show ((#[.int .i64 0,.int .i64 0,.string ⟨#[]⟩,.slice none 0 0,.int .u8 0,.int .u8 0,.int .u8 0,.int .u8 0,.int .u8 0,.int .u8 0,.int .u8 0,.int .u8 0,.int .u8 0,.int .u8 0,.int .u8 0,.int .u8 0,.int .u8 0,.int .u8 0,.int .u8 0,.int .u8 0,.int .i64 2]:Array Value):Array Value).all (·.oneCell')=true by rw[List.all_toArray];rfl);have HRR:=aA hRR;have HYS:=aA hYS;have HNA:=aA hnar;have HXA:=aA hA;have HV:=aA hv;have HNX:=aA hnx;have HYY:=aA hY;have HY1:=aA hy;generalize hln:x.t.conds.length=n at *;have HLN:=aA hln;clear hRR hYS hnar hv hnx hYv hY hy hln;unfold ah.val;go_enter func18,ntmps18;go_upto_region 1 with fail
 generalize hw0:World.alloc _ _=w0;have hS0:NrS w x Y aBg (w.heap.size+3) w0:=by
  rw[<-hw0];exact⟨⟨(iL w _ _ _).1⟩,(iL w _ _ _).2.1,(iL w _ _ _).2.2,aJ,aH⟩
 have hb0:=hS0.b;have hldc:=iO hS0.y HYS.out;have HS0:=aA hS0;clear hw0 hS0;cases hcv:bF c
 ·rw[hcv]at HV;have HE1:=aA (show kW x.t c=(iK,1) by rw[HNA.out,hcv];rfl);clear HNA HNX hcv;go_wp2_with (first | (refine bD rfl 27 _ rfl ⟨w.heap.size+1,0,none⟩ (.agg Y) rfl hldc ?_) | (go_at_call 32;refine (HV.out _ hb0).mono ?_;rintro e w1 ⟨rfl,hb1⟩;have HS1:=aA (HS0.out.keep hb1);obtain⟨y0,y1,y2,y3⟩:=(HS0.out.keep hb1).t.cells;rw[HLN.out,HXA.out]at y3) | (refine wpList_store_row rfl 40 _ _ rfl (w.heap.size+2) (#[.int .i64 0,.int .i64 0,.string ⟨#[]⟩,.slice none 0 0,.int .u8 0,.int .u8 0,.int .u8 0,.int .u8 0,.int .u8 0,.int .u8 0,.int .u8 0,.int .u8 0,.int .u8 0,.int .u8 0,.int .u8 0,.int .u8 0,.int .u8 0,.int .u8 0,.int .u8 0,.int .u8 0,.int .i64 1]:Array Value) rfl rfl _ aBg HS1.out.z YC rfl HON.out ?_));refine bodyPost_ret (v:=.agg (#[.int .i64 0,.int .i64 0,.string ⟨#[]⟩,.slice none 0 0,.int .u8 0,.int .u8 0,.int .u8 0,.int .u8 0,.int .u8 0,.int .u8 0,.int .u8 0,.int .u8 0,.int .u8 0,.int .u8 0,.int .u8 0,.int .u8 0,.int .u8 0,.int .u8 0,.int .u8 0,.int .u8 0,.int .i64 1]:Array Value)) ?_ rfl ?_
  ·exact aHf
  ·exact aHg
 rw[hcv]at HV;by_cases hn16:16<=n
 ·have HE1:=aA (show kW x.t c=(iK,2) by rw[HNA.out,hcv];simp[hn16]);have i1:(16:Int)<=(n:Int):=aB;clear HNA HNX hcv;go_wp2_with (first | (refine bD rfl 27 _ rfl ⟨w.heap.size+1,0,none⟩ (.agg Y) rfl hldc ?_) | (go_at_call 32;refine (HV.out _ hb0).mono ?_;rintro e w1 ⟨rfl,hb1⟩;have HS1:=aA (HS0.out.keep hb1);obtain⟨y0,y1,y2,y3⟩:=(HS0.out.keep hb1).t.cells;rw[HLN.out,HXA.out]at y3) | (refine wpList_store_row rfl 40 _ _ rfl (w.heap.size+2) (#[.int .i64 0,.int .i64 0,.string ⟨#[]⟩,.slice none 0 0,.int .u8 0,.int .u8 0,.int .u8 0,.int .u8 0,.int .u8 0,.int .u8 0,.int .u8 0,.int .u8 0,.int .u8 0,.int .u8 0,.int .u8 0,.int .u8 0,.int .u8 0,.int .u8 0,.int .u8 0,.int .u8 0,.int .i64 2]:Array Value) rfl rfl _ aBg HS1.out.z YC rfl HOL.out ?_));refine bodyPost_ret (v:=.agg (#[.int .i64 0,.int .i64 0,.string ⟨#[]⟩,.slice none 0 0,.int .u8 0,.int .u8 0,.int .u8 0,.int .u8 0,.int .u8 0,.int .u8 0,.int .u8 0,.int .u8 0,.int .u8 0,.int .u8 0,.int .u8 0,.int .u8 0,.int .u8 0,.int .u8 0,.int .u8 0,.int .u8 0,.int .i64 2]:Array Value)) ?_ rfl ?_
  ·exact aHf
  ·exact aHg
 have i1:¬ (16:Int)<=(n:Int):=aB;have hnr:kW x.t c=(⟨x.t.cust,x.t.ser,x.t.id,x.t.conds++[c],je x.t.sl c⟩,0):=by rw[HNA.out,hcv];simp[hn16]
 have HE1:=aA hnr;have HNX2:=aA (HNX.out hcv);clear HNA HNX hcv hnr hn16;go_upto_region 6 with (first | (refine bD rfl 27 _ rfl ⟨w.heap.size+1,0,none⟩ (.agg Y) rfl hldc ?_) | (go_at_call 32;refine (HV.out _ hb0).mono ?_;rintro e w1 ⟨rfl,hb1⟩;have HS1:=aA (HS0.out.keep hb1);obtain⟨y0,y1,y2,y3⟩:=(HS0.out.keep hb1).t.cells;rw[HLN.out,HXA.out]at y3))
 have hz3:w.heap.size+2<w1.heap.size:=by have:=HS1.out.s;omega
 have hSn:NrS w x Y aBg w1.heap.size w1:=⟨HS1.out.t,HS1.out.y,HS1.out.z,HS1.out.b,Nat.le_refl _⟩;obtain⟨xs,hxs⟩:∃ xs,xs=x.L.flatMap CoM.cells:=⟨_,rfl⟩;obtain⟨ys,hys⟩:∃ ys,ys=y.cells:=⟨_,rfl⟩;have hxl:xs.length=n*7:=by rw[hxs,X9,hR.conds.len,HLN.out]
 have hx1:∀ u∈xs,u.oneCell'=true:=by rw[hxs];exact NJ _
 have hyl:ys.length=1*7:=by rw[hys];rfl
 have hy1:∀ u∈ys,u.oneCell'=true:=by have:=NJ [y];rw[hys];simpa using this
 have hyY:Y=ys.toArray:=by rw[HYY.out,hys]
 have hxc:∀(W:World),aF w W->∀ j u,xs[j]? = some u->W.cell? ((⟨b,o,none⟩:Addr).add j)=some u:=fun W hb j u hu=>by
  rw[show (⟨b,o,none⟩:Addr).add j=⟨b,o+j,none⟩ by unfold Addr.add;split <;> simp_all];exact aW hb (hrow j u (by rw[hxs]at hu;exact hu))
 have HXC:=aA hxc;have HXL:=aA hxl;have HX1:=aA hx1;have HYL:=aA hyl;have HY2:=aA hy1;have HXS:=aA hxs;have HYS2:=aA hys;have HYE:=aA hyY;have HSN:=aA hSn;have hSok:=qC 45 [x.t.sl,nb (bK c)];have hDSO:dm (je x.t.sl c):=hSok;obtain⟨SN,hSN⟩:∃ SN,SN=je x.t.sl c:=⟨_,rfl⟩;rw[<-hSN]at HNX2 HE1 hDSO;have HDSO:=aA hDSO;clear hxc hxl hx1 hyl hy1 hxs hys hyY hSn hSok hDSO hSN y0 y1 y2 y3 HS1 hldc;obtain⟨n0,hn0⟩:∃ n0,n0=w1.heap.size:=⟨_,rfl⟩;rw[<-hn0]at HSN hz3;have HN0:=aA hn0;have hwd:n0<=w1.drew.heap.size:=Nat.le_of_eq hn0;clear hn0;refine Ez (NrG n0 n (xs++ys)) NrG.refl NrG.trans 8 aG aG aG (DL [aMe n0,IsV (.pointer (some ⟨w.heap.size,3,none⟩)),IsV (.slice (some ⟨b,o,none⟩) n x.c),NT n0 n xs,IsV (.agg Y),YG n0 ys,NT n0 (n+1) (xs++ys),IsV (.pointer (some ⟨w.heap.size,3,none⟩))]) (DL.keepG _ _ (by simp only[y8];repeat' (first | apply And.intro | exact NS _ _ | exact (fun v _ _ ⟨g,e,h⟩ hg=>⟨g,e,hg.r v _ _ aB h⟩) | exact (fun v _ _ h hg=>hg.r v _ _ (Nat.le_refl _) h) | exact fun v _ _ h hg=>hg.r2 v h | exact trivial))) (NrS w x Y aBg n0) (HSN.out.keep (Below.drew (Below.refl _ _))) (fun _ _ h hb=>h.low hb.low hz3) ?_ ?_
 ·dsimp only[List.take_succ_cons,List.take_zero,uS];refine⟨fun vals W hS hd=>?_,fun vals W hS hd=>?_,fun vals W hS hd=>?_,fun vals W hS hd=>?_,fun vals W hS hd=>?_,fun vals W hS hd=>?_,fun vals W hS hd=>?_,fun vals W hS hd=>?_,trivial⟩
  ·(try simp only[bQ,DL,IsV,bV,Region.binds,and_true,true_and]at hd);simp only[aZ,kM,Act.put,ag,bV];(try simp only[hd]);clear hd;have hsW:=hS.s;go_wp2;exact⟨rfl,⟨_,rfl,World.ownsRow_lit (base:=n0) (e:=27) (size:=7) W #[] 0 hsW dh rfl⟩,rfl,NrG.of (fJ _ _) hsW⟩
  rotate_left 2
  ·(try simp only[bQ,DL,IsV,bV,Region.binds,and_true,true_and]at hd);obtain⟨⟨g0,e0,ho0⟩,e2⟩:=hd;rw[e0]at ho0;simp only[aZ,kM,Act.put,ag,bV];(try simp only[e0,e2]);have hsW:=hS.s;have hxc:=HXC.out W hS.b;have HHX:=aA hxc;have HO0:=aA ho0;clear hxc ho0 e0 e2;go_wp2_with (at_builtin;refine aMd rfl _ _ 28 rfl n0 27 i0 (.agg fU) 7 112 underlying28 HI.out.1 HI.out.2.1 HI.out.2.2.1 HI.out.2.2.2 rfl aK g0 rfl HO0.out ⟨b,o,none⟩ n x.c xs aB rfl HXL.out HHX.out HX1.out dh aB hsW ?_;intro v6 w6 hown6 hb6);rw[Nat.zero_add,List.nil_append]at hown6;exact⟨rfl,hown6,rfl,NrG.of hb6 hsW⟩
  ·(try simp only[bQ,DL,IsV,bV,Region.binds,and_true,true_and]at hd);simp only[aZ,kM,Act.put,ag,bV];(try simp only[hd]);clear hd;have hsW:=hS.s;exact aGy
  ·(try simp only[bQ,DL,IsV,bV,Region.binds,and_true,true_and]at hd);rw[HYLI.out]at hd;simp only[aZ,kM,Act.put,ag,bV];(try simp only[hd]);clear hd;have hsW:=hS.s;go_wp2;have hown:=World.ownsRow_lit (base:=n0) (e:=27) (size:=7) W #[.int .i64 c.fr,.int .i64 c.till,.string c.pat,.slice m.A c.cl.length m.ca,.slice m.B c.co.length m.cb,.slice m.S c.si.length m.cs,.int .i64 c.us] 1 hsW dh rfl;have hys:(#[.int .i64 c.fr,.int .i64 c.till,.string c.pat,.slice m.A c.cl.length m.ca,.slice m.B c.co.length m.cb,.slice m.S c.si.length m.cs,.int .i64 c.us]:Array Value).toList=ys:=by rw[<-HYLI.out,HYE.out]
   rw[hys]at hown;exact⟨rfl,⟨_,rfl,hown⟩,rfl,NrG.of (fJ _ _) hsW⟩
  ·(try simp only[bQ,DL,IsV,bV,Region.binds,and_true,true_and]at hd);obtain⟨ho2,⟨g4,e4,ho4⟩,_⟩:=hd;obtain⟨v2,hv2⟩:∃ v2,v2=vals 3:=⟨_,rfl⟩;rw[<-hv2]at ho2;rw[e4]at ho4;simp only[aZ,kM,Act.put,ag,bV];(try simp only[e4,<-hv2]);have hsW:=hS.s;have hr4:=aI.of_own ho4;obtain⟨gg,oo,eg,hcg⟩:=hr4.2 aB;injection eg with eg
   injection eg with eg1 eg2
   subst eg1;subst eg2;have hadd:∀ j,(⟨g4,0,none⟩:Addr).add j=⟨g4,0+j,none⟩:=fun j=>nH
   have HA4:=aA (fun j u (hu:ys[j]? = some u)=>(show W.cell? ((⟨g4,0,none⟩:Addr).add j)=some u by rw[hadd];exact hcg j u hu));have HO2:=aA ho2;clear hr4 hcg hadd ho4 ho2 e4 hv2;go_wp2_with (at_builtin;refine FB rfl _ _ 28 rfl n0 27 i0 (.agg fU) 7 112 underlying28 HI.out.1 HI.out.2.1 HI.out.2.2.1 HI.out.2.2.2 rfl aK v2 n xs rfl HO2.out ⟨g4,0,none⟩ 1 1 ys rfl HYL.out HA4.out HY2.out dh aB hsW ?_;intro v6 w6 hown6 hgrow6 hstay6);refine⟨rfl,hown6,rfl,⟨Below.grown (Below.refl _ _) hgrow6 hsW (fun r e=>fE HO2.out r e),fun v k l hk h=>hstay6 v k l h (.inl hk),fun v h=>hstay6 v _ _ h (.inr (List.prefix_refl _))⟩⟩
  all_goals
   (try simp only[bQ,DL,IsV,bV,Region.binds,and_true,true_and]at hd);simp only[aZ,kM,Act.put,ag,bV];(try simp only[hd]);clear hd;obtain⟨y0,y1,y2,y3⟩:=hS.t.cells;rw[HLN.out,HXA.out]at y3;go_wp2;exact⟨rfl,rfl,rfl,NrG.refl _⟩
 ·intro vals w9 hS9 hD9;have e5:w9.ownsRow n0 27 7 (vals 6) (n+1) (xs++ys):=hD9 6 aB;have e10:vals 7=.pointer (some ⟨w.heap.size,3,none⟩):=hD9 7 aB;obtain⟨g6,c6,e6⟩:=ownsRow_succ e5;rw[e6]at e5;simp only[aZ,kM,Act.put,ag,bV];simp only[e6,e10];clear hD9 e6 e10;obtain⟨y0,y1,y2,y3⟩:=hS9.t.cells;rw[HLN.out,HXA.out]at y3;have f3:=frozen_of_row w9 w.heap.size 3 _ _ hS9.t.box;have hr9:(w9.setCell ⟨w.heap.size,3,none⟩ (.slice (some ⟨g6,0,none⟩) (n+1) c6)).heap[w.heap.size]? = some (.cells (x.cells.set 3 (.slice (some ⟨g6,0,none⟩) (n+1) c6)).toArray 32 (0,0)):=by
   rw[heap_setCell_same w9 w.heap.size 3 x.cells.toArray 32 _ hS9.t.box];simp
  have hcl20:(x.cells.set 3 (.slice (some ⟨g6,0,none⟩) (n+1) c6)).length=20:=by rw[List.length_set];exact hR.size
  have hsp:splice (x.cells.set 3 (.slice (some ⟨g6,0,none⟩) (n+1) c6)) 4 (b8 SN)=bn x.t.cust x.t.ser x.t.id (some ⟨g6,0,none⟩) (n+1) c6 SN :=
   zT x.t.cust x.t.ser x.t.id (some ⟨g6,0,none⟩) (n+1) c6 x.t.sl SN hR.sl.len HDSO.out.len
  go_upto_region 7 with fail
  generalize hw3:World.setCell _ _ _=w3;rw[hw3]at hr9;have hs3:∀ k,k≠w.heap.size->w3.heap[k]? = w9.heap[k]?:=fun k hk=>by rw[<-hw3];exact heap_setCell_other _ _ _ _ hk
  have hb3:aF w w3:=by rw[<-hw3];exact hS9.b.setCell (p:=⟨w.heap.size,3,none⟩) (Nat.le_refl _) _
  have hz3':w.heap.size+2<w3.heap.size:=by rw[<-hw3];simp[World.setCell];have:=hS9.s;omega
  have hy3:aQ w3 (w.heap.size+1) 27 Y:=(hs3 _ aB).trans hS9.y;have hm3:aQ w3 (w.heap.size+2) 40 aBg:=(hs3 _ aB).trans hS9.z;have hldc:=iO hy3 HYS.out;have hlds:=yI (P:=prog) w3 w.heap.size 4 32 30 (x.cells.set 3 (.slice (some ⟨g6,0,none⟩) (n+1) c6)) (b8 x.t.sl) (0,0) _ hr9 (fun j v hv=>by
   rw[List.getElem?_set_ne aB];show (bn _ _ _ _ _ _ _)[4+j]? = some v;unfold bn;rw[List.getElem?_append_right aH];simpa using hv) underlying30 rfl (by rw[dU,hR.sl.len];exact lh)
  have HE5:=aA (YJ e5 (hs3 g6 (by have:=(e5.lt g6 rfl).1;omega)));have HR9:=aA hr9;have HC20:=aA hcl20;have HSP:=aA hsp;have HB3:=aA hb3;have HM3:=aA hm3;have HLS:=aA hlds;have HBN:=aA (show (prog.info? 30).map (·.size)=some (b8 SN).length by rw[dU,HDSO.out.len];exact lh);have hfit:4+(b8 SN).length<=(x.cells.set 3 (.slice (some ⟨g6,0,none⟩) (n+1) c6)).length:=by rw[hcl20,dU,HDSO.out.len];omega
  have HFIT:=aA hfit;have hg6:=YH HE5.out;have hg6l:=(HE5.out.lt g6 rfl).2;clear hw3 hs3 hb3 hy3 hm3 hlds hr9 hcl20 hsp hS9 e5 hfit y0 y1 y2 y3 f3;have hldc2:=hldc;go_upto_region 8 with (first
   | (refine bD rfl 30 _ rfl ⟨w.heap.size,4,none⟩ (.agg (b8 x.t.sl).toArray) rfl HLS.out ?_)
   | (refine bD rfl 27 _ rfl ⟨w.heap.size+1,0,none⟩ (.agg Y) rfl hldc ?_)
   | (go_at_call 53;refine (HNX2.out _ HB3.out).mono ?_;rintro e w4 ⟨rfl,hb4⟩)
   | (refine wQ rfl 30 _ _ rfl w.heap.size 4 (b8 SN) rfl rfl _ (x.cells.set 3 (.slice (some ⟨g6,0,none⟩) (n+1) c6)) (aQ.keep HR9.out hb4) HBN.out HFIT.out (nC _) ?_))
  dsimp only[Act.put];rw[HSP.out];obtain⟨z,hz⟩:∃ z:ah,z=⟨⟨x.t.cust,x.t.ser,x.t.id,x.t.conds++[c],SN⟩,some ⟨g6,0,none⟩,c6,x.L++[y]⟩:=⟨_,rfl⟩;have hzc:bn x.t.cust x.t.ser x.t.id (some ⟨g6,0,none⟩) (n+1) c6 SN=z.cells:=by
   rw[hz];show _=bn _ _ _ _ (x.t.conds++[c]).length _ _;rw[List.length_append,HLN.out];rfl
  rw[hzc];generalize hw5:World.setRow _ _ _=w5;have ht5:aQ w5 w.heap.size 32 z.cells.toArray:=by rw[<-hw5];exact setRow_heap _ _ _ _ _ _ (aQ.keep HR9.out hb4)
  have ho5:∀ k,k≠w.heap.size->w5.heap[k]? = w4.heap[k]?:=fun k hk=>by rw[<-hw5];exact setRow_other _ _ _ _ hk
  have hr5:aQ w5 (w.heap.size+2) 40 aBg:=(ho5 _ aB).trans (HM3.out.keep hb4);have hbw5:aF w w5:=by rw[<-hw5];exact below_setRow (aV HB3.out hb4) (Nat.le_refl _) _
  have hown5:=YJ HE5.out ((ho5 g6 aB).trans (hb4.block g6 hg6l));have hzl:z.cells.length=20:=by rw[<-hzc];exact (DR _ _ _ _ _ _ _ HDSO.out.len)
  have hldn:=dY ht5 (by rw[List.size_toArray,hzl]);have HLD:=aA hldn;have HR5:=aA hr5;have HB5:=aA hbw5;have HOW5:=aA hown5;have HZ:=aA hz;have HZL:=aA hzl;have HBM:=aA (fun W=>aHd z.cells hzl W);have HMO:=aA (aDd z 0);have HMS:=aA (show (z.cells++[Value.int .i64 0]).toArray.size=21 by rw[List.size_toArray,List.length_append,hzl];rfl);clear hw5 ht5 ho5 hr5 hbw5 hown5 hldn hzl hz hzc hb4 hldc hldc2;generalize hXN:(z.cells++[Value.int .i64 0]).toArray=XN at *;have HXN:=aA hXN;clear hXN;go_wp2_with (first
   | (refine bD rfl 32 _ rfl ⟨w.heap.size,0,none⟩ (.agg z.cells.toArray) rfl HLD.out ?_)
   | (refine aBx rfl 40 _ rfl #[(0,.agg z.cells.toArray)] aG _ (HBM.out _) ?_)
   | (refine wpList_store_row rfl 40 _ _ rfl (w.heap.size+2) XN rfl rfl _ aBg HR5.out (by rw[HMS.out];exact YC) (by rw[HMS.out];rfl) HMO.out ?_))
  refine bodyPost_ret (v:=.agg XN) ?_ rfl ?_
  ·exact aHe
  ·rw[HRR.out,HE1.out];have hbw6:aF w (w5.setRow (w.heap.size+2) XN):=below_setRow HB5.out aB _;have hblk:(w5.setRow (w.heap.size+2) XN).heap[g6]? = w5.heap[g6]?:=setRow_other _ _ _ _ aB;have hown:=YJ HOW5.out hblk;refine⟨hbw6,z,by rw[HXN.out],?_,by rw[HZ.out]⟩;rw[HZ.out];have hlen:(x.t.conds++[c]).length=n+1:=by rw[List.length_append,HLN.out];rfl
   refine⟨?_,⟨?_,?_,?_⟩,HDSO.out,?_⟩
   ·show (x.L++[y]).map (·.c)=_;rw[List.map_append,hR.same,HY1.out];rfl
   ·show (x.L++[y]).length=(x.t.conds++[c]).length;rw[hlen,List.length_append,hR.conds.len,HLN.out];rfl
   ·show aI _ 7 _ (x.t.conds++[c]).length ((x.L++[y]).flatMap CoM.cells);rw[hlen,List.flatMap_append,<-HXS.out];have e : [y].flatMap CoM.cells=ys:=by rw[HYS2.out];simp
    rw[e];exact aI.of_own hown
   ·intro z hz;rcases List.mem_append.1 hz with hz | hz
    ·exact (hR.conds.each z hz).keep hbw6
    ·rw[List.mem_singleton.1 hz,HY1.out];exact hRc.keep hbw6
   ·show (x.t.conds++[c]).length<=c6;rw[hlen];exact YI HOW5.out
theorem aMg(x:ah)(w:World)(hc:0<=x.t.cust/\x.t.cust<=9223372036854775807)(hs:0<=x.t.ser/\x.t.ser<=9223372036854775807)(hid:x.t.id.size<=1000000)(hl:dm x.t.sl)(hK:Ks2 w):Calls prog 23 #[x.val] w (Ret w (.agg (b8 (jR x.t)).toArray)):=by
 have hO:=fun (g:Nat) (W:World) (hr:aI W 1 (some ⟨g,0,none⟩) 3 ([ai x.t.cust,ai x.t.ser,x.t.id].map .string)) (hb:aF w W)=>aEa 25 aK (some ⟨g,0,none⟩) 3 3 [ai x.t.cust,ai x.t.ser,x.t.id] W hr aB (by
  intro s h;have h1:=sD x.t.cust aB aB;have h2:=sD x.t.ser aB aB;simp only[List.mem_cons,List.not_mem_nil,or_false]at h;rcases h with rfl | rfl | rfl
  ·omega
  ·omega
  ·exact hid) (hK.keep hb)
 have hD:=fun (W:World)=>by
  have:=aCc x.t.cust.toNat W aB;rw[Int.toNat_of_nonneg hc.1]at this;exact this
 have hT:=fun (W:World)=>by
  have:=aCc x.t.ser.toNat W aB;rw[Int.toNat_of_nonneg hs.1]at this;exact this
 have hDS:(b8 (Sha.ofD 25 ([ai x.t.cust,ai x.t.ser,x.t.id].map nb))).toArray.size=16:=by rw[List.size_toArray,dU];exact Bv _ _
 have hDO:(b8 (Sha.ofD 25 ([ai x.t.cust,ai x.t.ser,x.t.id].map nb))).toArray.all (·.oneCell')=true:=uo _;have hnx:Sha.ofD 25 ([ai x.t.cust,ai x.t.ser,x.t.id].map nb)=jR x.t:=rfl;rw[hnx]at hDS hDO hO;generalize (b8 (jR x.t)).toArray=DG at *;have hx0:x.cells.toArray[0]? = some (.int .i64 x.t.cust):=rfl;have hx1:x.cells.toArray[1]? = some (.int .i64 x.t.ser):=rfl;have hx2:x.cells.toArray[2]? = some (.string x.t.id):=rfl;unfold ah.val;generalize x.cells.toArray=X at *;generalize ai x.t.cust=sa at *;generalize ai x.t.ser=sb at *;generalize x.t.id=sc at *;generalize x.t.cust=na at *;generalize x.t.ser=nb at *;have HO:=aA hO;have HD:=aA hD;have HT:=aA hT;have HDS:=aA hDS;have HDO:=aA hDO;have HX0:=aA hx0;have HX1:=aA hx1;have HX2:=aA hx2;have HDI:=aA (show (prog.info? 51).map (·.size)=some DG.size by rw[hDS];exact Yg);clear hO hD hT hDS hDO hx0 hx1 hx2 hnx hK hl hc hs hid;go_enter func23,ntmps23;go_upto_region 1 with fail
 generalize hw0:World.alloc _ _=w0;obtain⟨ZS,hZS⟩:∃ ZS:Array Value,ZS=(b8 (List.replicate 16 0)).toArray:=⟨_,rfl⟩;have hS0:IdS w X ZS w0:=by
  rw[<-hw0,hZS];exact⟨(gQ w _ _).1,(gQ w _ _).2,aJ,aH⟩
 have HZS:=aA (show ZS.size=16 by rw[hZS];rfl);clear hw0 hZS;have HS0:=aA hS0;clear hS0;refine qm 10 aG aG aG (DL [IsV (.pointer (some ⟨w.heap.size,0,none⟩)),IsV (.int .i64 na),IsV (.string sa),IsV (.pointer (some ⟨w.heap.size,1,none⟩)),IsV (.int .i64 nb),IsV (.string sb),IsV (.pointer (some ⟨w.heap.size,2,none⟩)),IsV (.string sc),Nv sa sb sc,IsV (.agg DG)]) (DL.keep _ (by simp only[qp];repeat' (first | apply And.intro | exact vU _ | exact Ye _ _ _ | exact trivial))) (IdS w X ZS) (HS0.out.keep (Below.drew (Below.refl _ _))) (fun _ _ h hb=>h.keep hb) ?_ ?_
 ·dsimp only[List.take_succ_cons,List.take_zero,mf];refine⟨fun vals W hS hd=>?_,fun vals W hS hd=>?_,fun vals W hS hd=>?_,fun vals W hS hd=>?_,fun vals W hS hd=>?_,fun vals W hS hd=>?_,fun vals W hS hd=>?_,fun vals W hS hd=>?_,fun vals W hS hd=>?_,fun vals W hS hd=>?_,trivial⟩
  ·exact aEo
  ·(try simp only[bQ,DL,IsV,bV,Region.binds,and_true,true_and]at hd);simp only[aZ,kM,Act.put,ag,bV];(try simp only[hd]);clear hd;have hcl:=hS.x.cell HX0.out;go_wp2;exact⟨rfl,rfl,rfl,aJ⟩
  ·(try simp only[bQ,DL,IsV,bV,Region.binds,and_true,true_and]at hd);simp only[aZ,kM,Act.put,ag,bV];(try simp only[hd]);clear hd;have hbW:=hS.b;go_wp2_with (go_at_call 59;refine (HD.out _).mono ?_;rintro e w5 ⟨rfl,hb5⟩);exact⟨rfl,rfl,rfl,aJ⟩
  ·exact aEo
  ·(try simp only[bQ,DL,IsV,bV,Region.binds,and_true,true_and]at hd);simp only[aZ,kM,Act.put,ag,bV];(try simp only[hd]);clear hd;have hcl:=hS.x.cell HX1.out;go_wp2;exact⟨rfl,rfl,rfl,aJ⟩
  ·(try simp only[bQ,DL,IsV,bV,Region.binds,and_true,true_and]at hd);simp only[aZ,kM,Act.put,ag,bV];(try simp only[hd]);clear hd;have hbW:=hS.b;go_wp2_with (go_at_call 59;refine (HT.out _).mono ?_;rintro e w5 ⟨rfl,hb5⟩);exact⟨rfl,rfl,rfl,aJ⟩
  ·exact aEo
  ·(try simp only[bQ,DL,IsV,bV,Region.binds,and_true,true_and]at hd);simp only[aZ,kM,Act.put,ag,bV];(try simp only[hd]);clear hd;have hcl:=hS.x.cell HX2.out;go_wp2;exact⟨rfl,rfl,rfl,aJ⟩
  ·exact aEn
  ·exact aGz
 ·intro vals w9 hS9 hD9;have e9:vals 9=.agg DG:=hD9 9 aB;simp only[aZ,kM,Act.put,ag,bV];simp only[e9];clear hD9 e9;refine wpList_store_row rfl 51 _ _ rfl (w.heap.size+1) DG rfl rfl _ ZS hS9.z HDI.out (by rw[HZS.out,HDS.out]) HDO.out ?_;go_wp2;refine bodyPost_ret (v:=.agg DG) ?_ rfl ⟨rfl,?_⟩
  ·exact results_cell_row rfl _ _ (w.heap.size+1) _ _ (0,0) _ rfl (setRow_heap _ _ _ _ _ _ hS9.z) underlying51 rfl HDI.out
  ·exact below_setRow hS9.b aB _
def aBi(w:World)(g:Nat)(b:Bool)(e:Int):Prop:=Blk w g 263 #[.bool b,.int .i64 e] (0,0)
theorem aBi.facts{w:World}{g:Nat}{b:Bool}{e:Int}(h:aBi w g b e):w.cell? ⟨g,0,none⟩=some (.bool b)/\w.cell? ⟨g,1,none⟩=some (.int .i64 e)/\w.frozen? ⟨g,0,none⟩=false/\w.frozen? ⟨g,1,none⟩=false :=
 ⟨Blk.cell h 0,Blk.cell h 1,lJ h 0,lJ h 1⟩
theorem aDe{p q:bI}(hp:oP p)(hq:oP q):fC p.kind p.text q.kind q.text=((I9 p).toList == [42]||(I9 p).toList==(I9 q).toList):=by
 rw[<-aCf hp.part hq.part];unfold F5;have hs:FM (I9 p)=false:=by
  rcases hp with ⟨hk,ht⟩ | ⟨hk,ht⟩
  ·rw[str0 hk];exact aEd (nI ht)
  ·have e:=aBr (p:=p) aB;unfold FM;rw[jY,e,ht];rfl
 rw[hs,Bool.false_and,Bool.false_and,Bool.or_false]
def aCm(s:aC)(x:Pat)(cu:aC)(n:Nat)(tl:Bool):Prop :=
 ∀ W,Calls prog 130 #[.string s] W (fun e w'=>aF W w'/\∃ A c,e=.returned (.tuple #[.agg #[.string cu,.slice A n c,.bool tl],.bool true])/\aI w' 1 A n ((dX x.parts).map .string))
theorem aDf{s:aC}{x:Pat}(hs:s.size<=100000)(hx:dI s=some x):aCm s x (I9 x.cust) x.parts.length x.tail:=fun W=>by
 have:=aDa s W hs
 rw[hx]at this
 exact this
theorem aHh{s:aC}(hs:s.size<=100000)(hx:dI s=none):∀ W,Calls prog 130 #[.string s] W (fun e w'=>aF W w'/\∃(c:aC)(A:Option Addr)(n k:Nat)(t:Bool),e=.returned (.tuple #[.agg #[.string c,.slice A n k,.bool t],.bool false])):=fun W=>by
 have:=(aDa s W hs).mono (fun e w' h=>h.any_)
 rw[hx]at this
 exact this
theorem aHi{s:aC}(hs:s.size<=100000):∀ W,Calls prog 130 #[.string s] W (fun e w'=>aF W w'/\∃(c:aC)(A:Option Addr)(n k:Nat)(t:Bool),e=.returned (.tuple #[.agg #[.string c,.slice A n k,.bool t],.bool (dI s).isSome])):=fun W =>
 (aDa s W hs).mono (fun e w' h=>h.any_)
def aBj(xs ys:List bI):Bool:=(mtL [] xs ys).isSome
theorem aEp:∀(xs ys acc:List bI),(mtL acc xs ys).isSome=true↔∀(k:Nat)(p q:bI),xs[k]? = some p->ys[k]? = some q->nJ p q=true
 | [],ys,acc=>by simp[mtL]
 | a :: xs,[],acc=>by
  rw[mtL,aEp xs []];simp
 | a :: xs,b :: ys,acc=>by
  rw[mtL];cases hm:nJ a b
  ·simp only[Bool.false_eq_true,if_false,Option.isSome_none,false_iff];intro h;have:=h 0 a b rfl rfl;rw[hm]at this;cases this
  ·rw[if_pos rfl,aEp xs ys];constructor
   ·intro h k p q hp hq;cases k with
    | zero=>simp at hp hq;rw[<-hp,<-hq];exact hm
    | succ k=>exact h k p q (by simpa using hp) (by simpa using hq)
   ·intro h k p q hp hq;exact h (k+1) p q (by simpa using hp) (by simpa using hq)
theorem aCn(xs ys:List bI):aBj xs ys=true↔∀(k:Nat)(p q:bI),xs[k]? = some p->ys[k]? = some q->nJ p q=true:=aEp xs ys []
theorem aEq(p q:bI):nJ p q=nJ q p:=by unfold nJ;exact Bool.or_comm _ _
theorem aMh(xs ys:List bI):aBj xs ys=aBj ys xs:=by
 rw[Bool.eq_iff_iff,aCn,aCn];exact⟨fun h k p q hp hq=>by rw[aEq];exact h k q p hq hp,fun h k p q hp hq=>by rw[aEq];exact h k q p hq hp⟩
theorem aHj(x y:Pat):(oz x y).isSome=(nJ x.cust y.cust&&!(decide (y.parts.length<x.parts.length)&&!y.tail)&&aBj x.parts y.parts):=by
 unfold oz aBj;cases hm:nJ x.cust y.cust
 ·simp
 ·cases hd:(decide (y.parts.length<x.parts.length)&&!y.tail)
  ·simp
  ·simp
theorem aHk(x y:Pat):(jL x y).isSome=(nJ x.cust y.cust&&!(decide (x.parts.length<y.parts.length)&&!x.tail)&&!(decide (y.parts.length<x.parts.length)&&!y.tail)&&aBj x.parts y.parts):=by
 unfold jL;by_cases h:x.parts.length<y.parts.length
 ·rw[if_pos h,aHj,aEq,aMh,decide_eq_true h,decide_eq_false (show ¬ y.parts.length<x.parts.length by omega)];simp
 ·rw[if_neg h,aHj,decide_eq_false h];simp
theorem aHl{p q:bI}(hp:oP p)(hq:oP q):nJ p q=((I9 p).toList == [42]||(I9 q).toList == [42]||(I9 p).toList==(I9 q).toList):=by
 unfold nJ;rw[aDe hp hq,aDe hq hp];have e:((I9 q).toList==(I9 p).toList)=((I9 p).toList==(I9 q).toList):=by
  rw[Bool.eq_iff_iff,beq_iff_eq,beq_iff_eq];exact eq_comm
 rw[e];cases ((I9 p).toList == [42]) <;> cases ((I9 q).toList == [42]) <;> cases ((I9 p).toList==(I9 q).toList) <;> rfl
theorem aMi{p q:bI}(hp:gU p)(hq:gU q):aCv (I9 p) (I9 q)=nJ p q:=by
 unfold aCv nJ;rw[aCf hp hq,aCf hq hp]
theorem aDg:∀(xs ys acc r:List bI),mtL acc xs ys=some r->∃ r',r=acc++r'/\r'.length=xs.length/\∀(k:Nat)(a:bI),xs[k]? = some a->r'[k]? = some (match ys[k]? with | some b=>fD a b | none=>a)
 | [],ys,acc,r,e=>by
  simp[mtL]at e;subst e;exact⟨[],aH,rfl,aH⟩
 | a :: xs,[],acc,r,e=>by
  rw[mtL]at e;obtain⟨r',h1,h2,h3⟩:=aDg xs [] (acc++[a]) r e;refine⟨a :: r',by rw[h1];simp,by simp[h2],fun k b hb=>?_⟩;cases k with
  | zero=>simp at hb ⊢;exact hb
  | succ k =>
   have:=h3 k b (by simpa using hb);simpa using this
 | a :: xs,b :: ys,acc,r,e=>by
  rw[mtL]at e;split at e
  ·obtain⟨r',h1,h2,h3⟩:=aDg xs ys (acc++[fD a b]) r e;refine⟨fD a b :: r',by rw[h1];simp,by simp[h2],fun k c hc=>?_⟩;cases k with
   | zero=>simp at hc ⊢;rw[hc]
   | succ k =>
    have:=h3 k c (by simpa using hc);simpa using this
  ·cases e
def wAt(x y:Pat)(k:Nat):aC :=
 let w:=match x.parts[k]? with
  | some a=>I9 a
  | none=>⟨#[42]⟩
 match y.parts[k]? with
 | some b=>if F5 w (I9 b) then I9 b else w
 | none=>w
theorem aMj{a b:bI}(ha:gU a)(hb:gU b):I9 (fD a b)=if F5 (I9 a) (I9 b) then I9 b else I9 a:=by
 unfold fD;rw[aCf ha hb];split <;> rfl
theorem aMk{a b:bI}(ha:gU a)(hb:gU b)(hm:nJ a b=true):I9 (fD b a)=if F5 (I9 a) (I9 b) then I9 b else I9 a:=by
 unfold fD;rw[aCf ha hb];unfold nJ at hm;cases h1:fC a.kind a.text b.kind b.text
 ·rw[h1,Bool.false_or]at hm;rw[if_pos hm];rfl
 ·rw[if_pos rfl];split
  ·rename_i h2;rw[aJf ha hb h1 h2]
  ·rfl
theorem aMl{x y z:Pat}(hx:lK x)(hy:lK y)(h:jL x y=some z):z.tail=(x.tail&&y.tail)/\z.parts.length=max x.parts.length y.parts.length/\(∀ k,k<max x.parts.length y.parts.length->(dX z.parts)[k]? = some (wAt x y k))/\I9 z.cust=if (I9 x.cust).toList == [42] then I9 y.cust else I9 x.cust:=by
 have hsome:(jL x y).isSome=true:=by rw[h];rfl
 rw[aHk]at hsome;simp only[Bool.and_eq_true]at hsome;obtain⟨⟨⟨hc,hg1⟩,hg2⟩,hl⟩:=hsome;rw[aCn]at hl;have hfx:∀(k:Nat)(a:bI),x.parts[k]? = some a->gU a:=fun k a ha=>hx.parts a (List.mem_of_getElem? ha)
 have hfy:∀(k:Nat)(a:bI),y.parts[k]? = some a->gU a:=fun k a ha=>hy.parts a (List.mem_of_getElem? ha)
 have hcv:=aDe hx.cust hy.cust;have hcv2:=aDe hy.cust hx.cust;rw[aHl hx.cust hy.cust]at hc;unfold jL at h;by_cases hlt:x.parts.length<y.parts.length
 ·rw[if_pos hlt]at h;unfold oz at h;split at h
  ·cases h
  ·cases hm:mtL [] y.parts x.parts with
   | none=>rw[hm]at h;cases h
   | some l =>
    rw[hm,Option.map_some]at h;injection h with h
    subst h;obtain⟨r',h1,h2,h3⟩:=aDg _ _ _ _ hm;rw[List.nil_append]at h1;subst h1;refine⟨Bool.and_comm _ _,ay,fun k hk=>?_,?_⟩
    ·obtain⟨b,hb⟩:∃ b,y.parts[k]? = some b:=⟨_,List.getElem?_eq_getElem aB⟩;have h4:=h3 k b hb;unfold dX;dsimp only;rw[List.getElem?_map,h4,Option.map_some];congr 1;show I9 _=_;unfold wAt;rw[hb];cases ha:x.parts[k]? with
     | none =>
      dsimp only;rw[if_pos];unfold F5;rw[show ((⟨#[42]⟩:aC).toList == [42])=true by rw[Lib.toList_data];rfl];rfl
     | some a=>exact aMk (hfx k a ha) (hfy k b hb) (hl k a b ha hb)
    ·dsimp only;unfold fD;rw[hcv2];cases e1:((I9 x.cust).toList == [42])
     ·rw[e1,Bool.false_or]at hc;have e3:((I9 y.cust).toList==(I9 x.cust).toList)=((I9 x.cust).toList==(I9 y.cust).toList):=by
       rw[Bool.eq_iff_iff,beq_iff_eq,beq_iff_eq];exact eq_comm
      rw[e3,hc];rfl
     ·cases e2:((I9 y.cust).toList == [42])
      ·have e3:((I9 y.cust).toList==(I9 x.cust).toList)=false:=by
        rw[beq_eq_false_iff_ne];intro h;rw[h]at e2;rw[e1]at e2;cases e2
       rw[e3];rfl
      ·have:I9 x.cust=I9 y.cust:=by
        rw[beq_iff_eq]at e1 e2;exact (Rh _ _).1 (by rw[e1,e2];rfl)
       rw[Bool.true_or,if_pos rfl,if_pos rfl,this]
 ·rw[if_neg hlt]at h;unfold oz at h;split at h
  ·cases h
  ·cases hm:mtL [] x.parts y.parts with
   | none=>rw[hm]at h;cases h
   | some l =>
    rw[hm,Option.map_some]at h;injection h with h
    subst h;obtain⟨r',h1,h2,h3⟩:=aDg _ _ _ _ hm;rw[List.nil_append]at h1;subst h1;refine⟨rfl,ay,fun k hk=>?_,?_⟩
    ·obtain⟨a,ha⟩:∃ a,x.parts[k]? = some a:=⟨_,List.getElem?_eq_getElem aB⟩;have h4:=h3 k a ha;unfold dX;dsimp only;rw[List.getElem?_map,h4,Option.map_some];congr 1;show I9 _=_;unfold wAt;rw[ha];cases hb:y.parts[k]? with
     | none=>rfl
     | some b=>exact aMj (hfx k a ha) (hfy k b hb)
    ·dsimp only;unfold fD;rw[hcv];cases e1:((I9 x.cust).toList == [42])
     ·rw[Bool.false_or];cases e3:((I9 x.cust).toList==(I9 y.cust).toList)
      ·rfl
      ·rw[if_pos rfl,(Rh _ _).1 e3];rfl
     ·rfl
def aDh(p q:aC):Bool × Int:=match dI p,dI q with
 | some x,some y=>((jL x y).isSome,0)
 | _,_=>(false,1)
theorem aHm(p q:aC)(w:World)(b1 b2:Bool)(hb:(b1&&b2)=false)
  (HC1:Hid (∀ W,Calls prog 130 #[.string p] W (fun e w'=>aF W w'/\∃(c:aC)(A:Option Addr)(n k:Nat)(t:Bool),e=.returned (.tuple #[.agg #[.string c,.slice A n k,.bool t],.bool b1]))))
  (HC2:Hid (∀ W,Calls prog 130 #[.string q] W (fun e w'=>aF W w'/\∃(c:aC)(A:Option Addr)(n k:Nat)(t:Bool),e=.returned (.tuple #[.agg #[.string c,.slice A n k,.bool t],.bool b2])))) :
  Calls prog 228 #[.string p,.string q] w (Ret w (.agg #[.bool false,.int .i64 1])):=by
 cases b1 <;> cases b2
 rotate_right
 ·cases hb
 all_goals
  go_enter func228,ntmps228
  go_wp2_with (first | (go_at_call 130;refine (HC1.out _).mono ?_;rintro e w1 ⟨hb1,cx,A,n,k,t,rfl⟩;have hK1:aBi w1 w.heap.size false 0:=Blk.keep (World.alloc_heap_new _ _) hb1;clear HC1) | (go_at_call 130;refine (HC2.out _).mono ?_;rintro e w2 ⟨hb2,cy,A2,n2,k2,t2,rfl⟩;have hK2:aBi w2 w.heap.size false 0:=Blk.keep hK1 (dZ _ hb2);obtain⟨k0,k1,g0,g1⟩:=hK2.facts;have hz2:w.heap.size<w2.heap.size:=Blk.lt hK2))
  exact bodyPost_ret (v:=.agg #[.bool false,.int .i64 1]) (by simp[results,results228,go_sem,hz2,k0,k1,g0,g1]) rfl ⟨rfl,aJ⟩
theorem aMm(p q:aC)(x y:Pat)(w:World)(hx:lK x)(hy:lK y)(gx:kQ x)(gyzz:kQ y)(cu cv:aC)(n m:Nat)(tl tm:Bool)(hcu:cu=I9 x.cust)(hcv:cv=I9 y.cust)(hn:n=x.parts.length)(hm:m=y.parts.length)(htl:tl=x.tail)(htm:tm=y.tail)
  (HC1:Hid (aCm p x cu n tl)) (HC2:Hid (aCm q y cv m tm)):Calls prog 228 #[.string p,.string q] w (Ret w (.agg #[.bool (jL x y).isSome,.int .i64 0])):=by
 obtain⟨V,hV⟩:∃ V,V=(jL x y).isSome:=⟨_,rfl⟩;rw[<-hV];obtain⟨g1,hg1⟩:∃ g1,g1 = !(cu.toList == [42]||cv.toList == [42]||cu.toList==cv.toList):=⟨_,rfl⟩;obtain⟨g2,hg2⟩:∃ g2,g2=((decide (n<m)&&!tl)||(decide (m<n)&&!tm)):=⟨_,rfl⟩;have hV2:V=(!g1&&!g2&&aBj x.parts y.parts):=by
  rw[hV,aHk,aHl hx.cust hy.cust,hg1,hg2,hcu,hcv,hn,hm,htl,htm,Bool.not_not,Bool.not_or,<-Bool.and_assoc]
 have hn32:=gx.num;have hm32:=gyzz.num;rw[<-hn]at hn32;rw[<-hm]at hm32;have hPS:∀ z∈x.parts,gU z/\(I9 z).size<=200000:=fun z hz=>⟨hx.parts z hz,aHn⟩
 have hQS:∀ z∈y.parts,gU z/\(I9 z).size<=200000:=fun z hz=>⟨hy.parts z hz,aHo⟩
 have HPS:=aA hPS;have HQS:=aA hQS;have HN:=aA hn;have HM:=aA hm;have HV:=aA hV2;have HG1:=aA hg1;have HG2:=aA hg2;clear hV hV2 hcu hcv hn hm htl htm hPS hQS hx hy gx gyzz hg1 hg2;go_enter func228,ntmps228;go_upto_region 5 with (first | (go_at_call 130;refine (HC1.out _).mono ?_;rintro e w1 ⟨hb1,A,c,rfl,hR⟩;have HR:=aA hR;clear hR;have hK1:aBi w1 w.heap.size false 0:=Blk.keep (World.alloc_heap_new _ _) hb1;clear HC1) | (go_at_call 130;refine (HC2.out _).mono ?_;rintro e w2 ⟨hb2,B,c2,rfl,hR2⟩;have HR2:=aA hR2;clear hR2;have hK2:aBi w2 w.heap.size false 0:=Blk.keep hK1 (dZ _ hb2);have hz2:w.heap.size<w2.heap.size:=Blk.lt hK2;have hX2:JA w2 w1.heap.size cu (.slice A n c) tl:=(hb2.block w1.heap.size aH).trans (World.alloc_heap_new _ _);obtain⟨x0,x1,x2,_⟩:=hX2.facts;have hz3:w1.heap.size<w2.heap.size:=Blk.lt hX2))
 go_cut [41] (fun v wx=>v=.bool g1/\aBi wx w.heap.size false 0/\JA wx w1.heap.size cu (.slice A n c) tl/\JA wx w2.heap.size cv (.slice B m c2) tm/\aF w wx/\aF w1 wx/\aF w2 wx)
 case first =>
  have hbA:aF w w2:=aJ;have hbB:aF w1 w2:=dZ _ hb2;cases t1:(cu.toList == [42])
  ·have t1':¬ cu.toList=[42]:=by simpa using t1
   cases t2:(cv.toList == [42])
   ·have t2':¬ cv.toList=[42]:=by simpa using t2
    cases t3:(cu.toList==cv.toList)
    ·have t3':¬ cu.toList=cv.toList:=by simpa using t3
     obtain rfl:g1=true:=by rw[HG1.out,t1,t2,t3];rfl
     exact aDi
    ·have t3':cu.toList=cv.toList:=by simpa using t3
     obtain rfl:g1=false:=by rw[HG1.out,t3];simp
     exact aDi
   ·have t2':cv.toList=[42]:=by simpa using t2
    obtain rfl:g1=false:=by rw[HG1.out,t2];simp
    exact aDi
  ·have t1':cu.toList=[42]:=by simpa using t1
   obtain rfl:g1=false:=by rw[HG1.out,t1];rfl
   exact aDi
 case rest =>
  obtain⟨rfl,hKc,hXc,hYc,hbc,hbc1,hbc2⟩:=hcut;clear hK1 hK2 hX2 x0 x1 x2 hb1 hb2 HG1;obtain⟨k0,k1,g0,g9⟩:=hKc.facts;obtain⟨x0,x1,x2,_⟩:=hXc.facts;obtain⟨y0,y1,y2,_⟩:=hYc.facts;have hzc:w.heap.size<wc.heap.size:=Blk.lt hKc;cases g1;rotate_left
  ·exact aHp
  go_upto_region 7 with fail
  go_cut [68] (fun v wx=>v=.bool g2/\wx=wc)
  case first =>
   rcases Nat.lt_trichotomy n m with h | h | h
   ·have d1:decide ((n:Int)<(m:Int))=true:=decide_eq_true aB;have d1':decide (n<m)=true:=decide_eq_true h;have d2:decide ((m:Int)<(n:Int))=false:=decide_eq_false aB;have d2':decide (m<n)=false:=decide_eq_false aB;obtain rfl:g2 = !tl:=by rw[HG2.out,d1',d2'];simp
    clear HG2;cases tl;all_goals
     go_wp2_with fail;go_meet;exact⟨rfl,rfl⟩
   ·subst h;have d1:decide ((n:Int)<(n:Int))=false:=decide_eq_false aB;have d1':decide (n<n)=false:=decide_eq_false aB;obtain rfl:g2=false:=by rw[HG2.out,d1'];simp
    clear HG2;go_wp2_with fail;go_meet;exact⟨rfl,rfl⟩
   ·have d1:decide ((n:Int)<(m:Int))=false:=decide_eq_false aB;have d1':decide (n<m)=false:=decide_eq_false aB;have d2:decide ((m:Int)<(n:Int))=true:=decide_eq_true aB;have d2':decide (m<n)=true:=decide_eq_true h;obtain rfl:g2 = !tm:=by rw[HG2.out,d1',d2'];simp
    clear HG2;cases tm;all_goals
     go_wp2_with fail;go_meet;exact⟨rfl,rfl⟩
  case rest =>
  obtain⟨rfl,rfl⟩:=hcut;clear HG2;cases g2;rotate_left
  ·exact aHp
  have HV4:Hid (V=aBj x.parts y.parts):=aA aAz;clear HV;go_wp2;clear k0 k1 g0 g9 x0 x1 x2 y0 y1 y2 hzc;go_loopw [9] (fun vi wr=>∃ k:Nat,vi=.int .i64 k/\k<=n/\k<=m/\Hid (∀ j,j<k->∀ y' z,x.parts[j]? = some y'->y.parts[j]? = some z->nJ y' z=true)/\aBi wr w.heap.size false 0/\JA wr w1.heap.size cu (.slice A n c) tl/\JA wr w2.heap.size cv (.slice B m c2) tm/\aF w wr/\aF w1 wr/\aF w2 wr) (fun vi _=>n-(intOf vi).toNat)
  case atStart=>exact⟨0,rfl,Nat.zero_le _,Nat.zero_le _,aA (fun j h=>absurd h aB),hKc,hXc,hYc,hbc,hbc1,hbc2⟩
  case round =>
   clear hKc hXc hYc hbc hbc1 hbc2;obtain⟨k,rfl,hk,hkm,HK,hK,hX,hY,hbr,hbr1,hbr2⟩:=hrel;obtain⟨x0,x1,x2,_⟩:=hX.facts;obtain⟨y0,y1,y2,_⟩:=hY.facts;have hend:(k=n\/k=m)->V=true:=fun he=>by
    rw[HV4.out];refine (aCn _ _).2 (fun j y' z h1 h2=>HK.out j ?_ y' z h1 h2);have:=(List.getElem?_eq_some_iff.1 h1).1;have:=(List.getElem?_eq_some_iff.1 h2).1;have:=HM.out;have:=HN.out;omega
   have HEND:=aA hend;clear hend;by_cases hlt:k<n;rotate_left
   ·have hVt:=HEND.out (.inl aB);have d1:decide ((k:Int)<(n:Int))=false:=decide_eq_false aB;exact aHq
   have d1:decide ((k:Int)<(n:Int))=true:=decide_eq_true aB;by_cases hlt2:k<m;rotate_left
   ·have hVt:=HEND.out (.inr aB);have d2:decide ((k:Int)<(m:Int))=false:=decide_eq_false aB;exact aHq
   have d2:decide ((k:Int)<(m:Int))=true:=decide_eq_true aB;clear HEND;obtain⟨a,ha⟩:∃ a,x.parts[k]? = some a:=⟨_,List.getElem?_eq_getElem o6⟩;obtain⟨z,hz⟩:∃ z,y.parts[k]? = some z:=⟨_,List.getElem?_eq_getElem aCg⟩;obtain⟨b,o,rfl,hcell⟩:=(HR.out.keep hbr1).2 aB;obtain⟨b2,o2,rfl,hcell2⟩:=(HR2.out.keep hbr2).2 aB;have hc1:wr.cell? ⟨b,o+k,none⟩=some (.string (I9 a)):=hcell k _ (by rw[List.getElem?_map,aCh _ _ _ ha];rfl);have hc2:wr.cell? ⟨b2,o2+k,none⟩=some (.string (I9 z)):=hcell2 k _ (by rw[List.getElem?_map,aCh _ _ _ hz];rfl);obtain⟨haf,has⟩:=HPS.out a (List.mem_of_getElem? ha);obtain⟨hzf,hzs⟩:=HQS.out z (List.mem_of_getElem? hz);have cM:=fun W=>aLk (I9 a) (I9 z) W aB aB
   rw[aMi haf hzf]at cM;have hk0:(0:Int)<=(k:Int):=aB;have hk1:(k:Int)<(n:Int):=aB;have hk2:(k:Int)<(m:Int):=aB;have HY:=aA (show x.parts[k]? = some a/\y.parts[k]? = some z from⟨ha,hz⟩);generalize I9 a=sa at *;generalize I9 z=sz at *;clear hcell hcell2 ha hz haf hzf;cases hh:nJ a z
   ·have hVf:V=false:=by
     rw[HV4.out];cases hml:aBj x.parts y.parts
     ·rfl
     ·have:=(aCn x.parts y.parts).1 hml k a z HY.out.1 HY.out.2;rw[hh]at this;cases this
    rw[hh]at cM;have HMM:=aA cM;clear cM hh;go_wp2_with fail;have q1:=cell_regrown hc1;have q2:=cell_regrown hc2;have q3:=cell_regrown x1;have q4:=cell_regrown y1;refine wp_region_quiet_below aG aG ?_;(repeat (any_goals (first | go_big_quiet_step ((first | exact jS HMM.out _ _)) | quiet_step ((first | exact jS HMM.out _ _)))));refine wpQuiet_nil ?_;intro _ hwq;obtain⟨⟨dq,osq⟩,hwq⟩:=hwq;subst hwq;have hb9:=below_regrown (wr) dq osq;generalize grow (redrawn (wr) dq) osq=w9 at *;have hK9:aBi w9 w.heap.size false 0:=Blk.keep hK hb9;obtain⟨k0,k1,g0,g9⟩:=hK9.facts;have hz9:w.heap.size<w9.heap.size:=Blk.lt hK9;subst hVf;go_wp2;exact bodyPost_ret (v:=.agg #[.bool false,.int .i64 0]) aHr rfl ⟨rfl,aJ⟩
   ·have HK2:Hid (∀ j,j<k+1->∀ y' z,x.parts[j]? = some y'->y.parts[j]? = some z->nJ y' z=true):=aA (fun j hj y' z' h1 h2=>by
     by_cases e:j=k
     ·subst e;have e1:=HY.out.1.symm.trans h1;have e2:=HY.out.2.symm.trans h2;injection e1 with e1;injection e2 with e2
      rw[<-e1,<-e2];exact hh
     ·exact HK.out j aB y' z' h1 h2)
    rw[hh]at cM;have HMM:=aA cM;clear cM hh HK;go_wp2_with fail;have q1:=cell_regrown hc1;have q2:=cell_regrown hc2;have q3:=cell_regrown x1;have q4:=cell_regrown y1;refine wp_region_quiet_below aG aG ?_;(repeat (any_goals (first | go_big_quiet_step ((first | exact jS HMM.out _ _)) | quiet_step ((first | exact jS HMM.out _ _)))));refine wpQuiet_nil ?_;intro _ hwq;obtain⟨⟨dq,osq⟩,hwq⟩:=hwq;subst hwq;have hb9:=below_regrown (wr) dq osq;generalize grow (redrawn (wr) dq) osq=w9 at *;go_wp2;exact⟨⟨k+1,bg,aB,aB,HK2,Blk.keep hK hb9,Blk.keep hX hb9,Blk.keep hY hb9,aV hbr hb9,aV hbr1 hb9,aV hbr2 hb9⟩,dD⟩
theorem aMn(p q:aC)(w:World)(hp:p.size<=100000)(hq:q.size<=100000):Calls prog 228 #[.string p,.string q] w (Ret w (.agg #[.bool (aDh p q).1,.int .i64 (aDh p q).2])):=by
 unfold aDh;cases hx:dI p with
 | none=>exact aHm p q w _ _ rfl (aA (aHh hp hx)) (aA (aHi hq))
 | some x =>
  cases hy:dI q with
  | none=>exact aHm p q w _ _ (Bool.and_false _) (aA (aHi hp)) (aA (aHh hq hy))
  | some y=>exact aMm p q x y w (rZ hx) (rZ hy) (ul p hp x hx) (ul q hq y hy) _ _ _ _ _ _ rfl rfl rfl rfl rfl rfl (aA (aDf hp hx)) (aA (aDf hq hy))
end Go.Proofs.YtlkbkclnbppigaaGreatDoor
