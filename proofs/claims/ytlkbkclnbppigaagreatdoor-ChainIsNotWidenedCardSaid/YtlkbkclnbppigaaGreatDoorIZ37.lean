/- chain.Genuine. -/
import Derived.Test.YtlkbkclnbppigaaGreatDoorIZ36
set_option maxHeartbeats 16000000
namespace Go.Proofs.YtlkbkclnbppigaaGreatDoor
open Tryz
open Go.RowKit Go.Sort
set_option linter.unusedVariables false
set_option linter.unusedSimpArgs false
set_option maxRecDepth 100000
theorem uK{x:ah}{w:World}(hR:bZ w x){W:World}{g:Nat}(h:fQ W g x):(loadVar 30 ⟨g,4,none⟩).run prog W=.ok (.agg (b8 x.t.sl).toArray) W :=
 yI (P:=prog) W g 4 32 30 x.cells (b8 x.t.sl) (0,0) _ h.box (fun j v hv=>by
  unfold ah.cells bn
  rw[List.getElem?_append_right aH]
  simpa using hv) underlying30 rfl (by rw[dU,hR.sl.len];exact lh)
structure GeS(w:World)(x:ah)(PX:Array Value)(g:Nat)(KX:Array Value)(W:World):Prop where
 t:fQ W w.heap.size x
 p:aQ W (w.heap.size+1) 57 PX
 k:aQ W g 23 KX
 b:aF w W
theorem GeS.keep{w W W':World}{x:ah}{PX KX:Array Value}{g:Nat}(h:GeS w x PX g KX W)(hb:aF W W'):GeS w x PX g KX W':=⟨h.t.keep hb,h.p.keep hb,h.k.keep hb,aV h.b hb⟩
theorem Yh{L:List aj}{p s:Int}{k:aj}(h:kX L p s=some k):k∈L/\k.party=p/\k.ser=s:=by
 unfold kX at h;have h1:=List.find?_some h;simp only[decide_eq_true_eq]at h1;exact⟨List.mem_of_find?_eq_some h,h1.1,h1.2⟩
theorem Yj(A:Option Addr)(n c:Nat)(L:List aj)(x:ah)(lo hi:Int)(w:World)(hA:lV w A n L)(hn:n<=100000)(hL:vM L)(hR:bZ w x)(hc:∀ y∈x.L,kD y.c)(h1:1<=x.t.conds.length)(hn2:x.t.conds.length<=1000)(hid:x.t.id.size<=1000000)(hp:InK x.t.cust)(hs:InK x.t.ser)(hK:Ks w)(hE:Env w)(hTb:Tab w) :
  Calls prog 27 #[.slice A n c,x.val,pK lo hi] w (Ret w (.int .i64 (mY L x.t lo hi))):=by
 have hF:=fun (W:World) (hb:aF w W)=>XJ A n c L x.t.cust x.t.ser W (hA.keep hb) hn hL hp hs
 obtain⟨V,hV⟩:∃ V,V=mY L x.t lo hi:=⟨_,rfl⟩;rw[<-hV];unfold mY at hV;have HF:=aA hF;have hx0:x.cells.toArray[0]? = some (.int .i64 x.t.cust):=rfl;have hx1:x.cells.toArray[1]? = some (.int .i64 x.t.ser):=rfl;have hXS:x.cells.toArray.size=20:=sW;have hts:=fun (W:World) (g:Nat) (h:fQ W g x)=>uK hR h
 have HTS:=aA hts;have HXS:=aA hXS;obtain⟨PX,hPX⟩:∃ PX:Array Value,pK lo hi=.agg PX/\PX.size=2:=⟨#[.int .i64 lo,.int .i64 hi],rfl,rfl⟩;obtain⟨hPX,hPS⟩:=hPX;have HPS:=aA hPS;clear hF hts hXS hPS hA;unfold ah.val;cases hfk:kX L x.t.cust x.t.ser with
 | none =>
  rw[hfk]at hV HF;obtain rfl:V=5:=hV;have hz:((none:Option aj).getD sG).val=.agg (#[.int .i64 0,.int .i64 0,.string ⟨#[]⟩,.int .i64 0,.int .i64 0]:Array Value):=rfl;rw[hz]at HF;clear hfk hz hR hc hK hE hTb hL hx0 hx1;rw[hPX];go_enter func27,ntmps27;go_upto_region 1 with fail
  generalize hw0:World.alloc _ _=w0;have hb0:aF w w0:=oH;have hT0:fQ w0 w.heap.size x:=by rw[<-hw0];exact⟨(gQ w _ _).1⟩
  obtain⟨y0,y1,y2,y3⟩:=hT0.cells;clear hw0 hT0;go_wp2_with (first
   | (go_at_call 61;refine (HF.out _ hb0).mono ?_;rintro e w1 ⟨rfl,hb1⟩)
   | (refine wpList_store_row rfl _ _ _ rfl w1.heap.size (#[.int .i64 0,.int .i64 0,.string ⟨#[]⟩,.int .i64 0,.int .i64 0]:Array Value) rfl rfl _ (#[.int .i64 0,.int .i64 0,.string ⟨#[]⟩,.int .i64 0,.int .i64 0]:Array Value) (heap_alloc_new w1 _) kJ rfl qB ?_))
  go_ret;exact⟨rfl,aV (aV hb0 hb1) (below_setRow ((Below.refl _ _).alloc (Nat.le_refl _) _) (Nat.le_refl _) _)⟩
 | some k =>
  obtain⟨hmem,hpt,-⟩:=Yh hfk;have hvk:=hL.each k hmem;rw[hfk]at hV HF;replace hV:V=if lT k lo hi then (if eU k x.t=x.t.sl then 0 else 8) else 9:=hV
  have hz:((some k).getD sG).val=.agg k.arr:=rfl;rw[hz]at HF;have hks:k.secret.size<=1000000:=by
   unfold lQ at hvk;simp only[decide_eq_true_eq]at hvk;omega
  have hcur:=fun (g o c:Nat) (W:World) hld=>YV g o c k lo hi W hld
  rw[hpt,hPX]at hcur;have hrt:=fun (W:World) (hb:aF w W)=>Md k x W (hR.keep hb) hc h1 hn2 hks hid (hK.keep hb) (hE.keep hb) (hTb.keep hb)
  rw[aj.val_arr]at hrt;unfold ah.val at hrt;have hkl:k.arr=(#[.int .i64 k.party,.int .i64 k.ser,.string k.secret,.int .i64 k.fr,.int .i64 k.till]:Array Value):=rfl;have hkneq:=Yd k;have hKS:k.arr.size=5:=k.arr_size;have hK1:=k.arr_one;have hseq:=fun W=>DZ (eU k x.t) x.t.sl (Bz k x.t) hR.sl W
  generalize lT k lo hi=ct at *;have hdec:decide (eU k x.t=x.t.sl)=true\/decide (eU k x.t=x.t.sl)=false:=by cases decide (eU k x.t=x.t.sl) <;> simp
  obtain⟨q,hq⟩:∃ q,q=decide (eU k x.t=x.t.sl):=⟨_,rfl⟩;have hV2:V=if ct then (if q then 0 else 8) else 9:=by rw[hV,hq];cases ct <;> simp
  rw[<-hq]at hseq;clear hV hdec hq hfk hmem hvk hz hL hR hc hK hE hTb;generalize (b8 (eU k x.t)).toArray=RS at *;generalize hTL:(b8 x.t.sl).toArray=TL at *;rw[hPX];generalize hKX:k.arr=KX at *;have HKL:=aA hkl;have HCU:=aA hcur;have HRT:=aA hrt;have HNE:=aA hkneq;have HKS:=aA hKS;have HK1:=aA hK1;have HSE:=aA hseq;have HVV:=aA hV2;have HX0:=aA hx0;clear hkl hcur hrt hkneq hKS hK1 hseq hV2 hKX hTL hx0 hx1 hPX hpt;go_enter func27,ntmps27;go_upto_region 1 with fail
  generalize hw0:World.alloc _ _=w0;have hb0:aF w w0:=oH;have hT0:fQ w0 w.heap.size x:=by rw[<-hw0];exact⟨(gQ w _ _).1⟩
  have hP0:aQ w0 (w.heap.size+1) 57 PX:=by rw[<-hw0];exact (gQ w _ _).2
  obtain⟨y0,y1,y2,y3⟩:=hT0.cells;clear hw0;go_upto_region 2 with (first
   | (go_at_call 61;refine (HF.out _ hb0).mono ?_;rintro e w1 ⟨rfl,hb1⟩)
   | (refine wpList_store_row rfl _ _ _ rfl w1.heap.size KX rfl rfl _ (#[.int .i64 0,.int .i64 0,.string ⟨#[]⟩,.int .i64 0,.int .i64 0]:Array Value) (heap_alloc_new w1 _) ku (by rw[HKS.out];rfl) HK1.out ?_))
  (try dsimp only[Act.put]);generalize hw2:World.setRow _ _ _=w2;have hk2:aQ w2 w1.heap.size 23 KX:=by rw[<-hw2];exact setRow_heap _ _ _ _ _ _ (heap_alloc_new w1 _)
  have hb2:aF w1 w2:=by rw[<-hw2];exact below_setRow ((Below.refl _ _).alloc (Nat.le_refl _) _) (Nat.le_refl _) _
  obtain⟨g,hg⟩:∃ g,g=w1.heap.size:=⟨_,rfl⟩;have hS2:GeS w x PX g KX w2:=⟨(hT0.keep hb1).keep hb2,(hP0.keep hb1).keep hb2,by rw[hg];exact hk2,aV (aV hb0 hb1) hb2⟩;rw[<-hg];clear hg hw2 hT0 hP0 hk2 hb0 hb1 hb2 y0 y1 y2 y3 HF;have HS2:=aA hS2;obtain⟨y0,y1,y2,y3⟩:=hS2.t.cells;have hlk:(loadVar 23 ⟨g,0,none⟩).run prog w2=.ok (.agg (#[.int .i64 k.party,.int .i64 k.ser,.string k.secret,.int .i64 k.fr,.int .i64 k.till]:Array Value)) w2:=by rw[<-HKL.out];exact iM hS2.k ku
  go_upto_region 4 with fail
  have hlp2:∀ W:World,aF w2 W->(loadVar 57 ⟨w.heap.size+1,0,none⟩).run prog W=.ok (.agg PX) W:=fun W hb=>(hS2.p.keep hb).period HPS.out
  have HLP:=aA hlp2;have hcc:=HCU.out w2.heap.size 0 1 (w2.alloc (.cells (#[.int .i64 k.party,.int .i64 k.ser,.string k.secret,.int .i64 k.fr,.int .i64 k.till]:Array Value) 23)) (fun W hb=>by
   have:aQ (w2.alloc (.cells (#[.int .i64 k.party,.int .i64 k.ser,.string k.secret,.int .i64 k.fr,.int .i64 k.till]:Array Value) 23)) w2.heap.size 23 (#[.int .i64 k.party,.int .i64 k.ser,.string k.secret,.int .i64 k.fr,.int .i64 k.till]:Array Value):=heap_alloc_new w2 _;rw[HKL.out];exact iM (this.keep hb) kJ)
  have hb3:=fJ w2 (.cells (#[.int .i64 k.party,.int .i64 k.ser,.string k.secret,.int .i64 k.fr,.int .i64 k.till]:Array Value) 23);have HCC:=aA hcc;have hy0:∀ W:World,aF w2 W->W.cell? ⟨w.heap.size,0,none⟩=some (.int .i64 x.t.cust):=fun W hb=>aW hb y0
  have z0:=hy0 _ hb3;have hlp3:=HLP.out _ hb3;clear hcc hlp2 hS2 hy0;cases ct
  ·obtain rfl:V=9:=HVV.out;clear HVV;go_wp2_with (first
    | (refine bD rfl 23 _ rfl ⟨g,0,none⟩ (.agg (#[.int .i64 k.party,.int .i64 k.ser,.string k.secret,.int .i64 k.fr,.int .i64 k.till]:Array Value)) rfl hlk ?_)
    | (refine bD rfl 57 _ rfl ⟨w.heap.size+1,0,none⟩ (.agg PX) rfl hlp3 ?_)
    | (go_at_call 62;refine HCC.out.mono ?_;rintro e w5 ⟨rfl,hb5⟩)
    | (refine wpList_store_row rfl _ _ _ rfl w5.heap.size (#[.int .i64 0,.int .i64 0,.string ⟨#[]⟩,.int .i64 0,.int .i64 0]:Array Value) rfl rfl _ (#[.int .i64 0,.int .i64 0,.string ⟨#[]⟩,.int .i64 0,.int .i64 0]:Array Value) (heap_alloc_new w5 _) kJ rfl qB ?_))
   go_ret;exact⟨rfl,aV (aV (aV HS2.out.b hb3) hb5) (below_setRow ((Below.refl _ _).alloc (Nat.le_refl _) _) (Nat.le_refl _) _)⟩
  have hV3:V=if q then 0 else 8:=HVV.out
  clear HVV;have HB3:=aA hb3;go_upto_region 5 with (first
   | (refine bD rfl 23 _ rfl ⟨g,0,none⟩ (.agg (#[.int .i64 k.party,.int .i64 k.ser,.string k.secret,.int .i64 k.fr,.int .i64 k.till]:Array Value)) rfl hlk ?_)
   | (refine bD rfl 57 _ rfl ⟨w.heap.size+1,0,none⟩ (.agg PX) rfl hlp3 ?_)
   | (go_at_call 62;refine HCC.out.mono ?_;rintro e w5 ⟨rfl,hb5⟩;clear HCC;have HB5:=aA hb5;clear hb5)
   | (refine wpList_store_row rfl _ _ _ rfl w5.heap.size KX rfl rfl _ (#[.int .i64 0,.int .i64 0,.string ⟨#[]⟩,.int .i64 0,.int .i64 0]:Array Value) (heap_alloc_new w5 _) ku (by rw[HKS.out];rfl) HK1.out ?_))
  (try dsimp only[Act.put]);generalize hw6:World.setRow _ _ _=w6;have hk6:aQ w6 w5.heap.size 23 KX:=by rw[<-hw6];exact setRow_heap _ _ _ _ _ _ (heap_alloc_new w5 _)
  have hb6:aF w5 w6:=by rw[<-hw6];exact below_setRow ((Below.refl _ _).alloc (Nat.le_refl _) _) (Nat.le_refl _) _
  have hS6:=((HS2.out.keep HB3.out).keep HB5.out).keep hb6;obtain⟨h,hh⟩:∃ h,h=w5.heap.size:=⟨_,rfl⟩;rw[<-hh]at hk6 ⊢;have hl1:=iM hk6 ku;have hl2:=iM hS6.k ku;have HS6:=aA hS6;have HL1:=aA hl1;have HL2:=aA hl2;clear hh hw6 hb6 hk6 hS6 hl1 hl2 HS2 hlk hlp3 HLP z0 y0 y1 y2 y3 HB3 HB5 hb3;generalize hv29:Value.tuple #[Value.agg KX,Value.int .i64 0]=v29;clear hv29;have hne:=HNE.out;have hHH:=HS6.out.t.cells;go_upto_region 7 with (first
   | (go_big_want;refine jE 23 _ rfl ⟨h,0,none⟩ (.agg KX) rfl HL1.out ?_;simp only[aZ,bH,Act.put])
   | (go_big_want;refine jE 23 _ rfl ⟨g,0,none⟩ (.agg KX) rfl HL2.out ?_;simp only[aZ,bH,Act.put]))
  clear hne hHH HL1 HL2 HNE;refine qm 6 aG aG aG (DL [IsV (.agg KX),IsV (.agg x.cells.toArray),IsV (.agg RS),IsV (.pointer (some ⟨w.heap.size,4,none⟩)),IsV (.agg TL),IsV (.bool (!q))]) (DL.keep _ Dc) (GeS w x PX g KX) (HS6.out.keep (Below.drew (Below.refl _ _))) (fun _ _ h hb=>h.keep hb) ?_ ?_
  ·dsimp only[List.take_succ_cons,List.take_zero,mf];refine⟨fun vals W hS hd=>?_,fun vals W hS hd=>?_,fun vals W hS hd=>?_,fun vals W hS hd=>?_,fun vals W hS hd=>?_,fun vals W hS hd=>?_,trivial⟩
   ·(try simp only[bQ,DL,IsV,bV,Region.binds,and_true,true_and]at hd);simp only[aZ,bH,Act.put];(try simp only[hd]);clear hd;have hld:=iM hS.k ku;go_wp2_with (refine bD rfl 23 _ rfl ⟨g,0,none⟩ (.agg KX) rfl hld ?_);exact⟨rfl,rfl,rfl,aJ⟩
   ·(try simp only[bQ,DL,IsV,bV,Region.binds,and_true,true_and]at hd);simp only[aZ,bH,Act.put];(try simp only[hd]);clear hd;have hld:=dY hS.t.box HXS.out;go_wp2_with (refine bD rfl 32 _ rfl ⟨w.heap.size,0,none⟩ (.agg x.cells.toArray) rfl hld ?_);exact⟨rfl,rfl,rfl,aJ⟩
   ·(try simp only[bQ,DL,IsV,bV,Region.binds,and_true,true_and]at hd);simp only[aZ,bH,Act.put];(try simp only[hd]);clear hd;have hbW:=hS.b;go_wp2_with (go_at_call 44;refine (HRT.out _ hbW).mono ?_;rintro e w5 ⟨rfl,hb5⟩);exact⟨rfl,rfl,rfl,aJ⟩
   ·exact jh
   ·(try simp only[bQ,DL,IsV,bV,Region.binds,and_true,true_and]at hd);simp only[aZ,bH,Act.put];(try simp only[hd]);clear hd;have hld:=HTS.out W _ hS.t;go_wp2_with (refine bD rfl 30 _ rfl ⟨w.heap.size,4,none⟩ (.agg TL) rfl hld ?_);exact⟨rfl,rfl,rfl,aJ⟩
   ·(try simp only[bQ,DL,IsV,bV,Region.binds,and_true,true_and]at hd);simp only[aZ,bH,Act.put];obtain⟨hd1,hd2⟩:=hd;(try simp only[hd1,hd2]);clear hd1 hd2;have hse:=HSE.out W;go_wp2;exact⟨rfl,rfl,rfl,aJ⟩
  ·intro vals w9 hS9 hD9;have e5:vals 5=.bool (!q):=hD9 5 aB;simp only[aZ,bH,Act.put];simp only[e5];clear hD9 e5;cases q
   ·obtain rfl:V=8:=hV3;go_wp2;go_ret;exact⟨rfl,hS9.b⟩
   ·obtain rfl:V=0:=hV3;go_wp2;go_ret;exact⟨rfl,hS9.b⟩
def kF(a:dN):List Value:=[.string a.addr,.string a.client,.string a.country,.int .i64 a.site,.int .i64 a.lo,.int .i64 a.hi]
theorem Ny(a:dN):a.val=.agg (kF a).toArray:=rfl
theorem wR{w:World}{g:Nat}{X:Array Value}{t:TypeId}(hg:w.heap[g]? = some (.cells X t (0,0)))(hs:X.size=6):(loadVar 59 ⟨g,0,none⟩).run prog w=.ok (.agg X) w :=
 run_loadVar_row (P:=prog) w g _ 59 X _ _ hg underlying59 rfl (by rw[hs];kernel_rfl)
theorem Yk{W:World}{g:Nat}{a:dN}(h:aQ W g 59 (kF a).toArray):(loadVar 57 ⟨g,4,none⟩).run prog W=.ok (pK a.lo a.hi) W :=
 yI (P:=prog) W g 4 59 57 (kF a) [.int .i64 a.lo,.int .i64 a.hi] (0,0) _ h (fun j v hv=>by
  match j,hv with
  | 0,hv=>exact hv
  | 1,hv=>exact hv
  | j+2,hv=>simp at hv) underlying57 rfl aG
theorem Yl(c:aY)(m:ae)(a:dN)(g:Nat)(w:World)(hR:dA w c m)(hc:dE c)(ha:lD a)(hE:Env w)(hb:aQ w g 59 (kF a).toArray):Calls prog 64 #[ae.val c m,.pointer (some ⟨g,0,none⟩)] w (Ret w (.bool (!fM c a))):=by
 have hh:=fun (W:World) (hb:aF w W)=>U9 c m a W (hR.keep hb) hc ha (hE.keep hb)
 rw[Ny]at hh;have hS:(kF a).toArray.size=6:=rfl;generalize (kF a).toArray=X at *;obtain⟨Y,hY,hYS⟩:∃ Y:Array Value,ae.val c m=.agg Y/\Y.size=7:=⟨_,rfl,rfl⟩;rw[hY]at hh ⊢;have HH:=aA hh;have HX:=aA hb;have HS:=aA hS;have HYS:=aA hYS;clear hh hb hS hYS hY hR hE;generalize fM c a=q at *;go_enter func64,ntmps64;go_upto_region 1 with fail
 generalize hw0:World.alloc _ _=w0;have hb0:aF w w0:=yY;have hy0:aQ w0 w.heap.size 27 Y:=vN;have hldc:=iO hy0 HYS.out;have hlda:=wR (HX.out.keep hb0) HS.out;clear hw0 hy0;go_wp2_with (first
  | (refine bD rfl 27 _ rfl ⟨w.heap.size,0,none⟩ (.agg Y) rfl hldc ?_)
  | (refine bD rfl 59 _ rfl ⟨g,0,none⟩ (.agg X) rfl hlda ?_)
  | (go_at_call 41;refine (HH.out _ hb0).mono ?_;rintro e w1 ⟨rfl,hb1⟩))
 go_ret;exact⟨rfl,aV hb0 hb1⟩
theorem Ym(t:bz)(x:ah)(a:dN)(h:x.L.map (·.c)=t.conds):x.L.any (fun y=>!fM y.c a) = !t.conds.all (fun c=>fM c a):=by
 rw[<-h,List.all_map,List.any_eq_not_all_not];congr 2;funext y;simp
structure ChS(w:World)(x:ah)(X:Array Value)(W:World):Prop where
 t:fQ W w.heap.size x
 a:aQ W (w.heap.size+1) 59 X
 b:aF w W
theorem ChS.keep{w W W':World}{x:ah}{X:Array Value}(h:ChS w x X W)(hb:aF W W'):ChS w x X W':=⟨h.t.keep hb,h.a.keep hb,aV h.b hb⟩
theorem Yp(A:Option Addr)(n c:Nat)(L:List aj)(x:ah)(a:dN)(w:World)(hA:lV w A n L)(hn:n<=100000)(hL:vM L)(hR:bZ w x)(hc:∀ y∈x.L,kD y.c)(ha:lD a)(h1:1<=x.t.conds.length)(hn2:x.t.conds.length<=1000)(hid:x.t.id.size<=1000000)(hp:InK x.t.cust)(hs:InK x.t.ser)(hK:Ks w)(hE:Env w)(hTb:Tab w) :
  Calls prog 29 #[.slice A n c,x.val,a.val] w (Ret w (.int .i64 (iY L x.t a))):=by
 have hG:=fun (W:World) (hb:aF w W)=>Yj A n c L x a.lo a.hi W (hA.keep hb) hn hL (hR.keep hb) hc h1 hn2 hid hp hs (hK.keep hb) (hE.keep hb) (hTb.keep hb)
 have hC:=fun (g:Nat) (W:World) (hb:aF w W) (hx:aQ W g 59 (kF a).toArray)=>J4 64 (enters_of func64 aG rfl) #[.pointer (some ⟨g,0,none⟩)] (fun y=>!fM y.c a) x.A x.t.conds.length x.c x.L W
  (fun y hy W2 hb2=>Yl y.c y.m a g W2 (((hR.conds.each y hy).keep hb).keep hb2) (hc y hy).fits ha ((hE.keep hb).keep hb2) (hx.keep hb2)) (hR.conds.keep hb) aB
 rw[Ym x.t x a hR.same]at hC;have hat:=fun (W:World) (g:Nat) (h:aQ W g 59 (kF a).toArray)=>Yk h
 have hV:iY L x.t a=if mY L x.t a.lo a.hi=0 then (if x.t.conds.all fun c=>fM c a then 0 else 250) else mY L x.t a.lo a.hi:=rfl
 rw[hV,Ny];generalize mY L x.t a.lo a.hi=e at *;generalize (x.t.conds.all fun c=>fM c a)=q at *;have hTS:x.cells.toArray.size=20:=sW;obtain⟨P,hP⟩:∃ P,pK a.lo a.hi=.agg P:=⟨_,rfl⟩;rw[hP]at hG hat;generalize (kF a).toArray=X at *;unfold ah.val at hG ⊢;have HG:=aA hG;have HC:=aA hC;have HAT:=aA hat;have HTS:=aA hTS;obtain⟨n2,hln⟩:∃ n2,x.t.conds.length=n2:=⟨_,rfl⟩;rw[hln]at HC;have HLN:=aA hln;clear hG hC hat hTS hV hP hln hA hL hR hc ha hK hE hTb;go_enter func29,ntmps29;go_upto_region 1 with fail
 generalize hw0:World.alloc _ _=w0;have hS0:ChS w x X w0:=by
  rw[<-hw0];exact⟨⟨(gQ w _ _).1⟩,(gQ w _ _).2,aJ⟩
 have HS0:=aA hS0;have hldt:=dY hS0.t.box HTS.out;have hlda:=HAT.out w0 _ hS0.a;have hb0:=hS0.b;clear hw0 hS0;by_cases he:e=0
 ·subst he;rw[if_pos rfl];go_upto_region 4 with (first
   | (refine bD rfl 32 _ rfl ⟨w.heap.size,0,none⟩ (.agg x.cells.toArray) rfl hldt ?_)
   | (refine bD rfl 57 _ rfl ⟨w.heap.size+1,4,none⟩ (.agg P) rfl hlda ?_)
   | (go_at_call 27;refine (HG.out _ hb0).mono ?_;rintro e w1 ⟨rfl,hb1⟩))
  have hS1:=HS0.out.keep hb1;obtain⟨y0,y1,y2,y3⟩:=hS1.t.cells;rw[HLN.out]at y3;have hcc:=HC.out _ w1 hS1.b hS1.a;have HCC:=aA hcc;have HB1:=aA hS1.b;have hmf:∀(fn:Fn)(first cap:Array Value)(w:World),(Instr.makeFunc fn first cap).run prog w=.ok (.func fn first cap) w:=fun _ _ _ _=>rfl
  clear hcc hS1 hldt hlda HS0 hb0;cases q
  ·exact Nz
  ·exact Nz
 ·rw[if_neg he];have he2:(e != 0)=true:=by simpa using he
  go_wp2_with (first
   | (refine bD rfl 32 _ rfl ⟨w.heap.size,0,none⟩ (.agg x.cells.toArray) rfl hldt ?_)
   | (refine bD rfl 57 _ rfl ⟨w.heap.size+1,4,none⟩ (.agg P) rfl hlda ?_)
   | (go_at_call 27;refine (HG.out _ hb0).mono ?_;rintro e w1 ⟨rfl,hb1⟩))
  go_ret;exact⟨rfl,aV HS0.out.b hb1⟩
theorem N7{w w':World}{base size n:Nat}{e:TypeId}{v:Value}{xs:List Value}{bk:Option Nat}(h:w.ownsRow base e size v n xs)(hg:w.grownBy w' bk)(hne:v.ownBlock=none\/v.ownBlock≠bk):w'.ownsRow base e size v n xs:=by
 refine⟨h.1,?_⟩;rcases h.2 with ⟨h4,h5⟩ | ⟨g,cap,cur,rfl,hbg,hg2,hr⟩
 ·exact .inl ⟨h4,h5⟩
 ·refine .inr ⟨g,cap,cur,rfl,hbg,?_,hr⟩;rcases hne with h | h
  ·cases h
  ·exact (hg.block g (Array.getElem?_eq_some_iff.1 hg2).1 (fun e=>h e)).trans hg2
theorem Yq{w:World}{b1 b2 s1 s2 n1 n2:Nat}{e1 e2:TypeId}{v1 v2:Value}{x1 x2:List Value}(h1:w.ownsRow b1 e1 s1 v1 n1 x1)(h2:w.ownsRow b2 e2 s2 v2 n2 x2)(he:e1≠e2):v1.ownBlock=none\/v1.ownBlock≠v2.ownBlock:=by
 rcases h1.2 with ⟨rfl,_⟩ | ⟨g,cap,cur,rfl,_,hg,_⟩
 ·exact .inl rfl
 ·rcases h2.2 with ⟨rfl,_⟩ | ⟨g',cap',cur',rfl,_,hg',_⟩
  ·exact .inr (by simp[Value.ownBlock])
  ·refine .inr fun e=>?_
   simp only[Value.ownBlock,Option.some.injEq]at e;subst e;rw[hg]at hg';injection hg' with hg'
   injection hg' with _ hg'
   exact he hg'
structure HxG(n0 n:Nat)(xs ys:List Value)(a b:World):Prop where
 low:Below n0 a b
 r1:∀ v,a.ownsRow n0 5 1 v n xs->b.ownsRow n0 5 1 v n xs
 r2:∀ v,a.ownsRow n0 5 1 v (n+2) (xs++ys)->b.ownsRow n0 5 1 v (n+2) (xs++ys)
 r3:∀ v,a.ownsRow n0 5 1 v 2 ys->b.ownsRow n0 5 1 v 2 ys
 st:∀ v k zs,a.ownsRow n0 9 1 v k zs->b.ownsRow n0 9 1 v k zs
theorem HxG.refl{n0 n:Nat}{xs ys:List Value}(a:World):HxG n0 n xs ys a a:=⟨Below.refl _ _,fun _ h=>h,fun _ h=>h,fun _ h=>h,fun _ _ _ h=>h⟩
theorem HxG.trans{n0 n:Nat}{xs ys:List Value}(a b c:World)(h:HxG n0 n xs ys a b)(k:HxG n0 n xs ys b c):HxG n0 n xs ys a c :=
 ⟨h.low.trans k.low,fun v x=>k.r1 v (h.r1 v x),fun v x=>k.r2 v (h.r2 v x),fun v x=>k.r3 v (h.r3 v x),fun v i z x=>k.st v i z (h.st v i z x)⟩
theorem HxG.of{n0 n:Nat}{xs ys:List Value}{a b:World}(h:aF a b)(h0:n0<=a.heap.size):HxG n0 n xs ys a b :=
 ⟨h.mono h0,fun _ x=>fZ x h,fun _ x=>fZ x h,fun _ x=>fZ x h,fun _ _ _ x=>fZ x h⟩
def jC(s:List Nat):List Nat:=(jf s).map UInt8.toNat
theorem Yr(s:List Nat):∀ x∈jC s,x<256:=by
 intro x hx;obtain⟨b,_,rfl⟩:=List.mem_map.1 hx;exact b.toNat_lt
theorem Yt(s:List Nat):toN (jC s)=kC s:=by
 unfold toN jC kC;rw[List.map_map];congr 2
 conv=>rhs;rw[<-List.map_id (jf s)]
 exact List.map_congr_left fun b _=>aH
theorem Yu(s:List Nat)(a:Nat):jC (s++[a])=jC s++[(iZ (a / 16)).toNat,(iZ (a % 16)).toNat]:=by
 unfold jC jf;simp
theorem Yv(s:List Nat):(jC s).length=2*s.length:=by
 unfold jC;rw[List.length_map];induction s with
 | nil=>rfl
 | cons n s ih=>show (iZ (n / 16) :: iZ (n % 16) :: jf s).length=_;simp[ih];omega
theorem Yw(W:World)(l:List Nat)(j a:Nat)(h:l[j]? = some a)(hl:l.length=16):(Instr.index 30 (.agg (b8 l).toArray) (.int .i64 j)).run prog W=.ok (.int .u8 (a:Int)) W:=by
 have h1:=run_underlying underlying30 W;have h2:=run_underlying underlying5 W;have h4:(b8 l)[j]? = some (.int .u8 (a:Int)):=by unfold b8;rw[List.getElem?_map,h];rfl
 have hj:j<16:=by rw[<-hl];exact (List.getElem?_eq_some_iff.1 h).1
 have h5:(0:Int)<=(j:Int)/\(j:Int)<16:=aB;simp[Instr.index,asIntOf,h1,h2,h4,hj,go_sem]
theorem N8(W:World)(n:Nat)(h:n<16):(Instr.index 9 (.string ⟨#[48,49,50,51,52,53,54,55,56,57,97,98,99,100,101,102]⟩) (.int .u8 (n:Int))).run prog W=.ok (.int .u8 ((iZ n).toNat:Int)) W:=by
 have h1:=run_underlying underlying9 W;have key:∀ n:Nat,n<16->(⟨#[48,49,50,51,52,53,54,55,56,57,97,98,99,100,101,102]⟩:aC)[n]? = some (iZ n):=aK;have h5:(0:Int)<=(n:Int):=aB;simp[Instr.index,asIntOf,h1,key n h,h5,go_sem]
structure TsS(w:World)(x y:ah)(W:World):Prop where
 x:fQ W w.heap.size x
 y:fQ W (w.heap.size+1) y
 b:aF w W
theorem TsS.keep{w W W':World}{x y:ah}(h:TsS w x y W)(hb:aF W W'):TsS w x y W':=⟨h.x.keep hb,h.y.keep hb,aV h.b hb⟩
theorem Yx(x y:ah)(w:World)(hx:bZ w x)(hy:bZ w y)(he:y.t=x.t)(hf:∀ z∈x.L,dE z.c)(hn:x.t.conds.length<=1000) :
  Calls prog 16 #[x.val,y.val] w (Ret w (.bool true)):=by
 have hsx:=fun (W:World) (g:Nat) (h:fQ W g x)=>uK hx h
 have hsy:=fun (W:World) (g:Nat) (h:fQ W g y)=>uK hy h
 rw[he]at hsy;have heq:=fun W=>YZ x.t.sl x.t.sl hx.sl hx.sl W
 have heq2:=fun W=>DZ x.t.sl x.t.sl hx.sl hx.sl W
 rw[show decide (x.t.sl=x.t.sl)=true from decide_eq_true rfl]at heq heq2;have hL:∀ i,i<x.t.conds.length->∃ u v,x.L[i]? = some u/\y.L[i]? = some v/\v.c=u.c:=by
  intro i hi;have h1:(x.L.map (·.c))[i]? = (y.L.map (·.c))[i]?:=by rw[hx.same,hy.same,he]
  have l1:=hx.conds.len;have l2:=hy.conds.len;rw[he]at l2;obtain⟨u,hu⟩:∃ u,x.L[i]? = some u:=⟨_,List.getElem?_eq_getElem aB⟩;obtain⟨v,hv⟩:∃ v,y.L[i]? = some v:=⟨_,List.getElem?_eq_getElem aB⟩;refine⟨u,v,hu,hv,?_⟩;rw[List.getElem?_map,List.getElem?_map,hu,hv]at h1;exact (Option.some.inj h1).symm
 have hsm:=fun (u v:CoM) (hu:u∈x.L) (hv:v∈y.L) (e:v.c=u.c) (W:World) (hb:aF w W)=>(show Calls prog 21 #[ae.val u.c u.m,ae.val v.c v.m] W (Ret W (.bool true)) from e.symm▸MI u.c u.m v.m W ((hx.conds.each u hu).keep hb) (e▸((hy.conds.each v hv).keep hb)) (hf u hu))
 have hax:=fun (i:Nat) (u:CoM) (h:x.L[i]? = some u)=>hx.conds.at_ h
 have hay:=fun (i:Nat) (u:CoM) (h:y.L[i]? = some u)=>hy.conds.at_ h
 simp only[oJ]at hsm;generalize hS:(b8 x.t.sl).toArray=S at *;generalize hln:x.t.conds.length=n at *;have hly:y.t.conds.length=n:=by rw[he];exact hln
 have HSX:=aA hsx;have HSY:=aA hsy;have HEQ:=aA heq;have HEQ2:=aA heq2;have HL:=aA hL;have HSM:=aA hsm;have HAX:=aA hax;have HAY:=aA hay;have HLX:=aA hln;have HLY:=aA hly;have HTE:=aA he;clear hsx hsy heq heq2 hL hsm hax hay hln hly he hS hx hy hf;unfold ah.val;go_enter func16,ntmps16;go_upto_region 1 with fail
 generalize hw0:World.alloc _ _=w0;have hS0:TsS w x y w0:=by rw[<-hw0];exact⟨⟨(gQ w _ _).1⟩,⟨(gQ w _ _).2⟩,aJ⟩
 clear hw0;obtain⟨y0,y1,y2,y3⟩:=hS0.x.cells;obtain⟨z0,z1,z2,z3⟩:=hS0.y.cells;rw[HLX.out]at y3;rw[HLY.out]at z3;rw[HTE.out]at z0 z1 z2;have e2:=HEQ2.out w0;have HSZ:=aA hS0;clear hS0;go_wp2_with (((first | (go_big_want;refine jE 30 _ rfl ⟨w.heap.size,4,none⟩ (.agg S) rfl (HSX.out _ _ HSZ.out.x) ?_) | (go_big_want;refine jE 30 _ rfl ⟨w.heap.size+1,4,none⟩ (.agg S) rfl (HSY.out _ _ HSZ.out.y) ?_));simp only[Act.put,ag]));clear y0 y1 y2 y3 z0 z1 z2 z3 e2;go_loopw [5] (fun vi wr=>∃ k:Nat,(vi=.int .i64 k/\k<=n)/\Hid (TsS w x y wr)) (fun vi _=>n-(intOf vi).toNat)
 case atStart=>exact⟨0,⟨rfl,Nat.zero_le _⟩,HSZ⟩
 case round =>
  obtain⟨k,⟨rfl,hk⟩,HS⟩:=hrel;obtain⟨y0,y1,y2,y3⟩:=HS.out.x.cells;rw[HLX.out]at y3;by_cases hlt:k<n
  ·obtain⟨u,v,hu,hv,e⟩:=HL.out k hlt;obtain⟨_,b,o,hA,hc⟩:=HAX.out k u hu;obtain⟨_,b',o',hA',hc'⟩:=HAY.out k v hv;have hcx:=fun (W:World) (hb:aF w W)=>pX W b (o+k*7) u (fun j z hz=>aW hb (hc j z hz))
   have hcy:=fun (W:World) (hb:aF w W)=>pX W b' (o' + k*7) v (fun j z hz=>aW hb (hc' j z hz))
   have hs:=HSM.out u v (List.mem_of_getElem? hu) (List.mem_of_getElem? hv) e;simp only[oJ]at hcx hcy;generalize dS u.c u.m=UX at *;generalize dS v.c v.m=VX at *;have HCX:=aA hcx;have HCY:=aA hcy;have HSS:=aA hs;have HXA:=aA hA;have HYA:=aA hA';clear hcx hcy hs hu hv e hc hc' hA hA';have hk0:(0:Int)<=(k:Int):=aB;have hk1:(k:Int)<(n:Int):=aB;rw[HXA.out]at y3;go_upto_region 6 with fail
   refine Ec 12 aG aG aG (fun i=>[.pointer (some ⟨w.heap.size,3,none⟩),.slice (some ⟨b,o,none⟩) n x.c,.int .i64 k,.pointer (some ⟨b,o+k*7,none⟩),.agg UX,.pointer (some ⟨w.heap.size+1,3,none⟩),.slice (some ⟨b',o',none⟩) n y.c,.int .i64 k,.pointer (some ⟨b',o' + k*7,none⟩),.agg VX,.bool true,.bool true].getD i undef) (TsS w x y) (HS.out.keep (Below.drew (Below.refl _ _))) (fun _ _ h hb=>h.keep hb) ?_ ?_
   ·simp only[aZ,bH,Act.put];refine⟨fun W hS=>?_,fun W hS=>?_,fun W hS=>?_,fun W hS=>?_,fun W hS=>?_,fun W hS=>?_,fun W hS=>?_,fun W hS=>?_,fun W hS=>?_,fun W hS=>?_,fun W hS=>?_,fun W hS=>?_,trivial⟩;all_goals
     obtain⟨y0,y1,y2,y3⟩:=hS.x.cells;obtain⟨z0,z1,z2,z3⟩:=hS.y.cells;rw[HLX.out,HXA.out]at y3;rw[HLY.out,HYA.out]at z3;have hbW:=hS.b;go_wp2_with (first | (refine rE aG 27 _ rfl ⟨b,o+k*7,none⟩ (.agg UX) rfl (HCX.out _ hbW) ?_) | (refine rE aG 27 _ rfl ⟨b',o' + k*7,none⟩ (.agg VX) rfl (HCY.out _ hbW) ?_) | (go_at_call 21;refine (HSS.out _ hbW).mono ?_;rintro e w2 ⟨rfl,hb2⟩));exact⟨rfl,rfl,zU⟩
   intro wy hSy;simp only[aZ,bH,Act.put];go_wp2;exact⟨⟨k+1,⟨bg,aB⟩,aA hSy⟩,dD⟩
  ·obtain rfl:k=n:=aB;have hbW:=HS.out.b;go_wp2;go_ret;exact⟨rfl,hbW⟩
end Go.Proofs.YtlkbkclnbppigaaGreatDoor
