/- The specification's Meaning. -/
import Derived.Test.YtlkbkclnbppigaaGreatDoorQY5
import Derived.Test.YtlkbkclnbppigaaGreatDoorISan25
import Derived.Test.YtlkbkclnbppigaaGreatDoorCards
import Derived.Test.YtlkbkclnbppigaaGreatDoorTie
set_option maxHeartbeats 32000000
namespace Go.Proofs.YtlkbkclnbppigaaGreatDoor
open _root_.Go.Proofs.Tryz _root_.Go.Proofs.YtlkbkclnbppigaaGreatDoor.Tryz
open Go.RowKit Go.Sort
set_option linter.unusedVariables false
set_option linter.unusedSimpArgs false
set_option maxRecDepth 100000
def F6(c:aY)(m:ae)(er:Int):List Value:=[.int .i64 c.fr,.int .i64 c.till,.string c.pat,.slice m.A c.cl.length m.ca,.slice m.B c.co.length m.cb,.slice m.S c.si.length m.cs,.int .i64 c.us,.int .i64 er]
def aFf(c:aY)(w:World)(e:Ending)(w':World):Prop:=aF w w'/\∃ m,e=.returned (.agg (F6 c m 0).toArray)/\dA w' c m
theorem aMz(c:aY)(m:ae)(W:World):(Instr.build 48 #[(0,.agg (dS c m))]).run prog W=.ok (.agg (F6 c m 0).toArray) W:=run_build W _ _ _ aG
theorem aFg:(prog.info? 48).map (·.size)=some 8:=by kernel_rfl
theorem aNa:(prog.info? 90).map (·.size)=some 8:=by kernel_rfl
theorem aFh(c:aY)(m:ae)(er:Int):(F6 c m er).toArray.all (·.oneCell')=true:=by rw[List.all_toArray];rfl
theorem aNb{w:World}{g:Nat}{X:Array Value}{t:TypeId}(hg:w.heap[g]? = some (.cells X t (0,0)))(hs:X.size=8):(loadVar 48 ⟨g,0,none⟩).run prog w=.ok (.agg X) w :=
 run_loadVar_row (P:=prog) w g _ 48 X _ _ hg underlying48 rfl (by rw[hs];exact aFg)
theorem aIi{W:World}{g:Nat}{c:aY}{m:ae}{t:TypeId}(h:aQ W g t (F6 c m 0).toArray):(loadVar 27 ⟨g,0,none⟩).run prog W=.ok (.agg (dS c m)) W :=
 yI (P:=prog) W g 0 t 27 (F6 c m 0) (dS c m).toList (0,0) _ h (fun j v hv=>by
  match j,hv with
  | 0,hv=>exact hv
  | 1,hv=>exact hv
  | 2,hv=>exact hv
  | 3,hv=>exact hv
  | 4,hv=>exact hv
  | 5,hv=>exact hv
  | 6,hv=>exact hv
  | j+7,hv=>simp[dS]at hv) underlying27 rfl aG
def MtP(X:aY):Value->World->Prop:=fun v W=>∃ m,v=.agg (F6 X m 0).toArray/\dA W X m/\wI W m.A X.cl.length 9/\wI W m.B X.co.length 9/\wI W m.S X.si.length 3
theorem aNc(X:aY):sV (MtP X):=fun _ _ _ ⟨m,e,h,h1,h2,h3⟩ hb=>⟨m,e,h.keep hb,h1.keep hb,h2.keep hb,h3.keep hb⟩
def NwP(n0:Nat):Value->World->Prop:=fun v W=>∃ g,v=.pointer (some ⟨g,0,none⟩)/\n0<=g/\aQ W g 90 (#[.int .i64 0,.int .i64 0,.string ⟨#[]⟩,.slice none 0 0,.slice none 0 0,.slice none 0 0,.int .i64 0,.int .i64 0]:Array Value)
theorem aNd(n0:Nat):sV (NwP n0):=fun _ _ _ ⟨g,e,h,hx⟩ hb=>⟨g,e,h,hx.keep hb⟩
structure RnS(w:World)(x:ah)(Z:Array Value)(W:World):Prop where
 t:fQ W w.heap.size x
 z:aQ W (w.heap.size+1) 48 Z
 b:aF w W
theorem RnS.keep{w W W':World}{x:ah}{Z:Array Value}(h:RnS w x Z W)(hb:aF W W'):RnS w x Z W':=⟨h.t.keep hb,h.z.keep hb,aV h.b hb⟩
theorem RnS.low{w W W':World}{x:ah}{Z:Array Value}(h:RnS w x Z W)(hb:Below (w.heap.size+2) W W'):RnS w x Z W' :=
 ⟨⟨(hb.block _ aB).trans h.t.box⟩,(hb.block _ aB).trans h.z,h.b.trans (hb.mono aB)⟩
structure RnL(w:World)(x:ah)(g n0:Nat)(Y:Array Value)(c:aY)(m:ae)(W:World):Prop where
 s:RnS w x (#[.int .i64 0,.int .i64 0,.string ⟨#[]⟩,.slice none 0 0,.slice none 0 0,.slice none 0 0,.int .i64 0,.int .i64 0]:Array Value) W
 g:aQ W g 27 Y
 r:dA W c m
 n:n0<=W.heap.size
theorem RnL.keep{w W W':World}{x:ah}{g n0:Nat}{Y:Array Value}{c:aY}{m:ae}(h:RnL w x g n0 Y c m W)(hb:aF W W'):RnL w x g n0 Y c m W':=⟨h.s.keep hb,h.g.keep hb,h.r.keep hb,Nat.le_trans h.n hb.size⟩
theorem aNe(x:ah)(w:World)(hR:bZ w x)(hv:∀ y∈x.L,bF y.c=true)(hf:∀ y∈x.L,dE y.c)(h1:1<=x.t.conds.length)(hn:x.t.conds.length<=1000) :
  Calls prog 20 #[x.val] w (aFf (sH x.t.conds) w):=by
 have hl:=hR.conds.len;have hall:∀ c∈x.t.conds,bF c=true/\dE c:=by
  intro c hc;rw[<-hR.same]at hc;obtain⟨y,hy,rfl⟩:=List.mem_map.1 hc;exact⟨hv y hy,hf y hy⟩
 have hsm:=fun i=>YP h1 (fun c hc=>(hall c hc).1) (fun c hc=>(hall c hc).2) i
 obtain⟨z,hz⟩:∃ z,x.L[0]? = some z:=⟨_,List.getElem?_eq_getElem aB⟩;have hhead:kE x.t 1=z.c:=by
  have:=yh hR hz;unfold kE;cases hcs:x.t.conds with
  | nil=>rw[hcs]at this;simp at this
  | cons a r=>rw[hcs]at this;simpa using this
 obtain⟨_,b,o,hA,hcell0⟩:=hR.conds.at_ hz;have hrd0:=fun (W:World) (hb:aF w W)=>((hR.conds.each z (List.mem_of_getElem? hz)).keep hb)
 have hap0:=fun (g:Nat) (hg:w.heap.size<=g)=>fA.of_reads (hR.conds.each z (List.mem_of_getElem? hz)) hg
 have hld0:=fun (W:World) (hb:aF w W)=>pX W b o z (fun j u hu=>aW hb (by have:=hcell0 j u hu;simpa using this))
 have hM:=fun (i:Nat) (y:CoM) (hy:x.L[i]? = some y) (h0:1<=i) (m:ae) (W:World) (hb:aF w W) (hr:dA W (kE x.t i) m)=>by
  have:=aMy (kE x.t i) y.c m y.m W hr ((hR.conds.each y (List.mem_of_getElem? hy)).keep hb) (hsm i).2 (hf y (List.mem_of_getElem? hy));rw[(hsm i).1,hv y (List.mem_of_getElem? hy)]at this;simp only[Bool.and_self,if_true,oJ]at this;rw[<-YN h0 (yh hR hy)]at this;exact this
 have hld:=fun (i:Nat) (y:CoM) (hy:x.L[i]? = some y) (W:World) (hb:aF w W)=>pX W b (o+i*7) y (fun j u hu=>by
  obtain⟨_,b2,o2,hA2,hcell2⟩:=hR.conds.at_ hy;rw[hA]at hA2;injection hA2 with e
  injection e with e1 e2
  subst e1;subst e2;exact aW hb (hcell2 j u hu))
 rw[<-YO];generalize hln:x.t.conds.length=n at *;simp only[oJ]at hld0 hld;rw[<-hhead]at hld0 hrd0 hap0;obtain⟨SM,hSM⟩:∃ SM:Nat->aY,SM=kE x.t:=⟨_,rfl⟩;rw[<-hSM]at hld0 hM hrd0 hap0 ⊢;have HM:=aA hM;have HLD:=aA hld;have HLD0:=aA hld0;have HRD0:=aA hrd0;have HAP0:=aA hap0;have HLN:=aA hln;have HXA:=aA hA;have HL:=aA hl;clear hM hld hld0 hrd0 hap0 hln hA hl hSM hhead hz hv hf hR hall hsm hcell0;obtain⟨R,hRR⟩:∃ R,R=aFf (SM n) w:=⟨_,rfl⟩;rw[<-hRR];have HRR:=aA hRR;clear hRR;generalize hm0:z.m=m0 at *;clear hm0;unfold ah.val;go_enter func20,ntmps20;go_upto_region 1 with fail
 generalize hw0:World.alloc _ _=w0;have hS0:RnS w x (#[.int .i64 0,.int .i64 0,.string ⟨#[]⟩,.slice none 0 0,.slice none 0 0,.slice none 0 0,.int .i64 0,.int .i64 0]:Array Value) w0:=by
  rw[<-hw0];exact⟨⟨(gQ w _ _).1⟩,(gQ w _ _).2,aJ⟩
 have hz0:w0.heap.size=w.heap.size+2:=vX;clear hw0;have HS0:=aA hS0;have HZ0:=aA hz0;clear hz0;obtain⟨y0,y1,y2,y3⟩:=hS0.t.cells;rw[HLN.out,HXA.out]at y3;have hldz:=HLD0.out w0 hS0.b;have i1:(0:Int)<(n:Int):=aB;clear hS0;have HC0:=aA (y9 (SM 1) m0);have HC1:=aA (lu (SM 1) m0);generalize hY:dS (SM 1) m0=Y at *;have HYY:=aA hY;clear hY;go_upto_region 2 with (first
  | (refine bD rfl 27 _ rfl ⟨b,o,none⟩ (.agg Y) rfl hldz ?_)
  | (refine wpList_store_row rfl _ _ _ rfl w0.heap.size Y rfl rfl _ fU (heap_alloc_new w0 _) (by rw[HC0.out];exact lq) (by rw[HC0.out];rfl) HC1.out ?_))
 (try dsimp only[Act.put]);generalize hw1:World.setRow _ _ _=w1;have hg1:aQ w1 w0.heap.size 27 Y:=by rw[<-hw1];exact setRow_heap _ _ _ _ _ _ (heap_alloc_new w0 _)
 have hb1:aF w0 w1:=aFq;have hS1:=HS0.out.keep hb1;have hr1:=HRD0.out w1 hS1.b;have ha1:fA w0.heap.size (SM 1) m0/\fA (w.heap.size+1) (SM 1) m0:=⟨HAP0.out w0.heap.size (by have:=HZ0.out;omega),HAP0.out _ aB⟩;obtain⟨g,hg⟩:∃ g,g=w0.heap.size:=⟨_,rfl⟩;have HGG:=aA (show w.heap.size+2<=g by have:=HZ0.out;omega);rw[<-hg]at hg1 ha1 ⊢;have HL1:=aA (show RnL w x g 0 (dS (SM 1) m0) (SM 1) m0 w1 from⟨hS1,by rw[HYY.out];exact hg1,hr1,Nat.zero_le _⟩);have HA1:=aA ha1;clear hg hw1 hb1 hldz y0 y1 y2 y3 HC0 HC1 HS0 HZ0 HRD0 HAP0 HLD0 hg1 hS1 hr1 ha1 i1 HYY;go_wp2;go_loopw [4] (fun iv wr=>∃(i:Nat)(m:ae),1<=i/\i<=n/\iv=.int .i64 i/\Hid (RnL w x g 0 (dS (SM i) m) (SM i) m wr)/\Hid (fA g (SM i) m/\fA (w.heap.size+1) (SM i) m)) (fun iv _=>n-(intOf iv).toNat)
 case atStart=>exact⟨1,m0,aB,h1,rfl,HL1,HA1⟩
 case round =>
  obtain⟨i,m,hi1,hin,rfl,HS,HA⟩:=hrel;clear HL1 HA1;have HC0:=aA (y9 (SM i) m);have HC1:=aA (lu (SM i) m);obtain⟨y0,y1,y2,y3⟩:=HS.out.s.t.cells;rw[HLN.out,HXA.out]at y3;by_cases hlt:i<n
  ·obtain⟨y,hy⟩:∃ y,x.L[i]? = some y:=⟨_,List.getElem?_eq_getElem gV⟩;have hcM:=HM.out i y hy hi1 m;have hldi:=HLD.out i y hy;generalize hYi:dS y.c y.m=Yi at *;generalize hYo:dS (SM i) m=Yo at *;have hld2:∀ W,aQ W g 27 Yo->(loadVar 27 ⟨g,0,none⟩).run prog W=.ok (.agg Yo) W:=fun W h=>iO h HC0.out
   have HCM:=aA hcM;have HLDI:=aA hldi;have HLD2:=aA hld2;have hk0:(0:Int)<=(i:Int):=aB;have hk1:(i:Int)<(n:Int):=aB;clear hcM hldi hYi hy hYo hld2;go_upto_region 5 with fail
   clear y0 y1 y2 y3;refine qm 8 aG aG aG (DL [IsV (.agg Yo),IsV (.pointer (some ⟨w.heap.size,3,none⟩)),IsV (.slice (some ⟨b,o,none⟩) n x.c),IsV (.int .i64 (i:Int)),IsV (.pointer (some ⟨b,o+i*7,none⟩)),IsV (.agg Yi),MtP (SM (i+1)),NwP wr.heap.size]) (DL.keep _ (by simp only[qp];repeat' (first | apply And.intro | exact vU _ | exact aNc _ | exact aNd _ | exact trivial))) (RnL w x g wr.heap.size Yo (SM i) m) ⟨HS.out.s.keep (Below.drew (Below.refl _ _)),HS.out.g.keep (Below.drew (Below.refl _ _)),HS.out.r.keep (Below.drew (Below.refl _ _)),Nat.le_refl _⟩ (fun _ _ h hb=>h.keep hb) ?_ ?_
   ·dsimp only[List.take_succ_cons,List.take_zero,mf];refine⟨fun vals W hS hd=>?_,fun vals W hS hd=>?_,fun vals W hS hd=>?_,fun vals W hS hd=>?_,fun vals W hS hd=>?_,fun vals W hS hd=>?_,fun vals W hS hd=>?_,fun vals W hS hd=>?_,trivial⟩
    ·(try simp only[bQ,DL,IsV,bV,Region.binds,and_true,true_and]at hd);simp only[aZ,kM,Act.put,ag,bV];(try simp only[hd]);clear hd;have hld:=HLD2.out W hS.g;go_wp2_with (refine bD rfl 27 _ rfl ⟨g,0,none⟩ (.agg Yo) rfl hld ?_);exact⟨rfl,rfl,rfl,aJ⟩
    rotate_left 4
    ·(try simp only[bQ,DL,IsV,bV,Region.binds,and_true,true_and]at hd);simp only[aZ,kM,Act.put,ag,bV];(try simp only[hd]);clear hd;have hld:=HLDI.out W hS.s.b;exact aHb
    ·(try simp only[bQ,DL,IsV,bV,Region.binds,and_true,true_and]at hd);simp only[aZ,kM,Act.put,ag,bV];(try simp only[hd]);clear hd;have hcm:=HCM.out W hS.s.b hS.r;have HCW:=aA hcm;clear hcm;go_wp2_with (go_at_call 55;refine HCW.out.mono ?_;rintro e w5 ⟨hb5,m5,rfl,hr5⟩);exact⟨rfl,⟨m5,rfl,hr5⟩,rfl,aJ⟩
    ·(try simp only[bQ,DL,IsV,bV,Region.binds,and_true,true_and]at hd);simp only[aZ,kM,Act.put,ag,bV];(try simp only[hd]);clear hd;have hnW:=hS.n;go_wp2;exact⟨rfl,⟨_,rfl,hnW,heap_alloc_new W _⟩,rfl,aJ⟩
    all_goals
     (try simp only[bQ,DL,IsV,bV,Region.binds,and_true,true_and]at hd);simp only[aZ,kM,Act.put,ag,bV];(try simp only[hd]);clear hd;obtain⟨y0,y1,y2,y3⟩:=hS.s.t.cells;rw[HLN.out,HXA.out]at y3;go_wp2;exact⟨rfl,rfl,rfl,aJ⟩
   ·intro vals w9 hS9 hD9;obtain⟨m5,e6,hr5,u1,u2,u3⟩:MtP (SM (i+1)) (vals 6) w9:=hD9 6 aB;obtain⟨gx,e7,hgx,hbx⟩:NwP wr.heap.size (vals 7) w9:=hD9 7 aB;simp only[aZ,kM,Act.put,ag,bV];simp only[e6,e7];have hgl:g<gx:=Nat.lt_of_lt_of_le (vV HS.out.g) hgx;have hgz:w.heap.size+1<gx:=Nat.lt_of_lt_of_le (vV HS.out.s.z) hgx;have ha5:fA g (SM (i+1)) m5/\fA (w.heap.size+1) (SM (i+1)) m5/\fA gx (SM (i+1)) m5:=⟨⟨u1.off hS9.g aK,u2.off hS9.g aK,u3.off hS9.g aK⟩,⟨u1.off hS9.s.z aK,u2.off hS9.s.z aK,u3.off hS9.s.z aK⟩,⟨u1.off hbx aK,u2.off hbx aK,u3.off hbx aK⟩⟩;have HA5:=aA ha5;have HS9:=aA hS9;have HBX:=aA hbx;have HR5:=aA hr5;have HMO:=aA (aFh (SM (i+1)) m5 0);clear e6 e7 hD9 ha5 hS9 hbx hr5 u1 u2 u3 HS HA;go_upto_region 6 with (refine wpList_store_row rfl 90 _ _ rfl gx (F6 (SM (i+1)) m5 0).toArray rfl rfl _ (#[.int .i64 0,.int .i64 0,.string ⟨#[]⟩,.slice none 0 0,.slice none 0 0,.slice none 0 0,.int .i64 0,.int .i64 0]:Array Value) HBX.out aNa rfl HMO.out ?_)
    (try dsimp only[Act.put]);generalize hw3:World.setRow _ _ _=w3;have hX3:aQ w3 gx 90 (F6 (SM (i+1)) m5 0).toArray:=by rw[<-hw3];exact setRow_heap _ _ _ _ _ _ HBX.out
    have hb3:Below gx w9 w3:=by rw[<-hw3];exact below_setRow (Below.refl _ _) (Nat.le_refl _) _
    have hG3:aQ w3 g 27 Yo:=(hb3.block _ hgl).trans HS9.out.g;have hS3:RnS w x (#[.int .i64 0,.int .i64 0,.string ⟨#[]⟩,.slice none 0 0,.slice none 0 0,.slice none 0 0,.int .i64 0,.int .i64 0]:Array Value) w3:=HS9.out.s.low (hb3.mono aB);have hR3:=tJ (W':=w3) (g:=gx) (fun k hk=>by rw[<-hw3];exact setRow_other _ _ _ _ hk) HR5.out HA5.out.2.2;have c7:=hX3.cell (k:=7) (v:=.int .i64 0) rfl;have hlx:=aIi hX3;have HD0:=aA (y9 (SM (i+1)) m5);have HD1:=aA (lu (SM (i+1)) m5);have HG3:=aA hG3;have HS3:=aA hS3;have HR3:=aA hR3;clear hw3 hX3 hb3 hG3 hS3 hR3 HMO HBX HS9 HR5;generalize hYn:dS (SM (i+1)) m5=Yn at *;have HYN:=aA hYn;have HLX:=aA hlx;clear hYn hlx;go_wp2_with (first
     | (refine bD rfl 27 _ rfl ⟨gx,0,none⟩ (.agg Yn) rfl HLX.out ?_)
     | (refine wpList_store_row rfl _ _ _ rfl g Yn rfl rfl _ Yo HG3.out (by rw[HD0.out];exact lq) (by rw[HD0.out,HC0.out]) HD1.out ?_))
    generalize hw6:World.setRow _ _ _=w6;have hg6:aQ w6 g 27 Yn:=by rw[<-hw6];exact setRow_heap _ _ _ _ _ _ HG3.out
    have hb6:Below (w.heap.size+2) w3 w6:=by rw[<-hw6];exact below_setRow (Below.refl _ _) HGG.out _
    have hS6:=HS3.out.low hb6;have hR6:=tJ (W':=w6) (g:=g) (fun k hk=>by rw[<-hw6];exact setRow_other _ _ _ _ hk) HR3.out HA5.out.1;rw[<-HYN.out]at hg6;exact⟨⟨i+1,m5,aB,aB,bg,aA ⟨hS6,hg6,hR6,Nat.zero_le _⟩,aA ⟨HA5.out.1,HA5.out.2.1⟩⟩,dD⟩
  ·obtain rfl:i=n:=aB;have hlo:=iO HS.out.g HC0.out;have hbm:=fun W=>aMz (SM i) m W
   have HMO:=aA (aFh (SM i) m 0);generalize hYo:dS (SM i) m=Yo at *;have HLO:=aA hlo;have HBM:=aA hbm;clear hYo hlo hbm;go_wp2_with (first
    | (refine bD rfl 27 _ rfl ⟨g,0,none⟩ (.agg Yo) rfl HLO.out ?_)
    | (refine aBx rfl 48 _ rfl #[(0,.agg Yo)] aG _ (HBM.out _) ?_)
    | (refine wpList_store_row rfl 48 _ _ rfl (w.heap.size+1) (F6 (SM i) m 0).toArray rfl rfl _ (#[.int .i64 0,.int .i64 0,.string ⟨#[]⟩,.slice none 0 0,.slice none 0 0,.slice none 0 0,.int .i64 0,.int .i64 0]:Array Value) HS.out.s.z aFg rfl HMO.out ?_))
   refine bodyPost_ret (v:=.agg (F6 (SM i) m 0).toArray) ?_ rfl ?_
   ·exact aCk rfl _ _ (w.heap.size+1) _ rfl (aNb (setRow_heap _ _ _ _ _ _ HS.out.s.z) rfl)
   ·rw[HRR.out];have hbw:aF w (wr.setRow (w.heap.size+1) (F6 (SM i) m 0).toArray):=below_setRow HS.out.s.b aB _;exact⟨hbw,m,rfl,tJ (g:=w.heap.size+1) (fun k hk=>setRow_other _ _ _ _ hk) HS.out.r HA.out.2⟩
theorem aDj(n:Int)(h0:0<=n)(h1:n<=1099511627777):(ai n).size<=13:=by
 rw[Lib.size_eq,yO n h0];exact (Ja n.toNat aB).1
theorem aIj{a b:aC}{B:Nat}(ha:a.size<=B)(hb:b.size<=B):(orT a b).size<=B:=by
 unfold orT;split <;> assumption
theorem aFi(xs:List aC)(B n:Nat)(h:∀ x∈xs,x.size<=B)(hn:xs.length<=n):(dn xs).size<=n*(B+1)+1:=by
 unfold dn;refine aIj ?_ (by show 1<=_;omega);have h1:=Bc 44 B (xs.map (·.data.toList)) (by
  intro y hy;obtain⟨z,hz,rfl⟩:=List.mem_map.1 hy;have:=h z hz
  rwa [Lib.size_eq]at this)
 rw[List.length_map]at h1;have h2:xs.length*(B+1)<=n*(B+1):=Nat.mul_le_mul_right _ hn;unfold jr;rw[Lib.size_eq];show (Lib.join _ _).length<=_;omega
theorem aNf(c:UInt8)(l:List (List UInt8)):(Lib.join l [c]).length<=Lib.lens l+l.length:=by
 cases l with
 | nil=>simp[Lib.join_nil]
 | cons x r =>
  rw[Lib.join_cons,List.length_append,Lib.joinTail_length];simp only[Lib.lens,List.map_cons,List.sum_cons,List.length_cons,List.length_nil,Nat.zero_add,Nat.one_mul];omega
theorem aNg{c:aY}(hv:bF c=true)(hf:FX c=true):(bK c).size<=6000:=by
 have ok:=(mP c).1 hv;unfold FX aBw at hf;simp only[Bool.and_eq_true,decide_eq_true_eq,List.all_eq_true]at hf;obtain⟨⟨⟨⟨⟨h1,h2⟩,h3⟩,h4⟩,h5⟩,h6⟩:=hf;have f0:=aDj c.fr ok.fr0 (by have:=ok.fr1;omega);have f1:=aDj c.till ok.to0 ok.to1;have f6:=aDj c.us ok.us0 (by have:=ok.us1;omega);have f2:(orT c.pat ⟨#[126]⟩).size<=1000:=aIj h4 aK;have f3:=aFi c.cl 100 32 (fun x hx=>h5 x hx) ok.clLen;have f4:=aFi c.co 2 32 (fun x hx=>by
  have:=ok.co x hx;unfold iV at this;simp only[Bool.and_eq_true,decide_eq_true_eq]at this;omega) ok.coLen
 have f5:=aFi (c.si.map ai) 13 64 (by
  intro x hx;obtain⟨n,hn,rfl⟩:=List.mem_map.1 hx;have hs:=ok.si n hn;simp only[jb,Bool.and_eq_true,decide_eq_true_eq]at hs;exact aDj n aB aB) (by rw[List.length_map];exact ok.siLen)
 have hj:=aNf 32 ((kV c).map (·.data.toList));unfold bK;rw[Lib.size_eq];show (Lib.join _ _).length<=_;have hl:((kV c).map (·.data.toList)).length=7:=rfl;have he:Lib.lens ((kV c).map (·.data.toList))=(ai c.fr).size+(ai c.till).size+(orT c.pat ⟨#[126]⟩).size+(dn c.cl).size+(dn c.co).size+(dn (c.si.map ai)).size+(ai c.us).size:=by
  simp only[Lib.lens,kV,List.map_cons,List.map_nil,List.sum_cons,List.sum_nil,Lib.size_eq];omega
 rw[hl,he]at hj;omega
theorem aNh(x:ah)(w:World)(hR:bZ w x)(hn:x.t.conds.length<=9223372036854775807):Calls prog 10 #[x.val] w (Ret w (.bool (RF x.t))):=by
 have cP:=fun (y:CoM) (hy:y∈x.L) (W:World) (hb:aF w W)=>aFs y.c y.m W ((hR.conds.each y hy).keep hb)
 have hl:=hR.conds.len;unfold RF;rw[<-aGp hR];obtain⟨V,hV⟩:∃ V,V=x.L.all (fun y=>FX y.c):=⟨_,rfl⟩;rw[<-hV];have hA:=hR.conds;obtain⟨pr,hpr⟩:∃ pr,pr=FX:=⟨_,rfl⟩;rw[<-hpr]at hV cP;generalize hln:x.t.conds.length=n at *;have HP:=aA cP;have HA:=aA hA;have HL:=aA hl;have HV:=aA hV;have HLN:=aA hln;clear cP hA hl hV hR hln hpr;unfold ah.val;go_enter func10,ntmps10;go_upto_region 1 with fail
 generalize hw0:World.alloc _ _=w0;have B0:fQ w0 w.heap.size x:=⟨vN⟩;have hb0:aF w w0:=yY;clear hw0;go_wp2;go_loopw [3] (fun i wr=>∃ k:Nat,k<=n/\i=.int .i64 k/\Hid (V=(x.L.drop k).all (fun y=>pr y.c))/\fQ wr w.heap.size x/\aF w wr) (fun i _=>n-(intOf i).toNat)
 case atStart=>exact⟨0,aB,rfl,aA aCu,B0,hb0⟩
 case round =>
  obtain⟨k,hk,rfl,HI,B,hb⟩:=hrel;obtain⟨y0,y1,y2,y3⟩:=B.cells;rw[HLN.out]at y3;by_cases hlt:k<n
  ·obtain⟨x1,hx⟩:∃ x1,x.L[k]? = some x1:=⟨_,List.getElem?_eq_getElem gV⟩;obtain⟨_,b,o,hA,hcell⟩:=(HA.out.keep hb).at_ hx;rw[hA]at y3;have hld:=pX wr b (o+k*7) x1 hcell;have hc:=HP.out x1 (List.mem_of_getElem? hx) wr hb;have hk0:(0:Int)<=(k:Int):=aB;have hk1:(k:Int)<(n:Int):=aB;clear hcell hA;generalize ae.val x1.c x1.m=xv at hld hc;have HLD:=aA hld;clear hld;cases hpx:pr x1.c
   ·rw[hpx]at hc;have HC:=aA hc;have hVf:V=false:=by rw[HI.out];exact aGo (fun y=>pr y.c) _ _ _ hx hpx
    subst hVf;clear hc hx hpx;rw[Bool.false_and];exact aGt
   ·exact aGu
  ·have hVt:V=true:=by rw[HI.out,List.drop_eq_nil_of_le gV];rfl
   subst hVt;by_cases h20:n<=20
   ·have i1:(n:Int)<=20:=aB;go_wp2;go_ret;exact⟨fV aIk,hb⟩
   ·have i1:¬ (n:Int)<=20:=aB;go_wp2;go_ret;exact⟨fV aIk,hb⟩
structure RbS(w:World)(x:ah)(W:World):Prop where
 t:fQ W w.heap.size x
 b:aF w W
theorem RbS.keep{w W W':World}{x:ah}(h:RbS w x W)(hb:aF W W'):RbS w x W':=⟨h.t.keep hb,aV h.b hb⟩
theorem aBm{t:bz}(h:RF t=true):(∀ c∈t.conds,FX c=true)/\t.conds.length<=20/\t.id.size<=200:=by
 unfold RF at h;simp only[Bool.and_eq_true,decide_eq_true_eq,List.all_eq_true]at h;exact h
theorem aFj{w:World}{x:ah}(hR:bZ w x)(h:RF x.t=true):∀ y∈x.L,FX y.c=true:=fun y hy=>(aBm h).1 y.c (by rw[<-hR.same];exact List.mem_map_of_mem hy)
theorem aNi{w:World}{x:ah}(hR:bZ w x)(h:gX x.t=true):∀ y∈x.L,bF y.c=true:=fun y hy=>((vH _).1 h).all y.c (by rw[<-hR.same];exact List.mem_map_of_mem hy)
def aNj(k:aj)(id:aC)(l:List aY):bz:=⟨k.party,k.ser,id,l,eU k ⟨k.party,k.ser,id,l,fH⟩⟩
theorem aIl:∀(r:List aY)(x:aY),(bF x=true/\dE x)->(∀ c∈r,bF c=true/\dE c)->bF (r.foldl iH x)=true/\dE (r.foldl iH x)
 | [],_,hx,_=>hx
 | c :: r,x,hx,hr=>by
  have hc:=hr c aH;exact aIl r (iH x c) (Xl ((mP _).1 hx.1) ((mP _).1 hc.1) hx.2 hc.2) (fun d hd=>hr d (by simp[hd]))
theorem aNk{l:List aY}(h:l ≠ [])(hv:∀ c∈l,bF c=true/\dE c):bF (sH l)=true/\dE (sH l):=by
 cases l with
 | nil=>exact absurd rfl h
 | cons x r=>exact aIl r x (hv x aH) (fun c hc=>hv c (by simp[hc]))
structure aNl(k:aj)(id:aC)(L:List CoM)(a:dN):Prop where
 k:lQ k=true
 id:id.size<=200
 n:L.length<=16
 co:∀ x∈L,kD x.c
 a:lD a
def csL(L:List CoM)(j:Nat):List aY:=(L.take j).map (·.c)
structure aBn(k:aj)(id:aC)(L:List CoM)(j:Nat)(W:World)(y:ah):Prop where
 r:bZ W y
 t:y.t=aNj k id (csL L j)
 l:y.L=L.take j
theorem aBn.keep{k:aj}{id:aC}{L:List CoM}{j:Nat}{W W':World}{y:ah}(h:aBn k id L j W y)(hb:aF W W'):aBn k id L j W' y:=⟨h.r.keep hb,h.t,h.l⟩
theorem aNm{L:List CoM}{j:Nat}(h:j<=L.length):(csL L j).length=j:=by unfold csL;rw[List.length_map,List.length_take];omega
theorem aBn.co{k:aj}{id:aC}{L:List CoM}{a:dN}{j:Nat}{W:World}{y:ah}(h:aBn k id L j W y)(ho:aNl k id L a):∀ x∈y.L,kD x.c:=fun x hx=>ho.co x (by rw[h.l]at hx;exact List.mem_of_mem_take hx)
theorem aBn.len{k:aj}{id:aC}{L:List CoM}{j:Nat}{W:World}{y:ah}(h:aBn k id L j W y)(hj:j<=L.length):y.t.conds.length=j:=by rw[h.t];exact aNm hj
section
variable {k:aj} {id:aC} {L:List CoM} {a:dN} {j:Nat} {W:World} {y:ah}
end
theorem aNn{W W':World}{y:ah}{g:Nat}(ho:∀ k,k≠g->W'.heap[k]? = W.heap[k]?)(h:bZ W y)(ha:∀ a,y.A=some a->a.block≠g)(hc:∀ x∈y.L,dA W' x.c x.m):bZ W' y :=
 ⟨h.same,⟨h.conds.len,qw ho h.conds.rows (fun _=>ha),hc⟩,h.sl,h.cap⟩
structure aBt(w:World)(K X:Array Value)(W:World):Prop where
 k:aQ W w.heap.size 23 K
 a:aQ W (w.heap.size+1) 59 X
 b:aF w W
theorem aBt.keep{w W W':World}{K X:Array Value}(h:aBt w K X W)(hb:aF W W'):aBt w K X W':=⟨h.k.keep hb,h.a.keep hb,aV h.b hb⟩
theorem aBt.low{w W W':World}{K X:Array Value}{g:Nat}(h:aBt w K X W)(hb:Below g W W')(hg:w.heap.size+2<=g):aBt w K X W' :=
 ⟨(hb.block _ aB).trans h.k,(hb.block _ aB).trans h.a,h.b.trans (hb.mono aB)⟩
structure aBu(w:World)(K X:Array Value)(gr gl:Nat)(y:ah)(W:World):Prop where
 s:aBt w K X W
 r:aQ W gr 23 K
 l:aQ W gl 32 y.cells.toArray
 y:bZ W y
theorem aBu.keep{w W W':World}{K X:Array Value}{gr gl:Nat}{y:ah}(h:aBu w K X gr gl y W)(hb:aF W W'):aBu w K X gr gl y W':=⟨h.s.keep hb,h.r.keep hb,h.l.keep hb,h.y.keep hb⟩
theorem aBu.put{w W:World}{K X:Array Value}{gr gl:Nat}{y z:ah}(h:aBu w K X gr gl y W)(h1:w.heap.size+2<=gr)(h2:gr<gl)(hz:bZ W z)(ha:∀ a,z.A=some a->a.block≠gl)(hc:∀ W',aF w W'->∀ x∈z.L,dA W' x.c x.m):aBu w K X gr gl z (W.setRow gl z.cells.toArray):=by
 have hb:Below gl W (W.setRow gl z.cells.toArray):=below_setRow (Below.refl _ _) (Nat.le_refl _) _;have hs:=h.s.low hb aB;exact⟨hs,(hb.block _ h2).trans h.r,setRow_heap _ _ _ _ _ _ h.l,aNn (fun k hk=>setRow_other _ _ _ _ hk) hz ha (hc _ hs.b)⟩
structure NaR(k:aj)(id:aC)(L:List CoM)(w:World)(X:Array Value)(gr gl gt j:Nat)(y z:ah)(W:World):Prop where
 s:aBu w k.arr X gr gl y W
 t:aQ W gt 32 z.cells.toArray
 z:aBn k id L (j+1) W z
 y:1<=j->aBn k id L j W y
theorem NaR.keep{k:aj}{id:aC}{L:List CoM}{w W W':World}{X:Array Value}{gr gl gt j:Nat}{y z:ah}(h:NaR k id L w X gr gl gt j y z W)(hb:aF W W'):NaR k id L w X gr gl gt j y z W':=⟨h.s.keep hb,h.t.keep hb,h.z.keep hb,fun h1=>(h.y h1).keep hb⟩
theorem aIm{W:World}{y:ah}(h:bZ W y):y.cells.toArray.size=20:=by rw[List.size_toArray];exact h.size
structure MkS(w:World)(K C X:Array Value)(W:World):Prop where
 k:aQ W w.heap.size 23 K
 c:aQ W (w.heap.size+1) 27 C
 t:aQ W (w.heap.size+2) 32 X
 b:aF w W
theorem MkS.keep{w W W':World}{K C X:Array Value}(h:MkS w K C X W)(hb:aF W W'):MkS w K C X W':=⟨h.k.keep hb,h.c.keep hb,h.t.keep hb,aV h.b hb⟩
structure MkP(S:World->Prop)(g gm:Nat)(y z:ah)(er:Int)(W:World):Prop where
 s:S W
 g:aQ W g 32 y.cells.toArray
 m:aQ W gm 40 (z.cells++[Value.int .i64 er]).toArray
 y:bZ W y
 z:bZ W z
theorem MkP.keep{S:World->Prop}(hk:∀ W W',S W->aF W W'->S W'){g gm:Nat}{y z:ah}{er:Int}{W W':World}(h:MkP S g gm y z er W)(hb:aF W W'):MkP S g gm y z er W':=⟨hk _ _ h.s hb,h.g.keep hb,h.m.keep hb,h.y.keep hb,h.z.keep hb⟩
structure MkM(S:World->Prop)(g gm:Nat)(c:aY)(m n:ae)(W:World):Prop where
 s:S W
 g:aQ W g 27 (dS c m)
 q:aQ W gm 48 (F6 c n 0).toArray
 y:dA W c m
 z:dA W c n
theorem MkM.keep{S:World->Prop}(hk:∀ W W',S W->aF W W'->S W'){g gm:Nat}{c:aY}{m n:ae}{W W':World}(h:MkM S g gm c m n W)(hb:aF W W'):MkM S g gm c m n W':=⟨hk _ _ h.s hb,h.g.keep hb,h.q.keep hb,h.y.keep hb,h.z.keep hb⟩
theorem aIn{W:World}{g:Nat}{y:ah}{er:Int}(hy:bZ W y)(h:aQ W g 40 (y.cells++[Value.int .i64 er]).toArray):(loadVar 32 ⟨g,0,none⟩).run prog W=.ok (.agg y.cells.toArray) W :=
 yI (P:=prog) W g 0 40 32 (y.cells++[Value.int .i64 er]) y.cells (0,0) _ h (fun j v hv=>by
  rw[Nat.zero_add,List.getElem?_append_left (List.getElem?_eq_some_iff.1 hv).1];exact hv) underlying32 rfl (by rw[show y.cells.length=20 from hy.size];exact lC)
theorem aIo{W:World}{g:Nat}{y:ah}{er:Int}(hy:bZ W y)(h:aQ W g 40 (y.cells++[Value.int .i64 er]).toArray):W.cell? ⟨g,20,none⟩=some (.int .i64 er) :=
 h.cell (k:=20) (by
  have h20:y.cells.length=20:=hy.size
  rw[List.getElem?_toArray,List.getElem?_append_right aB,h20];rfl)
theorem aNo{k:aj}{id:aC}{c:aY}{y:ah}{w:World}(hy:bZ w y)(ht:y.t=(jy k id c).1)(hf:dE c):(∀ z∈y.L,dE z.c)/\y.t.conds.length<=1000:=by
 have h:∀ d∈(jy k id c).1.conds,d=c:=by
  unfold jy;split
  ·intro d hd;exact List.mem_singleton.1 hd
  ·intro d hd;cases hd
 have hl:(jy k id c).1.conds.length<=1:=by
  unfold jy;split <;> simp[iK]
 exact aIp
theorem aNp{t:bz}{c:aY}{y:ah}{w:World}(hy:bZ w y)(ht:y.t=(kW t c).1)(hf:dE c)(hft:∀ d∈t.conds,dE d)(hn:t.conds.length<=900):(∀ z∈y.L,dE z.c)/\y.t.conds.length<=1000:=by
 have h:∀ d∈(kW t c).1.conds,dE d:=by
  unfold kW;split
  ·split
   ·intro d hd;cases hd
   ·intro d hd;rcases List.mem_append.1 hd with hd | hd
    ·exact hft d hd
    ·rw[List.mem_singleton.1 hd];exact hf
  ·intro d hd;cases hd
 have hl:(kW t c).1.conds.length<=901:=by
  unfold kW;split
  ·split
   ·simp[iK]
   ·simp;omega
  ·simp[iK]
 exact aIp
open Classical in
theorem aNq(k:aj)(id:aC)(c:aY)(x:ah)(m:ae)(w:World)(hid63:id.size<=9223372036854775807)(hC:dA w c m)(hR:bZ w x)(hn63:x.t.conds.length<=9223372036854775807)(hLE:gz w/\Ks2 w) :
  Calls prog 3 #[k.val,.string id,ae.val c m,x.val] w (Ret w (.bool true)):=by
 obtain⟨hL,hK2⟩:=hLE;have hXS:x.cells.toArray.size=20:=sW;rw[aj.val_arr,oJ];unfold ah.val;obtain⟨KA,hKA⟩:∃ KA,KA=k.arr:=⟨_,rfl⟩;obtain⟨CA,hCA⟩:∃ CA,CA=dS c m:=⟨_,rfl⟩;obtain⟨XT,hXT⟩:∃ XT,XT=x.cells.toArray:=⟨_,rfl⟩;rw[<-hKA,<-hCA,<-hXT];obtain⟨S,hSD⟩:∃ S,S=MkS w KA CA XT:=⟨_,rfl⟩;have hsk:∀ W W',S W->aF W W'->S W':=by rw[hSD];exact fun _ _ h hb=>h.keep hb
 have hsb:∀ W,S W->aF w W:=by rw[hSD];exact fun _ h=>h.b
 have ldK:∀ W,S W->(loadVar 23 ⟨w.heap.size,0,none⟩).run prog W=.ok (.agg KA) W:=by rw[hSD,hKA];exact fun W h=>iM h.k kJ
 have ldC:∀ W,S W->(loadVar 27 ⟨w.heap.size+1,0,none⟩).run prog W=.ok (.agg CA) W:=by rw[hSD,hCA];exact fun W h=>iO h.c rfl
 have ldT:∀ W,S W->(loadVar 32 ⟨w.heap.size+2,0,none⟩).run prog W=.ok (.agg XT) W:=by rw[hSD,hXT];exact fun W h=>dY h.t hXS
 have hk2:∀ W,S W->W.cell? ⟨w.heap.size,2,none⟩=some (.string k.secret):=by rw[hSD,hKA];exact fun W h=>h.k.cell (k:=2) rfl
 have hfc:∀ W,S W->Calls prog 9 #[.agg CA] W (Ret W (.bool (FX c))):=by rw[hCA];exact fun W h=>aFs c m W (hC.keep (hsb _ h))
 have hft:∀ W,S W->Calls prog 10 #[.agg XT] W (Ret W (.bool (RF x.t))):=by rw[hXT];exact fun W h=>aNh x W (hR.keep (hsb _ h)) hn63
 have hsa:∀ W,S W->Calls prog 11 #[] W (Ret W (.bool true)):=fun W h=>aBe W (hL.keep (hsb _ h))
 have hs0:S (((w.alloc (.cells KA 23)).alloc (.cells CA 27)).alloc (.cells XT 32)):=by rw[hSD];exact⟨(iL w _ _ _).1,(iL w _ _ _).2.1,(iL w _ _ _).2.2,aJ⟩
 have hmi:FX c=true->k.secret.size<=100->id.size<=200->∀ W,S W->Calls prog 12 #[.agg KA,.string id,.agg CA] W (jQ (jy k id c).1 (jy k id c).2 W):=by
  rw[hKA,hCA];exact fun hf h1 h2 W h=>X7 k id c m W (hC.keep (hsb _ h)) (VE hf) (fun hv=>aDk) aB aB (hL.k.keep (hsb _ h)) (hL.e.keep (hsb _ h)) (hL.t.keep (hsb _ h))
 have hrm:FX c=true->k.secret.size<=100->id.size<=200->∀ W,S W->Calls prog 13 #[.agg KA,.string id,.agg CA] W (aCd (jy k id c).1 (jy k id c).2 W):=by
  rw[hKA,hCA];exact fun hf h1 h2 W h=>aMb k id c m W (hC.keep (hsb _ h)) (VE hf) (fun hv=>aDk) aB aB (hK2.keep (hsb _ h))
 have hva:RF x.t=true->∀ W,S W->Calls prog 14 #[.agg XT] W (Ret W (.bool (gX x.t))):=by
  rw[hXT];exact fun hf W h=>yZ x W (hR.keep (hsb _ h)) (fun y hy=>VE (aFj hR hf y hy)) (by have:=(aBm hf).2.2;omega) (by have:=(aBm hf).2.1;omega) (hL.e.keep (hsb _ h))
 have hrv:RF x.t=true->∀ W,S W->Calls prog 15 #[.agg XT] W (Ret W (.bool (gX x.t))):=by
  rw[hXT];exact fun hf W h=>aGq x W (hR.keep (hsb _ h)) (fun y hy=>VE (aFj hR hf y hy)) (by have:=(aBm hf).2.2;omega) (by have:=(aBm hf).2.1;omega)
 have hnw:FX c=true->RF x.t=true->gX x.t=true->(∀ W,S W->Calls prog 17 #[.agg XT,.agg CA] W (jQ (kW x.t c).1 (kW x.t c).2 W))/\(∀ W,S W->Calls prog 18 #[.agg XT,.agg CA] W (aCd (kW x.t c).1 (kW x.t c).2 W))/\(∀ W,S W->Calls prog 19 #[.agg XT] W (zA (sH x.t.conds) W))/\(∀ W,S W->Calls prog 20 #[.agg XT] W (aFf (sH x.t.conds) W))/\(∀ W,S W->Calls prog 22 #[.agg XT] W (Ret W (.agg (b8 (jR x.t)).toArray)))/\(∀ W,S W->Calls prog 23 #[.agg XT] W (Ret W (.agg (b8 (jR x.t)).toArray)))/\(∀ W,S W->Calls prog 24 #[.agg XT] W (Ret W (.int .i64 (sH x.t.conds).us))):=by
  rw[hXT,hCA];intro hf hft hv;have fk:=aBm hft;have ok:=(vH _).1 hv;have hcf:∀ y∈x.L,dE y.c:=fun y hy=>VE (aFj hR hft y hy)
  have hcv:∀ y∈x.L,bF y.c=true:=fun y hy=>aNi hR hv y hy
  have h1:=ok.n0;have h2:x.t.conds.length<=1000:=by have:=ok.n1;omega
  have hid:x.t.id.size<=1000000:=by have:=fk.2.2;omega
  have hcu:0<=x.t.cust/\x.t.cust<=9223372036854775807:=by have:=ok.c0;have:=ok.c1;omega
  have hse:0<=x.t.ser/\x.t.ser<=9223372036854775807:=by have:=ok.s0;have:=ok.s1;omega
  refine⟨fun W h=>?_,fun W h=>?_,fun W h=>?_,fun W h=>?_,fun W h=>?_,fun W h=>?_,fun W h=>?_⟩
  ·exact YM x c m W (hR.keep (hsb _ h)) (hC.keep (hsb _ h)) (VE hf) (fun hv=>aDk) h1 h2 (hL.k.keep (hsb _ h)) (hL.e.keep (hsb _ h)) (hL.t.keep (hsb _ h))
  ·exact aMf x c m W (hR.keep (hsb _ h)) (hC.keep (hsb _ h)) (VE hf) (fun hv=>aDk) h1 h2 (hK2.keep (hsb _ h))
  ·exact NZ x W (hR.keep (hsb _ h)) hcv hcf h1 h2 (hL.e.keep (hsb _ h))
  ·exact aNe x W (hR.keep (hsb _ h)) hcv hcf h1 h2
  ·exact Nw x W hcu hse hid hR.sl (hL.k.keep (hsb _ h)) (hL.t.keep (hsb _ h))
  ·exact aMg x W hcu hse hid hR.sl (hK2.keep (hsb _ h))
  ·exact YQ x W (hR.keep (hsb _ h)) hcv hcf h1 h2 (hL.e.keep (hsb _ h))
 have hdg:=fun W=>Qa (jR x.t) (jR x.t) (qC _ _) (qC _ _) W
 rw[show decide (jR x.t=jR x.t)=true from decide_eq_true rfl]at hdg;generalize (b8 (jR x.t)).toArray=DG at *;have hmf:FX c=true->∀(W:World)(y:ah),bZ W y->y.t=(jy k id c).1->(∀ z∈y.L,dE z.c)/\y.t.conds.length<=1000:=fun hf W y hy ht=>aNo hy ht (VE hf)
 have hnf:FX c=true->RF x.t=true->∀(W:World)(y:ah),bZ W y->y.t=(kW x.t c).1->(∀ z∈y.L,dE z.c)/\y.t.conds.length<=1000:=fun hf hft W y hy ht=>aNp hy ht (VE hf) (fun d hd=>VE ((aBm hft).1 d hd)) (by have:=(aBm hft).2.1;omega)
 have hcf:RF x.t=true->gX x.t=true->dE (sH x.t.conds):=fun hft hv=>by
  have ok:=(vH _).1 hv;refine (aNk (l:=x.t.conds) (fun e=>?_) (fun d hd=>⟨ok.all d hd,VE ((aBm hft).1 d hd)⟩)).2;have:=ok.n0;rw[e]at this;simp at this
 generalize hM:sH x.t.conds=M at *;obtain⟨fv,hfv⟩:∃ fv,fv=FX c:=⟨_,rfl⟩;obtain⟨ft,hft0⟩:∃ ft,ft=RF x.t:=⟨_,rfl⟩;obtain⟨vt,hvt⟩:∃ vt,vt=gX x.t:=⟨_,rfl⟩;rw[<-hfv]at hfc hmi hrm hnw hmf hnf;rw[<-hft0]at hft hva hrv hnw hnf hcf;rw[<-hvt]at hva hrv hnw hcf;generalize jy k id c=mt at *;generalize kW x.t c=nt at *;have HSK:=aA hsk;have HSB:=aA hsb;have LDK:=aA ldK;have LDC:=aA ldC;have LDT:=aA ldT;have HK2:=aA hk2;have HFC:=aA hfc;have HFT:=aA hft;have HSA:=aA hsa;have HS0:=aA hs0;have HMI0:=aA hmi;have HRM0:=aA hrm;have HVA0:=aA hva;have HRV0:=aA hrv;have HNW0:=aA hnw;have HDG:=aA hdg;have HMF0:=aA hmf;have HNF0:=aA hnf;have HCF0:=aA hcf;clear hsk hsb ldK ldC ldT hk2 hfc hft hsa hs0 hmi hrm hva hrv hnw hdg hmf hnf hcf hSD hKA hCA hXT hXS hL hK2 hC hR hn63 hM hfv hft0 hvt;by_cases hid:200<id.size
 ·have i1:decide ((200:Int)<(id.size:Int))=true:=decide_eq_true aB;exact aDl
 have i1:decide ((200:Int)<(id.size:Int))=false:=decide_eq_false aB;by_cases hsec:100<k.secret.size
 ·have i2:decide ((100:Int)<(k.secret.size:Int))=true:=decide_eq_true aB;exact aDl
 have i2:decide ((100:Int)<(k.secret.size:Int))=false:=decide_eq_false aB;cases fv
 ·skip;exact aDl
 cases ft
 ·skip;exact aDl
 have HMI:=aA (HMI0.out rfl aB aB);have HRM:=aA (HRM0.out rfl aB aB);have HVA:=aA (HVA0.out rfl);have HRV:=aA (HRV0.out rfl);have HMF:=aA (HMF0.out rfl);have HNF:=aA (HNF0.out rfl rfl);clear HMI0 HRM0 HVA0 HRV0 HMF0 HNF0;go_enter func3,ntmps3;go_upto_region 1 with fail
 generalize hw0:World.alloc _ _=w0;have hS:S w0:=aIq;have k2:=HK2.out w0 hS;clear hw0;go_upto_region 3 with (first | (first | (refine bD rfl 27 _ rfl ⟨w.heap.size+1,0,none⟩ (.agg CA) rfl (LDC.out _ hS) ?_) | (go_big_want;refine jE 27 _ rfl ⟨w.heap.size+1,0,none⟩ (.agg CA) rfl (LDC.out _ hS) ?_;simp only[Act.put,ag])) | (first | (refine bD rfl 32 _ rfl ⟨w.heap.size+2,0,none⟩ (.agg XT) rfl (LDT.out _ hS) ?_) | (go_big_want;refine jE 32 _ rfl ⟨w.heap.size+2,0,none⟩ (.agg XT) rfl (LDT.out _ hS) ?_;simp only[Act.put,ag])) | ((first | (go_at_call 9;refine (HFC.out _ hS).mono ?_) | (go_at_call 10;refine (HFT.out _ hS).mono ?_));(rintro e w' ⟨rfl,hb'⟩;replace hS:=HSK.out _ _ hS hb';clear hb')))
 clear k2;go_upto_region 4 with (first
  | (refine bD rfl 23 _ rfl ⟨w.heap.size,0,none⟩ (.agg KA) rfl (LDK.out _ hS) ?_)
  | (first | (refine bD rfl 27 _ rfl ⟨w.heap.size+1,0,none⟩ (.agg CA) rfl (LDC.out _ hS) ?_) | (go_big_want;refine jE 27 _ rfl ⟨w.heap.size+1,0,none⟩ (.agg CA) rfl (LDC.out _ hS) ?_;simp only[Act.put,ag]))
  | (go_at_call 12;refine (HMI.out _ hS).mono ?_;rintro e w1 ⟨hb1,y1,rfl,hr1,ht1⟩;simp only[zQ];replace hS:=HSK.out _ _ hS hb1)
  | (refine wpList_store_row rfl 32 _ _ rfl w1.heap.size y1.cells.toArray rfl rfl _ bf (heap_alloc_new w1 _) (kH hr1).1 (kH hr1).2.1 (kH hr1).2.2 ?_))
 (try dsimp only[Act.put]);generalize hwx:World.setRow _ _ _=w2;have hG:aQ w2 w1.heap.size 32 y1.cells.toArray:=aIr;have hbx:aF w1 w2:=uI;replace hS:=HSK.out _ _ hS hbx;replace hr1:=hr1.keep hbx;generalize hgt:w1.heap.size=gt at *;clear hwx hbx hgt hb1;go_upto_region 5 with (first
  | (refine bD rfl 23 _ rfl ⟨w.heap.size,0,none⟩ (.agg KA) rfl (LDK.out _ hS) ?_)
  | (first | (refine bD rfl 27 _ rfl ⟨w.heap.size+1,0,none⟩ (.agg CA) rfl (LDC.out _ hS) ?_) | (go_big_want;refine jE 27 _ rfl ⟨w.heap.size+1,0,none⟩ (.agg CA) rfl (LDC.out _ hS) ?_;simp only[Act.put,ag]))
  | (go_at_call 13;refine (HRM.out _ hS).mono ?_;rintro e w3 ⟨hb3,y2,rfl,hr2,ht2⟩;replace hS:=HSK.out _ _ hS hb3;replace hG:=hG.keep hb3;replace hr1:=hr1.keep hb3)
  | (refine wpList_store_row rfl 40 _ _ rfl w3.heap.size (y2.cells++[Value.int .i64 mt.2]).toArray rfl rfl _ aBg (heap_alloc_new w3 _) (by rw[aCl hr2];exact YC) (by rw[aCl hr2];rfl) (aDd y2 mt.2) ?_))
 (try dsimp only[Act.put]);generalize hwx:World.setRow _ _ _=w4;have hM4:aQ w4 w3.heap.size 40 (y2.cells++[Value.int .i64 mt.2]).toArray:=aIs;have hbx:aF w3 w4:=uI;have hP:MkP S gt w3.heap.size y1 y2 mt.2 w4:=⟨HSK.out _ _ hS hbx,hG.keep hbx,hM4,hr1.keep hbx,hr2.keep hbx⟩;generalize hgm:w3.heap.size=gm at *;have hsm:∀ W,MkP S gt gm y1 y2 mt.2 W->Calls prog 16 #[.agg y1.cells.toArray,.agg y2.cells.toArray] W (Ret W (.bool true)):=fun W h=>Yx y1 y2 W h.y h.z (by rw[ht1,ht2]) (HMF.out _ y1 h.y ht1).1 (HMF.out _ y1 h.y ht1).2
 have ldG:∀ W,MkP S gt gm y1 y2 mt.2 W->(loadVar 32 ⟨gt,0,none⟩).run prog W=.ok (.agg y1.cells.toArray) W:=fun W h=>dY h.g (aIm h.y)
 have ldM:∀ W,MkP S gt gm y1 y2 mt.2 W->(loadVar 32 ⟨gm,0,none⟩).run prog W=.ok (.agg y2.cells.toArray) W:=fun W h=>aIn h.z h.m
 have ldE:∀ W,MkP S gt gm y1 y2 mt.2 W->W.cell? ⟨gm,20,none⟩=some (.int .i64 mt.2):=fun W h=>aIo h.z h.m
 obtain⟨Q,hQ⟩:∃ Q,Q=MkP S gt gm y1 y2 mt.2:=⟨_,rfl⟩;rw[<-hQ]at hsm ldG ldM ldE hP;have hqk:∀ W W',Q W->aF W W'->Q W':=by rw[hQ];exact fun _ _ h hb=>MkP.keep HSK.out h hb
 have hqs:∀ W,Q W->S W:=by rw[hQ];exact fun _ h=>h.s
 generalize y1.cells.toArray=Y1 at *;generalize y2.cells.toArray=Y2 at *;have HSM:=aA hsm;have LDG:=aA ldG;have LDM:=aA ldM;have LDE:=aA ldE;have HQK:=aA hqk;have HQS:=aA hqs;have HP:=aA (hqk _ _ hP (Below.drew (Below.refl _ _)));clear hsm ldG ldM ldE hqk hqs hP hwx hbx hgm hM4 hG hr1 hr2 hS ht1 ht2 hb3 HMF HMI HRM hQ;refine Ec 18 aG aG aG (fun i=>[.agg XT,.bool vt,.agg XT,.bool vt,.bool false,.bool false,.int .i64 mt.2,.pointer (some ⟨gm,20,none⟩),.int .i64 mt.2,.bool false,.bool false,.bool false,.agg Y1,.pointer (some ⟨gm,0,none⟩),.agg Y2,.bool true,.bool false,.bool false].getD i undef) Q HP.out (fun _ _ h hb=>HQK.out _ _ h hb) ?_ ?_
 ·simp only[aZ,kM,Act.put,ag,bV];refine⟨fun W hQ=>?_,fun W hQ=>?_,fun W hQ=>?_,fun W hQ=>?_,fun W hQ=>?_,fun W hQ=>?_,fun W hQ=>?_,fun W hQ=>?_,fun W hQ=>?_,fun W hQ=>?_,fun W hQ=>?_,fun W hQ=>?_,fun W hQ=>?_,fun W hQ=>?_,fun W hQ=>?_,fun W hQ=>?_,fun W hQ=>?_,fun W hQ=>?_,trivial⟩;all_goals
   have hS:=HQS.out _ hQ;have c20:=LDE.out _ hQ;go_wp2_with (first
    | (refine rE aG 32 _ rfl ⟨w.heap.size+2,0,none⟩ (.agg XT) rfl (LDT.out _ hS) ?_)
    | (refine rE aG 32 _ rfl ⟨gt,0,none⟩ (.agg Y1) rfl (LDG.out _ hQ) ?_)
    | (refine rE aG 32 _ rfl ⟨gm,0,none⟩ (.agg Y2) rfl (LDM.out _ hQ) ?_)
    | (go_at_call 14;refine (HVA.out _ hS).mono ?_;rintro e w8 ⟨rfl,hb8⟩)
    | (go_at_call 15;refine (HRV.out _ hS).mono ?_;rintro e w8 ⟨rfl,hb8⟩)
    | (go_at_call 16;refine (HSM.out _ hQ).mono ?_;rintro e w8 ⟨rfl,hb8⟩))
   exact⟨rfl,rfl,zU⟩
 intro wz hQz;simp only[aZ,kM,Act.put,ag,bV];have hS:=HQS.out _ hQz;clear hQz HSM LDG LDM LDE HQK HQS HP HVA;cases vt
 ·go_wp2_with (first | (first | (refine bD rfl 32 _ rfl ⟨w.heap.size+2,0,none⟩ (.agg XT) rfl (LDT.out _ hS) ?_) | (go_big_want;refine jE 32 _ rfl ⟨w.heap.size+2,0,none⟩ (.agg XT) rfl (LDT.out _ hS) ?_;simp only[Act.put,ag])) | ((first | (go_at_call 15;refine (HRV.out _ hS).mono ?_) | (go_at_call 11;refine (HSA.out _ hS).mono ?_));(rintro e w' ⟨rfl,hb'⟩;replace hS:=HSK.out _ _ hS hb';clear hb')));go_ret;exact⟨rfl,HSB.out _ hS⟩
 obtain⟨hn1,hn2,hm1,hm2,hi1,hi2,hus⟩:=HNW0.out (by trivial) (by trivial) (by trivial);have HN1:=aA hn1;have HN2:=aA hn2;have HM1:=aA hm1;have HM2:=aA hm2;have HI1:=aA hi1;have HI2:=aA hi2;have HUS:=aA hus;have HCF:=aA (HCF0.out (by trivial) (by trivial));clear hn1 hn2 hm1 hm2 hi1 hi2 hus HNW0 HCF0;go_upto_region 9 with (first | (first | (refine bD rfl 32 _ rfl ⟨w.heap.size+2,0,none⟩ (.agg XT) rfl (LDT.out _ hS) ?_) | (go_big_want;refine jE 32 _ rfl ⟨w.heap.size+2,0,none⟩ (.agg XT) rfl (LDT.out _ hS) ?_;simp only[Act.put,ag])) | (go_at_call 15;refine (HRV.out _ hS).mono ?_;(rintro e w' ⟨rfl,hb'⟩;replace hS:=HSK.out _ _ hS hb';clear hb')))
 go_upto_region 10 with (first
  | (first | (refine bD rfl 32 _ rfl ⟨w.heap.size+2,0,none⟩ (.agg XT) rfl (LDT.out _ hS) ?_) | (go_big_want;refine jE 32 _ rfl ⟨w.heap.size+2,0,none⟩ (.agg XT) rfl (LDT.out _ hS) ?_;simp only[Act.put,ag]))
  | (first | (refine bD rfl 27 _ rfl ⟨w.heap.size+1,0,none⟩ (.agg CA) rfl (LDC.out _ hS) ?_) | (go_big_want;refine jE 27 _ rfl ⟨w.heap.size+1,0,none⟩ (.agg CA) rfl (LDC.out _ hS) ?_;simp only[Act.put,ag]))
  | (go_at_call 17;refine (HN1.out _ hS).mono ?_;rintro e w1 ⟨hb1,y3,rfl,hr1,ht1⟩;simp only[zQ];replace hS:=HSK.out _ _ hS hb1)
  | (refine wpList_store_row rfl 32 _ _ rfl w1.heap.size y3.cells.toArray rfl rfl _ bf (heap_alloc_new w1 _) (kH hr1).1 (kH hr1).2.1 (kH hr1).2.2 ?_))
 (try dsimp only[Act.put]);generalize hwx:World.setRow _ _ _=w2;have hG:aQ w2 w1.heap.size 32 y3.cells.toArray:=aIr;have hbx:aF w1 w2:=uI;replace hS:=HSK.out _ _ hS hbx;replace hr1:=hr1.keep hbx;generalize hgn:w1.heap.size=gn at *;clear hwx hbx hgn hb1;go_upto_region 11 with (first
  | (first | (refine bD rfl 32 _ rfl ⟨w.heap.size+2,0,none⟩ (.agg XT) rfl (LDT.out _ hS) ?_) | (go_big_want;refine jE 32 _ rfl ⟨w.heap.size+2,0,none⟩ (.agg XT) rfl (LDT.out _ hS) ?_;simp only[Act.put,ag]))
  | (first | (refine bD rfl 27 _ rfl ⟨w.heap.size+1,0,none⟩ (.agg CA) rfl (LDC.out _ hS) ?_) | (go_big_want;refine jE 27 _ rfl ⟨w.heap.size+1,0,none⟩ (.agg CA) rfl (LDC.out _ hS) ?_;simp only[Act.put,ag]))
  | (go_at_call 18;refine (HN2.out _ hS).mono ?_;rintro e w3 ⟨hb3,y4,rfl,hr2,ht2⟩;replace hS:=HSK.out _ _ hS hb3;replace hG:=hG.keep hb3;replace hr1:=hr1.keep hb3)
  | (refine wpList_store_row rfl 40 _ _ rfl w3.heap.size (y4.cells++[Value.int .i64 nt.2]).toArray rfl rfl _ aBg (heap_alloc_new w3 _) (by rw[aCl hr2];exact YC) (by rw[aCl hr2];rfl) (aDd y4 nt.2) ?_))
 (try dsimp only[Act.put]);generalize hwx:World.setRow _ _ _=w4;have hM4:aQ w4 w3.heap.size 40 (y4.cells++[Value.int .i64 nt.2]).toArray:=aIs;have hbx:aF w3 w4:=uI;have hP:MkP S gn w3.heap.size y3 y4 nt.2 w4:=⟨HSK.out _ _ hS hbx,hG.keep hbx,hM4,hr1.keep hbx,hr2.keep hbx⟩;generalize hgr:w3.heap.size=gr at *;have hsm:∀ W,MkP S gn gr y3 y4 nt.2 W->Calls prog 16 #[.agg y3.cells.toArray,.agg y4.cells.toArray] W (Ret W (.bool true)):=fun W h=>Yx y3 y4 W h.y h.z (by rw[ht1,ht2]) (HNF.out _ y3 h.y ht1).1 (HNF.out _ y3 h.y ht1).2
 have ldG:∀ W,MkP S gn gr y3 y4 nt.2 W->(loadVar 32 ⟨gn,0,none⟩).run prog W=.ok (.agg y3.cells.toArray) W:=fun W h=>dY h.g (aIm h.y)
 have ldM:∀ W,MkP S gn gr y3 y4 nt.2 W->(loadVar 32 ⟨gr,0,none⟩).run prog W=.ok (.agg y4.cells.toArray) W:=fun W h=>aIn h.z h.m
 have ldE:∀ W,MkP S gn gr y3 y4 nt.2 W->W.cell? ⟨gr,20,none⟩=some (.int .i64 nt.2):=fun W h=>aIo h.z h.m
 obtain⟨Q,hQ⟩:∃ Q,Q=MkP S gn gr y3 y4 nt.2:=⟨_,rfl⟩;rw[<-hQ]at hsm ldG ldM ldE hP;have hqk:∀ W W',Q W->aF W W'->Q W':=by rw[hQ];exact fun _ _ h hb=>MkP.keep HSK.out h hb
 have hqs:∀ W,Q W->S W:=by rw[hQ];exact fun _ h=>h.s
 generalize y3.cells.toArray=Y3 at *;generalize y4.cells.toArray=Y4 at *;have HSM:=aA hsm;have LDG:=aA ldG;have LDM:=aA ldM;have LDE:=aA ldE;have HQK:=aA hqk;have HQS:=aA hqs;clear hsm ldG ldM ldE hqk hqs hwx hbx hgr hM4 hG hr1 hr2 hS ht1 ht2 hb3 HNF HN1 HN2 hQ;go_upto_region 12 with (first
  | (refine bD rfl 32 _ rfl ⟨w.heap.size+2,0,none⟩ (.agg XT) rfl (LDT.out _ (HQS.out _ hP)) ?_)
  | (go_at_call 19;refine (HM1.out _ (HQS.out _ hP)).mono ?_;rintro e w5 ⟨hb5,m1,rfl,hc1⟩;simp only[oJ];replace hP:=HQK.out _ _ hP hb5)
  | (refine wpList_store_row rfl 27 _ _ rfl w5.heap.size (dS M m1) rfl rfl _ fU (heap_alloc_new w5 _) lq rfl (lu _ _) ?_))
 (try dsimp only[Act.put]);generalize hwx:World.setRow _ _ _=w6;have hG:aQ w6 w5.heap.size 27 (dS M m1):=by rw[<-hwx];exact setRow_heap _ _ _ _ _ _ (heap_alloc_new w5 _)
 have hbx:aF w5 w6:=uI;replace hP:=HQK.out _ _ hP hbx;replace hc1:=hc1.keep hbx;generalize hgk:w5.heap.size=gk at *;clear hwx hbx hgk hb5;go_upto_region 13 with (first
  | (refine bD rfl 32 _ rfl ⟨w.heap.size+2,0,none⟩ (.agg XT) rfl (LDT.out _ (HQS.out _ hP)) ?_)
  | (go_at_call 20;refine (HM2.out _ (HQS.out _ hP)).mono ?_;rintro e w7 ⟨hb7,m2,rfl,hc2⟩;replace hP:=HQK.out _ _ hP hb7;replace hG:=hG.keep hb7;replace hc1:=hc1.keep hb7)
  | (refine wpList_store_row rfl 48 _ _ rfl w7.heap.size (F6 M m2 0).toArray rfl rfl _ (#[.int .i64 0,.int .i64 0,.string ⟨#[]⟩,.slice none 0 0,.slice none 0 0,.slice none 0 0,.int .i64 0,.int .i64 0]:Array Value) (heap_alloc_new w7 _) aFg rfl (aFh _ _ _) ?_))
 (try dsimp only[Act.put]);generalize hwx:World.setRow _ _ _=w8;have hM8:aQ w8 w7.heap.size 48 (F6 M m2 0).toArray:=by rw[<-hwx];exact setRow_heap _ _ _ _ _ _ (heap_alloc_new w7 _)
 have hbx:aF w7 w8:=uI;have hV:MkM Q gk w7.heap.size M m1 m2 w8:=⟨HQK.out _ _ hP hbx,hG.keep hbx,hM8,hc1.keep hbx,hc2.keep hbx⟩;generalize hgq:w7.heap.size=gq at *;have hs21:∀ W,MkM Q gk gq M m1 m2 W->Calls prog 21 #[.agg (dS M m1),.agg (dS M m2)] W (Ret W (.bool true)):=fun W h=>MI M m1 m2 W h.y h.z HCF.out
 have ld1:∀ W,MkM Q gk gq M m1 m2 W->(loadVar 27 ⟨gk,0,none⟩).run prog W=.ok (.agg (dS M m1)) W:=fun W h=>iO h.g rfl
 have ld2:∀ W,MkM Q gk gq M m1 m2 W->(loadVar 27 ⟨gq,0,none⟩).run prog W=.ok (.agg (dS M m2)) W:=fun W h=>aIi h.q
 have ld7:∀ W,MkM Q gk gq M m1 m2 W->W.cell? ⟨gq,7,none⟩=some (.int .i64 0)/\W.cell? ⟨gq,6,none⟩=some (.int .i64 M.us):=fun W h=>⟨h.q.cell (k:=7) rfl,h.q.cell (k:=6) rfl⟩
 obtain⟨V,hVD⟩:∃ V,V=MkM Q gk gq M m1 m2:=⟨_,rfl⟩;rw[<-hVD]at hs21 ld1 ld2 ld7 hV;have hvk:∀ W W',V W->aF W W'->V W':=by rw[hVD];exact fun _ _ h hb=>MkM.keep HQK.out h hb
 have hvq:∀ W,V W->Q W:=by rw[hVD];exact fun _ h=>h.s
 generalize dS M m1=C1 at *;generalize dS M m2=C2 at *;generalize M.us=us at *;have HS21:=aA hs21;have LD1:=aA ld1;have LD2:=aA ld2;have LD7:=aA ld7;have HVK:=aA hvk;have HVQ:=aA hvq;have HV:=aA (hvk _ _ hV (Below.drew (Below.refl _ _)));clear hs21 ld1 ld2 ld7 hvk hvq hV hVD hwx hbx hgq hM8 hG hc1 hc2 hP hb7 HM1 HM2 HCF;refine Ec 40 aG aG aG (fun i=>(.bool true :: .bool true :: .int .i64 nt.2 :: .pointer (some ⟨gr,20,none⟩) :: .int .i64 nt.2 :: .bool true :: .bool true :: .bool true :: .agg Y3 :: .pointer (some ⟨gr,0,none⟩) :: .agg Y4 :: .bool true :: .bool true :: .bool true :: .int .i64 0 :: .pointer (some ⟨gq,7,none⟩) :: .int .i64 0 :: .bool true :: .bool true :: .bool true :: .agg C1 :: .pointer (some ⟨gq,0,none⟩) :: .agg C2 :: .bool true :: .bool true :: .bool true :: .agg XT :: .agg DG :: .agg XT :: .agg DG :: .bool true :: .bool true :: .bool true :: .agg XT :: .int .i64 us :: .pointer (some ⟨gq,0,none⟩) :: .pointer (some ⟨gq,6,none⟩) :: .int .i64 us :: .bool true :: .bool true :: []).getD i undef) V HV.out (fun _ _ h hb=>HVK.out _ _ h hb) ?_ ?_
 ·simp only[aZ,kM,Act.put,ag,bV];refine⟨fun W hV=>?_,fun W hV=>?_,fun W hV=>?_,fun W hV=>?_,fun W hV=>?_,fun W hV=>?_,fun W hV=>?_,fun W hV=>?_,fun W hV=>?_,fun W hV=>?_,fun W hV=>?_,fun W hV=>?_,fun W hV=>?_,fun W hV=>?_,fun W hV=>?_,fun W hV=>?_,fun W hV=>?_,fun W hV=>?_,fun W hV=>?_,fun W hV=>?_,fun W hV=>?_,fun W hV=>?_,fun W hV=>?_,fun W hV=>?_,fun W hV=>?_,fun W hV=>?_,fun W hV=>?_,fun W hV=>?_,fun W hV=>?_,fun W hV=>?_,fun W hV=>?_,fun W hV=>?_,fun W hV=>?_,fun W hV=>?_,fun W hV=>?_,fun W hV=>?_,fun W hV=>?_,fun W hV=>?_,fun W hV=>?_,fun W hV=>?_,trivial⟩;all_goals
   have hQ:=HVQ.out _ hV;have hS:=HQS.out _ hQ;have c20:=LDE.out _ hQ;obtain⟨c7,c6⟩:=LD7.out _ hV;have e2:=HDG.out W;go_wp2_with (first
    | (refine rE aG 32 _ rfl ⟨w.heap.size+2,0,none⟩ (.agg XT) rfl (LDT.out _ hS) ?_)
    | (refine rE aG 32 _ rfl ⟨gn,0,none⟩ (.agg Y3) rfl (LDG.out _ hQ) ?_)
    | (refine rE aG 32 _ rfl ⟨gr,0,none⟩ (.agg Y4) rfl (LDM.out _ hQ) ?_)
    | (refine rE aG 27 _ rfl ⟨gk,0,none⟩ (.agg C1) rfl (LD1.out _ hV) ?_)
    | (refine rE aG 27 _ rfl ⟨gq,0,none⟩ (.agg C2) rfl (LD2.out _ hV) ?_)
    | (go_at_call 11;refine (HSA.out _ hS).mono ?_;rintro e w9 ⟨rfl,hb9⟩)
    | (go_at_call 16;refine (HSM.out _ hQ).mono ?_;rintro e w9 ⟨rfl,hb9⟩)
    | (go_at_call 21;refine (HS21.out _ hV).mono ?_;rintro e w9 ⟨rfl,hb9⟩)
    | (go_at_call 22;refine (HI1.out _ hS).mono ?_;rintro e w9 ⟨rfl,hb9⟩)
    | (go_at_call 23;refine (HI2.out _ hS).mono ?_;rintro e w9 ⟨rfl,hb9⟩)
    | (go_at_call 24;refine (HUS.out _ hS).mono ?_;rintro e w9 ⟨rfl,hb9⟩))
   exact⟨rfl,rfl,zU⟩
 intro wz hVz;simp only[aZ,kM,Act.put,ag,bV];have hbz:=HSB.out _ (HQS.out _ (HVQ.out _ hVz));go_wp2;go_ret;exact⟨rfl,hbz⟩
end Go.Proofs.YtlkbkclnbppigaaGreatDoor
namespace Go.Proofs.YtlkbkclnbppigaaGreatDoor
open _root_.Go.Proofs.Tryz _root_.Go.Proofs.YtlkbkclnbppigaaGreatDoor.Tryz
open Go.RowKit Go.ChangeShapes Go.WideShapes
section
variable {H:Type} {enc:TypeId × Value->H} {P:Program}
def aDm(P:Program)(ts:List TypeId):Bool:=ts.all fun t=>P.readableRec t&&decide (t<P.types.size)
theorem aFk(hl:laidOutB P=true){W W':World}(hb:aF W W')(sp:Nat->Bool) :
  ∀{ts:List TypeId}{vs:List Value}{ds:List (DataW H)}{ps:List MemPlace},aDm P ts=true->DataW.TrodAll enc P W 0 (fun _=>true) true ts vs ds ps->(∀ x∈ps,x.block<W.heap.size)->(∀ x∈ps,sp x.block=true)->DataW.TrodAll enc P W' 0 sp true ts vs ds ps
 | [],vs,ds,ps,_,h,_,_=>by
  obtain⟨rfl,rfl,rfl⟩:=trodAll_nil h;exact trodAll_mk0
 | t :: ts,vs,ds,ps,hr,h,h1,h2=>by
  obtain⟨v,vs',d,ds',p,q,rfl,rfl,rfl,hv,hs⟩:=trodAll_cons h;simp only[aDm,List.all_cons,Bool.and_eq_true,decide_eq_true_eq]at hr;exact trodAll_cons_mk (WideElems.Trod_stays hl hr.1.1 hr.1.2 hv (fun x hx=>hb.same (h1 x gB)) (fun x hx=>h2 x gB))
   (aFk hl hb sp (by simpa[aDm] using hr.2) hs (fun x hx=>h1 x gB) (fun x hx=>h2 x gB))
theorem aIt{t:TypeId}{W:World}{b:Nat}{sp:Nat->Bool}{hd:Bool}(ht:P.underlying t=some .bool)(x:Bool):DataW.TrodAll enc P W b sp hd [t] [.bool x] [.lit (.bool x)] []:=trodAll_mk1 (shut_bool ht x)
theorem aNr{f:Func}{s:ChangeSpec}{apart fresh handsOn again:Bool}{W W':World}{args:Array Value}{ds gs:List (DataW H)}{before:List MemPlace}{t:TypeId}
  (hW:DataW.Whole enc P f.params.toList s.vars apart W args.toList ds gs before) (hvars:s.vars=[]) (hl:laidOutB P=true) (hrow:aDm P f.params.toList=true) (hres:f.resultTypes=#[t]) (ht:P.underlying t=some .bool)
  (hfn:s.fn H (ds++gs)={ results:=[.lit (.bool true)],args:=ds }) (hb:aF W W'):s.post enc P f apart fresh handsOn again W args (.bool true) W':=by
 have hlt:∀ x∈before,x.block<W.heap.size:=fun x hx=>hW.lt x hx
 have hW0:=hW;obtain⟨p,q,hA,hV,hp,hfz,hnd⟩:=hW;rw[hvars]at hV;obtain⟨rfl,rfl⟩:=trodVars_none hV;rw[List.append_nil]at hp;subst hp;have hr1:(Value.bool true).resultList f.resultTypes.size=[.bool true]:=by rw[hres];rfl
 have hr2:f.resultTypes.toList=[t]:=by rw[hres]
 have hvs:∀ sp,DataW.TrodVars enc P W' sp s.vars [] []:=fun sp=>by rw[hvars];rfl
 refine⟨ds,[],before,[],before,[],hW0,?_,?_,?_,?_,fun _=>⟨?_,.lit (.bool true) :: ds,[],before,?_,fun x hx _=>hx⟩⟩
 ·rw[hfn,hr1,hr2];exact aIt ht true
 ·rw[hfn];exact aFk hl hb _ hrow hA hlt (fun x hx=>by simpa using hlt x hx)
 ·rw[hfn];exact hvs _
 ·exact World.keptBut_mono (fun x hx=>⟨hx,.inr (.inl hx)⟩) (hb.frame (·∈before))
 ·exact ok_one hres rfl (okWide_bool_mk ht true)
 ·refine⟨before,[],?_,hvs _,aH,?_,hnd⟩
  ·rw[hr1,hr2];have:=trodAll_append (aFk hl hb (fun _=>true) hrow hA hlt (fun _ _=>rfl)) (aIt (enc:=enc) (P:=P) (W:=W') (b:=0) (sp:=fun _=>true) (hd:=true) ht true);simpa using this
  ·intro b off hx;rw[hb.frozen (hlt _ hx)];exact hfz b off hx
end
end Go.Proofs.YtlkbkclnbppigaaGreatDoor
namespace Go.Proofs.YtlkbkclnbppigaaGreatDoor
open _root_.Go.Proofs.Tryz _root_.Go.Proofs.YtlkbkclnbppigaaGreatDoor.Tryz
open Go.ChangeShapes Go.WideShapes Go.ChangeAt Go.RowKit Go.ChangeMaps
theorem own:ownKnob prog.godebug=none:=by kernel_rfl
theorem aNs:laidOutB prog=true:=by kernel_rfl
theorem aNt{W:World}(h:W.ShapedOpen prog):Env W :=
 Go.Proofs.cell_of_shapedOpen_int (zero:=#[.int .i64 0]) (t:=3) h (of_decide_eq_true aG) aG rfl aG aG underlying3
def aBv(k:IntKind)(l:List Nat):Obj->Obj
 | .cells _ t frozen=>.cells (l.map fun (n:Nat)=>Value.int k (n:Int)).toArray t frozen
 | o=>o
def aNu:List Nat:=[0,1,28,2,29,14,24,3,30,22,20,15,25,17,4,8,31,27,13,23,21,19,16,7,26,12,18,6,11,5,10,9]
def aNv:List Nat:=[0,1,56,2,57,49,28,3,61,58,42,50,38,29,17,4,62,47,59,36,45,43,51,22,53,39,33,30,24,18,12,5,63,55,48,27,60,41,37,16,46,35,44,21,52,32,23,11,54,26,40,15,34,20,31,10,25,14,19,9,13,8,7,6]
def aNw:List Nat:=[1,10,100,1000,10000,100000,1000000,10000000,100000000,1000000000,10000000000,100000000000,1000000000000,10000000000000,100000000000000,1000000000000000,10000000000000000,100000000000000000,1000000000000000000,10000000000000000000]
noncomputable def aDn (os:Os):World :=
 { World.holding prog os ⟨#[],#[],[]⟩ with heap:=(((((World.holding prog os ⟨#[],#[],[]⟩).heap.modify 8 (aBv .u8 aNu)).modify 9 (aBv .u8 aNv)).modify 3 (aBv .u64 aNw)).modify 7 (aBv .u8 ([128,191,160,191,128,159,144,191,128,143]++List.replicate 22 0))).modify 6 (aBv .u8 Go.Pinned.utf8FirstZ) }
theorem aNx:(Rows.laid_internal_strconv_uint64pow10:DataW Unit)=Lib.tabData .u64 Lib.pow10Tab:=by kernel_rfl
theorem aNy{W:World}{d1 d2:DataW Unit}{n1 n2:String}{rest:List (String × DataW Unit)}(h:laidMet prog ((n1,d1) :: (n2,d2) :: ("internal/strconv.uint64pow10", Rows.laid_internal_strconv_uint64pow10) :: rest) W):Tab W:=by
 have h2:=laidMet.tail (laidMet.tail h);rw[aNx]at h2;exact Lib.tabIs_of_head (g:=3) aG aG underlying314 underlying150 aG aG h2
end Go.Proofs.YtlkbkclnbppigaaGreatDoor
