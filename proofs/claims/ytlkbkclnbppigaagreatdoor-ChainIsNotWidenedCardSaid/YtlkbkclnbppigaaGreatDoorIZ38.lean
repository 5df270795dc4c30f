/- chain.Text. -/
import Derived.Test.YtlkbkclnbppigaaGreatDoorIZ37
import Derived.Test.YtlkbkclnbppigaaGreatDoorIZ34
set_option maxHeartbeats 16000000
namespace Go.Proofs.YtlkbkclnbppigaaGreatDoor
open Tryz
open Go.RowKit Go.Sort
set_option linter.unusedVariables false
set_option linter.unusedSimpArgs false
set_option maxRecDepth 100000
def Df(n0:Nat)(a b c:aC):Value->World->Prop:=fun v W=>∃ g,v=.slice (some ⟨g,0,none⟩) 3 3/\W.ownsRow n0 9 1 (.slice (some ⟨g,0,none⟩) 3 3) 3 ([a,b,c].map .string)
theorem Yy(n0:Nat)(a b c:aC):sV (Df n0 a b c):=fun _ _ _ ⟨g,e,hr⟩ hb=>⟨g,e,fZ hr hb⟩
structure TxS(w:World)(X:Array Value)(W:World):Prop where
 x:aQ W w.heap.size 32 X
 b:aF w W
 s:w.heap.size<W.heap.size
theorem TxS.keep{w W W':World}{X:Array Value}(h:TxS w X W)(hb:aF W W'):TxS w X W':=⟨h.x.keep hb,aV h.b hb,Nat.lt_of_lt_of_le h.s hb.size⟩
theorem TxS.low{w W W':World}{X:Array Value}(h:TxS w X W)(hb:Below (w.heap.size+1) W W'):TxS w X W':=⟨(hb.block _ aB).trans h.x,h.b.trans (hb.mono aB),Nat.lt_of_lt_of_le h.s hb.size⟩
def ny(t:bz):List aC:=[ai t.cust,ai t.ser,t.id]
def Yz(n0 n:Nat)(xs:List Value):Value->World->Prop:=fun v W=>W.ownsRow n0 5 1 v n xs
def Y0(n0:Nat)(ys:List Value):Value->World->Prop:=fun v W=>∃ g,v=.slice (some ⟨g,0,none⟩) 2 2/\W.ownsRow n0 5 1 v 2 ys
structure HxS(w:World)(X:Array Value)(n0 nn:Nat)(sv bv:Value)(sn:Nat)(ss xs:List Value)(W:World):Prop where
 t:TxS w X W
 st:W.ownsRow n0 9 1 sv sn ss
 by_:W.ownsRow n0 5 1 bv nn xs
 s:n0<=W.heap.size
theorem HxS.low{w W W':World}{X:Array Value}{nn:Nat}{sv bv:Value}{sn:Nat}{ss xs ys:List Value}(h:HxS w X (w.heap.size+1) nn sv bv sn ss xs W)(hb:HxG (w.heap.size+1) nn xs ys W W'):HxS w X (w.heap.size+1) nn sv bv sn ss xs W' :=
 ⟨h.t.low hb.low,hb.st _ _ _ h.st,hb.r1 _ h.by_,Nat.le_trans h.s hb.low.size⟩
theorem Y6(x:ah)(w:World)(hR:bZ w x)(hf:∀ y∈x.L,dE y.c)(hcx:gX x.t=true->∀ y∈x.L,kD y.c)(hid:x.t.id.size<=1000000)(hn:x.t.conds.length<=1000)(hsz:gX x.t=true->(jF x.t).size<=140737488355328)(hE:Env w)(hTb:Tab w) :
  Calls prog 35 #[x.val] w (Ret w (.tuple #[.string (if gX x.t then jF x.t else ⟨#[]⟩),.int .i64 (if gX x.t then 0 else 3)])):=by
 have hv:=fun (W:World) (hb:aF w W)=>yZ x W (hR.keep hb) hf aB aB (hE.keep hb)
 have hXS:x.cells.toArray.size=20:=sW;obtain⟨i0,hi0,hz0,hz1,hz2⟩:=info_parts rY;have HI:Hid ((prog.info? 9=some i0)/\i0.zero=some (.string ⟨#[]⟩)/\i0.size=1/\i0.bytes=16):=aA ⟨hi0,hz0,hz1,hz2⟩;clear hi0 hz0 hz1 hz2;unfold ah.val at hv ⊢;have HXS:=aA hXS;clear hXS;cases hvt:gX x.t
 ·rw[hvt]at hv;have HV:=aA hv;clear hv hR hf hcx hE hTb hvt hsz;go_enter func35,ntmps35;go_upto_region 1 with fail
  generalize hw0:World.alloc _ _=w0;have hS0:TxS w x.cells.toArray w0:=N9;have hld:=dY hS0.x HXS.out;have hb0:=hS0.b;clear hw0;go_wp2_with (first
   | (refine bD rfl 32 _ rfl ⟨w.heap.size,0,none⟩ (.agg x.cells.toArray) rfl hld ?_)
   | (go_at_call 14;refine (HV.out _ hb0).mono ?_;rintro e w1 ⟨rfl,hb1⟩))
  go_ret2;exact⟨rfl,aV hb0 hb1⟩
 rw[hvt]at hv;rw[if_pos rfl,if_pos rfl];have hok:=(vH _).1 hvt;have hcr:=And.intro hok.c0 hok.c1;have hsr:=And.intro hok.s0 hok.s1;have hia:=fun (W:World) (hb:aF w W)=>oq x.t.cust W aB aB (hTb.keep hb)
 have hib:=fun (W:World) (hb:aF w W)=>oq x.t.ser W aB aB (hTb.keep hb)
 have hx0:x.cells.toArray[0]? = some (.int .i64 x.t.cust):=rfl;have hx1:x.cells.toArray[1]? = some (.int .i64 x.t.ser):=rfl;have hx2:x.cells.toArray[2]? = some (.string x.t.id):=rfl;have hx3:x.cells.toArray[3]? = some (.slice x.A x.t.conds.length x.c):=rfl;obtain⟨_,b,o,hA,hrow⟩:True/\∃ b o,x.A=some ⟨b,o,none⟩/\∀ j u,(x.L.flatMap CoM.cells)[j]? = some u->w.cell? ⟨b,o+j,none⟩=some u:=⟨trivial,hR.conds.rows.2 (by have:=hok.n0;omega)⟩;have hl:=hR.conds.len;have hld:=fun (i:Nat) (y:CoM) (hy:x.L[i]? = some y) (W:World) (hb:aF w W)=>pX W b (o+i*7) y (fun j u hu=>by
  obtain⟨_,b2,o2,hA2,hcell2⟩:=hR.conds.at_ hy;rw[hA]at hA2;injection hA2 with e
  injection e with e1 e2
  subst e1;subst e2;exact aW hb (hcell2 j u hu))
 have htx:=fun (y:CoM) (hy:y∈x.L) (W:World) (hb:aF w W)=>DK y.c y.m W ((hR.conds.each y hy).keep hb) (hcx hvt y hy) (hE.keep hb) (hTb.keep hb)
 have hts:=fun (W:World) (g:Nat) (h:fQ W g x)=>uK hR h
 simp only[oJ]at hld htx;have hsl:=hR.sl;have hfl:ig x.t=ny x.t++(x.L.map fun y=>bK y.c)++[kC x.t.sl]:=by
  unfold ig ny;rw[<-hR.same,List.map_map];simp
 have hn0:=hok.n0;obtain⟨V,hV⟩:∃ V,V=jF x.t:=⟨_,rfl⟩;have hV2:V=yM 59 (ny x.t++(x.L.map fun y=>bK y.c)++[kC x.t.sl]):=by rw[hV,<-hfl];rfl
 have hsz2:=hsz hvt;rw[<-hV]at hsz2;clear hsz;rw[<-hV];generalize hln:x.t.conds.length=n at *;rw[hA]at hx3;have HV:=aA hv;have HIA:=aA hia;have HIB:=aA hib;have HLD:=aA hld;have HTX:=aA htx;have HTS:=aA hts;have HSL:=aA hsl;have HVV:=aA hV2;have HL:=aA hl;have HX:=aA (And.intro hx0 (And.intro hx1 (And.intro hx2 hx3)));clear hv hia hib hld htx hts hsl hV2 hV hl hx0 hx1 hx2 hx3 hfl hrow hA hok hcr hsr hR hf hcx hE hTb hvt hln;go_enter func35,ntmps35;go_upto_region 1 with fail
 generalize hw0:World.alloc _ _=w0;have hS0:TxS w x.cells.toArray w0:=N9;have hld:=dY hS0.x HXS.out;have hb0:=hS0.b;clear hw0;go_upto_region 3 with (first
  | (refine bD rfl 32 _ rfl ⟨w.heap.size,0,none⟩ (.agg x.cells.toArray) rfl hld ?_)
  | (go_at_call 14;refine (HV.out _ hb0).mono ?_;rintro e w1 ⟨rfl,hb1⟩))
 have hS1:=hS0.keep hb1;have HS1:=aA hS1;clear hld hb0 hb1 hS0 hS1;refine qm 9 aG aG aG (DL [IsV (.pointer (some ⟨w.heap.size,0,none⟩)),IsV (.int .i64 x.t.cust),IsV (.string (ai x.t.cust)),IsV (.pointer (some ⟨w.heap.size,1,none⟩)),IsV (.int .i64 x.t.ser),IsV (.string (ai x.t.ser)),IsV (.pointer (some ⟨w.heap.size,2,none⟩)),IsV (.string x.t.id),Df (w.heap.size+1) (ai x.t.cust) (ai x.t.ser) x.t.id]) (DL.keep _ (by simp only[qp];repeat' (first | apply And.intro | exact vU _ | exact Yy _ _ _ _ | exact trivial))) (TxS w x.cells.toArray) (HS1.out.keep (Below.drew (Below.refl _ _))) (fun _ _ h hb=>h.keep hb) ?_ ?_
 ·dsimp only[List.take_succ_cons,List.take_zero,mf];refine⟨fun vals W hS hd=>?_,fun vals W hS hd=>?_,fun vals W hS hd=>?_,fun vals W hS hd=>?_,fun vals W hS hd=>?_,fun vals W hS hd=>?_,fun vals W hS hd=>?_,fun vals W hS hd=>?_,fun vals W hS hd=>?_,trivial⟩
  ·exact jh
  ·(try simp only[bQ,DL,IsV,bV,Region.binds,and_true,true_and]at hd);simp only[aZ,bH,Act.put];(try simp only[hd]);clear hd;have hcl:=hS.x.cell HX.out.1;go_wp2;exact⟨rfl,rfl,rfl,aJ⟩
  ·(try simp only[bQ,DL,IsV,bV,Region.binds,and_true,true_and]at hd);simp only[aZ,bH,Act.put];(try simp only[hd]);clear hd;have hbW:=hS.b;go_wp2_with (go_at_call 57;refine (HIA.out _ hbW).mono ?_;rintro e w5 ⟨rfl,hb5⟩);exact⟨rfl,rfl,rfl,aJ⟩
  ·exact jh
  ·(try simp only[bQ,DL,IsV,bV,Region.binds,and_true,true_and]at hd);simp only[aZ,bH,Act.put];(try simp only[hd]);clear hd;have hcl:=hS.x.cell HX.out.2.1;go_wp2;exact⟨rfl,rfl,rfl,aJ⟩
  ·(try simp only[bQ,DL,IsV,bV,Region.binds,and_true,true_and]at hd);simp only[aZ,bH,Act.put];(try simp only[hd]);clear hd;have hbW:=hS.b;go_wp2_with (go_at_call 57;refine (HIB.out _ hbW).mono ?_;rintro e w5 ⟨rfl,hb5⟩);exact⟨rfl,rfl,rfl,aJ⟩
  ·exact jh
  ·(try simp only[bQ,DL,IsV,bV,Region.binds,and_true,true_and]at hd);simp only[aZ,bH,Act.put];(try simp only[hd]);clear hd;have hcl:=hS.x.cell HX.out.2.2.1;go_wp2;exact⟨rfl,rfl,rfl,aJ⟩
  ·exact NY
 ·intro vals w9 hS9 hD9;obtain⟨g8,e8,ho8⟩:Df (w.heap.size+1) (ai x.t.cust) (ai x.t.ser) x.t.id (vals 8) w9:=hD9 8 aB;simp only[aZ,bH,Act.put];simp only[e8,Nat.zero_add,Nat.reduceAdd];clear hD9 e8;have HS9:=aA hS9;have hcl:=hS9.x.cell HX.out.2.2.2;have HO8:=aA (show w9.ownsRow (w.heap.size+1) 9 1 (.slice (some ⟨g8,0,none⟩) 3 3) 3 ((ny x.t++((x.L.map fun y=>bK y.c).take 0)).map .string) from ho8);clear ho8 hS9 HS1;go_wp2;have hz9:=HS9.out.s;go_loopw [4,25] (fun va vi wr=>∃(k:Nat)(A':Option Addr)(c':Nat),(va=.slice A' (3+k) c'/\vi=.int .i64 k/\k<=n)/\Hid (wr.ownsRow (w.heap.size+1) 9 1 (.slice A' (3+k) c') (3+k) ((ny x.t++((x.L.map fun y=>bK y.c).take k)).map .string))/\Hid (TxS w x.cells.toArray wr)) (fun _ vi _=>n-(intOf vi).toNat)
  case atStart=>exact⟨0,_,_,⟨rfl,rfl,Nat.zero_le _⟩,HO8,HS9⟩
  case round =>
   obtain⟨k,A',c',⟨rfl,rfl,hk⟩,HOWN,HS⟩:=hrel;clear HO8 HS9 hcl;by_cases hlt:k<n
   ·obtain⟨y,hy⟩:∃ y,x.L[k]? = some y:=⟨_,List.getElem?_eq_getElem gV⟩;have hldi:=HLD.out k y hy wr HS.out.b;have htk:(x.L.map fun y=>bK y.c).take (k+1)=(x.L.map fun y=>bK y.c).take k++[bK y.c]:=by rw[List.take_add_one,List.getElem?_map,hy];rfl
    have htx:=HTX.out y (List.mem_of_getElem? hy);generalize bK y.c=tx at *;generalize hYi:dS y.c y.m=Yi at *;have hYiS:Yi.size=7:=by rw[<-hYi];rfl
    have hYiO:Yi.all (·.oneCell')=true:=by rw[<-hYi];exact lu _ _
    have HTX1:=aA htx;have HTK:=aA htk;have HYO:=aA hYiO;have HYI:=aA (show (prog.info? 27).map (·.size)=some Yi.size by rw[hYiS];exact lq);have HYIS:=aA hYiS;have HLDI:=aA hldi;have hk0:(0:Int)<=(k:Int):=aB;have hk1:(k:Int)<(n:Int):=aB;clear htx htk hYi hYiS hYiO hldi hy;go_upto_region 7 with (first
     | (refine bD rfl 27 _ rfl ⟨b,o+k*7,none⟩ (.agg Yi) rfl HLDI.out ?_)
     | (refine wpList_store_row rfl _ _ _ rfl wr.heap.size Yi rfl rfl _ fU (heap_alloc_new wr _) HYI.out (by rw[HYIS.out];rfl) HYO.out ?_))
    (try dsimp only[Act.put]);generalize hw4:World.setRow _ _ _=w4;have B4:aQ w4 wr.heap.size 27 Yi:=by rw[<-hw4];exact setRow_heap _ _ _ _ _ _ (heap_alloc_new wr _)
    have hb4:aF wr w4:=by rw[<-hw4];exact below_setRow ((Below.refl _ _).alloc (Nat.le_refl _) _) (Nat.le_refl _) _
    have hS4:=HS.out.keep hb4;have hldc:=iO B4 HYIS.out;have HB4:=aA hb4;have HS4:=aA hS4;have HSZ:=aA HS.out.s;clear hw4 hb4 hS4 B4;go_wp2_with (first
     | (refine bD rfl 27 _ rfl ⟨wr.heap.size,0,none⟩ (.agg Yi) rfl hldc ?_)
     | (go_at_call 71;refine (HTX1.out _ HS4.out.b).mono ?_;rintro e w5 ⟨rfl,hb5⟩)
     | (at_builtin;refine wpList_append_own _ rfl _ _ 24 rfl (w.heap.size+1) 9 i0 (.string ⟨#[]⟩) 1 16 underlying24 HI.out.1 HI.out.2.1 HI.out.2.2.1 HI.out.2.2.2 rfl aK _ _ _ rfl ((fZ (fZ HOWN.out HB4.out) hb5).alloc _) ⟨w5.heap.size,0,none⟩ 1 1 [.string tx] rfl rfl (cell_one_new _ _ _) jJ dh aB (by have:=HSZ.out;have:=HB4.out.size;have:=hb5.size;simp;omega) ?_;intro v' w6 hown' hgrow _;obtain⟨g',cap',rfl⟩:=ownsRow_succ hown'))
    refine⟨⟨k+1,some ⟨g',0,none⟩,cap',⟨rfl,bg,aB⟩,?_,?_⟩,dD⟩
    ·rw[HTK.out,<-List.append_assoc,List.map_append];exact aA hown'
    ·have h4:=HB4.out.size;have h5:=hb5.size;have hs:=HSZ.out;have hlow:Below (w.heap.size+1) w4 w6:=((hb5.mono aB).alloc aB _).grown hgrow aP (fun r e=>fE HOWN.out r e);exact aA (HS4.out.low hlow)
   ·obtain rfl:k=n:=aB;have ht:(x.L.map fun y=>bK y.c).take k=(x.L.map fun y=>bK y.c):=List.take_of_length_le (by simp;have:=HL.out;omega);rw[ht]at HOWN;clear ht HTX HLD;go_upto_region 9 with fail
    have hlds:=HTS.out wr w.heap.size ⟨HS.out.x⟩;have HLDS:=aA hlds;clear hlds HTS;have HTL:=aA (fun (j a:Nat) (h:x.t.sl[j]? = some a) (W:World)=>Yw W x.t.sl j a h HSL.out.len);generalize (b8 x.t.sl).toArray=TL at *;go_wp2_with (refine bD rfl 30 _ rfl ⟨w.heap.size,4,none⟩ (.agg TL) rfl HLDS.out ?_);have HS0:=aA (show HxS w x.cells.toArray (w.heap.size+1) (2*0) (.slice A' (3+k) c') (.slice none 0 0) (3+k) ((ny x.t++x.L.map fun y=>bK y.c).map .string) (b8 (jC (x.t.sl.take 0))) wr from⟨HS.out,HOWN.out,World.ownsRow_nil _ _ _ _,HS.out.s⟩);go_loopw [7,37] (fun va vi wq=>∃(j:Nat)(B':Option Addr)(d':Nat),(va=.slice B' (2*j) d'/\vi=.int .i64 j/\j<=16/\(j=0->B'=none))/\Hid (HxS w x.cells.toArray (w.heap.size+1) (2*j) (.slice A' (3+k) c') (.slice B' (2*j) d') (3+k) ((ny x.t++x.L.map fun y=>bK y.c).map .string) (b8 (jC (x.t.sl.take j))) wq)) (fun _ vi _=>16-(intOf vi).toNat)
    case atStart=>exact⟨0,_,_,⟨rfl,rfl,Nat.zero_le _,fun _=>rfl⟩,HS0⟩
    case round =>
     obtain⟨j,B',d',⟨rfl,rfl,hj,hnil⟩,HQ⟩:=hrel;clear HS0 HS HOWN HLDS;by_cases hj16:j<16
     ·obtain⟨a,ha⟩:∃ a,x.t.sl[j]? = some a:=⟨_,List.getElem?_eq_getElem (by rw[HSL.out.len];exact hj16)⟩;have ht:=HTL.out j a ha;clear HTL;have ha256:=HSL.out.lt a (List.mem_of_getElem? ha);have hj0:(0:Int)<=(j:Int):=aB;have hj1:(j:Int)<16:=aB;go_upto_region 13 with fail
      clear ht;have hb16:a / 16<16:=aB;have hm16:a % 16<16:=aB;obtain⟨q1,hq1⟩:∃ q1,q1=a / 16:=⟨_,rfl⟩;obtain⟨q2,hq2⟩:∃ q2,q2=a % 16:=⟨_,rfl⟩;rw[<-hq1]at hb16;rw[<-hq2]at hm16;obtain⟨d1,hd1⟩:∃ d1,d1=(iZ q1).toNat:=⟨_,rfl⟩;obtain⟨d2,hd2⟩:∃ d2,d2=(iZ q2).toNat:=⟨_,rfl⟩;have hi1:=fun W=>N8 W q1 hb16
      have hi2:=fun W=>N8 W q2 hm16
      have HQ1:=aA (show (a:Int) / 16=(q1:Int) by omega);have HQ2:=aA (show (a:Int) % 16=(q2:Int) by omega);have HX1:=aA (show jC (x.t.sl.take (j+1))=jC (x.t.sl.take j)++[d1,d2] by rw[List.take_add_one,ha];show jC (_++[a])=_;rw[Yu,hd1,hd2,hq1,hq2]);clear hq1 hq2 hb16 hm16;rw[<-hd1]at hi1;rw[<-hd2]at hi2;obtain⟨i8,hi80,hz80,hz81,hz82⟩:=info_parts infoByte;have HI8:=aA (And.intro hi80 (And.intro hz80 (And.intro hz81 hz82)));have HI1:=aA hi1;have HI2:=aA hi2;have HNIL:=aA hnil;have HA2:=aA ha256;clear hi1 hi2 hd1 hd2 hnil ha ha256 hi80 hz80 hz81 hz82;obtain⟨xs,hxs⟩:∃ xs,xs=b8 (jC (x.t.sl.take j)):=⟨_,rfl⟩;obtain⟨ys,hys⟩:∃ ys:List Value,ys=[.int .u8 (d1:Int),.int .u8 (d2:Int)]:=⟨_,rfl⟩;rw[<-hxs]at HQ;have HXX:=aA hxs;have HYY:=aA hys;have HYL:=aA (show ys.length=2*1 by rw[hys];rfl);have HY1:=aA (show ∀ u∈ys,u.oneCell'=true by rw[hys];intro u hu;simp at hu;rcases hu with rfl | rfl <;> rfl);clear hxs hys;refine Ez (HxG (w.heap.size+1) (2*j) xs ys) HxG.refl HxG.trans 9 aG aG aG (DL [IsV (.slice B' (2*j) d'),IsV (.int .u8 (a:Int)),IsV (.int .u8 (q1:Int)),IsV (.int .u8 (d1:Int)),IsV (.int .u8 (a:Int)),IsV (.int .u8 (q2:Int)),IsV (.int .u8 (d2:Int)),Y0 (w.heap.size+1) ys,Yz (w.heap.size+1) (2*j+2) (xs++ys)]) (DL.keepG _ _ (by simp only[y8];repeat' (first | apply And.intro | exact NS _ _ | exact fun v _ _ h hg=>hg.r2 v h | exact (fun v _ _ ⟨g,e,h⟩ hg=>⟨g,e,hg.r3 v h⟩) | exact trivial))) (HxS w x.cells.toArray (w.heap.size+1) (2*j) (.slice A' (3+k) c') (.slice B' (2*j) d') (3+k) ((ny x.t++x.L.map fun y=>bK y.c).map .string) xs) (HQ.out.low (ys:=ys) (HxG.of (Below.drew (Below.refl _ _)) HQ.out.s)) (fun _ _ h hb=>h.low hb) ?_ ?_
      ·dsimp only[List.take_succ_cons,List.take_zero,uS];refine⟨fun vals W hS hd=>?_,fun vals W hS hd=>?_,fun vals W hS hd=>?_,fun vals W hS hd=>?_,fun vals W hS hd=>?_,fun vals W hS hd=>?_,fun vals W hS hd=>?_,fun vals W hS hd=>?_,fun vals W hS hd=>?_,trivial⟩
       ·exact Dh
       ·exact Dh
       ·exact yg
       ·(try simp only[bQ,DL,IsV,bV,Region.binds,and_true,true_and]at hd);simp only[aZ,bH,Act.put];(try simp only[hd]);clear hd;have hix:=HI1.out W;go_wp2;exact⟨rfl,rfl,rfl,HxG.refl _⟩
       ·exact Dh
       ·(try simp only[bQ,DL,IsV,bV,Region.binds,and_true,true_and]at hd);simp only[aZ,bH,Act.put];(try simp only[hd]);clear hd;have h256:=HA2.out;go_wp2;exact⟨rfl,(congrArg (Value.int .u8) HQ2.out:Value.int .u8 _=Value.int .u8 _),rfl,HxG.refl _⟩
       ·(try simp only[bQ,DL,IsV,bV,Region.binds,and_true,true_and]at hd);simp only[aZ,bH,Act.put];(try simp only[hd]);clear hd;have hix:=HI2.out W;go_wp2;exact⟨rfl,rfl,rfl,HxG.refl _⟩
       ·(try simp only[bQ,DL,IsV,bV,Region.binds,and_true,true_and]at hd);simp only[aZ,bH,Act.put];(try simp only[hd]);clear hd;have hsW:=hS.s;go_wp2;refine⟨rfl,⟨_,rfl,?_⟩,rfl,HxG.of (fJ _ _) hsW⟩;rw[HYY.out];exact World.ownsRow_lit (base:=w.heap.size+1) (e:=5) (size:=1) W #[.int .u8 (d1:Int),.int .u8 (d2:Int)] 2 hsW dh rfl
       ·(try simp only[bQ,DL,IsV,bV,Region.binds,and_true,true_and]at hd);obtain⟨e0,g7,e7,ho7⟩:=hd;rw[e7]at ho7;simp only[aZ,bH,Act.put];(try simp only[e0,e7]);have hsW:=hS.s;have hr7:=aI.of_own ho7;obtain⟨gg,oo,eg,hcg⟩:=hr7.2 aB;injection eg with eg
        injection eg with eg1 eg2
        subst eg1;subst eg2;have hadd:∀ j,(⟨g7,0,none⟩:Addr).add j=⟨g7,0+j,none⟩:=fun j=>nH
        have HA7:=aA (fun j u (hu:ys[j]? = some u)=>(show W.cell? ((⟨g7,0,none⟩:Addr).add j)=some u by rw[hadd];exact hcg j u hu));have HBY:=aA hS.by_;clear hr7 hcg hadd ho7 e7 e0;go_wp2_with (at_builtin;refine FB rfl _ _ 105 rfl (w.heap.size+1) 5 i8 (.int .u8 0) 1 1 underlying105 HI8.out.1 HI8.out.2.1 HI8.out.2.2.1 HI8.out.2.2.2 rfl aK (.slice B' (2*j) d') (2*j) xs rfl HBY.out ⟨g7,0,none⟩ 2 2 ys rfl HYL.out HA7.out HY1.out dh aB hsW ?_;intro v6 w6 hown6 hgrow6 hstay6);refine⟨rfl,hown6,rfl,⟨Below.grown (Below.refl _ _) hgrow6 hsW (fun r e=>fE HBY.out r e),fun v h=>hstay6 v _ xs h (.inl (Nat.le_refl _)),fun v h=>hstay6 v _ _ h (.inr (List.prefix_refl _)),fun v h=>?_,fun v i zs h=>N7 h hgrow6 (Yq h HBY.out aK)⟩⟩;by_cases h2:2<=2*j
        ·exact hstay6 v 2 ys h (.inl h2)
        ·have hb:B'=none:=HNIL.out aB;rw[hb]at hgrow6;refine N7 h hgrow6 ?_;cases hv:v.ownBlock with
         | none=>exact .inl rfl
         | some r=>exact .inr (by simp[Value.ownBlock])
      ·intro vals w9 hS9 hD9;have e8:w9.ownsRow (w.heap.size+1) 5 1 (vals 8) (2*j+2) (xs++ys):=hD9 8 aB;obtain⟨g6,c6,e6⟩:=ownsRow_succ e8;rw[e6]at e8;simp only[aZ,bH,Act.put];simp only[e6,Nat.zero_add,Nat.reduceAdd];clear hD9 e6;have HS9:=aA hS9;have HE8:=aA e8;clear hS9 e8;go_wp2;refine⟨⟨j+1,some ⟨g6,0,none⟩,c6,⟨rfl,bg,aB,fun h=>aB⟩,aA ⟨HS9.out.t,HS9.out.st,?_,HS9.out.s⟩⟩,dD⟩;have e:=HE8.out;rw[HX1.out];have e2:b8 (jC (x.t.sl.take j)++[d1,d2])=xs++ys:=by rw[HXX.out,HYY.out];unfold b8;rw[List.map_append];rfl
       rw[e2];exact e
     ·obtain rfl:j=16:=aB;have ht16:x.t.sl.take 16=x.t.sl:=List.take_of_length_le (by rw[HSL.out.len];omega);rw[ht16]at HQ;clear ht16;have hcv:=ui wr B' 32 d' (jC x.t.sl) (by rw[Yv,HSL.out.len]) (Yr _) aB (aI.of_own HQ.out.by_);rw[Yt]at hcv;obtain⟨hx,hhx⟩:∃ hx,hx=kC x.t.sl:=⟨_,rfl⟩;rw[<-hhx]at hcv;obtain⟨ws,hws⟩:∃ ws,ws=ny x.t++x.L.map fun y=>bK y.c:=⟨_,rfl⟩
      rw[<-hws]at HQ;have hV3:V=yM 59 (ws++[hx]):=by rw[HVV.out,hws,hhx]
      have hJ:=fun (g cap:Nat) (W:World) (h:W.ownsRow (w.heap.size+1) 9 1 (.slice (some ⟨g,0,none⟩) (3+k+1) cap) (3+k+1) ((ws++[hx]).map .string))=>VZ 59 (some ⟨g,0,none⟩) (3+k+1) cap (ws++[hx]) W (w.heap.size+1) h (by
       have e:(Lib.join ((ws++[hx]).map (·.data.toList)) [59]).length=V.size:=by rw[hV3,Lib.size_eq];rfl
       rw[e];exact hsz2) aB
      rw[<-hV3]at hJ;have HJ:=aA hJ;have HST:=aA HQ.out.st;have HTT:=aA HQ.out.t;have hsz5:=HQ.out.s;clear hJ hV3 hws hhx HVV hsz2 HQ;go_wp2_with (first
       | (at_builtin;refine wpList_append_own _ rfl _ _ 24 rfl (w.heap.size+1) 9 i0 (.string ⟨#[]⟩) 1 16 underlying24 HI.out.1 HI.out.2.1 HI.out.2.2.1 HI.out.2.2.2 rfl aK _ _ _ rfl (HST.out.alloc _) ⟨wr.heap.size,0,none⟩ 1 1 [.string hx] rfl rfl (cell_one_new _ _ _) jJ dh aB aP ?_;intro v' w6 hown' hgrow _;obtain⟨g',cap',rfl⟩:=ownsRow_succ hown';have hown2:w6.ownsRow (w.heap.size+1) 9 1 (.slice (some ⟨g',0,none⟩) (3+k+1) cap') (3+k+1) ((ws++[hx]).map .string):=(by rw[List.map_append];exact hown'))
       | (go_at_call 72;refine (HJ.out _ _ _ hown2).mono ?_;rintro e w7 ⟨rfl,hb7⟩))
      go_ret2;have hlow:Below w.heap.size wr w6:=((Below.refl w.heap.size wr).alloc aB _).grown hgrow aP (fun r e=>by have:=fE HST.out r e;omega);exact⟨rfl,aV (HTT.out.b.trans hlow) hb7⟩
def tN:List PanicEntry:=[{ v:=.iface 36 (.int .i64 3),recovered:=false }]
theorem tV(w:World):Calls prog 76 #[.bool true] w fun e w'=>e=.returned (.tuple #[])/\w'=w:=by
 go_enter func76,ntmps76;go_wp2;go_end0;exact⟨rfl,rfl⟩
theorem tX(w:World):Calls prog 76 #[.bool false] w fun e w'=>e=.panicked tN/\w'=w:=by
 go_enter func76,ntmps76;go_wp2;exact⟨rfl,rfl,rfl⟩
theorem Y7{l:List UInt8}{v:Int}(h:Lib.atoiAll l=.ok v) : -9223372036854775808<=v/\v<=9223372036854775807:=by
 unfold Lib.atoiAll at h;cases l with
 | nil=>cases h
 | cons c r =>
  dsimp only at h;cases hp:Lib.parseMag (if c.toNat=43\/c.toNat=45 then r else c :: r) with
  | «syntax»=>rw[hp]at h;cases h
  | range=>rw[hp]at h;cases h
  | ok u =>
   rw[hp]at h;dsimp only at h;split at h
   ·cases h
   ·split at h
    ·cases h
    ·injection h with h
     subst h;split <;> omega
theorem zB(s:aC) : -9223372036854775808<=af s/\af s<=9223372036854775807:=by
 unfold af;cases h:Lib.atoiAll s.data.toList with
 | «syntax»=>show (-9223372036854775808:Int)<=0/\(0:Int)<=9223372036854775807;omega
 | range=>show -9223372036854775808<=Lib.atoiSat s.data.toList/\Lib.atoiSat s.data.toList<=_;unfold Lib.atoiSat;split <;> omega
 | ok v=>exact Y7 h
theorem Di(s:aC)(w:World)(hs:s.size<=1000000)(hE:jP w)(hTb:Tab w)(h:ik s=true):Calls prog 77 #[.string s] w (Ret w (.int .i64 (af s))):=by
 have hat:=fun W hE=>Cf s W hs hE
 have hit:=fun (W:World) (hb:aF w W)=>oq (af s) W (zB s).1 (zB s).2 (hTb.keep hb)
 unfold ik at h;simp only[Bool.and_eq_true,decide_eq_true_eq,Bool.not_eq_true']at h;obtain⟨h1,h2⟩:=h;rw[h2]at hit;rw[h1]at hat;generalize af s=N at *;have HAT:=aA hat;have HIT:=aA hit;have HE:=aA hE;clear hat hit hE h1 h2 hTb;go_enter func77,ntmps77;go_wp2_with (first | ((go_at_call 137;refine (HAT.out w HE.out).mono ?_;rintro e w2 ⟨⟨ev,rfl,hev⟩,hb2⟩);obtain rfl:ev=.nilIface:=Cj) | (go_at_call 57;refine (HIT.out _ hb2).mono ?_;rintro e w3 ⟨rfl,hb3⟩) | (go_at_call 76;refine (tV _).mono ?_;rintro e w4 ⟨rfl,rfl⟩));go_ret;exact⟨rfl,aV hb2 hb3⟩
theorem OB(s:aC)(w:World)(hs:s.size<=1000000)(hE:jP w)(hTb:Tab w)(h:ik s=false):Calls prog 77 #[.string s] w fun e w'=>e=.panicked tN/\aF w w':=by
 have hat:=fun W hE=>Cf s W hs hE
 have hit:=fun (W:World) (hb:aF w W)=>oq (af s) W (zB s).1 (zB s).2 (hTb.keep hb)
 unfold ik at h;cases h1:dH s
 ·rw[h1]at h hat;have h2:¬ ai (af s)=s:=nD;have h4:¬ (ai (af s)).toList=s.toList:=fun e=>h2 (fK (by rw[Lib.toList_data,Lib.toList_data]at e;exact e))
  have h3:((ai (af s)).toList==s.toList)=false:=beq_eq_false_iff_ne.2 h4;generalize ai (af s)=t at *;generalize af s=N at *;have HAT:=aA hat;have HIT:=aA hit;have HE:=aA hE;clear hat hit hE h1 h2 h hTb;go_enter func77,ntmps77;go_wp2_with (first | ((go_at_call 137;refine (HAT.out w HE.out).mono ?_;rintro e w2 ⟨⟨ev,rfl,hev⟩,hb2⟩);obtain rfl:ev=.nilIface:=Cj) | (go_at_call 57;refine (HIT.out _ hb2).mono ?_;rintro e w3 ⟨rfl,hb3⟩) | (go_at_call 76;refine (tX _).mono ?_;rintro e w4 ⟨rfl,rfl⟩));exact⟨rfl,rfl,aV hb2 hb3⟩
 ·rw[h1]at hat;generalize af s=N at *;have HAT:=aA hat;have HE:=aA hE;clear hat hit hE h1 h hTb;go_enter func77,ntmps77;go_wp2_with (first | ((go_at_call 137;refine (HAT.out w HE.out).mono ?_;rintro e w2 ⟨⟨ev,rfl,hev⟩,hb2⟩);obtain⟨te,pe,rfl⟩:∃ te pe,ev=.iface te (.pointer pe):=Kr) | (go_at_call 76;refine (tX _).mono ?_;rintro e w4 ⟨rfl,rfl⟩));exact⟨rfl,rfl,hb2⟩
theorem Y8(p q:Addr)(w:World) :
  CallsD prog 74 #[.pointer (some p),.pointer (some q)] .returning w fun e u' w'=>e=.returned (.tuple #[])/\u'=.returning/\w'=w:=by
 refine callsD_of_wpS func74 rfl fun c₀ cs hu=>?_
 apply wpS_seq;apply wpS_region;simp[wpOpsS,go_sem,recoverD,hu,ntmps74,Exit.thenS];apply wpS_seq;apply wpS_region;simp[wpOpsS,go_sem,Exit.thenS];refine wpS_cond (t:=false) (by simp[Act.eval,Array.replicate]) ?_;simp only[Bool.false_eq_true,if_false];refine wpS_of_wp (wp_skip ?_);cases c₀;simp_all [bodyPostS,results,results74]
theorem Y9(g h:Nat)(X:Array Value)(e:Int)(w:World)(hx:aQ w g 32 X)(hs:X.size=20)(he:aQ w h 36 #[.int .i64 e])(hgh:g≠h) :
  CallsD prog 74 #[.pointer (some ⟨g,0,none⟩),.pointer (some ⟨h,0,none⟩)] (.panicking tN) w fun e u' w' =>
   e=.returned (.tuple #[])/\u'=.panicking [{ v:=.iface 36 (.int .i64 3),recovered:=true }]/\w'=(w.drew.setRow g bf).setCell ⟨h,0,none⟩ (.int .i64 3):=by
 unfold tN;refine callsD_of_wpS func74 rfl fun c₀ cs hu=>?_
 apply wpS_seq;apply wpS_region;simp[wpOpsS,go_sem,recoverD,hu,ntmps74,Exit.thenS];apply wpS_seq;apply wpS_region;simp[wpOpsS,go_sem,Exit.thenS];refine wpS_cond (t:=true) (by simp[Act.eval,Array.replicate]) ?_;simp only[if_true];refine wpS_of_wp ?_;have hta:∀ w:World,(Instr.typeAssert (.iface 36 (.int .i64 3)) 20 36 false).run prog w=.ok (.int .i64 3) w:=fun _=>rfl
 have hone:(bf:Array Value).all (·.oneCell')=true:=mi 0 0 ⟨#[]⟩ none 0 0 fH;have hx1:w.drew.heap[g]? = some (.cells X 32 (0,0)):=hx;have he1:aQ (w.drew.setRow g bf) h 36 #[.int .i64 e]:=(setRow_other _ _ _ _ (fun h2=>hgh h2.symm)).trans he;have c1:=he1.cell (k:=0) rfl;have f1:=frozen_of_row _ _ 0 _ _ he1;change Code.wp _ _ _ { tmps:=#[.pointer (some ⟨g,0,none⟩),.pointer (some ⟨h,0,none⟩),.iface 36 (.int .i64 3),.iface 36 (.int .i64 3),.iface 36 (.int .i64 3),.bool true,undef,undef,undef],defers:=[] } _;have HX1:=aA hx1;clear hx hx1 he he1;refine wp_region_noPanic ?_;refine wp_region_any aG ?_;change wpAny _ _ _ _ _ _ _ (World.drew _);refine wpAny_take (i:=0) (v:=.agg bf) rfl aG aG aG (fun _ _ _ h=>h) (Or.inl ⟨bC,?b0⟩) ?r0
 case b0=>(intro w;go_simp;try with_reducible rfl)
 (try simp only[Act.put,ag]);refine wpAny_take (i:=1) (v:=.iface 36 (.int .i64 3)) rfl aG aG aG (fun _ _ _ h=>h) (Or.inl ⟨bC,?b1⟩) ?r1
 case b1=>(intro w;go_simp;try with_reducible rfl)
 (try simp only[Act.put,ag]);refine wpAny_take (i:=2) (v:=.int .i64 3) rfl aG aG aG (fun _ _ _ h=>h) (Or.inl ⟨bC,?b2⟩) ?r2
 case b2=>(intro w;go_simp;try with_reducible rfl)
 (try simp only[Act.put,ag]);refine wpAny_ready (rs:=[3]) aG aH ?_;refine AllReady.cons (o:=_) rfl (fun K hK=>?_) AllReady.nil;rw[if_pos bC];refine wp_store_row 32 _ _ bC g bf bC bC _ X HX1.out lC (by rw[hs];rfl) hone ?_;refine hK _ _ ?_;clear hK K;(try simp only[Act.put,ag]);refine wpAny_ready (rs:=[4]) aG aH ?_;refine AllReady.cons (o:=_) rfl (fun K hK=>?_) AllReady.nil;go_simp;refine hK _ _ ?_;clear hK K;refine wpAny_done aG ?_ _;cases c₀;simp_all [NoPanic,bodyPostS,results,results74]
structure PaS(w:World)(X:Array Value)(e:Int)(W:World):Prop where
 t:aQ W w.heap.size 32 X
 e:aQ W (w.heap.size+1) 36 #[.int .i64 e]
 b:aF w W
theorem PaS.keep{w W W':World}{X:Array Value}{e:Int}{B:Nat}(h:PaS w X e W)(hb:Below B W W')(hB:w.heap.size+2<=B):PaS w X e W' :=
 ⟨(hb.block _ aB).trans h.t,(hb.block _ aB).trans h.e,h.b.trans (hb.mono aB)⟩
def pz(s:aC):bz × Int:=if 131072<s.size then (iK,2) else match nU s with
 | some t=>(t,0)
 | none=>(iK,3)
def tY(w:World):List Deferred:=[{ target:=.fn (.func 74) #[.pointer (some ⟨w.heap.size,0,none⟩),.pointer (some ⟨w.heap.size+1,0,none⟩)],args:=#[] }]
theorem OC{w W:World}{X:Array Value}{e:Int}{tmps:Array Value}(h:PaS w X e W)(hs:X.size=20)(h2:tmps.getD 2 undef=.pointer (some ⟨w.heap.size,0,none⟩))(h3:tmps.getD 3 undef=.pointer (some ⟨w.heap.size+1,0,none⟩)) :
  (results Tryz.f37 tmps).run prog W=.ok (.tuple #[.agg X,.int .i64 e]) W :=
 Nh rfl _ _ _ _ _ _ h2 h3 (dY h.t hs) (Nj h.e)
theorem tZ{w W:World}{X:Array Value}{e:Int}{tmps:Array Value}(h:PaS w X e W)(hs:X.size=20)(h2:tmps.getD 2 undef=.pointer (some ⟨w.heap.size,0,none⟩))(h3:tmps.getD 3 undef=.pointer (some ⟨w.heap.size+1,0,none⟩)) :
  bodyPostD prog Tryz.f37 (jQ iK 3 w) (.panic tN) { tmps:=tmps,defers:=tY w } W:=by
 show Leaves _ _ _ _ _ _ _;unfold tY;refine leaves_cons (f:=74) (args:=#[.pointer (some ⟨w.heap.size,0,none⟩),.pointer (some ⟨w.heap.size+1,0,none⟩)]) aH iD ?_;refine (Y9 w.heap.size (w.heap.size+1) X e W h.t hs h.e aB).mono ?_;rintro e u' w'' ⟨rfl,rfl,rfl⟩;have hb:aF w ((W.drew.setRow w.heap.size bf).setCell ⟨w.heap.size+1,0,none⟩ (.int .i64 3)):=(below_setRow (Below.drew h.b) (Nat.le_refl _) _).setCell (p:=⟨w.heap.size+1,0,none⟩) ay _;have hP:PaS w bf 3 ((W.drew.setRow w.heap.size bf).setCell ⟨w.heap.size+1,0,none⟩ (.int .i64 3)):=by
  refine⟨(heap_setCell_other _ _ _ _ ay).trans (setRow_heap _ _ _ _ _ _ h.t),?_,hb⟩;have he:aQ (W.drew.setRow w.heap.size bf) (w.heap.size+1) 36 #[.int .i64 e]:=(setRow_other _ _ _ _ aB).trans h.e;exact heap_setCell_same _ _ _ _ _ _ he
 generalize (W.drew.setRow w.heap.size bf).setCell ⟨w.heap.size+1,0,none⟩ (.int .i64 3)=W9 at *;have hr:=OC hP rfl h2 h3;simp[Leaves,settle,hr];exact⟨hb,vZ,rfl,yz _,rfl⟩
theorem ZB{w W:World}{x:ah}{tmps:Array Value}(h:PaS w x.cells.toArray 0 W)(hR:bZ W x)(h2:tmps.getD 2 undef=.pointer (some ⟨w.heap.size,0,none⟩))(h3:tmps.getD 3 undef=.pointer (some ⟨w.heap.size+1,0,none⟩)) :
  bodyPostD prog Tryz.f37 (jQ x.t 0 w) .ret { tmps:=tmps,defers:=tY w } W:=by
 show Leaves _ _ _ _ _ _ _;unfold tY;refine leaves_cons (f:=74) (args:=#[.pointer (some ⟨w.heap.size,0,none⟩),.pointer (some ⟨w.heap.size+1,0,none⟩)]) aH iD ?_;refine (Y8 ⟨w.heap.size,0,none⟩ ⟨w.heap.size+1,0,none⟩ W).mono ?_;rintro e u' w'' ⟨rfl,rfl,rfl⟩;have hr:=OC h sW h2 h3;simp[Leaves,settle,hr];exact⟨h.b,x,rfl,hR,rfl⟩
theorem PaS.sete{w W:World}{X:Array Value}{e v:Int}(h:PaS w X e W):PaS w X v (W.setCell ⟨w.heap.size+1,0,none⟩ (.int .i64 v)) :=
 ⟨(heap_setCell_other _ _ _ _ ay).trans h.t,heap_setCell_same _ _ _ _ _ _ h.e,h.b.setCell (p:=⟨w.heap.size+1,0,none⟩) ay _⟩
end Go.Proofs.YtlkbkclnbppigaaGreatDoor
