/- Plain: rules without tags, and the pattern of a whole customer. -/
import Derived.Test.YticlbkficolocaaGreatDoorIZ37
import Derived.Test.YticlbkficolocaaGreatDoorIZ44
set_option maxHeartbeats 16000000
namespace Go.Proofs.YticlbkficolocaaGreatDoor
open Go.RowKit Go.Sort
set_option linter.unusedVariables false
set_option linter.unusedSimpArgs false
set_option maxRecDepth 100000
def Ut (cust:ByteArray):ByteArray:=cust++⟨#[47,42,42]⟩
theorem whole_comp {cust:ByteArray} (h:Qy cust=true):Qx (Ut cust)=some ⟨⟨0,cust⟩,[],true⟩:=by
 have h1:Qx (VW ⟨⟨0,cust⟩,[],true⟩)=some ⟨⟨0,cust⟩,[],true⟩:=UY ⟨.inl ⟨rfl,h⟩,fun p hp=>(by cases hp),by simp⟩
 have h2:VW ⟨⟨0,cust⟩,[],true⟩=Ut cust:=by
  refine Qm ?_
  unfold VW Ut Qp Zg Xt
  simp[Zd,lists,Lib.join]
 rw[←h2];exact h1
def KX (L:List Qh) (k:Nat):List ByteArray:=((L.take k).filter fun q=>q.r.tags.isEmpty).map (·.r.pat)
theorem unrK_succ {L:List Qh} {k:Nat} {x:Qh} (h:L[k]? = some x):KX L (k+1)=if x.r.tags.isEmpty=true then KX L k++[x.r.pat] else KX L k:=by
 unfold KX
 rw[List.take_add_one,h,List.filter_append,List.map_append]
 by_cases hs:x.r.tags.isEmpty=true
 ·rw[if_pos hs];simp only[Option.toList,List.filter_cons,hs,if_pos,List.filter_nil,List.map_cons,List.map_nil]
 ·rw[if_neg hs];simp only[Option.toList,List.filter_cons,hs,if_neg,List.filter_nil,List.map_nil,List.append_nil,Bool.false_eq_true,if_false,not_false_eq_true]
theorem unrK_len (L:List Qh) (k:Nat):(KX L k).length≤k:=by
 unfold KX
 rw[List.length_map]
 exact Nat.le_trans (List.length_filter_le _ _) (by rw[List.length_take];omega)
theorem infKn06:(Tryz.prog.info? 91).map (·.size)=some 2:=by kernel_rfl
def AlM (base:Nat):Value→World→Prop:=fun v W=>∃ g,v=.pointer (some ⟨g,0,none⟩)∧Qv W g 91 #[.bool false,.int .i64 0] (0,0)∧base≤g
theorem keeps_alM (base:Nat):Keeps (AlM base):=fun _ _ _ ⟨g,e,hk,hg⟩ hb=>⟨g,e,Qv.keep hk hb,hg⟩
def Vl (L:List Qh) (i k:Int):Bool × Int :=
 if Yt L i k=true then (match L[i.toNat]?,L[k.toNat]? with
  | some x,some y=>((meetR x.r.pat y.r.pat).1,0)
  | _,_=>(false,1)) else (false,1)
theorem rClash24_any (A:Option Addr) (n c:Nat) (i k:Int) (L:List Qh) (w:World) (hL:Qs w A n L) (hf:∀ x∈L,Zw x.r) (hn:n≤1000) :
  Calls Tryz.prog 17 #[.slice A n c,.int .i64 i,.int .i64 k] w (Zx w (.agg #[.bool (Vl L i k).1,.int .i64 (Vl L i k).2])):=by
 have hlen:=hL.len
 have cV:=fun W (hb:Below w.heap.size w W)=>Vt A n c L W (hL.keep hb) hf (by omega)
 have hbad:Yt L i k=false→Vl L i k=(false,1):=fun h=>by unfold Vl;rw[if_neg (by rw[h];decide)]
 have HBAD:=Lib.hid hbad
 clear hbad
 cases hv:Xp L
 ·rw[HBAD.out (by unfold Yt;rw[hv];rfl)]
  rw[hv]at cV
  have HV:=Lib.hid cV
  clear cV hv HBAD hL hf hlen
  go_enter Tryz.func17,Tryz.ntmps17
  go_upto_region 1 with fail
  generalize hw0:World.alloc _ _=w0
  have hk:Qv w0 w.heap.size 45 #[.bool false,.int .i64 0] (0,0):=by rw[←hw0];exact World.alloc_heap_new w _
  have hb0:Below w.heap.size w w0:=by rw[←hw0];exact Qk (Below.refl _ _) _
  clear hw0
  go_wp2_with (go_at_call 36;refine (HV.out _ hb0).mono ?_;rintro e w2 ⟨rfl,hb2⟩;have hk2:=Qv.keep hk hb2;have k0:=Qv.cell hk2 0;have k1:=Qv.cell hk2 1;have g0:=Qd hk2 0;have g1:=Qd hk2 1;have hz:=Qv.lt hk2)
  exact bodyPost_ret (v:=.agg #[.bool false,.int .i64 1]) (by simp[results,Tryz.results17,go_sem,hz,k0,k1,g0,g1]) rfl ⟨rfl,Qz⟩
 rw[hv]at cV
 have HV:=Lib.hid cV
 by_cases hi0:i<0
 ·rw[HBAD.out (by unfold Yt;rw[hv,decide_eq_false (by omega)];rfl)]
  have d0:decide (i<0)=true:=decide_eq_true hi0
  clear cV hv HBAD hL hf hlen
  go_enter Tryz.func17,Tryz.ntmps17
  go_upto_region 1 with fail
  generalize hw0:World.alloc _ _=w0
  have hk:Qv w0 w.heap.size 45 #[.bool false,.int .i64 0] (0,0):=by rw[←hw0];exact World.alloc_heap_new w _
  have hb0:Below w.heap.size w w0:=by rw[←hw0];exact Qk (Below.refl _ _) _
  clear hw0
  go_wp2_with (go_at_call 36;refine (HV.out _ hb0).mono ?_;rintro e w2 ⟨rfl,hb2⟩;have hk2:=Qv.keep hk hb2;have k0:=Qv.cell hk2 0;have k1:=Qv.cell hk2 1;have g0:=Qd hk2 0;have g1:=Qd hk2 1;have hz:=Qv.lt hk2)
  exact bodyPost_ret (v:=.agg #[.bool false,.int .i64 1]) (by simp[results,Tryz.results17,go_sem,hz,k0,k1,g0,g1]) rfl ⟨rfl,Qz⟩
 have d0:decide (i<0)=false:=decide_eq_false hi0
 by_cases hik:k≤i
 ·rw[HBAD.out (by unfold Yt;rw[hv,decide_eq_true (by omega),decide_eq_false (by omega)];rfl)]
  have d2:decide (k≤i)=true:=decide_eq_true hik
  clear cV hv HBAD hL hf hlen
  go_enter Tryz.func17,Tryz.ntmps17
  go_upto_region 1 with fail
  generalize hw0:World.alloc _ _=w0
  have hk:Qv w0 w.heap.size 45 #[.bool false,.int .i64 0] (0,0):=by rw[←hw0];exact World.alloc_heap_new w _
  have hb0:Below w.heap.size w w0:=by rw[←hw0];exact Qk (Below.refl _ _) _
  clear hw0
  go_wp2_with (go_at_call 36;refine (HV.out _ hb0).mono ?_;rintro e w2 ⟨rfl,hb2⟩;have hk2:=Qv.keep hk hb2;have k0:=Qv.cell hk2 0;have k1:=Qv.cell hk2 1;have g0:=Qd hk2 0;have g1:=Qd hk2 1;have hz:=Qv.lt hk2)
  exact bodyPost_ret (v:=.agg #[.bool false,.int .i64 1]) (by simp[results,Tryz.results17,go_sem,hz,k0,k1,g0,g1]) rfl ⟨rfl,Qz⟩
 have d2:decide (k≤i)=false:=decide_eq_false hik
 by_cases hkn:(n:Int)≤k
 ·rw[HBAD.out (by unfold Yt;rw[hv,decide_eq_true (by omega),decide_eq_true (by omega),decide_eq_false (by omega)];rfl)]
  have d1:decide ((n:Int)≤k)=true:=decide_eq_true hkn
  clear cV hv HBAD hL hf hlen
  go_enter Tryz.func17,Tryz.ntmps17
  go_upto_region 1 with fail
  generalize hw0:World.alloc _ _=w0
  have hk:Qv w0 w.heap.size 45 #[.bool false,.int .i64 0] (0,0):=by rw[←hw0];exact World.alloc_heap_new w _
  have hb0:Below w.heap.size w w0:=by rw[←hw0];exact Qk (Below.refl _ _) _
  clear hw0
  go_wp2_with (go_at_call 36;refine (HV.out _ hb0).mono ?_;rintro e w2 ⟨rfl,hb2⟩;have hk2:=Qv.keep hk hb2;have k0:=Qv.cell hk2 0;have k1:=Qv.cell hk2 1;have g0:=Qd hk2 0;have g1:=Qd hk2 1;have hz:=Qv.lt hk2)
  exact bodyPost_ret (v:=.agg #[.bool false,.int .i64 1]) (by simp[results,Tryz.results17,go_sem,hz,k0,k1,g0,g1]) rfl ⟨rfl,Qz⟩
 have d1:decide ((n:Int)≤k)=false:=decide_eq_false hkn
 have hok:Yt L i k=true:=by unfold Yt;rw[hv,decide_eq_true (by omega),decide_eq_true (by omega),decide_eq_true (by omega)];rfl
 obtain⟨a,rfl⟩:∃ a:Nat,i=(a:Int):=⟨i.toNat,by omega⟩
 obtain⟨q,rfl⟩:∃ q:Nat,k=(q:Int):=⟨k.toNat,by omega⟩
 obtain⟨x,hx⟩:∃ x,L[a]? = some x:=⟨_,List.getElem?_eq_getElem (by omega)⟩
 obtain⟨y,hy⟩:∃ y,L[q]? = some y:=⟨_,List.getElem?_eq_getElem (by omega)⟩
 have hres:Vl L (a:Int) (q:Int)=((meetR x.r.pat y.r.pat).1,0):=by
  unfold Vl
  rw[if_pos hok,Int.toNat_natCast,Int.toNat_natCast,hx,hy]
 rw[hres]
 have hxm:=List.mem_of_getElem? hx
 have hym:=List.mem_of_getElem? hy
 have cM:=fun W=>rMeet2_any x.r.pat y.r.pat W (by have:=(hf x hxm).pat;omega) (by have:=(hf y hym).pat;omega)
 have hcl:∃ b o,A=some ⟨b,o,none⟩∧w.cell? ⟨b,o+a*18+1,none⟩=some (.string x.r.pat)∧w.cell? ⟨b,o+q*18+1,none⟩=some (.string y.r.pat):=by
  obtain⟨_,b,o,e,hcell⟩:=hL.at_ hx
  obtain⟨_,b2,o2,e2,hcell2⟩:=hL.at_ hy
  rw[e]at e2
  injection e2 with e2
  injection e2 with e3 e4 _
  subst e3;subst e4
  exact⟨b,o,e,hcell 1 _ rfl,hcell2 1 _ rfl⟩
 obtain⟨b,o,rfl,hc1,hc2⟩:=hcl
 obtain⟨mv,hmv⟩:∃ mv,mv=(meetR x.r.pat y.r.pat).1:=⟨_,rfl⟩
 obtain⟨me,hme⟩:∃ me,me=(meetR x.r.pat y.r.pat).2:=⟨_,rfl⟩
 rw[←hmv,←hme]at cM
 rw[←hmv]
 have HM:=Lib.hid cM;have HC1:=Lib.hid hc1;have HC2:=Lib.hid hc2;have HK2:=Lib.hid infKn06
 have ha0:(0:Int)≤(a:Int):=by omega
 have ha1:(a:Int)<(n:Int):=by omega
 have hq0:(0:Int)≤(q:Int):=by omega
 have hq1:(q:Int)<(n:Int):=by omega
 clear cM hc1 hc2 hmv hme hres hok hx hy hxm hym cV hv HBAD hL hf hlen
 go_enter Tryz.func17,Tryz.ntmps17
 go_upto_region 1 with fail
 generalize hw0:World.alloc _ _=w0
 have hk:Qv w0 w.heap.size 45 #[.bool false,.int .i64 0] (0,0):=by rw[←hw0];exact World.alloc_heap_new w _
 have hb0:Below w.heap.size w w0:=by rw[←hw0];exact Qk (Below.refl _ _) _
 clear hw0
 go_upto_region 3 with (go_at_call 36;refine (HV.out _ hb0).mono ?_;rintro e w2 ⟨rfl,hb2⟩;have hk2:=Qv.keep hk hb2;have k0:=Qv.cell hk2 0;have k1:=Qv.cell hk2 1;have g0:=Qd hk2 0;have g1:=Qd hk2 1;have hz:=Qv.lt hk2)
 have hb20:=Qj hb0 hb2
 clear k0 k1 g0 g1 hz hk hb0 hb2
 refine Ye 12 (by kernel_rfl) (by kernel_rfl) (by kernel_rfl) (DL [Jz (.slice (some ⟨b,o,none⟩) n c),Jz (.int .i64 (a:Int)),Jz (.pointer (some ⟨b,o+a*18,none⟩)),Jz (.pointer (some ⟨b,o+a*18+1,none⟩)),Jz (.string x.r.pat),Jz (.slice (some ⟨b,o,none⟩) n c),Jz (.int .i64 (q:Int)),Jz (.pointer (some ⟨b,o+q*18,none⟩)),Jz (.pointer (some ⟨b,o+q*18+1,none⟩)),Jz (.string y.r.pat),Jz (.agg #[.bool mv,.int .i64 me]),AlM w2.heap.size]) (DL.keep _ (by simp only[WY];repeat' (first | apply And.intro | exact Uf _ | exact keeps_alM _ | exact trivial))) (fun W=>RowKit.Below w2.heap.size w2 W) (RowKit.Below.drew (RowKit.Below.refl _ _)) (fun _ _ h hb=>Qj h hb) ?_ ?_
 ·dsimp only[List.take_succ_cons,List.take_zero,DetD]
  refine⟨fun vals W hS hd=>?_,fun vals W hS hd=>?_,fun vals W hS hd=>?_,fun vals W hS hd=>?_,fun vals W hS hd=>?_,fun vals W hS hd=>?_,fun vals W hS hd=>?_,fun vals W hS hd=>?_,fun vals W hS hd=>?_,fun vals W hS hd=>?_,fun vals W hS hd=>?_,fun vals W hS hd=>?_,trivial⟩
  rotate_left 10
  ·(try simp only[Ky,DL,Jz,List.getD_cons_zero,List.getD_cons_succ,Region.binds,and_true,true_and]at hd)
   simp only[QU,Zj,Act.put]
   (try simp only[hd])
   clear hd
   go_wp2_with (go_at_call 42;refine (HM.out _).mono ?_;rintro e w5 ⟨rfl,hb5⟩)
   exact⟨rfl,rfl,rfl,Qz⟩
  ·(try simp only[Ky,DL,Jz,List.getD_cons_zero,List.getD_cons_succ,Region.binds,and_true,true_and]at hd)
   simp only[QU,Zj,Act.put]
   (try simp only[hd])
   clear hd
   have hsz:=hS.size
   go_wp2
   exact⟨rfl,⟨_,rfl,World.alloc_heap_new W _,hsz⟩,rfl,Qz⟩
  all_goals
   (try simp only[Ky,DL,Jz,List.getD_cons_zero,List.getD_cons_succ,Region.binds,and_true,true_and]at hd)
   simp only[QU,Zj,Act.put]
   (try simp only[hd])
   clear hd
   have y1:=Qq (Qj hb20 hS) HC1.out
   have y2:=Qq (Qj hb20 hS) HC2.out
   go_wp2
   exact⟨rfl,rfl,rfl,Qz⟩
 ·intro vals w9 hS9 hD
  have e8:vals 10=.agg #[.bool mv,.int .i64 me]:=hD 10 (by omega)
  obtain⟨g,e9,hg9,hgz⟩:AlM w2.heap.size (vals 11) w9:=hD 11 (by omega)
  simp only[QU,Zj,Act.put]
  simp only[e8,e9]
  clear hD e8 e9
  refine wpList_store_row rfl 91 _ _ rfl g #[.bool mv,.int .i64 me] rfl rfl _ #[.bool false,.int .i64 0] hg9 HK2.out rfl (by simp[Value.oneCell']) ?_
  generalize hw6:World.setRow _ _ _=w6
  have hg6:Qv w6 g 91 #[.bool mv,.int .i64 me] (0,0):=by rw[←hw6];exact setRow_heap _ _ _ _ _ _ hg9
  have hb6:RowKit.Below w2.heap.size w2 w6:=by rw[←hw6];exact below_setRow hS9 hgz _
  have hk6:=Qv.keep hk2 hb6
  have k0:=Qv.cell hk6 0
  have k1:=Qv.cell hk6 1
  have g0:=Qd hk6 0
  have g1:=Qd hk6 1
  have hz:=Qv.lt hk6
  have c0:=Qv.cell hg6 0
  have hgl:=Qv.lt hg6
  clear hw6 hg9 hS9 hk2
  go_wp2
  exact bodyPost_ret (v:=.agg #[.bool mv,.int .i64 0]) (by simp[results,Tryz.results17,go_sem,hz,k0,k1,g0,g1]) rfl ⟨rfl,Qz⟩
def RSplitPost (a b:List Zo) (w:World) (e:Ending) (w':World):Prop :=
 Below w.heap.size w w'∧∃ x y is,e=.returned (.agg #[x,y,.bool is])∧x.oneCell'=true∧y.oneCell'=true∧((is=false∧∀ v∈b,GoodV a b v)∨(is=true∧∃ g h,ZY a g h=true∧ZY b g h=false))
structure RpS (w:World) (A:Option Addr) (n:Nat) (LA:List Qo) (B:Option Addr) (m:Nat) (LB:List Qo) (SA:Option Addr) (s:Nat) (S:List ZQ) (W:World):Prop where
 a:QX W A n LA
 b:QX W B m LB
 s:Jv W SA s S
 p:Qv W w.heap.size 94 #[.slice none 0 0,.slice none 0 0,.bool false] (0,0)
 w:Below w.heap.size w W
theorem RpS.keep {w:World} {A:Option Addr} {n:Nat} {LA:List Qo} {B:Option Addr} {m:Nat} {LB:List Qo} {SA:Option Addr} {s:Nat} {S:List ZQ} {W W':World} (h:RpS w A n LA B m LB SA s S W) (hb:Below W.heap.size W W'):RpS w A n LA B m LB SA s S W':=⟨h.a.keep hb,h.b.keep hb,h.s.keep hb,Qv.keep h.p hb,Qj h.w hb⟩
def OneS (hd y:ByteArray):Value→World→Prop:=fun v W=>∃ A c,v=.slice A 1 c∧Zf W ⟨[⟨hd,y⟩],A,c⟩
def TwoS (hd y:ByteArray):Value→World→Prop:=fun v W=>∃ g u,v=.slice (some ⟨g,0,none⟩) 1 1∧W.cell? ⟨g,0,none⟩=some u∧OneS hd y u W
theorem cell_one_got {W:World} {g:Nat} {x:Value} (h:W.cell? ⟨g,0,none⟩=some x):∀ j u,[x][j]? = some u→W.cell? ((⟨g,0,none⟩:Addr).add j)=some u:=by
 intro j u hj
 match j,hj with
 | 0,hj =>
  have e:(⟨g,0,none⟩:Addr).add 0=⟨g,0,none⟩:=by unfold Addr.add;split <;> simp_all
  rw[e,h]
  simpa using hj
 | j+1,hj=>simp at hj
theorem keeps_oneS (hd y:ByteArray):Keeps (OneS hd y):=fun v w w' ⟨A,c,e,h⟩ hb=>⟨A,c,e,h.keep hb⟩
theorem keeps_twoS (hd y:ByteArray):Keeps (TwoS hd y):=fun v w w' ⟨g,u,e,hc,h⟩ hb=>⟨g,u,e,Qq hb hc,keeps_oneS hd y u w w' h hb⟩
theorem oneS_new (W:World) (hd y:ByteArray):OneS hd y (.slice (some ⟨W.heap.size,0,none⟩) 1 1) (W.alloc (.cells #[.string hd,.string y] 142)):=by
 have hB:Qv (W.alloc (.cells #[.string hd,.string y] 142)) W.heap.size 142 #[.string hd,.string y] (0,0):=World.alloc_heap_new W _
 refine⟨_,1,rfl,⟨rfl,⟨rfl,fun _=>⟨W.heap.size,0,rfl,fun j u hu=>?_⟩⟩⟩,fun _=>⟨_,0,_,_,rfl,hB⟩,by simp⟩
 rw[Nat.zero_add]
 exact (cell_of_row _ _ j _ _ _ hB).trans (by simpa[Hdr.cells] using hu)
theorem twoS_new (W:World) (hd y:ByteArray) (u:Value) (h:OneS hd y u W):TwoS hd y (.slice (some ⟨W.heap.size,0,none⟩) 1 1) (W.alloc (.cells #[u] 41)) :=
 ⟨W.heap.size,u,rfl,(cell_of_row _ _ 0 _ _ _ (World.alloc_heap_new W _)).trans rfl,keeps_oneS hd y u _ _ h (Qk (RowKit.Below.refl _ _) _)⟩
theorem rSplit23_any (A:Option Addr) (n c:Nat) (LA:List Qo) (B:Option Addr) (m d:Nat) (LB:List Qo) (w:World) (hA:QX w A n LA) (hB:QX w B m LB) (hfa:∀ y∈LA,Xi y.v) (hfb:∀ y∈LB,Xi y.v) (hn:n≤10) (hm:m≤10) (hck:XU LA=0) :
  Calls Tryz.prog 43 #[.slice A n c,.slice B m d] w (RSplitPost (LA.map (·.v)) (LB.map (·.v)) w):=by
 have hl:LB.length=m:=hB.len
 obtain⟨i0,hi0,hz0,hz1,hz2⟩:=info_parts infSlH
 have HI:=Lib.hid (And.intro hi0 (And.intro hz0 (And.intro hz1 hz2)))
 have cO:=fun (h:ByteArray) (W:World) (hb:QX W A n LA)=>rOf23_any A n c LA h W hb (by omega)
 have cA:=fun (x:ZQ) (W:World) (ha:QX W A n LA) (hx:Zf W x)=>rKey23_any A n c LA x.A x.h.length x.c x.h W ha hx.r hfa hn (by have:=hx.l;omega)
 have cB:=fun (x:ZQ) (W:World) (hb:QX W B m LB) (hx:Zf W x)=>rKey23_any B m d LB x.A x.h.length x.c x.h W hb hx.r hfb hm (by have:=hx.l;omega)
 have hof:=of_at hck
 obtain⟨P,hP⟩:∃ P,P=RSplitPost (LA.map (·.v)) (LB.map (·.v)) w:=⟨_,rfl⟩
 rw[←hP]
 have HP:=Lib.hid hP
 obtain⟨va,hva⟩:∃ va,va=LA.map (·.v):=⟨_,rfl⟩
 obtain⟨vb,hvb⟩:∃ vb,vb=LB.map (·.v):=⟨_,rfl⟩
 simp only[←hva]at cA HP
 simp only[←hvb]at cB HP
 have HVA:=Lib.hid hva;have HVB:=Lib.hid hvb
 have HAR:=Lib.hid hA;have HBR:=Lib.hid hB;have HO:=Lib.hid cO;have HCA:=Lib.hid cA;have HCB:=Lib.hid cB;have HLN:=Lib.hid hl;have HOF:=Lib.hid hof;have HFA:=Lib.hid hfa;have HFB:=Lib.hid hfb
 clear hP hA hB cO cA cB hl hva hvb hi0 hz0 hz1 hz2 hof hfa hfb hck
 go_enter Tryz.func43,Tryz.ntmps43
 go_upto_region 1 with fail
 generalize hw0:World.alloc _ _=w0
 have hp0:Qv w0 w.heap.size 94 #[.slice none 0 0,.slice none 0 0,.bool false] (0,0):=by rw[←hw0];exact World.alloc_heap_new w _
 have hb0:Below w.heap.size w w0:=by rw[←hw0];exact Qk (Below.refl _ _) _
 have HP0:=Lib.hid hp0
 clear hw0 hp0
 go_wp2_with fail
 go_loopw [5] (fun iv wr=>∃ j:Nat,j≤m∧iv=.int .i64 j∧Hid (∀ x∈LB.take j,GoodV va vb x.v)∧Hid (Qv wr w.heap.size 94 #[.slice none 0 0,.slice none 0 0,.bool false] (0,0))∧Below w.heap.size w wr) (fun iv _=>m-(intOf iv).toNat)
 case atStart=>exact⟨0,by omega,rfl,Lib.hid (fun x hx=>by simp at hx),HP0,hb0⟩
 case round =>
  obtain⟨j,hj,rfl,HG,HPr,hbr⟩:=hrel
  clear HP0 hb0
  obtain⟨wo,rfl⟩:∃ wo:World,wo=wr:=⟨_,rfl⟩
  by_cases hlt:j<m
  ·obtain⟨y,hy⟩:∃ y,LB[j]? = some y:=⟨_,List.getElem?_eq_getElem (by have:=HLN.out;omega)⟩
   have hym:=List.mem_of_getElem? hy
   have hyf:=HFB.out y hym
   obtain⟨hyr,b,o,rfl,hcell⟩:=(HBR.out.keep hbr).at_ hy
   have c0:wo.cell? ⟨b,o+j*3,none⟩=some (.string y.v.header):=hcell 0 _ rfl
   have c1:wo.cell? ⟨b,o+j*3+1,none⟩=some (.slice y.A y.v.values.length y.c):=hcell 1 _ rfl
   have htk:LB.take (j+1)=LB.take j++[y]:=by rw[List.take_add_one,hy];rfl
   have hof:=HOF.out y.v.header
   have hco:=HO.out y.v.header
   generalize ofV LA y.v.header=ov at *
   have HC0:=Lib.hid c0;have HTK:=Lib.hid htk;have HOF1:=Lib.hid hof;have HO1:=Lib.hid hco;have HYR:=Lib.hid hyr;have HYF:=Lib.hid hyf
   have hvl:=hyf.n
   have hj0:(0:Int)≤(j:Int):=by omega
   have hj1:(j:Int)<(m:Int):=by omega
   clear htk hof hco hyr hyf hcell hy hym
   go_upto_if 31 with (go_at_call 85;refine (HO1.out _ (HAR.out.keep hbr)).mono ?_;rintro e w2 ⟨rfl,hb2⟩)
   have hbw2:=Qj hbr hb2
   have HB2:=Lib.hid hb2
   clear c0 c1 hb2 hbr
   go_cut [6] (fun v wx=>∃ S d zs,v=.slice S zs.length d∧Hid (Reads wx 1 S zs.length (zs.map .string))∧Hid (ValsOf LA y.v zs)∧zs.length≤20∧Below w2.heap.size w2 wx)
   case first =>
    rcases HOF1.out with ⟨rfl,hno⟩ | ⟨j2,u,rfl,hj2,huh,hun⟩
    ·have hvals:ValsOf LA y.v y.v.values:=fun z=>⟨.inl,fun h=>h.elim id (fun ⟨u,hu,e,_⟩=>by
      obtain⟨q,hq,rfl⟩:=List.mem_map.1 hu
      exact absurd e (hno q hq))⟩
     clear hno HOF1
     go_wp2_with fail
     go_meet
     exact⟨y.A,y.c,y.v.values,rfl,Lib.hid (Reads.keep HYR.out HB2.out),Lib.hid hvals,by omega,Below.refl _ _⟩
    ·have hum:=List.mem_of_getElem? hj2
     obtain⟨hur,b3,o3,rfl,hcell⟩:=(HAR.out.keep hbw2).at_ hj2
     have huf:=HFA.out u hum
     have cU:=rUnion23_any y.A y.v.values.length y.c u.A u.v.values.length u.c y.v.values u.v.values w2 (Reads.keep HYR.out HB2.out) hur (by omega) (by have:=huf.n;omega)
     have hvals:∀ zs:List ByteArray,(∀ z:ByteArray,z∈zs↔z∈y.v.values∨z∈u.v.values)→ValsOf LA y.v zs:=fun zs h z=>by
      rw[h z]
      constructor
      ·rintro (h1 | h1)
       ·exact .inl h1
       ·exact .inr ⟨u.v,List.mem_map.2 ⟨u,hum,rfl⟩,huh,h1⟩
      ·rintro (h1 | ⟨t,ht,e,h1⟩)
       ·exact .inl h1
       ·obtain⟨q,hq,rfl⟩:=List.mem_map.1 ht
        rw[hun q hq e]at h1
        exact .inr h1
     have hyn:=huf.n
     have hjn:j2<n:=by have:=(List.getElem?_eq_some_iff.1 hj2).1;have:=HAR.out.len;omega
     have hk0:(0:Int)≤(j2:Int):=by omega
     have hk1:(j2:Int)<(n:Int):=by omega
     have c5:w2.cell? ⟨b3,o3+j2*3+1,none⟩=some (.slice u.A u.v.values.length u.c):=hcell 1 _ rfl
     have HU:=Lib.hid cU;have HV:=Lib.hid hvals
     clear cU hvals hun huh huf hur hcell hj2 hum HOF1
     go_wp2_with (go_at_call 86;refine HU.out.mono ?_;rintro e w3 ⟨hb3,S,d,zs,rfl,hr3,hz3,hl3⟩;have HR3:=Lib.hid hr3;have HZ3:=Lib.hid hz3;clear hr3 hz3)
     go_meet
     exact⟨S,d,zs,rfl,HR3,Lib.hid (HV.out zs HZ3.out),by omega,hb3⟩
   case rest =>
    obtain⟨S0,d0,zs,rfl,HR,HZ,hzl,hbc⟩:=hcut
    have hbr:=Qj hbw2 hbc
    have HPc:=Lib.hid (Qv.keep HPr.out (Qj HB2.out hbc))
    have HHc:=Lib.hid (Qq (Qj HB2.out hbc) HC0.out)
    clear HOF1 HO1 hbw2 hbc HPr HC0 HB2 HYR HYF
    have hown0:wc.ownsRow wc.heap.size 41 1 (.slice none 0 0) 0 (([]:List ZQ).flatMap ZQ.cells):=World.ownsRow_nil _ _ _ _
    have HO0:=Lib.hid hown0
    clear hown0
    have hm0:([]:List ZQ).map (·.h)=(zs.take 0).map (oneH y.v.header):=rfl
    have HM0:=Lib.hid hm0
    clear hm0
    go_wp2_with fail
    go_loopw [8,9] (fun ov iv wr=>∃ (k:Nat) (Bq:Option Addr) (q:Nat) (M:List ZQ),k≤zs.length∧iv=.int .i64 k∧sampO ov k Bq q∧Hid (wr.ownsRow wc.heap.size 41 1 (.slice Bq k q) k (M.flatMap ZQ.cells))∧Hid (M.map (·.h)=(zs.take k).map (oneH y.v.header))∧Hid (∀ x∈M,Zf wr x)∧Below wc.heap.size wc wr) (fun _ iv _=>zs.length-(intOf iv).toNat)
    case atStart=>exact⟨0,none,0,[],by omega,rfl,rfl,HO0,HM0,Lib.hid (fun x hx=>by cases hx),Below.refl _ _⟩
    case round =>
     obtain⟨k,Bq,q,M,hk,rfl,hov,HO,HM,HE,hb⟩:=hrel
     unfold sampO at hov
     subst hov
     clear HO0 HM0
     have hsz:=hb.size
     by_cases hltz:k<zs.length
     ·obtain⟨z,hz⟩:∃ z,zs[k]? = some z:=⟨_,List.getElem?_eq_getElem hltz⟩
      have hRk:Reads wr 1 S0 zs.length (zs.map .string):=HR.out.keep hb
      obtain⟨pb,po,rfl,hcell⟩:=hRk.2 (by omega)
      have c1:wr.cell? ⟨pb,po+k,none⟩=some (.string z):=hcell k _ (by simp[hz])
      have c0:=Qq hb HHc.out
      have hk0:(0:Int)≤(k:Int):=by omega
      have hk1:(k:Int)<(zs.length:Int):=by omega
      have HZZ:=Lib.hid hz;have HY0:=Lib.hid c0;have HY1:=Lib.hid c1
      clear hRk hcell hz c0 c1
      go_upto_region 12 with fail
      refine Ye 13 (by kernel_rfl) (by kernel_rfl) (by kernel_rfl) (DL [Jz (.slice Bq k q),Jz (.slice (some ⟨b,o,none⟩) m d),Jz (.int .i64 j),Jz (.pointer (some ⟨b,o+j*3,none⟩)),Jz (.pointer (some ⟨b,o+j*3,none⟩)),Jz (.string y.v.header),Jz (.slice (some ⟨pb,po,none⟩) zs.length d0),Jz (.int .i64 k),Jz (.pointer (some ⟨pb,po+k,none⟩)),Jz (.string z),Jz (.agg #[.string y.v.header,.string z]),OneS y.v.header z,TwoS y.v.header z]) (DL.keep _ (by simp only[WY];repeat' (first | apply And.intro | exact Uf _ | exact keeps_oneS _ _ | exact keeps_twoS _ _ | exact trivial))) (fun W=>RowKit.Below wr.heap.size wr W) (RowKit.Below.drew (RowKit.Below.refl _ _)) (fun _ _ h hb=>Qj h hb) ?_ ?_
      ·dsimp only[List.take_succ_cons,List.take_zero,DetD]
       refine⟨fun vals W hS hd=>?_,fun vals W hS hd=>?_,fun vals W hS hd=>?_,fun vals W hS hd=>?_,fun vals W hS hd=>?_,fun vals W hS hd=>?_,fun vals W hS hd=>?_,fun vals W hS hd=>?_,fun vals W hS hd=>?_,fun vals W hS hd=>?_,fun vals W hS hd=>?_,fun vals W hS hd=>?_,fun vals W hS hd=>?_,trivial⟩
       rotate_left 11
       ·(try simp only[Ky,DL,Jz,List.getD_cons_zero,List.getD_cons_succ,Region.binds,and_true,true_and]at hd)
        simp only[QU,Zj,Act.put]
        (try simp only[hd])
        clear hd
        go_wp2
        exact⟨rfl,oneS_new W y.v.header z,rfl,Qz⟩
       ·have hd1:OneS y.v.header z (vals 11) W:=by
         (try simp only[Ky,DL,Jz,List.getD_cons_zero,List.getD_cons_succ,Region.binds,and_true,true_and]at hd)
         exact hd
        obtain⟨A2,c2,hv11,hs11⟩:=hd1
        simp only[QU,Zj,Act.put]
        simp only[hv11]
        clear hd
        go_wp2
        exact⟨rfl,twoS_new W y.v.header z (.slice A2 1 c2) ⟨A2,c2,rfl,hs11⟩,rfl,Qz⟩
       all_goals
        (try simp only[Ky,DL,Jz,List.getD_cons_zero,List.getD_cons_succ,Region.binds,and_true,true_and]at hd)
        simp only[QU,Zj,Act.put]
        (try simp only[hd])
        clear hd
        have y1:=Qq hS HY0.out
        have y2:=Qq hS HY1.out
        go_wp2
        exact⟨rfl,rfl,rfl,Qz⟩
      ·intro vals w9 hS9 hD
       have e0:vals 0=.slice Bq k q:=hD 0 (by omega)
       obtain⟨g2,u2,e2,hc2,A2,c2,rfl,hsr2⟩:TwoS y.v.header z (vals 12) w9:=hD 12 (by omega)
       have hs9:=hS9.size
       simp only[QU,Zj,Act.put]
       simp only[e0,e2]
       clear hD e0 e2
       go_wp2_with (at_builtin;refine wpList_append_own _ rfl _ _ 132 rfl wc.heap.size 41 i0 (.slice none 0 0) 1 24 Tryz.underlying132 HI.out.1 HI.out.2.1 HI.out.2.2.1 HI.out.2.2.2 rfl (by decide) _ _ _ rfl (Ql HO.out hS9) ⟨g2,0,none⟩ 1 1 [.slice A2 1 c2] rfl rfl (cell_one_got hc2) (by simp[Value.oneCell']) (by unfold maxLen;omega) (by omega) (by omega) ?_;intro v' w8 hown' hgrow _;obtain⟨g',cap',rfl⟩:=ownsRow_succ hown')
       have hb8:RowKit.Below wc.heap.size w9 w8:=(RowKit.Below.refl wc.heap.size w9).grown hgrow (by omega) (fun r e=>Qu HO.out r e)
       have hs8:=hb8.size
       refine⟨⟨k+1,some ⟨g',0,none⟩,cap',M++[⟨oneH y.v.header z,A2,c2⟩],by omega,by go_num,rfl,Lib.hid (by rw[List.flatMap_append];exact hown'),Lib.hid (by rw[List.map_append,HM.out,List.take_add_one,HZZ.out,List.map_append];rfl),Lib.hid (fun x hx=>?_),(hb.trans (hS9.mono (by omega))).trans hb8⟩,by simp[intOf];omega⟩
       rcases List.mem_append.1 hx with hx | hx
       ·exact ((HE.out x hx).keep hS9).grown (Ql HO.out hS9) hgrow
       ·rw[List.mem_singleton.1 hx]
        exact hsr2.grown (Ql HO.out hS9) hgrow
     ·obtain rfl:k=zs.length:=by omega
      go_upto_region 14 with (at_builtin;refine wpList_append_own _ rfl _ _ 132 rfl wc.heap.size 41 i0 (.slice none 0 0) 1 24 Tryz.underlying132 HI.out.1 HI.out.2.1 HI.out.2.2.1 HI.out.2.2.2 rfl (by decide) _ _ _ rfl (HO.out.alloc _) ⟨wr.heap.size,0,none⟩ 1 1 [.slice none 0 0] rfl rfl (Vz _ _ _ _ (by simp)) (by simp[Value.oneCell']) (by unfold maxLen;omega) (by omega) (by simp;omega) ?_;intro v' w8 hown' hgrow _;obtain⟨g',cap',rfl⟩:=ownsRow_succ hown')
      have hb8:RowKit.Below wc.heap.size wr w8:=((RowKit.Below.refl wc.heap.size wr).alloc (by omega) _).grown hgrow (by simp;omega) (fun r e=>Qu HO.out r e)
      have hml:M.length=zs.length:=by
       have:=congrArg List.length HM.out
       rw[List.take_length]at this
       simpa using this
      obtain⟨S,hS⟩:∃ S,S=M++[(⟨[],none,0⟩:ZQ)]:=⟨_,rfl⟩
      have hSl:S.length=zs.length+1:=by rw[hS];simp[hml]
      have hss:YV va y.v (S.map (·.h)):=by
       rw[HVA.out]
       exact samples_spec HZ.out (by rw[hS,List.map_append,HM.out,List.take_length];rfl)
      have hsr:Jv w8 (some ⟨g',0,none⟩) (zs.length+1) S:=by
       refine⟨hSl,?_,fun x hx=>?_⟩
       ·rw[hS,List.flatMap_append]
        exact Reads.of_own hown'
       ·rw[hS]at hx
        rcases List.mem_append.1 hx with hx | hx
        ·exact ((HE.out x hx).keep (Qk (RowKit.Below.refl _ _) _)).grown (HO.out.alloc _) hgrow
        ·rw[List.mem_singleton.1 hx]
         exact samp_nil _
      have hbb:=hb.trans hb8
      obtain⟨s,hs⟩:∃ s,s=zs.length+1:=⟨_,rfl⟩
      rw[←hs]at hsr hSl ⊢
      have hs21:s≤21:=by omega
      have hS8:RpS w A n LA (some ⟨b,o,none⟩) m LB (some ⟨g',0,none⟩) s S w8:=⟨HAR.out.keep (Qj hbr hbb),HBR.out.keep (Qj hbr hbb),hsr,Qv.keep HPc.out hbb,Qj hbr hbb⟩
      have HS7:=Lib.hid hS8;have HSS:=Lib.hid hss;have HSL:=Lib.hid hSl
      obtain⟨sc,hsc⟩:∃ sc,sc=cap':=⟨_,rfl⟩
      rw[←hsc]
      clear hS8 hss hSl hsr hb8 hb hbb hbr hown' hgrow hml hS HO HM HE HR HZ HPc HHc hs hsc
      clear hsz hltz hk hzl
      go_wp2_with fail
      go_loopw [10] (fun iv wr=>∃ i:Nat,i≤s∧iv=.int .i64 i∧Hid (WV va vb S i)∧Hid (RpS w A n LA (some ⟨b,o,none⟩) m LB (some ⟨g',0,none⟩) s S wr)) (fun iv _=>s-(intOf iv).toNat)
      case atStart=>exact⟨0,by omega,rfl,Lib.hid (fun i' k g q h=>absurd h (by omega)),HS7⟩
      case round =>
       obtain⟨i,hi,rfl,HPT,HSr⟩:=hrel
       obtain⟨wp,rfl⟩:∃ wp:World,wp=wr:=⟨_,rfl⟩
       clear HS7
       by_cases hil:i<s
       ·obtain⟨x,hx⟩:∃ x,S[i]? = some x:=⟨_,List.getElem?_eq_getElem (by have:=HSL.out;omega)⟩
        have HX:=Lib.hid hx
        clear hx
        have hi0:(0:Int)≤(i:Int):=by omega
        have hi1:(i:Int)<(s:Int):=by omega
        go_wp2_with fail
        go_loopw [11] (fun iv wr=>∃ k:Nat,i+1≤k∧k≤s∧iv=.int .i64 k∧Hid (UZ va vb S i k)∧Hid (RpS w A n LA (some ⟨b,o,none⟩) m LB (some ⟨g',0,none⟩) s S wr)) (fun iv _=>s-(intOf iv).toNat)
        case atStart=>exact⟨i+1,by omega,by omega,by go_num,Lib.hid (fun k' g q h1 h2=>absurd h1 (by omega)),HSr⟩
        case round =>
         obtain⟨k,hik,hks,rfl,HPA,HSk⟩:=hrel
         by_cases hkl:k<s
         ·obtain⟨z,hz⟩:∃ z,S[k]? = some z:=⟨_,List.getElem?_eq_getElem (by have:=HSL.out;omega)⟩
          have HZ:=Lib.hid hz
          have hce:∀ W,RpS w A n LA (some ⟨b,o,none⟩) m LB (some ⟨g',0,none⟩) s S W→W.cell? ⟨g',i,none⟩=some (.slice x.A x.h.length x.c)∧W.cell? ⟨g',k,none⟩=some (.slice z.A z.h.length z.c):=fun W hS=>⟨by have:=samp_cell hS.s HX.out;rwa [Nat.zero_add]at this,by have:=samp_cell hS.s HZ.out;rwa [Nat.zero_add]at this⟩
          have hk1':=fun W (hS:RpS w A n LA (some ⟨b,o,none⟩) m LB (some ⟨g',0,none⟩) s S W)=>HCA.out x W hS.a (hS.s.each x (List.mem_of_getElem? HX.out))
          have hk2':=fun W (hS:RpS w A n LA (some ⟨b,o,none⟩) m LB (some ⟨g',0,none⟩) s S W)=>HCA.out z W hS.a (hS.s.each z (List.mem_of_getElem? HZ.out))
          have hk3':=fun W (hS:RpS w A n LA (some ⟨b,o,none⟩) m LB (some ⟨g',0,none⟩) s S W)=>HCB.out x W hS.b (hS.s.each x (List.mem_of_getElem? HX.out))
          have hk4':=fun W (hS:RpS w A n LA (some ⟨b,o,none⟩) m LB (some ⟨g',0,none⟩) s S W)=>HCB.out z W hS.b (hS.s.each z (List.mem_of_getElem? HZ.out))
          have hq1:=same_keys va x.h z.h
          have hq2:=same_keys vb x.h z.h
          generalize keyB va x.h=ka at *
          generalize keyB va z.h=kb at *
          generalize keyB vb x.h=kc at *
          generalize keyB vb z.h=kd at *
          have hk0':(0:Int)≤(k:Int):=by omega
          have hk1'':(k:Int)<(s:Int):=by omega
          obtain⟨ba,hba⟩:∃ ba,ba=ZY va x.h z.h:=⟨_,rfl⟩
          obtain⟨bb,hbb⟩:∃ bb,bb=ZY vb x.h z.h:=⟨_,rfl⟩
          rw[←hba]at hq1
          rw[←hbb]at hq2
          have hq3:(kc.toList != kd.toList) = !bb:=by rw[←hq2];rfl
          have HBA:=Lib.hid hba;have HBB:=Lib.hid hbb;have HCE:=Lib.hid hce;have HC1:=Lib.hid hk1';have HC2:=Lib.hid hk2';have HC3:=Lib.hid hk3';have HC4:=Lib.hid hk4'
          clear hz hce hk1' hk2' hk3' hk4' hba hbb
          cases ba
          ·go_upto_region 20 with fail
           refine Xo 28 (by kernel_rfl) (by kernel_rfl) (by kernel_rfl) (fun q9=>[.slice A n c,.slice (some ⟨g',0,none⟩) s sc,.int .i64 i,.pointer (some ⟨g',i,none⟩),.slice x.A x.h.length x.c,.string ka,.slice A n c,.slice (some ⟨g',0,none⟩) s sc,.int .i64 k,.pointer (some ⟨g',k,none⟩),.slice z.A z.h.length z.c,.string kb,.bool false,.bool false,undef,undef,undef,undef,undef,undef,undef,undef,undef,undef,undef,undef,undef,.bool false].getD q9 undef) (RpS w A n LA (some ⟨b,o,none⟩) m LB (some ⟨g',0,none⟩) s S) (HSk.out.keep (RowKit.Below.drew (RowKit.Below.refl _ _))) (fun _ _ h hb=>h.keep hb) ?_ ?_
           ·simp only[QU,Zj,Act.put]
            refine⟨fun W hS=>?_,fun W hS=>?_,fun W hS=>?_,fun W hS=>?_,fun W hS=>?_,fun W hS=>?_,fun W hS=>?_,fun W hS=>?_,fun W hS=>?_,fun W hS=>?_,fun W hS=>?_,fun W hS=>?_,fun W hS=>?_,fun W hS=>?_,fun W hS=>?_,fun W hS=>?_,fun W hS=>?_,fun W hS=>?_,fun W hS=>?_,fun W hS=>?_,fun W hS=>?_,fun W hS=>?_,fun W hS=>?_,fun W hS=>?_,fun W hS=>?_,fun W hS=>?_,fun W hS=>?_,fun W hS=>?_,trivial⟩
            rotate_left 5
            ·go_wp2_with (go_at_call 87;refine (HC1.out _ hS).mono ?_;rintro e w2 ⟨rfl,hb2⟩)
             exact⟨rfl,rfl,Qz⟩
            rotate_left 5
            ·go_wp2_with (go_at_call 87;refine (HC2.out _ hS).mono ?_;rintro e w2 ⟨rfl,hb2⟩)
             exact⟨rfl,rfl,Qz⟩
            all_goals
             obtain⟨e1,e2⟩:=HCE.out W hS
             go_wp2
             exact⟨rfl,rfl,Qz⟩
           intro w9 hS9
           have HS9:=Lib.hid hS9
           have hpa:UZ va vb S i (k+1):=HPA.out.succ HX.out HZ.out (fun h=>by rw[←HBA.out]at h;cases h)
           have HPA2:=Lib.hid hpa
           clear hS9 hpa
           simp only[QU,Zj,Act.put]
           go_wp2
           exact⟨⟨k+1,by omega,by omega,by go_num,HPA2,HS9⟩,by simp[intOf];omega⟩
          ·go_upto_region 20 with fail
           refine Xo 28 (by kernel_rfl) (by kernel_rfl) (by kernel_rfl) (fun q9=>[.slice A n c,.slice (some ⟨g',0,none⟩) s sc,.int .i64 i,.pointer (some ⟨g',i,none⟩),.slice x.A x.h.length x.c,.string ka,.slice A n c,.slice (some ⟨g',0,none⟩) s sc,.int .i64 k,.pointer (some ⟨g',k,none⟩),.slice z.A z.h.length z.c,.string kb,.bool true,.bool true,.slice (some ⟨b,o,none⟩) m d,.slice (some ⟨g',0,none⟩) s sc,.int .i64 i,.pointer (some ⟨g',i,none⟩),.slice x.A x.h.length x.c,.string kc,.slice (some ⟨b,o,none⟩) m d,.slice (some ⟨g',0,none⟩) s sc,.int .i64 k,.pointer (some ⟨g',k,none⟩),.slice z.A z.h.length z.c,.string kd,.bool (!bb),.bool (!bb)].getD q9 undef) (RpS w A n LA (some ⟨b,o,none⟩) m LB (some ⟨g',0,none⟩) s S) (HSk.out.keep (RowKit.Below.drew (RowKit.Below.refl _ _))) (fun _ _ h hb=>h.keep hb) ?_ ?_
           ·simp only[QU,Zj,Act.put]
            refine⟨fun W hS=>?_,fun W hS=>?_,fun W hS=>?_,fun W hS=>?_,fun W hS=>?_,fun W hS=>?_,fun W hS=>?_,fun W hS=>?_,fun W hS=>?_,fun W hS=>?_,fun W hS=>?_,fun W hS=>?_,fun W hS=>?_,fun W hS=>?_,fun W hS=>?_,fun W hS=>?_,fun W hS=>?_,fun W hS=>?_,fun W hS=>?_,fun W hS=>?_,fun W hS=>?_,fun W hS=>?_,fun W hS=>?_,fun W hS=>?_,fun W hS=>?_,fun W hS=>?_,fun W hS=>?_,fun W hS=>?_,trivial⟩
            rotate_left 5
            ·go_wp2_with (go_at_call 87;refine (HC1.out _ hS).mono ?_;rintro e w2 ⟨rfl,hb2⟩)
             exact⟨rfl,rfl,Qz⟩
            rotate_left 5
            ·go_wp2_with (go_at_call 87;refine (HC2.out _ hS).mono ?_;rintro e w2 ⟨rfl,hb2⟩)
             exact⟨rfl,rfl,Qz⟩
            rotate_left 7
            ·go_wp2_with (go_at_call 87;refine (HC3.out _ hS).mono ?_;rintro e w2 ⟨rfl,hb2⟩)
             exact⟨rfl,rfl,Qz⟩
            rotate_left 5
            ·go_wp2_with (go_at_call 87;refine (HC4.out _ hS).mono ?_;rintro e w2 ⟨rfl,hb2⟩)
             exact⟨rfl,rfl,Qz⟩
            all_goals
             obtain⟨e1,e2⟩:=HCE.out W hS
             go_wp2
             exact⟨rfl,rfl,Qz⟩
           intro w9 hS9
           have HS9:=Lib.hid hS9
           cases bb
           ·clear hS9
            simp only[QU,Zj,Act.put]
            go_upto_region 21 with fail
            refine Xo 9 (by kernel_rfl) (by kernel_rfl) (by kernel_rfl) (fun q9=>[.slice (some ⟨g',0,none⟩) s sc,.int .i64 i,.pointer (some ⟨g',i,none⟩),.slice x.A x.h.length x.c,.slice (some ⟨g',0,none⟩) s sc,.int .i64 k,.pointer (some ⟨g',k,none⟩),.slice z.A z.h.length z.c,.agg #[.slice x.A x.h.length x.c,.slice z.A z.h.length z.c,.bool true]].getD q9 undef) (RpS w A n LA (some ⟨b,o,none⟩) m LB (some ⟨g',0,none⟩) s S) (HS9.out.keep (RowKit.Below.drew (RowKit.Below.refl _ _))) (fun _ _ h hb=>h.keep hb) ?_ ?_
            ·simp only[QU,Zj,Act.put]
             refine⟨fun W hS=>?_,fun W hS=>?_,fun W hS=>?_,fun W hS=>?_,fun W hS=>?_,fun W hS=>?_,fun W hS=>?_,fun W hS=>?_,fun W hS=>?_,trivial⟩
             all_goals
              obtain⟨e1,e2⟩:=HCE.out W hS
              go_wp2
              exact⟨rfl,rfl,Qz⟩
            intro w10 hS10
            have k0:=Qv.cell hS10.p 0
            have k1:=Qv.cell hS10.p 1
            have k2:=Qv.cell hS10.p 2
            have g0:=Qv.free0 hS10.p 0
            have g1:=Qv.free0 hS10.p 1
            have g2:=Qv.free0 hS10.p 2
            have hz:=Qv.lt hS10.p
            have hb10:=hS10.w
            clear hS10
            simp only[QU,Zj,Act.put]
            go_wp2_with fail
            refine bodyPost_ret (v:=.agg #[.slice x.A x.h.length x.c,.slice z.A z.h.length z.c,.bool true]) (by simp[results,Tryz.results43,go_sem,hz,k0,k1,k2,g0,g1,g2]) rfl ?_
            rw[HP.out]
            exact⟨Qz,_,_,true,rfl,rfl,rfl,.inr ⟨rfl,x.h,z.h,HBA.out.symm,HBB.out.symm⟩⟩
           ·have hpa:UZ va vb S i (k+1):=HPA.out.succ HX.out HZ.out (fun _=>HBB.out.symm)
            have HPA2:=Lib.hid hpa
            clear hS9 hpa
            simp only[QU,Zj,Act.put]
            go_wp2
            exact⟨⟨k+1,by omega,by omega,by go_num,HPA2,HS9⟩,by simp[intOf];omega⟩
         ·obtain rfl:k=s:=by omega
          have hpt:WV va vb S (i+1):=HPT.out.succ (by rw[HSL.out];exact HPA.out)
          have HPT2:=Lib.hid hpt
          clear hpt
          go_wp2_with fail
          exact⟨⟨i+1,by omega,by go_num,HPT2,HSk⟩,by simp[intOf];omega⟩
       ·obtain rfl:i=s:=by omega
        have hgd:∀ u∈LB.take (j+1),GoodV va vb u.v:=by
         intro u hu
         rw[HTK.out]at hu
         rcases List.mem_append.1 hu with hu | hu
         ·exact HG.out u hu
         ·rw[List.mem_singleton.1 hu]
          exact good_of HSS.out (by rw[HSL.out];exact HPT.out)
        have HG2:=Lib.hid hgd
        have hwr:=HSr.out.w
        have HPW:=Lib.hid HSr.out.p
        clear hgd
        go_wp2_with fail
        exact⟨⟨j+1,by omega,by go_num,HG2,HPW,hwr⟩,by simp[intOf];omega⟩
  ·obtain rfl:j=m:=by omega
   have hgd:=HG.out
   rw[List.take_of_length_le (by have:=HLN.out;omega)]at hgd
   have hgv:∀ v∈vb,GoodV va vb v:=by
    intro v hv
    rw[HVB.out]at hv
    obtain⟨u,hu,rfl⟩:=List.mem_map.1 hv
    exact hgd u hu
   have HGV:=Lib.hid hgv
   have k0:=Qv.cell HPr.out 0
   have k1:=Qv.cell HPr.out 1
   have k2:=Qv.cell HPr.out 2
   clear hgd hgv HG
   have g0:=Qv.free0 HPr.out 0
   have g1:=Qv.free0 HPr.out 1
   have g2:=Qv.free0 HPr.out 2
   have hz:=Qv.lt HPr.out
   go_wp2_with fail
   refine bodyPost_ret (v:=.agg #[.slice none 0 0,.slice none 0 0,.bool false]) (by simp[results,Tryz.results43,go_sem,hz,k0,k1,k2,g0,g1,g2]) rfl ?_
   rw[HP.out]
   exact⟨Qz,_,_,false,rfl,rfl,rfl,.inl ⟨rfl,HGV.out⟩⟩
end Go.Proofs.YticlbkficolocaaGreatDoor
