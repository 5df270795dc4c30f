/- The specification's Ring, Find, Genuine, Check. -/
import Derived.Test.YtlkbkclnbppigaaGreatDoorNY5
import Derived.Test.YtlkbkclnbppigaaGreatDoorCards
import Derived.Test.YtlkbkclnbppigaaGreatDoorTie
import Derived.Deep.DeepHandedRow
import Derived.Stop.LaidErr
set_option maxHeartbeats 32000000
namespace Go.Proofs.YtlkbkclnbppigaaGreatDoor
open _root_.Go.Proofs.Tryz _root_.Go.Proofs.YtlkbkclnbppigaaGreatDoor.Tryz
open Go.RowKit Go.Sort
set_option linter.unusedVariables false
set_option linter.unusedSimpArgs false
set_option maxRecDepth 100000
theorem aPs{a b c:aY}(h1:lF a b=true)(h2:lF b c=true):lF a c=true:=by
 unfold lF at *;simp only[decide_eq_true_eq] at *;omega
theorem Wn:∀ L:List aY,(∀ i x y,L[i]? = some x->L[i+1]? = some y->lF x y=true)->CQ L
 | [],_=>List.Pairwise.nil
 | [a],_=>List.pairwise_singleton _ _
 | a :: b :: l,h=>by
  have ih:=Wn (b :: l) (fun i x y hx hy=>h (i+1) x y hx hy);have hab:=h 0 a b rfl rfl;refine List.Pairwise.cons (fun z hz=>?_) ih;rcases List.mem_cons.1 hz with rfl | hz
  ·exact hab
  ·exact aPs hab (List.rel_of_pairwise_cons ih hz)
structure RiK(L:List aY)(k:Nat):Prop where
 v:∀ i x,i<k->L[i]? = some x->jG x=true
 u:∀ i x y,i+1<k->L[i]? = some x->L[i+1]? = some y->lF x y=true
theorem RiK.zero(L:List aY):RiK L 0:=⟨fun i x h=>aA,fun i x y h=>aA⟩
theorem RiK.step{L:List aY}{k:Nat}{x:aY}(h:RiK L k)(hx:L[k]? = some x)(hv:jG x=true)(hu:∀ y,0<k->L[k-1]? = some y->lF y x=true):RiK L (k+1):=by
 refine⟨fun i y hi hy=>?_,fun i a b hi ha hb=>?_⟩
 ·by_cases he:i=k
  ·subst he;rw[hx]at hy;injection hy with hy;rw[<-hy];exact hv
  ·exact h.v i y aA hy
 ·by_cases he:i+1=k
  ·subst he;rw[hx]at hb;injection hb with hb
   rw[<-hb];exact hu a aA (by simpa using ha)
  ·exact h.u i a b aA ha hb
theorem RiK.ok{L:List aY}{k:Nat}(h:RiK L k)(hk:L.length=k):jK L :=
 ⟨Wn L fun i x y hx hy=>h.u i x y (by have:=(List.getElem?_eq_some_iff.1 hy).1;omega) hx hy,fun x hx=>by
  obtain⟨i,hi,rfl⟩:=List.getElem_of_mem hx
  exact h.v i _ aA (List.getElem?_eq_getElem hi)⟩
def Wp(L:List aY)(w:World)(e:Ending)(w':World):Prop:=∃ b:Bool,e=.returned (.bool b)/\Below w.heap.size w w'/\(b=true↔jK L/\L.length<=1000)
theorem aPt(A:Option Addr)(n c:Nat)(L:List aY)(w:World)(hA:jJ w A n L)(hn:n<=9223372036854775807):Calls prog 25 #[.slice A n c] w (Wp L w):=by
 have hv:=fun (k:aY) W=>aLz k W
 have hbf:=fun (a b:aY) W=>aMa a b W
 have hl:=hA.1;simp only[aY.val_arr]at hv hbf;have HV:=aB hv;have HB:=aB hbf;have HA:=aB hA;have HL:=aB hl;obtain⟨R,hR⟩:∃ R,R=Wp L w:=⟨_,rfl⟩;rw[<-hR];have HR:=aB hR;clear hv hbf hA hl hR;go_enter func25,ntmps25;go_wp2;go_loopw [3] (fun vi wr=>∃ k:Nat,(vi=.int .i64 k/\k<=n)/\Hid (RiK L k)/\Below w.heap.size w wr) (fun vi _=>n-(intOf vi).toNat)
 case atStart=>exact⟨0,⟨rfl,Nat.zero_le _⟩,aB (RiK.zero L),Below.refl _ _⟩
 case round =>
  obtain⟨k,⟨rfl,hk⟩,HK,hb⟩:=hrel;by_cases hlt:k<n
  ·obtain⟨x,hx⟩:∃ x,L[k]? = some x:=⟨_,List.getElem?_eq_getElem dR⟩;obtain⟨b,o,rfl,hcell⟩:=HA.out.at_ hx;have hld:=fun (W:World) (hb:Below w.heap.size w W)=>wK W b (o+k*5) x (fun j u hu=>aP hb (hcell j u hu))
   rw[aY.val_arr]at hld;have hvx:=HV.out x;have hk0:(0:Int)<=(k:Int):=aA;have hk1:(k:Int)<(n:Int):=aA;have HX:=aB hx;obtain⟨XK,hXK⟩:∃ XK,XK=x.arr:=⟨_,rfl⟩;rw[<-hXK]at hld hvx;have HXK:=aB hXK;have HLD:=aB (hld wr hb);have HLW:=aB hld;clear HV;have HV:=aB (fun (W:World) (_:True)=>hvx W);clear hcell hld hvx hx hXK;have hfin:¬ jK L->∀ W,Below w.heap.size w W->R (.returned (.bool false)) W:=fun hno W hW=>by rw[HR.out];exact⟨false,rfl,hW,⟨fun h=>nP,fun h=>absurd h.1 hno⟩⟩
   have HF:=aB hfin;clear hfin;cases hvk:jG x
   ·rw[hvk]at HV;have hno:¬ jK L:=fun h=>by
     have:=h.each x (List.mem_of_getElem? HX.out);rw[hvk]at this;cases this
    have HF2:=aB (HF.out hno);clear HF hno hvk HK HX HXK HB;go_upto_region 5 with (first | (refine ay rfl 23 _ rfl ⟨b,o+k*5,none⟩ (.agg XK) rfl HLD.out ?_) | (go_at_call 31;refine (HV.out _ trivial).mono ?_;rintro e w2 ⟨rfl,hb2⟩))
    have hbw:=aN hb hb2;refine kV 19 aC aC aC (fun i=>[.bool false,.bool true,.bool true,undef,undef,undef,undef,undef,undef,undef,undef,undef,undef,undef,undef,undef,undef,undef,.bool true].getD i undef) (fun W=>Below w.heap.size w W) hbw.drew (fun _ _ h hb=>aN h hb) ?_ ?_
    ·exact Wq
    exact Ws
   rw[hvk]at HV;by_cases h0:k=0
   ·subst h0;have HK2:=aB (HK.out.step HX.out hvk (fun y h=>aA));have hld0:=HLD.out;simp only[Nat.zero_mul,Nat.add_zero]at hld0;clear hvk HK HX HXK HB;go_upto_region 5 with (first | (refine ay rfl 23 _ rfl ⟨b,o,none⟩ (.agg XK) rfl hld0 ?_) | (go_at_call 31;refine (HV.out _ trivial).mono ?_;rintro e w2 ⟨rfl,hb2⟩))
    have hbw:=aN hb hb2;refine kV 19 aC aC aC (fun i=>[.bool true,.bool false,.bool false,.int .i64 ((0:Nat):Int),.bool false,.bool false,undef,undef,undef,undef,undef,undef,undef,undef,undef,undef,undef,.bool false,.bool false].getD i undef) (fun W=>Below w.heap.size w W) hbw.drew (fun _ _ h hb=>aN h hb) ?_ ?_
    ·exact Wq
    exact Wu
   obtain⟨y,hy⟩:∃ y,L[k-1]? = some y:=⟨_,List.getElem?_eq_getElem dR⟩;obtain⟨b',o',e',hcell'⟩:=HA.out.at_ hy;injection e' with e'
   injection e' with e1 e2
   subst e1;subst e2;have hlp:=fun (W:World) (hb:Below w.heap.size w W)=>wK W b (o+(k-1)*5) y (fun j u hu=>aP hb (hcell' j u hu))
   rw[aY.val_arr]at hlp;have hby:=HB.out y x;rw[<-HXK.out]at hby;generalize hYK:y.arr=YK at *;have HLP:=aB hlp;have hk2:(0:Int)<(k:Int):=aA;have hk5:decide (0<k)=true:=decide_eq_true aA;have hk3:(0:Int)<=(k:Int)-1:=aA;have hk4:(k:Int)-1<(n:Int):=aA;have hcs:((k:Int)-1)=((k-1:Nat):Int):=aA;clear hcell' hlp hYK;cases hbk:lF y x
   ·rw[hbk]at hby;have hno:¬ jK L:=fun h=>by
     have h1:=List.pairwise_iff_getElem.1 h.up (k-1) k (List.getElem?_eq_some_iff.1 hy).1 (List.getElem?_eq_some_iff.1 HX.out).1 aA;rw[(List.getElem?_eq_some_iff.1 hy).2,(List.getElem?_eq_some_iff.1 HX.out).2,hbk]at h1;cases h1
    have HF2:=aB (HF.out hno);have HBF:=aB hby;clear HF hno hby hvk HK HX HXK HB hbk hy;go_upto_region 5 with (first | (refine ay rfl 23 _ rfl ⟨b,o+k*5,none⟩ (.agg XK) rfl HLD.out ?_) | (go_at_call 31;refine (HV.out _ trivial).mono ?_;rintro e w2 ⟨rfl,hb2⟩))
    have hbw:=aN hb hb2;refine kV 19 aC aC aC (fun i=>[.bool true,.bool false,.bool false,.int .i64 k,.bool true,.bool true,.slice (some ⟨b,o,none⟩) n c,.int .i64 k,.int .i64 ((k-1:Nat):Int),.pointer (some ⟨b,o+(k-1)*5,none⟩),.agg YK,.slice (some ⟨b,o,none⟩) n c,.int .i64 k,.pointer (some ⟨b,o+k*5,none⟩),.agg XK,.bool false,.bool true,.bool true,.bool true].getD i undef) (fun W=>Below w.heap.size w W) hbw.drew (fun _ _ h hb=>aN h hb) ?_ ?_
    ·exact Wv
    exact Ws
   ·have HK2:=aB (HK.out.step HX.out hvk (fun z _ hz=>by rw[hy]at hz;injection hz with hz;rw[<-hz];exact hbk));rw[hbk]at hby;have HBF:=aB hby;clear hby hvk HK HX HXK HB hbk hy;go_upto_region 5 with (first | (refine ay rfl 23 _ rfl ⟨b,o+k*5,none⟩ (.agg XK) rfl HLD.out ?_) | (go_at_call 31;refine (HV.out _ trivial).mono ?_;rintro e w2 ⟨rfl,hb2⟩))
    have hbw:=aN hb hb2;refine kV 19 aC aC aC (fun i=>[.bool true,.bool false,.bool false,.int .i64 k,.bool true,.bool true,.slice (some ⟨b,o,none⟩) n c,.int .i64 k,.int .i64 ((k-1:Nat):Int),.pointer (some ⟨b,o+(k-1)*5,none⟩),.agg YK,.slice (some ⟨b,o,none⟩) n c,.int .i64 k,.pointer (some ⟨b,o+k*5,none⟩),.agg XK,.bool true,.bool false,.bool false,.bool false].getD i undef) (fun W=>Below w.heap.size w W) hbw.drew (fun _ _ h hb=>aN h hb) ?_ ?_
    ·exact Wv
    exact Wu
  ·obtain rfl:k=n:=aA;by_cases h1000:k<=1000
   ·have i1:(k:Int)<=1000:=aA;go_wp2;rw[HR.out];exact⟨true,rfl,hb,⟨fun _=>⟨HK.out.ok HL.out,by rw[HL.out];exact h1000⟩,fun _=>rfl⟩⟩
   ·have i1:¬ (k:Int)<=1000:=aA;go_wp2;rw[HR.out];exact⟨false,rfl,hb,⟨fun h=>nP,fun h=>absurd h.2 (by rw[HL.out];exact h1000)⟩⟩
open Classical in
theorem aPu(A:Option Addr)(n c:Nat)(L:List aY)(w:World)(hA:jJ w A n L)(hn:n<=9223372036854775807):Calls prog 25 #[.slice A n c] w (Ret w (.bool (decide (jK L/\L.length<=1000)))):=by
 refine (aPt A n c L w hA hn).mono ?_;rintro e w' ⟨b,rfl,hb,hk⟩;refine⟨?_,hb⟩;congr 2;cases b
 ·exact (decide_eq_false (fun h=>by have:=hk.2 h;cases this)).symm
 ·exact (decide_eq_true (hk.1 rfl)).symm
def jY(k:aY)(e:Int):Array Value:=#[.int .i64 k.party,.int .i64 k.ser,.string k.secret,.int .i64 k.fr,.int .i64 k.till,.int .i64 e]
theorem zx:(prog.info? 100).map (·.size)=some 6:=by kernel_rfl
theorem ET(k:aY)(e:Int):(jY k e).all (·.oneCell')=true:=by unfold jY;rw[List.all_toArray];rfl
theorem aPv{w:World}{g:Nat}{X:Array Value}{t:TypeId}(hg:w.heap[g]? = some (.cells X t (0,0)))(hs:X.size=6):(loadVar 100 ⟨g,0,none⟩).run prog w=.ok (.agg X) w :=
 run_loadVar_row (P:=prog) w g _ 100 X _ _ hg underlying100 rfl (by rw[hs];exact zx)
theorem aPw{L:List aY}{k:Nat}{x:aY}(h:L[k]? = some x)(p s:Int):gI (L.drop k) p s=if x.party=p/\x.ser=s then some x else gI (L.drop (k+1)) p s:=by
 obtain⟨hl,rfl⟩:=List.getElem?_eq_some_iff.1 h;unfold gI;rw[List.drop_eq_getElem_cons hl,List.find?_cons];by_cases hc:L[k].party=p/\L[k].ser=s
 ·rw[decide_eq_true hc,if_pos hc]
 ·rw[decide_eq_false hc,if_neg hc]
theorem aPx{fn:Func}{p:Tmp}{ty:TypeId}(h:fn.results=#[.cell p ty])(tmps:Array Value)(w:World)(g:Nat)(cs:Array Value)
  (hp:tmps.getD p undef=.pointer (some ⟨g,0,none⟩)) (hl:(loadVar ty ⟨g,0,none⟩).run prog w=.ok (.agg cs) w):(results fn tmps).run prog w=.ok (.agg cs) w:=by
 rw[Array.getD_eq_getD_getElem?]at hp;simp[results,h,hp,Sem.run_bind,hl,asAddr,Result.andThen]
theorem aPy(A:Option Addr)(n c:Nat)(L:List aY)(p s:Int)(w:World)(hA:jJ w A n L)(hn:n<=100000) :
  Calls prog 63 #[.slice A n c,.int .i64 p,.int .i64 s] w (Ret w (.agg (jY ((gI L p s).getD nD) (if (gI L p s).isSome then 0 else 5)))):=by
 have hl:=hA.1;obtain⟨V,hV⟩:∃ V,V=jY ((gI L p s).getD nD) (if (gI L p s).isSome then 0 else 5):=⟨_,rfl⟩;rw[<-hV];have HA:=aB hA;have HL:=aB hl;have HV:=aB hV;clear hA hl hV;go_enter func63,ntmps63;go_upto_region 1 with fail
 generalize hw0:World.alloc _ _=w0;have hz0:aQ w0 w.heap.size 100 (#[.int .i64 0,.int .i64 0,.string ⟨#[]⟩,.int .i64 0,.int .i64 0,.int .i64 0]:Array Value):=by rw[<-hw0];exact heap_alloc_new w _
 have hb0:Below w.heap.size w w0:=by rw[<-hw0];exact fD _ _
 clear hw0;go_wp2;go_loopw [7] (fun vi wr=>∃ k:Nat,(vi=.int .i64 k/\k<=n)/\Hid (gI L p s=gI (L.drop k) p s)/\Hid (aQ wr w.heap.size 100 (#[.int .i64 0,.int .i64 0,.string ⟨#[]⟩,.int .i64 0,.int .i64 0,.int .i64 0]:Array Value))/\Below w.heap.size w wr) (fun vi _=>n-(intOf vi).toNat)
 case atStart=>exact⟨0,⟨rfl,Nat.zero_le _⟩,aB rfl,aB hz0,hb0⟩
 case round =>
  obtain⟨k,⟨rfl,hk⟩,HK,HZ,hb⟩:=hrel;clear hz0 hb0;by_cases hlt:k<n
  ·obtain⟨x,hx⟩:∃ x,L[k]? = some x:=⟨_,List.getElem?_eq_getElem dR⟩;obtain⟨b,o,rfl,hcell⟩:=(HA.out.keep hb).at_ hx;have hst:=aPw hx p s;have hc0:=hcell 0 (.int .i64 x.party) rfl;have hc1:=hcell 1 (.int .i64 x.ser) rfl;have hld:=wK wr b (o+k*5) x hcell;rw[Nat.add_zero]at hc0;have hk0:(0:Int)<=(k:Int):=aA;have hk1:(k:Int)<(n:Int):=aA;rw[aY.val_arr]at hld;have HX:=aB (show x.arr=#[.int .i64 x.party,.int .i64 x.ser,.string x.secret,.int .i64 x.fr,.int .i64 x.till] from rfl);have HLD:=aB hld;clear hcell hx hld;by_cases h1:x.party=p
   ·by_cases h2:x.ser=s
    ·rw[if_pos ⟨h1,h2⟩]at hst;have hVV:V=jY x 0:=by rw[HV.out,HK.out,hst];rfl
     have e1:(x.party==p)=true:=uk;have e2:(x.ser==s)=true:=by simp[h2]
     have HVV:=aB hVV;rw[HX.out]at HLD;clear hst hVV HK HV h1 h2;go_wp2_with (first
      | (refine ay rfl 23 _ rfl ⟨b,o+k*5,none⟩ (.agg #[.int .i64 x.party,.int .i64 x.ser,.string x.secret,.int .i64 x.fr,.int .i64 x.till]) rfl HLD.out ?_)
      | (refine wpList_store_row rfl 100 _ _ rfl w.heap.size (jY x 0) rfl rfl _ (#[.int .i64 0,.int .i64 0,.string ⟨#[]⟩,.int .i64 0,.int .i64 0,.int .i64 0]:Array Value) HZ.out zx rfl (ET x 0) ?_))
     exact Wx
    ·rw[if_neg (fun h=>h2 h.2)]at hst;have HK2:=aB (HK.out.trans hst);have e1:(x.party==p)=true:=uk;have e2:(x.ser==s)=false:=by simp[h2]
     clear hst HK;go_wp2;exact⟨⟨k+1,⟨aj,aA⟩,HK2,HZ,hb⟩,au⟩
   ·rw[if_neg (fun h=>h1 h.1)]at hst;have HK2:=aB (HK.out.trans hst);have e1:(x.party==p)=false:=uk;clear hst HK;go_wp2;exact⟨⟨k+1,⟨aj,aA⟩,HK2,HZ,hb⟩,au⟩
  ·obtain rfl:k=n:=aA;have hnone:gI L p s=none:=by
    rw[HK.out,List.drop_eq_nil_of_le dR];rfl
   have hVV:V=jY nD 5:=by rw[HV.out,hnone];rfl
   have HVV:=aB hVV;clear hVV hnone HV HK;go_wp2_with (refine wpList_store_row rfl 100 _ _ rfl w.heap.size (jY nD 5) rfl rfl _ (#[.int .i64 0,.int .i64 0,.string ⟨#[]⟩,.int .i64 0,.int .i64 0,.int .i64 0]:Array Value) HZ.out zx rfl (ET nD 5) ?_);exact Wx
structure GrS(w:World)(x:ag)(PX:Array Value)(W:World):Prop where
 t:fB W w.heap.size x
 p:aQ W (w.heap.size+1) 57 PX
 b:Below w.heap.size w W
theorem GrS.keep{w W W':World}{x:ag}{PX:Array Value}(h:GrS w x PX W)(hb:Below W.heap.size W W'):GrS w x PX W':=⟨h.t.keep hb,h.p.keep hb,aN h.b hb⟩
theorem aPz{W:World}{g:Nat}{k:aY}{e:Int}(h:aQ W g 100 (jY k e)):(loadVar 23 ⟨g,0,none⟩).run prog W=.ok (.agg k.arr) W :=
 yj (P:=prog) W g 0 100 23 (jY k e).toList k.cells (0,0) _ h (fun j v hv=>by
  have e1:(jY k e).toList=k.cells++[.int .i64 e]:=rfl
  rw[Nat.zero_add,e1,List.getElem?_append_left (List.getElem?_eq_some_iff.1 hv).1]
  exact hv) underlying23 rfl lL
theorem aQa{W:World}{g:Nat}{lo hi:Int}(h:aQ W g 57 #[.int .i64 lo,.int .i64 hi]):W.cell? ⟨g,0,none⟩=some (.int .i64 lo)/\W.cell? ⟨g,1,none⟩=some (.int .i64 hi):=⟨h.cell (k:=0) rfl,h.cell (k:=1) rfl⟩
theorem Wy(A:Option Addr)(n c:Nat)(L:List aY)(x:ag)(lo hi:Int)(w:World)(hA:jJ w A n L)(hn:n<=100000)(hL:jK L)(hR:bV w x)(hc:∀ y∈x.L,jA y.c)(h1:1<=x.t.conds.length)(hn2:x.t.conds.length<=1000)(hid:x.t.id.size<=1000000)(hK:Ks2 w) :
  Calls prog 28 #[.slice A n c,x.val,jF lo hi] w (Ret w (.int .i64 (jW L x.t lo hi))):=by
 have hf:=fun (W:World) (hb:Below w.heap.size w W)=>aPy A n c L x.t.cust x.t.ser W (hA.keep hb) hn
 obtain⟨V,hV⟩:∃ V,V=jW L x.t lo hi:=⟨_,rfl⟩;rw[<-hV];unfold jW at hV;rw[show jF lo hi=.agg #[.int .i64 lo,.int .i64 hi] from rfl];unfold ag.val;obtain⟨kf,hkf⟩:∃ kf,kf=(gI L x.t.cust x.t.ser).getD nD:=⟨_,rfl⟩;obtain⟨ef,hef⟩:∃ ef:Int,ef=(if (gI L x.t.cust x.t.ser).isSome then 0 else 5):=⟨_,rfl⟩;rw[<-hkf,<-hef]at hf;have HF:=aB hf;clear hf;cases hfk:gI L x.t.cust x.t.ser with
 | none =>
  rw[hfk]at hV hef;obtain rfl:V=5:=hV;have HEF:=aB (show ef=5 from hef);clear hef;clear hfk hkf hA hL hR hc hK hid;go_enter func28,ntmps28;go_upto_region 1 with fail
  generalize hw0:World.alloc _ _=w0;have hS:GrS w x #[.int .i64 lo,.int .i64 hi] w0:=XB;clear hw0;obtain⟨y0,y1,y2,y3⟩:=hS.t.cells;go_upto_region 2 with (first | (go_at_call 63;refine (HF.out _ hS.b).mono ?_;rintro e w1 ⟨rfl,hb1⟩;replace hS:=hS.keep hb1;clear y0 y1 y2 y3) | (refine wpList_store_row rfl 100 _ _ rfl w1.heap.size (jY kf ef) rfl rfl _ (#[.int .i64 0,.int .i64 0,.string ⟨#[]⟩,.int .i64 0,.int .i64 0,.int .i64 0]:Array Value) (heap_alloc_new w1 _) zx rfl (ET _ _) ?_))
  (try dsimp only[Act.put]);generalize hwx:World.setRow _ _ _=w2;have hG:aQ w2 w1.heap.size 100 (jY kf ef):=Ee;have hb2:Below w1.heap.size w1 w2:=tH;replace hS:=hS.keep hb2;have c5:=hG.cell (k:=5) (v:=.int .i64 ef) rfl;rw[HEF.out]at c5;generalize hgf:w1.heap.size=gf at *;clear hwx hb2 hgf hb1;clear hG;go_wp2;go_ret;exact⟨rfl,hS.b⟩
 | some k =>
  obtain⟨hmem,hpt,-⟩:=Tj hfk;have hvk:=hL.each k hmem;have hks:k.secret.size<=1000000:=by
   unfold jG at hvk;simp only[decide_eq_true_eq]at hvk;omega
  rw[hfk]at hV hef hkf;obtain rfl:kf=k:=hkf;have HEF:=aB (show ef=0 from hef);clear hef;replace hV:V=if jH kf lo hi then (if fA kf x.t=x.t.sl then 0 else 8) else 9:=hV
  have hco:=fun W=>aMb kf lo hi W
  have hrt:=fun (W:World) (hb:Below w.heap.size w W)=>aPo kf x W (hR.keep hb) hc h1 hn2 hks hid (hK.keep hb)
  have hts:=fun (W:World) (g:Nat) (h:fB W g x)=>uz hR h
  have hseq:=fun W=>DT (fA kf x.t) x.t.sl (Bq kf x.t) hR.sl W
  have hXS:x.cells.toArray.size=20:=qY;obtain⟨q,hq⟩:∃ q,q=decide (fA kf x.t=x.t.sl):=⟨_,rfl⟩;have hV2:V=if jH kf lo hi then (if q then 0 else 8) else 9:=by rw[hV,hq];cases jH kf lo hi <;> simp
  rw[<-hq]at hseq;rw[show jF lo hi=.agg #[.int .i64 lo,.int .i64 hi] from rfl,aY.val_arr]at hco;rw[aY.val_arr]at hrt;unfold ag.val at hrt;have hfkey:=fun (W:World) (g:Nat) (h:aQ W g 100 (jY kf ef))=>aPz h
  generalize jH kf lo hi=ct at *;clear hV hq hfk hmem hpt hvk hA hL hR hc hK hid hks;generalize (b8 (fA kf x.t)).toArray=RS at *;generalize (b8 x.t.sl).toArray=TL at *;generalize kf.arr=KX at *;have HCO:=aB hco;have HRT:=aB hrt;have HTS:=aB hts;have HSE:=aB hseq;have HXS:=aB hXS;have HVV:=aB hV2;have HFK:=aB hfkey;clear hco hrt hts hseq hXS hV2 hfkey;go_enter func28,ntmps28;go_upto_region 1 with fail
  generalize hw0:World.alloc _ _=w0;have hS:GrS w x #[.int .i64 lo,.int .i64 hi] w0:=XB;clear hw0;obtain⟨y0,y1,y2,y3⟩:=hS.t.cells;go_upto_region 2 with (first | (go_at_call 63;refine (HF.out _ hS.b).mono ?_;rintro e w1 ⟨rfl,hb1⟩;replace hS:=hS.keep hb1;clear y0 y1 y2 y3) | (refine wpList_store_row rfl 100 _ _ rfl w1.heap.size (jY kf ef) rfl rfl _ (#[.int .i64 0,.int .i64 0,.string ⟨#[]⟩,.int .i64 0,.int .i64 0,.int .i64 0]:Array Value) (heap_alloc_new w1 _) zx rfl (ET _ _) ?_))
  (try dsimp only[Act.put]);generalize hwx:World.setRow _ _ _=w2;have hG:aQ w2 w1.heap.size 100 (jY kf ef):=Ee;have hb2:Below w1.heap.size w1 w2:=tH;replace hS:=hS.keep hb2;have c5:=hG.cell (k:=5) (v:=.int .i64 ef) rfl;rw[HEF.out]at c5;generalize hgf:w1.heap.size=gf at *;clear hwx hb2 hgf hb1;have hld:=HFK.out _ _ hG;obtain⟨p0,p1⟩:=aQa hS.p;have HSS:=aB (And.intro hS hG);clear hS hG;cases ct
  ·obtain rfl:V=9:=HVV.out;go_wp2_with (first
    | (refine ay rfl 23 _ rfl ⟨gf,0,none⟩ (.agg KX) rfl hld ?_)
    | (go_at_call 40;refine (HCO.out _).mono ?_;rintro e w3 ⟨rfl,hb3⟩))
   go_ret;exact⟨rfl,aN HSS.out.1.b hb3⟩
  go_upto_region 7 with (first
   | (refine ay rfl 23 _ rfl ⟨gf,0,none⟩ (.agg KX) rfl hld ?_)
   | (go_at_call 40;refine (HCO.out _).mono ?_;rintro e w3 ⟨rfl,hb3⟩))
  clear c5 p0 p1 hld HF HCO;refine kV 7 aC aC aC (fun i=>[.pointer (some ⟨gf,0,none⟩),.agg KX,.agg x.cells.toArray,.agg RS,.pointer (some ⟨w.heap.size,4,none⟩),.agg TL,.bool (!q)].getD i undef) (fun W=>GrS w x #[.int .i64 lo,.int .i64 hi] W/\aQ W gf 100 (jY kf ef)) ⟨(HSS.out.1.keep hb3).keep (Below.drew (Below.refl _ _)),(HSS.out.2.keep hb3).keep (Below.drew (Below.refl _ _))⟩ (fun _ _ h hb=>⟨h.1.keep hb,h.2.keep hb⟩) ?_ ?_
  ·simp only[aX,List.take_succ_cons,List.take_zero,List.drop_succ_cons,List.drop_zero,Act.put,aW,ai];refine⟨fun W hS=>?_,fun W hS=>?_,fun W hS=>?_,fun W hS=>?_,fun W hS=>?_,fun W hS=>?_,fun W hS=>?_,trivial⟩;all_goals
    have hse:=HSE.out W;have hbW:=hS.1.b;go_wp2_with (first
     | (refine ja aC 23 _ rfl ⟨gf,0,none⟩ (.agg KX) rfl (HFK.out _ _ hS.2) ?_)
     | (refine ja aC 32 _ rfl ⟨w.heap.size,0,none⟩ (.agg x.cells.toArray) rfl (eQ hS.1.t.box HXS.out) ?_)
     | (refine ja aC 30 _ rfl ⟨w.heap.size,4,none⟩ (.agg TL) rfl (HTS.out _ _ hS.1.t) ?_)
     | (go_at_call 34;refine (HRT.out _ hbW).mono ?_;rintro e w4 ⟨rfl,hb4⟩))
    exact⟨rfl,rfl,qp⟩
  intro wz hSz;simp only[aX,List.take_succ_cons,List.take_zero,List.drop_succ_cons,List.drop_zero,Act.put,aW,ai];have hbz:=hSz.1.b;cases q
  ·obtain rfl:V=8:=HVV.out;go_wp2;go_ret;exact⟨rfl,hbz⟩
  ·obtain rfl:V=0:=HVV.out;go_wp2;go_ret;exact⟨rfl,hbz⟩
theorem aQb{x:ag}{w:World}(hR:bV w x){k:Nat}{y:CoM}(h:x.L[k]? = some y)(p:aZ->Bool):(x.t.conds.drop k).all p=(p y.c&&(x.t.conds.drop (k+1)).all p):=by
 have hc:=uZ hR h;obtain⟨hl,e⟩:=List.getElem?_eq_some_iff.1 hc;rw[List.drop_eq_getElem_cons hl,List.all_cons,e]
theorem aQc(A:Option Addr)(n c:Nat)(L:List aY)(x:ag)(a:bn)(w:World)(hA:jJ w A n L)(hn:n<=100000)(hL:jK L)(hR:bV w x)(hc:∀ y∈x.L,jA y.c)(ha:kR a)(h1:1<=x.t.conds.length)(hn2:x.t.conds.length<=1000)(hid:x.t.id.size<=1000000)(hK:Ks2 w) :
  Calls prog 30 #[.slice A n c,x.val,a.val] w (Ret w (.int .i64 (iw L x.t a))):=by
 have hG:=fun (W:World) (hb:Below w.heap.size w W)=>Wy A n c L x a.lo a.hi W (hA.keep hb) hn hL (hR.keep hb) hc h1 hn2 hid (hK.keep hb)
 have hH:=fun (y:CoM) (hy:y∈x.L) (W:World) (hb:Below w.heap.size w W)=>aPg y.c y.m a W ((hR.conds.each y hy).keep hb) (hc y hy).fits ha
 have hat:=fun (W:World) (g:Nat) (h:aQ W g 59 (gy a).toArray)=>IK h
 have hV:iw L x.t a=if jW L x.t a.lo a.hi=0 then (if x.t.conds.all fun c=>fH c a then 0 else 250) else jW L x.t a.lo a.hi:=rfl
 have hax:=fun (i:Nat) (u:CoM) (h:x.L[i]? = some u)=>hR.conds.at_ h
 have hl:=hR.conds.len;rw[hV,zQ];rw[zQ]at hH;simp only[oM]at hH;have hAS:(gy a).toArray.size=6:=rfl;generalize jW L x.t a.lo a.hi=e at *;have hTS:x.cells.toArray.size=20:=qY;obtain⟨P,hP⟩:∃ P,jF a.lo a.hi=.agg P:=⟨_,rfl⟩;rw[hP]at hG hat;generalize (gy a).toArray=X at *;unfold ag.val at hG ⊢;obtain⟨pr,hpr⟩:∃ pr:aZ->Bool,pr=fun c=>fH c a:=⟨_,rfl⟩
 obtain⟨QQ,hQ⟩:∃ QQ,QQ=x.t.conds.all pr:=⟨_,rfl⟩;rw[show (x.t.conds.all fun c=>fH c a)=QQ by rw[hQ,hpr]];obtain⟨V,hVd⟩:∃ V:Int,V=(if e=0 then (if QQ=true then 0 else 250) else e):=⟨_,rfl⟩;rw[<-hVd];have HVD:=aB hVd;clear hVd;have hdr:∀(k:Nat)(y:CoM),x.L[k]? = some y->(x.t.conds.drop k).all pr=(pr y.c&&(x.t.conds.drop (k+1)).all pr):=fun k y h=>aQb hR h pr
 have hH2:∀(y:CoM),y∈x.L->∀(W:World),Below w.heap.size w W->Calls prog 65 #[.agg (eH y.c y.m),.agg X] W (Ret W (.bool (pr y.c))):=by rw[hpr];exact hH
 obtain⟨n2,hln⟩:∃ n2,x.t.conds.length=n2:=⟨_,rfl⟩;have HG:=aB hG;have HAT:=aB hat;have HTS:=aB hTS;have HH:=aB hH2;have HDR:=aB hdr;have HAX:=aB hax;have HL:=aB hl;have HQ:=aB hQ;have HLN:=aB hln;have HAS:=aB hAS;clear hG hat hTS hH hH2 hdr hax hl hQ hpr hV hP hA hL hR hc ha hK hln hAS;have hn3:n2<=1000:=by have:=HLN.out;omega
 go_enter func30,ntmps30;go_upto_region 1 with fail
 generalize hw0:World.alloc _ _=w0;have hS0:ChS w x X w0:=by
  rw[<-hw0];exact⟨⟨(fJ w _ _).1⟩,(fJ w _ _).2,aG⟩
 have HS0:=aB hS0;have hldt:=eQ hS0.t.box HTS.out;have hlda:=HAT.out w0 _ hS0.a;have hb0:=hS0.b;clear hw0 hS0;by_cases he:e=0;rotate_left
 ·obtain rfl:V=e:=by rw[HVD.out,if_neg he]
  have he2:(V != 0)=true:=xu;go_wp2_with (first
   | (refine ay rfl 32 _ rfl ⟨w.heap.size,0,none⟩ (.agg x.cells.toArray) rfl hldt ?_)
   | (refine ay rfl 57 _ rfl ⟨w.heap.size+1,4,none⟩ (.agg P) rfl hlda ?_)
   | (go_at_call 28;refine (HG.out _ hb0).mono ?_;rintro e w1 ⟨rfl,hb1⟩))
  go_ret;exact⟨rfl,aN HS0.out.b hb1⟩
 subst he;have HVV:=aB (show V=(if QQ=true then 0 else 250) by rw[HVD.out,if_pos rfl]);clear HVD;go_upto_region 4 with (first
  | (refine ay rfl 32 _ rfl ⟨w.heap.size,0,none⟩ (.agg x.cells.toArray) rfl hldt ?_)
  | (refine ay rfl 57 _ rfl ⟨w.heap.size+1,4,none⟩ (.agg P) rfl hlda ?_)
  | (go_at_call 28;refine (HG.out _ hb0).mono ?_;rintro e w1 ⟨rfl,hb1⟩))
 have HS1:=aB (HS0.out.keep hb1);clear hldt hlda hb0 hb1 HS0 HG HAT;go_wp2;go_loopw [8] (fun vi wr=>∃ k:Nat,(vi=.int .i64 k/\k<=n2)/\Hid (QQ=(x.t.conds.drop k).all pr)/\Hid (ChS w x X wr)) (fun vi _=>n2-(intOf vi).toNat)
 case atStart=>exact⟨0,⟨rfl,Nat.zero_le _⟩,HQ,HS1⟩
 case round =>
  obtain⟨k,⟨rfl,hk⟩,HK,HS⟩:=hrel;clear HS1;obtain⟨y0,y1,y2,y3⟩:=HS.out.t.cells;rw[HLN.out]at y3;by_cases hlt:k<n2
  ·obtain⟨u,hu⟩:∃ u,x.L[k]? = some u:=⟨_,List.getElem?_eq_getElem (by have:=HL.out;have:=HLN.out;omega)⟩;obtain⟨_,b,o,hA,hcc⟩:=HAX.out k u hu;have hcx:=fun (W:World) (hb:Below w.heap.size w W)=>lZ W b (o+k*7) u (fun j z hz=>aP hb (hcc j z hz))
   have hh:=HH.out u (List.mem_of_getElem? hu);have hd:=HDR.out k u hu;simp only[oM]at hcx;generalize eH u.c u.m=UX at *;have HCX:=aB hcx;have hk0:(0:Int)<=(k:Int):=aA;have hk1:(k:Int)<(n2:Int):=aA;have HXA:=aB hA;rw[hA]at y3;clear hcx hu hcc hA;cases hp:pr u.c
   ·rw[hp]at hh hd;have hQf:QQ=false:=by rw[HK.out,hd];rfl
    subst hQf;obtain rfl:V=250:=HVV.out;have HHH:=aB hh;clear hh hd hp HK HQ;go_upto_region 7 with fail
    clear y0 y1 y2 y3;refine kV 8 aC aC aC (fun i=>[.pointer (some ⟨w.heap.size,3,none⟩),.slice (some ⟨b,o,none⟩) n2 x.c,.int .i64 k,.pointer (some ⟨b,o+k*7,none⟩),.agg UX,.agg X,.bool false,.bool false].getD i undef) (ChS w x X) (HS.out.keep (Below.drew (Below.refl _ _))) (fun _ _ h hb=>h.keep hb) ?_ ?_
    ·exact XD
    intro wz hSz;simp only[aX,List.take_succ_cons,List.take_zero,List.drop_succ_cons,List.drop_zero,Act.put,aW,ai];have hbz:=hSz.b;go_wp2;go_ret;exact⟨rfl,hbz⟩
   ·rw[hp]at hh hd;have HK2:=aB (show QQ=(x.t.conds.drop (k+1)).all pr by rw[HK.out,hd];rfl);have HHH:=aB hh;clear hh hd hp HK;go_upto_region 7 with fail
    clear y0 y1 y2 y3;refine kV 8 aC aC aC (fun i=>[.pointer (some ⟨w.heap.size,3,none⟩),.slice (some ⟨b,o,none⟩) n2 x.c,.int .i64 k,.pointer (some ⟨b,o+k*7,none⟩),.agg UX,.agg X,.bool true,.bool true].getD i undef) (ChS w x X) (HS.out.keep (Below.drew (Below.refl _ _))) (fun _ _ h hb=>h.keep hb) ?_ ?_
    ·exact XD
    intro wz hSz;simp only[aX,List.take_succ_cons,List.take_zero,List.drop_succ_cons,List.drop_zero,Act.put,aW,ai];have HSZ:=aB hSz;clear hSz;go_wp2;exact⟨⟨k+1,⟨aj,aA⟩,HK2,HSZ⟩,au⟩
  ·obtain rfl:k=n2:=aA;have hQt:QQ=true:=by rw[HK.out,List.drop_eq_nil_of_le (by have:=HLN.out;omega)];rfl
   subst hQt;obtain rfl:V=0:=HVV.out;have hbz:=HS.out.b;go_wp2;go_ret;exact⟨rfl,hbz⟩
open Classical in
theorem aKl(A:Option Addr)(n c:Nat)(L:List aY)(x:ag)(a:bn)(w:World)(hA:jJ w A n L)(hn:n<=9223372036854775807)(hR:bV w x)(hn63:x.t.conds.length<=9223372036854775807)(hLE:iT w/\Ks2 w) :
  Calls prog 4 #[.slice A n c,x.val,a.val] w (Ret w (.bool true)):=by
 obtain⟨hL,hK2⟩:=hLE;have hXS:x.cells.toArray.size=20:=qY;obtain⟨S,hSD⟩:∃ S,S=ChS w x (gy a).toArray:=⟨_,rfl⟩;have hsk:∀ W W',S W->Below W.heap.size W W'->S W':=by rw[hSD];exact fun _ _ h hb=>h.keep hb
 have hsb:∀ W,S W->Below w.heap.size w W:=by rw[hSD];exact fun _ h=>h.b
 have ldT:∀ W,S W->(loadVar 32 ⟨w.heap.size,0,none⟩).run prog W=.ok (.agg x.cells.toArray) W:=by rw[hSD];exact fun W h=>eQ h.t.box hXS
 have ldA:∀ W,S W->(loadVar 59 ⟨w.heap.size+1,0,none⟩).run prog W=.ok (.agg (gy a).toArray) W:=by rw[hSD];exact fun W h=>vC h.a rfl
 have ldP:∀ W,S W->(loadVar 57 ⟨w.heap.size+1,4,none⟩).run prog W=.ok (jF a.lo a.hi) W:=by rw[hSD];exact fun W h=>IK h.a
 have hrg:∀ W,S W->Calls prog 25 #[.slice A n c] W (Ret W (.bool (decide (jK L/\L.length<=1000)))):=fun W h=>aPu A n c L W (hA.keep (hsb _ h)) hn
 have hfw:∀ W,S W->Calls prog 10 #[.agg x.cells.toArray] W (Ret W (.bool (qi x.t))):=fun W h=>aPr x W (hR.keep (hsb _ h)) hn63
 have hfa:∀ W,Calls prog 26 #[.agg (gy a).toArray] W (Ret W (.bool (xY a))):=fun W=>aPk a W
 have hsa:∀ W,S W->Calls prog 11 #[] W (Ret W (.bool true)):=fun W h=>Xt W (hL.keep (hsb _ h))
 have hva:qi x.t=true->∀ W,S W->Calls prog 15 #[.agg x.cells.toArray] W (Ret W (.bool (fK x.t))):=fun hf W h=>aPm x W (hR.keep (hsb _ h)) (fun y hy=>Vh (Jp hR hf y hy)) (by have:=(ES hf).2.2;omega) (by have:=(ES hf).2.1;omega)
 rw[zQ];unfold ag.val;have hs0:S ((w.alloc (.cells x.cells.toArray 32)).alloc (.cells (gy a).toArray 59)):=by rw[hSD];exact⟨⟨(fJ w _ _).1⟩,(fJ w _ _).2,aG⟩
 have hmain:qi x.t=true->fK x.t=true->xY a=true->jK L->n<=10->∃ ge ch:Int,(∀ W,S W->Calls prog 27 #[.slice A n c,.agg x.cells.toArray,jF a.lo a.hi] W (Ret W (.int .i64 ge)))/\(∀ W,S W->Calls prog 28 #[.slice A n c,.agg x.cells.toArray,jF a.lo a.hi] W (Ret W (.int .i64 ge)))/\(∀ W,S W->Calls prog 29 #[.slice A n c,.agg x.cells.toArray,.agg (gy a).toArray] W (Ret W (.int .i64 ch)))/\(∀ W,S W->Calls prog 30 #[.slice A n c,.agg x.cells.toArray,.agg (gy a).toArray] W (Ret W (.int .i64 ch))):=by
  intro hf hv hfa hr hn10;have fk:=ES hf;have ok:=(uS _).1 hv;have hco:∀ y∈x.L,jA y.c:=fun y hy=>⟨Vh (Jp hR hf y hy),Wj hR hv y hy,by have:=aPq (Wj hR hv y hy) (Jp hR hf y hy);omega⟩
  have hp:InK x.t.cust:=by unfold InK;have:=ok.c0;have:=ok.c1;omega
  have hs:InK x.t.ser:=by unfold InK;have:=ok.s0;have:=ok.s1;omega
  have h1:=ok.n0;have h2:x.t.conds.length<=1000:=by have:=ok.n1;omega
  have hid:x.t.id.size<=1000000:=by have:=fk.2.2;omega
  refine⟨jW L x.t a.lo a.hi,iw L x.t a,?_,?_,?_,?_⟩
  ·exact fun W h=>Tm A n c L x a.lo a.hi W (hA.keep (hsb _ h)) aA hr (hR.keep (hsb _ h)) hco h1 h2 hid hp hs (hL.k.keep (hsb _ h)) (hL.e.keep (hsb _ h)) (hL.t.keep (hsb _ h))
  ·exact fun W h=>Wy A n c L x a.lo a.hi W (hA.keep (hsb _ h)) aA hr (hR.keep (hsb _ h)) hco h1 h2 hid (hK2.keep (hsb _ h))
  ·exact fun W h=>Tn A n c L x a W (hA.keep (hsb _ h)) aA hr (hR.keep (hsb _ h)) hco (WR hfa) h1 h2 hid hp hs (hL.k.keep (hsb _ h)) (hL.e.keep (hsb _ h)) (hL.t.keep (hsb _ h))
  ·exact fun W h=>aQc A n c L x a W (hA.keep (hsb _ h)) aA hr (hR.keep (hsb _ h)) hco (WR hfa) h1 h2 hid (hK2.keep (hsb _ h))
 obtain⟨PV,hPV⟩:∃ PV,jF a.lo a.hi=.agg PV:=⟨_,rfl⟩;rw[hPV]at ldP hmain;have hrb:decide (jK L/\L.length<=1000)=true->jK L:=fun h=>(of_decide_eq_true h).1
 generalize decide (jK L/\L.length<=1000)=rb at *;generalize x.cells.toArray=XT at *;generalize (gy a).toArray=XA at *;have HSK:=aB hsk;have HSB:=aB hsb;have LDT:=aB ldT;have LDA:=aB ldA;have LDP:=aB ldP;have HRG:=aB hrg;have HFW:=aB hfw;have HFA:=aB hfa;have HSA:=aB hsa;have HVA0:=aB hva;have HS0:=aB hs0;have HM:=aB hmain;have HRB:=aB hrb;clear hsk hsb ldT ldA ldP hrg hfw hfa hsa hva hs0 hmain hrb hSD hPV hXS hL hK2 hA hR hn63;by_cases hbig:10<n
 ·have i1:(10:Int)<(n:Int):=aA;exact AB
 have i1:¬ (10:Int)<(n:Int):=aA;cases rb
 ·skip;exact AB
 cases hfe:qi x.t
 ·rw[hfe]at HFW;clear hfe;exact AB
 have HVA:=aB (HVA0.out hfe);cases hvt:fK x.t
 ·rw[hfe]at HFW;rw[hvt]at HVA;clear hfe hvt;exact AB
 cases hfq:xY a
 ·rw[hfe]at HFW;rw[hvt]at HVA;rw[hfq]at HFA;clear hfe hvt hfq;exact AB
 obtain⟨ge,ch,hg1,hg2,hc1,hc2⟩:=HM.out hfe hvt hfq (HRB.out rfl) aA;rw[hfe]at HFW;rw[hvt]at HVA;rw[hfq]at HFA;have HG1:=aB hg1;have HG2:=aB hg2;have HC1:=aB hc1;have HC2:=aB hc2;clear hfe hvt hfq hg1 hg2 hc1 hc2 HM HRB HVA0;go_enter func4,ntmps4;go_upto_region 1 with fail
 generalize hw0:World.alloc _ _=w0;have hS:S w0:=XF;clear hw0;go_upto_region 3 with (first | (first | (refine ay rfl 32 _ rfl ⟨w.heap.size,0,none⟩ (.agg XT) rfl (LDT.out _ hS) ?_) | (go_big_want;refine iV 32 _ rfl ⟨w.heap.size,0,none⟩ (.agg XT) rfl (LDT.out _ hS) ?_;simp only[Act.put,aW])) | (first | (refine ay rfl 59 _ rfl ⟨w.heap.size+1,0,none⟩ (.agg XA) rfl (LDA.out _ hS) ?_) | (go_big_want;refine iV 59 _ rfl ⟨w.heap.size+1,0,none⟩ (.agg XA) rfl (LDA.out _ hS) ?_;simp only[Act.put,aW])) | ((first | (go_at_call 25;refine (HRG.out _ hS).mono ?_) | (go_at_call 10;refine (HFW.out _ hS).mono ?_) | (go_at_call 15;refine (HVA.out _ hS).mono ?_) | (go_at_call 26;refine (HFA.out _).mono ?_));(rintro e w' ⟨rfl,hb'⟩;replace hS:=HSK.out _ _ hS hb';clear hb')))
 have HSS:=aB (HSK.out _ _ hS (Below.drew (Below.refl _ _)));clear hS HRG HFW HVA HFA HS0;refine kV 26 aC aC aC (fun i=>[.bool true,.bool true,.slice A n c,.agg XT,.pointer (some ⟨w.heap.size+1,4,none⟩),.agg PV,.int .i64 ge,.slice A n c,.agg XT,.pointer (some ⟨w.heap.size+1,4,none⟩),.agg PV,.int .i64 ge,.bool true,.bool true,.bool true,.slice A n c,.agg XT,.agg XA,.int .i64 ch,.slice A n c,.agg XT,.agg XA,.int .i64 ch,.bool true,.bool true,.bool true].getD i undef) S HSS.out (fun _ _ h hb=>HSK.out _ _ h hb) ?_ ?_
 ·simp only[aX,List.take_succ_cons,List.take_zero,List.drop_succ_cons,List.drop_zero,Act.put,aW,ai];refine⟨fun W hS=>?_,fun W hS=>?_,fun W hS=>?_,fun W hS=>?_,fun W hS=>?_,fun W hS=>?_,fun W hS=>?_,fun W hS=>?_,fun W hS=>?_,fun W hS=>?_,fun W hS=>?_,fun W hS=>?_,fun W hS=>?_,fun W hS=>?_,fun W hS=>?_,fun W hS=>?_,fun W hS=>?_,fun W hS=>?_,fun W hS=>?_,fun W hS=>?_,fun W hS=>?_,fun W hS=>?_,fun W hS=>?_,fun W hS=>?_,fun W hS=>?_,fun W hS=>?_,trivial⟩;all_goals
   go_wp2_with (first
    | (refine ja aC 32 _ rfl ⟨w.heap.size,0,none⟩ (.agg XT) rfl (LDT.out _ hS) ?_)
    | (refine ja aC 59 _ rfl ⟨w.heap.size+1,0,none⟩ (.agg XA) rfl (LDA.out _ hS) ?_)
    | (refine ja aC 57 _ rfl ⟨w.heap.size+1,4,none⟩ (.agg PV) rfl (LDP.out _ hS) ?_)
    | (go_at_call 11;refine (HSA.out _ hS).mono ?_;rintro e w8 ⟨rfl,hb8⟩)
    | (go_at_call 27;refine (HG1.out _ hS).mono ?_;rintro e w8 ⟨rfl,hb8⟩)
    | (go_at_call 28;refine (HG2.out _ hS).mono ?_;rintro e w8 ⟨rfl,hb8⟩)
    | (go_at_call 29;refine (HC1.out _ hS).mono ?_;rintro e w8 ⟨rfl,hb8⟩)
    | (go_at_call 30;refine (HC2.out _ hS).mono ?_;rintro e w8 ⟨rfl,hb8⟩))
   exact⟨rfl,rfl,qp⟩
 intro wz hSz;simp only[aX,List.take_succ_cons,List.take_zero,List.drop_succ_cons,List.drop_zero,Act.put,aW,ai];have hbz:=HSB.out _ hSz;go_wp2;go_ret;exact⟨rfl,hbz⟩
end Go.Proofs.YtlkbkclnbppigaaGreatDoor
namespace Go.Proofs.YtlkbkclnbppigaaGreatDoor
open _root_.Go.Proofs.Tryz _root_.Go.Proofs.YtlkbkclnbppigaaGreatDoor.Tryz
open Go.RowKit Go.ChangeShapes Go.WideShapes
section
variable {H:Type} {enc:TypeId × Value->H} {P:Program}
def EU(P:Program)(ts:List TypeId):Bool:=ts.all fun t=>P.readableRec t&&decide (t<P.types.size)
theorem Jq(hl:laidOutB P=true){W W':World}(hb:Below W.heap.size W W')(sp:Nat->Bool) :
  ∀{ts:List TypeId}{vs:List Value}{ds:List (DataW H)}{ps:List MemPlace},EU P ts=true->DataW.TrodAll enc P W 0 (fun _=>true) true ts vs ds ps->(∀ x∈ps,x.block<W.heap.size)->(∀ x∈ps,sp x.block=true)->DataW.TrodAll enc P W' 0 sp true ts vs ds ps
 | [],vs,ds,ps,_,h,_,_=>by
  obtain⟨rfl,rfl,rfl⟩:=trodAll_nil h;exact trodAll_mk0
 | t :: ts,vs,ds,ps,hr,h,h1,h2=>by
  obtain⟨v,vs',d,ds',p,q,rfl,rfl,rfl,hv,hs⟩:=trodAll_cons h;simp only[EU,List.all_cons,Bool.and_eq_true,decide_eq_true_eq]at hr;exact trodAll_cons_mk (WideElems.Trod_stays hl hr.1.1 hr.1.2 hv (fun x hx=>hb.same (h1 x dL)) (fun x hx=>h2 x dL))
   (Jq hl hb sp (by simpa[EU] using hr.2) hs (fun x hx=>h1 x dL) (fun x hx=>h2 x dL))
theorem XG{t:TypeId}{W:World}{b:Nat}{sp:Nat->Bool}{hd:Bool}(ht:P.underlying t=some .bool)(x:Bool):DataW.TrodAll enc P W b sp hd [t] [.bool x] [.lit (.bool x)] []:=trodAll_mk1 (shut_bool ht x)
theorem aKn{f:Func}{s:ChangeSpec}{apart fresh handsOn again:Bool}{W W':World}{args:Array Value}{ds gs:List (DataW H)}{before:List MemPlace}{t:TypeId}
  (hW:DataW.Whole enc P f.params.toList s.vars apart W args.toList ds gs before) (hvars:s.vars=[]) (hl:laidOutB P=true) (hrow:EU P f.params.toList=true) (hres:f.resultTypes=#[t]) (ht:P.underlying t=some .bool)
  (hfn:s.fn H (ds++gs)={ results:=[.lit (.bool true)],args:=ds }) (hb:Below W.heap.size W W'):s.post enc P f apart fresh handsOn again W args (.bool true) W':=by
 have hlt:∀ x∈before,x.block<W.heap.size:=fun x hx=>hW.lt x hx
 have hW0:=hW;obtain⟨p,q,hA,hV,hp,hfz,hnd⟩:=hW;rw[hvars]at hV;obtain⟨rfl,rfl⟩:=trodVars_none hV;rw[List.append_nil]at hp;subst hp;have hr1:(Value.bool true).resultList f.resultTypes.size=[.bool true]:=by rw[hres];rfl
 have hr2:f.resultTypes.toList=[t]:=by rw[hres]
 have hvs:∀ sp,DataW.TrodVars enc P W' sp s.vars [] []:=fun sp=>by rw[hvars];rfl
 refine⟨ds,[],before,[],before,[],hW0,?_,?_,?_,?_,fun _=>⟨?_,.lit (.bool true) :: ds,[],before,?_,fun x hx _=>hx⟩⟩
 ·rw[hfn,hr1,hr2];exact XG ht true
 ·rw[hfn];exact Jq hl hb _ hrow hA hlt (fun x hx=>by simpa using hlt x hx)
 ·rw[hfn];exact hvs _
 ·exact World.keptBut_mono (fun x hx=>⟨hx,.inr (.inl hx)⟩) (hb.frame (·∈before))
 ·exact ok_one hres rfl (okWide_bool_mk ht true)
 ·refine⟨before,[],?_,hvs _,aF,?_,hnd⟩
  ·rw[hr1,hr2];have:=trodAll_append (Jq hl hb (fun _=>true) hrow hA hlt (fun _ _=>rfl)) (XG (enc:=enc) (P:=P) (W:=W') (b:=0) (sp:=fun _=>true) (hd:=true) ht true);simpa using this
  ·intro b off hx;rw[hb.frozen (hlt _ hx)];exact hfz b off hx
end
end Go.Proofs.YtlkbkclnbppigaaGreatDoor
namespace Go.Proofs.YtlkbkclnbppigaaGreatDoor
open _root_.Go.Proofs.Tryz _root_.Go.Proofs.YtlkbkclnbppigaaGreatDoor.Tryz
open Go.ChangeShapes Go.WideShapes Go.ChangeAt Go.RowKit Go.ChangeMaps
theorem own:ownKnob prog.godebug=none:=by kernel_rfl
theorem aKo:laidOutB prog=true:=by kernel_rfl
theorem aQd{W:World}(h:W.ShapedOpen prog):Env W :=
 Go.Proofs.cell_of_shapedOpen_int (zero:=#[.int .i64 0]) (t:=3) h (of_decide_eq_true aC) aC rfl aC aC underlying3
def uy(k:IntKind)(l:List Nat):Obj->Obj
 | .cells _ t frozen=>.cells (l.map fun (n:Nat)=>Value.int k (n:Int)).toArray t frozen
 | o=>o
def aQe:List Nat:=[0,1,28,2,29,14,24,3,30,22,20,15,25,17,4,8,31,27,13,23,21,19,16,7,26,12,18,6,11,5,10,9]
def aQf:List Nat:=[0,1,56,2,57,49,28,3,61,58,42,50,38,29,17,4,62,47,59,36,45,43,51,22,53,39,33,30,24,18,12,5,63,55,48,27,60,41,37,16,46,35,44,21,52,32,23,11,54,26,40,15,34,20,31,10,25,14,19,9,13,8,7,6]
def aQg:List Nat:=[1,10,100,1000,10000,100000,1000000,10000000,100000000,1000000000,10000000000,100000000000,1000000000000,10000000000000,100000000000000,1000000000000000,10000000000000000,100000000000000000,1000000000000000000,10000000000000000000]
noncomputable def EW (os:Os):World :=
 { World.holding prog os ⟨#[],#[],[]⟩ with heap:=(((((World.holding prog os ⟨#[],#[],[]⟩).heap.modify 8 (uy .u8 aQe)).modify 9 (uy .u8 aQf)).modify 3 (uy .u64 aQg)).modify 7 (uy .u8 ([128,191,160,191,128,159,144,191,128,143]++List.replicate 22 0))).modify 6 (uy .u8 Go.Pinned.utf8FirstZ) }
theorem aQh:(Rows.laid_internal_strconv_uint64pow10:DataW Unit)=Lib.tabData .u64 Lib.pow10Tab:=by kernel_rfl
theorem aQi{W:World}{d1 d2:DataW Unit}{n1 n2:String}{rest:List (String × DataW Unit)}(h:laidMet prog ((n1,d1) :: (n2,d2) :: ("internal/strconv.uint64pow10", Rows.laid_internal_strconv_uint64pow10) :: rest) W):Tab W:=by
 have h2:=laidMet.tail (laidMet.tail h);rw[aQh]at h2;exact Lib.tabIs_of_head (g:=3) aC aC underlying314 underlying150 aC aC h2
theorem XH : "*" ++ "errors.errorString" = "*errors.errorString" := by decide
theorem XI(u:TypeId)(h:prog.typeName? 3 u=some "*errors.errorString"):u=339 :=
 typeName_ptr_named (nm := "errors.errorString") (by rw[XH];kernel_rfl) aC aK u (by rw[XH];exact h)
def XJ(n:Nat):Obj->Obj
 | .cells _ t frozen=>.cells #[.iface 339 (.pointer (some ⟨n,0,none⟩))] t frozen
 | o=>o
noncomputable def JH (os:Os):World :=
 { EW os with heap:=((((((EW os).heap.modify 0 (uy .u32 Sha.ks)).modify 1 (uy .u32 Sha.ks)).modify 5 (XJ (EW os).heap.size)).modify 4 (XJ ((EW os).heap.size+1))).push (.cells #[.string (⟨#[118,97,108,117,101,32,111,117,116,32,111,102,32,114,97,110,103,101]⟩:ByteArray)] 341)).push (.cells #[.string (⟨#[105,110,118,97,108,105,100,32,115,121,110,116,97,120]⟩:ByteArray)] 341) }
def ksI:List Int:=Sha.ks.map fun n:Nat=>(n:Int)
theorem aQj:(Rows.laid_weirgate_hash_constants:DataW Unit)=Lib.tabData .u32 ksI:=by kernel_rfl
theorem aQk{W:World}(h:Lib.TabIs prog W "weirgate/hash.constants" .u32 ksI):Ks W:=by
 unfold Lib.TabIs World.var? at h;rw[show prog.globalNamed "weirgate/hash.constants" = some 0 by kernel_rfl]at h;exact XM
theorem aQl{W:World}{rest:List (String × DataW Unit)}(h5:laidMet prog (("strconv.ErrRange", Rows.laid_strconv_ErrRange) :: ("strconv.ErrSyntax", Rows.laid_strconv_ErrSyntax) :: ("weirgate/hash.constants", Rows.laid_weirgate_hash_constants) :: rest) W):jr W/\5<W.heap.size/\Ks W:=by
 have h6:=laidMet.tail h5;have h7:=laidMet.tail h6;obtain⟨a1,s1,v1,_,_,_⟩:=laid_sentinel (g:=5) (ti:=177) (tp:=339) (te:=341) (ts:=9) h5 aC aC underlying177 XI underlying339 underlying341 rfl rfl underlying9 aC aC;obtain⟨a2,s2,v2,_,_,_⟩:=laid_sentinel (g:=4) (ti:=177) (tp:=339) (te:=341) (ts:=9) h6 aC aC underlying177 XI underlying339 underlying341 rfl rfl underlying9 aC aC;have c1:=World.var?_cell (g:=5) aC v1 0;have c2:=World.var?_cell (g:=4) aC v2 0;rw[aQj]at h7;have hk:=aQk (Lib.tabIs_of_head (g:=0) aC aC underlying265 underlying147 aC aC h7);refine⟨⟨⟨_,c2,.inr ⟨_,_,rfl⟩⟩,_,c1,.inr ⟨_,_,rfl⟩⟩,?_,hk⟩;have:=bf c1;have:=bf c2;omega
theorem aQm:(Rows.laid_weirgate_weirgateref02_constants:DataW Unit)=Lib.tabData .u32 ksI:=by kernel_rfl
theorem aQn{W:World}(h:Lib.TabIs prog W "weirgate/weirgateref02.constants" .u32 ksI):Ks2 W:=by
 unfold Lib.TabIs World.var? at h;rw[show prog.globalNamed "weirgate/weirgateref02.constants" = some 1 by kernel_rfl]at h;exact XM
theorem aKm{W:World}{d1 d2 d4:DataW Unit}{n1 n2 n4:String}{rest:List (String × DataW Unit)}(hS:W.ShapedOpen prog)(h:laidMet prog ((n1,d1) :: (n2,d2) :: ("internal/strconv.uint64pow10", Rows.laid_internal_strconv_uint64pow10) :: (n4,d4) :: ("weirgate/weirgateref02.constants", Rows.laid_weirgate_weirgateref02_constants) :: ("strconv.ErrRange", Rows.laid_strconv_ErrRange) :: ("strconv.ErrSyntax", Rows.laid_strconv_ErrSyntax) :: ("weirgate/hash.constants", Rows.laid_weirgate_hash_constants) :: rest) W):iT W/\Ks2 W:=by
 have h4:=laidMet.tail (laidMet.tail (laidMet.tail (laidMet.tail h)));have h5:=aQl (laidMet.tail h4);rw[aQm]at h4;exact⟨⟨aQd hS,aQi h,h5.2.2,h5.1,h5.2.1⟩,aQn (Lib.tabIs_of_head (g:=1) aC aC underlying265 underlying147 aC aC h4)⟩
end Go.Proofs.YtlkbkclnbppigaaGreatDoor
namespace Go.Proofs.YtlkbkclnbppigaaGreatDoor
open _root_.Go.Proofs.Tryz _root_.Go.Proofs.YtlkbkclnbppigaaGreatDoor.Tryz
open Go.RowKit Go.Sort
set_option linter.unusedVariables false
set_option linter.unusedSimpArgs false
set_option maxRecDepth 100000
theorem aQo:prog.cellsOf 9=1:=by kernel_rfl
theorem XP:prog.cellsOf 3=1:=by kernel_rfl
theorem aQp:prog.cellsOf 27=7:=by kernel_rfl
theorem aQq:prog.cellsOf 59=6:=by kernel_rfl
theorem AC{α:Type}{p:Nat->α->Prop}:∀ n:Nat,(∀ i,i<n->∃ x,p i x)->∃ l:List α,l.length=n/\∀ i x,l[i]? = some x->p i x
 | 0,_=>⟨[],rfl,fun i x h=>mW⟩
 | n+1,h=>by
  obtain⟨l,h1,h2⟩:=AC n (fun i hi=>h i aA);obtain⟨x,hx⟩:=h n aA;refine⟨l++[x],uk,fun i y hy=>?_⟩;rw[List.getElem?_append]at hy;split at hy
  ·exact h2 i y hy
  ·rename_i hn;have hlt:=(List.getElem?_eq_some_iff.1 hy).1;simp at hlt;have:i=n:=aA;subst this;rw[h1]at hy;simp at hy;subst hy;exact hx
theorem Jr{w:World}{a:Addr}{v:Value}(h:w.cell? (a.add 0)=some v):∃ b o,a=⟨b,o,none⟩:=by
 obtain⟨b,o,s⟩:=a;refine⟨b,o,?_⟩;have e:(⟨b,o,s⟩:Addr).add 0=⟨b,o,s⟩:=by simp[Addr.add]
 rw[e]at h;cases s with
 | none=>rfl
 | some s =>
  unfold World.cell? at h;split at h <;> simp at h
theorem EX(b o j:Nat):(⟨b,o,none⟩:Addr).add j=⟨b,o+j,none⟩:=by
 unfold Addr.add;split <;> simp_all
section
variable {H:Type} {enc:TypeId × Value->H} {W:World} {base:Nat} {sp:Nat->Bool} {hd:Bool}
theorem XQ{fuel:Nat}{v:Value}{x:DataW H × List MemPlace}(h:DataW.trod enc prog W base sp hd fuel 24 [v]=some x):∃(A:Option Addr)(n c:Nat)(xs:List ByteArray),v=.slice A n c/\xs.length=n/\aH W 1 A n (xs.map .string):=by
 rcases Go.Deep.open_slice underlying24 h with ⟨h0,_⟩ | ⟨a,len,cap,m,n,D,Pl,hcs,hb,hl,hm,hmm,hx,hi⟩
 ·exact XR
 ·injection hcs with hcs
  subst hcs;have hlm:len<=m:=by rw[hmm];split <;> omega
  obtain⟨xs,h1,h2⟩:=AC (p:=fun i (s:ByteArray)=>W.cell? (a.add i)=some (.string s)) len (fun i hil=>by
   obtain⟨cs',hc,ht⟩:=hi i aA;rw[aQo,Nat.mul_one]at hc;obtain⟨s,rfl,_,hs⟩:=DataW.trod_string underlying9 ht;have:=(World.cells?_some hc).2.2 0 aA;exact⟨s,by simpa[Addr.add] using this⟩)
  refine⟨some a,len,cap,xs,rfl,h1,⟨uk,fun hn=>?_⟩⟩;obtain⟨s0,hs0⟩:∃ s,xs[0]? = some s:=⟨_,List.getElem?_eq_getElem aA⟩;obtain⟨b,o,rfl⟩:=Jr (h2 0 s0 hs0);refine⟨b,o,rfl,fun j u hu=>?_⟩;obtain⟨s,hs,rfl⟩:=qI hu;rw[<-EX];exact h2 j s hs
theorem aQr{fuel:Nat}{v:Value}{x:DataW H × List MemPlace}(h:DataW.trod enc prog W base sp hd fuel 25 [v]=some x):∃(A:Option Addr)(n c:Nat)(xs:List Int),v=.slice A n c/\xs.length=n/\aH W 1 A n (xs.map (.int .i64)):=by
 rcases Go.Deep.open_slice underlying25 h with ⟨h0,_⟩ | ⟨a,len,cap,m,n,D,Pl,hcs,hb,hl,hm,hmm,hx,hi⟩
 ·exact XR
 ·injection hcs with hcs
  subst hcs;have hlm:len<=m:=by rw[hmm];split <;> omega
  obtain⟨xs,h1,h2⟩:=AC (p:=fun i (s:Int)=>W.cell? (a.add i)=some (.int .i64 s)) len (fun i hil=>by
   obtain⟨cs',hc,ht⟩:=hi i aA;rw[XP,Nat.mul_one]at hc;obtain⟨s,rfl,_,hs⟩:=DataW.trod_int underlying3 ht;have:=(World.cells?_some hc).2.2 0 aA;exact⟨s,by simpa[Addr.add] using this⟩)
  refine⟨some a,len,cap,xs,rfl,h1,⟨uk,fun hn=>?_⟩⟩;obtain⟨s0,hs0⟩:∃ s,xs[0]? = some s:=⟨_,List.getElem?_eq_getElem aA⟩;obtain⟨b,o,rfl⟩:=Jr (h2 0 s0 hs0);refine⟨b,o,rfl,fun j u hu=>?_⟩;obtain⟨s,hs,rfl⟩:=aLx hu;rw[<-EX];exact h2 j s hs
theorem aQs{fuel:Nat}{cs:List Value}{x:DataW H × List MemPlace}(hl:cs.length=2)(h:DataW.trod enc prog W base sp hd fuel 57 cs=some x):∃ k v:Int,cs=[.int .i64 k,.int .i64 v]:=by
 obtain⟨ys,n',hn',hy,hlen,hyl,hf⟩:=DataW.trod_struct underlying57 h
 match cs,hl with
 | [c0,c1],_ =>
  have h0:DataW.trod enc prog W base sp hd n' 3 (List.take (prog.cellsOf 3) (List.drop 0 [c0,c1]))=ys[0]?:=hf 0 _ rfl;have h1:DataW.trod enc prog W base sp hd n' 3 (List.take (prog.cellsOf 3) (List.drop 1 [c0,c1]))=ys[1]?:=hf 1 _ rfl;rw[XP]at h0 h1;simp only[List.drop_zero,List.drop_succ_cons,List.take_succ_cons,List.take_zero]at h0 h1;have hyl2:ys.length=2:=hyl;have e0:ys[0]? = some (ys[0]' aA):=List.getElem?_eq_getElem aA;have e1:ys[1]? = some (ys[1]' aA):=List.getElem?_eq_getElem aA;rw[e0]at h0;rw[e1]at h1;obtain⟨k,hk,_⟩:=DataW.trod_int underlying3 h0;obtain⟨v,hv,_⟩:=DataW.trod_int underlying3 h1;injection hk with hk
  injection hv with hv
  exact⟨k,v,by rw[hk,hv]⟩
theorem aKk{r:Reach}{b0:Nat}{v:Value}{d:DataW H}{ps:List MemPlace}(hval:Value.okWide prog W r b0 59 v)(h:DataW.Trod enc prog W base sp hd 59 v d ps) :
  ∃ a:bn,v=bn.val a:=by
 obtain⟨cs,rfl,hsz⟩:=Go.WideShapes.okWide_struct underlying59 hval;obtain⟨l⟩:=cs
 match l,hsz.trans aQq with
 | [c0,c1,c2,c3,c4,c5],_ =>
  obtain⟨fuel,hf⟩:=h;obtain⟨ys,n',hn',hy,hlen,hyl,hg⟩:=DataW.trod_struct underlying59 hf;have hyl2:ys.length=5:=hyl;have h0:DataW.trod enc prog W base sp hd n' 9 [c0]=ys[0]?:=hg 0 _ rfl;have h1:DataW.trod enc prog W base sp hd n' 9 [c1]=ys[1]?:=hg 1 _ rfl;have h2:DataW.trod enc prog W base sp hd n' 9 [c2]=ys[2]?:=hg 2 _ rfl;have h3:DataW.trod enc prog W base sp hd n' 3 [c3]=ys[3]?:=hg 3 _ rfl;have h4:DataW.trod enc prog W base sp hd n' 57 [c4,c5]=ys[4]?:=hg 4 _ rfl;rw[List.getElem?_eq_getElem aA]at h0 h1 h2 h3 h4;obtain⟨ad,e0,_⟩:=DataW.trod_string underlying9 h0;obtain⟨kl,e1,_⟩:=DataW.trod_string underlying9 h1;obtain⟨ko,e2,_⟩:=DataW.trod_string underlying9 h2;obtain⟨st,e3,_⟩:=DataW.trod_int underlying3 h3;obtain⟨lo,hi,e4⟩:=aQs rfl h4;injection e0 with e0
  injection e1 with e1
  injection e2 with e2
  injection e3 with e3
  injection e4 with e4 e5
  injection e5 with e5
  subst e0;subst e1;subst e2;subst e3;subst e4;subst e5;exact⟨⟨ad,kl,ko,st,lo,hi⟩,rfl⟩
end
end Go.Proofs.YtlkbkclnbppigaaGreatDoor
