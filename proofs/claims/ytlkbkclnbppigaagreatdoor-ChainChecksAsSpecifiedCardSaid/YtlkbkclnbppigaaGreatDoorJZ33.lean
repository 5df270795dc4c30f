/- chain.Mint. -/
import Derived.Test.YtlkbkclnbppigaaGreatDoorJZ31
set_option maxHeartbeats 16000000
namespace Go.Proofs.YtlkbkclnbppigaaGreatDoor
open Tryz
open Go.RowKit Go.Sort
set_option linter.unusedVariables false
set_option linter.unusedSimpArgs false
set_option maxRecDepth 100000
def kT(t:dB)(er:Int)(w:World)(e:Ending)(w':World):Prop:=Below w.heap.size w w'/\∃ y:ag,e=.returned (.tuple #[y.val,.int .i64 er])/\bV w' y/\y.t=t
def wS(t:dB)(er:Int)(L:List CoM)(w:World)(e:Ending)(w':World):Prop:=Below w.heap.size w w'/\∃ y:ag,e=.returned (.tuple #[y.val,.int .i64 er])/\bV w' y/\y.t=t/\(er=0->y.L=L/\∀ a,y.A=some a->w.heap.size<=a.block)
theorem wS.weak{t:dB}{er:Int}{L:List CoM}{w w':World}{e:Ending}(h:wS t er L w e w'):kT t er w e w':=⟨h.1,h.2.elim fun y hy=>⟨y,hy.1,hy.2.1,hy.2.2.1⟩⟩
theorem nN:(prog.info? 32).map (·.size)=some 20:=by kernel_rfl
theorem H8(cust ser:Int)(id:ByteArray)(A:Option Addr)(n c:Nat)(s:List Nat)(hs:s.length=16):(dA cust ser id A n c s).toArray.size=20:=by
 unfold dA;rw[List.size_toArray,List.length_append,dH,hs];rfl
theorem pX(cust ser:Int)(id:ByteArray)(A:Option Addr)(n c:Nat)(s:List Nat):(dA cust ser id A n c s).toArray.all (·.oneCell')=true:=by
 unfold dA;rw[List.all_toArray,List.all_append,List.all_eq_true.2 (mQ s)];rfl
theorem aGf(a b:Int)(id:ByteArray)(g:Nat):(#[.int .i64 a,.int .i64 b,.string id,.slice (some ⟨g,0,none⟩) 1 1,.int .u8 0,.int .u8 0,.int .u8 0,.int .u8 0,.int .u8 0,.int .u8 0,.int .u8 0,.int .u8 0,.int .u8 0,.int .u8 0,.int .u8 0,.int .u8 0,.int .u8 0,.int .u8 0,.int .u8 0,.int .u8 0]:Array Value).all (·.oneCell')=true:=pX a b id (some ⟨g,0,none⟩) 1 1 gq
def zL:ag:=⟨jV,none,0,[]⟩
theorem DF(w:World):bV w zL:=⟨rfl,⟨rfl,aH.nil_ _ _ _,fun x hx=>by cases hx⟩,Px,Nat.le_refl _⟩
theorem Sm{W:World}{y:CoM}{g:Nat}(h:aQ W g 27 y.cells.toArray):aH W 7 (some ⟨g,0,none⟩) 1 ([y].flatMap CoM.cells):=by
 refine⟨rfl,fun _=>⟨_,_,rfl,fun j u hu=>?_⟩⟩;rw[Nat.zero_add,cell_of_row _ _ _ _ _ _ h];simpa using hu
theorem Ef(cust ser:Int)(id:ByteArray)(A:Option Addr)(n c:Nat)(z s:List Nat)(hz:z.length=16)(hs:s.length=16):splice (dA cust ser id A n c z) 4 (b8 s)=dA cust ser id A n c s:=by
 unfold splice dA;have h1:(b8 z).length=16:=by rw[dH,hz]
 have h2:(b8 s).length=16:=by rw[dH,hs]
 simp[h2,h1]
structure MiS(w:World)(K ZT:Array Value)(g:Nat)(X:Array Value)(cg:Nat)(Y:Array Value)(W:World):Prop where
 k:aQ W w.heap.size 23 K
 r:aQ W (w.heap.size+2) 32 ZT
 t:aQ W g 32 X
 c:aQ W cg 27 Y
 b:Below w.heap.size w W
 s:w.heap.size+2<W.heap.size
theorem MiS.keep{w W W':World}{K Z X Y:Array Value}{g cg:Nat}(h:MiS w K Z g X cg Y W)(hb:Below W.heap.size W W'):MiS w K Z g X cg Y W':=⟨h.k.keep hb,h.r.keep hb,h.t.keep hb,h.c.keep hb,aN h.b hb,Nat.lt_of_lt_of_le h.s hb.size⟩
theorem aGg(k:aY)(id:ByteArray)(c:aZ)(m:af)(w:World)(hR:bz w c m)(hf:dG c)(htx:bG c=true->(bF c).size<=1000000)(hk:k.secret.size<=1000000)(hid:id.size<=1000000)(hK:Ks w)(hE:Env w)(hTb:Tab w) :
  Calls prog 12 #[k.val,.string id,af.val c m] w (wS (lX k id c).1 (lX k id c).2 [⟨c,m⟩] w):=by
 have hsv:=fun W=>aDn k W
 have hld0:=fun (W:World) (h:aQ W w.heap.size 23 k.arr)=>jM h lL
 obtain⟨R,hRR⟩:∃ R,R=wS (lX k id c).1 (lX k id c).2 [⟨c,m⟩] w:=⟨_,rfl⟩;rw[<-hRR];have HRR:=aB hRR;clear hRR;rw[aY.val_arr]at hsv ⊢;have hk0:k.arr[0]? = some (.int .i64 k.party):=rfl;have hk1:k.arr[1]? = some (.int .i64 k.ser):=rfl;obtain⟨KX,hKX⟩:∃ KX,KX=k.arr:=⟨_,rfl⟩;rw[<-hKX]at hsv hld0 hk0 hk1 ⊢;have HSV:=aB hsv;have HLD0:=aB hld0;have HKX:=aB hKX;clear hsv hld0 hKX;unfold af.val;have HONE:=aB aGf;go_enter func12,ntmps12;go_upto_region 1 with fail
 generalize hw0:World.alloc _ _=w0;have hkb:aQ w0 w.heap.size 23 KX:=by rw[<-hw0];exact (iU w _ _ _).1
 have hcb:aQ w0 (w.heap.size+1) 27 #[.int .i64 c.fr,.int .i64 c.till,.string c.pat,.slice m.A c.cl.length m.ca,.slice m.B c.co.length m.cb,.slice m.S c.si.length m.cs,.int .i64 c.us]:=by rw[<-hw0];exact (iU w _ _ _).2.1
 have hrb:aQ w0 (w.heap.size+2) 32 (#[.int .i64 0,.int .i64 0,.string ⟨#[]⟩,.slice none 0 0,.int .u8 0,.int .u8 0,.int .u8 0,.int .u8 0,.int .u8 0,.int .u8 0,.int .u8 0,.int .u8 0,.int .u8 0,.int .u8 0,.int .u8 0,.int .u8 0,.int .u8 0,.int .u8 0,.int .u8 0,.int .u8 0]:Array Value):=by rw[<-hw0];exact (iU w _ _ _).2.2
 have hb0:Below w.heap.size w w0:=mP;have hz0:w0.heap.size=w.heap.size+3:=uf;have q0:=hkb.cell hk0;have q1:=hkb.cell hk1;have hldc:=jZ hcb rfl;have HZ0:=aB hz0;have hzl:w.heap.size<w0.heap.size:=aA;clear hw0 hk0 hk1 hz0;go_upto_region 2 with (first
  | (refine ay rfl 27 _ rfl ⟨w.heap.size+1,0,none⟩ _ rfl hldc ?_)
  | (refine wpList_store_row rfl 32 _ _ rfl (w0.heap.size+1) #[.int .i64 k.party,.int .i64 k.ser,.string id,.slice (some ⟨w0.heap.size,0,none⟩) 1 1,.int .u8 0,.int .u8 0,.int .u8 0,.int .u8 0,.int .u8 0,.int .u8 0,.int .u8 0,.int .u8 0,.int .u8 0,.int .u8 0,.int .u8 0,.int .u8 0,.int .u8 0,.int .u8 0,.int .u8 0,.int .u8 0] rfl rfl _ (#[.int .i64 0,.int .i64 0,.string ⟨#[]⟩,.slice none 0 0,.int .u8 0,.int .u8 0,.int .u8 0,.int .u8 0,.int .u8 0,.int .u8 0,.int .u8 0,.int .u8 0,.int .u8 0,.int .u8 0,.int .u8 0,.int .u8 0,.int .u8 0,.int .u8 0,.int .u8 0,.int .u8 0]:Array Value) (heap_alloc2_new w0 _ _) nN rfl (HONE.out _ _ _ _) ?_))
 generalize (Value.agg #[.int .i64 k.party,.int .i64 k.ser,.string id,.slice (some ⟨w0.heap.size,0,none⟩) 1 1,.int .u8 0,.int .u8 0,.int .u8 0,.int .u8 0,.int .u8 0,.int .u8 0,.int .u8 0,.int .u8 0,.int .u8 0,.int .u8 0,.int .u8 0,.int .u8 0,.int .u8 0,.int .u8 0,.int .u8 0,.int .u8 0])=v16;generalize hw1:World.setRow _ _ _=w1;obtain⟨y,hy⟩:∃ y:CoM,y=⟨c,m⟩:=⟨_,rfl⟩;obtain⟨x,hx⟩:∃ x:ag,x=⟨⟨k.party,k.ser,id,[c],gq⟩,some ⟨w0.heap.size,0,none⟩,1,[y]⟩:=⟨_,rfl⟩;have hb01:Below w0.heap.size w0 w1:=by rw[<-hw1];exact below_setRow (aU (aU (Below.refl _ _) _) _) aA _
 have hXc:x.cells.toArray=#[.int .i64 k.party,.int .i64 k.ser,.string id,.slice (some ⟨w0.heap.size,0,none⟩) 1 1,.int .u8 0,.int .u8 0,.int .u8 0,.int .u8 0,.int .u8 0,.int .u8 0,.int .u8 0,.int .u8 0,.int .u8 0,.int .u8 0,.int .u8 0,.int .u8 0,.int .u8 0,.int .u8 0,.int .u8 0,.int .u8 0]:=by rw[hx];rfl
 have htb:aQ w1 (w0.heap.size+1) 32 x.cells.toArray:=by rw[<-hw1,hXc];exact setRow_heap _ _ _ _ _ _ (heap_alloc2_new w0 _ _)
 have hcb1:aQ w1 w0.heap.size 27 y.cells.toArray:=by
  have h1:aQ (w0.alloc (.cells #[.int .i64 c.fr,.int .i64 c.till,.string c.pat,.slice m.A c.cl.length m.ca,.slice m.B c.co.length m.cb,.slice m.S c.si.length m.cs,.int .i64 c.us] 27)) w0.heap.size 27 y.cells.toArray:=by rw[hy];exact heap_alloc_new w0 _
  refine h1.keep ?_;rw[<-hw1];exact below_setRow (fD _ _) aF _
 have hcr:=Sm hcb1;have hbw1:Below w.heap.size w w1:=aN hb0 hb01;have hTR:bV w1 x:=by
  rw[hx];refine⟨by rw[hy];rfl,⟨rfl,hcr,fun z hz=>?_⟩,Px,Nat.le_refl _⟩;rw[List.mem_singleton.1 hz,hy];exact hR.keep hbw1
 have hS1:MiS w KX (#[.int .i64 0,.int .i64 0,.string ⟨#[]⟩,.slice none 0 0,.int .u8 0,.int .u8 0,.int .u8 0,.int .u8 0,.int .u8 0,.int .u8 0,.int .u8 0,.int .u8 0,.int .u8 0,.int .u8 0,.int .u8 0,.int .u8 0,.int .u8 0,.int .u8 0,.int .u8 0,.int .u8 0]:Array Value) (w0.heap.size+1) x.cells.toArray w0.heap.size y.cells.toArray w1:=⟨hkb.keep hb01,hrb.keep hb01,htb,hcb1,hbw1,by have:=HZ0.out;have:=hb01.size;omega⟩;have hfL:∀ z∈x.L,dG z.c:=by
  intro z hz;rw[hx]at hz;rw[List.mem_singleton.1 hz,hy];exact hf
 have hxt:x.t=⟨k.party,k.ser,id,[c],gq⟩:=by rw[hx]
 have hxA:x.A=some ⟨w0.heap.size,0,none⟩/\x.c=1:=by rw[hx];exact⟨rfl,rfl⟩
 have htv:=fun (W:World) (hb:Below w1.heap.size w1 W)=>CZ x W (hTR.keep hb) hfL (by rw[hxt];show id.size<=_;omega) (by rw[hxt];show 1<=_;omega) (hE.keep (aN hbw1 hb))
 have hXS:x.cells.toArray.size=20:=by rw[List.size_toArray];exact hTR.size
 obtain⟨g,hg⟩:∃ g,g=w0.heap.size+1:=⟨_,rfl⟩;rw[<-hg]at hS1 ⊢;have hgg:w.heap.size+3<=g/\w0.heap.size<g/\w.heap.size+2<w0.heap.size:=by have:=HZ0.out;omega
 clear hg;have hmint:lX k id c=if jG k&&fK x.t then (⟨k.party,k.ser,id,[c],fA k x.t⟩,0) else (jV,1):=by unfold lX;rw[hxt]
 have hzon:((#[.int .i64 0,.int .i64 0,.string ⟨#[]⟩,.slice none 0 0,.int .u8 0,.int .u8 0,.int .u8 0,.int .u8 0,.int .u8 0,.int .u8 0,.int .u8 0,.int .u8 0,.int .u8 0,.int .u8 0,.int .u8 0,.int .u8 0,.int .u8 0,.int .u8 0,.int .u8 0,.int .u8 0]:Array Value):Array Value).all (·.oneCell')=true:=pX 0 0 ⟨#[]⟩ none 0 0 gq;have HZON:=aB hzon;have HXS:=aB hXS;have HS1:=aB hS1;have HMI:=aB hmint;clear hzon hXS hS1 hmint hXc htb hcr hcb1 hkb hcb hrb hb0 hb01 hldc q0 q1 hzl hw1;have hldt1:=eQ HS1.out.t HXS.out;have hldk1:=HLD0.out w1 HS1.out.k;have HX:=aB hx;have HYY:=aB hy;clear hx hy;cases hv1:jG k
 ·have e1:lX k id c=(jV,1):=by rw[HMI.out,hv1];rfl
  have HE1:=aB e1;rw[hv1]at HSV;clear e1 HMI htv hv1 hE hTb hK hTR hfL hxt hxA;go_wp2_with (first | (refine ay rfl 23 _ rfl ⟨w.heap.size,0,none⟩ (.agg KX) rfl hldk1 ?_) | (go_at_call 43;refine (HSV.out _).mono ?_;rintro e w2 ⟨rfl,hb2⟩;have HS2:=aB (HS1.out.keep hb2);have HL2:=aB (eQ (HS1.out.keep hb2).t HXS.out)) | (refine wpList_store_row rfl 32 _ _ rfl (w.heap.size+2) (#[.int .i64 0,.int .i64 0,.string ⟨#[]⟩,.slice none 0 0,.int .u8 0,.int .u8 0,.int .u8 0,.int .u8 0,.int .u8 0,.int .u8 0,.int .u8 0,.int .u8 0,.int .u8 0,.int .u8 0,.int .u8 0,.int .u8 0,.int .u8 0,.int .u8 0,.int .u8 0,.int .u8 0]:Array Value) rfl rfl _ (#[.int .i64 0,.int .i64 0,.string ⟨#[]⟩,.slice none 0 0,.int .u8 0,.int .u8 0,.int .u8 0,.int .u8 0,.int .u8 0,.int .u8 0,.int .u8 0,.int .u8 0,.int .u8 0,.int .u8 0,.int .u8 0,.int .u8 0,.int .u8 0,.int .u8 0,.int .u8 0,.int .u8 0]:Array Value) HS2.out.r nN rfl HZON.out ?_));refine bodyPost_ret (v:=.tuple #[.agg (#[.int .i64 0,.int .i64 0,.string ⟨#[]⟩,.slice none 0 0,.int .u8 0,.int .u8 0,.int .u8 0,.int .u8 0,.int .u8 0,.int .u8 0,.int .u8 0,.int .u8 0,.int .u8 0,.int .u8 0,.int .u8 0,.int .u8 0,.int .u8 0,.int .u8 0,.int .u8 0,.int .u8 0]:Array Value),.int .i64 1]) ?_ rfl ?_
  ·exact uX rfl _ _ (w.heap.size+2) _ _ rfl rfl (eQ (setRow_heap _ _ _ _ _ _ HS2.out.r) rfl)
  ·rw[HRR.out,HE1.out];exact⟨below_setRow HS2.out.b aA _,zL,rfl,DF _,rfl,fun h=>absurd h aK⟩
 rw[hv1]at HSV;cases hv2:fK x.t
 ·have e1:lX k id c=(jV,1):=by rw[HMI.out,hv1,hv2];rfl
  have HE1:=aB e1;rw[hv2]at htv;have HTV:=aB htv;clear e1 HMI htv hv1 hv2 hE hTb hK hTR hfL hxt hxA;go_wp2_with (first | (refine ay rfl 23 _ rfl ⟨w.heap.size,0,none⟩ (.agg KX) rfl hldk1 ?_) | (go_at_call 43;refine (HSV.out _).mono ?_;rintro e w2 ⟨rfl,hb2⟩;have HS2:=aB (HS1.out.keep hb2);have HL2:=aB (eQ (HS1.out.keep hb2).t HXS.out)) | (go_big_want;refine iV 32 _ rfl ⟨g,0,none⟩ (.agg x.cells.toArray) rfl HL2.out ?_;simp only[Act.put,aW]) | (go_at_call 14;refine (HTV.out _ hb2).mono ?_;rintro e w3 ⟨rfl,hb3⟩;have HS3:=aB (HS2.out.keep hb3)) | (refine wpList_store_row rfl 32 _ _ rfl (w.heap.size+2) (#[.int .i64 0,.int .i64 0,.string ⟨#[]⟩,.slice none 0 0,.int .u8 0,.int .u8 0,.int .u8 0,.int .u8 0,.int .u8 0,.int .u8 0,.int .u8 0,.int .u8 0,.int .u8 0,.int .u8 0,.int .u8 0,.int .u8 0,.int .u8 0,.int .u8 0,.int .u8 0,.int .u8 0]:Array Value) rfl rfl _ (#[.int .i64 0,.int .i64 0,.string ⟨#[]⟩,.slice none 0 0,.int .u8 0,.int .u8 0,.int .u8 0,.int .u8 0,.int .u8 0,.int .u8 0,.int .u8 0,.int .u8 0,.int .u8 0,.int .u8 0,.int .u8 0,.int .u8 0,.int .u8 0,.int .u8 0,.int .u8 0,.int .u8 0]:Array Value) HS3.out.r nN rfl HZON.out ?_));refine bodyPost_ret (v:=.tuple #[.agg (#[.int .i64 0,.int .i64 0,.string ⟨#[]⟩,.slice none 0 0,.int .u8 0,.int .u8 0,.int .u8 0,.int .u8 0,.int .u8 0,.int .u8 0,.int .u8 0,.int .u8 0,.int .u8 0,.int .u8 0,.int .u8 0,.int .u8 0,.int .u8 0,.int .u8 0,.int .u8 0,.int .u8 0]:Array Value),.int .i64 1]) ?_ rfl ?_
  ·exact uX rfl _ _ (w.heap.size+2) _ _ rfl rfl (eQ (setRow_heap _ _ _ _ _ _ HS3.out.r) rfl)
  ·rw[HRR.out,HE1.out];exact⟨below_setRow HS3.out.b aA _,zL,rfl,DF _,rfl,fun h=>absurd h aK⟩
 have e1:lX k id c=(⟨k.party,k.ser,id,[c],fA k x.t⟩,0):=by rw[HMI.out,hv1,hv2];rfl
 have HE1:=aB e1;rw[hv2]at htv;have hok:=(uS _).1 hv2;have hcv:bG c=true:=hok.all c (by rw[hxt];exact List.mem_singleton.2 rfl);have hcok:∀ z∈x.L,jA z.c:=by
  intro z hz;rw[HX.out]at hz;rw[List.mem_singleton.1 hz,HYY.out];exact⟨hf,hcv,htx hcv⟩
 have hrt:=fun (W:World) (hb:Below w1.heap.size w1 W)=>SS k x W (hTR.keep hb) hcok (by rw[hxt];exact Nat.le_refl 1) (by rw[hxt];show 1<=_;omega) hk (by rw[hxt];exact hid) (hK.keep (aN hbw1 hb)) (hE.keep (aN hbw1 hb)) (hTb.keep (aN hbw1 hb))
 rw[aY.val_arr,<-HKX.out]at hrt;have HTV:=aB htv;have HRT:=aB hrt;have hbr:=fun (W:World) (hS:MiS w KX (#[.int .i64 0,.int .i64 0,.string ⟨#[]⟩,.slice none 0 0,.int .u8 0,.int .u8 0,.int .u8 0,.int .u8 0,.int .u8 0,.int .u8 0,.int .u8 0,.int .u8 0,.int .u8 0,.int .u8 0,.int .u8 0,.int .u8 0,.int .u8 0,.int .u8 0,.int .u8 0,.int .u8 0]:Array Value) g x.cells.toArray w0.heap.size y.cells.toArray W)=>And.intro (jM hS.k (by rw[HKX.out];exact lL)) (eQ hS.t HXS.out)
 obtain⟨S,hS⟩:∃ S,S=fA k x.t:=⟨_,rfl⟩;have hSok:eU S:=by rw[hS];exact Bq k x.t
 rw[<-hS]at hrt HE1;have HRT:=aB hrt;have HBR:=aB hbr;have HSK:=aB hSok;have hbl:∀ v∈b8 S,v.oneCell'=true:=mQ S;have hbs:(prog.info? 30).map (·.size)=some (b8 S).length:=by rw[dH,hSok.len];exact lM
 have hsp:splice x.cells 4 (b8 S)=dA x.t.cust x.t.ser x.t.id x.A x.t.conds.length x.c S:=Ef _ _ _ _ _ _ _ _ hTR.sl.len hSok.len;have hcl:x.cells.length=20:=hTR.size;have hnew:∀ W,Below w.heap.size w W->aQ W w0.heap.size 27 y.cells.toArray->bV W ⟨⟨k.party,k.ser,id,[c],S⟩,x.A,x.c,x.L⟩:=fun W hb hc=>by
  rw[HX.out];refine⟨by rw[HYY.out];rfl,⟨rfl,Sm hc,fun z hz=>?_⟩,hSok,Nat.le_refl _⟩;rw[List.mem_singleton.1 hz,HYY.out];exact hR.keep hb
 have hval:(ag.mk ⟨k.party,k.ser,id,[c],S⟩ x.A x.c x.L).val=.agg (dA x.t.cust x.t.ser x.t.id x.A x.t.conds.length x.c S).toArray:=by rw[hxt];rfl
 have HBL:=aB hbl;have HBS:=aB hbs;have HSP:=aB hsp;have HCL:=aB hcl;have HNEW:=aB hnew;have HVAL:=aB hval;have hTS:(dA x.t.cust x.t.ser x.t.id x.A x.t.conds.length x.c S).toArray.size=20:=H8 _ _ _ _ _ _ _ hSok.len;have HTS:=aB hTS;have HTO:=aB (pX x.t.cust x.t.ser x.t.id x.A x.t.conds.length x.c S);clear hS hbl hbs hsp hcl hnew hval hTS hrt hbr hSok htv hcok hok hcv hv1 hv2 e1 hE hTb hK hTR hfL HMI hxt hxA;generalize hXN:(dA x.t.cust x.t.ser x.t.id x.A x.t.conds.length x.c S).toArray=XN at *;have HXN:=aB hXN;clear hXN;go_upto_region 4 with (first | (refine ay rfl 23 _ rfl ⟨w.heap.size,0,none⟩ (.agg KX) rfl hldk1 ?_) | (go_at_call 43;refine (HSV.out _).mono ?_;rintro e w2 ⟨rfl,hb2⟩;have HS2:=aB (HS1.out.keep hb2);have HL2:=aB (eQ (HS1.out.keep hb2).t HXS.out)) | (go_big_want;refine iV 32 _ rfl ⟨g,0,none⟩ (.agg x.cells.toArray) rfl HL2.out ?_;simp only[Act.put,aW]) | (go_at_call 14;refine (HTV.out _ hb2).mono ?_;rintro e w3 ⟨rfl,hb3⟩;have HS3:=aB (HS2.out.keep hb3)))
 have hld4:=HBR.out w3 HS3.out;obtain⟨hk4,ht4⟩:=hld4;have hb13:=aN hb2 hb3;go_upto_region 5 with (first
  | (refine ay rfl 23 _ rfl ⟨w.heap.size,0,none⟩ (.agg KX) rfl hk4 ?_)
  | (refine ay rfl 32 _ rfl ⟨g,0,none⟩ (.agg x.cells.toArray) rfl ht4 ?_)
  | (go_at_call 44;refine (HRT.out _ hb13).mono ?_;rintro e w4 ⟨rfl,hb4⟩)
  | (refine AU rfl 30 _ _ rfl g 4 (b8 S) rfl rfl _ x.cells (HS3.out.keep hb4).t HBS.out (by rw[dH,HSK.out.len,HCL.out];omega) HBL.out ?_))
 dsimp only[Act.put];rw[HSP.out,HXN.out];generalize hw5:World.setRow _ _ _=w5;have hb5:Below g w4 w5:=by rw[<-hw5];exact below_setRow (Below.refl _ _) (Nat.le_refl _) _
 have ht5:aQ w5 g 32 XN:=by rw[<-hw5];exact setRow_heap _ _ _ _ _ _ (HS3.out.keep hb4).t
 have hr5:aQ w5 (w.heap.size+2) 32 (#[.int .i64 0,.int .i64 0,.string ⟨#[]⟩,.slice none 0 0,.int .u8 0,.int .u8 0,.int .u8 0,.int .u8 0,.int .u8 0,.int .u8 0,.int .u8 0,.int .u8 0,.int .u8 0,.int .u8 0,.int .u8 0,.int .u8 0,.int .u8 0,.int .u8 0,.int .u8 0,.int .u8 0]:Array Value):=(hb5.block _ aA).trans (HS3.out.keep hb4).r;have hc5:aQ w5 w0.heap.size 27 y.cells.toArray:=(hb5.block _ hgg.2.1).trans (HS3.out.keep hb4).c;have hbw5:Below w.heap.size w w5:=(HS3.out.keep hb4).b.trans (hb5.mono aA);have hldn:=eQ ht5 HTS.out;have HLN:=aB hldn;have HR5:=aB hr5;have HC5:=aB hc5;have HB5:=aB hbw5;clear hw5 hb5 ht5 hr5 hc5 hbw5 hldn hk4 ht4;go_wp2_with (first
  | (refine ay rfl 32 _ rfl ⟨g,0,none⟩ (.agg XN) rfl HLN.out ?_)
  | (refine wpList_store_row rfl 32 _ _ rfl (w.heap.size+2) XN rfl rfl _ (#[.int .i64 0,.int .i64 0,.string ⟨#[]⟩,.slice none 0 0,.int .u8 0,.int .u8 0,.int .u8 0,.int .u8 0,.int .u8 0,.int .u8 0,.int .u8 0,.int .u8 0,.int .u8 0,.int .u8 0,.int .u8 0,.int .u8 0,.int .u8 0,.int .u8 0,.int .u8 0,.int .u8 0]:Array Value) HR5.out (by rw[HTS.out];exact nN) (by rw[HTS.out];rfl) HTO.out ?_))
 refine bodyPost_ret (v:=.tuple #[.agg XN,.int .i64 0]) ?_ rfl ?_
 ·exact Sr
 ·rw[HRR.out,HE1.out];have hbw6:Below w.heap.size w (w5.setRow (w.heap.size+2) XN):=below_setRow HB5.out aA _;refine⟨hbw6,_,?_,HNEW.out _ hbw6 ((setRow_other _ _ _ _ aA).trans HC5.out),rfl,fun _=>⟨?_,?_⟩⟩
  ·rw[HVAL.out]
  ·show x.L=_;rw[HX.out,HYY.out]
  ·show ∀ a,x.A=some a->_;rw[HX.out];rintro a h;injection h with h
   rw[<-h];show w.heap.size<=w0.heap.size;have:=HZ0.out;omega
theorem aGh(k:aY)(id:ByteArray)(c:aZ)(m:af)(w:World)(hR:bz w c m)(hf:dG c)(htx:bG c=true->(bF c).size<=1000000)(hk:k.secret.size<=1000000)(hid:id.size<=1000000)(hK:Ks w)(hE:Env w)(hTb:Tab w) :
  Calls prog 12 #[k.val,.string id,af.val c m] w (kT (lX k id c).1 (lX k id c).2 w):=(aGg k id c m w hR hf htx hk hid hK hE hTb).mono fun _ _ h=>h.weak
theorem IA:(prog.info? 27).map (fun i=>(i.zero,i.size,i.bytes))=some (some (.agg #[.int .i64 0,.int .i64 0,.string ⟨#[]⟩,.slice none 0 0,.slice none 0 0,.slice none 0 0,.int .i64 0]),7,112):=by kernel_rfl
theorem Su(L:List CoM):∀ u∈L.flatMap CoM.cells,u.oneCell'=true:=by
 intro u hu;obtain⟨x,_,h⟩:=List.mem_flatMap.1 hu;simp only[CoM.cells,List.mem_cons,List.not_mem_nil,or_false]at h;rcases h with rfl | rfl | rfl | rfl | rfl | rfl | rfl <;> rfl
theorem aGi(L:List CoM):(L.flatMap CoM.cells).length=L.length*7:=Ce CoM.cells L (fun a _=>a.cells_len)
theorem aGj(b o n c:Nat)(cs:List Value)(w:World)(hl:cs.length=n*7)(hc:∀ j u,cs[j]? = some u->w.cell? ⟨b,o+j,none⟩=some u)(h1:∀ u∈cs,u.oneCell'=true)(hn:n<=1000000) :
  Calls prog 51 #[.slice (some ⟨b,o,none⟩) n c] w fun e w'=>∃ v,e=.returned v/\w'.ownsRow w.heap.size 27 7 v n cs/\Below w.heap.size w w':=by
 obtain⟨i0,hi0,hz0,hz1,hz2⟩:=info_parts IA;have HI:=aB (And.intro hi0 (And.intro hz0 (And.intro hz1 hz2)));clear hi0 hz0 hz1 hz2;have hown0:(w.alloc (.cells #[] 27)).ownsRow w.heap.size 27 7 (.slice (some ⟨w.heap.size,0,none⟩) 0 0) 0 []:=World.ownsRow_lit (base:=w.heap.size) (e:=27) (size:=7) w #[] 0 (Nat.le_refl _) cZ rfl;have hba:=fD w (.cells #[] 27);have HO:=aB hown0;have HC:=aB hc;have HL:=aB hl;have H1:=aB h1;have HB:=aB hba;clear hown0 hc hl h1 hba;have hadd:∀ j,(⟨b,o,none⟩:Addr).add j=⟨b,o+j,none⟩:=fun j=>oU
 have HA:=aB hadd;clear hadd;have he:∀ w:World,(binOp .eql 28 (.slice (some ⟨b,o,none⟩) n c) (.slice none 0 0)).run prog w=.ok (.bool false) w:=fun _=>rfl
 go_enter func51,ntmps51;go_wp2_with (at_builtin;refine wpList_append_own _ rfl _ _ 28 rfl w.heap.size 27 i0 (.agg #[.int .i64 0,.int .i64 0,.string ⟨#[]⟩,.slice none 0 0,.slice none 0 0,.slice none 0 0,.int .i64 0]) 7 112 underlying28 HI.out.1 HI.out.2.1 HI.out.2.2.1 HI.out.2.2.2 rfl aK _ 0 [] rfl HO.out ⟨b,o,none⟩ n c cs rfl HL.out (fun j u hu=>by rw[HA.out];exact aP HB.out (HC.out j u hu)) H1.out cZ aA aF ?_;intro v' w' hown' hgrow _);rw[Nat.zero_add,List.nil_append]at hown';go_ret;exact⟨v',rfl,hown',HB.out.grown hgrow aF (fun r e=>dK HO.out r e)⟩
end Go.Proofs.YtlkbkclnbppigaaGreatDoor
