/- chain.Parse: what stands when, in plain words. -/
import Derived.Test.YtlkbkclnbppigaaGreatDoorJZ38
import Derived.Test.YtlkbkclnbppigaaGreatDoorJZ29
namespace Go.Proofs.YtlkbkclnbppigaaGreatDoor
open Tryz
open Go.RowKit Go.Sort
set_option linter.unusedVariables false
set_option linter.unusedSimpArgs false
set_option maxRecDepth 100000
theorem aId{s:ByteArray}(hs:s.size<=131072)(h:qO s=none):sO s=(jV,3):=by unfold sO;rw[if_neg aA,h]
theorem UB{s:ByteArray}{t:dB}(hs:s.size<=131072)(h:qO s=some t):sO s=(t,0):=by unfold sO;rw[if_neg aA,h]
def kE(w:World):Exit->Act->World->Prop
 | .panic c,a,W=>c=wX/\a.defers=wu w/\a.tmps.getD 2 undef=.pointer (some ⟨w.heap.size,0,none⟩)/\a.tmps.getD 3 undef=.pointer (some ⟨w.heap.size+1,0,none⟩)/\PaS w (#[.int .i64 0,.int .i64 0,.string ⟨#[]⟩,.slice none 0 0,.int .u8 0,.int .u8 0,.int .u8 0,.int .u8 0,.int .u8 0,.int .u8 0,.int .u8 0,.int .u8 0,.int .u8 0,.int .u8 0,.int .u8 0,.int .u8 0,.int .u8 0,.int .u8 0,.int .u8 0,.int .u8 0]:Array Value) 0 W
 | _,_,_=>False
theorem UC(l:Array Value)(d k:Nat)(v u:Value)(h:d≠k):(l.setIfInBounds d v).getD k u=l.getD k u:=by
 rw[Array.getD_eq_getD_getElem?,Array.getD_eq_getD_getElem?,Array.getElem?_setIfInBounds_ne h]
theorem kE.put{w W:World}{c:List PanicEntry}{a:Act}{d:Tmp}{v:Value}(h2:d≠2)(h3:d≠3)(h:kE w (.panic c) (a.put (some d) v) W):kE w (.panic c) a W:=by
 obtain⟨e1,e2,e3,e4,e5⟩:=h;refine⟨e1,e2,?_,?_,e5⟩
 ·rw[<-e3];exact (UC _ _ _ _ _ h2).symm
 ·rw[<-e4];exact (UC _ _ _ _ _ h3).symm
theorem kE.dies{w W:World}{c:List PanicEntry}{a:Act}{R:Ending->World->Prop}(hR:R=kT jV 3 w)(h:kE w (.panic c) a W):bodyPostD prog Tryz.f37 R (.panic c) a W:=by
 obtain⟨rfl,e2,e3,e4,e5⟩:=h;obtain⟨tmps,defers⟩:=a;obtain rfl:defers=wu w:=e2;rw[hR];exact xA e5 rfl e3 e4
def gV(F:List ByteArray):List ByteArray:=F.drop 3
def cvF(x:ByteArray):aZ:=(fM x).getD fV
theorem UD{F:List ByteArray}{k:Nat}{x:ByteArray}(h:F[3+k]? = some x):(gV F)[k]? = some x:=by unfold gV;rw[List.getElem?_drop];exact h
theorem aIe{F:List ByteArray}{k:Nat}{x:ByteArray}(h:F[3+k]? = some x):(gV F).take (k+1)=(gV F).take k++[x]:=by rw[List.take_add_one,UD h];rfl
theorem DV{F:List ByteArray}{n:Nat}{z:ByteArray}(hn:F.length=n)(h0:5<=n)(h1:n<=20)(hz:F[n-1]? = some z) :
  okF fM F=true↔((∀ x∈(gV F).take (n-4),(fM x).isSome=true)/\z.size=32/\(oC z.data.toList).isSome=true):=by
 have hl:F.getLastD aT=z:=by
  rw[List.getLastD_eq_getLast?,List.getLast?_eq_getElem?,hn,hz];rfl
 have hd:(F.drop 3).dropLast=(gV F).take (n-4):=by
  unfold gV;rw[List.dropLast_eq_take,List.length_drop,hn];congr 1
 unfold okF;rw[hl,hd];simp only[Bool.and_eq_true,decide_eq_true_eq,List.all_eq_true];constructor
 ·rintro⟨⟨⟨_,a⟩,b⟩,c⟩;exact⟨a,b,c⟩
 ·rintro⟨a,b,c⟩;exact⟨⟨⟨aA,a⟩,b⟩,c⟩
theorem aIf{F:List ByteArray}{n:Nat}{z x0 x1 x2:ByteArray}(hn:F.length=n)(h0:5<=n)(hz:F[n-1]? = some z)(e0:F.getD 0 aT=x0)(e1:F.getD 1 aT=x1)(e2:F.getD 2 aT=x2){s:List Nat}(hs:oC z.data.toList=some s) :
  wJ az fM F=⟨az x0,az x1,x2,((gV F).take (n-4)).map cvF,s⟩:=by
 have hl:F.getLastD aT=z:=by
  rw[List.getLastD_eq_getLast?,List.getLast?_eq_getElem?,hn,hz];rfl
 have hd:(F.drop 3).dropLast=(gV F).take (n-4):=by
  unfold gV;rw[List.dropLast_eq_take,List.length_drop,hn];congr 1
 unfold wJ;rw[hl,hd,e0,e1,e2,hs];rfl
theorem IR{W W':World}{g s n:Nat}{A:Option Addr}{vs:List Value}(hg:W.grownBy W' (some g))(h:aH W s A n vs)(ha:0<n->∀ a,A=some a->a.block≠g):aH W' s A n vs:=by
 refine⟨h.1,fun hn=>?_⟩;obtain⟨b,o,rfl,hc⟩:=h.2 hn;refine⟨b,o,rfl,fun j u hu=>?_⟩;have h0:=hc j u hu;have hlt:b<W.heap.size:=bf h0;unfold World.cell? at h0 ⊢;rw[hg.block b hlt (fun e=>ha hn _ rfl (Option.some.inj e))];exact h0
structure PcS(w:World)(F:List ByteArray)(n:Nat)(N0 N1:Int)(x2:ByteArray)(s:List Nat)(k:Nat)(L:List CoM)(A:Option Addr)(c:Nat)(W:World):Prop where
 p:PaS w (dA N0 N1 x2 A k c s).toArray 0 W
 r:aH W 1 (some ⟨w.heap.size+2,0,none⟩) n (F.map .string)
 own:W.ownsRow (w.heap.size+3) 27 7 (.slice A k c) k (L.flatMap CoM.cells)
 each:∀ y∈L,bz W y.c y.m
 fresh:∀ y∈L,wQ (w.heap.size+3) y.c y.m
 apart:∀ y∈L,∀ g,(Value.slice A k c).ownBlock=some g->gU g y.c y.m
 len:L.length=k
 val:L.map (·.c)=((gV F).take k).map cvF
 ok:∀ x∈(gV F).take k,(fM x).isSome=true
 sz:w.heap.size+3<=W.heap.size
theorem PcS.keep{w W W':World}{F:List ByteArray}{n:Nat}{N0 N1:Int}{x2:ByteArray}{s:List Nat}{k:Nat}{L:List CoM}{A:Option Addr}{c:Nat}(h:PcS w F n N0 N1 x2 s k L A c W)(hb:Below W.heap.size W W'):PcS w F n N0 N1 x2 s k L A c W' :=
 ⟨h.p.keep hb (by have:=h.sz;omega),h.r.keep hb,dV h.own hb,fun y hy=>(h.each y hy).keep hb,h.fresh,h.apart,h.len,h.val,h.ok,Nat.le_trans h.sz hb.size⟩
theorem PcS.size{w W:World}{F:List ByteArray}{n:Nat}{N0 N1:Int}{x2:ByteArray}{s:List Nat}{k:Nat}{L:List CoM}{A:Option Addr}{c:Nat}(h:PcS w F n N0 N1 x2 s k L A c W)(hs:s.length=16):(dA N0 N1 x2 A k c s).toArray.size=20:=H8 _ _ _ _ _ _ _ hs
theorem PcS.field{w W:World}{F:List ByteArray}{n:Nat}{N0 N1:Int}{x2:ByteArray}{s:List Nat}{k:Nat}{L:List CoM}{A:Option Addr}{c:Nat}(h:PcS w F n N0 N1 x2 s k L A c W){j:Nat}{x:ByteArray}(hj:F[j]? = some x)(hn:0<n):W.cell? ⟨w.heap.size+2,j,none⟩=some (.string x):=by
 obtain⟨b,o,e,hc⟩:=h.r.2 hn;injection e with e
 injection e with e1 e2
 subst e1;subst e2;have:=hc j (.string x) (by rw[List.getElem?_map,hj];rfl)
 rwa [Nat.zero_add]at this
theorem PcS.row3{w W:World}{F:List ByteArray}{n:Nat}{N0 N1:Int}{x2:ByteArray}{s:List Nat}{k:Nat}{L:List CoM}{A:Option Addr}{c:Nat}(h:PcS w F n N0 N1 x2 s k L A c W):W.cell? ⟨w.heap.size,3,none⟩=some (.slice A k c):=h.p.t.cell (k:=3) rfl
theorem PcS.free{w W:World}{F:List ByteArray}{n:Nat}{N0 N1:Int}{x2:ByteArray}{s:List Nat}{k:Nat}{L:List CoM}{A:Option Addr}{c:Nat}(h:PcS w F n N0 N1 x2 s k L A c W)(j:Nat):W.frozen? ⟨w.heap.size,j,none⟩=false:=frozen_of_row _ _ j _ _ h.p.t
theorem PcS.grown{w W W':World}{F:List ByteArray}{n:Nat}{N0 N1:Int}{x2 x:ByteArray}{s:List Nat}{k:Nat}{L:List CoM}{A:Option Addr}{c:Nat}{y:CoM}{g cap:Nat}(h:PcS w F n N0 N1 x2 s k L A c W)(hn:0<n)
  (hx:F[3+k]? = some x) (hr:(fM x).isSome=true) (hyc:y.c=cvF x) (hy:bz W y.c y.m) (hyf:wQ (w.heap.size+3) y.c y.m) (hya:∀ g,(Value.slice A k c).ownBlock=some g->gU g y.c y.m)
  (hown:W'.ownsRow (w.heap.size+3) 27 7 (.slice (some ⟨g,0,none⟩) (k+1) cap) (k+1) (L.flatMap CoM.cells++y.cells)) (hg:W.grownBy W' (Value.slice A k c).ownBlock) (hgg:(Value.slice A k c).ownBlock=some g\/g=W.heap.size) :
  PcS w F n N0 N1 x2 s (k+1) (L++[y]) (some ⟨g,0,none⟩) cap (W'.setCell ⟨w.heap.size,3,none⟩ (.slice (some ⟨g,0,none⟩) (k+1) cap)):=by
 have hlo:∀ r,(Value.slice A k c).ownBlock=some r->w.heap.size+3<=r/\r<W.heap.size:=fun r hr=>h.own.lt r hr
 have hsz:=h.sz;have hlow:Below (w.heap.size+3) W W':=(Below.refl _ _).grown hg hsz (fun r hr=>(hlo r hr).1);have hcond:∀ z:CoM,bz W z.c z.m->(∀ g,(Value.slice A k c).ownBlock=some g->gU g z.c z.m)->bz W' z.c z.m:=by
  intro z hz ha;cases hob:(Value.slice A k c).ownBlock with
  | none =>
   rw[hob]at hg;exact hz.keep ((Below.refl _ _).grown hg (Nat.le_refl _) (fun r hr=>by cases hr))
  | some g0 =>
   rw[hob]at hg;have hag:=ha g0 hob;exact⟨IR hg hz.cl (fun h0 a he=>hag.cl h0 a he),IR hg hz.co (fun h0 a he=>hag.co h0 a he),IR hg hz.si (fun h0 a he=>hag.si h0 a he)⟩
 have hap:∀ z:CoM,bz W z.c z.m->(∀ g,(Value.slice A k c).ownBlock=some g->gU g z.c z.m)->gU g z.c z.m:=by
  intro z hz ha;rcases hgg with hgg | hgg
  ·exact ha g hgg
  ·exact gU.of_reads hz aA
 have hother:∀ j,j≠w.heap.size->(W'.setCell ⟨w.heap.size,3,none⟩ (.slice (some ⟨g,0,none⟩) (k+1) cap)).heap[j]? = W'.heap[j]?:=fun j hj=>heap_setCell_other _ _ _ _ hj
 have hp':=h.p.keep hlow aA;have hset:(dA N0 N1 x2 A k c s).toArray.setIfInBounds 3 (.slice (some ⟨g,0,none⟩) (k+1) cap)=(dA N0 N1 x2 (some ⟨g,0,none⟩) (k+1) cap s).toArray:=by
  rw[List.setIfInBounds_toArray];rfl
 have hgl:w.heap.size+3<=g:=by
  rcases hgg with hgg | hgg
  ·exact (hlo g hgg).1
  ·omega
 have hW'sz:w.heap.size+3<=W'.heap.size:=Nat.le_trans hsz hlow.size;have hm:=aIe hx;refine⟨⟨?_,?_,?_⟩,?_,?_,?_,?_,?_,?_,?_,?_,?_⟩
 ·rw[<-hset];exact heap_setCell_same _ _ _ _ _ _ hp'.t
 ·exact (hother _ aA).trans hp'.e
 ·exact hp'.b.setCell (p:=⟨w.heap.size,3,none⟩) (Nat.le_refl _) _
 ·have hrr:aH W' 1 (some ⟨w.heap.size+2,0,none⟩) n (F.map .string):=Ha h.r hlow (fun _ a e=>by injection e with e;subst e;show w.heap.size+2<_;omega);exact ug (g:=w.heap.size) (fun j hj=>hother j hj) hrr (fun _ a e=>DW)
 ·have e:(L++[y]).flatMap CoM.cells=L.flatMap CoM.cells++y.cells:=aF;rw[e];obtain⟨h1,h2⟩:=hown;refine⟨h1,?_⟩;rcases h2 with ⟨h3,_⟩ | ⟨g2,cap2,cur,e2,hb,hh,hr⟩
  ·cases h3
  ·injection e2 with e3 e4 e5
   injection e3 with e3
   injection e3 with e3
   subst e3;subst e5;exact .inr ⟨g,cap,cur,rfl,hb,(hother _ aA).trans hh,hr⟩
 ·intro z hz;rcases List.mem_append.1 hz with hz | hz
  ·exact wV (g:=w.heap.size) (fun j hj=>hother j hj) (hcond z (h.each z hz) (h.apart z hz)) (gU.of_fresh (h.fresh z hz) aA)
  ·rw[List.mem_singleton.1 hz];exact wV (g:=w.heap.size) (fun j hj=>hother j hj) (hcond y hy hya) (gU.of_fresh hyf aA)
 ·intro z hz;rcases List.mem_append.1 hz with hz | hz
  ·exact h.fresh z hz
  ·rw[List.mem_singleton.1 hz];exact hyf
 ·intro z hz g2 hg2;have e:g=g2:=Option.some.inj hg2;subst e;rcases List.mem_append.1 hz with hz | hz
  ·exact hap z (h.each z hz) (h.apart z hz)
  ·rw[List.mem_singleton.1 hz];exact hap y hy hya
 ·rw[List.length_append,h.len];rfl
 ·rw[hm,List.map_append,List.map_append,h.val];show _++[y.c]=_++[cvF x];rw[hyc]
 ·rw[hm];intro z hz;rcases List.mem_append.1 hz with hz | hz
  ·exact h.ok z hz
  ·rw[List.mem_singleton.1 hz];exact hr
 ·show _<=(W'.setCell _ _).heap.size;rw[World.size_setCell];exact hW'sz
theorem PcS.put{w W:World}{F:List ByteArray}{n:Nat}{N0 N1:Int}{x2:ByteArray}{l:List UInt8}{i k:Nat}{L:List CoM}{A:Option Addr}{c:Nat}(h:PcS w F n N0 N1 x2 (lH l i) k L A c W)(hi:i<16) :
  PcS w F n N0 N1 x2 (lH l (i+1)) k L A c (W.setCell ⟨w.heap.size,4+i,none⟩ (.int .u8 (uhV l i:Int))):=by
 have hother:∀ j,j≠w.heap.size->(W.setCell ⟨w.heap.size,4+i,none⟩ (.int .u8 (uhV l i:Int))).heap[j]? = W.heap[j]?:=fun j hj=>heap_setCell_other _ _ _ _ hj
 refine⟨⟨?_,?_,?_⟩,?_,?_,?_,h.fresh,h.apart,h.len,h.val,h.ok,?_⟩
 ·rw[<-aFi _ _ _ _ _ _ _ _ hi];exact heap_setCell_same _ _ _ _ _ _ h.p.t
 ·exact (hother _ aA).trans h.p.e
 ·exact h.p.b.setCell (p:=⟨w.heap.size,4+i,none⟩) (Nat.le_refl _) _
 ·exact ug (g:=w.heap.size) (fun j hj=>hother j hj) h.r (fun _ a e=>DW)
 ·obtain⟨h1,h2⟩:=h.own;refine⟨h1,?_⟩;rcases h2 with h3 | ⟨g2,cap2,cur,e2,hb,hh,hr⟩
  ·exact .inl h3
  ·exact .inr ⟨g2,cap2,cur,e2,hb,(hother _ aA).trans hh,hr⟩
 ·intro z hz;exact wV (g:=w.heap.size) (fun j hj=>hother j hj) (h.each z hz) (gU.of_fresh (h.fresh z hz) aA)
 ·show _<=(W.setCell _ _).heap.size;rw[World.size_setCell];exact h.sz
theorem PcS.tok{w W:World}{F:List ByteArray}{n:Nat}{N0 N1:Int}{x2:ByteArray}{s:List Nat}{k:Nat}{L:List CoM}{A:Option Addr}{c:Nat}(h:PcS w F n N0 N1 x2 s k L A c W)(hs:eU s) :
  bV W ⟨⟨N0,N1,x2,((gV F).take k).map cvF,s⟩,A,c,L⟩/\(⟨⟨N0,N1,x2,((gV F).take k).map cvF,s⟩,A,c,L⟩:ag).cells.toArray=(dA N0 N1 x2 A k c s).toArray/\(((gV F).take k).map cvF).length=k:=by
 have hl:(((gV F).take k).map cvF).length=k:=by rw[<-h.val,List.length_map];exact h.len
 have hrd:aH W 7 A k (L.flatMap CoM.cells)/\k<=c:=by
  refine⟨aH.of_own h.own,?_⟩;rcases h.own.2 with ⟨e,_⟩ | ⟨g2,cap2,cur,e,hb,hh,hnc,_⟩
  ·injection e with e3 e4 e5
   omega
  ·injection e with e3 e4 e5
   omega
 refine⟨⟨h.val,⟨?_,?_,h.each⟩,hs,?_⟩,?_,hl⟩
 ·show L.length=(((gV F).take k).map cvF).length;rw[hl];exact h.len
 ·show aH W 7 A (((gV F).take k).map cvF).length _;rw[hl];exact hrd.1
 ·show (((gV F).take k).map cvF).length<=c;rw[hl];exact hrd.2
 ·unfold ag.cells;show (dA N0 N1 x2 A (((gV F).take k).map cvF).length c s).toArray=_;rw[hl]
theorem aIg(c:aZ)(m:af)(W:World):(Instr.buildSlice 28 1 #[(0,.agg (eH c m))]).run prog W=.ok (.slice (some ⟨W.heap.size,0,none⟩) 1 1) (W.alloc (.cells (eH c m) 27)):=by kernel_rfl
theorem aIh{F:List ByteArray}{n k:Nat}{x:ByteArray}(hx:F[3+k]? = some x)(hk:k<n-4)(hr:(fM x).isSome=false):¬ ∀ y∈(gV F).take (n-4),(fM y).isSome=true:=by
 intro h;have hm:((gV F).take (n-4))[k]? = some x:=by rw[List.getElem?_take_of_lt hk];exact UD hx
 have:=h x (List.mem_of_getElem? hm);rw[hr]at this;cases this
theorem UE(W:World)(z:ByteArray)(j:Nat)(h:j<z.size):(Instr.index 9 (.string z) (.int .i64 (j:Int))).run prog W=.ok (.int .u8 ((z.data.toList.getD j 0).toNat:Int)) W:=by
 have h1:=run_underlying underlying9 W;have hl:j<z.data.toList.length:=vM;have key:z[j]? = some (z.data.toList.getD j 0):=by
  rw[getElem?_pos z j h,yH z j h,List.getD_eq_getElem?_getD,List.getElem?_eq_getElem hl];rfl
 have h5:(0:Int)<=(j:Int):=aA;simp[Instr.index,asIntOf,h1,key,h5,go_sem]
theorem aIi(W:World)(z:ByteArray)(i:Nat)(h:z.size=32)(hi:i<16):(Instr.index 9 (.string z) (.int .i64 (2*(i:Int)))).run prog W=.ok (.int .u8 ((uhA z.data.toList i).toNat:Int)) W:=by
 have:=UE W z (2*i) aA
 rwa [show ((2*i:Nat):Int)=2*(i:Int) by omega]at this
theorem aIj(W:World)(z:ByteArray)(i:Nat)(h:z.size=32)(hi:i<16):(Instr.index 9 (.string z) (.int .i64 (2*(i:Int)+1))).run prog W=.ok (.int .u8 ((uhB z.data.toList i).toNat:Int)) W:=by
 have:=UE W z (2*i+1) aA
 rwa [show ((2*i+1:Nat):Int)=2*(i:Int)+1 by omega]at this
theorem aIk(b:UInt8)(W:World):Calls prog 79 #[.string ⟨#[48,49,50,51,52,53,54,55,56,57,97,98,99,100,101,102]⟩,.int .u8 (b.toNat:Int)] W fun e w'=>e=.returned (.int .i64 (jL b))/\w'=W:=by
 have h:=strings_IndexByte ⟨#[48,49,50,51,52,53,54,55,56,57,97,98,99,100,101,102]⟩ (b.toNat:Int) W;rw[show ((b.toNat:Int)).toNat.toUInt8=b by simp]at h;rw[show (⟨#[48,49,50,51,52,53,54,55,56,57,97,98,99,100,101,102]⟩:ByteArray).data.toList=[48,49,50,51,52,53,54,55,56,57,97,98,99,100,101,102] from rfl,aFd]at h;exact h
theorem PcS.chg{w W W':World}{F:List ByteArray}{n:Nat}{N0 N1:Int}{x2:ByteArray}{s s':List Nat}{k:Nat}{L:List CoM}{A:Option Addr}{c g:Nat}(h:PcS w F n N0 N1 x2 s k L A c W)(hg:g<w.heap.size+2)(ho:∀ j,j≠g->W'.heap[j]? = W.heap[j]?)
  (hp:PaS w (dA N0 N1 x2 A k c s').toArray 0 W') (hsz:W'.heap.size=W.heap.size):PcS w F n N0 N1 x2 s' k L A c W':=by
 refine⟨hp,?_,?_,?_,h.fresh,h.apart,h.len,h.val,h.ok,by rw[hsz];exact h.sz⟩
 ·exact ug (g:=g) ho h.r (fun _ a e=>DW)
 ·obtain⟨h1,h2⟩:=h.own;refine⟨h1,?_⟩;rcases h2 with h3 | ⟨g2,cap2,cur,e2,hb,hh,hr⟩
  ·exact .inl h3
  ·exact .inr ⟨g2,cap2,cur,e2,hb,(ho _ aA).trans hh,hr⟩
 ·intro z hz;exact wV (g:=g) ho (h.each z hz) (gU.of_fresh (h.fresh z hz) aA)
theorem PcS.fin{w W:World}{F:List ByteArray}{n:Nat}{N0 N1:Int}{x2:ByteArray}{s:List Nat}{k:Nat}{L:List CoM}{A:Option Addr}{c:Nat}(h:PcS w F n N0 N1 x2 s k L A c W) :
  PcS w F n N0 N1 x2 s k L A c ((W.setRow w.heap.size (dA N0 N1 x2 A k c s).toArray).setCell ⟨w.heap.size+1,0,none⟩ (.int .i64 0)):=by
 have hP1:PaS w (dA N0 N1 x2 A k c s).toArray 0 (W.setRow w.heap.size (dA N0 N1 x2 A k c s).toArray):=⟨setRow_heap _ _ _ _ _ _ h.p.t,(setRow_other _ _ _ _ aA).trans h.p.e,below_setRow h.p.b (Nat.le_refl _) _⟩;have h1:=h.chg (g:=w.heap.size) aA (fun j hj=>setRow_other _ _ _ _ hj) hP1 (size_setRow _ _ _);exact h1.chg (g:=w.heap.size+1) aA (fun j hj=>heap_setCell_other _ _ _ _ hj) hP1.sete (World.size_setCell _ _ _)
theorem PcS.err{w W:World}{F:List ByteArray}{n:Nat}{N0 N1:Int}{x2:ByteArray}{s:List Nat}{k:Nat}{L:List CoM}{A:Option Addr}{c:Nat}(h:PcS w F n N0 N1 x2 s k L A c W) :
  (W.setRow w.heap.size (dA N0 N1 x2 A k c s).toArray).cell? ⟨w.heap.size+1,0,none⟩=some (.int .i64 0)/\(W.setRow w.heap.size (dA N0 N1 x2 A k c s).toArray).frozen? ⟨w.heap.size+1,0,none⟩=false:=by
 have he:aQ (W.setRow w.heap.size (dA N0 N1 x2 A k c s).toArray) (w.heap.size+1) 36 #[.int .i64 0]:=(setRow_other _ _ _ _ aA).trans h.p.e;exact⟨he.cell (k:=0) rfl,frozen_of_row _ _ 0 _ _ he⟩
theorem PcS.byte{w W:World}{F:List ByteArray}{n:Nat}{N0 N1:Int}{x2:ByteArray}{s:List Nat}{k:Nat}{L:List CoM}{A:Option Addr}{c i:Nat}(h:PcS w F n N0 N1 x2 s k L A c W)(hs:s.length=16)(hi:i<16):∃ v,W.cell? ⟨w.heap.size,4+i,none⟩=some v:=by
 have hsz:=h.size hs;exact⟨_,h.p.t.cell (k:=4+i) (Array.getElem?_eq_getElem aA)⟩
theorem PcS.fits{w W:World}{F:List ByteArray}{n:Nat}{N0 N1:Int}{x2:ByteArray}{s:List Nat}{k:Nat}{L:List CoM}{A:Option Addr}{c:Nat}(h:PcS w F n N0 N1 x2 s k L A c W)(hF:∀ x∈F,x.size<=100000):∀ y∈L,dG y.c:=by
 intro y hy;have hm:y.c∈((gV F).take k).map cvF:=by rw[<-h.val];exact List.mem_map_of_mem hy
 obtain⟨x,hx,e⟩:=List.mem_map.1 hm;rw[<-e];have:=aFz x (hF x (List.mem_of_mem_drop (List.mem_of_mem_take hx)));rw[<-aCw]at this;exact this
theorem aIl{l:List UInt8}{i:Nat}(h:∀ j,j<i->nH l j)(hi:nH l i):∀ j,j<i+1->nH l j:=fun j hj=>by
 by_cases e:j=i
 ·rw[e];exact hi
 ·exact h j aA
end Go.Proofs.YtlkbkclnbppigaaGreatDoor
