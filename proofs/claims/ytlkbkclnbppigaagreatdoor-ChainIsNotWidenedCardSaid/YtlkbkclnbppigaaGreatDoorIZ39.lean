/- chain.Parse: what stands when, in plain words. -/
import Derived.Test.YtlkbkclnbppigaaGreatDoorIZ38
import Derived.Test.YtlkbkclnbppigaaGreatDoorIZ29
namespace Go.Proofs.YtlkbkclnbppigaaGreatDoor
open Tryz
open Go.RowKit Go.Sort
set_option linter.unusedVariables false
set_option linter.unusedSimpArgs false
set_option maxRecDepth 100000
theorem ZE{s:aC}(hs:s.size<=131072)(h:nU s=none):pz s=(iK,3):=by unfold pz;rw[if_neg aB,h]
theorem OD{s:aC}{t:bz}(hs:s.size<=131072)(h:nU s=some t):pz s=(t,0):=by unfold pz;rw[if_neg aB,h]
def jD(w:World):Exit->Act->World->Prop
 | .panic c,a,W=>c=tN/\a.defers=tY w/\a.tmps.getD 2 undef=.pointer (some ⟨w.heap.size,0,none⟩)/\a.tmps.getD 3 undef=.pointer (some ⟨w.heap.size+1,0,none⟩)/\PaS w bf 0 W
 | _,_,_=>False
theorem OE(l:Array Value)(d k:Nat)(v u:Value)(h:d≠k):(l.setIfInBounds d v).getD k u=l.getD k u:=by
 rw[Array.getD_eq_getD_getElem?,Array.getD_eq_getD_getElem?,Array.getElem?_setIfInBounds_ne h]
theorem jD.put{w W:World}{c:List PanicEntry}{a:Act}{d:Tmp}{v:Value}(h2:d≠2)(h3:d≠3)(h:jD w (.panic c) (a.put (some d) v) W):jD w (.panic c) a W:=by
 obtain⟨e1,e2,e3,e4,e5⟩:=h;refine⟨e1,e2,?_,?_,e5⟩
 ·rw[<-e3];exact (OE _ _ _ _ _ h2).symm
 ·rw[<-e4];exact (OE _ _ _ _ _ h3).symm
theorem jD.dies{w W:World}{c:List PanicEntry}{a:Act}{R:Ending->World->Prop}(hR:R=jQ iK 3 w)(h:jD w (.panic c) a W):bodyPostD prog Tryz.f37 R (.panic c) a W:=by
 obtain⟨rfl,e2,e3,e4,e5⟩:=h;obtain⟨tmps,defers⟩:=a;obtain rfl:defers=tY w:=e2;rw[hR];exact tZ e5 rfl e3 e4
def fB(F:List aC):List aC:=F.drop 3
def cvF(x:aC):aY:=(eF x).getD ed
theorem OG{F:List aC}{k:Nat}{x:aC}(h:F[3+k]? = some x):(fB F)[k]? = some x:=by unfold fB;rw[List.getElem?_drop];exact h
theorem ZG{F:List aC}{k:Nat}{x:aC}(h:F[3+k]? = some x):(fB F).take (k+1)=(fB F).take k++[x]:=by rw[List.take_add_one,OG h];rfl
theorem zC{F:List aC}{n:Nat}{z:aC}(hn:F.length=n)(h0:5<=n)(h1:n<=20)(hz:F[n-1]? = some z) :
  okF eF F=true↔((∀ x∈(fB F).take (n-4),(eF x).isSome=true)/\z.size=32/\(lU z.data.toList).isSome=true):=by
 have hl:F.getLastD aT=z:=by
  rw[List.getLastD_eq_getLast?,List.getLast?_eq_getElem?,hn,hz];rfl
 have hd:(F.drop 3).dropLast=(fB F).take (n-4):=by
  unfold fB;rw[List.dropLast_eq_take,List.length_drop,hn];congr 1
 unfold okF;rw[hl,hd];simp only[Bool.and_eq_true,decide_eq_true_eq,List.all_eq_true];constructor
 ·rintro⟨⟨⟨_,a⟩,b⟩,c⟩;exact⟨a,b,c⟩
 ·rintro⟨a,b,c⟩;exact⟨⟨⟨aB,a⟩,b⟩,c⟩
theorem ZH{F:List aC}{n:Nat}{z x0 x1 x2:aC}(hn:F.length=n)(h0:5<=n)(hz:F[n-1]? = some z)(e0:F.getD 0 aT=x0)(e1:F.getD 1 aT=x1)(e2:F.getD 2 aT=x2){s:List Nat}(hs:lU z.data.toList=some s) :
  sO af eF F=⟨af x0,af x1,x2,((fB F).take (n-4)).map cvF,s⟩:=by
 have hl:F.getLastD aT=z:=by
  rw[List.getLastD_eq_getLast?,List.getLast?_eq_getElem?,hn,hz];rfl
 have hd:(F.drop 3).dropLast=(fB F).take (n-4):=by
  unfold fB;rw[List.dropLast_eq_take,List.length_drop,hn];congr 1
 unfold sO;rw[hl,hd,e0,e1,e2,hs];rfl
theorem Dj{W W':World}{g s n:Nat}{A:Option Addr}{vs:List Value}(hg:W.grownBy W' (some g))(h:aI W s A n vs)(ha:0<n->∀ a,A=some a->a.block≠g):aI W' s A n vs:=by
 refine⟨h.1,fun hn=>?_⟩;obtain⟨b,o,rfl,hc⟩:=h.2 hn;refine⟨b,o,rfl,fun j u hu=>?_⟩;have h0:=hc j u hu;have hlt:b<W.heap.size:=bu h0;unfold World.cell? at h0 ⊢;rw[hg.block b hlt (fun e=>ha hn _ rfl (Option.some.inj e))];exact h0
structure PcS(w:World)(F:List aC)(n:Nat)(N0 N1:Int)(x2:aC)(s:List Nat)(k:Nat)(L:List CoM)(A:Option Addr)(c:Nat)(W:World):Prop where
 p:PaS w (bn N0 N1 x2 A k c s).toArray 0 W
 r:aI W 1 (some ⟨w.heap.size+2,0,none⟩) n (F.map .string)
 own:W.ownsRow (w.heap.size+3) 27 7 (.slice A k c) k (L.flatMap CoM.cells)
 each:∀ y∈L,dA W y.c y.m
 fresh:∀ y∈L,sZ (w.heap.size+3) y.c y.m
 apart:∀ y∈L,∀ g,(Value.slice A k c).ownBlock=some g->fA g y.c y.m
 len:L.length=k
 val:L.map (·.c)=((fB F).take k).map cvF
 ok:∀ x∈(fB F).take k,(eF x).isSome=true
 sz:w.heap.size+3<=W.heap.size
theorem PcS.keep{w W W':World}{F:List aC}{n:Nat}{N0 N1:Int}{x2:aC}{s:List Nat}{k:Nat}{L:List CoM}{A:Option Addr}{c:Nat}(h:PcS w F n N0 N1 x2 s k L A c W)(hb:aF W W'):PcS w F n N0 N1 x2 s k L A c W' :=
 ⟨h.p.keep hb (by have:=h.sz;omega),h.r.keep hb,fZ h.own hb,fun y hy=>(h.each y hy).keep hb,h.fresh,h.apart,h.len,h.val,h.ok,Nat.le_trans h.sz hb.size⟩
theorem PcS.size{w W:World}{F:List aC}{n:Nat}{N0 N1:Int}{x2:aC}{s:List Nat}{k:Nat}{L:List CoM}{A:Option Addr}{c:Nat}(h:PcS w F n N0 N1 x2 s k L A c W)(hs:s.length=16):(bn N0 N1 x2 A k c s).toArray.size=20:=DR _ _ _ _ _ _ _ hs
theorem PcS.field{w W:World}{F:List aC}{n:Nat}{N0 N1:Int}{x2:aC}{s:List Nat}{k:Nat}{L:List CoM}{A:Option Addr}{c:Nat}(h:PcS w F n N0 N1 x2 s k L A c W){j:Nat}{x:aC}(hj:F[j]? = some x)(hn:0<n):W.cell? ⟨w.heap.size+2,j,none⟩=some (.string x):=by
 obtain⟨b,o,e,hc⟩:=h.r.2 hn;injection e with e
 injection e with e1 e2
 subst e1;subst e2;have:=hc j (.string x) (by rw[List.getElem?_map,hj];rfl)
 rwa [Nat.zero_add]at this
theorem PcS.row3{w W:World}{F:List aC}{n:Nat}{N0 N1:Int}{x2:aC}{s:List Nat}{k:Nat}{L:List CoM}{A:Option Addr}{c:Nat}(h:PcS w F n N0 N1 x2 s k L A c W):W.cell? ⟨w.heap.size,3,none⟩=some (.slice A k c):=h.p.t.cell (k:=3) rfl
theorem PcS.free{w W:World}{F:List aC}{n:Nat}{N0 N1:Int}{x2:aC}{s:List Nat}{k:Nat}{L:List CoM}{A:Option Addr}{c:Nat}(h:PcS w F n N0 N1 x2 s k L A c W)(j:Nat):W.frozen? ⟨w.heap.size,j,none⟩=false:=frozen_of_row _ _ j _ _ h.p.t
theorem PcS.grown{w W W':World}{F:List aC}{n:Nat}{N0 N1:Int}{x2 x:aC}{s:List Nat}{k:Nat}{L:List CoM}{A:Option Addr}{c:Nat}{y:CoM}{g cap:Nat}(h:PcS w F n N0 N1 x2 s k L A c W)(hn:0<n)
  (hx:F[3+k]? = some x) (hr:(eF x).isSome=true) (hyc:y.c=cvF x) (hy:dA W y.c y.m) (hyf:sZ (w.heap.size+3) y.c y.m) (hya:∀ g,(Value.slice A k c).ownBlock=some g->fA g y.c y.m)
  (hown:W'.ownsRow (w.heap.size+3) 27 7 (.slice (some ⟨g,0,none⟩) (k+1) cap) (k+1) (L.flatMap CoM.cells++y.cells)) (hg:W.grownBy W' (Value.slice A k c).ownBlock) (hgg:(Value.slice A k c).ownBlock=some g\/g=W.heap.size) :
  PcS w F n N0 N1 x2 s (k+1) (L++[y]) (some ⟨g,0,none⟩) cap (W'.setCell ⟨w.heap.size,3,none⟩ (.slice (some ⟨g,0,none⟩) (k+1) cap)):=by
 have hlo:∀ r,(Value.slice A k c).ownBlock=some r->w.heap.size+3<=r/\r<W.heap.size:=fun r hr=>h.own.lt r hr
 have hsz:=h.sz;have hlow:Below (w.heap.size+3) W W':=(Below.refl _ _).grown hg hsz (fun r hr=>(hlo r hr).1);have hcond:∀ z:CoM,dA W z.c z.m->(∀ g,(Value.slice A k c).ownBlock=some g->fA g z.c z.m)->dA W' z.c z.m:=by
  intro z hz ha;cases hob:(Value.slice A k c).ownBlock with
  | none =>
   rw[hob]at hg;exact hz.keep ((Below.refl _ _).grown hg (Nat.le_refl _) (fun r hr=>by cases hr))
  | some g0 =>
   rw[hob]at hg;have hag:=ha g0 hob;exact⟨Dj hg hz.cl (fun h0 a he=>hag.cl h0 a he),Dj hg hz.co (fun h0 a he=>hag.co h0 a he),Dj hg hz.si (fun h0 a he=>hag.si h0 a he)⟩
 have hap:∀ z:CoM,dA W z.c z.m->(∀ g,(Value.slice A k c).ownBlock=some g->fA g z.c z.m)->fA g z.c z.m:=by
  intro z hz ha;rcases hgg with hgg | hgg
  ·exact ha g hgg
  ·exact fA.of_reads hz aB
 have hother:∀ j,j≠w.heap.size->(W'.setCell ⟨w.heap.size,3,none⟩ (.slice (some ⟨g,0,none⟩) (k+1) cap)).heap[j]? = W'.heap[j]?:=fun j hj=>heap_setCell_other _ _ _ _ hj
 have hp':=h.p.keep hlow aB;have hset:(bn N0 N1 x2 A k c s).toArray.setIfInBounds 3 (.slice (some ⟨g,0,none⟩) (k+1) cap)=(bn N0 N1 x2 (some ⟨g,0,none⟩) (k+1) cap s).toArray:=by
  rw[List.setIfInBounds_toArray];rfl
 have hgl:w.heap.size+3<=g:=by
  rcases hgg with hgg | hgg
  ·exact (hlo g hgg).1
  ·omega
 have hW'sz:w.heap.size+3<=W'.heap.size:=Nat.le_trans hsz hlow.size;have hm:=ZG hx;refine⟨⟨?_,?_,?_⟩,?_,?_,?_,?_,?_,?_,?_,?_,?_⟩
 ·rw[<-hset];exact heap_setCell_same _ _ _ _ _ _ hp'.t
 ·exact (hother _ aB).trans hp'.e
 ·exact hp'.b.setCell (p:=⟨w.heap.size,3,none⟩) (Nat.le_refl _) _
 ·have hrr:aI W' 1 (some ⟨w.heap.size+2,0,none⟩) n (F.map .string):=DF h.r hlow (fun _ a e=>by injection e with e;subst e;show w.heap.size+2<_;omega);exact qw (g:=w.heap.size) (fun j hj=>hother j hj) hrr (fun _ a e=>zD)
 ·have e:(L++[y]).flatMap CoM.cells=L.flatMap CoM.cells++y.cells:=aH;rw[e];obtain⟨h1,h2⟩:=hown;refine⟨h1,?_⟩;rcases h2 with ⟨h3,_⟩ | ⟨g2,cap2,cur,e2,hb,hh,hr⟩
  ·cases h3
  ·injection e2 with e3 e4 e5
   injection e3 with e3
   injection e3 with e3
   subst e3;subst e5;exact .inr ⟨g,cap,cur,rfl,hb,(hother _ aB).trans hh,hr⟩
 ·intro z hz;rcases List.mem_append.1 hz with hz | hz
  ·exact tJ (g:=w.heap.size) (fun j hj=>hother j hj) (hcond z (h.each z hz) (h.apart z hz)) (fA.of_fresh (h.fresh z hz) aB)
  ·rw[List.mem_singleton.1 hz];exact tJ (g:=w.heap.size) (fun j hj=>hother j hj) (hcond y hy hya) (fA.of_fresh hyf aB)
 ·intro z hz;rcases List.mem_append.1 hz with hz | hz
  ·exact h.fresh z hz
  ·rw[List.mem_singleton.1 hz];exact hyf
 ·intro z hz g2 hg2;have e:g=g2:=Option.some.inj hg2;subst e;rcases List.mem_append.1 hz with hz | hz
  ·exact hap z (h.each z hz) (h.apart z hz)
  ·rw[List.mem_singleton.1 hz];exact hap y hy hya
 ·rw[List.length_append,h.len];rfl
 ·rw[hm,List.map_append,List.map_append,h.val];show _++[y.c]=_++[cvF x];rw[hyc]
 ·rw[hm];intro z hz;rcases List.mem_append.1 hz with hz | hz
  ·exact h.ok z hz
  ·rw[List.mem_singleton.1 hz];exact hr
 ·show _<=(W'.setCell _ _).heap.size;rw[World.size_setCell];exact hW'sz
theorem PcS.put{w W:World}{F:List aC}{n:Nat}{N0 N1:Int}{x2:aC}{l:List UInt8}{i k:Nat}{L:List CoM}{A:Option Addr}{c:Nat}(h:PcS w F n N0 N1 x2 (jg l i) k L A c W)(hi:i<16) :
  PcS w F n N0 N1 x2 (jg l (i+1)) k L A c (W.setCell ⟨w.heap.size,4+i,none⟩ (.int .u8 (uhV l i:Int))):=by
 have hother:∀ j,j≠w.heap.size->(W.setCell ⟨w.heap.size,4+i,none⟩ (.int .u8 (uhV l i:Int))).heap[j]? = W.heap[j]?:=fun j hj=>heap_setCell_other _ _ _ _ hj
 refine⟨⟨?_,?_,?_⟩,?_,?_,?_,h.fresh,h.apart,h.len,h.val,h.ok,?_⟩
 ·rw[<-Xa _ _ _ _ _ _ _ _ hi];exact heap_setCell_same _ _ _ _ _ _ h.p.t
 ·exact (hother _ aB).trans h.p.e
 ·exact h.p.b.setCell (p:=⟨w.heap.size,4+i,none⟩) (Nat.le_refl _) _
 ·exact qw (g:=w.heap.size) (fun j hj=>hother j hj) h.r (fun _ a e=>zD)
 ·obtain⟨h1,h2⟩:=h.own;refine⟨h1,?_⟩;rcases h2 with h3 | ⟨g2,cap2,cur,e2,hb,hh,hr⟩
  ·exact .inl h3
  ·exact .inr ⟨g2,cap2,cur,e2,hb,(hother _ aB).trans hh,hr⟩
 ·intro z hz;exact tJ (g:=w.heap.size) (fun j hj=>hother j hj) (h.each z hz) (fA.of_fresh (h.fresh z hz) aB)
 ·show _<=(W.setCell _ _).heap.size;rw[World.size_setCell];exact h.sz
theorem PcS.tok{w W:World}{F:List aC}{n:Nat}{N0 N1:Int}{x2:aC}{s:List Nat}{k:Nat}{L:List CoM}{A:Option Addr}{c:Nat}(h:PcS w F n N0 N1 x2 s k L A c W)(hs:dm s) :
  bZ W ⟨⟨N0,N1,x2,((fB F).take k).map cvF,s⟩,A,c,L⟩/\(⟨⟨N0,N1,x2,((fB F).take k).map cvF,s⟩,A,c,L⟩:ah).cells.toArray=(bn N0 N1 x2 A k c s).toArray/\(((fB F).take k).map cvF).length=k:=by
 have hl:(((fB F).take k).map cvF).length=k:=by rw[<-h.val,List.length_map];exact h.len
 have hrd:aI W 7 A k (L.flatMap CoM.cells)/\k<=c:=by
  refine⟨aI.of_own h.own,?_⟩;rcases h.own.2 with ⟨e,_⟩ | ⟨g2,cap2,cur,e,hb,hh,hnc,_⟩
  ·injection e with e3 e4 e5
   omega
  ·injection e with e3 e4 e5
   omega
 refine⟨⟨h.val,⟨?_,?_,h.each⟩,hs,?_⟩,?_,hl⟩
 ·show L.length=(((fB F).take k).map cvF).length;rw[hl];exact h.len
 ·show aI W 7 A (((fB F).take k).map cvF).length _;rw[hl];exact hrd.1
 ·show (((fB F).take k).map cvF).length<=c;rw[hl];exact hrd.2
 ·unfold ah.cells;show (bn N0 N1 x2 A (((fB F).take k).map cvF).length c s).toArray=_;rw[hl]
theorem ZI(c:aY)(m:ae)(W:World):(Instr.buildSlice 28 1 #[(0,.agg (dS c m))]).run prog W=.ok (.slice (some ⟨W.heap.size,0,none⟩) 1 1) (W.alloc (.cells (dS c m) 27)):=by kernel_rfl
theorem ZJ{F:List aC}{n k:Nat}{x:aC}(hx:F[3+k]? = some x)(hk:k<n-4)(hr:(eF x).isSome=false):¬ ∀ y∈(fB F).take (n-4),(eF y).isSome=true:=by
 intro h;have hm:((fB F).take (n-4))[k]? = some x:=by rw[List.getElem?_take_of_lt hk];exact OG hx
 have:=h x (List.mem_of_getElem? hm);rw[hr]at this;cases this
theorem OH(W:World)(z:aC)(j:Nat)(h:j<z.size):(Instr.index 9 (.string z) (.int .i64 (j:Int))).run prog W=.ok (.int .u8 ((z.data.toList.getD j 0).toNat:Int)) W:=by
 have h1:=run_underlying underlying9 W;have hl:j<z.data.toList.length:=uf;have key:z[j]? = some (z.data.toList.getD j 0):=by
  rw[getElem?_pos z j h,SE z j h,List.getD_eq_getElem?_getD,List.getElem?_eq_getElem hl];rfl
 have h5:(0:Int)<=(j:Int):=aB;simp[Instr.index,asIntOf,h1,key,h5,go_sem]
theorem ZL(W:World)(z:aC)(i:Nat)(h:z.size=32)(hi:i<16):(Instr.index 9 (.string z) (.int .i64 (2*(i:Int)))).run prog W=.ok (.int .u8 ((uhA z.data.toList i).toNat:Int)) W:=by
 have:=OH W z (2*i) aB
 rwa [show ((2*i:Nat):Int)=2*(i:Int) by omega]at this
theorem ZN(W:World)(z:aC)(i:Nat)(h:z.size=32)(hi:i<16):(Instr.index 9 (.string z) (.int .i64 (2*(i:Int)+1))).run prog W=.ok (.int .u8 ((uhB z.data.toList i).toNat:Int)) W:=by
 have:=OH W z (2*i+1) aB
 rwa [show ((2*i+1:Nat):Int)=2*(i:Int)+1 by omega]at this
theorem ZO(b:UInt8)(W:World):Calls prog 79 #[.string ⟨#[48,49,50,51,52,53,54,55,56,57,97,98,99,100,101,102]⟩,.int .u8 (b.toNat:Int)] W fun e w'=>e=.returned (.int .i64 (gy b))/\w'=W:=by
 have h:=strings_IndexByte ⟨#[48,49,50,51,52,53,54,55,56,57,97,98,99,100,101,102]⟩ (b.toNat:Int) W;rw[show ((b.toNat:Int)).toNat.toUInt8=b by simp]at h;rw[show (⟨#[48,49,50,51,52,53,54,55,56,57,97,98,99,100,101,102]⟩:aC).data.toList=[48,49,50,51,52,53,54,55,56,57,97,98,99,100,101,102] from rfl,XR]at h;exact h
theorem PcS.chg{w W W':World}{F:List aC}{n:Nat}{N0 N1:Int}{x2:aC}{s s':List Nat}{k:Nat}{L:List CoM}{A:Option Addr}{c g:Nat}(h:PcS w F n N0 N1 x2 s k L A c W)(hg:g<w.heap.size+2)(ho:∀ j,j≠g->W'.heap[j]? = W.heap[j]?)
  (hp:PaS w (bn N0 N1 x2 A k c s').toArray 0 W') (hsz:W'.heap.size=W.heap.size):PcS w F n N0 N1 x2 s' k L A c W':=by
 refine⟨hp,?_,?_,?_,h.fresh,h.apart,h.len,h.val,h.ok,by rw[hsz];exact h.sz⟩
 ·exact qw (g:=g) ho h.r (fun _ a e=>zD)
 ·obtain⟨h1,h2⟩:=h.own;refine⟨h1,?_⟩;rcases h2 with h3 | ⟨g2,cap2,cur,e2,hb,hh,hr⟩
  ·exact .inl h3
  ·exact .inr ⟨g2,cap2,cur,e2,hb,(ho _ aB).trans hh,hr⟩
 ·intro z hz;exact tJ (g:=g) ho (h.each z hz) (fA.of_fresh (h.fresh z hz) aB)
theorem PcS.fin{w W:World}{F:List aC}{n:Nat}{N0 N1:Int}{x2:aC}{s:List Nat}{k:Nat}{L:List CoM}{A:Option Addr}{c:Nat}(h:PcS w F n N0 N1 x2 s k L A c W) :
  PcS w F n N0 N1 x2 s k L A c ((W.setRow w.heap.size (bn N0 N1 x2 A k c s).toArray).setCell ⟨w.heap.size+1,0,none⟩ (.int .i64 0)):=by
 have hP1:PaS w (bn N0 N1 x2 A k c s).toArray 0 (W.setRow w.heap.size (bn N0 N1 x2 A k c s).toArray):=⟨setRow_heap _ _ _ _ _ _ h.p.t,(setRow_other _ _ _ _ aB).trans h.p.e,below_setRow h.p.b (Nat.le_refl _) _⟩;have h1:=h.chg (g:=w.heap.size) aB (fun j hj=>setRow_other _ _ _ _ hj) hP1 (size_setRow _ _ _);exact h1.chg (g:=w.heap.size+1) aB (fun j hj=>heap_setCell_other _ _ _ _ hj) hP1.sete (World.size_setCell _ _ _)
theorem PcS.err{w W:World}{F:List aC}{n:Nat}{N0 N1:Int}{x2:aC}{s:List Nat}{k:Nat}{L:List CoM}{A:Option Addr}{c:Nat}(h:PcS w F n N0 N1 x2 s k L A c W) :
  (W.setRow w.heap.size (bn N0 N1 x2 A k c s).toArray).cell? ⟨w.heap.size+1,0,none⟩=some (.int .i64 0)/\(W.setRow w.heap.size (bn N0 N1 x2 A k c s).toArray).frozen? ⟨w.heap.size+1,0,none⟩=false:=by
 have he:aQ (W.setRow w.heap.size (bn N0 N1 x2 A k c s).toArray) (w.heap.size+1) 36 #[.int .i64 0]:=(setRow_other _ _ _ _ aB).trans h.p.e;exact⟨he.cell (k:=0) rfl,frozen_of_row _ _ 0 _ _ he⟩
theorem PcS.byte{w W:World}{F:List aC}{n:Nat}{N0 N1:Int}{x2:aC}{s:List Nat}{k:Nat}{L:List CoM}{A:Option Addr}{c i:Nat}(h:PcS w F n N0 N1 x2 s k L A c W)(hs:s.length=16)(hi:i<16):∃ v,W.cell? ⟨w.heap.size,4+i,none⟩=some v:=by
 have hsz:=h.size hs;exact⟨_,h.p.t.cell (k:=4+i) (Array.getElem?_eq_getElem aB)⟩
theorem PcS.fits{w W:World}{F:List aC}{n:Nat}{N0 N1:Int}{x2:aC}{s:List Nat}{k:Nat}{L:List CoM}{A:Option Addr}{c:Nat}(h:PcS w F n N0 N1 x2 s k L A c W)(hF:∀ x∈F,x.size<=100000):∀ y∈L,dE y.c:=by
 intro y hy;have hm:y.c∈((fB F).take k).map cvF:=by rw[<-h.val];exact List.mem_map_of_mem hy
 obtain⟨x,hx,e⟩:=List.mem_map.1 hm;rw[<-e];have:=Xu x (hF x (List.mem_of_mem_drop (List.mem_of_mem_take hx)));rw[<-Vp]at this;exact this
theorem ZP{l:List UInt8}{i:Nat}(h:∀ j,j<i->kY l j)(hi:kY l i):∀ j,j<i+1->kY l j:=fun j hj=>by
 by_cases e:j=i
 ·rw[e];exact hi
 ·exact h j aB
end Go.Proofs.YtlkbkclnbppigaaGreatDoor
