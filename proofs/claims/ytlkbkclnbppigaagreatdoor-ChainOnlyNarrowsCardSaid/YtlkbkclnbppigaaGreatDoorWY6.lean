/- A signed address that is narrowed step by step: what each function answers for it, and how it stays while another box is written. -/
import Derived.Test.YtlkbkclnbppigaaGreatDoorISan25
import Derived.Test.YtlkbkclnbppigaaGreatDoorWY5
import Derived.Test.YtlkbkclnbppigaaGreatDoorCards
import Derived.Test.YtlkbkclnbppigaaGreatDoorTie
set_option maxHeartbeats 32000000
namespace Go.Proofs.YtlkbkclnbppigaaGreatDoor
open _root_.Go.Proofs.Tryz _root_.Go.Proofs.YtlkbkclnbppigaaGreatDoor.Tryz
open Go.RowKit Go.Sort
set_option linter.unusedVariables false
set_option linter.unusedSimpArgs false
set_option maxRecDepth 100000
structure FM(k:aj)(id:aC)(L:List CoM)(a:dN):Prop where
 k:lQ k=true
 id:id.size<=200
 n:L.length<=16
 co:∀ x∈L,kD x.c
 a:lD a
def csL(L:List CoM)(j:Nat):List aY:=(L.take j).map (·.c)
structure DX(k:aj)(id:aC)(L:List CoM)(j:Nat)(W:World)(y:ah):Prop where
 r:bZ W y
 t:y.t=lS k id (csL L j)
 l:y.L=L.take j
theorem DX.keep{k:aj}{id:aC}{L:List CoM}{j:Nat}{W W':World}{y:ah}(h:DX k id L j W y)(hb:aF W W'):DX k id L j W' y:=⟨h.r.keep hb,h.t,h.l⟩
theorem aGb{L:List CoM}{j:Nat}(h:j<=L.length):(csL L j).length=j:=by unfold csL;rw[List.length_map,List.length_take];omega
theorem aEh{L:List CoM}{j:Nat}{u:CoM}(h:L[j]? = some u):csL L (j+1)=csL L j++[u.c]:=by
 unfold csL;rw[List.take_add_one,h,List.map_append];rfl
theorem aCm{L:List CoM}{j:Nat}(h1:1<=j)(h:j<=L.length):csL L j ≠ []:=fun e=>by
 have:=aGb h
 rw[e]at this
 simp at this;omega
theorem aQc(L:List CoM):csL L 0=[]:=rfl
theorem aKj{k:aj}{id:aC}{L:List CoM}{a:dN}(h:FM k id L a)(j:Nat):∀ c∈csL L j,kD c:=by
 intro c hc;obtain⟨x,hx,rfl⟩:=List.mem_map.1 hc;exact h.co x (List.mem_of_mem_take hx)
theorem aCw{k:aj}{id:aC}{L:List CoM}{a:dN}(h:FM k id L a)(j:Nat):∀ c∈csL L j,bF c=true/\dE c:=fun c hc=>⟨(aKj h j c hc).ok,(aKj h j c hc).fits⟩
theorem DX.co{k:aj}{id:aC}{L:List CoM}{a:dN}{j:Nat}{W:World}{y:ah}(h:DX k id L j W y)(ho:FM k id L a):∀ x∈y.L,kD x.c:=fun x hx=>ho.co x (by rw[h.l]at hx;exact List.mem_of_mem_take hx)
theorem DX.len{k:aj}{id:aC}{L:List CoM}{j:Nat}{W:World}{y:ah}(h:DX k id L j W y)(hj:j<=L.length):y.t.conds.length=j:=by rw[h.t];exact aGb hj
theorem aEi{k:aj}(h:lQ k=true):1<=k.party/\k.party<=1073741824/\1<=k.ser/\k.ser<=1073741824/\k.secret.size<=64:=by
 unfold lQ at h;have:=of_decide_eq_true h;omega
theorem aKk{k:aj}(h:lQ k=true):vM [k]:=⟨List.pairwise_singleton _ _,fun x hx=>by rw[List.mem_singleton.1 hx];exact h⟩
theorem aKl{W:World}{g:Nat}{k:aj}(h:aQ W g 23 k.arr):lV W (some ⟨g,0,none⟩) 1 [k]:=by
 refine⟨rfl,rfl,fun _=>⟨g,0,rfl,fun j u hu=>?_⟩⟩;have:=h.cell (k:=j) (v:=u) (by
  have e:([k].flatMap aj.cells)=k.arr.toList:=rfl;rw[e,Array.getElem?_toList]at hu;exact hu)
 rw[Nat.zero_add];exact this
section
variable {k:aj} {id:aC} {L:List CoM} {a:dN} {j:Nat} {W:World} {y:ah}
theorem aQd(h:FM k id L a)(hn:bU id=true){u:CoM}(hu:u∈L)(hR:dA W u.c u.m)(hL:gz W) :
  Calls prog 12 #[k.val,.string id,ae.val u.c u.m] W (tC (lS k id [u.c]) 0 [u] W):=by
 have hc:=h.co u hu;have hs:=aEi h.k;have:=X6 k id u.c u.m W hR hc.fits (fun _=>hc.tx) aB (by have:=h.id;omega) hL.k hL.e hL.t;rw[aPr h.k hn hc.ok]at this;exact this
theorem aQe(h:FM k id L a)(hn:bU id=false){u:CoM}(hu:u∈L)(hR:dA W u.c u.m)(hL:gz W) :
  Calls prog 12 #[k.val,.string id,ae.val u.c u.m] W (tC iK 1 [u] W):=by
 have hc:=h.co u hu;have hs:=aEi h.k;have:=X6 k id u.c u.m W hR hc.fits (fun _=>hc.tx) aB (by have:=h.id;omega) hL.k hL.e hL.t;rw[aPs hn]at this;exact this
theorem aQf(h:FM k id L a)(hT:DX k id L j W y)(h1:1<=j){u:CoM}(hu:L[j]? = some u)(hR:dA W u.c u.m)(hL:gz W) :
  Calls prog 17 #[y.val,ae.val u.c u.m] W (tC (lS k id (csL L (j+1))) 0 (L.take (j+1)) W):=by
 have hjl:j<L.length:=(List.getElem?_eq_some_iff.1 hu).1;have hc:=h.co u (List.mem_of_getElem? hu);have hlen:=hT.len aB;have hn:=h.n;have:=YL y u.c u.m W hT.r hR hc.fits (fun _=>hc.tx) aB aB hL.k hL.e hL.t;rw[hT.t,aPu (aCm h1 aB) hc.ok (by rw[aGb aB];omega),<-aEh hu,hT.l,show L.take j++[(⟨u.c,u.m⟩:CoM)]=L.take (j+1) by rw[List.take_add_one,hu];rfl]at this;exact this
theorem aEj(h:FM k id L a):InK k.party/\InK k.ser:=by have:=aEi h.k;unfold InK;omega
theorem aQg(h:FM k id L a)(hT:DX k id L j W y)(h1:1<=j)(hj:j<=L.length){g:Nat}(hg:aQ W g 23 k.arr)(hL:gz W) :
  Calls prog 29 #[.slice (some ⟨g,0,none⟩) 1 1,y.val,a.val] W (Ret W (.int .i64 (iY [k] (lS k id (csL L j)) a))):=by
 have hlen:=hT.len hj;have hn:=h.n;have:=Yp (some ⟨g,0,none⟩) 1 1 [k] y a W (aKl hg) aK (aKk h.k) hT.r (hT.co h) h.a aB aB aGc (by rw[hT.t];exact (aEj h).1) (by rw[hT.t];exact (aEj h).2) hL.k hL.e hL.t;rw[hT.t]at this;exact this
theorem aQh(h:FM k id L a)(hT:DX k id L j W y)(h1:1<=j)(hj:j<=L.length){g:Nat}(hg:aQ W g 23 k.arr)(hL:gz W) :
  Calls prog 27 #[.slice (some ⟨g,0,none⟩) 1 1,y.val,pK a.lo a.hi] W (Ret W (.int .i64 (if lT k a.lo a.hi then 0 else 9))):=by
 have hlen:=hT.len hj;have hn:=h.n;have:=Yj (some ⟨g,0,none⟩) 1 1 [k] y a.lo a.hi W (aKl hg) aK (aKk h.k) hT.r (hT.co h) aB aB aGc (by rw[hT.t];exact (aEj h).1) (by rw[hT.t];exact (aEj h).2) hL.k hL.e hL.t;rw[hT.t,aKg]at this;exact this
theorem aKm(h:FM k id L a)(hT:DX k id L j W y)(h1:1<=j)(hj:j<=L.length)(hL:gz W) :
  Calls prog 19 #[y.val] W (zA (sH (csL L j)) W):=by
 have hlen:=hT.len hj;have hn:=h.n;have:=NZ y W hT.r (fun x hx=>(hT.co h x hx).ok) (fun x hx=>(hT.co h x hx).fits) aB aB hL.e;rw[hT.t]at this;exact this
theorem aKn(h:FM k id L a)(hT:DX k id L j W y)(hL:gz W) :
  Calls prog 22 #[y.val] W (Ret W (.agg (b8 (jR (lS k id []))).toArray)):=by
 have hs:=aEi h.k;have:=Nw y W (by rw[hT.t];show 0<=k.party/\k.party<=_;omega) (by rw[hT.t];show 0<=k.ser/\k.ser<=_;omega) aGc hT.r.sl hL.k hL.t;rw[hT.t,aPw k id _ []]at this;exact this
theorem aQi(h:FM k id L a)(h1:1<=j)(hj:j<=L.length){m:ae}(hm:dA W (sH (csL L j)) m)(hL:gz W) :
  Calls prog 41 #[ae.val (sH (csL L j)) m,a.val] W (Ret W (.bool ((csL L j).all fun c=>fM c a))):=by
 have hk:=aEg (aCm h1 hj) (aCw h j);have:=U9 (sH (csL L j)) m a W hm hk.2 h.a hL.e;rw[aPy (aCm h1 hj) (aCw h j)]at this;exact this
theorem aQj(h:FM k id L a)(h1:1<=j)(hj:j+1<=L.length){m1 m0:ae}(hm1:dA W (sH (csL L (j+1))) m1)(hm0:dA W (sH (csL L j)) m0)(hL:gz W) :
  Calls prog 42 #[ae.val (sH (csL L (j+1))) m1,ae.val (sH (csL L j)) m0] W (Ret W (.tuple #[.bool true,.int .i64 0])):=by
 have k1:=aEg (aCm aB hj) (aCw h (j+1));have k0:=aEg (aCm h1 aB) (aCw h j);obtain⟨u,hu⟩:∃ u,L[j]? = some u:=⟨_,List.getElem?_eq_getElem aB⟩;have:=aOa _ _ m1 m0 W hm1 hm0 k1.2 k0.2 k1.1 k0.1 hL.e;rw[show IB (sH (csL L (j+1))) (sH (csL L j))=true by rw[aEh hu];exact aPz (aCm h1 aB) (aCw h j) (h.co u (List.mem_of_getElem? hu)).ok]at this;exact this
end
def beN(k:aj)(L:List CoM)(a:dN)(j:Nat):Int:=if j=0 then 0 else if lT k a.lo a.hi then (if (csL L j).all fun c=>fM c a then 0 else 250) else 9
theorem aQk(k:aj)(id:aC)(L:List CoM)(a:dN){j:Nat}(h:1<=j):iY [k] (lS k id (csL L j)) a=beN k L a j:=by
 unfold beN;rw[aPv,if_neg (show ¬ j=0 by omega)]
theorem aQl(k:aj)(L:List CoM)(a:dN):beN k L a 0=0:=rfl
theorem aQm{k:aj}{L:List CoM}{a:dN}{j:Nat}{u:CoM}(hu:L[j]? = some u)(h:beN k L a (j+1)=0):beN k L a j=0:=by
 unfold beN at h ⊢;rw[if_neg aB]at h;split
 ·rfl
 ·cases hc:lT k a.lo a.hi
  ·rw[hc]at h;simp at h
  ·rw[hc]at h;rw[if_pos rfl]at h ⊢;rw[aEh hu,List.all_append]at h;cases hq:(csL L j).all fun c=>fM c a
   ·rw[hq]at h;simp at h
   ·rfl
theorem aKo{W W':World}{y:ah}{g:Nat}(ho:∀ k,k≠g->W'.heap[k]? = W.heap[k]?)(h:bZ W y)(ha:∀ a,y.A=some a->a.block≠g)(hc:∀ x∈y.L,dA W' x.c x.m):bZ W' y :=
 ⟨h.same,⟨h.conds.len,qw ho h.conds.rows (fun _=>ha),hc⟩,h.sl,h.cap⟩
structure YC(w:World)(K X:Array Value)(W:World):Prop where
 k:aQ W w.heap.size 23 K
 a:aQ W (w.heap.size+1) 59 X
 b:aF w W
theorem YC.keep{w W W':World}{K X:Array Value}(h:YC w K X W)(hb:aF W W'):YC w K X W':=⟨h.k.keep hb,h.a.keep hb,aV h.b hb⟩
theorem YC.low{w W W':World}{K X:Array Value}{g:Nat}(h:YC w K X W)(hb:Below g W W')(hg:w.heap.size+2<=g):YC w K X W' :=
 ⟨(hb.block _ aB).trans h.k,(hb.block _ aB).trans h.a,h.b.trans (hb.mono aB)⟩
structure SB(w:World)(K X:Array Value)(gr gl:Nat)(y:ah)(W:World):Prop where
 s:YC w K X W
 r:aQ W gr 23 K
 l:aQ W gl 32 y.cells.toArray
 y:bZ W y
theorem SB.keep{w W W':World}{K X:Array Value}{gr gl:Nat}{y:ah}(h:SB w K X gr gl y W)(hb:aF W W'):SB w K X gr gl y W':=⟨h.s.keep hb,h.r.keep hb,h.l.keep hb,h.y.keep hb⟩
theorem SB.put{w W:World}{K X:Array Value}{gr gl:Nat}{y z:ah}(h:SB w K X gr gl y W)(h1:w.heap.size+2<=gr)(h2:gr<gl)(hz:bZ W z)(ha:∀ a,z.A=some a->a.block≠gl)(hc:∀ W',aF w W'->∀ x∈z.L,dA W' x.c x.m):SB w K X gr gl z (W.setRow gl z.cells.toArray):=by
 have hb:Below gl W (W.setRow gl z.cells.toArray):=below_setRow (Below.refl _ _) (Nat.le_refl _) _;have hs:=h.s.low hb aB;exact⟨hs,(hb.block _ h2).trans h.r,setRow_heap _ _ _ _ _ _ h.l,aKo (fun k hk=>setRow_other _ _ _ _ hk) hz ha (hc _ hs.b)⟩
structure NaR(k:aj)(id:aC)(L:List CoM)(w:World)(X:Array Value)(gr gl gt j:Nat)(y z:ah)(W:World):Prop where
 s:SB w k.arr X gr gl y W
 t:aQ W gt 32 z.cells.toArray
 z:DX k id L (j+1) W z
 y:1<=j->DX k id L j W y
theorem NaR.keep{k:aj}{id:aC}{L:List CoM}{w W W':World}{X:Array Value}{gr gl gt j:Nat}{y z:ah}(h:NaR k id L w X gr gl gt j y z W)(hb:aF W W'):NaR k id L w X gr gl gt j y z W':=⟨h.s.keep hb,h.t.keep hb,h.z.keep hb,fun h1=>(h.y h1).keep hb⟩
structure NaC(w:World)(S:World->Prop)(KA XA Z Y PV DG:Array Value)(gr gt gl j:Nat)(M1 M0:aY)(nb g:Int)(cnt hv:Bool):Prop where
 keep:∀ W W',S W->aF W W'->S W'
 b:∀ W,S W->aF w W
 ldK:∀ W,S W->(loadVar 23 ⟨w.heap.size,0,none⟩).run prog W=.ok (.agg KA) W
 ldA:∀ W,S W->(loadVar 59 ⟨w.heap.size+1,0,none⟩).run prog W=.ok (.agg XA) W
 ldP:∀ W,S W->(loadVar 57 ⟨w.heap.size+1,4,none⟩).run prog W=.ok (.agg PV) W
 ldT:∀ W,S W->(loadVar 32 ⟨gt,0,none⟩).run prog W=.ok (.agg Z) W
 ldL:∀ W,S W->(loadVar 32 ⟨gl,0,none⟩).run prog W=.ok (.agg Y) W
 ch:∀ W,S W->Calls prog 29 #[.slice (some ⟨gr,0,none⟩) 1 1,.agg Z,.agg XA] W (Ret W (.int .i64 nb))
 me:∀ W,S W->Calls prog 19 #[.agg Z] W (zA M1 W)
 ge:∀ W,S W->Calls prog 27 #[.slice (some ⟨gr,0,none⟩) 1 1,.agg Z,.agg PV] W (Ret W (.int .i64 g))
 cn:∀ W,S W->Calls prog 40 #[.agg KA,.agg PV] W (Ret W (.bool cnt))
 ho:∀ W m,S W->dA W M1 m->Calls prog 41 #[.agg (dS M1 m),.agg XA] W (Ret W (.bool hv))
 ml:1<=j->∀ W,S W->Calls prog 19 #[.agg Y] W (zA M0 W)
 wi:1<=j->∀ W m1 m0,S W->dA W M1 m1->dA W M0 m0->Calls prog 42 #[.agg (dS M1 m1),.agg (dS M0 m0)] W (Ret W (.tuple #[.bool true,.int .i64 0]))
 iz:∀ W,S W->Calls prog 22 #[.agg Z] W (Ret W (.agg DG))
 iy:1<=j->∀ W,S W->Calls prog 22 #[.agg Y] W (Ret W (.agg DG))
 lb:∀ W,S W->aQ W gl 32 Y
 zi:(prog.info? 32).map (·.size)=some Z.size
 zy:Y.size=Z.size
 zo:Z.all (·.oneCell')=true
theorem aCx{W:World}{y:ah}(h:bZ W y):y.cells.toArray.size=20:=by rw[List.size_toArray];exact h.size
theorem aQn{k:aj}{id:aC}{L:List CoM}{a:dN}(h:FM k id L a){w W0:World}(hL:gz w){gr gl gt j:Nat}(hj:j<L.length){y z:ah}{PV:Array Value}(hPV:pK a.lo a.hi=.agg PV)(h0:NaR k id L w (kF a).toArray gr gl gt j y z W0) :
  NaC w (NaR k id L w (kF a).toArray gr gl gt j y z) k.arr (kF a).toArray z.cells.toArray y.cells.toArray PV (b8 (jR (lS k id []))).toArray gr gt gl j (sH (csL L (j+1))) (sH (csL L j)) (beN k L a (j+1)) (if lT k a.lo a.hi then 0 else 9) (lT k a.lo a.hi) ((csL L (j+1)).all fun c=>fM c a):=by
 have hz:=aCx h0.z.r;have hy:=aCx h0.s.y;exact {
  keep:=fun W W' q hb=>q.keep hb
  b:=fun W q=>q.s.s.b
  ldK:=fun W q=>iM q.s.s.k kJ
  ldA:=fun W q=>wR q.s.s.a rfl
  ldP:=fun W q=>by rw[<-hPV];exact Yk q.s.s.a
  ldT:=fun W q=>dY q.t hz
  ldL:=fun W q=>dY q.s.l hy
  ch:=fun W q=>by rw[<-aQk k id L a aB];exact aQg h q.z aB aB q.s.r (hL.keep q.s.s.b)
  me:=fun W q=>aKm h q.z aB aB (hL.keep q.s.s.b)
  ge:=fun W q=>by rw[<-hPV];exact aQh h q.z aB aB q.s.r (hL.keep q.s.s.b)
  cn:=fun W _=>by rw[<-hPV];exact aOc k a.lo a.hi W
  ho:=fun W m q hm=>aQi h aB aB hm (hL.keep q.s.s.b)
  ml:=fun h1 W q=>aKm h (q.y h1) h1 aB (hL.keep q.s.s.b)
  wi:=fun h1 W m1 m0 q e1 e0=>aQj h h1 aB e1 e0 (hL.keep q.s.s.b)
  iz:=fun W q=>aKn h q.z (hL.keep q.s.s.b)
  iy:=fun h1 W q=>aKn h (q.y h1) (hL.keep q.s.s.b)
  lb:=fun W q=>q.s.l
  zi:=by rw[hz];exact lC
  zy:=by rw[hz,hy]
  zo:=mi _ _ _ _ _ _ _ }
theorem aQo{k:aj}{id:aC}{L:List CoM}{A:Option Addr}{n:Nat}{w:World}(hA:pW w A n L){X:Array Value}{gr gl gt j:Nat}{y z:ah}(h1:w.heap.size+2<=gr)(h2:gr<gl)(ha:∀ a,z.A=some a->a.block≠gl)(W:World)(q:NaR k id L w X gr gl gt j y z W) :
  SB w k.arr X gr gl z (W.setRow gl z.cells.toArray)/\DX k id L (j+1) (W.setRow gl z.cells.toArray) z:=by
 have hp:=q.s.put h1 h2 q.z.r ha (fun W' hb x hx=>(hA.each x (by rw[q.z.l]at hx;exact List.mem_of_mem_take hx)).keep hb);exact⟨hp,hp.y,q.z.t,q.z.l⟩
theorem aQp{k:aj}{L:List CoM}{a:dN}{j:Nat}{u:CoM}(hu:L[j]? = some u) :
  (lT k a.lo a.hi=false/\(if lT k a.lo a.hi then (0:Int) else 9)=9/\beN k L a (j+1)=9)\/(lT k a.lo a.hi=true/\(if lT k a.lo a.hi then (0:Int) else 9)=0/\beN k L a (j+1)=0/\((csL L (j+1)).all fun c=>fM c a)=true/\beN k L a j=0)\/(lT k a.lo a.hi=true/\(if lT k a.lo a.hi then (0:Int) else 9)=0/\beN k L a (j+1)=250/\((csL L (j+1)).all fun c=>fM c a)=false):=by
 have hb:beN k L a (j+1)=if lT k a.lo a.hi then (if (csL L (j+1)).all fun c=>fM c a then 0 else 250) else 9:=by unfold beN;rw[if_neg aB]
 cases hc:lT k a.lo a.hi
 ·exact .inl ⟨rfl,rfl,by rw[hb,hc];rfl⟩
 ·rw[hc,if_pos rfl]at hb;cases hh:(csL L (j+1)).all fun c=>fM c a
  ·exact .inr (.inr ⟨rfl,rfl,by rw[hb,hh];rfl,rfl⟩)
  ·have h0:beN k L a (j+1)=0:=by rw[hb,hh];rfl
   exact .inr (.inl ⟨rfl,rfl,h0,rfl,aQm hu h0⟩)
theorem aQq{k:aj}{id:aC}{L:List CoM}{W:World}{z:ah}{u:CoM}(hu:L[0]? = some u)(hr:bZ W z)(ht:z.t=lS k id [u.c])(hl:z.L=[u]):DX k id L (0+1) W z:=⟨hr,by rw[ht,aEh hu,aQc];rfl,by rw[hl,List.take_add_one,hu];rfl⟩
theorem aQr(k:aj)(W:World):(Instr.buildSlice 55 1 #[(0,.agg k.arr)]).run prog W=.ok (.slice (some ⟨W.heap.size,0,none⟩) 1 1) (W.alloc (.cells k.arr 23)):=by kernel_rfl
theorem aQs(s z:List Nat)(hs:dm s)(hz:dm z)(W:World):(binOp .neq 51 (.agg (b8 s).toArray) (.agg (b8 z).toArray)).run prog W=.ok (.bool (!decide (s=z))) W:=by
 rw[run_neq_struct,Qa s z hs hz];rfl
theorem aQt{c:aY}(hf:aBm c=true)(hv:bF c=true):kD c:=⟨aBz hf,hv,by have:=aQb hv hf;omega⟩
theorem aQu{L:List CoM}{i:Nat}{u:CoM}(hu:L[i]? = some u)(h:∀ x∈L.take i,kD x.c)(hc:kD u.c):∀ x∈L.take (i+1),kD x.c:=by
 intro x hx;rw[List.take_add_one,hu]at hx;rcases List.mem_append.1 hx with hx | hx
 ·exact h x hx
 ·rw[List.mem_singleton.1 hx];exact hc
theorem aQv(k:aj)(id:aC)(A:Option Addr)(n c:Nat)(L:List CoM)(a:dN)(w:World)(hA:pW w A n L)(hn63:n<=9223372036854775807)(hid63:id.size<=9223372036854775807)(hL:gz w) :
  Calls prog 8 #[k.val,.string id,.slice A n c,a.val] w (Ret w (.bool true)):=by
 rw[Ny,aj.val_arr];have hln:=hA.len;obtain⟨PV,hPV⟩:∃ PV,pK a.lo a.hi=.agg PV:=⟨_,rfl⟩;obtain⟨KA,hKA⟩:∃ KA,KA=k.arr:=⟨_,rfl⟩;obtain⟨XA,hXA⟩:∃ XA,XA=(kF a).toArray:=⟨_,rfl⟩;rw[<-hKA,<-hXA];obtain⟨be,hbe⟩:∃ be:Nat->Int,be=beN k L a:=⟨_,rfl⟩;obtain⟨S,hSD⟩:∃ S,S=YC w KA XA:=⟨_,rfl⟩;have hsk:∀ W W',S W->aF W W'->S W':=by rw[hSD];exact fun _ _ h hb=>h.keep hb
 have hsb:∀ W,S W->aF w W:=by rw[hSD];exact fun _ h=>h.b
 have ldK:∀ W,S W->(loadVar 23 ⟨w.heap.size,0,none⟩).run prog W=.ok (.agg KA) W:=by rw[hSD,hKA];exact fun W h=>iM h.k kJ
 have ldA:∀ W,S W->(loadVar 59 ⟨w.heap.size+1,0,none⟩).run prog W=.ok (.agg XA) W:=by rw[hSD,hXA];exact fun W h=>wR h.a rfl
 have hvk:∀ W,Calls prog 31 #[.agg KA] W (Ret W (.bool (lQ k))):=by rw[hKA];exact fun W=>aOb k W
 have hfa:∀ W,Calls prog 26 #[.agg XA] W (Ret W (.bool (aCl a))):=by rw[hXA];exact fun W=>aPo a W
 have hva:aCl a=true->∀ W,Calls prog 39 #[.agg XA] W (Ret W (.bool (uz a))):=by rw[hXA];exact fun h W=>aPn a W (aEe h).p (aEe h).cl (aEe h).co
 have hsa:∀ W,S W->Calls prog 11 #[] W (Ret W (.bool true)):=fun W h=>aBe W (hL.keep (hsb _ h))
 have hs0:S ((w.alloc (.cells KA 23)).alloc (.cells XA 59)):=by rw[hSD];exact⟨(gQ w _ _).1,(gQ w _ _).2,aJ⟩
 have hfc:∀(u:CoM),u∈L->∀ W,aF w W->Calls prog 9 #[.agg (dS u.c u.m)] W (Ret W (.bool (aBm u.c))):=fun u hu W hb=>aOd u.c u.m W ((hA.each u hu).keep hb)
 have hvc:∀(u:CoM),u∈L->aBm u.c=true->∀ W,aF w W->Calls prog 32 #[.agg (dS u.c u.m)] W (Ret W (.bool (bF u.c))):=fun u hu hf W hb=>aPm u.c u.m W ((hA.each u hu).keep hb) (aBz hf).p (aBz hf).cl (aBz hf).co (aBz hf).n1 (aBz hf).n2 (aBz hf).n3
 have hbu:FM k id L a->∀(gr gl gt j:Nat)(y z:ah)(W0:World),j<L.length->NaR k id L w XA gr gl gt j y z W0->NaC w (NaR k id L w XA gr gl gt j y z) KA XA z.cells.toArray y.cells.toArray PV (b8 (jR (lS k id []))).toArray gr gt gl j (sH (csL L (j+1))) (sH (csL L j)) (be (j+1)) (if lT k a.lo a.hi then 0 else 9) (lT k a.lo a.hi) ((csL L (j+1)).all fun c=>fM c a):=by
  rw[hKA,hXA,hbe];exact fun h gr gl gt j y z W0 hj h0=>aQn h hL hj hPV h0
 have hcs:∀(j:Nat)(u:CoM),L[j]? = some u->(lT k a.lo a.hi=false/\(if lT k a.lo a.hi then (0:Int) else 9)=9/\be (j+1)=9)\/(lT k a.lo a.hi=true/\(if lT k a.lo a.hi then (0:Int) else 9)=0/\be (j+1)=0/\((csL L (j+1)).all fun c=>fM c a)=true/\be j=0)\/(lT k a.lo a.hi=true/\(if lT k a.lo a.hi then (0:Int) else 9)=0/\be (j+1)=250/\((csL L (j+1)).all fun c=>fM c a)=false):=by
  rw[hbe];exact fun j u hu=>aQp hu
 have hmi:FM k id L a->bU id=true->∀(u:CoM),u∈L->∀ W,aF w W->Calls prog 12 #[.agg KA,.string id,.agg (dS u.c u.m)] W (tC (lS k id [u.c]) 0 [u] W):=by
  rw[hKA];exact fun h hn u hu W hb=>aQd h hn hu ((hA.each u hu).keep hb) (hL.keep hb)
 have hmb:FM k id L a->bU id=false->∀(u:CoM),u∈L->∀ W,aF w W->Calls prog 12 #[.agg KA,.string id,.agg (dS u.c u.m)] W (tC iK 1 [u] W):=by
  rw[hKA];exact fun h hn u hu W hb=>aQe h hn hu ((hA.each u hu).keep hb) (hL.keep hb)
 have hnr:FM k id L a->∀(j:Nat)(y:ah)(u:CoM),L[j]? = some u->1<=j->∀ W,aF w W->DX k id L j W y->Calls prog 17 #[.agg y.cells.toArray,.agg (dS u.c u.m)] W (tC (lS k id (csL L (j+1))) 0 (L.take (j+1)) W) :=
  fun h j y u hu h1 W hb hT=>aQf h hT h1 hu ((hA.each u (List.mem_of_getElem? hu)).keep hb) (hL.keep hb)
 have hpt:∀(gr gl gt j:Nat)(y z:ah),w.heap.size+2<=gr->gr<gl->(∀ a,z.A=some a->a.block≠gl)->∀ W,NaR k id L w XA gr gl gt j y z W->SB w KA XA gr gl z (W.setRow gl z.cells.toArray)/\DX k id L (j+1) (W.setRow gl z.cells.toArray) z:=by
  rw[hKA];exact fun gr gl gt j y z h1 h2 ha W q=>aQo hA h1 h2 ha W q
 have hnr2:∀(gr gl gt j:Nat)(y z:ah)(W:World),SB w KA XA gr gl y W->aQ W gt 32 z.cells.toArray->DX k id L (j+1) W z->(1<=j->DX k id L j W y)->NaR k id L w XA gr gl gt j y z W:=by
  rw[hKA];exact fun gr gl gt j y z W h1 h2 h3 h4=>⟨h1,h2,h3,h4⟩
 have hbs:∀ W:World,(Instr.buildSlice 55 1 #[(0,.agg KA)]).run prog W=.ok (.slice (some ⟨W.heap.size,0,none⟩) 1 1) (W.alloc (.cells KA 23)):=by rw[hKA];exact fun W=>aQr k W
 have hs2:∀ W,S W->YC w KA XA W:=by rw[hSD];exact fun _ h=>h
 have hs3:∀ W,YC w KA XA W->S W:=by rw[hSD];exact fun _ h=>h
 have hdg:=fun W=>Qa (jR (lS k id [])) (jR (lS k id [])) (qC _ _) (qC _ _) W
 rw[show decide (jR (lS k id [])=jR (lS k id []))=true from decide_eq_true rfl]at hdg;have hdn:=fun W=>aQs (jR (lS k id [])) (jR (lS k id [])) (qC _ _) (qC _ _) W
 rw[show decide (jR (lS k id [])=jR (lS k id []))=true from decide_eq_true rfl]at hdn;have hb0:be 0=0:=by rw[hbe];exact aQl k L a
 generalize (b8 (jR (lS k id []))).toArray=DG at *;obtain⟨vk,hvke⟩:∃ vk,vk=lQ k:=⟨_,rfl⟩;rw[<-hvke]at hvk;have HSK:=aA hsk;have HSB:=aA hsb;have LDK:=aA ldK;have LDA:=aA ldA;have HVK:=aA hvk;have HFA:=aA hfa;have HVA0:=aA hva;have HSA:=aA hsa;have HS0:=aA hs0;have HFC:=aA hfc;have HVC0:=aA hvc;have HBU:=aA hbu;have HCS:=aA hcs;have HMI:=aA hmi;have HMB:=aA hmb;have HNR:=aA hnr;have HPT:=aA hpt;have HNR2:=aA hnr2;have HBS:=aA hbs;have HS2:=aA hs2;have HS3:=aA hs3;have HDG:=aA hdg;have HDN:=aA hdn;have HB0:=aA hb0;have HVKE:=aA hvke;have HA:=aA hA;have HLN:=aA hln;clear hsk hsb ldK ldA hvk hfa hva hsa hs0 hfc hvc hbu hcs hmi hmb hnr hpt hnr2 hbs hs2 hs3 hdg hdn hb0 hvke hA hL hln hSD hbe hKA hXA hPV;cases vk
 ·skip;exact aCy
 by_cases hid:200<id.size
 ·have i1:decide ((200:Int)<(id.size:Int))=true:=decide_eq_true aB;exact aCy
 have i1:decide ((200:Int)<(id.size:Int))=false:=decide_eq_false aB;by_cases hbig:16<n
 ·have i2:decide ((16:Int)<(n:Int))=true:=decide_eq_true aB;exact aCy
 have i2:decide ((16:Int)<(n:Int))=false:=decide_eq_false aB;cases hfe:aCl a
 ·rw[hfe]at HFA;clear hfe;exact aCy
 have HVA:=aA (HVA0.out hfe);cases hve:uz a
 ·rw[hfe]at HFA;rw[hve]at HVA;clear hfe hve;exact aCy
 rw[hfe]at HFA;rw[hve]at HVA;have HAF:=aA (aEe hfe);clear hfe hve HVA0;obtain⟨G,hG⟩:∃ G:Nat->Prop,G=fun i=>∀ x∈L.take i,kD x.c:=⟨_,rfl⟩
 have hg0:G 0:=by rw[hG];intro x hx;cases hx
 have hgs:∀(i:Nat)(u:CoM),L[i]? = some u->G i->kD u.c->G (i+1):=by rw[hG];exact fun i u hu h hc=>aQu hu h hc
 have hgn:G n->FM k id L a:=by
  rw[hG];exact fun h=>⟨HVKE.out.symm,aB,aCz,fun x hx=>h x (by rw[List.take_of_length_le aCz];exact hx),HAF.out⟩
 have HG0:=aA hg0;have HGS:=aA hgs;have HGN:=aA hgn;clear hg0 hgs hgn hG;go_enter func8,ntmps8;go_upto_region 1 with fail
 generalize hw0:World.alloc _ _=w0;have hS:S w0:=aKp;clear hw0;go_wp2_with (first | (first | (refine bD rfl 23 _ rfl ⟨w.heap.size,0,none⟩ (.agg KA) rfl (LDK.out _ hS) ?_) | (go_big_want;refine jE 23 _ rfl ⟨w.heap.size,0,none⟩ (.agg KA) rfl (LDK.out _ hS) ?_;simp only[Act.put,ag])) | (first | (refine bD rfl 59 _ rfl ⟨w.heap.size+1,0,none⟩ (.agg XA) rfl (LDA.out _ hS) ?_) | (go_big_want;refine jE 59 _ rfl ⟨w.heap.size+1,0,none⟩ (.agg XA) rfl (LDA.out _ hS) ?_;simp only[Act.put,ag])) | ((first | (go_at_call 31;refine (HVK.out _).mono ?_) | (go_at_call 26;refine (HFA.out _).mono ?_) | (go_at_call 39;refine (HVA.out _).mono ?_));(rintro e w' ⟨rfl,hb'⟩;replace hS:=HSK.out _ _ hS hb';clear hb')));have HS:=aA hS;clear hS;go_loopw [51] (fun iv wr=>∃ i:Nat,i<=n/\iv=.int .i64 i/\Hid (S wr)/\Hid (G i)) (fun iv _=>n-(intOf iv).toNat)
 case atStart=>exact⟨0,aB,rfl,HS,HG0⟩
 case round =>
  clear HS HS0;obtain⟨i,hi,rfl,HS,HG⟩:=hrel;have hbr:=HSB.out _ HS.out;by_cases hlt:i<n
  ·skip;obtain⟨x,hx⟩:∃ x,L[i]? = some x:=⟨_,List.getElem?_eq_getElem aCz⟩;obtain⟨_,b,o,rfl,hcell⟩:=(HA.out.keep hbr).at_ hx;have hld:=pX wr b (o+i*7) x hcell;rw[oJ]at hld;have HX:=aA hx;obtain⟨Yi,hYi⟩:∃ Yi,Yi=dS x.c x.m:=⟨_,rfl⟩;rw[<-hYi]at hld;have HYS:=aA (show Yi.size=7 by rw[hYi];rfl);have HYO:=aA (show Yi.all (·.oneCell')=true by rw[hYi];exact lu _ _);have HYI:=aA (show (prog.info? 27).map (·.size)=some Yi.size by rw[hYi];exact lq);have HLD:=aA hld;have hk0:(0:Int)<=(i:Int):=aB;have hk1:(i:Int)<(n:Int):=aB;have hxm:=List.mem_of_getElem? hx;have hfw:=HFC.out x hxm;have hvc:=HVC0.out x hxm;rw[<-hYi]at hfw hvc;have hgx:=HGS.out i x hx HG.out;have hco:=@aQt x.c;generalize aBm x.c=fv at *;generalize bF x.c=vv at *;have HFW:=aA hfw;have HVC1:=aA hvc;have HGX:=aA hgx;have HCO:=aA hco;clear hfw hvc hgx hco hxm hx hYi hcell hld;go_upto_region 6 with (first | (refine bD rfl 27 _ rfl ⟨b,o+i*7,none⟩ (.agg Yi) rfl HLD.out ?_) | (refine wpList_store_row rfl 27 _ _ rfl wr.heap.size Yi rfl rfl _ fU (heap_alloc_new wr _) HYI.out (by rw[HYS.out];rfl) HYO.out ?_))
   (try dsimp only[Act.put]);generalize hwx:World.setRow _ _ _=w3;have hB:aQ w3 wr.heap.size 27 Yi:=aKq;have hbx:aF wr w3:=uI;clear hwx;have hS:=HSK.out _ _ HS.out hbx;generalize hgc:wr.heap.size=gc at *;clear hbx hgc;cases fv
   ·go_wp2_with (first | (first | (refine bD rfl 27 _ rfl ⟨gc,0,none⟩ (.agg Yi) rfl (iO hB HYS.out) ?_) | (go_big_want;refine jE 27 _ rfl ⟨gc,0,none⟩ (.agg Yi) rfl (iO hB HYS.out) ?_;simp only[Act.put,ag])) | ((first | (go_at_call 9;refine (HFW.out _ (HSB.out _ hS)).mono ?_) | (go_at_call 11;refine (HSA.out _ hS).mono ?_));(rintro e w' ⟨rfl,hb'⟩;replace hS:=HSK.out _ _ hS hb';replace hB:=hB.keep hb';clear hb')));go_ret;exact⟨rfl,HSB.out _ hS⟩
   have HVC:=aA (HVC1.out rfl);clear HVC1;cases vv
   ·go_wp2_with (first | (first | (refine bD rfl 27 _ rfl ⟨gc,0,none⟩ (.agg Yi) rfl (iO hB HYS.out) ?_) | (go_big_want;refine jE 27 _ rfl ⟨gc,0,none⟩ (.agg Yi) rfl (iO hB HYS.out) ?_;simp only[Act.put,ag])) | ((first | (go_at_call 9;refine (HFW.out _ (HSB.out _ hS)).mono ?_) | (go_at_call 32;refine (HVC.out _ (HSB.out _ hS)).mono ?_) | (go_at_call 11;refine (HSA.out _ hS).mono ?_));(rintro e w' ⟨rfl,hb'⟩;replace hS:=HSK.out _ _ hS hb';replace hB:=hB.keep hb';clear hb')));go_ret;exact⟨rfl,HSB.out _ hS⟩
   go_wp2_with (first | (first | (refine bD rfl 27 _ rfl ⟨gc,0,none⟩ (.agg Yi) rfl (iO hB HYS.out) ?_) | (go_big_want;refine jE 27 _ rfl ⟨gc,0,none⟩ (.agg Yi) rfl (iO hB HYS.out) ?_;simp only[Act.put,ag])) | ((first | (go_at_call 9;refine (HFW.out _ (HSB.out _ hS)).mono ?_) | (go_at_call 32;refine (HVC.out _ (HSB.out _ hS)).mono ?_));(rintro e w' ⟨rfl,hb'⟩;replace hS:=HSK.out _ _ hS hb';replace hB:=hB.keep hb';clear hb')));have HS':=aA hS;exact⟨⟨i+1,aB,bg,HS',aA (HGX.out (HCO.out aBr aBr))⟩,dD⟩
  ·have hin:n=i:=aB;subst hin;have HOK:=aA (HGN.out HG.out);have hS:=HS.out;clear HG HGN HGS HS hlt hbr;obtain⟨wl,hwl⟩:∃ wl,wl=wr:=⟨_,rfl⟩;subst hwl;go_upto_region 10 with (first
    | (refine bD rfl 23 _ rfl ⟨w.heap.size,0,none⟩ (.agg KA) rfl (LDK.out _ hS) ?_)
    | (refine Za rfl 55 1 _ rfl #[(0,.agg KA)] aG _ _ (HBS.out _) ?_))
   (try dsimp only[Act.put]);generalize hwx:World.alloc _ _=w1;have hR1:aQ w1 wl.heap.size 23 KA:=by rw[<-hwx];exact heap_alloc_new wl _
   have hbx:aF wl w1:=by rw[<-hwx];exact fJ _ _
   have hgr2:w.heap.size+2<=wl.heap.size:=by have:=vV (HS2.out _ hS).a;omega
   replace hS:=HSK.out _ _ hS hbx;generalize hgr:wl.heap.size=gr at *;clear hwx hbx hgr;go_upto_region 11 with fail
   generalize hwx:World.alloc _ _=w2;have hL2:aQ w2 w1.heap.size 32 bf:=by rw[<-hwx];exact heap_alloc_new w1 _
   have hbx:aF w1 w2:=by rw[<-hwx];exact fJ _ _
   have hgrl:gr<w1.heap.size:=vV hR1;replace hS:=HSK.out _ _ hS hbx;replace hR1:=hR1.keep hbx;generalize hgl:w1.heap.size=gl at *;clear hwx hbx hgl;have HNL:=aA (show SB w KA XA gr gl vZ w2 from⟨HS2.out _ hS,hR1,hL2,yz w2⟩);clear hS hR1 hL2 wl;go_wp2;go_loopw [13,69] (fun vb vi wr=>∃(i:Nat)(y:ah),i<=n/\vb=.int .i64 (be i)/\vi=.int .i64 i/\Hid (SB w KA XA gr gl y wr)/\Hid (1<=i->DX k id L i wr y/\bU id=true)) (fun _ vi _=>n-(intOf vi).toNat)
   case atStart=>exact⟨0,vZ,aB,by rw[HB0.out],rfl,HNL,aA (fun h=>absurd h aB)⟩
   case round =>
    clear HNL;obtain⟨i,y,hi,rfl,rfl,HS,HT⟩:=hrel;have hbr:=HS.out.s.b;by_cases hlt:i<n
    ·skip;obtain⟨x,hx⟩:∃ x,L[i]? = some x:=⟨_,List.getElem?_eq_getElem aCz⟩;obtain⟨_,b,o,rfl,hcell⟩:=(HA.out.keep hbr).at_ hx;have hld:=pX wr b (o+i*7) x hcell;rw[oJ]at hld;have HX:=aA hx;obtain⟨Yi,hYi⟩:∃ Yi,Yi=dS x.c x.m:=⟨_,rfl⟩;rw[<-hYi]at hld;have HYS:=aA (show Yi.size=7 by rw[hYi];rfl);have HYO:=aA (show Yi.all (·.oneCell')=true by rw[hYi];exact lu _ _);have HYI:=aA (show (prog.info? 27).map (·.size)=some Yi.size by rw[hYi];exact lq);have HLD:=aA hld;have hk0:(0:Int)<=(i:Int):=aB;have hk1:(i:Int)<(n:Int):=aB;have hxm:=List.mem_of_getElem? hx;have hfm:bU id=true->∀ W,aF w W->Calls prog 12 #[.agg KA,.string id,.agg Yi] W (tC (lS k id [x.c]) 0 [x] W):=by rw[hYi];exact fun hn=>HMI.out HOK.out hn x hxm
     have hfb:bU id=false->∀ W,aF w W->Calls prog 12 #[.agg KA,.string id,.agg Yi] W (tC iK 1 [x] W):=by rw[hYi];exact fun hn=>HMB.out HOK.out hn x hxm
     have hfn:1<=i->∀ W,aF w W->DX k id L i W y->Calls prog 17 #[.agg y.cells.toArray,.agg Yi] W (tC (lS k id (csL L (i+1))) 0 (L.take (i+1)) W):=by rw[hYi];exact fun h1=>HNR.out HOK.out i y x hx h1
     have HFM:=aA hfm;have HFB:=aA hfb;have HFN:=aA hfn;have HXM:=aA hxm;clear hfm hfb hfn hxm hx hYi hcell hld;go_upto_region 15 with (first | (refine bD rfl 27 _ rfl ⟨b,o+i*7,none⟩ (.agg Yi) rfl HLD.out ?_) | (refine wpList_store_row rfl 27 _ _ rfl wr.heap.size Yi rfl rfl _ fU (heap_alloc_new wr _) HYI.out (by rw[HYS.out];rfl) HYO.out ?_))
     (try dsimp only[Act.put]);generalize hwx:World.setRow _ _ _=w3;have hB:aQ w3 wr.heap.size 27 Yi:=aKq;have hbx:aF wr w3:=uI;clear hwx;have hS:=HSK.out _ _ (HS3.out _ HS.out.s) hbx;have HX3:=aA hbx;have hb3:=aV hbr hbx;have hgcl:wr.heap.size<w3.heap.size:=vV hB;have hglc:gl<wr.heap.size:=vV HS.out.l;clear hbx;cases hname:bU id
     ·obtain rfl:i=0:=by
       rcases Nat.eq_zero_or_pos i with h | h
       ·exact h
       ·have:=(HT.out h).2;rw[hname]at this;cases this
      have HFB2:=aA (HFB.out hname);clear hname HFM HFN HFB;go_upto_region 16 with (first | (first | (refine bD rfl 23 _ rfl ⟨w.heap.size,0,none⟩ (.agg KA) rfl (LDK.out _ hS) ?_) | (go_big_want;refine jE 23 _ rfl ⟨w.heap.size,0,none⟩ (.agg KA) rfl (LDK.out _ hS) ?_;simp only[Act.put,ag])) | (refine bD rfl 27 _ rfl ⟨wr.heap.size,0,none⟩ (.agg Yi) rfl (iO hB HYS.out) ?_) | (go_at_call 12;refine (HFB2.out _ hb3).mono ?_;rintro e w4 ⟨hb4,y1,rfl,hr1,ht1,_⟩;simp only[zQ]) | (refine wpList_store_row rfl 32 _ _ rfl w4.heap.size y1.cells.toArray rfl rfl _ bf (heap_alloc_new w4 _) (kH hr1).1 (kH hr1).2.1 (kH hr1).2.2 ?_))
      (try dsimp only[Act.put]);generalize hwx:World.setRow _ _ _=w5;have hT1:aQ w5 w4.heap.size 32 y1.cells.toArray:=aKr;have hb5:aF w4 w5:=uI;clear hwx;replace hS:=HSK.out _ _ (HSK.out _ _ hS hb4) hb5;clear hb4 hb5 hT1 hr1 ht1 hB;exact aKs
     ·have HFM2:=aA (HFM.out hname);have HNM:=aA hname;clear hname HFM HFB;go_upto_region 16 with (first | (first | (refine bD rfl 23 _ rfl ⟨w.heap.size,0,none⟩ (.agg KA) rfl (LDK.out _ hS) ?_) | (go_big_want;refine jE 23 _ rfl ⟨w.heap.size,0,none⟩ (.agg KA) rfl (LDK.out _ hS) ?_;simp only[Act.put,ag])) | (refine bD rfl 27 _ rfl ⟨wr.heap.size,0,none⟩ (.agg Yi) rfl (iO hB HYS.out) ?_) | (go_at_call 12;refine (HFM2.out _ hb3).mono ?_;rintro e w4 ⟨hb4,y1,rfl,hr1,ht1,hl1⟩;simp only[zQ]) | (refine wpList_store_row rfl 32 _ _ rfl w4.heap.size y1.cells.toArray rfl rfl _ bf (heap_alloc_new w4 _) (kH hr1).1 (kH hr1).2.1 (kH hr1).2.2 ?_))
      (try dsimp only[Act.put]);generalize hwx:World.setRow _ _ _=w5;have hT1:aQ w5 w4.heap.size 32 y1.cells.toArray:=aKr;have hb5:aF w4 w5:=uI;clear hwx;have hgt2:w3.heap.size<=w4.heap.size:=hb4.size;have hbr5:aF wr w5:=aV HX3.out (aV hb4 hb5);have HR1:=aA (hr1.keep hb5);have HT1:=aA hT1;have HBR5:=aA hbr5;have HB5:=aA (hB.keep (aV hb4 hb5));have HLL1:=aA hl1;have HTT1:=aA ht1;have hgt5:w4.heap.size<w5.heap.size:=vV hT1;generalize hgt:w4.heap.size=gt at *;clear hr1 ht1 hl1 hT1 hbr5 hB hb4 hb5 hS hgt;go_upto_if 82 with fail
      go_cut [17] (fun v wx=>v=.int .i64 0/\∃ z:ah,Hid (NaR k id L w XA gr gl gt i y z wx)/\Hid (∀ a,z.A=some a->a.block≠gl))
      case first =>
       by_cases h1:1<=i
       ·have hk2:0<i/\(0:Int)<(i:Int)/\decide ((0:Int)<(i:Int))=true:=⟨h1,aB,decide_eq_true aB⟩;obtain⟨hk2,hk2i,hk2d⟩:=hk2;have HLL:=aA (dY (HS.out.keep HBR5.out).l (aCx HS.out.y));have HCC:=aA (iO HB5.out HYS.out);have HNA:=aA (HFN.out h1 _ (aV hbr HBR5.out) ((HT.out h1).1.keep HBR5.out));have HY1S:=aA (aCx HR1.out);go_wp2_with (first
         | (refine bD rfl 32 _ rfl ⟨gl,0,none⟩ (.agg y.cells.toArray) rfl HLL.out ?_)
         | (refine bD rfl 27 _ rfl ⟨wr.heap.size,0,none⟩ (.agg Yi) rfl HCC.out ?_)
         | (go_at_call 17;refine HNA.out.mono ?_;rintro e w6 ⟨hb6,y2,rfl,hr2,ht2,hl2⟩;simp only[zQ])
         | (refine wpList_store_row rfl 32 _ _ rfl gt y2.cells.toArray rfl rfl _ y1.cells.toArray (HT1.out.keep hb6) (kH hr2).1 (by rw[HY1S.out,aCx hr2]) (kH hr2).2.2 ?_))
        go_meet;have hb7:aF wr (w6.setRow gt y2.cells.toArray):=below_setRow (aV HBR5.out hb6) aB _;have hbw:=aV hbr hb7;have hr7:bZ (w6.setRow gt y2.cells.toArray) y2:=aKo (fun k hk=>setRow_other _ _ _ _ hk) hr2 (fun a ha=>by have:=(hl2 aBr).2 a ha;omega) (fun x hx=>(HA.out.each x (by rw[(hl2 aBr).1]at hx;exact List.mem_of_mem_take hx)).keep hbw);refine⟨rfl,y2,aA (HNR2.out gr gl gt i y y2 _ (HS.out.keep hb7) (setRow_heap _ _ _ _ _ _ (HT1.out.keep hb6)) ⟨hr7,ht2,(hl2 aBr).1⟩ (fun _=>(HT.out h1).1.keep hb7)),aA (fun a ha=>by have:=(hl2 aBr).2 a ha;omega)⟩
       ·have hk3:¬ 0<i/\¬ (0:Int)<(i:Int)/\decide ((0:Int)<(i:Int))=false:=⟨h1,aB,decide_eq_false aB⟩;obtain⟨hk3,hk3i,hk3d⟩:=hk3;go_wp2_with fail;go_meet;obtain rfl:i=0:=aB;exact⟨rfl,y1,aA (HNR2.out gr gl gt 0 y y1 _ (HS.out.keep HBR5.out) HT1.out (aQq HX.out HR1.out HTT1.out (HLL1.out aBr).1) (fun h=>absurd h aB)),aA (fun a ha=>by have:=(HLL1.out aBr).2 a ha;omega)⟩
      case rest =>
       obtain⟨rfl,z,HZ,HZA⟩:=hcut;clear HR1 HT1 HBR5 HB5 HLL1 HTT1 hgt5 hgt2 HFN HFM2;have hBN:=HBU.out HOK.out gr gl gt i y z wc aCz HZ.out;have hcs:=HCS.out i x HX.out;have hpt:=HPT.out gr gl gt i y z hgr2 hgrl HZA.out;obtain⟨Q,hQ⟩:∃ Q,Q=NaR k id L w XA gr gl gt i y z:=⟨_,rfl⟩;rw[<-hQ]at hBN hpt;have hS:Q wc:=by rw[hQ];exact HZ.out
       have hfin:∀ W,Q W->SB w KA XA gr gl z (W.setRow gl z.cells.toArray)/\(1<=i+1->DX k id L (i+1) (W.setRow gl z.cells.toArray) z/\bU id=true):=fun W h=>⟨(hpt W h).1,fun _=>⟨(hpt W h).2,HNM.out⟩⟩
       obtain⟨nb,hnb⟩:∃ nb,nb=be (i+1):=⟨_,rfl⟩;obtain⟨ge,hge⟩:∃ ge,ge=(if lT k a.lo a.hi then (0:Int) else 9):=⟨_,rfl⟩;obtain⟨hv,hhv⟩:∃ hv,hv=((csL L (i+1)).all fun c=>fM c a):=⟨_,rfl⟩;rw[<-hnb,<-hge,<-hhv]at hBN hcs;clear hQ hge hhv hpt HZ HZA HOK;generalize hbi:be i=bi at *;clear hbi;generalize lT k a.lo a.hi=cnt at *;generalize sH (csL L (i+1))=M1 at *;generalize sH (csL L i)=M0 at *;generalize y.cells.toArray=Y at *;generalize z.cells.toArray=Z at *;have HBN:=aA hBN;have HCS2:=aA hcs;have HFIN:=aA hfin;have HNB:=aA hnb;clear hBN hcs hfin hnb;go_upto_region 22 with (first
        | (refine bD rfl 32 _ rfl ⟨gt,0,none⟩ (.agg Z) rfl (HBN.out.ldT _ hS) ?_)
        | (refine bD rfl 59 _ rfl ⟨w.heap.size+1,0,none⟩ (.agg XA) rfl (HBN.out.ldA _ hS) ?_)
        | (go_at_call 29;refine (HBN.out.ch _ hS).mono ?_;rintro e w' ⟨rfl,hb'⟩;replace hS:=HBN.out.keep _ _ hS hb';clear hb')
        | (go_at_call 19;refine (HBN.out.me _ hS).mono ?_;rintro e w7 ⟨hb7,m,rfl,hrm⟩;simp only[oJ];replace hS:=HBN.out.keep _ _ hS hb7;clear hb7)
        | (refine wpList_store_row rfl 27 _ _ rfl w7.heap.size (dS M1 m) rfl rfl _ fU (heap_alloc_new w7 _) lq rfl (lu _ _) ?_))
       (try dsimp only[Act.put]);generalize hwx:World.setRow _ _ _=w8;have hM:aQ w8 w7.heap.size 27 (dS M1 m):=by rw[<-hwx];exact setRow_heap _ _ _ _ _ _ (heap_alloc_new w7 _)
       have hbx:aF w7 w8:=uI;replace hS:=HBN.out.keep _ _ hS hbx;replace hrm:=hrm.keep hbx;generalize hgm:w7.heap.size=gm at *;clear hwx hbx hgm;obtain⟨SR,hSRD⟩:∃ SR:World->Prop,SR=fun W=>Q W/\aQ W gm 27 (dS M1 m)/\dA W M1 m:=⟨_,rfl⟩
       have hSR:SR w8:=by rw[hSRD];exact⟨hS,hM,hrm⟩
       have hsrq:∀ W,SR W->Q W/\aQ W gm 27 (dS M1 m)/\dA W M1 m:=by rw[hSRD];exact fun _ h=>h
       have hsrk:∀ W W',SR W->aF W W'->SR W':=by rw[hSRD];exact fun _ _ h hb=>⟨HBN.out.keep _ _ h.1 hb,h.2.1.keep hb,h.2.2.keep hb⟩
       have HSR:=aA hSR;have HSRQ:=aA hsrq;have HSRK:=aA hsrk;clear hSR hsrq hsrk hSRD hS hM hrm;go_cut [130] (fun v wx=>v=.bool false/\Hid (SR wx))
       case first =>
        have hR:=HSR.out;clear HSR;rcases HCS2.out with ⟨rfl,rfl,rfl⟩ | ⟨rfl,rfl,rfl,rfl,rfl⟩ | ⟨rfl,rfl,rfl,rfl⟩
        all_goals
         clear HCS2;go_wp2_with (first
          | (first | (refine bD rfl 32 _ rfl ⟨gt,0,none⟩ (.agg Z) rfl (HBN.out.ldT _ (HSRQ.out _ hR).1) ?_) | (go_big_want;refine jE 32 _ rfl ⟨gt,0,none⟩ (.agg Z) rfl (HBN.out.ldT _ (HSRQ.out _ hR).1) ?_;simp only[Act.put,ag]))
          | (first | (refine bD rfl 57 _ rfl ⟨w.heap.size+1,4,none⟩ (.agg PV) rfl (HBN.out.ldP _ (HSRQ.out _ hR).1) ?_) | (go_big_want;refine jE 57 _ rfl ⟨w.heap.size+1,4,none⟩ (.agg PV) rfl (HBN.out.ldP _ (HSRQ.out _ hR).1) ?_;simp only[Act.put,ag]))
          | (go_at_call 27;refine (HBN.out.ge _ (HSRQ.out _ hR).1).mono ?_;(rintro e w' ⟨rfl,hb'⟩;replace hR:=HSRK.out _ _ hR hb';clear hb')))
         go_meet;exact⟨rfl,aA hR⟩
       case rest =>
        obtain⟨rfl,HR⟩:=hcut;clear HSR;go_upto_region 24 with fail
        go_cut [142] (fun v wx=>v=.bool false/\Hid (SR wx))
        case first =>
         have hR:=HR.out;clear HR;rcases HCS2.out with ⟨rfl,rfl,rfl⟩ | ⟨rfl,rfl,rfl,rfl,rfl⟩ | ⟨rfl,rfl,rfl,rfl⟩
         all_goals
          clear HCS2;go_wp2_with (first
           | (first | (refine bD rfl 57 _ rfl ⟨w.heap.size+1,4,none⟩ (.agg PV) rfl (HBN.out.ldP _ (HSRQ.out _ hR).1) ?_) | (go_big_want;refine jE 57 _ rfl ⟨w.heap.size+1,4,none⟩ (.agg PV) rfl (HBN.out.ldP _ (HSRQ.out _ hR).1) ?_;simp only[Act.put,ag]))
           | (refine bD rfl 23 _ rfl ⟨w.heap.size,0,none⟩ (.agg KA) rfl (HBN.out.ldK _ (HSRQ.out _ hR).1) ?_)
           | (first | (refine bD rfl 27 _ rfl ⟨gm,0,none⟩ (.agg (dS M1 m)) rfl (iO (HSRQ.out _ hR).2.1 rfl) ?_) | (go_big_want;refine jE 27 _ rfl ⟨gm,0,none⟩ (.agg (dS M1 m)) rfl (iO (HSRQ.out _ hR).2.1 rfl) ?_;simp only[Act.put,ag]))
           | (first | (refine bD rfl 59 _ rfl ⟨w.heap.size+1,0,none⟩ (.agg XA) rfl (HBN.out.ldA _ (HSRQ.out _ hR).1) ?_) | (go_big_want;refine jE 59 _ rfl ⟨w.heap.size+1,0,none⟩ (.agg XA) rfl (HBN.out.ldA _ (HSRQ.out _ hR).1) ?_;simp only[Act.put,ag]))
           | (go_at_call 40;refine (HBN.out.cn _ (HSRQ.out _ hR).1).mono ?_;(rintro e w' ⟨rfl,hb'⟩;replace hR:=HSRK.out _ _ hR hb';clear hb'))
           | (go_at_call 41;refine (HBN.out.ho _ _ (HSRQ.out _ hR).1 (HSRQ.out _ hR).2.2).mono ?_;(rintro e w' ⟨rfl,hb'⟩;replace hR:=HSRK.out _ _ hR hb';clear hb')))
          go_meet;exact⟨rfl,aA hR⟩
        case rest =>
         clear HR HCS2;obtain⟨rfl,HR⟩:=hcut;obtain⟨hS,hM,hrm⟩:=HSRQ.out _ HR.out;clear HR HSRQ HSRK;go_upto_region 26 with fail
         by_cases h1:1<=i;rotate_left
         ·have hk3:¬ 0<i/\¬ (0:Int)<(i:Int)/\decide ((0:Int)<(i:Int))=false:=⟨h1,aB,decide_eq_false aB⟩;obtain⟨hk3,hk3i,hk3d⟩:=hk3;exact aKt
         have hk2:0<i/\(0:Int)<(i:Int)/\decide ((0:Int)<(i:Int))=true:=⟨h1,aB,decide_eq_true aB⟩;obtain⟨hk2,hk2i,hk2d⟩:=hk2;go_upto_region 28 with (first
          | (refine bD rfl 32 _ rfl ⟨gl,0,none⟩ (.agg Y) rfl (HBN.out.ldL _ hS) ?_)
          | (go_at_call 19;refine (HBN.out.ml h1 _ hS).mono ?_;rintro e w9 ⟨hb9,m0,rfl,hrm0⟩;simp only[oJ];replace hS:=HBN.out.keep _ _ hS hb9;replace hM:=hM.keep hb9;replace hrm:=hrm.keep hb9;clear hb9)
          | (refine wpList_store_row rfl 27 _ _ rfl w9.heap.size (dS M0 m0) rfl rfl _ fU (heap_alloc_new w9 _) lq rfl (lu _ _) ?_))
         (try dsimp only[Act.put]);generalize hwx:World.setRow _ _ _=w10;have hM0:aQ w10 w9.heap.size 27 (dS M0 m0):=by rw[<-hwx];exact setRow_heap _ _ _ _ _ _ (heap_alloc_new w9 _)
         have hbx:aF w9 w10:=uI;replace hS:=HBN.out.keep _ _ hS hbx;replace hM:=hM.keep hbx;replace hrm:=hrm.keep hbx;replace hrm0:=hrm0.keep hbx;generalize hgo:w9.heap.size=go at *;clear hwx hbx hgo;go_upto_region 29 with (first
          | (refine bD rfl 27 _ rfl ⟨gm,0,none⟩ (.agg (dS M1 m)) rfl (iO hM rfl) ?_)
          | (refine bD rfl 27 _ rfl ⟨go,0,none⟩ (.agg (dS M0 m0)) rfl (iO hM0 rfl) ?_)
          | (go_at_call 42;refine (HBN.out.wi h1 _ _ _ hS hrm hrm0).mono ?_;(rintro e w' ⟨rfl,hb'⟩;replace hS:=HBN.out.keep _ _ hS hb';replace hM:=hM.keep hb';replace hrm:=hrm.keep hb';clear hb')))
         have HQ:=aA (HBN.out.keep _ _ hS (Below.drew (Below.refl _ _)));have hki:∀ V:Array Value,(V=Z\/V=Y)->∀ W,Q W->Calls prog 22 #[.agg V] W (Ret W (.agg DG)):=by
          intro V h W hq;rcases h with h | h
          ·rw[h];exact HBN.out.iz W hq
          ·rw[h];exact HBN.out.iy h1 W hq
         have HKI:=aA hki;clear hki;clear hS hM hrm hM0 hrm0 hk2 hk2i hk2d;refine Ec 17 aG aG aG (fun i=>[.int .i64 0,.bool false,.bool false,.int .i64 0,.bool false,.bool false,.bool false,.bool true,.bool false,.bool false,.bool false,.agg Z,.agg DG,.agg Y,.agg DG,.bool false,.bool false].getD i undef) Q HQ.out (fun _ _ h hb=>HBN.out.keep _ _ h hb) ?_ ?_
         ·simp only[aZ,kM,Act.put,ag,bV];refine⟨fun W hS=>?_,fun W hS=>?_,fun W hS=>?_,fun W hS=>?_,fun W hS=>?_,fun W hS=>?_,fun W hS=>?_,fun W hS=>?_,fun W hS=>?_,fun W hS=>?_,fun W hS=>?_,fun W hS=>?_,fun W hS=>?_,fun W hS=>?_,fun W hS=>?_,fun W hS=>?_,fun W hS=>?_,trivial⟩;all_goals
           have e2:=HDG.out W;have e3:=HDN.out W;go_wp2_with (first
            | (refine rE aG 32 _ rfl ⟨gt,0,none⟩ (.agg Z) rfl (HBN.out.ldT _ hS) ?_)
            | (refine rE aG 32 _ rfl ⟨gl,0,none⟩ (.agg Y) rfl (HBN.out.ldL _ hS) ?_)
            | (go_at_call 22;refine (HKI.out _ (by first | exact .inl rfl | exact .inr rfl) _ hS).mono ?_;rintro e w8 ⟨rfl,hb8⟩))
           exact⟨rfl,rfl,zU⟩
         intro wz hS;simp only[aZ,kM,Act.put,ag,bV];exact aKt
    ·have hS:=HS3.out _ HS.out.s;exact aKs
theorem aQw(k:aj)(id:aC)(A:Option Addr)(n c:Nat)(L:List CoM)(a:dN)(w:World)(hid63:id.size<=9223372036854775807)(hA:pW w A n L)(hnc:n<=c)(hn63:n<=9223372036854775807)(hL:gz w) :
  Calls prog 8 #[k.val,.string id,.slice A n c,a.val] w (Ret w (.bool true)):=aQv k id A n c L a w hA hn63 hid63 hL
end Go.Proofs.YtlkbkclnbppigaaGreatDoor
namespace Go.Proofs.YtlkbkclnbppigaaGreatDoor
open _root_.Go.Proofs.Tryz _root_.Go.Proofs.YtlkbkclnbppigaaGreatDoor.Tryz
open Go.RowKit Go.ChangeShapes Go.WideShapes
section
variable {H:Type} {enc:TypeId × Value->H} {P:Program}
def aEk(P:Program)(ts:List TypeId):Bool:=ts.all fun t=>P.readableRec t&&decide (t<P.types.size)
theorem aGd(hl:laidOutB P=true){W W':World}(hb:aF W W')(sp:Nat->Bool) :
  ∀{ts:List TypeId}{vs:List Value}{ds:List (DataW H)}{ps:List MemPlace},aEk P ts=true->DataW.TrodAll enc P W 0 (fun _=>true) true ts vs ds ps->(∀ x∈ps,x.block<W.heap.size)->(∀ x∈ps,sp x.block=true)->DataW.TrodAll enc P W' 0 sp true ts vs ds ps
 | [],vs,ds,ps,_,h,_,_=>by
  obtain⟨rfl,rfl,rfl⟩:=trodAll_nil h;exact trodAll_mk0
 | t :: ts,vs,ds,ps,hr,h,h1,h2=>by
  obtain⟨v,vs',d,ds',p,q,rfl,rfl,rfl,hv,hs⟩:=trodAll_cons h;simp only[aEk,List.all_cons,Bool.and_eq_true,decide_eq_true_eq]at hr;exact trodAll_cons_mk (WideElems.Trod_stays hl hr.1.1 hr.1.2 hv (fun x hx=>hb.same (h1 x gB)) (fun x hx=>h2 x gB))
   (aGd hl hb sp (by simpa[aEk] using hr.2) hs (fun x hx=>h1 x gB) (fun x hx=>h2 x gB))
theorem aKu{t:TypeId}{W:World}{b:Nat}{sp:Nat->Bool}{hd:Bool}(ht:P.underlying t=some .bool)(x:Bool):DataW.TrodAll enc P W b sp hd [t] [.bool x] [.lit (.bool x)] []:=trodAll_mk1 (shut_bool ht x)
theorem aQx{f:Func}{s:ChangeSpec}{apart fresh handsOn again:Bool}{W W':World}{args:Array Value}{ds gs:List (DataW H)}{before:List MemPlace}{t:TypeId}
  (hW:DataW.Whole enc P f.params.toList s.vars apart W args.toList ds gs before) (hvars:s.vars=[]) (hl:laidOutB P=true) (hrow:aEk P f.params.toList=true) (hres:f.resultTypes=#[t]) (ht:P.underlying t=some .bool)
  (hfn:s.fn H (ds++gs)={ results:=[.lit (.bool true)],args:=ds }) (hb:aF W W'):s.post enc P f apart fresh handsOn again W args (.bool true) W':=by
 have hlt:∀ x∈before,x.block<W.heap.size:=fun x hx=>hW.lt x hx
 have hW0:=hW;obtain⟨p,q,hA,hV,hp,hfz,hnd⟩:=hW;rw[hvars]at hV;obtain⟨rfl,rfl⟩:=trodVars_none hV;rw[List.append_nil]at hp;subst hp;have hr1:(Value.bool true).resultList f.resultTypes.size=[.bool true]:=by rw[hres];rfl
 have hr2:f.resultTypes.toList=[t]:=by rw[hres]
 have hvs:∀ sp,DataW.TrodVars enc P W' sp s.vars [] []:=fun sp=>by rw[hvars];rfl
 refine⟨ds,[],before,[],before,[],hW0,?_,?_,?_,?_,fun _=>⟨?_,.lit (.bool true) :: ds,[],before,?_,fun x hx _=>hx⟩⟩
 ·rw[hfn,hr1,hr2];exact aKu ht true
 ·rw[hfn];exact aGd hl hb _ hrow hA hlt (fun x hx=>by simpa using hlt x hx)
 ·rw[hfn];exact hvs _
 ·exact World.keptBut_mono (fun x hx=>⟨hx,.inr (.inl hx)⟩) (hb.frame (·∈before))
 ·exact ok_one hres rfl (okWide_bool_mk ht true)
 ·refine⟨before,[],?_,hvs _,aH,?_,hnd⟩
  ·rw[hr1,hr2];have:=trodAll_append (aGd hl hb (fun _=>true) hrow hA hlt (fun _ _=>rfl)) (aKu (enc:=enc) (P:=P) (W:=W') (b:=0) (sp:=fun _=>true) (hd:=true) ht true);simpa using this
  ·intro b off hx;rw[hb.frozen (hlt _ hx)];exact hfz b off hx
end
end Go.Proofs.YtlkbkclnbppigaaGreatDoor
namespace Go.Proofs.YtlkbkclnbppigaaGreatDoor
open _root_.Go.Proofs.Tryz _root_.Go.Proofs.YtlkbkclnbppigaaGreatDoor.Tryz
open Go.ChangeShapes Go.WideShapes Go.ChangeAt Go.RowKit Go.ChangeMaps
theorem own:ownKnob prog.godebug=none:=by kernel_rfl
theorem aQy:laidOutB prog=true:=by kernel_rfl
theorem aQz{W:World}(h:W.ShapedOpen prog):Env W :=
 Go.Proofs.cell_of_shapedOpen_int (zero:=#[.int .i64 0]) (t:=3) h (of_decide_eq_true aG) aG rfl aG aG underlying3
def aCc(k:IntKind)(l:List Nat):Obj->Obj
 | .cells _ t frozen=>.cells (l.map fun (n:Nat)=>Value.int k (n:Int)).toArray t frozen
 | o=>o
def aRa:List Nat:=[0,1,28,2,29,14,24,3,30,22,20,15,25,17,4,8,31,27,13,23,21,19,16,7,26,12,18,6,11,5,10,9]
def aRb:List Nat:=[0,1,56,2,57,49,28,3,61,58,42,50,38,29,17,4,62,47,59,36,45,43,51,22,53,39,33,30,24,18,12,5,63,55,48,27,60,41,37,16,46,35,44,21,52,32,23,11,54,26,40,15,34,20,31,10,25,14,19,9,13,8,7,6]
def aRc:List Nat:=[1,10,100,1000,10000,100000,1000000,10000000,100000000,1000000000,10000000000,100000000000,1000000000000,10000000000000,100000000000000,1000000000000000,10000000000000000,100000000000000000,1000000000000000000,10000000000000000000]
noncomputable def aEl (os:Os):World :=
 { World.holding prog os ⟨#[],#[],[]⟩ with heap:=(((((World.holding prog os ⟨#[],#[],[]⟩).heap.modify 8 (aCc .u8 aRa)).modify 9 (aCc .u8 aRb)).modify 3 (aCc .u64 aRc)).modify 7 (aCc .u8 ([128,191,160,191,128,159,144,191,128,143]++List.replicate 22 0))).modify 6 (aCc .u8 Go.Pinned.utf8FirstZ) }
theorem aRd:(Rows.laid_internal_strconv_uint64pow10:DataW Unit)=Lib.tabData .u64 Lib.pow10Tab:=by kernel_rfl
theorem aRe{W:World}{d1 d2:DataW Unit}{n1 n2:String}{rest:List (String × DataW Unit)}(h:laidMet prog ((n1,d1) :: (n2,d2) :: ("internal/strconv.uint64pow10", Rows.laid_internal_strconv_uint64pow10) :: rest) W):Tab W:=by
 have h2:=laidMet.tail (laidMet.tail h);rw[aRd]at h2;exact Lib.tabIs_of_head (g:=3) aG aG underlying314 underlying150 aG aG h2
theorem aKv : "*" ++ "errors.errorString" = "*errors.errorString" := by decide
theorem aKw(u:TypeId)(h:prog.typeName? 3 u=some "*errors.errorString"):u=339 :=
 typeName_ptr_named (nm := "errors.errorString") (by rw[aKv];kernel_rfl) aG aK u (by rw[aKv];exact h)
def aKx(n:Nat):Obj->Obj
 | .cells _ t frozen=>.cells #[.iface 339 (.pointer (some ⟨n,0,none⟩))] t frozen
 | o=>o
noncomputable def aGe (os:Os):World :=
 { aEl os with heap:=((((((aEl os).heap.modify 0 (aCc .u32 Sha.ks)).modify 1 (aCc .u32 Sha.ks)).modify 5 (aKx (aEl os).heap.size)).modify 4 (aKx ((aEl os).heap.size+1))).push (.cells #[.string (⟨#[118,97,108,117,101,32,111,117,116,32,111,102,32,114,97,110,103,101]⟩:aC)] 341)).push (.cells #[.string (⟨#[105,110,118,97,108,105,100,32,115,121,110,116,97,120]⟩:aC)] 341) }
def ksI:List Int:=Sha.ks.map fun n:Nat=>(n:Int)
theorem aRf:(Rows.laid_weirgate_hash_constants:DataW Unit)=Lib.tabData .u32 ksI:=by kernel_rfl
theorem aRg{W:World}(h:Lib.TabIs prog W "weirgate/hash.constants" .u32 ksI):Ks W:=by
 unfold Lib.TabIs World.var? at h;rw[show prog.globalNamed "weirgate/hash.constants" = some 0 by kernel_rfl]at h;rw[Option.bind_some]at h;split at h
 ·rename_i cs t fr hc;injection h with h
  refine⟨t,fr,hc.trans ?_⟩;rw[h];unfold ksI w32;rw[List.map_map];rfl
 ·cases h
theorem aRh{W:World}{rest:List (String × DataW Unit)}(h5:laidMet prog (("strconv.ErrRange", Rows.laid_strconv_ErrRange) :: ("strconv.ErrSyntax", Rows.laid_strconv_ErrSyntax) :: ("weirgate/hash.constants", Rows.laid_weirgate_hash_constants) :: rest) W):jP W/\5<W.heap.size/\Ks W:=by
 have h6:=laidMet.tail h5;have h7:=laidMet.tail h6;obtain⟨a1,s1,v1,_,_,_⟩:=laid_sentinel (g:=5) (ti:=177) (tp:=339) (te:=341) (ts:=9) h5 aG aG underlying177 aKw underlying339 underlying341 rfl rfl underlying9 aG aG;obtain⟨a2,s2,v2,_,_,_⟩:=laid_sentinel (g:=4) (ti:=177) (tp:=339) (te:=341) (ts:=9) h6 aG aG underlying177 aKw underlying339 underlying341 rfl rfl underlying9 aG aG;have c1:=World.var?_cell (g:=5) aG v1 0;have c2:=World.var?_cell (g:=4) aG v2 0;rw[aRf]at h7;have hk:=aRg (Lib.tabIs_of_head (g:=0) aG aG underlying265 underlying147 aG aG h7);refine⟨⟨⟨_,c2,.inr ⟨_,_,rfl⟩⟩,_,c1,.inr ⟨_,_,rfl⟩⟩,?_,hk⟩;have:=bu c1;have:=bu c2;omega
theorem aRi{W:World}{d1 d2 d4:DataW Unit}{n1 n2 n4:String}{rest:List (String × DataW Unit)}(hS:W.ShapedOpen prog)(h:laidMet prog ((n1,d1) :: (n2,d2) :: ("internal/strconv.uint64pow10", Rows.laid_internal_strconv_uint64pow10) :: (n4,d4) :: ("strconv.ErrRange", Rows.laid_strconv_ErrRange) :: ("strconv.ErrSyntax", Rows.laid_strconv_ErrSyntax) :: ("weirgate/hash.constants", Rows.laid_weirgate_hash_constants) :: rest) W):gz W:=by
 have h5:=aRh (laidMet.tail (laidMet.tail (laidMet.tail (laidMet.tail h))));exact⟨aQz hS,aRe h,h5.2.2,h5.1,h5.2.1⟩
end Go.Proofs.YtlkbkclnbppigaaGreatDoor
