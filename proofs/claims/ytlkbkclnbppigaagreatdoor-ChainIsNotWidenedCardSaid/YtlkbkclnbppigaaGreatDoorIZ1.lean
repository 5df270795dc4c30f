/- The words that all texts of this proof use: what a call leaves ('Ret', 'Out'), what a slice reads as ('Reads'), how it stays read. -/
import Derived.Deep.AppendLies
import Derived.Test.YtlkbkclnbppigaaGreatDoorProg
import Derived.WalkSpells
import Derived.WalkLawsBesides
import Derived.Lib.QuietBelow
import Derived.Lib.Hide
import Derived.Deep.RegionHeld3
import Derived.Lib.IndexBytes
import Derived.RangeFuncNested
import Derived.Shelf.SlIter.Nil
import Derived.Shelf.SortM.Plain
import Derived.Shelf.SortM.SortNone
import Derived.Test.YtlkbkclnbppigaaGreatDoorIHost
set_option maxHeartbeats 1000000
namespace Go.Proofs.YtlkbkclnbppigaaGreatDoor
open Tryz
open Go.RowKit Go.Sort
set_option linter.unusedVariables false
set_option linter.unusedSimpArgs false
def Ret(w:World)(v:Value)(e:Ending)(w':World):Prop:=e=.returned v/\aF w w'
def aI(w:World)(size:Nat)(A:Option Addr)(n:Nat)(vs:List Value):Prop :=
 vs.length=n*size/\(0<n->∃ b o,A=some ⟨b,o,none⟩/\∀ j u,vs[j]? = some u->w.cell? ⟨b,o+j,none⟩=some u)
theorem bu{w:World}{a:Addr}{v:Value}(h:w.cell? a=some v):a.block<w.heap.size:=by
 rcases Nat.lt_or_ge a.block w.heap.size with h' | h'
 ·exact h'
 ·simp[World.cell?,Array.getElem?_eq_none h']at h
theorem aW{w w':World}{a:Addr}{v:Value}(hb:aF w w')(h:w.cell? a=some v):w'.cell? a=some v:=(hb.cell (bu h)).trans h
theorem dV{w w':World}{a:Addr}{v:Bool}(hb:aF w w')(hl:a.block<w.heap.size)(h:w.frozen? a=v):w'.frozen? a=v:=(hb.frozen hl).trans h
def rd(w:World)(a:Addr):Value:=(w.cell? a).getD undef
theorem qE{w:World}{a:Addr}{v:Value}(h:w.cell? a=some v):w.cell? a=some (rd w a):=by unfold rd;rw[h];rfl
theorem uM{w w':World}{a:Addr}{v:Value}(hb:aF w w')(h:w.cell? a=some v):w'.cell? a=some (rd w' a):=qE (aW hb h)
theorem jm{w:World}{a p:Addr}{v x:Value}(h:w.cell? a=some v):(w.setCell p x).cell? a=some (rd (w.setCell p x) a) :=
 let ⟨_,h'⟩:=cell?_setCell_some (w:=w) (p:=p) (x:=x) h;qE h'
theorem aV{a b c:World}(h:aF a b)(k:aF b c):aF a c:=h.trans (k.mono h.size)
theorem aU{a b:World}(h:aF a b)(o:Obj):aF a (b.alloc o):=h.alloc h.size o
theorem oK{a b:World}(h:aF a b)(n:Nat):aF a (b.drewN n):=⟨h.os,h.tape,h.output,h.size,h.block⟩
theorem dZ{a b:World}(o:Obj)(h:Below (a.alloc o).heap.size (a.alloc o) b):aF a b:=aV (aU (Below.refl _ _) o) h
section
variable {w w':World} {size n:Nat} {A:Option Addr} {vs:List Value}
theorem aI.nil_(w:World)(size:Nat)(A:Option Addr):aI w size A 0 []:=⟨aH,fun h=>absurd h aB⟩
theorem aI.keep(h:aI w size A n vs)(hb:aF w w'):aI w' size A n vs:=by
 refine⟨h.1,fun hn=>?_⟩;obtain⟨b,o,rfl,hc⟩:=h.2 hn;exact⟨b,o,rfl,fun j u hu=>aW hb (hc j u hu)⟩
theorem aI.at_{k:Nat}(h:aI w 1 A n vs)(hk:k<n):∃ b o u,A=some ⟨b,o,none⟩/\vs[k]? = some u/\w.cell? ⟨b,o+k,none⟩=some u:=by
 obtain⟨b,o,e,hc⟩:=h.2 aB;have hl:k<vs.length:=by have:=h.1;omega
 exact⟨b,o,vs[k],e,List.getElem?_eq_getElem hl,hc k _ (List.getElem?_eq_getElem hl)⟩
theorem aI.of_own{base:Nat}{e:TypeId}{c:Nat}(h:w.ownsRow base e size (.slice A n c) n vs):aI w size A n vs:=by
 refine⟨h.1,fun hn=>?_⟩;obtain⟨g,cap,hv,_,hlt⟩:=h.form hn;have hA:A=some ⟨g,0,none⟩:=by injection hv
 subst hA;exact⟨g,0,rfl,fun j u hu=>by have:=h.cells (g:=g) rfl j u hu;unfold Addr.add at this;split at this <;> simp_all⟩
end
theorem bT{W w1:World}(hb:aF W w1):(∀ b o,b<W.heap.size->w1.cell? ⟨b,o,none⟩=W.cell? ⟨b,o,none⟩)/\(∀ b o,b<W.heap.size->w1.frozen? ⟨b,o,none⟩=W.frozen? ⟨b,o,none⟩) :=
 ⟨fun b o h=>hb.cell (p:=⟨b,o,none⟩) h,fun b o h=>hb.frozen (p:=⟨b,o,none⟩) h⟩
def Env(w:World):Prop:=∃ m,w.cell? ⟨2,0,none⟩=some (.int .i64 m)
theorem Env.keep{w w':World}(h:Env w)(hb:aF w w'):Env w':=let ⟨m,hm⟩:=h;⟨m,aW hb hm⟩
theorem fV{a b:Bool}(h:a=b):Ending.returned (.bool a)=.returned (.bool b):=by rw[h]
theorem Qb{a b:aC}(h:a=b):Ending.returned (.string a)=.returned (.string b):=by rw[h]
theorem wS{k:IntKind}{a b:Int}(h:a=b):Ending.returned (.int k a)=.returned (.int k b):=by rw[h]
theorem jS{P:Program}{f:FuncId}{args:Array Value}{w:World}{v:Value}(h:∀ W,Calls P f args W (Ret W v))(d:Nat)(os:Array Obj) :
  Calls P f args (Sort.grow (redrawn w d) os) fun e w''=>e=.returned v/\∃ p:Regrown,w''=Sort.grow (redrawn w p.d) p.os:=Calls.regrown_of ((h _).mono fun _ _ h=>h)
theorem jT{P:Program}{f:FuncId}{args:Array Value}{w:World}{v:Value}(h:∀ W,aF w W->Calls P f args W (Ret W v))(d:Nat)(os:Array Obj) :
  Calls P f args (Sort.grow (redrawn w d) os) fun e w''=>e=.returned v/\∃ p:Regrown,w''=Sort.grow (redrawn w p.d) p.os:=Calls.regrown_of ((h _ (below_regrown w d os)).mono fun _ _ h=>h)
theorem aJ{B:Nat}{a w:World}(h:Below B a w:=by (repeat (first | exact .refl _ _ | assumption | refine .drew ?_ | refine aU ?_ _ | refine oK ?_ _ | refine .setCell ?_ lw _ | refine aV ?_ dJ))):Below B a w:=h
def iC(lo hi:Nat)(W W':World):Prop:=∀ k,lo<=k->k<hi->W'.heap[k]? = W.heap[k]?
theorem iC.refl(lo hI0:Nat)(W:World):iC lo hI0 W W:=fun _ _ _=>rfl
theorem iC.trans{lo hi:Nat}{A B C:World}(h:iC lo hi A B)(k:iC lo hi B C):iC lo hi A C:=fun i h1 h2=>(k i h1 h2).trans (h i h1 h2)
theorem Below.keepsIn{B lo hI0:Nat}{W W':World}(h:Below B W W')(hh:hI0<=B):iC lo hI0 W W':=fun k _ h2=>h.block k aB
def oL(P:Program)(gf:Nat)(lb:Array Value)(xs:List Value)(T:World->World->Prop)(lo hI0:Nat)(w:World):Prop :=
 ∀(l:Nat)(J:Nat->World->Prop)(Jx:World->Prop)(W:World),aF w W->AbidesFrom W.heap.size J->(∀ k W W',J k W->T W W'->J k W') ->
  (∀ k x W1,xs[k]? = some x->J k W1->YieldAt Fence.wide 0 P l #[x] W1 fun e W' =>
   (e=.returned (.bool true)/\J (k+1) W'/\iC lo hI0 W1 W')\/(e=.returned (.bool false)/\Jx W')) ->
  J 0 W ->
  CallsIn Fence.wide 0 P gf (#[.func (.yield l) #[] #[]]++lb) W fun e W'=>(∃ v,e=.returned v)/\(J xs.length W'\/Jx W')
def Qd(B lo hI0:Nat)(I:Nat->World->Prop)(Ix:Code->World->Prop)(k:Nat)(W:World):Exit->Act->World->Prop
 | .normal,_,W'=>KeepsFrom B W W'/\iC lo hI0 W W'/\I k W'
 | .ret,_,W'=>KeepsFrom B W W'/\Ix .ret W'
 | .exit id,_,W'=>KeepsFrom B W W'/\Ix (.exit id) W'
 | .goto t,_,W'=>KeepsFrom B W W'/\Ix (.goto t) W'
 | .panic _,_,_=>False
 | .outgrown,_,_=>False
theorem wU{P:Program}{g:Operand}{p:Tmp}{assign body:Code}{Q:Exit->Act->World->Prop}{a:Act}{w:World}
  {gf:Nat} {lb:Array Value} (hg:a.eval g=.func (.func gf) #[] lb) (eg:∀ args w,(callFunc gf args).run P w=.ok (.enter gf args) w)
  {xs:List Value} {T:World->World->Prop} {lo hI0:Nat} {w0:World} (hseq:oL P gf lb xs T lo hI0 w0) (hb0:aF w0 w) (hn:hI0<=w.heap.size)
  (I:Nat->World->Prop) (Ix:Code->World->Prop) (hI:OwnFrom w.heap.size I) (hIx:∀ c,OwnFrom w.heap.size (fun (_:Unit)=>Ix c)) (h0:I 0 w)
  (hT:∀ k W W',I k W->T W W'->I k W') (hTk:∀ W W',T W W'->KeepsOthers W W') (a₁:Value->Act)
  (hassign:∀(l:Nat)(x:Value)(W:World)(K:Act->World->Prop),x∈xs->K (a₁ x) W ->
   assign.wpIn (Fence.wide.inRound l) 0 P (Exit.then K (fun _ _ _=>False)) { tmps:=(#[p].zip #[x]).foldl (fun t (p,v)=>t.setIfInBounds p v) a.tmps,defers:=[] } W)
  (hbody:∀(l k:Nat)(x:Value)(W:World),xs[k]? = some x->I k W->body.wpIn (Fence.wide.inRound l) 0 P (Qd w.heap.size lo hI0 I Ix (k+1) W) (a₁ x) W)
  (hdone:∀(D:Nat)(W:World),w.heap.size<=D->I xs.length W->W.heap[D]? = some (.deferred (some []))->Q .normal { a with defers:={ target:=.collected D,args:=#[] } :: a.defers } W)
  (hstop:∀(D:Nat)(c:Code)(W:World),w.heap.size<=D->Ix c W->W.heap[D]? = some (.deferred (some []))->c.wpIn Fence.wide 0 P Q { a with defers:={ target:=.collected D,args:=#[] } :: a.defers } W) :
  (Code.rangeFunc g #[p] assign body).wpIn Fence.wide 0 P Q a w:=by
 refine wpIn_rangeFunc ?_
 intro fn hfn
 obtain⟨rec,hrec⟩:∃ rec:LoopState->Option Code->Loop,rec=fun st pe=>{ state:=st,pending:=pe,fn,tmps:=a.tmps,params:=#[p],assign,body,defers:=w.heap.size }:=⟨_,rfl⟩
 obtain⟨W1,hW1⟩:∃ W1,(w.alloc (.deferred (some []))).alloc (.loop (rec .ready none))=W1:=⟨_,rfl⟩
 have hL1:W1.heap[w.heap.size+1]? = some (.loop (rec .ready none)):=by
  rw[<-hW1];have:=World.alloc_heap_new (w.alloc (.deferred (some []))) (.loop (rec .ready none));rwa [World.size_alloc]at this
 have hK1:W1.heap[w.heap.size]? = some (.deferred (some [])):=by
  rw[<-hW1];exact (Below.heap_alloc _ _ _ aH).trans (World.alloc_heap_new w _)
 have hI1:I 0 W1:=by rw[<-hW1];exact hI.alloc _ (hI.alloc _ h0)
 have hb1:aF w0 W1:=by rw[<-hW1];exact aU (aU hb0 _) _
 have hbk:∀(W:World)(l:Nat)(o:Obj),w.heap.size<=l->l<W.heap.size->iC lo hI0 W (W.putObj l o):=fun W l o h1 h2 k _ hk=>World.putObj_heap_other aB
 refine⟨w.heap.size+1,[{ target:=.collected w.heap.size,args:=#[] }],W1,{ target:=.fn (.func gf) lb,args:=#[.func (.yield (w.heap.size+1)) #[] #[]] },W1,gf,
  #[.func (.yield (w.heap.size+1)) #[] #[]]++lb,W1,?_,?_,?_,?_,(fun h=>(by cases h)),?_⟩
 ·rw[<-hW1,hrec];exact run_enterLoop_outer _ _ _ _ _
 ·simp only[resolve,hg]
  simp[go_sem]
 ·intro f' hf';trivial
 ·simp[invoke,go_sem,eg]
 ·have hnw:∀{A B:World}{row:Option Nat},(∀ r,row=some r->W1.heap.size<=r/\∃ o:Obj,A.heap[r]? = some o/\o.isWalk=true)->(∀ r,row=some r->w.heap.size<=r/\∃ o:Obj,A.heap[r]? = some o/\o.isCells=false) :=
   fun hr r e=>by obtain⟨hB,o,ho,hw⟩:=hr r e;exact⟨by rw[<-hW1]at hB;simp at hB;omega,o,ho,Obj.not_cells_of_walk hw⟩
  refine (hseq (w.heap.size+1)
   (fun k W=>I k W/\W.heap[w.heap.size+1]? = some (.loop (rec .ready none))/\W.heap[w.heap.size]? = some (.deferred (some [])))
   (fun W=>∃ c,Ix c W/\W.heap[w.heap.size+1]? = some (.loop (rec .done (some c)))/\W.heap[w.heap.size]? = some (.deferred (some [])))
   W1 hb1
   (fun s A B row hs hg' hr=>⟨hI s A B row hs.1 hg' (hnw (B:=B) hr),(grownBy_keeps hg' (fun r e=>(hr r e).2) hs.2.1 rfl).trans hs.2.1,(grownBy_keeps hg' (fun r e=>(hr r e).2) hs.2.2 rfl).trans hs.2.2⟩)
   (fun k A B hs ht=>⟨hT k A B hs.1 ht,(hTk A B ht).same _ _ hs.2.1 rfl,(hTk A B ht).same _ _ hs.2.2 rfl⟩)
   ?_ ⟨hI1,hL1,hK1⟩).mono ?_
  ·rintro k x W hx ⟨hi,hl,hk⟩
   have hlt:w.heap.size+1<W.heap.size:=(Array.getElem?_eq_some_iff.1 hl).1
   have hy:=run_yield (P:=P) (args:=#[x]) hl (by rw[hrec];rfl)
   rw[hrec]at hy
   refine⟨fn,_,assign,body,hy,roundIn_of_wpIn hfn (hassign _ x W _ (List.mem_of_getElem? hx) ⟨_,run_beginRound hl (by rw[hrec]),?_⟩)⟩
   have hl2:(W.putObj (w.heap.size+1) (.loop { rec .ready none with state:=.busy })).heap[w.heap.size+1]? = some (.loop { rec .ready none with state:=.busy }):=World.putObj_heap_same hlt
   have hk2:(W.putObj (w.heap.size+1) (.loop { rec .ready none with state:=.busy })).heap[w.heap.size]? = some (.deferred (some [])):=(World.putObj_heap_other aB).trans hk
   have hw2:iC lo hI0 W (W.putObj (w.heap.size+1) (.loop { rec .ready none with state:=.busy })):=hbk _ _ _ aB hlt
   refine wpIn_mono (hbody _ k x _ hx (hI.putObj _ hi aB hl rfl)) ?_
   have fin:∀(jump:Option Code)(W3:World),KeepsFrom w.heap.size (W.putObj (w.heap.size+1) (.loop { rec .ready none with state:=.busy })) W3 ->
     (Instr.endRound (w.heap.size+1) jump).run P W3=.ok (.bool jump.isNone) (W3.putObj (w.heap.size+1) (.loop (rec (if jump.isNone then .ready else .done) jump))) /\
     W3.heap[w.heap.size+1]? = some (.loop { rec .ready none with state:=.busy }) /\
     (W3.putObj (w.heap.size+1) (.loop (rec (if jump.isNone then .ready else .done) jump))).heap[w.heap.size+1]? = some (.loop (rec (if jump.isNone then .ready else .done) jump)) /\
     (W3.putObj (w.heap.size+1) (.loop (rec (if jump.isNone then .ready else .done) jump))).heap[w.heap.size]? = some (.deferred (some [])):=fun jump W3 hk3=>by
    have hl3:=hk3.same _ _ aB hl2 rfl
    have:=run_endRound (P:=P) jump hl3
    rw[hrec]at this ⊢
    exact⟨this,by rw[hrec]at hl3;exact hl3,World.putObj_heap_same (Array.getElem?_eq_some_iff.1 hl3).1,(World.putObj_heap_other aB).trans (hk3.same _ _ (Nat.le_refl _) hk2 rfl)⟩
   rintro e a3 W3 hp
   cases e with
   | normal =>
    obtain⟨hk3,hkp3,hi3⟩:=hp
    obtain⟨hr,hl3,hl4,hk4⟩:=fin none W3 hk3
    have hlt3:=(Array.getElem?_eq_some_iff.1 hl3).1
    exact⟨_,_,hr,.inl ⟨rfl,⟨hI.putObj _ hi3 aB hl3 rfl,hl4,hk4⟩,(hw2.trans hkp3).trans (hbk _ _ _ aB hlt3)⟩⟩
   | ret =>
    obtain⟨hk3,hi3⟩:=hp
    obtain⟨hr,hl3,hl4,hk4⟩:=fin (some .ret) W3 hk3
    exact⟨_,_,hr,.inr ⟨rfl,.ret,(hIx _).putObj (s:=()) _ hi3 aB hl3 rfl,hl4,hk4⟩⟩
   | exit id =>
    obtain⟨hk3,hi3⟩:=hp
    obtain⟨hr,hl3,hl4,hk4⟩:=fin (some (.exit id)) W3 hk3
    exact⟨_,_,hr,.inr ⟨rfl,.exit id,(hIx _).putObj (s:=()) _ hi3 aB hl3 rfl,hl4,hk4⟩⟩
   | goto t =>
    obtain⟨hk3,hi3⟩:=hp
    obtain⟨hr,hl3,hl4,hk4⟩:=fin (some (.goto t)) W3 hk3
    exact⟨_,_,hr,.inr ⟨rfl,.goto t,(hIx _).putObj (s:=()) _ hi3 aB hl3 rfl,hl4,hk4⟩⟩
   | panic ch=>exact hp.elim
   | outgrown=>exact hp.elim
  ·rintro e W2 ⟨⟨v,rfl⟩,(⟨hi,hl,hk⟩ | ⟨c,hi,hl,hk⟩)⟩
   ·exact⟨none,_,uN,hdone _ _ (Nat.le_refl _) (hI.putObj _ hi aB hl rfl) ((World.putObj_heap_other aB).trans hk)⟩
   ·exact⟨some c,_,uN,hstop _ c _ (Nat.le_refl _) ((hIx c).putObj (s:=()) _ hi aB hl rfl) ((World.putObj_heap_other aB).trans hk)⟩
end Go.Proofs.YtlkbkclnbppigaaGreatDoor
namespace Go.Proofs
open Tryz
open Go.Shelf
def Tryz.keys302_ren:Go.Shelf.Ren:=⟨fun | 7=>302 | 10=>317 | n=>n,fun | 23=>323 | 26=>9 | 3=>9 | 28=>128 | 0=>0 | 27=>127 | 33=>86 | 4=>4 | n=>n,fun | n=>n⟩
theorem Tryz.keys302:Go.Proofs.SlLaysZ.n7 prog keys302_ren:={
 mixed:=aG
 f7:=⟨Tryz.f302.name,aK,aO func302⟩
 f10:=⟨Tryz.f317.name,aK,aO func317⟩
 t0:=underlying0
 a0:=isAgg0
 z0:=sizeOf0
 v0:=zeroValue0
 t4:=underlying4
 a4:=isAgg4
 z4:=sizeOf4
 v4:=zeroValue4
 t23:=underlying323
 a23:=isAgg323
 z23:=sizeOf323
 v23:=zeroValue323
 t26:=underlying9
 a26:=isAgg9
 z26:=sizeOf9
 v26:=zeroValue9
 t27:=underlying127
 a27:=isAgg127
 z27:=sizeOf127
 v27:=zeroValue127
 t28:=underlying128
 a28:=isAgg128
 z28:=sizeOf128
 v28:=zeroValue128
 t33:=underlying86
 a33:=isAgg86
 z33:=sizeOf86
 v33:=zeroValue86 }
def Tryz.sorted96_ren:Go.Shelf.Ren:=⟨fun | 6=>96 | 8=>164 | 9=>165 | 11=>222 | 13=>224 | 12=>223 | 23=>283 | 24=>284 | 14=>274 | 15=>275 | 16=>276 | 17=>277 | 18=>278 | 19=>279 | 20=>280 | 21=>281 | 22=>282 | 25=>305 | 26=>306 | 27=>307 | 28=>308 | 29=>309 | 30=>310 | 31=>318 | n=>n,fun | 26=>9 | 28=>128 | 24=>24 | 0=>0 | 3=>3 | 37=>106 | 48=>147 | 50=>150 | 4=>4 | 40=>304 | 39=>303 | 45=>160 | 5=>5 | 9=>9 | 51=>326 | 55=>330 | 57=>342 | 58=>343 | 33=>86 | n=>n,fun | n=>n⟩
theorem Tryz.sorted96:Go.Proofs.SlLaysZ.n6 prog sorted96_ren:={
 mixed:=aG
 f6:=⟨f96.name,aK,aO func96⟩
 f8:=⟨f164.name,aK,aO func164⟩
 f11:=⟨f222.name,aK,aO func222⟩
 t0:=underlying0
 a0:=isAgg0
 z0:=sizeOf0
 v0:=zeroValue0
 t24:=underlying24
 a24:=isAgg24
 z24:=sizeOf24
 v24:=zeroValue24
 t26:=underlying9
 a26:=isAgg9
 z26:=sizeOf9
 v26:=zeroValue9
 t28:=underlying128
 a28:=isAgg128
 z28:=sizeOf128
 v28:=zeroValue128
 i26:=lF}
def Tryz.sort165_ren:Go.Shelf.Ren:=⟨fun | 6=>165 | 8=>224 | 9=>223 | 19=>283 | 20=>284 | 21=>274 | 22=>275 | 23=>276 | 24=>277 | 25=>278 | 26=>279 | 27=>280 | 28=>281 | 29=>282 | 36=>305 | 31=>306 | 32=>307 | 37=>308 | 38=>309 | 39=>310 | 41=>318 | n=>n,fun | 27=>24 | 29=>9 | 3=>3 | 32=>106 | 26=>24 | 0=>0 | 44=>147 | 46=>150 | 4=>4 | 36=>304 | 35=>303 | 41=>160 | 5=>5 | 9=>9 | 53=>326 | 57=>330 | 63=>342 | 64=>343 | n=>n,fun | n=>n⟩
theorem Tryz.sort165:Go.Proofs.SlLaysM.n6 prog sort165_ren:={
 mixed:=aG
 f6:=⟨Tryz.f165.name,aK,aO func165⟩
 f8:=aO func224
 f9:=⟨f223.name,aK,aO func223⟩
 f19:=aO func283
 f20:=aO func284
 f21:=⟨f274.name,aK,aO func274⟩
 f22:=⟨f275.name,aK,aO func275⟩
 f23:=⟨Tryz.f276.name,aK,aO func276⟩
 f24:=⟨Tryz.f277.name,aK,aO func277⟩
 f25:=⟨f278.name,aK,aO func278⟩
 f26:=⟨Tryz.f279.name,aK,aO func279⟩
 f27:=⟨Tryz.f280.name,aK,aO func280⟩
 f28:=⟨Tryz.f281.name,aK,aO func281⟩
 f29:=⟨Tryz.f282.name,aK,aO func282⟩
 f31:=aO func306
 f32:=aO func307
 f36:=⟨Tryz.f305.name,aK,aO func305⟩
 f37:=⟨Tryz.f308.name,aK,aO func308⟩
 f38:=⟨Tryz.f309.name,aK,aO func309⟩
 f39:=⟨Tryz.f310.name,aK,aO func310⟩
 f41:=⟨Tryz.f318.name,aK,aO func318⟩
 t0:=underlying0
 a0:=isAgg0
 z0:=sizeOf0
 v0:=zeroValue0
 t3:=underlying3
 a3:=isAgg3
 z3:=sizeOf3
 v3:=zeroValue3
 t4:=underlying4
 a4:=isAgg4
 z4:=sizeOf4
 v4:=zeroValue4
 t5:=underlying5
 a5:=isAgg5
 z5:=sizeOf5
 v5:=zeroValue5
 t9:=underlying9
 a9:=isAgg9
 z9:=sizeOf9
 v9:=zeroValue9
 t26:=underlying24
 a26:=isAgg24
 z26:=sizeOf24
 v26:=zeroValue24
 t27:=underlying24
 a27:=isAgg24
 z27:=sizeOf24
 v27:=zeroValue24
 t29:=underlying9
 a29:=isAgg9
 z29:=sizeOf9
 v29:=zeroValue9
 t32:=underlying106
 a32:=isAgg106
 z32:=sizeOf106
 v32:=zeroValue106
 t35:=underlying303
 a35:=isAgg303
 z35:=sizeOf303
 v35:=zeroValue303
 t36:=underlying304
 a36:=isAgg304
 z36:=sizeOf304
 v36:=zeroValue304
 t41:=underlying160
 a41:=isAgg160
 z41:=sizeOf160
 v41:=zeroValue160
 t44:=underlying147
 a44:=isAgg147
 z44:=sizeOf147
 v44:=zeroValue147
 t46:=underlying150
 a46:=isAgg150
 z46:=sizeOf150
 v46:=zeroValue150
 t53:=underlying326
 a53:=isAgg326
 z53:=sizeOf326
 v53:=zeroValue326
 t57:=underlying330
 a57:=isAgg330
 z57:=sizeOf330
 v57:=zeroValue330
 t63:=underlying342
 a63:=isAgg342
 z63:=sizeOf342
 v63:=zeroValue342
 t64:=underlying343
 a64:=isAgg343
 z64:=sizeOf343
 v64:=zeroValue343 }
open Go.RowKit Go.Maps Go.Sort Go.Shelf
theorem Tryz.sorts96(m:Nat):AnyZ.SortsIn prog sorted96_ren Fence.wide m :=
 ⟨fun blk off cap ss W hH hblk hsz=>callsIn_wide.2 (AnyM.slices_Sort_string sort165 blk off cap ss W hH hblk hsz),
 fun p cap W=>callsIn_wide.2 (AnyM.slices_Sort_string_none sort165 p cap W)⟩
theorem Tryz.maps_Keys_302(mb:Option Nat)(W:World):CallsIn Fence.wide 5 prog 302 #[.map mb] W fun e w'=>e=.returned (.func (.func 317) #[] #[.pointer (some ⟨W.heap.size,0,none⟩)])/\w'=W.alloc (.cells #[.map mb] 323) :=
 AnyZ.keys_in keys302 Fence.wide 5 trivial rfl mb W
theorem Tryz.slices_Sorted_keys_96_302{H:Type}(b nn:Nat)(D0:DataW H)(R:Value->Option (DataW H × List MemPlace))(w:World)(hown:w.ownsMap prog 9 R b nn D0)(hmax:Maps.size D0<=maxLen)(hbytes:Maps.size D0*16<=140737488355328) :
  CallsIn Fence.wide 5 prog 96 #[.func (.func 317) #[] #[.pointer (some ⟨w.heap.size,0,none⟩)]] (w.alloc (.cells #[.map (some b)] 323)) fun e w'=>∃(v:Value)(ss:List (List UInt8)),e=.returned v/\ss.Perm (strKeys D0) /\
   w'.ownsRow (w.alloc (.cells #[.map (some b)] 323)).heap.size 9 1 v ss.length ((ss.mergeSort (fun x y=>decide (x<=y))).map encStr)/\(v=.slice none 0 0↔ss=[])/\Below (w.alloc (.cells #[.map (some b)] 323)).heap.size (w.alloc (.cells #[.map (some b)] 323)) w':=by
 have hbl:=hown.lt;have hseq:SeqGives Fence.wide 2 prog 317 #[.pointer (some ⟨w.heap.size,0,none⟩)] encStr (fun ss=>ss.Perm (strKeys D0)) (Maps.size D0) (w.alloc (.cells #[.map (some b)] 323)) :=
  AnyZ.keys_gives (ρ:=keys302_ren) { keys302 with } Fence.wide _ trivial rfl aB w.heap.size b nn D0 _ aH aH (by
   obtain⟨es,clock,hb,Ft,hs,hD⟩:=hown
   exact⟨es,clock,(Below.heap_alloc _ _ b hbl).trans hb,Ft,hs,hD⟩)
 exact AnyZ.sorted_in sorted96 Fence.wide 5 trivial trivial trivial trivial rfl aB (sorts96 _) (enters_of func165 aG rfl) 317 #[.pointer (some ⟨w.heap.size,0,none⟩)] trivial (enters_of func317 aG rfl) _ _ hmax hbytes _ hseq
end Go.Proofs
namespace Go.Proofs.YtlkbkclnbppigaaGreatDoor
open Tryz
open Go.Maps Go.Sort
set_option linter.unusedVariables false
def jG:List (List UInt8 × List UInt8)->List UInt8 × List UInt8->List (List UInt8 × List UInt8)
 | [],p=>[p]
 | q :: r,p=>if p.1=q.1 then p :: r else if p.1<q.1 then p :: q :: r else q :: jG r p
def jU(qs:List (List UInt8 × List UInt8)):List (List UInt8 × List UInt8):=qs.foldl jG []
def uO(l:List (List UInt8 × List UInt8)):Prop:=l.Pairwise fun a b=>a.1<b.1
theorem Ed(a b:List UInt8)(h1:a≠b)(h2:¬ a<b):b<a:=by
 rcases Decidable.em (b<a) with h | h
 ·exact h
 ·exact absurd (List.le_antisymm (List.not_lt.1 h) (List.not_lt.1 h2)) h1
theorem qF(p:List UInt8 × List UInt8):∀(l:List (List UInt8 × List UInt8)),uO l->∀ x,x∈jG l p↔x=p\/(x∈l/\x.1≠p.1)
 | [],_,x=>by simp[jG]
 | q :: r,h,x=>by
  have hr:=List.pairwise_cons.1 h;unfold jG;by_cases e:p.1=q.1
  ·rw[if_pos e];simp only[List.mem_cons];constructor
   ·rintro (h1 | h1)
    ·exact .inl h1
    ·exact .inr ⟨.inr h1,fun e2=>List.lt_irrefl _ (by have:=hr.1 x h1;rw[e2,e]at this;exact this)⟩
   ·rintro (h1 | ⟨h1 | h1,h2⟩)
    ·exact .inl h1
    ·subst h1;exact absurd e.symm h2
    ·exact .inr h1
  ·rw[if_neg e];by_cases e2:p.1<q.1
   ·rw[if_pos e2];simp only[List.mem_cons];constructor
    ·rintro (h1 | h1 | h1)
     ·exact .inl h1
     ·subst h1;exact .inr ⟨.inl rfl,fun h=>e h.symm⟩
     ·exact .inr ⟨.inr h1,fun h=>List.lt_irrefl _ (by have:=List.lt_trans e2 (hr.1 x h1);rw[h]at this;exact this)⟩
    ·rintro (h1 | ⟨h1 | h1,_⟩)
     ·exact .inl h1
     ·exact .inr (.inl h1)
     ·exact .inr (.inr h1)
   ·rw[if_neg e2,List.mem_cons,qF p r hr.2 x,List.mem_cons];constructor
    ·rintro (h1 | h1 | ⟨h1,h2⟩)
     ·subst h1;exact .inr ⟨.inl rfl,fun h=>e h.symm⟩
     ·exact .inl h1
     ·exact .inr ⟨.inr h1,h2⟩
    ·rintro (h1 | ⟨h1 | h1,h2⟩)
     ·exact .inr (.inl h1)
     ·exact .inl h1
     ·exact .inr (.inr ⟨h1,h2⟩)
theorem zV(p:List UInt8 × List UInt8):∀(l:List (List UInt8 × List UInt8)),uO l->uO (jG l p)
 | [],_=>List.pairwise_singleton _ _
 | q :: r,h=>by
  have hr:=List.pairwise_cons.1 h;unfold jG;by_cases e:p.1=q.1
  ·rw[if_pos e];exact List.pairwise_cons.2 ⟨fun x hx=>e▸hr.1 x hx,hr.2⟩
  ·rw[if_neg e];by_cases e2:p.1<q.1
   ·rw[if_pos e2];refine List.pairwise_cons.2 ⟨fun x hx=>?_,h⟩;rcases List.mem_cons.1 hx with rfl | hx
    ·exact e2
    ·exact List.lt_trans e2 (hr.1 x hx)
   ·rw[if_neg e2];refine List.pairwise_cons.2 ⟨fun x hx=>?_,zV p r hr.2⟩;rcases (qF p r hr.2 x).1 hx with rfl | ⟨hx,_⟩
    ·exact Ed _ _ e e2
    ·exact hr.1 x hx
def l9(qs:List (List UInt8 × List UInt8)):DataW Unit:=qs.foldl (fun D q=>D.put (.string q.1) (.lit (.string q.2))) (.map [])
def rF(D:DataW Unit)(l:List (List UInt8 × List UInt8)):Prop :=
 Tidy D/\(∃ es,D=.map es/\∀ p∈es,∃ x,p.1=.string x)/\uO l/\(∀ x,(∃ v,(x,v)∈l)↔has D (.string x)=true)/\∀ k v,(k,v)∈l->∀ z,D.atKey (.string k) z=.lit (.string v)
theorem Qe{D:DataW Unit}{l:List (List UInt8 × List UInt8)}(h:rF D l)(k v:List UInt8):rF (D.put (.string k) (.lit (.string v))) (jG l (k,v)):=by
 obtain⟨h1,⟨es,rfl,he⟩,h3,h4,h5⟩:=h;have hk:WideAt.IsKeyLit (.string k):=trivial;refine⟨h1.put hk _,⟨_,rfl,?_⟩,zV _ _ h3,fun x=>?_,fun k' v' hm z=>?_⟩
 ·intro p hp;rcases List.mem_cons.1 ((WideShapes.insert_perm _ _).mem_iff.1 hp) with rfl | hp
  ·exact⟨k,rfl⟩
  ·exact he p (List.mem_filter.1 hp).1
 ·by_cases e:x=k
  ·subst e;rw[has_put_same h1.isMap hk];exact⟨fun _=>rfl,fun _=>⟨v,(qF _ _ h3 _).2 (.inl rfl)⟩⟩
  ·rw[has_put_other (by intro h;injection h with h;exact e h),<-h4 x];constructor
   ·rintro⟨v',hv⟩;rcases (qF _ _ h3 _).1 hv with h | ⟨h,_⟩
    ·injection h with h _;exact absurd h e
    ·exact⟨v',h⟩
   ·rintro⟨v',hv⟩;exact⟨v',(qF _ _ h3 _).2 (.inr ⟨hv,e⟩)⟩
 ·rcases (qF _ _ h3 _).1 hm with h | ⟨h,hne⟩
  ·injection h with e1 e2
   subst e1;subst e2;exact atKey_put_same h1.isMap hk _ _
  ·rw[atKey_put_other (by intro h;injection h with h;exact hne h)];exact h5 k' v' h z
theorem Qg:rF (.map []) []:=⟨tidy_empty,⟨[],rfl,aH⟩,List.Pairwise.nil,by simp[has],aH⟩
theorem Ee:∀(qs:List (List UInt8 × List UInt8))(D:DataW Unit)(l:List (List UInt8 × List UInt8)),rF D l->rF (qs.foldl (fun D q=>D.put (.string q.1) (.lit (.string q.2))) D) (qs.foldl jG l)
 | [],_,_,h=>h
 | q :: qs,D,l,h=>Ee qs _ _ (Qe h q.1 q.2)
theorem zW(qs:List (List UInt8 × List UInt8)):rF (l9 qs) (jU qs):=Ee qs _ _ Qg
theorem Qh(qs:List (List UInt8 × List UInt8))(ss:List (List UInt8))(h:ss.Perm (strKeys (l9 qs))):ss.mergeSort (fun x y=>decide (x<=y))=(jU qs).map (·.1):=by
 obtain⟨h1,⟨es,he,hs⟩,h3,h4,h5⟩:=zW qs;have hnd:((jU qs).map (·.1)).Nodup:=by
  refine List.pairwise_map.2 (h3.imp ?_);intro a b hlt e;rw[e]at hlt;exact List.lt_irrefl _ hlt
 have hp:((jU qs).map (·.1)).Perm (strKeys (l9 qs)):=by
  obtain⟨es',he',hp'⟩:=h1;rw[he];refine perm_strKeys (by rw[he]at he';injection he' with he';rw[he'];exact hp') hs hnd fun x=>?_
  rw[<-he,<-h4 x];simp
 have:=mergeSort_of_perm (h.trans hp.symm);rw[show (fun x y:List UInt8=>decide (x<=y))=leB from rfl,this];have tr:∀ a b c:List UInt8,leB a b=true->leB b c=true->leB a c=true:=fun a b c h1 h2=>by simp only[leB,decide_eq_true_eq] at *;exact List.le_trans h1 h2
 have tt:∀ a b:List UInt8,(leB a b||leB b a)=true:=fun a b=>by simp only[leB,Bool.or_eq_true,decide_eq_true_eq];exact List.le_total a b
 refine List.Perm.eq_of_pairwise (le:=fun a b=>leB a b=true) (fun a b _ _ h1 h2=>?_) (List.pairwise_mergeSort tr tt _) ?_ (List.mergeSort_perm _ leB)
 ·simp only[leB,decide_eq_true_eq]at h1 h2;exact List.le_antisymm h1 h2
 ·refine List.pairwise_map.2 (h3.imp fun {a b} hlt=>?_);simp only[leB,decide_eq_true_eq];exact List.not_lt.1 fun h=>List.lt_irrefl _ (List.lt_trans h hlt)
end Go.Proofs.YtlkbkclnbppigaaGreatDoor
namespace Go.Proofs.YtlkbkclnbppigaaGreatDoor.Sha
open Tryz
set_option linter.unusedVariables false
set_option maxRecDepth 100000
def add32(a b:Nat):Nat:=(a+b) % 4294967296
def rot(x n:Nat):Nat:=(x / 2 ^ n)|||((x*2 ^ (32-n)) % 4294967296)
def s0(x:Nat):Nat:=(rot x 7 ^^^ rot x 18) ^^^ (x / 8)
def s1(x:Nat):Nat:=(rot x 17 ^^^ rot x 19) ^^^ (x / 1024)
def mix(x i j k:Nat):Nat:=(rot x i ^^^ rot x j) ^^^ rot x k
def qG(b:List Nat):Nat:=((b.getD 0 0*256+b.getD 1 0)*256+b.getD 2 0)*256+b.getD 3 0
def words:Nat->List Nat->List Nat
 | 0,_=>[]
 | n+1,b=>qG b :: words n (b.drop 4)
def uP(l:List Nat):Nat:=add32 (add32 (add32 (l.getD (l.length-16) 0) (s0 (l.getD (l.length-15) 0))) (l.getD (l.length-7) 0)) (s1 (l.getD (l.length-2) 0))
def grow:Nat->List Nat->List Nat
 | 0,l=>l
 | n+1,l=>grow n (l++[uP l])
structure St where
 (a b c d e f g h:Nat)
def round(v:St)(k w:Nat):St :=
 let x:=add32 (add32 (add32 (add32 v.h (mix v.e 6 11 25)) ((v.e &&& v.f) ^^^ ((4294967295-v.e) &&& v.g))) k) w
 let y:=add32 (mix v.a 2 13 22) (((v.a &&& v.b) ^^^ (v.a &&& v.c)) ^^^ (v.b &&& v.c))
 ⟨add32 x y,v.a,v.b,v.c,add32 v.d x,v.e,v.f,v.g⟩
def kK:List Nat->List Nat->St->St
 | k :: ks,w :: ws,v=>kK ks ws (round v k w)
 | _,_,v=>v
def ks:List Nat:=[
 0x428a2f98,0x71374491,0xb5c0fbcf,0xe9b5dba5,0x3956c25b,0x59f111f1,0x923f82a4,0xab1c5ed5,
 0xd807aa98,0x12835b01,0x243185be,0x550c7dc3,0x72be5d74,0x80deb1fe,0x9bdc06a7,0xc19bf174,
 0xe49b69c1,0xefbe4786,0x0fc19dc6,0x240ca1cc,0x2de92c6f,0x4a7484aa,0x5cb0a9dc,0x76f988da,
 0x983e5152,0xa831c66d,0xb00327c8,0xbf597fc7,0xc6e00bf3,0xd5a79147,0x06ca6351,0x14292967,
 0x27b70a85,0x2e1b2138,0x4d2c6dfc,0x53380d13,0x650a7354,0x766a0abb,0x81c2c92e,0x92722c85,
 0xa2bfe8a1,0xa81a664b,0xc24b8b70,0xc76c51a3,0xd192e819,0xd6990624,0xf40e3585,0x106aa070,
 0x19a4c116,0x1e376c08,0x2748774c,0x34b0bcb5,0x391c0cb3,0x4ed8aa4a,0x5b9cca4f,0x682e6ff3,
 0x748f82ee,0x78a5636f,0x84c87814,0x8cc70208,0x90befffa,0xa4506ceb,0xbef9a3f7,0xc67178f2]
def st0:St:=⟨0x6a09e667,0xbb67ae85,0x3c6ef372,0xa54ff53a,0x510e527f,0x9b05688c,0x1f83d9ab,0x5be0cd19⟩
def comp(s:St)(b:List Nat):St :=
 let v:=kK ks (grow 48 (words 16 b)) s
 ⟨add32 s.a v.a,add32 s.b v.b,add32 s.c v.c,add32 s.d v.d,add32 s.e v.e,add32 s.f v.f,add32 s.g v.g,add32 s.h v.h⟩
def blocks:Nat->St->List Nat->St
 | 0,s,_=>s
 | n+1,s,m=>blocks n (comp s m) (m.drop 64)
def bytes4(x:Nat):List Nat:=[x / 16777216,x / 65536 % 256,x / 256 % 256,x % 256]
def bytes8(x:Nat):List Nat:=bytes4 (x / 4294967296 % 4294967296)++bytes4 (x % 4294967296)
def pad(m:List Nat):List Nat:=m++(128 :: (List.replicate ((119-m.length % 64) % 64) 0++bytes8 (8*m.length)))
def out(s:St):List Nat:=bytes4 s.a++bytes4 s.b++bytes4 s.c++bytes4 s.d++bytes4 s.e++bytes4 s.f++bytes4 s.g++bytes4 s.h
def sum(m:List Nat):List Nat:=out (blocks ((pad m).length / 64) st0 (pad m))
theorem add32_lt(a b:Nat):add32 a b<4294967296:=Nat.mod_lt _ aK
theorem rot_lt(x n:Nat)(h:x<4294967296):rot x n<4294967296:=by
 unfold rot;exact Nat.or_lt_two_pow (n:=32) (Nat.lt_of_le_of_lt (Nat.div_le_self _ _) h) (Nat.mod_lt _ aK)
theorem xor_lt{a b:Nat}(ha:a<4294967296)(hb:b<4294967296):a ^^^ b<4294967296:=Nat.xor_lt_two_pow (n:=32) ha hb
theorem land_lt{a b:Nat}(hb:b<4294967296):a &&& b<4294967296:=Nat.and_lt_two_pow (n:=32) _ hb
theorem s0_lt(x:Nat)(h:x<4294967296):s0 x<4294967296:=xor_lt (xor_lt (rot_lt x _ h) (rot_lt x _ h)) (Nat.lt_of_le_of_lt (Nat.div_le_self _ _) h)
theorem s1_lt(x:Nat)(h:x<4294967296):s1 x<4294967296:=xor_lt (xor_lt (rot_lt x _ h) (rot_lt x _ h)) (Nat.lt_of_le_of_lt (Nat.div_le_self _ _) h)
theorem mix_lt(x i j k:Nat)(h:x<4294967296):mix x i j k<4294967296:=xor_lt (xor_lt (rot_lt x _ h) (rot_lt x _ h)) (rot_lt x _ h)
theorem uQ:∀(n:Nat)(b:List Nat),(words n b).length=n
 | 0,_=>rfl
 | n+1,b=>by rw[words,List.length_cons,uQ n]
theorem wV:∀(n:Nat)(l:List Nat),grow (n+1) l=grow n l++[uP (grow n l)]
 | 0,l=>rfl
 | n+1,l=>by rw[grow,wV n];rfl
theorem wW:∀(n:Nat)(l:List Nat),(grow n l).length=n+l.length
 | 0,l=>by simp[grow]
 | n+1,l=>by rw[grow,wW n];simp;omega
theorem Ef:∀(a b:List Nat)(x y:Nat)(v:St),a.length=b.length->kK (a++[x]) (b++[y]) v=round (kK a b v) x y
 | [],[],_,_,_,_=>rfl
 | k :: a,w :: b,x,y,v,h=>by
  rw[List.cons_append,List.cons_append,kK,Ef a b x y _ nD,kK]
 | [],_ :: _,_,_,_,h=>nG
 | _ :: _,[],_,_,_,h=>nG
theorem Qi(a b:List Nat)(v:St)(k:Nat)(ha:k<a.length)(hb:k<b.length):kK (a.take (k+1)) (b.take (k+1)) v=round (kK (a.take k) (b.take k) v) (a.getD k 0) (b.getD k 0):=by
 rw[List.take_add_one,List.take_add_one,List.getElem?_eq_getElem ha,List.getElem?_eq_getElem hb];show kK (_++[_]) (_++[_]) _=_;rw[Ef _ _ _ _ _ aP,List.getD_eq_getElem?_getD,List.getD_eq_getElem?_getD,List.getElem?_eq_getElem ha,List.getElem?_eq_getElem hb];rfl
structure Ok(v:St):Prop where
 a:v.a<4294967296
 b:v.b<4294967296
 c:v.c<4294967296
 d:v.d<4294967296
 e:v.e<4294967296
 f:v.f<4294967296
 g:v.g<4294967296
 h:v.h<4294967296
theorem Qj{v:St}(k w:Nat)(hv:Ok v):Ok (round v k w):=⟨add32_lt _ _,hv.a,hv.b,hv.c,add32_lt _ _,hv.e,hv.f,hv.g⟩
theorem Eg:∀(a b:List Nat)(v:St),Ok v->Ok (kK a b v)
 | k :: a,w :: b,v,h=>Eg a b _ (Qj k w h)
 | [],[],_,h=>h
 | [],_ :: _,_,h=>h
 | _ :: _,[],_,h=>h
theorem Qk(s:St)(b:List Nat):Ok (comp s b):=⟨add32_lt _ _,add32_lt _ _,add32_lt _ _,add32_lt _ _,add32_lt _ _,add32_lt _ _,add32_lt _ _,add32_lt _ _⟩
theorem Ql:Ok st0:=⟨aK,aK,aK,aK,aK,aK,aK,aK⟩
theorem Eh:∀(n:Nat)(s:St)(m:List Nat),Ok s->Ok (blocks n s m)
 | 0,_,_,h=>h
 | n+1,s,m,_=>Eh n _ _ (Qk s m)
theorem Ei:∀(n k:Nat)(b:List Nat),4*n<=k->words n (b.take k)=words n b
 | 0,_,_,_=>rfl
 | n+1,k,b,h=>by
  rw[words,words,List.drop_take,Ei n (k-4) _ aB];congr 1;unfold qG;have e:∀ j,j<4->(b.take k).getD j 0=b.getD j 0:=fun j hj=>by
   rw[List.getD_eq_getElem?_getD,List.getD_eq_getElem?_getD,List.getElem?_take_of_lt aB]
  rw[e 0 aB,e 1 aB,e 2 aB,e 3 aB]
theorem Ej(s:St)(b:List Nat):comp s (b.take 64)=comp s b:=by
 unfold comp;rw[Ei 16 64 b aB]
theorem Em:∀(n:Nat)(s:St)(m:List Nat),blocks (n+1) s m=comp (blocks n s m) (m.drop (64*n))
 | 0,s,m=>rfl
 | n+1,s,m=>by
  rw[blocks,Em n (comp s m) (m.drop 64),List.drop_drop,show 64+64*n=64*(n+1) by omega];rfl
theorem zX:∀(n:Nat)(s:St)(m r:List Nat),64*n<=m.length->blocks n s (m++r)=blocks n s m
 | 0,_,_,_,_=>rfl
 | n+1,s,m,r,h=>by
  rw[blocks,blocks,List.drop_append_of_le_length aB,zX n _ _ r aP,<-Ej s (m++r),<-Ej s m,List.take_append_of_le_length aB]
end Go.Proofs.YtlkbkclnbppigaaGreatDoor.Sha
