/- What 'resolve' returns: the parts that are left of some parts. -/
import Derived.Test.YtlkbkclnbppigaaGreatDoorIZ2
set_option maxHeartbeats 4000000
namespace Go.Proofs.YtlkbkclnbppigaaGreatDoor
open Tryz
open Go.RowKit Go.Sort
set_option linter.unusedVariables false
set_option linter.unusedSimpArgs false
set_option maxRecDepth 100000
attribute [local go_sem] Oper.semAt_some
def kT(out:List aC)(p:aC):Option (List aC) :=
 if p.toList == [46] then some out else if p.toList == [46,46]&&!out.isEmpty then some out.dropLast else if bW p then some (out++[p]) else none
def gp:List aC->List aC->Option (List aC)
 | out,[]=>some out
 | out,p :: r=>(kT out p).bind fun o=>gp o r
theorem rY:(prog.info? 9).map (fun i=>(i.zero,i.size,i.bytes))=some (some (.string ⟨#[]⟩),1,16):=by kernel_rfl
structure zG(T:World->World->Prop)(b n₀:Nat):Prop where
 below:∀ W W',T W W'->Below b W W'
 size:∀ W W',T W W'->W'.heap.size=W.heap.size
 same:∀ W W',T W W'->∀ k,n₀<=k->W'.heap[k]? = W.heap[k]?
 others:∀ W W',T W W'->KeepsOthers W W'
theorem Zd(b b' n₀:Nat)(hb:b<=b')(hn:b' < n₀):zG (yG b') b n₀ where
 below:=by rintro W W' ⟨v,rfl⟩;exact (Below.refl b W).setCell (p:=⟨b',0,none⟩) hb v
 size:=by rintro W W' ⟨v,rfl⟩;simp[World.setCell]
 same:=by rintro W W' ⟨v,rfl⟩ k hk;exact Below.heap_setCell W _ _ _ aP
 others:=Oh
theorem Ze(b n₀:Nat):zG (fun _ _=>False) b n₀:=⟨fun _ _ h=>h.elim,fun _ _ h=>h.elim,fun _ _ h=>h.elim,fun _ _ h=>h.elim⟩
theorem zH{W W':World}(h:aF W W'):KeepsOthers W W':=⟨h.size,fun k o hk _=>(h.block k (Array.getElem?_eq_some_iff.1 hk).1).trans hk⟩
theorem wH{W W':World}(h:aF W W'):W.grownBy W' none:=⟨h.os,h.tape,h.output,h.size,fun k hk _=>h.block k hk⟩
theorem fZ{W W':World}{base:Nat}{e:TypeId}{size n:Nat}{v:Value}{xs:List Value}(h:W.ownsRow base e size v n xs)(hb:aF W W'):W'.ownsRow base e size v n xs:=h.kept (row:=none) (wH hb) (by cases h:v.ownBlock <;> simp)
theorem qy{W W':World}{B:Nat}{t:TypeId}{v:Value}(h:Boxed W B t v)(hb:aF W W'):Boxed W' B t v:=(hb.block B h.lt).trans h
theorem rX{W W':World}{base:Nat}{e:TypeId}{size n:Nat}{v:Value}{xs:List Value}(h:W.ownsRow base e size v n xs)(hs:∀ k,base<=k->W'.heap[k]? = W.heap[k]?):W'.ownsRow base e size v n xs:=by
 obtain⟨hl,h2⟩:=h;refine⟨hl,?_⟩;rcases h2 with h0 | ⟨g,cap,cur,hv,hg,hh,r⟩
 ·exact .inl h0
 ·exact .inr ⟨g,cap,cur,hv,hg,(hs g hg).trans hh,r⟩
theorem kG{W:World}{B:Nat}{t:TypeId}{v:Value}(h:Boxed W B t v){p:Addr}(hp:B≠p.block)(u:Value):Boxed (W.setCell p u) B t v:=(Below.heap_setCell W p u B hp).trans h
theorem Zf{w W w2:World}{b B:Nat}(hb:b<=w.heap.size)(h3:Boxed W w.heap.size 24 (.slice none 0 0))(h4:Boxed W (w.heap.size+1) 4 (.bool false))(hbw:Below b w W)(hsz:w.heap.size+1+1+1<=W.heap.size)(hb2:aF W w2) :
  KeepsFrom B W ((w2.setCell ⟨w.heap.size,0,none⟩ (.slice none 0 0)).setCell ⟨w.heap.size+1,0,none⟩ (.bool false))/\Boxed ((w2.setCell ⟨w.heap.size,0,none⟩ (.slice none 0 0)).setCell ⟨w.heap.size+1,0,none⟩ (.bool false)) w.heap.size 24 (.slice none 0 0) /\
   Boxed ((w2.setCell ⟨w.heap.size,0,none⟩ (.slice none 0 0)).setCell ⟨w.heap.size+1,0,none⟩ (.bool false)) (w.heap.size+1) 4 (.bool false)/\Below b w ((w2.setCell ⟨w.heap.size,0,none⟩ (.slice none 0 0)).setCell ⟨w.heap.size+1,0,none⟩ (.bool false)) /\
   w.heap.size+1+1+1<=((w2.setCell ⟨w.heap.size,0,none⟩ (.slice none 0 0)).setCell ⟨w.heap.size+1,0,none⟩ (.bool false)).heap.size:=by
 refine⟨(((zH hb2).trans (KeepsOthers.setCell _ _ _)).trans (KeepsOthers.setCell _ _ _)).from _,kG ((qy h3 hb2).set _) aH _,(kG (qy h4 hb2) aH _).set _,?_,?_⟩
 ·exact ((hbw.trans (hb2.mono aB)).setCell (p:=⟨w.heap.size,0,none⟩) hb _).setCell (p:=⟨w.heap.size+1,0,none⟩) aP _
 ·have:=hb2.size;simp[World.setCell];omega
def zI(ps:List aC)(w:World)(b:Nat)(k:Nat)(W:World):Prop :=
 ∃ out:List aC,(gp [] ps=gp out (ps.drop k)/\out.length<=k) /\
  (∃ v,Boxed W (w.heap.size+1+1) 24 v/\W.ownsRow (w.heap.size+1+1) 9 1 v out.length (out.map .string)/\True) /\
  Boxed W w.heap.size 24 (.slice none 0 0)/\Boxed W (w.heap.size+1) 4 (.bool false)/\Below b w W/\w.heap.size+1+1+1<=W.heap.size
theorem Zg(ps:List aC)(w:World)(b B:Nat)(hb:b<=w.heap.size)(hB:w.heap.size<=B):OwnFrom B (zI ps w b):=by
 rintro k W W' row ⟨out,h1,h2,h3,h4,h5,h6⟩ hg hr;have hr':=fun r e=>(hr r e).2
 refine⟨out,h1,holdsRow_own (w.heap.size+1+1) (w.heap.size+1+1) 24 9 1 (fun o:List aC=>o.length) (fun o=>o.map .string) (fun _ _=>True) out W W' row h2 hg hr',boxed_own w.heap.size 24 (fun _:Unit=>.slice none 0 0) () W W' row h3 hg hr',boxed_own (w.heap.size+1) 4 (fun _:Unit=>.bool false) () W W' row h4 hg hr',?_,Nat.le_trans h6 hg.size⟩;exact h5.grown hg aB (fun r e=>vY)
theorem Zh{T:World->World->Prop}(ps:List aC)(w:World)(b:Nat)(ht:zG T b w.heap.size)(k:Nat)(W W':World)(h:zI ps w b k W)(hT:T W W'):zI ps w b k W':=by
 obtain⟨out,h1,⟨v,hv,hrow,_⟩,h3,h4,h5,h6⟩:=h;have hs:=ht.same W W' hT;exact⟨out,h1,⟨v,(hs _ aB).trans hv,rX hrow (fun j hj=>hs j aB),trivial⟩,(hs _ aB).trans h3,(hs _ aB).trans h4,h5.trans (ht.below W W' hT),by rw[ht.size W W' hT];exact h6⟩
def tu(r:Option (List aC))(w:World)(b:Nat)(e:Ending)(w':World):Prop :=
 Below b w w'/\match r with
  | none=>e=.returned (.tuple #[.slice none 0 0,.bool false])
  | some out=>∃ A c,e=.returned (.tuple #[.slice A out.length c,.bool true])/\aI w' 1 A out.length (out.map .string)/\(∀ a,A=some a->w.heap.size<=a.block)/\out.length<=c
theorem Bh{w:World}{base:Nat}{e:TypeId}{size n c:Nat}{A:Option Addr}{xs:List Value}(h:w.ownsRow base e size (.slice A n c) n xs):n<=c:=by
 rcases h.2 with ⟨h,h0⟩ | ⟨g,cap,cur,hv,_,_,hc,_⟩
 ·omega
 ·injection hv with _ _ hv;omega
theorem fE{w:World}{base:Nat}{e:TypeId}{size n:Nat}{v:Value}{xs:List Value}(h:w.ownsRow base e size v n xs)(r:Nat)(hr:v.ownBlock=some r):base<=r:=by
 rcases h.2 with ⟨rfl,_⟩ | ⟨g,cap,cur,rfl,hg,_⟩
 ·cases hr
 ·injection hr with hr;subst hr;exact hg
theorem Oi(gf b:Nat)(lb:Array Value)(eg:∀ args w,(callFunc gf args).run prog w=.ok (.enter gf args) w)(T:World->World->Prop)(ps:List aC)(w:World)
  (lo hi:Nat) (hhi:hi<=w.heap.size) (hseq:oL prog gf lb (ps.map .string) T lo hi w) (ht:zG T b w.heap.size) (hb:b<=w.heap.size) (hlen:ps.length<=1000000000) (hsz:∀ p∈ps,p.size<=4294967281) :
  Calls prog 265 #[.func (.func gf) #[] lb] w (tu (gp [] ps) w b):=by
 obtain⟨i0,hi0,hz0,hz1,hz2⟩:=info_parts rY;refine (callsIn_wide (n:=0)).1 ?_;refine callsIn_of_wp_marks func265 rfl trivial ?_ rfl;simp only[ntmps265,List.size_toArray,List.length_cons,List.length_nil,Nat.reduceAdd,Nat.reduceSub,Array.replicate_succ,Array.replicate_zero,List.push_toArray,List.append_toArray,List.nil_append,List.cons_append]
 gi_wp2
 have HS:=aA hsz;clear hsz;have hbw0:aF w (((w.alloc (.cells #[.slice none 0 0] 24)).alloc (.cells #[.bool false] 4)).alloc (.cells #[.slice none 0 0] 24)):=aU (aU (aU (Below.refl _ _) _) _) _;have b1:=Boxed.new w 24 (.slice none 0 0);have b2:=Boxed.new (w.alloc (.cells #[.slice none 0 0] 24)) 4 (.bool false);have b3:=Boxed.new ((w.alloc (.cells #[.slice none 0 0] 24)).alloc (.cells #[.bool false] 4)) 24 (.slice none 0 0);simp only[World.size_alloc]at b2 b3;refine wU (gf:=gf) (lb:=lb) rfl eg hseq hbw0 aP (zI ps w b)
  (fun c W=>c=.ret/\gp [] ps=none/\Boxed W w.heap.size 24 (.slice none 0 0)/\Boxed W (w.heap.size+1) 4 (.bool false)/\Below b w W/\w.heap.size+1+1+1<=W.heap.size)
  (Zg ps w b _ hb aP) ?ixo ⟨[],⟨rfl,Nat.le_refl _⟩,⟨_,b3,World.ownsRow_nil _ _ _ _,trivial⟩,(b1.alloc _).alloc _,b2.alloc _,hbw0.mono hb,aH⟩
  (Zh ps w b ht) ht.others
  (fun x=>{ tmps:=#[.func (.func gf) #[] lb,undef,.pointer (some ⟨w.heap.size,0,none⟩),.pointer (some ⟨w.heap.size+1,0,none⟩),.pointer (some ⟨w.heap.size+1+1,0,none⟩),x,.func (.func gf) #[] lb,x,undef,undef,undef,undef,undef,undef,undef,undef,undef,undef,undef,undef,undef,undef,undef,undef,undef,undef,undef,undef,undef,undef,undef,undef],defers:=[] }) ?assign ?body ?done ?stop
 case ixo =>
  rintro c _ W W' row ⟨h0,h1,h2,h3,h4,h5⟩ hg hr;have hr':=fun r e=>(hr r e).2
  exact⟨h0,h1,boxed_own w.heap.size 24 (fun _:Unit=>.slice none 0 0) () W W' row h2 hg hr',boxed_own (w.heap.size+1) 4 (fun _:Unit=>.bool false) () W W' row h3 hg hr',h4.grown hg aB (fun r e=>by have:=(hr r e).1;simp at this;omega),Nat.le_trans h5 hg.size⟩
 case assign =>
  intro l x W K _ hK
  gi_wp2
  exact hK
 case body =>
  rintro l k x W hx ⟨out,⟨hr1,hr2⟩,⟨v,hv,hrow,_⟩,h3,h4,hbw,hsz6⟩;obtain⟨p,hp,rfl⟩:=pG hx;have hps:=HS.out p (List.mem_of_getElem? hp);have hkl:k<ps.length:=(List.getElem?_eq_some_iff.1 hp).1;have hd:ps.drop k=p :: ps.drop (k+1):=by
   exact AC
  rw[hd,gp]at hr1;clear hx hp hd b1 b2 b3 hbw0;obtain⟨A,c,rfl⟩:∃ A c,v=.slice A out.length c:=by
   exact zJ
  have c4:=hv.cell;have f4:=hv.frozen;have c2:=h3.cell;have f2:=h3.frozen;have c3:=h4.cell;have f3:=h4.frozen;have cW:=oW p W aB;have HR:=aA hr1;clear hr1;by_cases e1:(p.toList == [46])=true
  ·have hn:=HR.out;simp only[kT,e1,if_true,Option.bind_some]at hn;have HN:=aA hn;clear hn HR cW
   gi_wp2
   exact⟨KeepsFrom.refl _ _,iC.refl _ _ _,out,⟨HN.out,aB⟩,⟨_,hv,hrow,trivial⟩,h3,h4,hbw,hsz6⟩
  have e1':(p.toList == [46])=false:=by simpa using e1
  clear e1;by_cases e2:(p.toList == [46,46])=true
  ·rcases List.eq_nil_or_concat out with rfl | ⟨init,last,rfl⟩
   ·have hwf:bW p=false:=by simp[bW,beq_iff_eq.1 e2]
    have hn:gp [] ps=none:=by rw[HR.out];simp[kT,e1',e2,hwf]
    rw[hwf]at cW;have HW:=aA cW;clear cW hwf;simp only[List.length_nil]at c4 hv hrow
    gi_wp2_with (refine⟨trivial,rfl,?_⟩;gi_at_call 162;refine (CallsIn.inRound l (callsIn_wide.2 HW.out)).mono ?_;rintro e w2 ⟨rfl,hb2⟩;have c2':=aW hb2 c2;have f2':=dV hb2 (bu c2) f2;have c3':=aW hb2 c3;have f3':=dV hb2 (bu c3) f3)
    exact Oj
   ·rw[List.concat_eq_append] at *;have hn:=HR.out;have hs:kT (init++[last]) p=some init:=by simp[kT,e1',e2]
    rw[hs,Option.bind_some]at hn;have HN:=aA hn;clear hn hs HR cW;rw[List.length_append,List.length_singleton]at c4 hv hrow hr2;obtain⟨g,hA⟩:∃ g,A=some ⟨g,0,none⟩:=by
     rcases hrow.2 with ⟨h0,_⟩ | ⟨g,cap,cur,h0,_⟩
     ·cases h0
     ·exact⟨g,by injection h0⟩
    subst hA;have hcap:init.length+1<=c:=by
     rcases hrow.2 with ⟨h0,_⟩ | ⟨g,cap,cur,h0,_,_,hle,_⟩
     ·cases h0
     ·injection h0 with _ _ h0;omega
    have hpop:=ownsRow_pop (xs:=init.map Value.string) (last:=[.string last]) (n:=init.length) (size:=1) aH (by simpa using hrow);have hpos:(0:Int)<((init.length+1:Nat):Int):=aB;have hl9:init.length<=1000000000:=aB
    gi_wp2
    refine⟨(KeepsOthers.setCell _ _ _).from _,Below.keepsIn ((Below.refl (w.heap.size+1+1) W).setCell (p:=⟨w.heap.size+1+1,0,none⟩) (Nat.le_refl _) _) aB,init,⟨HN.out,aB⟩,⟨_,hv.set _,hpop.kept (grownBy_setCell' W _ _) (.inr (hv.not_row aK hpop).symm),trivial⟩,kG h3 aP _,kG h4 aH _,hbw.setCell (p:=⟨w.heap.size+1+1,0,none⟩) aP _,AU⟩
  have e2':(p.toList == [46,46])=false:=by simpa using e2
  clear e2;cases hw:bW p
  ·have hn:gp [] ps=none:=by rw[HR.out];simp[kT,e1',e2',hw]
   rw[hw]at cW;have HW:=aA cW;clear cW hw
   gi_wp2_with (refine⟨trivial,rfl,?_⟩;gi_at_call 162;refine (CallsIn.inRound l (callsIn_wide.2 HW.out)).mono ?_;rintro e w2 ⟨rfl,hb2⟩;have c2':=aW hb2 c2;have f2':=dV hb2 (bu c2) f2;have c3':=aW hb2 c3;have f3':=dV hb2 (bu c3) f3)
   exact Oj
  ·have hn:=HR.out;have hs:kT out p=some (out++[p]):=by simp[kT,e1',e2',hw]
   rw[hs,Option.bind_some]at hn;rw[hw]at cW;have HW:=aA cW;have HN:=aA hn;clear cW hw hn hs HR
   gi_wp2_with (first | (refine⟨trivial,rfl,?_⟩;gi_at_call 162;refine (CallsIn.inRound l (callsIn_wide.2 HW.out)).mono ?_;rintro e w2 ⟨rfl,hb2⟩;have c4':=aW hb2 c4;have hv2:=qy hv hb2;have hrow2:=fZ hrow hb2) | (gi_at_builtin;refine wpListIn_append_own _ rfl _ _ 24 rfl (w.heap.size+1+1) 9 i0 (.string ⟨#[]⟩) 1 16 underlying24 hi0 hz0 hz1 hz2 rfl aK _ _ _ rfl (hrow2.alloc _) ⟨w2.heap.size,0,none⟩ 1 1 [.string p] rfl rfl (cell_one_new _ _ _) jJ dh aB (by have:=hb2.size;simp;omega) ?_;intro v' w3 hown' hgrow _;obtain⟨g',cap',rfl⟩:=ownsRow_succ hown';obtain⟨hv1,hvs,hrs,hk2,hbs⟩:=hv2.appended aK hrow2 uh (Nat.le_refl _) hown' hgrow;have c5:=hv1.cell;have f5:=hv1.frozen))
   have hs2:=hb2.size;have hbs':Below (w.heap.size+1+1) W (w3.setCell ⟨w.heap.size+1+1,0,none⟩ (.slice (some ⟨g',0,none⟩) (out.length+1) cap')):=(hb2.mono aB).trans hbs;refine⟨((zH hb2).trans hk2).from _,Below.keepsIn hbs' aB,out++[p],⟨HN.out,aP⟩,⟨_,hvs,by simpa using hrs,trivial⟩,(hbs'.block _ aB).trans h3,(hbs'.block _ aB).trans h4,hbw.trans (hbs'.mono aB),by have:=hbs'.size;omega⟩
 case done =>
  rintro D W hD ⟨out,⟨hr1,hr2⟩,⟨v,hv,hrow,_⟩,h3,h4,hbw,hsz6⟩ hK;rw[List.length_map,List.drop_eq_nil_of_le (Nat.le_refl _),gp]at hr1;obtain⟨A,c,rfl⟩:∃ A c,v=.slice A out.length c:=by
   exact zJ
  have c4:=hv.cell;have c2:=h3.cell;have f2:=h3.frozen;have c3:=h4.cell;have f3:=h4.frozen
  gi_wp2
  have hk2:=((KeepsOthers.setCell W ⟨w.heap.size,0,none⟩ (.slice A out.length c)).trans (KeepsOthers.setCell _ ⟨w.heap.size+1,0,none⟩ (.bool true))).same D _ hK rfl;have hD':w.heap.size+1+1+1<=D:=by simpa using hD
  obtain⟨W2,hW2⟩:∃ W2,W2=(W.setCell ⟨w.heap.size,0,none⟩ (.slice A out.length c)).setCell ⟨w.heap.size+1,0,none⟩ (.bool true):=⟨_,rfl⟩;have x3:Boxed W2 w.heap.size 24 (.slice A out.length c):=hW2▸kG (h3.set _) aH _;have x4:Boxed W2 (w.heap.size+1) 4 (.bool true):=hW2▸(kG h4 aH _).set _;have hb2:Below b w W2:=hW2▸(hbw.setCell (p:=⟨w.heap.size,0,none⟩) hb _).setCell (p:=⟨w.heap.size+1,0,none⟩) aP _;have hr2':W2.ownsRow (w.heap.size+1+1) 9 1 (.slice A out.length c) out.length (out.map .string):=by
   rw[hW2];refine rX hrow (fun j hj=>?_);rw[Below.heap_setCell _ _ _ _ aP,Below.heap_setCell _ _ _ _ aP]
  rw[<-hW2]at hk2 ⊢;clear hW2 h3 h4 hbw hrow c2 c3 c4 f2 f3 hv;refine⟨aH,.inl ⟨_,_,rfl,run_takeDeferred hk2,?_⟩⟩;have hne:∀(B:Nat)(t:TypeId)(v:Value),Boxed W2 B t v->B<D->(W2.putObj D (.deferred none)).cell? ⟨B,0,none⟩=some v:=fun B t v hv hlt=>Boxed.cell (t:=t) ((World.putObj_heap_other aB).trans hv)
  have y3:=hne _ _ _ x3 aB;have y4:=hne _ _ _ x4 aB;refine⟨.tuple #[.slice A out.length c,.bool true],by simp[results,results265,go_sem,y3,y4],?_,?_⟩
  ·exact hb2.grown (grownBy_putObj' W2 D _) uh (fun r e=>mZ)
  ·rw[hr1];exact⟨A,c,rfl,aI.of_own (ownsRow_putObj hr2' _ hk2 rfl),fun a ha=>Nat.le_trans aB (fE hr2' a.block DY),Bh hr2'⟩
 case stop =>
  rintro D c W hD ⟨rfl,hr1,h3,h4,hbw,hsz6⟩ hK;have hD':w.heap.size+1+1+1<=D:=by simpa using hD
  gi_wp2
  refine⟨aH,.inl ⟨_,_,rfl,run_takeDeferred hK,?_⟩⟩;have hne:∀(B:Nat)(t:TypeId)(v:Value),Boxed W B t v->B<D->(W.putObj D (.deferred none)).cell? ⟨B,0,none⟩=some v:=fun B t v hv hlt=>Boxed.cell (t:=t) ((World.putObj_heap_other aB).trans hv)
  have y3:=hne _ _ _ h3 aB;have y4:=hne _ _ _ h4 aB;refine⟨.tuple #[.slice none 0 0,.bool false],by simp[results,results265,go_sem,y3,y4],?_,?_⟩
  ·exact hbw.grown (grownBy_putObj' W D _) yx (fun r e=>mZ)
  ·rw[hr1]
attribute [local go_sem] Oper.semAt_some
theorem Qx(A:Option Addr)(n c:Nat)(w:World):Calls prog 97 #[.slice A n c] w fun e w' =>
  e=.returned (.func (.func 166) #[] #[.pointer (some ⟨w.heap.size,0,none⟩)])/\w'=w.alloc (.cells #[.slice A n c] 24):=by
 go_enter func97,ntmps97;go_wp2;go_ret;exact⟨rfl,rfl⟩
theorem aI.keepsIn{w w':World}{size n hI0:Nat}{A:Option Addr}{vs:List Value}(h:aI w size A n vs)(hk:iC 0 hI0 w w')(hA:∀ a,A=some a->0<n->a.block<hI0):aI w' size A n vs:=by
 refine⟨h.1,fun h0=>?_⟩;obtain⟨b,o,rfl,hc⟩:=h.2 h0;exact⟨b,o,rfl,fun j u hu=>(World.cell?_of_block (hk b (Nat.zero_le _) (hA _ rfl h0))).trans (hc j u hu)⟩
theorem Qw(B n c:Nat)(A:Option Addr)(ps:List aC)(w:World)(hB:w.cell? ⟨B,0,none⟩=some (.slice A n c))(hR:aI w 1 A n (ps.map .string))(hn:n<=1000000000) :
  oL prog 166 #[.pointer (some ⟨B,0,none⟩)] (ps.map .string) (fun _ _=>False) 0 w.heap.size w:=by
 intro l J Jx W hW _ hJT hY hJ0;have hBl:=bu hB;have hlen:ps.length=n:=zY;have g0:=aW hW hB;have hR0:=hR.keep hW;have hA:∀ a,A=some a->0<n->a.block<w.heap.size:=by
  intro a ha h0;obtain⟨b,o,rfl,hc⟩:=hR.2 h0;injection ha with ha;subst ha
  have h1:0<(ps.map Value.string).length:=aP;have:=hc 0 _ (List.getElem?_eq_getElem h1);exact bu (a:=⟨b,o+0,none⟩) this
 have HY:=aA hY;have HA:=aA hA;have HL:=aA hlen;have HBL:Hid (B<w.heap.size):=aA hBl;clear hY hA hlen hBl hR hB hJT;refine callsIn_of_wp func166 rfl trivial ?_ rfl;simp only[ntmps166,List.size_toArray,List.length_cons,List.length_nil,Nat.reduceAdd,Nat.reduceSub,Array.replicate_succ,Array.replicate_zero,List.push_toArray,List.append_toArray,List.nil_append,List.cons_append]
 gi_wp2
 gi_loopw [7] (fun vi wr=>∃ k:Nat,(vi=.int .i64 k/\k<=n)/\wr.cell? ⟨B,0,none⟩=some (.slice A n c)/\aI wr 1 A n (ps.map .string)/\J k wr) (fun vi _=>n-(intOf vi).toNat)
 case atStart=>exact⟨0,⟨rfl,Nat.zero_le _⟩,g0,hR0,hJ0⟩
 case round =>
  clear g0 hR0 hJ0;obtain⟨k,⟨rfl,hk⟩,g0,hR,hJ⟩:=hrel;by_cases hlt:k<n
  ·obtain⟨pb,po,u,rfl,hu,hcell⟩:=hR.at_ hlt;obtain⟨x,hx,rfl⟩:=pG hu;obtain⟨fn,tmps,assign,body,hy,hRd⟩:=HY.out k _ wr hu hJ;clear hu hx
   gi_wp2
   refine⟨rfl,hRd.mono ?_⟩;rintro e W' (⟨rfl,hJ',hk'⟩ | ⟨rfl,hJx'⟩)
   ·have g0':W'.cell? ⟨B,0,none⟩=some (.slice (some ⟨pb,po,none⟩) n c):=(World.cell?_of_block (hk' B (Nat.zero_le _) HBL.out)).trans g0;have hR':=hR.keepsIn hk' HA.out;clear g0 hR
    gi_wp2
    exact⟨⟨k+1,⟨bg,aB⟩,g0',hR',hJ'⟩,dD⟩
   ·gi_wp2
    exact uw
  ·obtain rfl:k=n:=aB
   gi_wp2
   go_end0;exact⟨⟨_,rfl⟩,.inl (by rw[List.length_map,HL.out];exact hJ)⟩
def Ol(ps:List aC)(w:World)(k:Nat)(W:World):Prop :=
 (∃ v,Boxed W w.heap.size 24 v/\W.ownsRow w.heap.size 9 1 v (ps.take k).length ((ps.take k).map .string)/\True)/\aF w W/\w.heap.size+1<=W.heap.size
theorem Zi(ps:List aC)(w:World)(B:Nat)(hB:w.heap.size<=B):OwnFrom B (Ol ps w):=by
 rintro k W W' row ⟨h2,h5,h6⟩ hg hr;have hr':=fun r e=>(hr r e).2
 exact⟨holdsRow_own w.heap.size w.heap.size 24 9 1 (fun o:List aC=>o.length) (fun o=>o.map .string) (fun _ _=>True) (ps.take k) W W' row h2 hg hr',h5.grown hg aB (fun r e=>vY),Nat.le_trans h6 hg.size⟩
theorem Qp(gf:Nat)(lb:Array Value)(eg:∀ args w,(callFunc gf args).run prog w=.ok (.enter gf args) w)(ps:List aC)(w:World)
  (lo hi:Nat) (hhi:hi<=w.heap.size) (hseq:oL prog gf lb (ps.map .string) (fun _ _=>False) lo hi w) (hlen:ps.length<=1000000000) :
  Calls prog 222 #[.slice none 0 0,.func (.func gf) #[] lb] w fun e w'=>∃ v,e=.returned v/\w'.ownsRow w.heap.size 9 1 v ps.length (ps.map .string)/\aF w w':=by
 obtain⟨i0,hi0,hz0,hz1,hz2⟩:=info_parts rY;refine (callsIn_wide (n:=0)).1 ?_;refine callsIn_of_wp_marks func222 rfl trivial ?_ rfl;simp only[ntmps222,List.size_toArray,List.length_cons,List.length_nil,Nat.reduceAdd,Nat.reduceSub,Array.replicate_succ,Array.replicate_zero,List.push_toArray,List.append_toArray,List.nil_append,List.cons_append]
 gi_wp2
 have hbw0:aF w (w.alloc (.cells #[.slice none 0 0] 24)):=aU (Below.refl _ _) _;have b3:=Boxed.new w 24 (.slice none 0 0);refine wU (gf:=gf) (lb:=lb) rfl eg hseq hbw0 aP (Ol ps w) (fun _ _=>False) (Zi ps w _ aH) (fun c=>fun _ _ _ _ h=>h.elim) ⟨⟨_,b3,World.ownsRow_nil _ _ _ _,trivial⟩,hbw0,aH⟩
  (fun _ _ _ _ h=>h.elim) (fun _ _ h=>h.elim)
  (fun x=>{ tmps:=#[.slice none 0 0,.func (.func gf) #[] lb,.pointer (some ⟨w.heap.size,0,none⟩),undef,.slice none 0 0,x,.func (.func gf) #[] lb,x,undef,undef,undef,undef,undef],defers:=[] }) ?assign ?body ?done ?stop
 case assign =>
  intro l x W K _ hK
  gi_wp2
  exact hK
 case body =>
  rintro l k x W hx ⟨⟨v,hv,hrow,_⟩,hbw,hsz6⟩;obtain⟨p,hp,rfl⟩:=pG hx;have hkl:k<ps.length:=(List.getElem?_eq_some_iff.1 hp).1;have htk:ps.take (k+1)=ps.take k++[p]:=by rw[List.take_add_one,hp];rfl
  have hlk:(ps.take k).length=k:=by rw[List.length_take];omega
  rw[hlk]at hrow;have HT:=aA htk;have HK:=aA hlk;clear hx hp htk hlk b3 hbw0;obtain⟨A,c,rfl⟩:∃ A c,v=.slice A k c:=by
   exact zJ
  have c4:=hv.cell;have f4:=hv.frozen
  gi_wp2_with (gi_at_builtin;refine wpListIn_append_own _ rfl _ _ 24 rfl w.heap.size 9 i0 (.string ⟨#[]⟩) 1 16 underlying24 hi0 hz0 hz1 hz2 rfl aK _ _ _ rfl (hrow.alloc _) ⟨W.heap.size,0,none⟩ 1 1 [.string p] rfl rfl (cell_one_new _ _ _) jJ dh aB aP ?_;intro v' w3 hown' hgrow _;obtain⟨g',cap',rfl⟩:=ownsRow_succ hown';obtain⟨hv1,hvs,hrs,hk2,hbs⟩:=hv.appended aK hrow aB (Nat.le_refl _) hown' hgrow;have c5:=hv1.cell;have f5:=hv1.frozen)
  refine⟨hk2.from _,Below.keepsIn hbs aB,⟨_,hvs,?_,trivial⟩,hbw.trans hbs,by have:=hbs.size;omega⟩;rw[HT.out,List.length_append,HK.out,List.map_append];exact hrs
 case done =>
  rintro D W hD ⟨⟨v,hv,hrow,_⟩,hbw,hsz6⟩ hK;rw[List.length_map,List.take_length]at hrow;have c4:=hv.cell
  gi_wp2
  refine⟨aH,.inl ⟨_,_,rfl,run_takeDeferred hK,?_⟩⟩;have hD':w.heap.size+1<=D:=by simpa using hD
  refine⟨v,by simp[results,results222,go_sem],?_⟩;exact⟨v,rfl,ownsRow_putObj hrow _ hK rfl,hbw.grown (grownBy_putObj' W D _) yx (fun r e=>mZ)⟩
 case stop =>
  rintro D c W hD hf _;exact hf.elim
def eQ(sep:UInt8):List (List UInt8 × List UInt8)->List UInt8
 | []=>[]
 | (k,v) :: r=>sep :: (k++61 :: v)++eQ 38 r
def dF(xs:List (List UInt8)):List UInt8:=xs.flatMap fun p=>47 :: p
def kU(c:List UInt8)(xs:List (List UInt8))(qs:List (List UInt8 × List UInt8)):List UInt8:=c++dF xs++eQ 63 qs
def eY(qs:List (aC × aC)):List Value:=qs.flatMap fun q=>[.string q.1,.string q.2]
def az(xs:List aC):List (List UInt8):=xs.map (·.data.toList)
def fO(qs:List (aC × aC)):List (List UInt8 × List UInt8):=qs.map fun q=>(q.1.data.toList,q.2.data.toList)
def W06(c:aC)(xs:List aC)(qs:List (aC × aC)):List UInt8:=kU c.data.toList (az xs) (fO qs)
theorem Om{T e:TypeId}{B b:Nat}{p:Value}{bs:List Value}{w:World}(h:Lib.BuilderAt T e B b p bs w)(o:Obj):Lib.BuilderAt T e B b p bs (w.alloc o):=by
 have hl:=h.lt;obtain⟨hB,v,hb,hown,hne⟩:=h;exact⟨hB,v,(Below.heap_alloc w o b hl).trans hb,hown.alloc o,hne⟩
theorem Zj{T e:TypeId}{B b:Nat}{bs:List Value}{w:World}(h:Lib.IsBuilder T e B b bs w)(o:Obj):Lib.IsBuilder T e B b bs (w.alloc o):=h.imp (Om · o) (Om · o)
theorem Zk(s:aC):Lib.strCells s=Lib.byteCells s.data.toList:=rfl
theorem Oo(a b:List UInt8):Lib.byteCells (a++b)=Lib.byteCells a++Lib.byteCells b:=by simp[Lib.byteCells]
def kz(c:aC)(xs:List aC)(k:Nat):List UInt8:=c.data.toList++dF ((az xs).take k)
theorem Oq(c:aC)(xs:List aC)(k:Nat)(x:aC)(h:xs[k]? = some x):kz c xs (k+1)=kz c xs k++(47 :: x.data.toList):=by
 have:(az xs)[k]? = some x.data.toList:=by simp[az,h]
 unfold kz dF;rw[List.take_add_one,this];simp
theorem Zl(c:aC)(xs:List aC)(qs:List (aC × aC))(k:Nat):(kz c xs k).length<=(W06 c xs qs).length:=by
 have h:dF (az xs)=dF ((az xs).take k)++dF ((az xs).drop k):=by
  rw[dF,dF,dF,<-List.flatMap_append,List.take_append_drop]
 unfold kz W06 kU;rw[h];simp
def oC(k:Nat):aC:=if k=0 then ⟨#[63]⟩ else ⟨#[38]⟩
def lY(c:aC)(xs:List aC)(qs:List (aC × aC))(k:Nat):List UInt8:=c.data.toList++dF (az xs)++eQ 63 ((fO qs).take k)
theorem Ot(k v:List UInt8):∀(sep:UInt8)(l:List (List UInt8 × List UInt8)),eQ sep (l++[(k,v)])=eQ sep l++((if l=[] then sep else 38) :: (k++61 :: v))
 | sep,[]=>by simp[eQ]
 | sep,(a,b) :: l=>by
  rw[List.cons_append,eQ,eQ,Ot k v 38 l];simp
theorem Ou:∀(sep:UInt8)(l m:List (List UInt8 × List UInt8)),(eQ sep l).length<=(eQ sep (l++m)).length
 | sep,[],m=>by simp[eQ]
 | sep,(a,b) :: l,m=>by
  have:=Ou 38 l m;simp[eQ];omega
theorem Ov(c:aC)(xs:List aC)(qs:List (aC × aC))(k:Nat)(q:aC × aC)(h:qs[k]? = some q) :
  lY c xs qs (k+1)=lY c xs qs k++((oC k).data.toList++q.1.data.toList++[61]++q.2.data.toList):=by
 have h':(fO qs)[k]? = some (q.1.data.toList,q.2.data.toList):=by simp[fO,h]
 have hl:k<(fO qs).length:=(List.getElem?_eq_some_iff.1 h').1;unfold lY;rw[List.take_add_one,h',Option.toList_some,Ot];by_cases hk:k=0
 ·subst hk;simp[oC,eQ]
 ·have hne:(fO qs).take k ≠ []:=by
   intro e;have:=congrArg List.length e;rw[List.length_take,Nat.min_eq_left aB]at this;exact hk wX
  simp[oC,hk,hne]
theorem Zm(c:aC)(xs:List aC)(qs:List (aC × aC))(k:Nat):(lY c xs qs k).length<=(W06 c xs qs).length:=by
 have:=Ou 63 ((fO qs).take k) ((fO qs).drop k);rw[List.take_append_drop]at this;simp[lY,W06,kU];omega
theorem Du(qs:List (aC × aC)):∀(k:Nat)(q:aC × aC),qs[k]? = some q->(eY qs)[k*2]? = some (.string q.1)/\(eY qs)[k*2+1]? = some (.string q.2):=by
 induction qs with
 | nil=>intro k q h;simp at h
 | cons a r ih =>
  intro k q h;cases k with
  | zero=>simp at h;subst h;simp[eY]
  | succ k =>
   have:=ih k q nD;rw[show (k+1)*2=k*2+1+1 by omega];simpa[eY] using this
theorem Ox(qs:List (aC × aC)):(eY qs).length=qs.length*2:=by induction qs <;> simp_all [eY];omega
theorem Zn(c:aC)(xs:List aC)(qs:List (aC × aC))(n:Nat)(h:xs.length<=n):kz c xs n=lY c xs qs 0:=by
 simp[kz,lY,eQ,List.take_of_length_le (show (az xs).length<=n by simpa[az] using h)]
theorem Zo(c:aC)(xs:List aC)(qs:List (aC × aC))(n:Nat)(h:qs.length<=n):lY c xs qs n=W06 c xs qs:=by
 simp[lY,W06,kU,List.take_of_length_le (show (fO qs).length<=n by simpa[fO] using h)]
theorem Dv{w wr:World}{x y z:Value}{t:TypeId}{o:Obj}(h:Below (w.heap.size+1) ((w.alloc (.cells #[x,y,z] t)).alloc o) wr) :
  wr.cell? ⟨w.heap.size,0,none⟩=some x/\wr.cell? ⟨w.heap.size,1,none⟩=some y/\wr.cell? ⟨w.heap.size,2,none⟩=some z/\aF w wr:=by
 have hb:aF w wr:=(aU (aU (Below.refl _ w) _) _).trans (h.mono aB);refine⟨?_,?_,?_,hb⟩ <;> (rw[h.cell aH];simp[go_sem])
theorem Dw:∀ l:List (List UInt8),l.length<=(dF l).length
 | []=>by simp[dF]
 | a :: l=>by have:=Dw l;simp only[dF,List.flatMap_cons,List.length_cons,List.length_append]at this ⊢;omega
theorem Oy:∀(sep:UInt8)(l:List (List UInt8 × List UInt8)),l.length<=(eQ sep l).length
 | sep,[]=>by simp[eQ]
 | sep,(a,b) :: l=>by have:=Oy 38 l;simp only[eQ,List.length_cons,List.length_append]at this ⊢;omega
theorem Zp(x:aC):Lib.strCells (⟨#[47]⟩++x)=Lib.byteCells (47 :: x.data.toList):=by simp[Lib.strCells,Lib.byteCells]
theorem Zq(s k v:aC):Lib.strCells (s++k++⟨#[61]⟩++v)=Lib.byteCells (s.data.toList++k.data.toList++[61]++v.data.toList):=by simp[Lib.strCells,Lib.byteCells]
theorem FU(c:aC)(P Q:Option Addr)(np cp nq cq:Nat)(xs:List aC)(qs:List (aC × aC))(w:World)
  (hP:aI w 1 P np (xs.map .string)) (hQ:aI w 2 Q nq (eY qs)) (htot:(W06 c xs qs).length<=1000000000) :
  Calls prog 207 #[.agg #[.string c,.slice P np cp,.slice Q nq cq]] w (Ret w (.string ⟨(W06 c xs qs).toArray⟩)):=by
 have hnp:np<=xs.length/\xs.length<=np:=by have:=hP.1;simp at this;omega
 have hnq:nq<=qs.length/\qs.length<=nq:=by have:=hQ.1;rw[Ox]at this;omega
 have hlens:c.size<=1000000000/\np<=1000000000/\nq<=1000000000:=by
  have h1:=Dw (az xs);have h2:=Oy 63 (fO qs);simp only[az,fO,List.length_map]at h1 h2;simp only[W06,kU,az,fO,List.length_append]at htot;rw[Lib.size_eq];omega
 obtain⟨hc0,hnp9,hnq9⟩:=hlens;have hB0:=Lib.fresh_isBuilder 174 5 (w.alloc (.cells #[.string c,.slice P np cp,.slice Q nq cq] 200));simp only[World.size_alloc]at hB0;have HP:=aA hP;have HQ:=aA hQ;have HT:=aA htot;clear hP hQ htot;go_enter func207,ntmps207;go_wp2_with fail;refine (BR (w.heap.size+1) (w.heap.size+1) [] c _ hB0 aP aH).mono ?_;rintro e w1 ⟨rfl,hB1,hb1⟩;clear hB0;obtain⟨a0,a1,a2,hbw⟩:=Dv hb1;have hB1':Lib.IsBuilder 174 5 (w.heap.size+1) (w.heap.size+1) (Lib.byteCells (kz c xs 0)) w1:=by
  have:Lib.byteCells (kz c xs 0)=[]++Lib.strCells c:=by simp[kz,dF,Zk]
  rw[this];exact .inr hB1
 clear hB1;obtain⟨W0,hW0⟩:∃ W0,W0=((w.alloc (.cells #[.string c,.slice P np cp,.slice Q nq cq] 200)).alloc (.cells #[.pointer none,.slice none 0 0] 174)):=⟨_,rfl⟩;rw[<-hW0]at hb1;have HW0:=aA hW0;clear hW0 hbw;go_wp2_with fail;go_loopw [15] (fun i wr=>∃ k:Nat,k<=np/\i=.int .i64 k/\Lib.IsBuilder 174 5 (w.heap.size+1) (w.heap.size+1) (Lib.byteCells (kz c xs k)) wr/\Below (w.heap.size+1) W0 wr) (fun i _=>np-(intOf i).toNat)
 case atStart=>exact⟨0,Nat.zero_le _,rfl,hB1',hb1⟩
 case round =>
  clear a0 a1 a2 hb1 hB1' w1;obtain⟨k,hk,rfl,hB,hb⟩:=hrel;have hb':=hb;rw[HW0.out]at hb';obtain⟨a0,a1,a2,hbw⟩:=Dv hb';clear hb';by_cases hlt:k<np
  ·have hPr:=HP.out.keep hbw;obtain⟨pb,po,u,rfl,hu,hcell⟩:=hPr.at_ hlt;clear hPr;obtain⟨x,hx,rfl⟩:∃ x,xs[k]? = some x/\u=.string x:=pG hu;clear hu;have hsz:=Zl c xs qs (k+1);rw[Oq c xs k x hx]at hsz;have hT:=HT.out;simp only[List.length_append,List.length_cons,<-Lib.size_eq]at hsz;have hxs:x.size<=1000000000:=aB;have hlen:(Lib.byteCells (kz c xs k)).length+(⟨#[47]⟩++x:aC).size<=140737488355328:=by rw[Lib.byteCells_length,ByteArray.size_append,show (⟨#[47]⟩:aC).size=1 from rfl];omega
   clear hT hsz;have HX:=aA hx;clear hx;go_wp2_with fail;refine (BR (w.heap.size+1) (w.heap.size+1) _ _ _ hB hlen Dx).mono ?_;rintro e w2 ⟨rfl,hB2,hb2⟩;go_wp2_with fail;refine⟨⟨k+1,aB,bg,?_,hb.trans hb2⟩,dD⟩;rw[Oq c xs k x HX.out,Oo,<-Zp];exact .inr hB2
  ·obtain rfl:k=np:=aB;rw[Zn c xs qs k hnp.2]at hB;clear hlt;go_wp2_with fail;clear a0 a1 a2 hbw;go_loopw [6,26] (fun s i wr=>∃ k:Nat,k<=nq/\i=.int .i64 k/\s=.string (oC k)/\Lib.IsBuilder 174 5 (w.heap.size+1) (w.heap.size+1) (Lib.byteCells (lY c xs qs k)) wr/\Below (w.heap.size+1) W0 wr) (fun _ i _=>nq-(intOf i).toNat)
   case atStart=>exact⟨0,Nat.zero_le _,rfl,rfl,hB,hb⟩
   case round =>
    clear hB hb;obtain⟨k2,hk2,rfl,rfl,hB,hb⟩:=hrel;have hb':=hb;rw[HW0.out]at hb';obtain⟨a0,a1,a2,hbw⟩:=Dv hb';clear hb';by_cases hlt:k2<nq
    ·have hQr:=HQ.out.keep hbw;obtain⟨pb,po,rfl,hcell⟩:=hQr.2 aB;clear hQr;have hql:k2<qs.length:=aB;obtain⟨q,hq⟩:∃ q,qs[k2]? = some q:=⟨_,List.getElem?_eq_getElem hql⟩;obtain⟨e1,e2⟩:=Du qs k2 q hq;have hc1:wr.cell? ⟨pb,po+k2*2,none⟩=_:=hcell _ _ e1;have hc2:wr.cell? ⟨pb,po+k2*2+1,none⟩=_:=hcell _ _ e2;clear hcell e1 e2;have hsz:=Zm c xs qs (k2+1);rw[Ov c xs qs k2 q hq]at hsz;have hT:=HT.out;have hs1:(oC k2).size=1:=by unfold oC;split <;> rfl
     simp only[List.length_append,<-Lib.size_eq]at hsz;have hlen:(Lib.byteCells (lY c xs qs k2)).length+((oC k2)++q.1++⟨#[61]⟩++q.2:aC).size<=140737488355328:=by
      simp only[Lib.byteCells_length,ByteArray.size_append,show (⟨#[61]⟩:aC).size=1 from rfl];omega
     have hq1:q.1.size<=1000000000/\q.2.size<=1000000000:=aB;have hs2:(oC k2).size<=1:=aB;clear hT hsz hs1;have HX:=aA hq;clear hq;obtain⟨q1,q2⟩:=q;dsimp only at hc1 hc2 hlen hq1 HX;obtain⟨hq1,hq2⟩:=hq1;go_wp2_with fail;refine (BR (w.heap.size+1) (w.heap.size+1) _ _ _ (Zj hB _) hlen (by have:=hb.size;rw[HW0.out]at this;simp at this;simp;omega)).mono ?_;rintro e w2 ⟨rfl,hB2,hb2⟩;go_wp2_with fail;refine⟨⟨k2+1,aB,bg,by simp[oC],?_,(hb.alloc Dx _).trans hb2⟩,dD⟩;rw[Ov c xs qs k2 _ HX.out,Oo,<-Zq];exact .inr hB2
    ·obtain rfl:k2=nq:=aB;rw[Zo c xs qs k2 hnq.2]at hB;go_wp2_with fail;refine (Builder_String_any (w.heap.size+1) (w.heap.size+1) (W06 c xs qs) _ hB Dx).mono ?_;rintro e w2 ⟨rfl,hb2⟩;go_wp2_with fail;go_ret;exact⟨rfl,hbw.trans (hb2.mono aB)⟩
def w32(l:List Nat):List Value:=l.map fun x:Nat=>Value.int .u32 (x:Int)
theorem uU(l:List Nat):(w32 l).length=l.length:=by simp[w32]
def aN(w:World)(g:Nat)(t:TypeId)(cs:List Value):Prop:=w.heap[g]? = some (.cells cs.toArray t (0,0))
section
variable {w w':World} {g:Nat} {t:TypeId} {cs:List Value}
theorem aN.lt(h:aN w g t cs):g<w.heap.size:=by
 rcases Nat.lt_or_ge g w.heap.size with hlt | hge
 ·exact hlt
 ·unfold aN at h;rw[Array.getElem?_eq_none hge]at h;cases h
theorem aN.cell(h:aN w g t cs){k:Nat}{v:Value}(hk:cs[k]? = some v):w.cell? ⟨g,k,none⟩=some v:=by
 rw[cell_of_row w g k _ t _ h];simpa using hk
theorem aN.free(h:aN w g t cs)(k:Nat):w.frozen? ⟨g,k,none⟩=false:=frozen_of_row w g k _ t h
theorem aN.keep(h:aN w g t cs)(hb:aF w w'):aN w' g t cs:=(hb.block g h.lt).trans h
theorem aN.set_(h:aN w g t cs)(k:Nat)(v:Value):aN (w.setCell ⟨g,k,none⟩ v) g t (cs.set k v):=by
 have:=heap_setCell_same w g k cs.toArray t v h;unfold aN;rw[this];simp
theorem aN.far(h:aN w g t cs)(p:Addr)(u:Value)(hp:g≠p.block):aN (w.setCell p u) g t cs:=(heap_setCell_other w p g u hp).trans h
theorem aN.row(h:aN w g t cs)(ds:List Value):aN (w.setRow g ds.toArray) g t ds:=setRow_heap w g _ _ t _ h
theorem aN.row_far(h:aN w g t cs)(k:Nat)(ds:Array Value)(hk:g≠k):aN (w.setRow k ds) g t cs:=(setRow_other w k g ds hk).trans h
theorem aN.drew(h:aN w g t cs):aN w.drew g t cs:=h
theorem aN.alloc(h:aN w g t cs)(o:Obj):aN (w.alloc o) g t cs:=(heap_alloc_old w o h.lt).trans h
theorem aN.new(w:World)(t:TypeId)(cs:List Value):aN (w.alloc (.cells cs.toArray t)) w.heap.size t cs:=heap_alloc_new w _
end
def au(w:World)(g:Nat)(t:TypeId)(L:List Nat):Prop:=aN w g t (w32 L)
section
variable {w w':World} {g:Nat} {t:TypeId} {L:List Nat}
theorem wu(L:List Nat){k:Nat}(hk:k<L.length):(w32 L)[k]? = some (.int .u32 ((L.getD k 0:Nat):Int)):=by
 simp[w32,List.getD_eq_getElem?_getD,List.getElem?_eq_getElem hk]
theorem Zr(L:List Nat)(k v:Nat):w32 (L.set k v)=(w32 L).set k (.int .u32 (v:Int)):=by simp[w32,List.map_set]
theorem au.cell(h:au w g t L){k:Nat}(hk:k<L.length):w.cell? ⟨g,k,none⟩=some (.int .u32 ((L.getD k 0:Nat):Int)):=aN.cell h (wu L hk)
theorem au.free(h:au w g t L)(k:Nat):w.frozen? ⟨g,k,none⟩=false:=aN.free h k
theorem au.keep(h:au w g t L)(hb:aF w w'):au w' g t L:=aN.keep h hb
theorem au.lt(h:au w g t L):g<w.heap.size:=aN.lt h
theorem au.set_(h:au w g t L)(k v:Nat):au (w.setCell ⟨g,k,none⟩ (.int .u32 (v:Int))) g t (L.set k v):=by
 unfold au;rw[Zr];exact aN.set_ h k _
theorem au.far(h:au w g t L)(p:Addr)(u:Value)(hp:g≠p.block):au (w.setCell p u) g t L:=aN.far h p u hp
theorem au.drew(h:au w g t L):au w.drew g t L:=h
end
theorem uV(L:List Nat):∀ v∈w32 L,v.oneCell'=true:=by
 intro v hv;obtain⟨_,_,rfl⟩:=List.mem_map.1 hv;rfl
end Go.Proofs.YtlkbkclnbppigaaGreatDoor
